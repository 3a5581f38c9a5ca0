/- Part 7 of the proof of FnNearOut: what the program's functions and the reference's compute. -/
import Derived.Test.YtickdcegnlldjaaCPNOf
set_option linter.unusedSimpArgs false
set_option linter.unusedVariables false
namespace Go.Proofs.Ytickdcegnlldjaa.Hd
open Go.RowKit Go.PW.PrintWords Go.PW.PrintLast Go.PW.PrintMore Go.Proofs.Ytickdcegnlldjaa.PB Go.Proofs.Ytickdcegnlldjaa.SM
theorem xor_nonneg {a b : Int} (ha : 0 ≤ a) (hb : 0 ≤ b) (ha' : a < 1099511627776) (hb' : b < 1099511627776) : 0 ≤ Go.bits .xor .i64 a b := by
 obtain ⟨x, rfl⟩ := Int.eq_ofNat_of_zero_le ha
 obtain ⟨y, rfl⟩ := Int.eq_ofNat_of_zero_le hb
 have hx : x < 2 ^ 40 := by omega
 have hy : y < 2 ^ 40 := by omega
 have h := Nat.xor_lt_two_pow hx hy
 simp only [Go.bits, BitVec.ofInt_natCast, BitVec.toNat_xor, BitVec.toNat_ofNat]
 rw [Nat.mod_eq_of_lt (show x < 2 ^ IntKind.i64.bits by show x < 2 ^ 64; omega), Nat.mod_eq_of_lt (show y < 2 ^ IntKind.i64.bits by show y < 2 ^ 64; omega), IntKind.wrap_i64]
 omega
theorem tmod_in {x n : Int} (hx : 0 ≤ x) (hn : 1 ≤ n) : 0 ≤ Int.tmod x n ∧ Int.tmod x n < n := ⟨Int.tmod_nonneg _ hx, Int.tmod_lt_of_pos _ (by omega)⟩
structure RdB (b : List Int) : Prop where
 len : b.length ≤ 2000
 val : ∀ x ∈ b, 0 ≤ x ∧ x ≤ 255
theorem RdB.byte {b : List Int} (h : RdB b) (i : Int) : 0 ≤ rd b i ∧ rd b i ≤ 255 := by
 unfold rd
 rw [List.getD_eq_getElem?_getD]
 cases e : b[i.toNat]? with
 | none => simp
 | some x => exact h.val x (List.mem_of_getElem? e)
theorem pick_j0_true (b : List Int) (q n : Int) : Evs (fun k => spec_l6Rd_pick.j0 k n true b q) (0, q) := by
 refine Evs.step (h := fun _ => some (0, q)) (fun k => ?_) (Evs.const _)
 show spec_l6Rd_pick.j0 (k + 1) n true b q = _
 simp only [spec_l6Rd_pick.j0, if_true]
theorem pick_ev (b : List Int) (h : RdB b) (q : Nat) (hq : q ≤ 1000000) (n : Int) : ∃ v, Evs (fun k => spec_l6Rd_pick.f k b (q : Int) n) (v, ((q + 1 : Nat) : Int)) ∧ 0 ≤ v ∧ (1 ≤ n → v < n) ∧ (n < 1 → v = 0) := by
 have hw : wrap64 ((q : Int) + 1) = ((q + 1 : Nat) : Int) := by rw [zaq (by omega) (by omega)]; omega
 by_cases hn : n < 1
 ·refine ⟨0, ?_, Int.le_refl _, fun h => by omega, fun _ => rfl⟩
  refine Evs.congr (fun k => ?_) (pick_j0_true b ((q + 1 : Nat) : Int) n)
  unfold spec_l6Rd_pick.f
  rw [if_pos hn, hw]
 ·by_cases hl : b.length = 0
  ·refine ⟨0, ?_, Int.le_refl _, fun h => by omega, fun h => absurd h hn⟩
   refine Evs.congr (fun k => ?_) (pick_j0_true b ((q + 1 : Nat) : Int) n)
   unfold spec_l6Rd_pick.f
   rw [if_neg hn, hw, show ((b.length : Int) == 0) = true by rw [beq_iff_eq]; omega]
  ·have hlen := h.len
   have e1 : wrap64 (((q + 1 : Nat) : Int) - 1) = (q : Int) := by rw [zaq (by omega) (by omega)]; omega
   have main : ∃ v, (∀ k, spec_l6Rd_pick.j0 (k + 1) n false b ((q + 1 : Nat) : Int) = some (v, ((q + 1 : Nat) : Int))) ∧ 0 ≤ v ∧ v < n := by
    by_cases hql : (q : Int) < (b.length : Int)
    ·have hr := h.byte (q : Int)
     obtain ⟨t0, t1⟩ := tmod_in (x := rd b (q : Int)) (n := n) hr.1 (by omega)
     refine ⟨Int.tmod (rd b (q : Int)) n, fun k => ?_, t0, t1⟩
     simp only [spec_l6Rd_pick.j0, Bool.false_eq_true, if_false]
     rw [e1, if_pos hql, if_pos (by omega), if_neg (by omega), zaq (x := rd b (q : Int)) (by omega) (by omega)]
    ·have i1 := tmod_in (x := (q : Int)) (n := (b.length : Int)) (by omega) (by omega)
     have e2 : wrap64 (wrap64 ((q : Int) * 7) + 3) = (q : Int) * 7 + 3 := by rw [zaq (x := (q : Int) * 7) (by omega) (by omega), zaq (by omega) (by omega)]
     have i2 := tmod_in (x := (q : Int) * 7 + 3) (n := (b.length : Int)) (by omega) (by omega)
     have r1 := h.byte (Int.tmod (q : Int) (b.length : Int))
     have r2 := h.byte (Int.tmod ((q : Int) * 7 + 3) (b.length : Int))
     have d1 : 0 ≤ Int.tdiv (q : Int) (b.length : Int) ∧ Int.tdiv (q : Int) (b.length : Int) ≤ 1000000 := by
      rw [Int.tdiv_eq_ediv_of_nonneg (by omega)]
      refine ⟨Int.ediv_nonneg (by omega) (by omega), Int.le_trans (Int.ediv_le_self _ (by omega)) (by omega)⟩
     have key : ∃ v, (∀ k, spec_l6Rd_pick.j0 (k + 1) n false b ((q + 1 : Nat) : Int) = some (v, ((q + 1 : Nat) : Int))) ∧ 0 ≤ v ∧ v < n := by
      have hform : ∀ k, spec_l6Rd_pick.j0 (k + 1) n false b ((q + 1 : Nat) : Int) = some (Int.tmod (Go.bits .xor .i64 (rd b (Int.tmod (q : Int) (b.length : Int)) * 131 + rd b (Int.tmod ((q : Int) * 7 + 3) (b.length : Int)) * 1117 + (q : Int) * 29 + Int.tdiv (q : Int) (b.length : Int) * 53) (wrap64 (Int.tdiv (rd b (Int.tmod (q : Int) (b.length : Int)) * 131 + rd b (Int.tmod ((q : Int) * 7 + 3) (b.length : Int)) * 1117 + (q : Int) * 29 + Int.tdiv (q : Int) (b.length : Int) * 53) 64))) n, ((q + 1 : Nat) : Int)) := fun k => by
       simp only [spec_l6Rd_pick.j0, Bool.false_eq_true, if_false]
       rw [e1, if_neg hql, if_neg (by omega), if_pos i1.1, if_pos i1.2, e2, if_pos i2.1, if_pos i2.2, if_neg (by omega)]
       generalize rd b (Int.tmod (q : Int) (b.length : Int)) = a at *
       generalize rd b (Int.tmod ((q : Int) * 7 + 3) (b.length : Int)) = c at *
       generalize Int.tdiv (q : Int) (b.length : Int) = d at *
       rw [zaq (x := a) (by omega) (by omega), zaq (x := a * 131) (by omega) (by omega), zaq (x := c) (by omega) (by omega), zaq (x := c * 1117) (by omega) (by omega), zaq (x := a * 131 + c * 1117) (by omega) (by omega), zaq (x := (q : Int) * 29) (by omega) (by omega), zaq (x := a * 131 + c * 1117 + (q : Int) * 29) (by omega) (by omega), zaq (x := d) (by omega) (by omega), zaq (x := d * 53) (by omega) (by omega), zaq (x := a * 131 + c * 1117 + (q : Int) * 29 + d * 53) (by omega) (by omega)]
      have hX : 0 ≤ rd b (Int.tmod (q : Int) (b.length : Int)) * 131 + rd b (Int.tmod ((q : Int) * 7 + 3) (b.length : Int)) * 1117 + (q : Int) * 29 + Int.tdiv (q : Int) (b.length : Int) * 53 ∧ rd b (Int.tmod (q : Int) (b.length : Int)) * 131 + rd b (Int.tmod ((q : Int) * 7 + 3) (b.length : Int)) * 1117 + (q : Int) * 29 + Int.tdiv (q : Int) (b.length : Int) * 53 < 1099511627776 := by omega
      generalize rd b (Int.tmod (q : Int) (b.length : Int)) * 131 + rd b (Int.tmod ((q : Int) * 7 + 3) (b.length : Int)) * 1117 + (q : Int) * 29 + Int.tdiv (q : Int) (b.length : Int) * 53 = X at *
      have hd : 0 ≤ Int.tdiv X 64 ∧ Int.tdiv X 64 ≤ X := by
       rw [Int.tdiv_eq_ediv_of_nonneg hX.1]
       exact ⟨Int.ediv_nonneg hX.1 (by omega), Int.ediv_le_self _ hX.1⟩
      rw [zaq (x := Int.tdiv X 64) (by omega) (by omega)] at hform
      obtain ⟨t0, t1⟩ := tmod_in (n := n) (xor_nonneg hX.1 hd.1 hX.2 (by omega)) (by omega)
      exact ⟨_, hform, t0, t1⟩
     exact key
   obtain ⟨v, hv, v0, v1⟩ := main
   refine ⟨v, ?_, v0, fun _ => v1, fun h => absurd h hn⟩
   refine Evs.congr (h := fun k => spec_l6Rd_pick.j0 k n false b ((q + 1 : Nat) : Int)) (fun k => ?_) (Evs.step (h := fun _ => some (v, ((q + 1 : Nat) : Int))) hv (Evs.const _))
   unfold spec_l6Rd_pick.f
   rw [if_neg hn, hw, show ((b.length : Int) == 0) = false by rw [beq_eq_false_iff_ne]; omega]
theorem of_ev (b : List Int) (h : RdB b) (q : Nat) (hq : q ≤ 1000000) (L : List ByteArray) (hL : 1 ≤ L.length) : ∃ s, Evs (fun k => spec_l6Rd_of.f k b (q : Int) L) (s, ((q + 1 : Nat) : Int)) ∧ s ∈ L := by
 obtain ⟨v, hv, v0, v1, -⟩ := pick_ev b h q hq (L.length : Int)
 have hv1 := v1 (by omega)
 obtain ⟨i, rfl⟩ := Int.eq_ofNat_of_zero_le v0
 refine ⟨rdOf ByteArray.empty L (i : Int), Evs.bind hv (Evs.pos (by omega) (Evs.pos hv1 (Evs.const _))), ?_⟩
 rw [rdOf_get L i (by omega)]
 exact List.getElem_mem _
theorem open_ev (l : List Int) (hv : ∀ x ∈ l, 0 ≤ x ∧ x ≤ 255) : ∃ b, spec_l6Open.f l = some (b, 0) ∧ RdB b := by
 unfold spec_l6Open.f
 by_cases h : (l.length : Int) > 2000
 ·rw [if_pos h, if_pos (by omega)]
  exact ⟨_, rfl, by simp; omega, fun x hx => hv x (List.mem_of_mem_take hx)⟩
 ·rw [if_neg h]
  exact ⟨_, rfl, by omega, hv⟩
theorem empty_l1 (n m : Nat) (hm : m ≤ 100) (i : Nat) (hi : i ≤ 100) (x5 : List ByteArray) (h5 : x5.length ≤ 100) (r : List ByteArray) (hnext : Evs (fun k => spec_l91Empty.l0 k (n : Int) (m : Int) (x5 ++ [strOfNums (List.replicate m 97)]) ((i + 1 : Nat) : Int)) r) :
  ∀ d j, j + d = m → Evs (fun k => spec_l91Empty.l1 k (n : Int) (m : Int) x5 (i : Int) (List.replicate j 97) (j : Int)) r := by
 intro d
 induction d with
 | zero =>
  intro j hj
  obtain rfl : j = m := by omega
  refine Evs.step (fun k => ?_) hnext
  conv => lhs; unfold spec_l91Empty.l1
  rw [if_neg (by omega), if_pos (by omega), zbn (by omega)]
 | succ d ih =>
  intro j hj
  have hnx := ih (j + 1) (by omega)
  rw [List.replicate_succ'] at hnx
  refine Evs.step (fun k => ?_) hnx
  conv => lhs; unfold spec_l91Empty.l1
  rw [if_pos (by omega), if_pos (by simp; omega), zbn (by omega)]
theorem empty_l0 (n m : Nat) (hn : n ≤ 100) (hm : m ≤ 100) : ∀ d i, i + d = n → Evs (fun k => spec_l91Empty.l0 k (n : Int) (m : Int) (List.replicate i (strOfNums (List.replicate m 97))) (i : Int)) (List.replicate n (strOfNums (List.replicate m 97))) := by
 intro d
 induction d with
 | zero =>
  intro i hi
  obtain rfl : i = n := by omega
  refine Evs.step (h := fun _ => some (List.replicate i (strOfNums (List.replicate m 97)))) (fun k => ?_) (Evs.const _)
  conv => lhs; unfold spec_l91Empty.l0
  rw [if_neg (by omega)]
 | succ d ih =>
  intro i hi
  have hnx := ih (i + 1) (by omega)
  rw [List.replicate_succ'] at hnx
  have := empty_l1 n m hm i (by omega) (List.replicate i (strOfNums (List.replicate m 97))) (by simp; omega) _ hnx m 0 (by omega)
  refine Evs.step (fun k => ?_) this
  conv => lhs; unfold spec_l91Empty.l0
  rw [if_pos (by omega)]
  rfl
theorem Empty_ev (n m : Nat) (hn : n ≤ 100) (hm : m ≤ 100) : ∃ p, Evs (fun k => spec_l91Empty.f k (n : Int) (m : Int)) p ∧ Mid p m ∧ p.length = n := by
 refine ⟨_, empty_l0 n m hn hm n 0 (by omega), ⟨by simp; omega, hm, fun s hs => ?_⟩, by simp⟩
 rw [List.eq_of_mem_replicate hs]
 show (List.map _ (List.replicate m (97 : Int))).toArray.size = m
 simp
theorem rowText_size (row : List Int) : (rowText row).size = row.length := by
 show (List.map letterOf row).toArray.size = _
 simp
theorem planF_mid {h w : Nat} {g : Nat → Nat → Int} {p : List ByteArray} (h1 : 1 ≤ h) (e : planF (zbl h w g) = (p, true)) : Mid p w ∧ p.length = h := by
 rcases planF_cases (zbl h w g) with ⟨hO, hp⟩ | ⟨_, hp⟩
 ·rw [hp] at e
  injection e with e1 _
  subst e1
  obtain ⟨s1, s2, s3, s4, s5⟩ := (zcl _).1 hO.shape
  rw [zbf] at s1 s2
  have hw : zal (zbl h w g) = w := by
   have := gridOf_get (hi := h) (wi := w) (g := g) (r := 0) (by omega)
   unfold zal
   rw [List.getD_eq_getElem?_getD, this]
   simp
  rw [hw] at s3 s4
  have hl : (zbv (canon (zbl h w g))).length = h := by rw [text_length, zbf]
  refine ⟨⟨by omega, by omega, fun s hs => ?_⟩, hl⟩
  obtain ⟨r, hr, rfl⟩ := List.mem_map.1 hs
  rw [rowText_size]
  unfold canon canonL at hr
  obtain ⟨r0, hr0, rfl⟩ := List.mem_map.1 hr
  rw [List.length_map]
  exact gridOf_row r0 hr0
 ·rw [hp] at e
  injection e with _ e2
  cases e2
theorem split_mid {p : List ByteArray} {m : Nat} (h : Mid p m) (h1 : 1 ≤ p.length) {a k : Int} {t : ByteArray} {r : List ByteArray} (e : splitF p a t k = (r, true)) : Mid r m ∧ r.length = p.length := by
 unfold splitF at e
 cases hF : zbu p with
 | none => rw [hF] at e; injection e with _ e; cases e
 | some z =>
  obtain ⟨cs, rs⟩ := z
  rw [hF] at e
  have F := floor_facts hF
  dsimp only at e
  split at e
  ·by_cases hc : 1 ≤ k ∧ k < (if isH t = true then (rs.getD a.toNat zci).f2 else (rs.getD a.toNat zci).f3)
   ·rw [if_pos hc] at e
    have hw : zal cs = m := by
     rw [← F.wide, wideOf_numsOf]
     refine h.row _ ?_
     rw [List.getD_eq_getElem?_getD, List.getElem?_eq_getElem (by omega)]
     exact List.getElem_mem _
    obtain ⟨q1, q2⟩ := planF_mid F.ok.h1 e
    rw [hw] at q1
    exact ⟨q1, by rw [q2, F.len]⟩
   ·rw [if_neg hc] at e
    injection e with _ e
    cases e
  ·injection e with _ e
   cases e
theorem cut_l0 (b : List Int) (hb : RdB b) (many m n : Nat) (hmany : many ≤ 1000) (hn : 1 ≤ n) : ∀ d t (p : List ByteArray) (q : Nat), t + d = many → Mid p m → p.length = n → q + 3 * d ≤ 100000 → ∃ p' q', Evs (fun k => spec_l91Cut.l0 k p (many : Int) (t : Int) b (q : Int)) (p', ((q' : Nat) : Int)) ∧ Mid p' m ∧ p'.length = n ∧ q' ≤ q + 3 * d := by
 intro d
 induction d with
 | zero =>
  intro t p q ht hp hl hq
  refine ⟨p, q, Evs.step (h := fun _ => some (p, (q : Int))) (fun k => ?_) (Evs.const _), hp, hl, by omega⟩
  conv => lhs; unfold spec_l91Cut.l0
  rw [if_neg (by omega)]
 | succ d ih =>
  intro t p q ht hp hl hq
  obtain ⟨rm, _, _, hrm⟩ := l1Rooms_any p hp.lil
  obtain ⟨v1, hv1, -, -, -⟩ := pick_ev b hb q (by omega) rm
  obtain ⟨s, hs, -⟩ := of_ev b hb (q + 1) (by omega) [(⟨#[104]⟩ : ByteArray), (⟨#[118]⟩ : ByteArray)] (by simp)
  obtain ⟨v2, hv2, -, -, -⟩ := pick_ev b hb (q + 1 + 1) (by omega) 3
  have hsp := PlanSplit_ev p v1 s (wrap64 (1 + v2)) hp.lil.small
  rcases hr : splitF p v1 s (wrap64 (1 + v2)) with ⟨r, ok⟩
  rw [hr] at hsp
  cases ok with
  | true =>
   obtain ⟨m1, m2⟩ := split_mid hp (by omega) hr
   obtain ⟨p', q', hE, h1, h2, h3⟩ := ih (t + 1) r (q + 1 + 1 + 1) (by omega) m1 (by omega) (by omega)
   refine ⟨p', q', Evs.step (h := fun k => ((spec_l1Rooms.f k p).bind fun t221 => ((spec_l6Rd_pick.f k b (q : Int) t221).bind fun bt222 => ((spec_l6Rd_of.f k b bt222.2 (([(⟨#[104]⟩ : ByteArray), (⟨#[118]⟩ : ByteArray)] : List ByteArray))).bind fun bt227 => ((spec_l6Rd_pick.f k b bt227.2 3).bind fun bt229 => ((spec_PlanSplit.f k p bt222.1 bt227.1 (wrap64 (1 + bt229.1))).bind fun bt231 => (if bt231.2 = true then (spec_l91Cut.l0 k bt231.1 (many : Int) (wrap64 ((t : Int) + 1)) b bt229.2) else (spec_l91Cut.l0 k p (many : Int) (wrap64 ((t : Int) + 1)) b bt229.2)))))))) (fun k => ?_) (Evs.bind hrm (Evs.bind hv1 (Evs.bind hs (Evs.bind hv2 (Evs.bind hsp (Evs.pos rfl ?_)))))), h1, h2, by omega⟩
   ·conv => lhs; unfold spec_l91Cut.l0
    rw [if_pos (by omega)]
   ·rw [zbn (by omega)]
    exact hE
  | false =>
   obtain ⟨p', q', hE, h1, h2, h3⟩ := ih (t + 1) p (q + 1 + 1 + 1) (by omega) hp hl (by omega)
   refine ⟨p', q', Evs.step (h := fun k => ((spec_l1Rooms.f k p).bind fun t221 => ((spec_l6Rd_pick.f k b (q : Int) t221).bind fun bt222 => ((spec_l6Rd_of.f k b bt222.2 (([(⟨#[104]⟩ : ByteArray), (⟨#[118]⟩ : ByteArray)] : List ByteArray))).bind fun bt227 => ((spec_l6Rd_pick.f k b bt227.2 3).bind fun bt229 => ((spec_PlanSplit.f k p bt222.1 bt227.1 (wrap64 (1 + bt229.1))).bind fun bt231 => (if bt231.2 = true then (spec_l91Cut.l0 k bt231.1 (many : Int) (wrap64 ((t : Int) + 1)) b bt229.2) else (spec_l91Cut.l0 k p (many : Int) (wrap64 ((t : Int) + 1)) b bt229.2)))))))) (fun k => ?_) (Evs.bind hrm (Evs.bind hv1 (Evs.bind hs (Evs.bind hv2 (Evs.bind hsp (Evs.neg (by simp) ?_)))))), h1, h2, by omega⟩
   ·conv => lhs; unfold spec_l91Cut.l0
    rw [if_pos (by omega)]
   ·rw [zbn (by omega)]
    exact hE
theorem Cut_ev (b : List Int) (hb : RdB b) (q : Nat) (hq : q ≤ 10000) (p : List ByteArray) (m : Nat) (hp : Mid p m) (h1 : 1 ≤ p.length) (many : Int) (h0 : 0 ≤ many) (hm : many ≤ 100) : ∃ p' q', Evs (fun k => spec_l91Cut.f k b (q : Int) p many) (p', ((q' : Nat) : Int)) ∧ Mid p' m ∧ p'.length = p.length ∧ q' ≤ q + 300 := by
 obtain ⟨n, rfl⟩ := Int.eq_ofNat_of_zero_le h0
 obtain ⟨p', q', hE, h1, h2, h3⟩ := cut_l0 b hb n m p.length (by omega) h1 n 0 p q (by omega) hp rfl (by omega)
 exact ⟨p', q', hE, h1, h2, by omega⟩
theorem plan_j1 (b : List Int) (hb : RdB b) (q : Nat) (hq : q ≤ 1000) (n m : Nat) (n1 : 1 ≤ n) (n7 : n ≤ 10) (m7 : m ≤ 10) (c : Bool) (hc : c = true → n = 4 ∧ m = 4) : ∃ p q', Evs (fun k => spec_l91Plan.j1 k (n : Int) (m : Int) c b (q : Int)) (p, ((q' : Nat) : Int)) ∧ Mid p m ∧ p.length = n ∧ q' ≤ q + 400 := by
 cases c with
 | true =>
  obtain ⟨rfl, rfl⟩ := hc rfl
  obtain ⟨v, hv, v0, v1, -⟩ := pick_ev b hb q (by omega) 4
  obtain ⟨p, q', hE, h1, h2, h3⟩ := Cut_ev b hb (q + 1) (by omega) [(⟨#[97, 97, 97, 98]⟩ : ByteArray), (⟨#[99, 100, 100, 98]⟩ : ByteArray), (⟨#[99, 100, 100, 98]⟩ : ByteArray), (⟨#[99, 101, 101, 101]⟩ : ByteArray)] 4 ⟨by simp, by omega, fun s hs => by simp at hs; rcases hs with rfl | rfl | rfl <;> rfl⟩ (by simp) v v0 (by have := v1 (by omega); omega)
  refine ⟨p, q', Evs.step (h := fun k => (spec_l6Rd_pick.f k b (q : Int) 4).bind fun bt263 => ((spec_l91Cut.f k b bt263.2 (([(⟨#[97, 97, 97, 98]⟩ : ByteArray), (⟨#[99, 100, 100, 98]⟩ : ByteArray), (⟨#[99, 100, 100, 98]⟩ : ByteArray), (⟨#[99, 101, 101, 101]⟩ : ByteArray)] : List ByteArray)) bt263.1).bind fun bt265 => (some (bt265.1, bt265.2)))) (fun k => ?_) (Evs.bind hv (Evs.bind hE (Evs.const _))), h1, h2, by omega⟩
  show spec_l91Plan.j1 (k + 1) _ _ true b (q : Int) = _
  simp only [spec_l91Plan.j1, if_true]
 | false =>
  obtain ⟨e, hE0, e1, e2⟩ := Empty_ev n m (by omega) (by omega)
  obtain ⟨v, hv, v0, v1, -⟩ := pick_ev b hb q (by omega) 9
  obtain ⟨p, q', hE, h1, h2, h3⟩ := Cut_ev b hb (q + 1) (by omega) e m e1 (by omega) v v0 (by have := v1 (by omega); omega)
  refine ⟨p, q', Evs.step (h := fun k => (spec_l91Empty.f k (n : Int) (m : Int)).bind fun t269 => ((spec_l6Rd_pick.f k b (q : Int) 9).bind fun bt272 => ((spec_l91Cut.f k b bt272.2 t269 bt272.1).bind fun bt274 => (some (bt274.1, bt274.2))))) (fun k => ?_) (Evs.bind hE0 (Evs.bind hv (Evs.bind hE (Evs.const _)))), h1, by omega, by omega⟩
  show spec_l91Plan.j1 (k + 1) _ _ false b (q : Int) = _
  simp only [spec_l91Plan.j1, Bool.false_eq_true, if_false]
theorem plan_j0 (b : List Int) (hb : RdB b) (q : Nat) (hq : q ≤ 900) (n m : Nat) (n1 : 1 ≤ n) (n7 : n ≤ 10) (m7 : m ≤ 10) (c : Bool) (hc : c = true → n = 3 ∧ m = 3) : ∃ p q', Evs (fun k => spec_l91Plan.j0 k (n : Int) (m : Int) c b (q : Int)) (p, ((q' : Nat) : Int)) ∧ Mid p m ∧ p.length = n ∧ q' ≤ q + 500 := by
 cases c with
 | true =>
  obtain ⟨rfl, rfl⟩ := hc rfl
  obtain ⟨v, hv, v0, v1, -⟩ := pick_ev b hb q (by omega) 2
  obtain ⟨p, q', hE, h1, h2, h3⟩ := Cut_ev b hb (q + 1) (by omega) [(⟨#[97, 97, 98]⟩ : ByteArray), (⟨#[99, 100, 98]⟩ : ByteArray), (⟨#[99, 101, 101]⟩ : ByteArray)] 3 ⟨by simp, by omega, fun s hs => by simp at hs; rcases hs with rfl | rfl | rfl <;> rfl⟩ (by simp) v v0 (by have := v1 (by omega); omega)
  refine ⟨p, q', Evs.step (h := fun k => (spec_l6Rd_pick.f k b (q : Int) 2).bind fun bt252 => ((spec_l91Cut.f k b bt252.2 (([(⟨#[97, 97, 98]⟩ : ByteArray), (⟨#[99, 100, 98]⟩ : ByteArray), (⟨#[99, 101, 101]⟩ : ByteArray)] : List ByteArray)) bt252.1).bind fun bt254 => (some (bt254.1, bt254.2)))) (fun k => ?_) (Evs.bind hv (Evs.bind hE (Evs.const _))), h1, h2, by omega⟩
  show spec_l91Plan.j0 (k + 1) _ _ true b (q : Int) = _
  simp only [spec_l91Plan.j0, if_true]
 | false =>
  by_cases h4 : (n : Int) = 4 ∧ (m : Int) = 4
  ·obtain ⟨v, hv, v0, v1, -⟩ := pick_ev b hb q (by omega) 2
   obtain ⟨p, q', hE, h1, h2, h3⟩ := plan_j1 b hb (q + 1) (by omega) n m n1 n7 m7 (v == 0) (fun _ => by omega)
   refine ⟨p, q', Evs.step (h := fun k => (spec_l6Rd_pick.f k b (q : Int) 2).bind fun bt258 => (spec_l91Plan.j1 k (n : Int) (m : Int) (bt258.1 == 0) b bt258.2)) (fun k => ?_) (Evs.bind hv hE), h1, h2, by omega⟩
   show spec_l91Plan.j0 (k + 1) _ _ false b (q : Int) = _
   simp only [spec_l91Plan.j0, Bool.false_eq_true, if_false]
   rw [if_pos h4.1, if_pos h4.2]
  ·obtain ⟨p, q', hE, h1, h2, h3⟩ := plan_j1 b hb q (by omega) n m n1 n7 m7 false (fun h => by cases h)
   refine ⟨p, q', Evs.step (fun k => ?_) hE, h1, h2, by omega⟩
   show spec_l91Plan.j0 (k + 1) _ _ false b (q : Int) = _
   simp only [spec_l91Plan.j0, Bool.false_eq_true, if_false]
   by_cases hn : (n : Int) = 4
   ·rw [if_pos hn, if_neg (fun h => h4 ⟨hn, h⟩)]
   ·rw [if_neg hn]
theorem Plan_ev (b : List Int) (hb : RdB b) (q : Nat) (hq : q ≤ 800) (n m : Nat) (n1 : 1 ≤ n) (n7 : n ≤ 10) (m7 : m ≤ 10) : ∃ p q', Evs (fun k => spec_l91Plan.f k b (q : Int) (n : Int) (m : Int)) (p, ((q' : Nat) : Int)) ∧ Mid p m ∧ p.length = n ∧ q' ≤ q + 600 := by
 by_cases h3 : (n : Int) = 3 ∧ (m : Int) = 3
 ·obtain ⟨v, hv, v0, v1, -⟩ := pick_ev b hb q (by omega) 2
  obtain ⟨p, q', hE, h1, h2, h3'⟩ := plan_j0 b hb (q + 1) (by omega) n m n1 n7 m7 (v == 0) (fun _ => by omega)
  refine ⟨p, q', Evs.congr (h := fun k => (spec_l6Rd_pick.f k b (q : Int) 2).bind fun bt247 => (spec_l91Plan.j0 k (n : Int) (m : Int) (bt247.1 == 0) b bt247.2)) (fun k => ?_) (Evs.bind hv hE), h1, h2, by omega⟩
  unfold spec_l91Plan.f
  rw [if_pos h3.1, if_pos h3.2]
 ·obtain ⟨p, q', hE, h1, h2, h3'⟩ := plan_j0 b hb q (by omega) n m n1 n7 m7 false (fun h => by cases h)
  refine ⟨p, q', Evs.congr (fun k => ?_) hE, h1, h2, by omega⟩
  unfold spec_l91Plan.f
  by_cases hn : (n : Int) = 3
  ·rw [if_pos hn, if_neg (fun h => h3 ⟨hn, h⟩)]
  ·rw [if_neg hn]
theorem Some_ev (b : List Int) (hb : RdB b) (q : Nat) (hq : q ≤ 700) (rows cols : Int) (r1 : 1 ≤ rows) (r7 : rows ≤ 9) (c1 : 1 ≤ cols) (c7 : cols ≤ 9) : ∃ p q', Evs (fun k => spec_l91Some.f k b (q : Int) rows cols) (p, ((q' : Nat) : Int)) ∧ Lil p ∧ q' ≤ 2000 := by
 obtain ⟨v1, hv1, a0, a1, -⟩ := pick_ev b hb q (by omega) rows
 obtain ⟨v2, hv2, b0, b1, -⟩ := pick_ev b hb (q + 1) (by omega) cols
 have a1 := a1 r1
 have b1 := b1 c1
 obtain ⟨i, rfl⟩ := Int.eq_ofNat_of_zero_le a0
 obtain ⟨j, rfl⟩ := Int.eq_ofNat_of_zero_le b0
 have e1 : wrap64 (1 + (i : Int)) = ((i + 1 : Nat) : Int) := by rw [zaq (by omega) (by omega)]; omega
 have e2 : wrap64 (1 + (j : Int)) = ((j + 1 : Nat) : Int) := by rw [zaq (by omega) (by omega)]; omega
 obtain ⟨p, q', hE, h1, h2, h3⟩ := Plan_ev b hb (q + 1 + 1) (by omega) (i + 1) (j + 1) (by omega) (by omega) (by omega)
 obtain ⟨v3, hv3, c0, -, -⟩ := pick_ev b hb q' (by omega) 50
 have hlast : wrap64 (((i + 1 : Nat) : Int) - 1) = (i : Int) := by rw [zaq (by omega) (by omega)]; omega
 have hsz : ∀ k (hk : k < p.length), (p[k]'hk).size = j + 1 := fun k hk => h1.row _ (List.getElem_mem hk)
 by_cases z0 : v3 = 0
 ·refine ⟨p.set i (rdOf ByteArray.empty p (i : Int) ++ (⟨#[97]⟩ : ByteArray)), q' + 1, Evs.bind hv1 (Evs.bind hv2 ?_), ⟨by rw [List.length_set]; omega, fun s hs => ?_⟩, by omega⟩
  ·dsimp only
   rw [e1, e2]
   refine Evs.bind hE (Evs.bind hv3 (Evs.pos z0 ?_))
   simp only [Option.bind_some, List.nil_append, List.length_nil]
   refine Evs.pos (by omega) ?_
   rw [hlast]
   refine Evs.pos (by omega) (Evs.pos (by omega) (Evs.pos ?_ ?_))
   ·rw [rdOf_get p i (by omega), hsz i (by omega)]; omega
   ·rw [Int.toNat_natCast]; exact Evs.const _
  ·rcases List.mem_or_eq_of_mem_set hs with h | h
   ·rw [h1.row s h]; omega
   ·subst h
    rw [rdOf_get p i (by omega), ByteArray.size_append, hsz i (by omega)]
    show j + 1 + 1 ≤ 100
    omega
 ·by_cases z1 : v3 = 1
  ·refine ⟨p.set 0 ((⟨#[122]⟩ : ByteArray) ++ ((rdOf ByteArray.empty p 0).extract 1 (rdOf ByteArray.empty p 0).size)), q' + 1, Evs.bind hv1 (Evs.bind hv2 ?_), ⟨by rw [List.length_set]; omega, fun s hs => ?_⟩, by omega⟩
   ·dsimp only
    rw [e1, e2]
    refine Evs.bind hE (Evs.bind hv3 (Evs.neg z0 (Evs.pos z1 ?_)))
    simp only [Option.bind_some, List.nil_append, List.length_nil]
    have hr0 : rdOf ByteArray.empty p 0 = p[0]'(by omega) := rdOf_get p 0 (by omega)
    refine Evs.pos (by omega) (Evs.pos (by omega) (Evs.pos ?_ (Evs.pos ?_ ?_)))
    ·rw [hr0, hsz 0 (by omega)]; omega
    ·rw [hr0, ByteArray.size_extract, hsz 0 (by omega)]; omega
    ·exact Evs.const _
   ·rcases List.mem_or_eq_of_mem_set hs with h | h
    ·rw [h1.row s h]; omega
    ·subst h
     have hr0 : rdOf ByteArray.empty p 0 = p[0]'(by omega) := rdOf_get p 0 (by omega)
     rw [ByteArray.size_append, ByteArray.size_extract, hr0, hsz 0 (by omega)]
     show 1 + _ ≤ 100
     omega
  ·refine ⟨p, q' + 1, Evs.bind hv1 (Evs.bind hv2 ?_), h1.lil, by omega⟩
   dsimp only
   rw [e1, e2]
   exact Evs.bind hE (Evs.bind hv3 (Evs.neg z0 (Evs.neg z1 (Evs.const _))))
end Go.Proofs.Ytickdcegnlldjaa.Hd
namespace Go.Proofs.Ytickdcegnlldjaa.Hd
open Go.RowKit Go.PW.PrintWords Go.PW.PrintLast Go.PW.PrintMore Go.Proofs.Ytickdcegnlldjaa.PB
theorem rd_at {p : List Int} {i : Nat} {s : Int} (h : p[i]? = some s) : rd p (i : Int) = s := by
 unfold rd; rw [Int.toNat_natCast, List.getD_eq_getElem?_getD, h]; rfl
theorem sameInts_l0 (a b : List Int) (hl : a.length = b.length) (ha : a.length ≤ 1000000) : ∀ m i, i + m = a.length → Evs (fun k => laws_sameInts.l0 k a b (i : Int)) (decide (a.drop i = b.drop i)) := by
 intro m
 induction m with
 | zero =>
  intro i hi
  refine Evs.step (h := fun _ => some (decide (a.drop i = b.drop i))) (fun k => ?_) (Evs.const _)
  conv => lhs; unfold laws_sameInts.l0
  rw [if_neg (by omega), List.drop_eq_nil_of_le (by omega), List.drop_eq_nil_of_le (by omega)]
  rfl
 | succ m ih =>
  intro i hi
  obtain ⟨s, hs⟩ : ∃ s, a[i]? = some s := ⟨_, List.getElem?_eq_getElem (by omega)⟩
  obtain ⟨t, ht⟩ : ∃ t, b[i]? = some t := ⟨_, List.getElem?_eq_getElem (by omega)⟩
  have hsd : a.drop i = s :: a.drop (i + 1) := by rw [List.drop_eq_getElem_cons (by omega)]; rw [List.getElem?_eq_getElem (by omega)] at hs; rw [Option.some.inj hs]
  have htd : b.drop i = t :: b.drop (i + 1) := by rw [List.drop_eq_getElem_cons (by omega)]; rw [List.getElem?_eq_getElem (by omega)] at ht; rw [Option.some.inj ht]
  by_cases e : s = t
  ·have hd : decide (a.drop i = b.drop i) = decide (a.drop (i + 1) = b.drop (i + 1)) := by rw [hsd, htd, e]; simp
   rw [hd]
   refine Evs.step (h := fun k => laws_sameInts.l0 k a b ((i + 1 : Nat) : Int)) (fun k => ?_) (ih (i + 1) (by omega))
   conv => lhs; unfold laws_sameInts.l0
   rw [if_pos (by omega), if_pos (by omega), if_pos (by omega), rd_at hs, rd_at ht, if_pos e, zbn (by omega)]
  ·have hd : decide (a.drop i = b.drop i) = false := by rw [hsd, htd]; simp [e]
   rw [hd]
   refine Evs.step (h := fun _ => some false) (fun k => ?_) (Evs.const _)
   conv => lhs; unfold laws_sameInts.l0
   rw [if_pos (by omega), if_pos (by omega), if_pos (by omega), rd_at hs, rd_at ht, if_neg e]
theorem sameInts_ev (a b : List Int) (ha : a.length ≤ 1000000) : Evs (fun k => laws_sameInts.f k a b) (decide (a = b)) := by
 by_cases hl : a.length = b.length
 ·refine Evs.congr (h := fun k => laws_sameInts.l0 k a b ((0 : Nat) : Int)) (fun k => ?_) (sameInts_l0 a b hl ha a.length 0 (by omega))
  unfold laws_sameInts.f
  rw [if_pos (by omega)]; rfl
 ·have : decide (a = b) = false := by simp; intro h; rw [h] at hl; exact hl rfl
  rw [this]
  refine Evs.congr (h := fun _ => some false) (fun k => ?_) (Evs.const _)
  unfold laws_sameInts.f
  rw [if_neg (by omega)]
theorem sameInts_refl (a : List Int) (ha : a.length ≤ 1000000) : Evs (fun k => laws_sameInts.f k a a) true := by
 have := sameInts_ev a a ha
 simpa using this
theorem byte_of {x : Int} (h : (Lit.int .u8 x).wf = true) : 0 ≤ x ∧ x ≤ 255 := by
 simp only [Lit.wf, IntKind.min, IntKind.max, IntKind.signed, IntKind.bits, Bool.and_eq_true, decide_eq_true_eq] at h
 have h1 := h.1
 have h2 := h.2
 simp at h1 h2
 omega
theorem Evs.ex {α : Type} {g : Nat → Option α} {r : α} (h : Evs g r) : ∃ k, g k = some r := by
 obtain ⟨K, hK⟩ := h
 exact ⟨K, hK K (by omega)⟩
end Go.Proofs.Ytickdcegnlldjaa.Hd
namespace Go.Proofs.Ytickdcegnlldjaa.Hd
open Go.RowKit Go.PW.PrintWords Go.PW.PrintLast Go.PW.PrintMore Go.Proofs.Ytickdcegnlldjaa.PB Go.Proofs.Ytickdcegnlldjaa.SM
theorem besN_len (cs : List (List Int)) (a b : Int) (hab : a ≠ b) : besN cs a b = lenU (zaw cs) cs.length (zal cs) a b + lenU (fun i k => zaw cs k i) (zal cs) cs.length a b := by
 unfold besN
 rw [if_neg hab, touch_hits cs a b hab]
def NextTo (r c r' c' : Nat) : Prop := (r = r' ∧ (c' = c + 1 ∨ c = c' + 1)) ∨ (c = c' ∧ (r' = r + 1 ∨ r = r' + 1))
theorem sumI_ge (f : Nat → Int) (h0 : ∀ k, 0 ≤ f k) : ∀ n i, i < n → f i ≤ sumI f n
 | 0, i, h => by omega
 | n + 1, i, h => by
  simp only [sumI]
  by_cases e : i = n
  ·subst e
   have : 0 ≤ sumI f i := by
    clear h
    induction i with
    | zero => simp [sumI]
    | succ i ih =>
     have := h0 i
     simp only [sumI]
     omega
   omega
  ·have := sumI_ge f h0 n i (by omega)
   have := h0 n
   omega
theorem lenU_gt (g : Nat → Nat → Int) (hi wi : Nat) (a b : Int) (i k : Nat) (h1 : i < hi) (h2 : k + 1 < wi) (h : (g i k = a ∧ g i (k + 1) = b) ∨ (g i k = b ∧ g i (k + 1) = a)) : 0 < lenU g hi wi a b := by
 have s1 := sumI_ge (fun k => hit (g i k, g i (k + 1)) a b) (fun k => (hit_range _ a b).1) (wi - 1) k (by omega)
 have s2 := sumI_ge (fun i => sumI (fun k => hit (g i k, g i (k + 1)) a b) (wi - 1)) (fun i => (sumI_range (f := fun k => hit (g i k, g i (k + 1)) a b) 2 (fun k => hit_range _ a b) (wi - 1)).1) hi i h1
 have s3 : 1 ≤ hit (g i k, g i (k + 1)) a b := by
  have := hit_range (g i k, g i (k + 1)) a b
  unfold hit
  rcases h with ⟨e1, e2⟩ | ⟨e1, e2⟩
  ·rw [e1, e2, if_pos rfl]
   split <;> omega
  ·rw [e1, e2, if_pos (show (b, a) = (b, a) from rfl)]
   split <;> omega
 unfold lenU
 omega
theorem lenU_nonneg (g : Nat → Nat → Int) (hi wi : Nat) (a b : Int) : 0 ≤ lenU g hi wi a b := by
 unfold lenU
 exact (sumI_range (f := fun i => sumI (fun k => hit (g i k, g i (k + 1)) a b) (wi - 1)) ((wi - 1) * 2) (fun i => ⟨(sumI_range (f := fun k => hit (g i k, g i (k + 1)) a b) 2 (fun k => hit_range _ a b) (wi - 1)).1, (sumI_range (f := fun k => hit (g i k, g i (k + 1)) a b) 2 (fun k => hit_range _ a b) (wi - 1)).2⟩) hi).1
theorem besN_gt (cs : List (List Int)) (r c r' c' : Nat) (hr : r < cs.length) (hc : c < zal cs) (hr' : r' < cs.length) (hc' : c' < zal cs) (hn : NextTo r c r' c') (hne : zaw cs r c ≠ zaw cs r' c') : 0 < besN cs (zaw cs r c) (zaw cs r' c') := by
 rw [besN_len cs _ _ hne]
 have n1 := lenU_nonneg (zaw cs) cs.length (zal cs) (zaw cs r c) (zaw cs r' c')
 have n2 := lenU_nonneg (fun i k => zaw cs k i) (zal cs) cs.length (zaw cs r c) (zaw cs r' c')
 rcases hn with ⟨rfl, rfl | rfl⟩ | ⟨rfl, rfl | rfl⟩
 ·have := lenU_gt (zaw cs) cs.length (zal cs) (zaw cs r c) (zaw cs r (c + 1)) r c hr hc' (.inl ⟨rfl, rfl⟩)
  omega
 ·have := lenU_gt (zaw cs) cs.length (zal cs) (zaw cs r (c' + 1)) (zaw cs r c') r c' hr hc (.inr ⟨rfl, rfl⟩)
  omega
 ·have := lenU_gt (fun i k => zaw cs k i) (zal cs) cs.length (zaw cs r c) (zaw cs (r + 1) c) c r hc hr' (.inl ⟨rfl, rfl⟩)
  omega
 ·have := lenU_gt (fun i k => zaw cs k i) (zal cs) cs.length (zaw cs (r' + 1) c) (zaw cs r' c) c r' hc hr (.inr ⟨rfl, rfl⟩)
  omega
theorem foldP_next (xs : List Int) : ∀ i x y, (zcj xs)[i]? = some x → (zcj xs)[i + 1]? = some y → ∃ j, xs[j]? = some x ∧ xs[j + 1]? = some y ∧ x ≠ y := by
 suffices h : ∀ n, ∀ ys : List Int, ys.length = n → ∀ i x y, (zcj ys)[i]? = some x → (zcj ys)[i + 1]? = some y → ∃ j, ys[j]? = some x ∧ ys[j + 1]? = some y ∧ x ≠ y from h _ xs rfl
 intro n
 induction n with
 | zero =>
  intro ys hl i x y hx
  obtain rfl : ys = [] := List.length_eq_zero_iff.1 hl
  simp [zcj] at hx
 | succ n ih =>
  intro ys hl i x y hx hy
  obtain ⟨zs, z, rfl⟩ : ∃ zs z, ys = zs ++ [z] := ⟨ys.dropLast, ys.getLast (by rintro rfl; simp at hl), (List.dropLast_concat_getLast _).symm⟩
  have hz : zs.length = n := by simp at hl; omega
  have keep : ∀ j, zs[j]? = some x → zs[j + 1]? = some y → x ≠ y → ∃ j, (zs ++ [z])[j]? = some x ∧ (zs ++ [z])[j + 1]? = some y ∧ x ≠ y := fun j h1 h2 h3 => by
   have l1 := (List.getElem?_eq_some_iff.1 h1).1
   have l2 := (List.getElem?_eq_some_iff.1 h2).1
   exact ⟨j, by rw [List.getElem?_append_left l1]; exact h1, by rw [List.getElem?_append_left l2]; exact h2, h3⟩
  rw [foldP_snoc] at hx hy
  unfold putL at hx hy
  split at hx
  ·rename_i hc
   rw [if_pos hc] at hy
   obtain ⟨j, h1, h2, h3⟩ := ih zs hz i x y hx hy
   exact keep j h1 h2 h3
  ·rename_i hc
   rw [if_neg hc] at hy
   by_cases hi : i + 1 < (zcj zs).length
   ·rw [List.getElem?_append_left (by omega)] at hx
    rw [List.getElem?_append_left hi] at hy
    obtain ⟨j, h1, h2, h3⟩ := ih zs hz i x y hx hy
    exact keep j h1 h2 h3
   ·have hlen := (List.getElem?_eq_some_iff.1 hy).1
    rw [List.length_append, List.length_singleton] at hlen
    have hi2 : i + 1 = (zcj zs).length := by omega
    rw [List.getElem?_append_left (by omega)] at hx
    rw [List.getElem?_append_right (by omega), hi2, Nat.sub_self] at hy
    have hzy : z = y := by simpa using hy
    subst hzy
    have hlast : (zcj zs).getLast? = some x := by rw [List.getLast?_eq_getElem?, ← hi2]; exact hx
    have hne : x ≠ z := fun e => hc (by rw [hlast, e])
    -- the last element of the struck list is the last one of the list
    have hzs : zs ≠ [] := by rintro rfl; simp [zcj] at hx
    obtain ⟨us, u, rfl⟩ : ∃ us u, zs = us ++ [u] := ⟨zs.dropLast, zs.getLast hzs, (List.dropLast_concat_getLast _).symm⟩
    have hu := foldP_last us u
    rw [hu] at hlast
    have hux : u = x := Option.some.inj hlast
    subst hux
    exact ⟨us.length, by simp, by simp, hne⟩
theorem foldP_head (x : Int) (xs : List Int) : (zcj (x :: xs))[0]? = some x := by
 suffices h : ∀ n, ∀ ys : List Int, ys.length = n → (zcj (x :: ys))[0]? = some x from h _ xs rfl
 intro n
 induction n with
 | zero =>
  intro ys hl
  obtain rfl : ys = [] := List.length_eq_zero_iff.1 hl
  simp [zcj, putL]
 | succ n ih =>
  intro ys hl
  obtain ⟨zs, z, rfl⟩ : ∃ zs z, ys = zs ++ [z] := ⟨ys.dropLast, ys.getLast (by rintro rfl; simp at hl), (List.dropLast_concat_getLast _).symm⟩
  have := ih zs (by simp at hl; omega)
  rw [← List.cons_append, foldP_snoc]
  unfold putL
  split
  ·exact this
  ·rw [List.getElem?_append_left (List.getElem?_eq_some_iff.1 this).1]
   exact this
end Go.Proofs.Ytickdcegnlldjaa.Hd
namespace Go.Proofs.Ytickdcegnlldjaa.Pure
open Go.RowKit Go.Proofs.Ytickdcegnlldjaa.NO Go.Proofs.Ytickdcegnlldjaa.PB Go.Proofs.Ytickdcegnlldjaa.SM Go.Proofs.Ytickdcegnlldjaa.Hd Go.PW.PrintWords Go.PW.PrintLast
theorem near_next {p : List ByteArray} {cs : List (List Int)} {rs : List Rc} (hF : zbu p = some (cs, rs)) (hsm : smallB p = true) (r c r' c' : Nat) (hr : r < cs.length) (hc : c < zal cs) (hr' : r' < cs.length) (hc' : c' < zal cs) (hn : NextTo r c r' c') (hne : zaw cs r c ≠ zaw cs r' c') :
  impl_NearIs.f p (zaw cs r c) (zaw cs r' c') = some true := by
 have hg := besN_gt cs r c r' c' hr hc hr' hc' hn hne
 have v1 := zck (floorF_ok hF) r c hr hc
 have v2 := zck (floorF_ok hF) r' c' hr' hc'
 unfold impl_NearIs.f
 rw [if_pos hsm, nearIs_length]
 have : zch p (zaw cs r c) (zaw cs r' c') = (besN cs (zaw cs r c) (zaw cs r' c'), true) := by
  unfold zch
  rw [hF]
  dsimp only
  rw [if_pos]
  unfold hasB
  rw [decide_eq_true v1.1, decide_eq_true v1.2, decide_eq_true v2.1, decide_eq_true v2.2]
  simpa using hne
 rw [this]
 simp [hg]
theorem side_next {p : List ByteArray} {cs : List (List Int)} {rs : List Rc} (hF : zbu p = some (cs, rs)) (hsm : smallB p = true) (n : Nat) (fr fc : Nat → Nat) (hin : ∀ j, j < n → fr j < cs.length ∧ fc j < zal cs) (hnx : ∀ j, j + 1 < n → NextTo (fr j) (fc j) (fr (j + 1)) (fc (j + 1))) (xs : List Int) (hx : xs = (List.range n).map fun j => zaw cs (fr j) (fc j)) :
  ∀ i, i + 1 < (zcj xs).length → impl_NearIs.f p (rd (zcj xs) (i : Int)) (rd (zcj xs) ((i + 1 : Nat) : Int)) = some true := by
 intro i hi
 have e1 : (zcj xs)[i]? = some (zcj xs)[i] := List.getElem?_eq_getElem (by omega)
 have e2 : (zcj xs)[i + 1]? = some (zcj xs)[i + 1] := List.getElem?_eq_getElem hi
 obtain ⟨j, h1, h2, h3⟩ := foldP_next _ i _ _ e1 e2
 have at' : ∀ j x, xs[j]? = some x → j < n ∧ x = zaw cs (fr j) (fc j) := fun j x h => by
  have hj := (List.getElem?_eq_some_iff.1 h).1
  rw [hx, List.length_map, List.length_range] at hj
  rw [hx, List.getElem?_map, List.getElem?_range hj] at h
  exact ⟨hj, (Option.some.inj h).symm⟩
 obtain ⟨a1, a2⟩ := at' _ _ h1
 obtain ⟨b1, b2⟩ := at' _ _ h2
 rw [rd_at e1, rd_at e2, a2, b2]
 rw [a2, b2] at h3
 exact near_next hF hsm _ _ _ _ (hin j a1).1 (hin j a1).2 (hin (j + 1) b1).1 (hin (j + 1) b1).2 (hnx j b1) h3
theorem sides_next {p : List ByteArray} {cs : List (List Int)} {rs : List Rc} (hF : zbu p = some (cs, rs)) (hsm : smallB p = true) (sd : Int) :
  ∀ i, i + 1 < (zcj (sideL cs sd)).length → impl_NearIs.f p (rd (zcj (sideL cs sd)) (i : Int)) (rd (zcj (sideL cs sd)) ((i + 1 : Nat) : Int)) = some true := by
 have hk := floorF_ok hF
 have h1 := hk.h1
 have w1 := hk.w1
 unfold sideL
 split
 ·exact side_next hF hsm (zal cs) (fun _ => 0) (fun c => c) (fun j hj => ⟨by omega, hj⟩) (fun j hj => .inl ⟨rfl, .inl rfl⟩) _ rfl
 ·split
  ·exact side_next hF hsm cs.length (fun r => r) (fun _ => zal cs - 1) (fun j hj => ⟨hj, by omega⟩) (fun j hj => .inr ⟨rfl, .inl rfl⟩) _ rfl
  ·split
   ·exact side_next hF hsm (zal cs) (fun _ => cs.length - 1) (fun c => c) (fun j hj => ⟨by omega, hj⟩) (fun j hj => .inl ⟨rfl, .inl rfl⟩) _ rfl
   ·exact side_next hF hsm cs.length (fun r => r) (fun _ => 0) (fun j hj => ⟨hj, by omega⟩) (fun j hj => .inr ⟨rfl, .inl rfl⟩) _ rfl
theorem first_zero {p : List ByteArray} {cs : List (List Int)} {rs : List Rc} (hF : zbu p = some (cs, rs)) : zaw cs 0 0 = 0 := by
 obtain ⟨hX, hc, -, -⟩ := floor_okG hF
 have hk := floorF_ok hF
 have h1 := hk.h1
 have w1 := hk.w1
 have e := canon_at hX.shape (r := 0) (c := 0) (by omega) (by omega)
 rw [hc] at e
 obtain ⟨row, k1, k2⟩ := valAt_get (shape_rect hX.shape) (r := 0) (c := 0) (by omega) (by omega)
 obtain ⟨R, rfl⟩ : ∃ R, cs = row :: R := by
  cases cs with
  | nil => simp at h1
  | cons a R => simp at k1; subst k1; exact ⟨R, rfl⟩
 obtain ⟨T, hT⟩ : ∃ T, row = zaw (row :: R) 0 0 :: T := by
  cases row with
  | nil => simp at k2
  | cons a T => simp at k2; exact ⟨T, by rw [← k2]⟩
 generalize hv : zaw (row :: R) 0 0 = v at *
 have ho : (zbq (row :: R))[0]? = some v := by
  unfold zbq
  rw [List.flatten_cons, hT, List.cons_append]
  obtain ⟨Q, hQ⟩ := ordL_prefix (T ++ R.flatten) (pushL [] v)
  have : ordL (v :: (T ++ R.flatten)) [] = ordL (T ++ R.flatten) (pushL [] v) := rfl
  rw [this, ← hQ]
  rfl
 have hi : (zbq (row :: R)).idxOf v = 0 := by
  cases hO : zbq (row :: R) with
  | nil => rw [hO] at ho; cases ho
  | cons a O =>
   rw [hO] at ho
   simp at ho
   subst ho
   simp
 rw [hi] at e
 exact e
theorem out_l0 {p : List ByteArray} {cs : List (List Int)} {rs : List Rc} (hF : zbu p = some (cs, rs)) (hsm : smallB p = true) (sd : Int) (h0 : 0 ≤ sd) (h3 : sd ≤ 3) :
  ∀ d i, 1 ≤ i → i + d = (zcj (sideL cs sd)).length → Evs (fun k => laws_FnNearOut.l0 k p sd (zcj (sideL cs sd)) (i : Int)) true := by
 have hk := floorF_ok hF
 have h1 := hk.h1
 have w1 := hk.w1
 have hl := sideL_length hk sd
 have hf := foldP_length (sideL cs sd)
 intro d
 induction d with
 | zero =>
  intro i h1' hi
  refine Evs.stepNeg (fun k => by conv => lhs; unfold laws_FnNearOut.l0) (by omega) (Evs.pos (by omega) ?_)
  have z := first_zero hF
  have key : sd = 0 ∨ sd = 3 → (rd (zcj (sideL cs sd)) 0 == 0) = true := by
   intro hs
   rw [beq_iff_eq]
   have : ∃ t, sideL cs sd = 0 :: t := by
    rcases hs with rfl | rfl
    ·have : sideL cs 0 = (List.range (zal cs - 1 + 1)).map (fun c => zaw cs 0 c) := by rw [show zal cs - 1 + 1 = zal cs by omega]; rfl
     rw [this, List.range_succ_eq_map, List.map_cons, z]
     exact ⟨_, rfl⟩
    ·have : sideL cs 3 = (List.range (cs.length - 1 + 1)).map (fun r => zaw cs r 0) := by rw [show cs.length - 1 + 1 = cs.length by omega]; rfl
     rw [this, List.range_succ_eq_map, List.map_cons, z]
     exact ⟨_, rfl⟩
   obtain ⟨t, ht⟩ := this
   rw [ht]
   exact rd_at (i := 0) (foldP_head 0 t)
  by_cases q0 : sd = 0
  ·refine Evs.pos q0 (Evs.pos (by omega) ?_)
   rw [key (.inl q0)]
   exact Evs.const _
  ·refine Evs.neg q0 ?_
   by_cases q3 : sd = 3
   ·refine Evs.pos q3 (Evs.pos (by omega) ?_)
    rw [key (.inr q3)]
    exact Evs.const _
   ·exact Evs.neg q3 (Evs.const _)
 | succ d ih =>
  intro i h1' hi
  have hn := sides_next hF hsm sd (i - 1) (by omega)
  rw [show i - 1 + 1 = i by omega] at hn
  have e := zaa.mk (show wrap64 ((i : Int) - 1) = ((i - 1 : Nat) : Int) by rw [zaq (by omega) (by omega)]; omega)
  refine Evs.stepPos (fun k => by conv => lhs; unfold laws_FnNearOut.l0) (by omega) ?_
  rw [e.out]
  refine Evs.pos (by omega) (Evs.pos (by omega) (Evs.pos (by omega) (Evs.bindS hn (Evs.pos rfl ?_))))
  rw [zbn (by omega)]
  exact ih (i + 1) (by omega) (by omega)
theorem DrawNearOut_ev (l : List Int) (hv : ∀ x ∈ l, 0 ≤ x ∧ x ≤ 255) : ∃ p a, Evs (fun k => spec_DrawNearOut.f k l) (p, a) ∧ Lil p := by
 obtain ⟨b, ho, hb⟩ := open_ev l hv
 obtain ⟨p, q, hE, h1, q1⟩ := Some_ev b hb 0 (by omega) 5 5 (by omega) (by omega) (by omega) (by omega)
 obtain ⟨v1, hv1, -⟩ := pick_ev b hb q (by omega) 24
 obtain ⟨v2, hv2, -⟩ := pick_ev b hb (q + 1) (by omega) (wrap64 (4 + (wrap64 (Int.tdiv v1 23))))
 obtain ⟨v3, hv3, -⟩ := pick_ev b hb (q + 1 + 1) (by omega) 24
 exact ⟨p, wrap64 (v2 - (wrap64 (Int.tdiv v3 23))), Evs.bindS ho (Evs.bind hE (Evs.bind hv1 (Evs.bind hv2 (Evs.bind hv3 (Evs.const _))))), h1⟩
theorem FnNearOut : laws_FnNearOut.Pure := by
 intro l0 h1 h2 h3
 by_cases big : (l0.length : Int) > 1048576
 ·exact ⟨0, by unfold laws_FnNearOut.f; rw [if_pos big]⟩
 ·obtain ⟨p, sd, hp, hl⟩ := DrawNearOut_ev l0 (fun x hx => byte_of (h3 x hx))
  have hsm : smallB p = true := (smallB_iff _).2 hl.small
  have hI : impl_NearOut.f p sd = some (zbo p sd) := by unfold impl_NearOut.f; rw [if_pos hsm]
  have hJ : spec_NearOut.f p sd = some (zbo p sd) := by unfold spec_NearOut.f; rw [if_pos hsm]
  have hle := nearOutF_len p sd
  apply Evs.ex
  refine Evs.neg big (Evs.bind hp (Evs.bindS hI (Evs.bindS hJ (Evs.neg (by simp) (Evs.bind (sameInts_refl _ (by omega)) (Evs.pos rfl ?_))))))
  have bad : zbo p sd = ([], false) → Evs (fun k => laws_FnNearOut.j0 k p sd (zbo p sd).1 (zbo p sd).2 (zbo p sd).1 (zbo p sd).2 (!(zbo p sd).2)) true := by
   intro e
   rw [e]
   exact Evs.stepPos (fun k => by conv => lhs; unfold laws_FnNearOut.j0) (by simp) (Evs.pos (by simp) (Evs.bind (sameInts_refl _ (by simp)) (Evs.const _)))
  rcases planB_cases p with ⟨-, f1⟩ | ⟨-, cs, rs, f1⟩
  ·exact bad (by unfold zbo; rw [f1])
  ·by_cases h03 : 0 ≤ sd ∧ sd ≤ 3
   ·have e : zbo p sd = (zcj (sideL cs sd), true) := by unfold zbo; rw [f1]; exact if_pos h03
    have hk := floorF_ok f1
    obtain ⟨m, hm⟩ : ∃ m, 1 + m = (zcj (sideL cs sd)).length := by
     have hl1 := (sideL_length hk sd).1
     cases hs : sideL cs sd with
     | nil => rw [hs] at hl1; simp at hl1
     | cons a t =>
      have := (List.getElem?_eq_some_iff.1 (foldP_head a t)).1
      exact ⟨(zcj (a :: t)).length - 1, by omega⟩
    rw [e]
    show Evs (fun k => laws_FnNearOut.j0 k p sd (zcj (sideL cs sd)) true (zcj (sideL cs sd)) true false) true
    refine Evs.stepNeg (fun k => by conv => lhs; unfold laws_FnNearOut.j0) (by simp) ?_
    exact out_l0 f1 hsm sd h03.1 h03.2 m 1 (by omega) hm
   ·exact bad (by unfold zbo; rw [f1]; exact if_neg h03)
end Go.Proofs.Ytickdcegnlldjaa.Pure
