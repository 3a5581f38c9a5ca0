/- Part 7 of the proof of FnTight: what the program's functions and the reference's compute. -/
import Derived.Test.YtickdcegnlldjaaCPTIf
set_option linter.unusedSimpArgs false
set_option linter.unusedVariables false
open List renaming getD_eq_getElem?_getD → ycy
open ByteArray renaming empty → ycz
namespace Go.Proofs.Ytickdcegnlldjaa.Hd
open Go.RowKit Go.PW.PrintWords Go.PW.PrintLast Go.PW.PrintMore Go.Proofs.Ytickdcegnlldjaa.PB Go.Proofs.Ytickdcegnlldjaa.SM
theorem xor_nonneg {a b : Int} (ha : 0 ≤ a) (hb : 0 ≤ b) (ha' : a < 1099511627776) (hb' : b < 1099511627776) : 0 ≤ Go.bits .xor .i64 a b := by
 obtain ⟨x, rfl⟩ := Int.eq_ofNat_of_zero_le ha
 obtain ⟨y, rfl⟩ := Int.eq_ofNat_of_zero_le hb
 have hx : x < 2 ^ 40 := by omega
 have hy : y < 2 ^ 40 := by omega
 have h := Nat.xor_lt_two_pow hx hy
 simp only [Go.bits, BitVec.ofInt_natCast, BitVec.toNat_xor, BitVec.toNat_ofNat]
 rw [Nat.mod_eq_of_lt (show x < 2 ^ IntKind.i64.bits by show x < 2 ^ 64; omega), Nat.mod_eq_of_lt (show y < 2 ^ IntKind.i64.bits by show y < 2 ^ 64; omega), IntKind.wrap_i64]
 omega
theorem tmod_in {x n : Int} (hx : 0 ≤ x) (hn : 1 ≤ n) : 0 ≤ Int.tmod x n ∧ Int.tmod x n < n := ⟨Int.tmod_nonneg _ hx, Int.tmod_lt_of_pos _ (by omega)⟩
structure RdB (b : List Int) : Prop where
 len : b.length ≤ 2000
 val : ∀ x ∈ b, 0 ≤ x ∧ x ≤ 255
theorem RdB.byte {b : List Int} (h : RdB b) (i : Int) : 0 ≤ rd b i ∧ rd b i ≤ 255 := by
 unfold rd
 rw [ycy]
 cases e : b[i.toNat]? with
 | none => simp
 | some x => exact h.val x (List.mem_of_getElem? e)
theorem pick_j0_true (b : List Int) (q n : Int) : Evs (fun k => spec_l6Rd_pick.j0 k n true b q) (0, q) := by
 refine Evs.step (h := fun _ => some (0, q)) (fun k => ?_) (Evs.const _)
 show spec_l6Rd_pick.j0 (k + 1) n true b q = _
 simp only [spec_l6Rd_pick.j0, if_true]
theorem pick_ev (b : List Int) (h : RdB b) (q : Nat) (hq : q ≤ 1000000) (n : Int) : ∃ v, Evs (fun k => spec_l6Rd_pick.f k b (q : Int) n) (v, ((q + 1 : Nat) : Int)) ∧ 0 ≤ v ∧ (1 ≤ n → v < n) ∧ (n < 1 → v = 0) := by
 have hw : wrap64 ((q : Int) + 1) = ((q + 1 : Nat) : Int) := by rw [zas (by omega) (by omega)]; omega
 by_cases hn : n < 1
 ·refine ⟨0, ?_, Int.le_refl _, fun h => by omega, fun _ => rfl⟩
  refine Evs.congr (fun k => ?_) (pick_j0_true b ((q + 1 : Nat) : Int) n)
  unfold spec_l6Rd_pick.f
  rw [if_pos hn, hw]
 ·by_cases hl : b.length = 0
  ·refine ⟨0, ?_, Int.le_refl _, fun h => by omega, fun h => absurd h hn⟩
   refine Evs.congr (fun k => ?_) (pick_j0_true b ((q + 1 : Nat) : Int) n)
   unfold spec_l6Rd_pick.f
   rw [if_neg hn, hw, show ((b.length : Int) == 0) = true by rw [beq_iff_eq]; omega]
  ·have hlen := h.len
   have e1 : wrap64 (((q + 1 : Nat) : Int) - 1) = (q : Int) := by rw [zas (by omega) (by omega)]; omega
   have main : ∃ v, (∀ k, spec_l6Rd_pick.j0 (k + 1) n false b ((q + 1 : Nat) : Int) = some (v, ((q + 1 : Nat) : Int))) ∧ 0 ≤ v ∧ v < n := by
    by_cases hql : (q : Int) < (b.length : Int)
    ·have hr := h.byte (q : Int)
     obtain ⟨t0, t1⟩ := tmod_in (x := rd b (q : Int)) (n := n) hr.1 (by omega)
     refine ⟨Int.tmod (rd b (q : Int)) n, fun k => ?_, t0, t1⟩
     simp only [spec_l6Rd_pick.j0, Bool.false_eq_true, if_false]
     rw [e1, if_pos hql, if_pos (by omega), if_neg (by omega), zas (x := rd b (q : Int)) (by omega) (by omega)]
    ·have i1 := tmod_in (x := (q : Int)) (n := (b.length : Int)) (by omega) (by omega)
     have e2 : wrap64 (wrap64 ((q : Int) * 7) + 3) = (q : Int) * 7 + 3 := by rw [zas (x := (q : Int) * 7) (by omega) (by omega), zas (by omega) (by omega)]
     have i2 := tmod_in (x := (q : Int) * 7 + 3) (n := (b.length : Int)) (by omega) (by omega)
     have r1 := h.byte (Int.tmod (q : Int) (b.length : Int))
     have r2 := h.byte (Int.tmod ((q : Int) * 7 + 3) (b.length : Int))
     have d1 : 0 ≤ Int.tdiv (q : Int) (b.length : Int) ∧ Int.tdiv (q : Int) (b.length : Int) ≤ 1000000 := by
      rw [Int.tdiv_eq_ediv_of_nonneg (by omega)]
      refine ⟨Int.ediv_nonneg (by omega) (by omega), Int.le_trans (Int.ediv_le_self _ (by omega)) (by omega)⟩
     have key : ∃ v, (∀ k, spec_l6Rd_pick.j0 (k + 1) n false b ((q + 1 : Nat) : Int) = some (v, ((q + 1 : Nat) : Int))) ∧ 0 ≤ v ∧ v < n := by
      have hform : ∀ k, spec_l6Rd_pick.j0 (k + 1) n false b ((q + 1 : Nat) : Int) = some (Int.tmod (Go.bits .xor .i64 (rd b (Int.tmod (q : Int) (b.length : Int)) * 131 + rd b (Int.tmod ((q : Int) * 7 + 3) (b.length : Int)) * 1117 + (q : Int) * 29 + Int.tdiv (q : Int) (b.length : Int) * 53) (wrap64 (Int.tdiv (rd b (Int.tmod (q : Int) (b.length : Int)) * 131 + rd b (Int.tmod ((q : Int) * 7 + 3) (b.length : Int)) * 1117 + (q : Int) * 29 + Int.tdiv (q : Int) (b.length : Int) * 53) 64))) n, ((q + 1 : Nat) : Int)) := fun k => by
       simp only [spec_l6Rd_pick.j0, Bool.false_eq_true, if_false]
       rw [e1, if_neg hql, if_neg (by omega), if_pos i1.1, if_pos i1.2, e2, if_pos i2.1, if_pos i2.2, if_neg (by omega)]
       generalize rd b (Int.tmod (q : Int) (b.length : Int)) = a at *
       generalize rd b (Int.tmod ((q : Int) * 7 + 3) (b.length : Int)) = c at *
       generalize Int.tdiv (q : Int) (b.length : Int) = d at *
       rw [zas (x := a) (by omega) (by omega), zas (x := a * 131) (by omega) (by omega), zas (x := c) (by omega) (by omega), zas (x := c * 1117) (by omega) (by omega), zas (x := a * 131 + c * 1117) (by omega) (by omega), zas (x := (q : Int) * 29) (by omega) (by omega), zas (x := a * 131 + c * 1117 + (q : Int) * 29) (by omega) (by omega), zas (x := d) (by omega) (by omega), zas (x := d * 53) (by omega) (by omega), zas (x := a * 131 + c * 1117 + (q : Int) * 29 + d * 53) (by omega) (by omega)]
      have hX : 0 ≤ rd b (Int.tmod (q : Int) (b.length : Int)) * 131 + rd b (Int.tmod ((q : Int) * 7 + 3) (b.length : Int)) * 1117 + (q : Int) * 29 + Int.tdiv (q : Int) (b.length : Int) * 53 ∧ rd b (Int.tmod (q : Int) (b.length : Int)) * 131 + rd b (Int.tmod ((q : Int) * 7 + 3) (b.length : Int)) * 1117 + (q : Int) * 29 + Int.tdiv (q : Int) (b.length : Int) * 53 < 1099511627776 := by omega
      generalize rd b (Int.tmod (q : Int) (b.length : Int)) * 131 + rd b (Int.tmod ((q : Int) * 7 + 3) (b.length : Int)) * 1117 + (q : Int) * 29 + Int.tdiv (q : Int) (b.length : Int) * 53 = X at *
      have hd : 0 ≤ Int.tdiv X 64 ∧ Int.tdiv X 64 ≤ X := by
       rw [Int.tdiv_eq_ediv_of_nonneg hX.1]
       exact ⟨Int.ediv_nonneg hX.1 (by omega), Int.ediv_le_self _ hX.1⟩
      rw [zas (x := Int.tdiv X 64) (by omega) (by omega)] at hform
      obtain ⟨t0, t1⟩ := tmod_in (n := n) (xor_nonneg hX.1 hd.1 hX.2 (by omega)) (by omega)
      exact ⟨_, hform, t0, t1⟩
     exact key
   obtain ⟨v, hv, v0, v1⟩ := main
   refine ⟨v, ?_, v0, fun _ => v1, fun h => absurd h hn⟩
   refine Evs.congr (h := fun k => spec_l6Rd_pick.j0 k n false b ((q + 1 : Nat) : Int)) (fun k => ?_) (Evs.step (h := fun _ => some (v, ((q + 1 : Nat) : Int))) hv (Evs.const _))
   unfold spec_l6Rd_pick.f
   rw [if_neg hn, hw, show ((b.length : Int) == 0) = false by rw [beq_eq_false_iff_ne]; omega]
theorem of_ev (b : List Int) (h : RdB b) (q : Nat) (hq : q ≤ 1000000) (L : List ByteArray) (hL : 1 ≤ L.length) : ∃ s, Evs (fun k => spec_l6Rd_of.f k b (q : Int) L) (s, ((q + 1 : Nat) : Int)) ∧ s ∈ L := by
 obtain ⟨v, hv, v0, v1, -⟩ := pick_ev b h q hq (L.length : Int)
 have hv1 := v1 (by omega)
 obtain ⟨i, rfl⟩ := Int.eq_ofNat_of_zero_le v0
 refine ⟨rdOf ycz L (i : Int), Evs.bind hv (Evs.pos (by omega) (Evs.pos hv1 (Evs.const _))), ?_⟩
 rw [rdOf_get L i (by omega)]
 exact List.getElem_mem _
theorem open_ev (l : List Int) (hv : ∀ x ∈ l, 0 ≤ x ∧ x ≤ 255) : ∃ b, spec_l6Open.f l = some (b, 0) ∧ RdB b := by
 unfold spec_l6Open.f
 by_cases h : (l.length : Int) > 2000
 ·rw [if_pos h, if_pos (by omega)]
  exact ⟨_, rfl, by simp; omega, fun x hx => hv x (List.mem_of_mem_take hx)⟩
 ·rw [if_neg h]
  exact ⟨_, rfl, by omega, hv⟩
theorem empty_l1 (n m : Nat) (hm : m ≤ 100) (i : Nat) (hi : i ≤ 100) (x5 : List ByteArray) (h5 : x5.length ≤ 100) (r : List ByteArray) (hnext : Evs (fun k => spec_l91Empty.l0 k (n : Int) (m : Int) (x5 ++ [strOfNums (List.replicate m 97)]) ((i + 1 : Nat) : Int)) r) :
  ∀ d j, j + d = m → Evs (fun k => spec_l91Empty.l1 k (n : Int) (m : Int) x5 (i : Int) (List.replicate j 97) (j : Int)) r := by
 intro d
 induction d with
 | zero =>
  intro j hj
  obtain rfl : j = m := by omega
  refine Evs.step (fun k => ?_) hnext
  conv => lhs; unfold spec_l91Empty.l1
  rw [if_neg (by omega), if_pos (by omega), zbr (by omega)]
 | succ d ih =>
  intro j hj
  have hnx := ih (j + 1) (by omega)
  rw [List.replicate_succ'] at hnx
  refine Evs.step (fun k => ?_) hnx
  conv => lhs; unfold spec_l91Empty.l1
  rw [if_pos (by omega), if_pos (by simp; omega), zbr (by omega)]
theorem empty_l0 (n m : Nat) (hn : n ≤ 100) (hm : m ≤ 100) : ∀ d i, i + d = n → Evs (fun k => spec_l91Empty.l0 k (n : Int) (m : Int) (List.replicate i (strOfNums (List.replicate m 97))) (i : Int)) (List.replicate n (strOfNums (List.replicate m 97))) := by
 intro d
 induction d with
 | zero =>
  intro i hi
  obtain rfl : i = n := by omega
  refine Evs.step (h := fun _ => some (List.replicate i (strOfNums (List.replicate m 97)))) (fun k => ?_) (Evs.const _)
  conv => lhs; unfold spec_l91Empty.l0
  rw [if_neg (by omega)]
 | succ d ih =>
  intro i hi
  have hnx := ih (i + 1) (by omega)
  rw [List.replicate_succ'] at hnx
  have := empty_l1 n m hm i (by omega) (List.replicate i (strOfNums (List.replicate m 97))) (by simp; omega) _ hnx m 0 (by omega)
  refine Evs.step (fun k => ?_) this
  conv => lhs; unfold spec_l91Empty.l0
  rw [if_pos (by omega)]
  rfl
theorem Empty_ev (n m : Nat) (hn : n ≤ 100) (hm : m ≤ 100) : ∃ p, Evs (fun k => spec_l91Empty.f k (n : Int) (m : Int)) p ∧ Mid p m ∧ p.length = n := by
 refine ⟨_, empty_l0 n m hn hm n 0 (by omega), ⟨by simp; omega, hm, fun s hs => ?_⟩, by simp⟩
 rw [List.eq_of_mem_replicate hs]
 show (List.map _ (List.replicate m (97 : Int))).toArray.size = m
 simp
theorem rowText_size (row : List Int) : (rowText row).size = row.length := by
 show (List.map letterOf row).toArray.size = _
 simp
theorem planF_mid {h w : Nat} {g : Nat → Nat → Int} {p : List ByteArray} (h1 : 1 ≤ h) (e : planF (zbc h w g) = (p, true)) : Mid p w ∧ p.length = h := by
 rcases planF_cases (zbc h w g) with ⟨hO, hp⟩ | ⟨_, hp⟩
 ·rw [hp] at e
  injection e with e1 _
  subst e1
  obtain ⟨s1, s2, s3, s4, s5⟩ := (zbx _).1 hO.shape
  rw [zbk] at s1 s2
  have hw : zaj (zbc h w g) = w := by
   have := gridOf_get (hi := h) (wi := w) (g := g) (r := 0) (by omega)
   unfold zaj
   rw [ycy, this]
   simp
  rw [hw] at s3 s4
  have hl : (zbq (canon (zbc h w g))).length = h := by rw [text_length, zbk]
  refine ⟨⟨by omega, by omega, fun s hs => ?_⟩, hl⟩
  obtain ⟨r, hr, rfl⟩ := List.mem_map.1 hs
  rw [rowText_size]
  unfold canon canonL at hr
  obtain ⟨r0, hr0, rfl⟩ := List.mem_map.1 hr
  rw [List.length_map]
  exact gridOf_row r0 hr0
 ·rw [hp] at e
  injection e with _ e2
  cases e2
theorem split_mid {p : List ByteArray} {m : Nat} (h : Mid p m) (h1 : 1 ≤ p.length) {a k : Int} {t : ByteArray} {r : List ByteArray} (e : splitF p a t k = (r, true)) : Mid r m ∧ r.length = p.length := by
 unfold splitF at e
 cases hF : zcg p with
 | none => rw [hF] at e; injection e with _ e; cases e
 | some z =>
  obtain ⟨cs, rs⟩ := z
  rw [hF] at e
  have F := floor_facts hF
  dsimp only at e
  split at e
  ·by_cases hc : 1 ≤ k ∧ k < (if isH t = true then (rs.getD a.toNat zcf).f2 else (rs.getD a.toNat zcf).f3)
   ·rw [if_pos hc] at e
    have hw : zaj cs = m := by
     rw [← F.wide, wideOf_numsOf]
     refine h.row _ ?_
     rw [ycy, List.getElem?_eq_getElem (by omega)]
     exact List.getElem_mem _
    obtain ⟨q1, q2⟩ := planF_mid F.ok.h1 e
    rw [hw] at q1
    exact ⟨q1, by rw [q2, F.len]⟩
   ·rw [if_neg hc] at e
    injection e with _ e
    cases e
  ·injection e with _ e
   cases e
theorem cut_l0 (b : List Int) (hb : RdB b) (many m n : Nat) (hmany : many ≤ 1000) (hn : 1 ≤ n) : ∀ d t (p : List ByteArray) (q : Nat), t + d = many → Mid p m → p.length = n → q + 3 * d ≤ 100000 → ∃ p' q', Evs (fun k => spec_l91Cut.l0 k p (many : Int) (t : Int) b (q : Int)) (p', ((q' : Nat) : Int)) ∧ Mid p' m ∧ p'.length = n ∧ q' ≤ q + 3 * d := by
 intro d
 induction d with
 | zero =>
  intro t p q ht hp hl hq
  refine ⟨p, q, Evs.step (h := fun _ => some (p, (q : Int))) (fun k => ?_) (Evs.const _), hp, hl, by omega⟩
  conv => lhs; unfold spec_l91Cut.l0
  rw [if_neg (by omega)]
 | succ d ih =>
  intro t p q ht hp hl hq
  obtain ⟨rm, _, _, hrm⟩ := l1Rooms_any p hp.lil
  obtain ⟨v1, hv1, -, -, -⟩ := pick_ev b hb q (by omega) rm
  obtain ⟨s, hs, -⟩ := of_ev b hb (q + 1) (by omega) [(⟨#[104]⟩ : ByteArray), (⟨#[118]⟩ : ByteArray)] (by simp)
  obtain ⟨v2, hv2, -, -, -⟩ := pick_ev b hb (q + 1 + 1) (by omega) 3
  have hsp := PlanSplit_ev p v1 s (wrap64 (1 + v2)) hp.lil.small
  rcases hr : splitF p v1 s (wrap64 (1 + v2)) with ⟨r, ok⟩
  rw [hr] at hsp
  cases ok with
  | true =>
   obtain ⟨m1, m2⟩ := split_mid hp (by omega) hr
   obtain ⟨p', q', hE, h1, h2, h3⟩ := ih (t + 1) r (q + 1 + 1 + 1) (by omega) m1 (by omega) (by omega)
   refine ⟨p', q', Evs.step (h := fun k => ((spec_l1Rooms.f k p).bind fun t221 => ((spec_l6Rd_pick.f k b (q : Int) t221).bind fun bt222 => ((spec_l6Rd_of.f k b bt222.2 (([(⟨#[104]⟩ : ByteArray), (⟨#[118]⟩ : ByteArray)] : List ByteArray))).bind fun bt227 => ((spec_l6Rd_pick.f k b bt227.2 3).bind fun bt229 => ((spec_PlanSplit.f k p bt222.1 bt227.1 (wrap64 (1 + bt229.1))).bind fun bt231 => (if bt231.2 = true then (spec_l91Cut.l0 k bt231.1 (many : Int) (wrap64 ((t : Int) + 1)) b bt229.2) else (spec_l91Cut.l0 k p (many : Int) (wrap64 ((t : Int) + 1)) b bt229.2)))))))) (fun k => ?_) (Evs.bind hrm (Evs.bind hv1 (Evs.bind hs (Evs.bind hv2 (Evs.bind hsp (Evs.pos rfl ?_)))))), h1, h2, by omega⟩
   ·conv => lhs; unfold spec_l91Cut.l0
    rw [if_pos (by omega)]
   ·rw [zbr (by omega)]
    exact hE
  | false =>
   obtain ⟨p', q', hE, h1, h2, h3⟩ := ih (t + 1) p (q + 1 + 1 + 1) (by omega) hp hl (by omega)
   refine ⟨p', q', Evs.step (h := fun k => ((spec_l1Rooms.f k p).bind fun t221 => ((spec_l6Rd_pick.f k b (q : Int) t221).bind fun bt222 => ((spec_l6Rd_of.f k b bt222.2 (([(⟨#[104]⟩ : ByteArray), (⟨#[118]⟩ : ByteArray)] : List ByteArray))).bind fun bt227 => ((spec_l6Rd_pick.f k b bt227.2 3).bind fun bt229 => ((spec_PlanSplit.f k p bt222.1 bt227.1 (wrap64 (1 + bt229.1))).bind fun bt231 => (if bt231.2 = true then (spec_l91Cut.l0 k bt231.1 (many : Int) (wrap64 ((t : Int) + 1)) b bt229.2) else (spec_l91Cut.l0 k p (many : Int) (wrap64 ((t : Int) + 1)) b bt229.2)))))))) (fun k => ?_) (Evs.bind hrm (Evs.bind hv1 (Evs.bind hs (Evs.bind hv2 (Evs.bind hsp (Evs.neg (by simp) ?_)))))), h1, h2, by omega⟩
   ·conv => lhs; unfold spec_l91Cut.l0
    rw [if_pos (by omega)]
   ·rw [zbr (by omega)]
    exact hE
theorem Cut_ev (b : List Int) (hb : RdB b) (q : Nat) (hq : q ≤ 10000) (p : List ByteArray) (m : Nat) (hp : Mid p m) (h1 : 1 ≤ p.length) (many : Int) (h0 : 0 ≤ many) (hm : many ≤ 100) : ∃ p' q', Evs (fun k => spec_l91Cut.f k b (q : Int) p many) (p', ((q' : Nat) : Int)) ∧ Mid p' m ∧ p'.length = p.length ∧ q' ≤ q + 300 := by
 obtain ⟨n, rfl⟩ := Int.eq_ofNat_of_zero_le h0
 obtain ⟨p', q', hE, h1, h2, h3⟩ := cut_l0 b hb n m p.length (by omega) h1 n 0 p q (by omega) hp rfl (by omega)
 exact ⟨p', q', hE, h1, h2, by omega⟩
theorem plan_j1 (b : List Int) (hb : RdB b) (q : Nat) (hq : q ≤ 1000) (n m : Nat) (n1 : 1 ≤ n) (n7 : n ≤ 10) (m7 : m ≤ 10) (c : Bool) (hc : c = true → n = 4 ∧ m = 4) : ∃ p q', Evs (fun k => spec_l91Plan.j1 k (n : Int) (m : Int) c b (q : Int)) (p, ((q' : Nat) : Int)) ∧ Mid p m ∧ p.length = n ∧ q' ≤ q + 400 := by
 cases c with
 | true =>
  obtain ⟨rfl, rfl⟩ := hc rfl
  obtain ⟨v, hv, v0, v1, -⟩ := pick_ev b hb q (by omega) 4
  obtain ⟨p, q', hE, h1, h2, h3⟩ := Cut_ev b hb (q + 1) (by omega) [(⟨#[97, 97, 97, 98]⟩ : ByteArray), (⟨#[99, 100, 100, 98]⟩ : ByteArray), (⟨#[99, 100, 100, 98]⟩ : ByteArray), (⟨#[99, 101, 101, 101]⟩ : ByteArray)] 4 ⟨by simp, by omega, fun s hs => by simp at hs; rcases hs with rfl | rfl | rfl <;> rfl⟩ (by simp) v v0 (by have := v1 (by omega); omega)
  refine ⟨p, q', Evs.step (h := fun k => (spec_l6Rd_pick.f k b (q : Int) 4).bind fun bt263 => ((spec_l91Cut.f k b bt263.2 (([(⟨#[97, 97, 97, 98]⟩ : ByteArray), (⟨#[99, 100, 100, 98]⟩ : ByteArray), (⟨#[99, 100, 100, 98]⟩ : ByteArray), (⟨#[99, 101, 101, 101]⟩ : ByteArray)] : List ByteArray)) bt263.1).bind fun bt265 => (some (bt265.1, bt265.2)))) (fun k => ?_) (Evs.bind hv (Evs.bind hE (Evs.const _))), h1, h2, by omega⟩
  show spec_l91Plan.j1 (k + 1) _ _ true b (q : Int) = _
  simp only [spec_l91Plan.j1, if_true]
 | false =>
  obtain ⟨e, hE0, e1, e2⟩ := Empty_ev n m (by omega) (by omega)
  obtain ⟨v, hv, v0, v1, -⟩ := pick_ev b hb q (by omega) 9
  obtain ⟨p, q', hE, h1, h2, h3⟩ := Cut_ev b hb (q + 1) (by omega) e m e1 (by omega) v v0 (by have := v1 (by omega); omega)
  refine ⟨p, q', Evs.step (h := fun k => (spec_l91Empty.f k (n : Int) (m : Int)).bind fun t269 => ((spec_l6Rd_pick.f k b (q : Int) 9).bind fun bt272 => ((spec_l91Cut.f k b bt272.2 t269 bt272.1).bind fun bt274 => (some (bt274.1, bt274.2))))) (fun k => ?_) (Evs.bind hE0 (Evs.bind hv (Evs.bind hE (Evs.const _)))), h1, by omega, by omega⟩
  show spec_l91Plan.j1 (k + 1) _ _ false b (q : Int) = _
  simp only [spec_l91Plan.j1, Bool.false_eq_true, if_false]
theorem plan_j0 (b : List Int) (hb : RdB b) (q : Nat) (hq : q ≤ 900) (n m : Nat) (n1 : 1 ≤ n) (n7 : n ≤ 10) (m7 : m ≤ 10) (c : Bool) (hc : c = true → n = 3 ∧ m = 3) : ∃ p q', Evs (fun k => spec_l91Plan.j0 k (n : Int) (m : Int) c b (q : Int)) (p, ((q' : Nat) : Int)) ∧ Mid p m ∧ p.length = n ∧ q' ≤ q + 500 := by
 cases c with
 | true =>
  obtain ⟨rfl, rfl⟩ := hc rfl
  obtain ⟨v, hv, v0, v1, -⟩ := pick_ev b hb q (by omega) 2
  obtain ⟨p, q', hE, h1, h2, h3⟩ := Cut_ev b hb (q + 1) (by omega) [(⟨#[97, 97, 98]⟩ : ByteArray), (⟨#[99, 100, 98]⟩ : ByteArray), (⟨#[99, 101, 101]⟩ : ByteArray)] 3 ⟨by simp, by omega, fun s hs => by simp at hs; rcases hs with rfl | rfl | rfl <;> rfl⟩ (by simp) v v0 (by have := v1 (by omega); omega)
  refine ⟨p, q', Evs.step (h := fun k => (spec_l6Rd_pick.f k b (q : Int) 2).bind fun bt252 => ((spec_l91Cut.f k b bt252.2 (([(⟨#[97, 97, 98]⟩ : ByteArray), (⟨#[99, 100, 98]⟩ : ByteArray), (⟨#[99, 101, 101]⟩ : ByteArray)] : List ByteArray)) bt252.1).bind fun bt254 => (some (bt254.1, bt254.2)))) (fun k => ?_) (Evs.bind hv (Evs.bind hE (Evs.const _))), h1, h2, by omega⟩
  show spec_l91Plan.j0 (k + 1) _ _ true b (q : Int) = _
  simp only [spec_l91Plan.j0, if_true]
 | false =>
  by_cases h4 : (n : Int) = 4 ∧ (m : Int) = 4
  ·obtain ⟨v, hv, v0, v1, -⟩ := pick_ev b hb q (by omega) 2
   obtain ⟨p, q', hE, h1, h2, h3⟩ := plan_j1 b hb (q + 1) (by omega) n m n1 n7 m7 (v == 0) (fun _ => by omega)
   refine ⟨p, q', Evs.step (h := fun k => (spec_l6Rd_pick.f k b (q : Int) 2).bind fun bt258 => (spec_l91Plan.j1 k (n : Int) (m : Int) (bt258.1 == 0) b bt258.2)) (fun k => ?_) (Evs.bind hv hE), h1, h2, by omega⟩
   show spec_l91Plan.j0 (k + 1) _ _ false b (q : Int) = _
   simp only [spec_l91Plan.j0, Bool.false_eq_true, if_false]
   rw [if_pos h4.1, if_pos h4.2]
  ·obtain ⟨p, q', hE, h1, h2, h3⟩ := plan_j1 b hb q (by omega) n m n1 n7 m7 false (fun h => by cases h)
   refine ⟨p, q', Evs.step (fun k => ?_) hE, h1, h2, by omega⟩
   show spec_l91Plan.j0 (k + 1) _ _ false b (q : Int) = _
   simp only [spec_l91Plan.j0, Bool.false_eq_true, if_false]
   by_cases hn : (n : Int) = 4
   ·rw [if_pos hn, if_neg (fun h => h4 ⟨hn, h⟩)]
   ·rw [if_neg hn]
theorem Plan_ev (b : List Int) (hb : RdB b) (q : Nat) (hq : q ≤ 800) (n m : Nat) (n1 : 1 ≤ n) (n7 : n ≤ 10) (m7 : m ≤ 10) : ∃ p q', Evs (fun k => spec_l91Plan.f k b (q : Int) (n : Int) (m : Int)) (p, ((q' : Nat) : Int)) ∧ Mid p m ∧ p.length = n ∧ q' ≤ q + 600 := by
 by_cases h3 : (n : Int) = 3 ∧ (m : Int) = 3
 ·obtain ⟨v, hv, v0, v1, -⟩ := pick_ev b hb q (by omega) 2
  obtain ⟨p, q', hE, h1, h2, h3'⟩ := plan_j0 b hb (q + 1) (by omega) n m n1 n7 m7 (v == 0) (fun _ => by omega)
  refine ⟨p, q', Evs.congr (h := fun k => (spec_l6Rd_pick.f k b (q : Int) 2).bind fun bt247 => (spec_l91Plan.j0 k (n : Int) (m : Int) (bt247.1 == 0) b bt247.2)) (fun k => ?_) (Evs.bind hv hE), h1, h2, by omega⟩
  unfold spec_l91Plan.f
  rw [if_pos h3.1, if_pos h3.2]
 ·obtain ⟨p, q', hE, h1, h2, h3'⟩ := plan_j0 b hb q (by omega) n m n1 n7 m7 false (fun h => by cases h)
  refine ⟨p, q', Evs.congr (fun k => ?_) hE, h1, h2, by omega⟩
  unfold spec_l91Plan.f
  by_cases hn : (n : Int) = 3
  ·rw [if_pos hn, if_neg (fun h => h3 ⟨hn, h⟩)]
  ·rw [if_neg hn]
theorem Some_ev (b : List Int) (hb : RdB b) (q : Nat) (hq : q ≤ 700) (rows cols : Int) (r1 : 1 ≤ rows) (r7 : rows ≤ 9) (c1 : 1 ≤ cols) (c7 : cols ≤ 9) : ∃ p q', Evs (fun k => spec_l91Some.f k b (q : Int) rows cols) (p, ((q' : Nat) : Int)) ∧ Lil p ∧ q' ≤ 2000 := by
 obtain ⟨v1, hv1, a0, a1, -⟩ := pick_ev b hb q (by omega) rows
 obtain ⟨v2, hv2, b0, b1, -⟩ := pick_ev b hb (q + 1) (by omega) cols
 have a1 := a1 r1
 have b1 := b1 c1
 obtain ⟨i, rfl⟩ := Int.eq_ofNat_of_zero_le a0
 obtain ⟨j, rfl⟩ := Int.eq_ofNat_of_zero_le b0
 have e1 : wrap64 (1 + (i : Int)) = ((i + 1 : Nat) : Int) := by rw [zas (by omega) (by omega)]; omega
 have e2 : wrap64 (1 + (j : Int)) = ((j + 1 : Nat) : Int) := by rw [zas (by omega) (by omega)]; omega
 obtain ⟨p, q', hE, h1, h2, h3⟩ := Plan_ev b hb (q + 1 + 1) (by omega) (i + 1) (j + 1) (by omega) (by omega) (by omega)
 obtain ⟨v3, hv3, c0, -, -⟩ := pick_ev b hb q' (by omega) 50
 have hlast : wrap64 (((i + 1 : Nat) : Int) - 1) = (i : Int) := by rw [zas (by omega) (by omega)]; omega
 have hsz : ∀ k (hk : k < p.length), (p[k]'hk).size = j + 1 := fun k hk => h1.row _ (List.getElem_mem hk)
 by_cases z0 : v3 = 0
 ·refine ⟨p.set i (rdOf ycz p (i : Int) ++ (⟨#[97]⟩ : ByteArray)), q' + 1, Evs.bind hv1 (Evs.bind hv2 ?_), ⟨by rw [List.length_set]; omega, fun s hs => ?_⟩, by omega⟩
  ·dsimp only
   rw [e1, e2]
   refine Evs.bind hE (Evs.bind hv3 (Evs.pos z0 ?_))
   simp only [Option.bind_some, List.nil_append, List.length_nil]
   refine Evs.pos (by omega) ?_
   rw [hlast]
   refine Evs.pos (by omega) (Evs.pos (by omega) (Evs.pos ?_ ?_))
   ·rw [rdOf_get p i (by omega), hsz i (by omega)]; omega
   ·rw [Int.toNat_natCast]; exact Evs.const _
  ·rcases List.mem_or_eq_of_mem_set hs with h | h
   ·rw [h1.row s h]; omega
   ·subst h
    rw [rdOf_get p i (by omega), ByteArray.size_append, hsz i (by omega)]
    show j + 1 + 1 ≤ 100
    omega
 ·by_cases z1 : v3 = 1
  ·refine ⟨p.set 0 ((⟨#[122]⟩ : ByteArray) ++ ((rdOf ycz p 0).extract 1 (rdOf ycz p 0).size)), q' + 1, Evs.bind hv1 (Evs.bind hv2 ?_), ⟨by rw [List.length_set]; omega, fun s hs => ?_⟩, by omega⟩
   ·dsimp only
    rw [e1, e2]
    refine Evs.bind hE (Evs.bind hv3 (Evs.neg z0 (Evs.pos z1 ?_)))
    simp only [Option.bind_some, List.nil_append, List.length_nil]
    have hr0 : rdOf ycz p 0 = p[0]'(by omega) := rdOf_get p 0 (by omega)
    refine Evs.pos (by omega) (Evs.pos (by omega) (Evs.pos ?_ (Evs.pos ?_ ?_)))
    ·rw [hr0, hsz 0 (by omega)]; omega
    ·rw [hr0, ByteArray.size_extract, hsz 0 (by omega)]; omega
    ·exact Evs.const _
   ·rcases List.mem_or_eq_of_mem_set hs with h | h
    ·rw [h1.row s h]; omega
    ·subst h
     have hr0 : rdOf ycz p 0 = p[0]'(by omega) := rdOf_get p 0 (by omega)
     rw [ByteArray.size_append, ByteArray.size_extract, hr0, hsz 0 (by omega)]
     show 1 + _ ≤ 100
     omega
  ·refine ⟨p, q' + 1, Evs.bind hv1 (Evs.bind hv2 ?_), h1.lil, by omega⟩
   dsimp only
   rw [e1, e2]
   exact Evs.bind hE (Evs.bind hv3 (Evs.neg z0 (Evs.neg z1 (Evs.const _))))
theorem One_ev (l : List Int) (hv : ∀ x ∈ l, 0 ≤ x ∧ x ≤ 255) : ∃ p, Evs (fun k => spec_l91One.f k l) p ∧ Lil p := by
 obtain ⟨b, ho, hb⟩ := open_ev l hv
 obtain ⟨p, q, hE, h1, -⟩ := Some_ev b hb 0 (by omega) 5 5 (by omega) (by omega) (by omega) (by omega)
 exact ⟨p, Evs.bindS ho (Evs.bind hE (Evs.const _)), h1⟩
theorem foldl_sum (xs : List Int) : ∀ a : Int, xs.foldl (· + ·) a = a + xs.sum := by
 induction xs with
 | nil => intro a; simp
 | cons x r ih =>
  intro a
  rw [List.foldl_cons, ih, List.sum_cons]
  omega
theorem sumArea_sum (rs : List Rc) : zbt rs = (rs.map areaR).sum := by
 unfold zbt
 rw [foldl_sum]
 omega
structure RoomFacts (p : List ByteArray) (rs : List Rc) : Prop where
 rooms : zcn p = ((rs.length : Int), true)
 areas : planAreasF p = (rs.map areaR, true)
 sum : (rs.map areaR).sum = (p.length : Int) * ((rdOf ycz p 0).size : Int)
 many : rs.length ≤ 9
 one : 1 ≤ rs.length
 high : 1 ≤ p.length ∧ p.length ≤ 6
 wide : 1 ≤ (rdOf ycz p 0).size ∧ (rdOf ycz p 0).size ≤ 6
 bound : ∀ a ∈ rs, boundR a p.length (rdOf ycz p 0).size
 areab : ∀ x ∈ rs.map areaR, 1 ≤ x ∧ x ≤ 36
theorem room_facts {p : List ByteArray} {cs : List (List Int)} {rs : List Rc} (h : zcg p = some (cs, rs)) : RoomFacts p rs := by
 have F := floor_facts h
 have hs := floor_sum h
 have e : (rdOf ycz p 0).size = zaj (zak p) := by rw [wideOf_numsOf]; rfl
 have o1 := F.ok.h1
 have o2 := F.ok.h6
 have o3 := F.ok.w1
 have o4 := F.ok.w6
 have l1 := F.len
 have l2 := F.wide
 rw [sumArea_sum] at hs
 refine ⟨by unfold zcn; rw [h], by unfold planAreasF; rw [h], by rw [e]; exact hs, F.ok.many, ?_, by omega, by omega, by rw [e, l1, l2]; exact F.ok.bound, ?_⟩
 ·rcases Nat.eq_zero_or_pos rs.length with h0 | h0
  ·have : rs = [] := List.length_eq_zero_iff.1 h0
   subst this
   have h1 : (1 : Int) * 1 ≤ (p.length : Int) * (zaj (zak p) : Int) := Int.mul_le_mul (by omega) (by omega) (by omega) (by omega)
   simp at hs
   omega
  ·exact h0
 ·intro x hx
  obtain ⟨a, ha, rfl⟩ := List.mem_map.1 hx
  have hb := F.ok.bound a ha
  have h36 := area_bound hb o2 o4
  obtain ⟨b1, b2, b3, b4, b5, b6⟩ := hb
  refine ⟨?_, h36.2⟩
  unfold areaR
  have := Int.mul_le_mul (show (1 : Int) ≤ a.f2 by omega) (show (1 : Int) ≤ a.f3 by omega) (by omega) (by omega)
  omega
end Go.Proofs.Ytickdcegnlldjaa.Hd
namespace Go.Proofs.Ytickdcegnlldjaa.Hd
open Go.RowKit Go.PW.PrintWords Go.PW.PrintLast Go.PW.PrintMore Go.Proofs.Ytickdcegnlldjaa.PB
theorem same_plan {X : List (List Int)} (h : OkG X) : Evs (fun k => laws_sameTexts.f k (planOf X) (planOf X)) true := sameTexts_refl _ (by have := h.dims; rw [h.plength]; omega)
theorem same_nil : Evs (fun k => laws_sameTexts.f k ([] : List ByteArray) []) true := sameTexts_refl _ (by simp)
theorem kept_last {R : List (List Int)} (h1 : 1 ≤ R.length) (w : Nat) : ∀ c, c < w → ∃ c' ∈ zco R w, c' ≤ c ∧ (∀ row ∈ R, rd row (c : Int) = rd row (c' : Int)) ∧ ∀ x ∈ zco R w, x ≤ c → x ≤ c' := by
 intro c
 induction c with
 | zero =>
  intro hc
  refine ⟨0, ?_, Nat.le_refl _, fun _ _ => rfl, fun _ _ h => h⟩
  unfold zco
  rw [List.mem_filter, List.mem_range]
  refine ⟨hc, ?_⟩
  cases h : newP R 0 with
  | true => rfl
  | false => have := (newP_false h1 h).1; omega
 | succ c ih =>
  intro hc
  cases h : newP R (c + 1) with
  | true => exact ⟨c + 1, by unfold zco; rw [List.mem_filter, List.mem_range]; exact ⟨hc, h⟩, Nat.le_refl _, fun _ _ => rfl, fun _ _ h => h⟩
  | false =>
   obtain ⟨c', m, l, e, hx⟩ := ih (by omega)
   refine ⟨c', m, by omega, fun row hr => ?_, fun x hm hxc => ?_⟩
   ·rw [(newP_false h1 h).2 row hr]
    exact e row hr
   ·refine hx x hm ?_
    rcases Nat.lt_or_eq_of_le hxc with h2 | h2
    ·omega
    ·subst h2
     have := (List.mem_filter.1 hm).2
     rw [h] at this
     cases this
theorem kept_new {R : List (List Int)} {w i : Nat} (hi : i < (zco R w).length) : newP R (zco R w)[i] = true := (List.mem_filter.1 (List.getElem_mem hi)).2
theorem kept_next {R : List (List Int)} (h1 : 1 ≤ R.length) {w i : Nat} (hi : i + 1 < (zco R w).length) : ∃ row ∈ R, rd row (((zco R w)[i + 1] : Nat) : Int) ≠ rd row (((zco R w)[i] : Nat) : Int) := by
 have hn := kept_new hi
 have hm := kept_mono (show i < i + 1 by omega) hi
 have hlt := kept_lt hi
 obtain ⟨c', m, l, e, hx⟩ := kept_last h1 w ((zco R w)[i + 1] - 1) (by omega)
 have hc1 := hx _ (List.getElem_mem (show i < (zco R w).length by omega)) (by omega)
 obtain ⟨j, hj, ej⟩ := List.getElem_of_mem m
 have hji : j ≤ i := by
  rcases Nat.lt_or_ge i j with h | h
  ·exfalso
   rcases Nat.lt_or_eq_of_le (show i + 1 ≤ j by omega) with h2 | h2
   ·have := kept_mono h2 hj; omega
   ·subst h2; omega
  ·exact h
 have hc2 : c' = (zco R w)[i] := by
  rcases Nat.lt_or_eq_of_le hji with h | h
  ·have := kept_mono h (show i < (zco R w).length by omega); omega
  ·subst h; exact ej.symm
 unfold newP newCol at hn
 rw [List.any_eq_true] at hn
 obtain ⟨row, hr, hv⟩ := hn
 simp only [Bool.or_eq_true, decide_eq_true_eq, bne_iff_ne, ne_eq] at hv
 refine ⟨row, hr, ?_⟩
 rcases hv with hv | hv
 ·omega
 ·rw [← hc2, ← e row hr]
  exact hv
theorem thin_inj {R : List (List Int)} (h1 : 1 ≤ R.length) {w : Nat} (hw : ∀ r ∈ R, r.length = w) {a b : List Int} (ha : a ∈ R) (hb : b ∈ R) (h : thinR R w a = thinR R w b) : a = b := by
 rw [← row_range (hw a ha), ← row_range (hw b hb)]
 apply List.map_congr_left
 intro c hc
 obtain ⟨c', m, -, e⟩ := kept_for h1 w c (List.mem_range.1 hc)
 obtain ⟨i, hi, ei⟩ := List.getElem_of_mem m
 have := congrArg (fun L => L[i]?) h
 unfold thinR at this
 simp only [List.getElem?_map, List.getElem?_eq_getElem hi, Option.map_some, ei, Option.some.injEq] at this
 rw [e a ha, e b hb]
 exact this
theorem tight_once {X : List (List Int)} (hX : OkG X) : zbj (zbs X) = zbs X := by
 obtain ⟨o1, o2, o3⟩ := once_dims hX
 unfold zbs
 rw [onceL_map _ (zbj X) (fun x hx y hy h => thin_inj o1 o3 hx hy h), onceL_again]
theorem tight_wide {X : List (List Int)} (hX : OkG X) : zaj (zbs X) = (zco (zbj X) (zaj X)).length := by
 have h := tight_rect X
 have h1 := (tight_ok hX).dims.1
 unfold zaj
 rw [ycy, List.getElem?_eq_getElem (by omega)]
 exact h _ (List.getElem_mem _)
theorem tight_tight {X : List (List Int)} (hX : OkG X) : zbs (zbs X) = zbs X := by
 obtain ⟨o1, o2, o3⟩ := once_dims hX
 have e1 := tight_once hX
 have e2 := tight_wide hX
 have hrect := tight_rect X
 have all : zco (zbs X) (zaj (zbs X)) = List.range (zaj (zbs X)) := by
  unfold zco
  rw [List.filter_eq_self]
  intro i hi
  have hi := List.mem_range.1 hi
  rw [e2] at hi
  unfold newP newCol
  rw [List.any_eq_true]
  have row0 : (zbj X)[0]? = some (zbj X)[0] := List.getElem?_eq_getElem o1
  rcases i with _ | i
  ·exact ⟨thinR (zbj X) (zaj X) (zbj X)[0], List.mem_map.2 ⟨_, List.getElem_mem _, rfl⟩, by simp⟩
  ·obtain ⟨row, hr, hv⟩ := kept_next o1 hi
   refine ⟨thinR (zbj X) (zaj X) row, List.mem_map.2 ⟨row, hr, rfl⟩, ?_⟩
   have a : rd (thinR (zbj X) (zaj X) row) ((i + 1 : Nat) : Int) = rd row (((zco (zbj X) (zaj X))[i + 1] : Nat) : Int) := rd_at (by unfold thinR; rw [List.getElem?_map, List.getElem?_eq_getElem hi]; rfl)
   have b : rd (thinR (zbj X) (zaj X) row) ((i + 1 - 1 : Nat) : Int) = rd row (((zco (zbj X) (zaj X))[i] : Nat) : Int) := rd_at (by unfold thinR; rw [List.getElem?_map, Nat.add_sub_cancel, List.getElem?_eq_getElem (show i < _ by omega)]; rfl)
   rw [a, b]
   simp only [Bool.or_eq_true, bne_iff_ne, ne_eq]
   exact .inr hv
 show (zbj (zbs X)).map (thinR (zbj (zbs X)) (zaj (zbs X))) = zbs X
 rw [e1]
 conv => rhs; rw [← List.map_id (zbs X)]
 apply List.map_congr_left
 intro row hr
 unfold thinR
 rw [all]
 exact row_range (by rw [e2]; exact hrect row hr)
def twice (row : List Int) : List Int := row.flatMap (List.replicate 2)
theorem twice_get : ∀ (row : List Int) (c : Nat), (twice row)[c]? = row[c / 2]?
 | [], c => by simp [twice]
 | x :: r, 0 => rfl
 | x :: r, 1 => rfl
 | x :: r, c + 2 => by
  have ih := twice_get r c
  have e : twice (x :: r) = x :: x :: twice r := rfl
  rw [e, show (c + 2) / 2 = c / 2 + 1 by omega]
  simpa using ih
theorem twice_rd (row : List Int) (c : Nat) : rd (twice row) (c : Int) = rd row ((c / 2 : Nat) : Int) := by
 unfold rd
 rw [Int.toNat_natCast, Int.toNat_natCast, ycy, ycy, twice_get]
theorem twice_inj {a b : List Int} (h : twice a = twice b) : a = b := by
 apply List.ext_getElem?
 intro i
 have ha := twice_get a (2 * i)
 have hb := twice_get b (2 * i)
 rw [show 2 * i / 2 = i by omega] at ha hb
 rw [← ha, ← hb, h]
theorem twice_new (R : List (List Int)) (c : Nat) : newP (R.map twice) (2 * c) = newP R c ∧ (1 ≤ R.length → newP (R.map twice) (2 * c + 1) = false) := by
 constructor
 ·unfold newP
  rw [List.any_map]
  congr 1
  funext row
  show newCol (2 * c) (twice row) = newCol c row
  unfold newCol
  rw [twice_rd, twice_rd, show 2 * c / 2 = c by omega]
  rcases Nat.eq_zero_or_pos c with h | h
  ·subst h; rfl
  ·rw [show (2 * c - 1) / 2 = c - 1 by omega, decide_eq_false (show ¬ 2 * c = 0 by omega), decide_eq_false (show ¬ c = 0 by omega)]
 ·intro _
  unfold newP
  rw [List.any_map, List.any_eq_false]
  intro row _
  show ¬ newCol (2 * c + 1) (twice row) = true
  unfold newCol
  rw [twice_rd, twice_rd, show (2 * c + 1) / 2 = c by omega, show (2 * c + 1 - 1) / 2 = c by omega]
  simp
theorem twice_kept {R : List (List Int)} (h1 : 1 ≤ R.length) : ∀ w, zco (R.map twice) (2 * w) = (zco R w).map fun c => 2 * c
 | 0 => rfl
 | w + 1 => by
  obtain ⟨a, b⟩ := twice_new R w
  have ih := twice_kept h1 w
  unfold zco at ih ⊢
  rw [show 2 * (w + 1) = 2 * w + 1 + 1 by omega, List.range_succ, List.range_succ, List.range_succ, List.filter_append, List.filter_append, List.filter_append, List.map_append, ih]
  have e1 : List.filter (newP (R.map twice)) [2 * w + 1] = [] := by simp [b h1]
  rw [e1, List.append_nil]
  congr 1
  cases h : newP R w <;> simp [h, a]
theorem wide_tight {X : List (List Int)} (hX : OkG X) (hs : OkG (zbc (2 * X.length) (2 * zaj X) (wideG 2 X))) : zbs (zbc (2 * X.length) (2 * zaj X) (wideG 2 X)) = zbs X := by
 obtain ⟨o1, o2, o3⟩ := once_dims hX
 have hd := hX.dims
 have hw : zaj (zbc (2 * X.length) (2 * zaj X) (wideG 2 X)) = 2 * zaj X := gridOf_wide (by omega)
 have e : zbc (2 * X.length) (2 * zaj X) (wideG 2 X) = (X.map twice).flatMap (List.replicate 2) := by
  have := wide_rows hX.shape 1
  rw [this, List.flatMap_map]
  rfl
 have eo : zbj (zbc (2 * X.length) (2 * zaj X) (wideG 2 X)) = (zbj X).map twice := by
  rw [e, onceL_often 1, onceL_map twice X (fun a _ b _ h => twice_inj h)]
 unfold zbs
 rw [eo, hw, List.map_map]
 apply List.map_congr_left
 intro row hr
 show thinR ((zbj X).map twice) (2 * zaj X) (twice row) = _
 unfold thinR
 rw [twice_kept o1, List.map_map]
 apply List.map_congr_left
 intro c _
 show rd (twice row) ((2 * c : Nat) : Int) = _
 rw [twice_rd, show 2 * c / 2 = c by omega]
theorem canon_self {X Y : List (List Int)} (ho : zbl Y = zbl X) (hc : canon X = X) : canon Y = Y := by
 unfold canon canonL
 rw [ho]
 conv => rhs; rw [← List.map_id Y]
 apply List.map_congr_left
 intro row hr
 conv => rhs; rw [id, ← List.map_id row]
 apply List.map_congr_left
 intro x hx
 refine canon_id_iff hc ?_
 rw [← ord_vals, ← ho, ord_vals]
 exact List.mem_flatten.2 ⟨row, hr, hx⟩
theorem tight_act {X : List (List Int)} (hX : OkG X) : tightF (planOf X) = (planOf (zbs (canon X)), true) := by
 have hC := hX.canon
 have hcc := (floor_okG hX.floorP).2.1
 unfold tightF remadeF
 rw [hX.floorP]
 show planF (tightH (canon X) (zay X)) = _
 rw [tightH_X, (tight_ok hC).plan]
 rfl
theorem tight_self {X : List (List Int)} (hX : OkG X) : canon (zbs (canon X)) = zbs (canon X) := tight_canon hX.canon (floor_okG hX.floorP).2.1
theorem tight_rooms {X : List (List Int)} (hX : OkG X) : zcn (planOf (zbs (canon X))) = zcn (planOf X) := by
 have hC := hX.canon
 have hT := tight_ok hC
 unfold zcn
 rw [hT.floorP, hX.floorP]
 dsimp only
 rw [← rooms_len hT.shape, ← rooms_len hX.shape, tight_ord hC]
 have : (zbl (canon X)).length = (zbl X).length := by
  rw [rooms_len hC.shape, rooms_len hX.shape]
  have := (floor_okG hX.floorP).2.2.1
  rw [← this]
 rw [this]
end Go.Proofs.Ytickdcegnlldjaa.Hd
namespace Go.Proofs.Ytickdcegnlldjaa.Pure
open Go.RowKit Go.Proofs.Ytickdcegnlldjaa.TI Go.Proofs.Ytickdcegnlldjaa.PB Go.Proofs.Ytickdcegnlldjaa.SM Go.Proofs.Ytickdcegnlldjaa.Hd Go.PW.PrintWords Go.PW.PrintLast
theorem FnTight : laws_FnTight.Pure := by
 intro l0 h1 h2 h3
 by_cases big : (l0.length : Int) > 1048576
 ·exact ⟨0, by unfold laws_FnTight.f; rw [if_pos big]⟩
 ·obtain ⟨p, hp0, hl⟩ := One_ev l0 (fun x hx => byte_of (h3 x hx))
  have hp : Evs (fun k => spec_DrawPlanTight.f k l0) p := Evs.bind hp0 (Evs.const _)
  have hsm : smallB p = true := (smallB_iff _).2 hl.small
  have hI : impl_PlanTight.f p = some (tightF p) := by unfold impl_PlanTight.f; rw [if_pos hsm]
  apply Evs.ex
  refine Evs.neg big (Evs.bind hp (Evs.bindS hI (Evs.bind (PlanTight_ev p hl.small) (Evs.neg (by simp) ?_))))
  rcases in_cases p with ⟨X, hX, rfl⟩ | f1
  ·have hC := hX.canon
   have hcc := (floor_okG hX.floorP).2.1
   have hT := tight_ok hC
   have e0 := tight_act hX
   have e1 : tightF (planOf (zbs (canon X))) = (planOf (zbs (canon X)), true) := by
    rw [tight_act hT, tight_self hX, tight_tight hC]
   have er := tight_rooms hX
   have R := room_facts hX.floorP
   have i1 : impl_PlanTight.f (planOf (zbs (canon X))) = some (planOf (zbs (canon X)), true) := by unfold impl_PlanTight.f; rw [if_pos hT.psmall, e1]
   have i2 : impl_PlanRooms.f (planOf X) = some (zcn (planOf X)) := by unfold impl_PlanRooms.f; rw [if_pos hX.psmall]
   have i3 : impl_PlanRooms.f (planOf (zbs (canon X))) = some (zcn (planOf X)) := by unfold impl_PlanRooms.f; rw [if_pos hT.psmall, er]
   have i4 : impl_PlanWide.f (planOf X) 2 = some (wideF (planOf X) 2) := by unfold impl_PlanWide.f; rw [if_pos hX.psmall]
   have ew : wideF (planOf X) 2 = planF (zbc (2 * (canon X).length) (2 * zaj (canon X)) (wideG 2 (canon X))) := by
    unfold wideF remadeF
    rw [if_pos (by omega), hX.floorP]
    rfl
   rw [e0]
   refine Evs.bind (same_plan hT) (Evs.pos rfl ?_)
   refine Evs.stepNeg (fun k => by conv => lhs; unfold laws_FnTight.j0) (by simp) ?_
   refine Evs.bindS i1 (Evs.bindS i2 (Evs.bindS i3 (Evs.bindS i4 ?_)))
   rw [R.rooms, ew]
   have hs := wide_ord hC.shape 1
   have hz := wide_tight hC
   generalize zbc (2 * (canon X).length) (2 * zaj (canon X)) (wideG 2 (canon X)) = Z at *
   rcases planF_cases Z with ⟨hU, e2⟩ | ⟨-, e2⟩
   ·rw [e2]
    have ez : tightF (planOf Z) = (planOf (zbs (canon X)), true) := by
     rw [tight_act hU, canon_self hs hcc, hz hU]
    have i5 : impl_PlanTight.f (planOf Z) = some (planOf (zbs (canon X)), true) := by unfold impl_PlanTight.f; rw [if_pos hU.psmall, ez]
    refine Evs.bindS i5 (Evs.pos rfl (Evs.pos rfl (Evs.pos rfl (Evs.bind (same_plan hT) (Evs.pos rfl (Evs.pos rfl (Evs.pos rfl (Evs.pos rfl (Evs.bind (same_plan hT) (Evs.const _))))))))))
   ·rw [e2]
    have i5 : impl_PlanTight.f ([] : List ByteArray) = some (tightF []) := by unfold impl_PlanTight.f; rw [if_pos ((smallB_iff _).2 ⟨by simp, fun s hs => by cases hs⟩)]
    refine Evs.bindS i5 (Evs.pos rfl (Evs.pos rfl (Evs.pos rfl (Evs.bind (same_plan hT) (Evs.pos rfl (Evs.pos rfl (Evs.neg (by simp) (Evs.const _))))))))
  ·have e0 : tightF p = ([], false) := remade_none f1 _
   rw [e0]
   refine Evs.bind same_nil (Evs.pos rfl ?_)
   refine Evs.stepPos (fun k => by conv => lhs; unfold laws_FnTight.j0) (by simp) ?_
   exact Evs.pos rfl (Evs.bind same_nil (Evs.const _))
end Go.Proofs.Ytickdcegnlldjaa.Pure
