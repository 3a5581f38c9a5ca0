/- Part 6 of the proof of FnSides: what the program's functions and the reference's compute. -/
import Derived.Shelf.Slices.CompactI
import Derived.Test.YtaepgogafkmooaaProg
import Derived.Below
import Derived.Deep.Draws
import Derived.Deep.AppendLies
import Derived.Maps.AppendAt
import Derived.OwnWalk
import Derived.Laws.BytesArg
import Derived.Laws.MakeOwn
import Derived.Laws.OwnMore
import Derived.Deep.OwnRows
import Derived.Tactics
import Derived.Lib.ConvBytes
import Derived.Laws.Slices
import Derived.WalkKit
import Derived.KernelRfl
import Derived.RowKit3
import Derived.Deep.LoopGhost
import Derived.Deep.QuietTactic
import Derived.BigQuiet
import Derived.WideLaws
import Derived.Deep.DeepCutAuto
import Derived.Deep.CutBlock
import Derived.Deep.RegionHeld3
import Derived.Laws.Rows
import Derived.Lib.AppendStr
import Derived.ArgAppend
import Derived.Laws.IdiomCopy
import Derived.OrdersHeld
import Derived.Laws.BitsLemmas
import Derived.RowKit
import Derived.Test.YtaepgogafkmooaaCPLDe
set_option linter.unusedSimpArgs false
set_option linter.unusedVariables false
open Bool renaming true → zt, false → zf
open List renaming setIfInBounds_toArray → ycg, set_cons_zero → ych, set_cons_succ → yci, getD_eq_getElem?_getD → ycj
namespace Go.Proofs.Ytaepgogafkmooaa.Hd
open Go.RowKit Go.PW.PrintWords Go.PW.PrintLast Go.PW.PrintMore Go.Proofs.Ytaepgogafkmooaa.PB
theorem letterOf_toNat {x : Int} (h0 : 0 ≤ x) (h1 : x ≤ 100) : ((letterOf x).toNat : Int) = 97 + x := by
 unfold letterOf
 rw [UInt8.toNat_ofNat']
 omega
theorem bytesOf_rowText (row : List Int) (h : ∀ x ∈ row, 0 ≤ x ∧ x ≤ 100) : bytesOf (rowText row) = row.map (fun x => 97 + x) := by
 unfold bytesOf rowText rowBytes
 show ((row.map letterOf).toArray.toList).map _ = _
 rw [List.map_map]
 apply List.map_congr_left
 intro x hx
 exact letterOf_toNat (h x hx).1 (h x hx).2
theorem numsOf_textOf (cs : List (List Int)) (h : ∀ r ∈ cs, ∀ x ∈ r, 0 ≤ x ∧ x ≤ 100) : zao (zbw cs) = cs.map (fun r => r.map (fun x => 97 + x)) := by
 unfold zao zbw
 rw [List.map_map]
 apply List.map_congr_left
 intro r hr
 exact bytesOf_rowText r (h r hr)
theorem canon_val {rows : List (List Int)} (h : zbu rows = true) : ∀ r ∈ canon rows, ∀ x ∈ r, 0 ≤ x ∧ x ≤ 100 := by
 have hL := shape_order h
 intro r hr x hx
 unfold canon canonL at hr
 simp at hr
 obtain ⟨a, _, rfl⟩ := hr
 simp at hx
 obtain ⟨y, _, rfl⟩ := hx
 have := List.idxOf_le_length (a := y) (l := zcc rows)
 omega
structure Canon (p : List ByteArray) : Prop where
 grid : gridOk p = true
 names : namesOf p = p
theorem Canon.shape {p : List ByteArray} (h : Canon p) : zbu (zao p) = true := by
 have := h.grid
 unfold gridOk at this
 rw [Bool.and_eq_true] at this
 exact this.1
theorem zbq (p : List ByteArray) : (zao p).length = p.length := by simp [zao]
theorem Canon.cell {p : List ByteArray} (h : Canon p) : ∀ m, m < p.length * zap (zao p) → cellN (zao p) (zap (zao p)) m = ((zcc (zao p)).idxOf (zba (zao p) (m / zap (zao p)) (m % zap (zao p))) : Int) := by
 intro m hm
 have hR := shape_rect h.shape
 have h1 : zao p = (canon (zao p)).map (fun r => r.map (fun x => 97 + x)) := by
  have := numsOf_textOf (canon (zao p)) (canon_val h.shape)
  rw [show zbw (canon (zao p)) = p from h.names] at this
  exact this
 have hwi : 0 < zap (zao p) := by
  rcases Nat.eq_zero_or_pos (zap (zao p)) with h0 | h0
  ·rw [h0] at hm; simp at hm
  ·exact h0
 have hr : m / zap (zao p) < (zao p).length := by rw [zbq, Nat.div_lt_iff_lt_mul hwi]; exact hm
 have hc := Nat.mod_lt m hwi
 have hcr : Rect (zap (zao p)) (canon (zao p)) := by rw [canon_grid hR]; exact gridOf_rect _ _ _
 have h2 := rect_map hcr (fun x => 97 + x)
 rw [← h1] at h2
 have hcl : (canon (zao p)).length = (zao p).length := by simp [canon, canonL]
 unfold cellN
 have h3 := congrArg (fun R => zba R (m / zap (zao p)) (m % zap (zao p))) h2
 have h4 := congrArg (fun R => zba R (m / zap (zao p)) (m % zap (zao p))) (canon_grid hR)
 try dsimp only at h3 h4
 rw [valAt_gridOf (by rw [hcl]; exact hr) hc] at h3
 rw [valAt_gridOf hr hc] at h4
 omega
theorem rooms_len {rows : List (List Int)} (h : zbu rows = true) : (zcc rows).length = (zbd rows).length := by
 rw [← stAt_all (shape_rect h)]
 exact (stAt_len rows (zap rows) _).1
theorem rooms_box {rows : List (List Int)} (h : zbu rows = true) (i : Nat) (hi : i < (zbd rows).length) : ∃ x, (zcc rows)[i]? = some x ∧ BoxN rows (zap rows) (rows.length * zap rows) x ((zbd rows).getD i zco) ∧ boundR ((zbd rows).getD i zco) rows.length (zap rows) := by
 have hl := rooms_len h
 obtain ⟨x, hx⟩ : ∃ x, (zcc rows)[i]? = some x := ⟨_, List.getElem?_eq_getElem (by omega)⟩
 have hb : (zbd rows)[i]? = some ((zbd rows).getD i zco) := by
  rw [ycj, List.getElem?_eq_getElem hi]
  rfl
 have hx2 := hx
 rw [← stAt_all (shape_rect h)] at hx2
 exact ⟨x, hx, stAt_box rows (zap rows) _ i x _ hx2 hb, (stAt_inv rows rows.length (zap rows) _ (Nat.le_refl _)).2.2.2 _ (List.mem_of_getElem? hb)⟩
theorem idx_iff {L : List Int} (hn : L.Nodup) {i : Nat} {x v : Int} (hx : L[i]? = some x) (hv : v ∈ L) : ((L.idxOf v : Int) = (i : Int) ↔ v = x) := by
 have hi := (List.getElem?_eq_some_iff.1 hx).1
 have hk := List.idxOf_lt_length_of_mem hv
 have e : L[L.idxOf v] = v := List.getElem_idxOf hk
 rw [List.getElem?_eq_getElem hi] at hx
 have hx := Option.some.inj hx
 constructor
 ·intro h
  have h : L.idxOf v = i := by omega
  subst h
  rw [← e, hx]
 ·rintro rfl
  have := nodup_inj hn hk hi (e.trans hx.symm)
  omega
theorem ordAll_nodup (rows : List (List Int)) : (zcc rows).Nodup := ordL_nodup _ _ List.nodup_nil
theorem cell_mem {rows : List (List Int)} (h : zbu rows = true) (m : Nat) (hm : m < rows.length * zap rows) : zba rows (m / zap rows) (m % zap rows) ∈ zcc rows := by
 have := flatten_get rows (shape_rect h) m hm
 exact ordL_mem _ _ _ (List.mem_of_getElem? this)
theorem mem_cell {rows : List (List Int)} (h : zbu rows = true) (x : Int) (hx : x ∈ zcc rows) : ∃ m, m < rows.length * zap rows ∧ zba rows (m / zap rows) (m % zap rows) = x := by
 rcases ordL_sub _ _ x hx with h1 | h1
 ·cases h1
 ·obtain ⟨m, hm, e⟩ := List.mem_iff_getElem.1 h1
  have hl := flatten_length_le rows _ (shape_rect h)
  refine ⟨m, by omega, ?_⟩
  have := flatten_get rows (shape_rect h) m (by omega)
  rw [List.getElem?_eq_getElem hm, e] at this
  exact (Option.some.inj this).symm
theorem Canon.max {p : List ByteArray} (h : Canon p) : maxN (zao p) (zap (zao p)) (p.length * zap (zao p)) = (zbd (zao p)).length := by
 have hs := h.shape
 have hl := rooms_len hs
 have hc := h.cell
 obtain ⟨s1, s2, s3, s4, s5⟩ := (zcr _).1 hs
 rw [zbq] at s1 s2
 have hpos : 0 < p.length * zap (zao p) := Nat.mul_pos (by omega) (by omega)
 have hub := maxN_ub (zao p) (zap (zao p)) ((zbd (zao p)).length : Int) (by omega) (p.length * zap (zao p)) (fun m hm => by
  rw [hc m hm]
  have := List.idxOf_lt_length_of_mem (cell_mem hs m (by rw [zbq]; exact hm))
  omega)
 have h0 := List.idxOf_lt_length_of_mem (cell_mem hs 0 (by rw [zbq]; exact hpos))
 obtain ⟨y, hy⟩ : ∃ y, (zcc (zao p))[(zcc (zao p)).length - 1]? = some y := ⟨_, List.getElem?_eq_getElem (by omega)⟩
 obtain ⟨m, hm, hv⟩ := mem_cell hs y (List.mem_of_getElem? hy)
 rw [zbq] at hm
 have hge := maxN_ge (zao p) (zap (zao p)) _ m hm
 have hi := (idx_iff (ordAll_nodup (zao p)) hy (List.mem_of_getElem? hy)).2 rfl
 rw [hc m hm, hv] at hge
 omega
theorem Canon.room {p : List ByteArray} (h : Canon p) (i : Nat) (hi : i < (zbd (zao p)).length) : let b := (zbd (zao p)).getD i zco
  roomOut (roomN (zao p) (zap (zao p)) (i : Int) (p.length : Int) (zap (zao p) : Int) (p.length * zap (zao p))) = (b.f0, b.f1, b.f2, b.f3) ∧ countN (zao p) (zap (zao p)) (i : Int) (p.length * zap (zao p)) ≤ areaR b ∧ boundR b p.length (zap (zao p)) := by
 intro b
 have hs := h.shape
 obtain ⟨x, hx, hb, hbd⟩ := rooms_box hs i hi
 rw [zbq] at hb hbd
 have hiff : ∀ m, m < p.length * zap (zao p) → (cellN (zao p) (zap (zao p)) m = (i : Int) ↔ zba (zao p) (m / zap (zao p)) (m % zap (zao p)) = x) := fun m hm => by
  rw [h.cell m hm]
  exact idx_iff (ordAll_nodup _) hx (cell_mem hs m (by rw [zbq]; exact hm))
 refine ⟨room_box hiff hb hbd _ _ (Int.le_refl _) (Int.le_refl _), ?_, hbd⟩
 rw [← countB_all b p.length (zap (zao p)) hbd]
 exact countN_le_B _ _ _ _ _ (fun m hm hv => hb.ins m hm ((hiff m hm).1 hv))
theorem Canon.sum {p : List ByteArray} (h : Canon p) : sumI (fun x => countN (zao p) (zap (zao p)) (x : Int) (p.length * zap (zao p))) (zbd (zao p)).length = ((p.length * zap (zao p) : Nat) : Int) := by
 refine count_sum _ _ _ _ (fun m hm => ?_)
 rw [h.cell m hm]
 have := List.idxOf_lt_length_of_mem (cell_mem h.shape m (by rw [zbq]; exact hm))
 have := rooms_len h.shape
 omega
theorem sumArea_sumI (rs : List Rc) : zcd rs = sumI (fun x => areaR (rs.getD x zco)) rs.length := by
 have : ∀ n, n ≤ rs.length → zcd (rs.take n) = sumI (fun x => areaR (rs.getD x zco)) n := by
  intro n
  induction n with
  | zero => intro _; simp [zcd, sumI]
  | succ n ih => intro hn; rw [sum_take rs n (by omega), ih (by omega)]; rfl
 have h := this rs.length (Nat.le_refl _)
 rwa [List.take_length] at h
def fullB (p : List ByteArray) (x : Nat) : Bool := decide (countN (zao p) (zap (zao p)) (x : Int) (p.length * zap (zao p)) = areaR ((zbd (zao p)).getD x zco))
theorem full_iff {p : List ByteArray} (h : Canon p) : (List.range (zbd (zao p)).length).all (fullB p) = decide (zcd (zbd (zao p)) = (p.length : Int) * (zap (zao p) : Int)) := by
 rw [Bool.eq_iff_iff, List.all_eq_true, decide_eq_true_eq, sumArea_sumI, ← Int.natCast_mul, ← h.sum]
 constructor
 ·intro hall
  refine (sumI_congr _ (fun x hx => ?_)).symm
  have := hall x (List.mem_range.2 hx)
  unfold fullB at this
  exact of_decide_eq_true this
 ·intro he x hx
  have := sumI_eq _ (fun x hx => (h.room x hx).2.1) he.symm x (List.mem_range.1 hx)
  unfold fullB
  exact decide_eq_true this
theorem planIn_l0 {p : List ByteArray} (h : Canon p) : ∀ m r, r + m = (zbd (zao p)).length → Evs (fun k => spec_PlanIn.l0 k p (r : Int)) (((List.range (zbd (zao p)).length).drop r).all (fullB p)) := by
 have hsm := gridOk_small h.grid
 obtain ⟨s1, s2, s3, s4, s5⟩ := (zcr _).1 h.shape
 rw [zbq] at s1 s2
 have hR := l1Rooms_ev p _ hsm
 rw [h.max] at hR
 have hrl : (zbd (zao p)).length ≤ 36 := by have := rooms_len h.shape; have := shape_order h.shape; omega
 intro m
 induction m with
 | zero =>
  intro r hr
  rw [List.drop_eq_nil_of_le (by simp; omega)]
  refine Evs.step (h := fun k => (spec_l1Rooms.f k p).bind fun t => if (r : Int) < t then ((spec_l1Room.f k p (r : Int)).bind fun bt161 => ((spec_l1Cells.f k p (r : Int)).bind fun t165 => (if t165 = (wrap64 (bt161.2.2.1 * bt161.2.2.2)) then (spec_PlanIn.l0 k p (wrap64 ((r : Int) + 1))) else (some false)))) else some true) (fun k => ?_) (Evs.bind hR ?_)
  ·conv => lhs; unfold spec_PlanIn.l0
  ·refine Evs.congr (h := fun _ => some true) (fun k => ?_) (Evs.const _)
   try dsimp only
   rw [if_neg (by omega)]
 | succ m ih =>
  intro r hr
  obtain ⟨q1, q2, q3⟩ := h.room r (by omega)
  have hroom := l1Room_ev p _ hsm s1 (r : Int)
  have hcnt := l1Cells_ev p _ hsm (r : Int)
  rw [q1] at hroom
  have hab := area_bound q3 s2 s4
  have hdrop : (List.range (zbd (zao p)).length).drop r = r :: (List.range (zbd (zao p)).length).drop (r + 1) := by
   rw [List.drop_eq_getElem_cons (by simp; omega)]
   simp
  rw [hdrop, List.all_cons]
  refine Evs.step (h := fun k => (spec_l1Rooms.f k p).bind fun t => if (r : Int) < t then ((spec_l1Room.f k p (r : Int)).bind fun bt161 => ((spec_l1Cells.f k p (r : Int)).bind fun t165 => (if t165 = (wrap64 (bt161.2.2.1 * bt161.2.2.2)) then (spec_PlanIn.l0 k p (wrap64 ((r : Int) + 1))) else (some false)))) else some true) (fun k => ?_) (Evs.bind hR ?_)
  ·conv => lhs; unfold spec_PlanIn.l0
  ·refine Evs.congr (h := fun k => ((spec_l1Room.f k p (r : Int)).bind fun bt161 => ((spec_l1Cells.f k p (r : Int)).bind fun t165 => (if t165 = (wrap64 (bt161.2.2.1 * bt161.2.2.2)) then (spec_PlanIn.l0 k p (wrap64 ((r : Int) + 1))) else (some false))))) (fun k => ?_) ?_
   ·try dsimp only
    rw [if_pos (by omega)]
   ·refine Evs.bind hroom (Evs.bind hcnt ?_)
    try dsimp only
    have hw : wrap64 (((zbd (zao p)).getD r zco).f2 * ((zbd (zao p)).getD r zco).f3) = areaR ((zbd (zao p)).getD r zco) := by
     have h3 := hab
     unfold areaR at h3 ⊢
     exact zat (by omega) (by omega)
    rw [hw]
    have hnx := ih (r + 1) (by omega)
    by_cases hf : countN (zao p) (zap (zao p)) (r : Int) (p.length * zap (zao p)) = areaR ((zbd (zao p)).getD r zco)
    ·have : fullB p r = true := decide_eq_true hf
     rw [this, Bool.true_and]
     refine Evs.congr (fun k => ?_) hnx
     rw [if_pos hf, zbg (by omega)]
    ·have : fullB p r = false := decide_eq_false hf
     rw [this, Bool.false_and]
     refine Evs.congr (h := fun _ => some false) (fun k => ?_) (Evs.const _)
     rw [if_neg hf]
theorem planIn_j0 (k : Nat) (p : List ByteArray) (b : Bool) : spec_PlanIn.j0 (k + 1) p b = if b = true then some false else spec_PlanIn.l0 k p 0 := by simp only [spec_PlanIn.j0]
def planB (p : List ByteArray) : Bool := (zcn p).isSome
theorem settled_shape {rows : List (List Int)} (h : zbu rows = true) : zcj rows = if (zbd rows).length ≤ 9 then some (canon rows, zbd rows, decide (zcd (zbd rows) = (rows.length : Int) * (zap rows : Int))) else none := by
 unfold zcj
 rw [if_pos h, cellsOf_canon h]
theorem floorF_grid {p : List ByteArray} (h : gridOk p = true) : zcn p = if (zbd (zao p)).length ≤ 9 ∧ zcd (zbd (zao p)) = (p.length : Int) * (zap (zao p) : Int) ∧ namesOf p = p then some (canon (zao p), zbd (zao p)) else none := by
 unfold gridOk at h
 rw [Bool.and_eq_true] at h
 unfold zcn readF
 rw [if_pos h.2, settled_shape h.1, zbq]
 by_cases h9 : (zbd (zao p)).length ≤ 9
 ·rw [if_pos h9]
  simp only [Option.bind_some, decide_eq_true_eq]
  rw [show zbw (canon (zao p)) = namesOf p from rfl]
  by_cases hs : zcd (zbd (zao p)) = (p.length : Int) * (zap (zao p) : Int) ∧ namesOf p = p
  ·rw [if_pos hs, if_pos ⟨h9, hs⟩]
  ·rw [if_neg hs, if_neg (fun hh => hs hh.2)]
 ·rw [if_neg h9, if_neg (fun hh => h9 hh.1)]
  rfl
theorem floorF_nogrid {p : List ByteArray} (h : gridOk p = false) : zcn p = none := by
 unfold zcn readF
 unfold gridOk at h
 by_cases ha : p.all okText = true
 ·rw [ha, Bool.and_true] at h
  rw [if_pos ha]
  unfold zcj
  rw [if_neg (by rw [h]; simp)]
  rfl
 ·rw [if_neg ha]
  rfl
theorem PlanIn_ev (p : List ByteArray) (hp : smallP p) : Evs (fun k => spec_PlanIn.f k p) (planB p) := by
 have hg := l1Grid_ev p hp
 cases hG : gridOk p
 ·rw [hG] at hg
  have : planB p = false := by unfold planB; rw [floorF_nogrid hG]; rfl
  rw [this]
  refine Evs.bind hg ?_
  refine Evs.congr (h := fun k => spec_PlanIn.j0 k p true) (fun k => ?_) (Evs.step (h := fun _ => some false) (fun k => ?_) (Evs.const _))
  ·try dsimp only
   rw [if_neg (by simp)]
  ·rw [planIn_j0]
   rw [if_pos rfl]
 ·rw [hG] at hg
  have hs : zbu (zao p) = true := by
   unfold gridOk at hG
   rw [Bool.and_eq_true] at hG
   exact hG.1
  have hn := l1Names_ev p hp (by have := shape_order hs; omega)
  have hsame := l1Same_ev (namesOf p) p (by simp [namesOf, zbw, canon, canonL, zao]; have := hp.1; omega)
  refine Evs.bind hg ?_
  refine Evs.congr (h := fun k => (spec_l1Names.f k p).bind fun t155 => ((spec_l1Same.f k t155 p).bind fun t158 => (if t158 = true then ((spec_l1Rooms.f k p).bind fun t159 => (spec_PlanIn.j0 k p (decide (t159 > 9)))) else (spec_PlanIn.j0 k p true)))) (fun k => ?_) (Evs.bind hn (Evs.bind hsame ?_))
  ·try dsimp only
   rw [if_pos rfl]
  ·unfold planB
   rw [floorF_grid hG]
   by_cases hN : namesOf p = p
   ·have hC : Canon p := ⟨hG, hN⟩
    have hR := l1Rooms_ev p _ (gridOk_small hG)
    rw [hC.max] at hR
    refine Evs.congr (h := fun k => (spec_l1Rooms.f k p).bind fun t159 => (spec_PlanIn.j0 k p (decide (t159 > 9)))) (fun k => ?_) (Evs.bind hR ?_)
    ·try dsimp only
     rw [decide_eq_true hN, if_pos rfl]
    ·by_cases h9 : (zbd (zao p)).length ≤ 9
     ·refine Evs.step (h := fun k => spec_PlanIn.l0 k p ((0 : Nat) : Int)) (fun k => ?_) ?_
      ·try dsimp only
       rw [planIn_j0]
       rw [decide_eq_false (by omega), if_neg (by simp)]
       rfl
      ·have := planIn_l0 hC (zbd (zao p)).length 0 (by omega)
       rw [List.drop_zero, full_iff hC] at this
       by_cases hsum : zcd (zbd (zao p)) = (p.length : Int) * (zap (zao p) : Int)
       ·rw [decide_eq_true hsum] at this
        rw [if_pos ⟨h9, hsum, hN⟩]
        exact this
       ·rw [decide_eq_false hsum] at this
        rw [if_neg (fun hh => hsum hh.2.1)]
        exact this
     ·rw [if_neg (fun hh => h9 hh.1)]
      refine Evs.step (h := fun _ => some false) (fun k => ?_) (Evs.const _)
      try dsimp only
      rw [planIn_j0]
      rw [decide_eq_true (by omega), if_pos rfl]
   ·rw [if_neg (fun hh => hN hh.2.2)]
    refine Evs.congr (h := fun k => spec_PlanIn.j0 k p true) (fun k => ?_) (Evs.step (h := fun _ => some false) (fun k => ?_) (Evs.const _))
    ·try dsimp only
     rw [decide_eq_false hN, if_neg (by simp)]
    ·rw [planIn_j0]
     rw [if_pos rfl]
def mapG (f : Int → Int) (rows : List (List Int)) : List (List Int) := rows.map fun r => r.map f
def InjOn (f : Int → Int) (S : Int → Prop) : Prop := ∀ a b, S a → S b → f a = f b → a = b
theorem idxOf_map (f : Int → Int) (S : Int → Prop) (hf : InjOn f S) (x : Int) (hx : S x) : ∀ L : List Int, (∀ y ∈ L, S y) → (L.map f).idxOf (f x) = L.idxOf x
 | [], _ => rfl
 | y :: r, h => by
  rw [List.map_cons, List.idxOf_cons, List.idxOf_cons]
  by_cases he : y = x
  ·subst he; simp
  ·have : f y ≠ f x := fun e => he (hf y x (h y List.mem_cons_self) hx e)
   have h1 : (f y == f x) = false := by simp [this]
   have h2 : (y == x) = false := by simp [he]
   rw [h1, h2, idxOf_map f S hf x hx r (fun z hz => h z (List.mem_cons_of_mem _ hz))]
theorem pushL_map (f : Int → Int) (S : Int → Prop) (hf : InjOn f S) (x : Int) (hx : S x) (o : List Int) (ho : ∀ y ∈ o, S y) : pushL (o.map f) (f x) = (pushL o x).map f := by
 have hiff : f x ∈ o.map f ↔ x ∈ o := by
  rw [List.mem_map]
  constructor
  ·rintro ⟨y, hy, e⟩
   rw [← hf y x (ho y hy) hx e]
   exact hy
  ·exact fun h => ⟨x, h, rfl⟩
 unfold pushL
 by_cases h : x ∈ o
 ·rw [if_pos h, if_pos (hiff.2 h)]
 ·rw [if_neg h, if_neg (fun hh => h (hiff.1 hh))]
  simp
theorem pushL_all {S : Int → Prop} {x : Int} (hx : S x) {o : List Int} (ho : ∀ y ∈ o, S y) : ∀ y ∈ pushL o x, S y := by
 intro y hy
 unfold pushL at hy
 split at hy
 ·exact ho y hy
 ·rcases List.mem_append.1 hy with h | h
  ·exact ho y h
  ·simp at h; subst h; exact hx
theorem ordL_map (f : Int → Int) (S : Int → Prop) (hf : InjOn f S) : ∀ (xs o : List Int), (∀ y ∈ xs, S y) → (∀ y ∈ o, S y) → ordL (xs.map f) (o.map f) = (ordL xs o).map f
 | [], o, _, _ => rfl
 | x :: r, o, h, ho => by
  show ordL (r.map f) (pushL (o.map f) (f x)) = (ordL r (pushL o x)).map f
  have hx := h x List.mem_cons_self
  rw [pushL_map f S hf x hx o ho]
  exact ordL_map f S hf r (pushL o x) (fun z hz => h z (List.mem_cons_of_mem _ hz)) (pushL_all hx ho)
theorem mapG_length (f : Int → Int) (rows : List (List Int)) : (mapG f rows).length = rows.length := by simp [mapG]
theorem mapG_flatten (f : Int → Int) (rows : List (List Int)) : (mapG f rows).flatten = rows.flatten.map f := by
 unfold mapG
 rw [List.map_flatten]
theorem mapG_wide (f : Int → Int) (rows : List (List Int)) : zap (mapG f rows) = zap rows := by
 unfold zap mapG
 cases rows with
 | nil => rfl
 | cons a r => simp
theorem mapG_shape (f : Int → Int) (rows : List (List Int)) : zbu (mapG f rows) = zbu rows := by
 rw [Bool.eq_iff_iff, zcr, zcr, mapG_length, mapG_wide]
 have : (∀ r ∈ mapG f rows, r.length = zap rows) ↔ (∀ r ∈ rows, r.length = zap rows) := by
  constructor
  ·intro h r hr
   have := h (r.map f) (List.mem_map.2 ⟨r, hr, rfl⟩)
   simpa using this
  ·intro h r hr
   obtain ⟨a, ha, rfl⟩ := List.mem_map.1 hr
   rw [List.length_map]
   exact h a ha
 rw [this]
def Vals (rows : List (List Int)) (x : Int) : Prop := x ∈ rows.flatten
theorem ordAll_map {f : Int → Int} {rows : List (List Int)} (hf : InjOn f (Vals rows)) : zcc (mapG f rows) = (zcc rows).map f := by
 unfold zcc
 rw [mapG_flatten]
 exact ordL_map f (Vals rows) hf rows.flatten [] (fun y hy => hy) (by simp)
theorem ordAll_vals (rows : List (List Int)) : ∀ y ∈ zcc rows, Vals rows y := by
 intro y hy
 rcases ordL_sub _ _ y hy with h | h
 ·cases h
 ·exact h
theorem canon_map {f : Int → Int} {rows : List (List Int)} (hf : InjOn f (Vals rows)) : canon (mapG f rows) = canon rows := by
 unfold canon canonL
 rw [ordAll_map hf]
 unfold mapG
 rw [List.map_map]
 apply List.map_congr_left
 intro r hr
 show (r.map f).map _ = _
 rw [List.map_map]
 apply List.map_congr_left
 intro x hx
 show (((zcc rows).map f).idxOf (f x) : Int) = _
 rw [idxOf_map f (Vals rows) hf x (List.mem_flatten.2 ⟨r, hr, hx⟩) _ (ordAll_vals rows)]
theorem valAt_map {rows : List (List Int)} {wi r c : Nat} (h : Rect wi rows) (f : Int → Int) (hr : r < rows.length) (hc : c < wi) : zba (mapG f rows) r c = f (zba rows r c) := by
 have := congrArg (fun R => zba R r c) (rect_map h f)
 unfold mapG
 rw [show zba (rows.map fun r => r.map f) r c = zba (zbn rows.length wi fun r c => f (zba rows r c)) r c from this, valAt_gridOf hr hc]
theorem val_mem {rows : List (List Int)} {wi r c : Nat} (h : Rect wi rows) (hr : r < rows.length) (hc : c < wi) : Vals rows (zba rows r c) := by
 obtain ⟨row, h1, h2⟩ := valAt_get h hr hc
 exact List.mem_flatten.2 ⟨row, List.mem_of_getElem? h1, List.mem_of_getElem? h2⟩
theorem stAt_map {f : Int → Int} {rows : List (List Int)} {wi : Nat} (h : Rect wi rows) (hf : InjOn f (Vals rows)) : ∀ n, n ≤ rows.length * wi → stAt (mapG f rows) wi n = ((stAt rows wi n).1.map f, (stAt rows wi n).2)
 | 0, _ => rfl
 | n + 1, hn => by
  have hwi : 0 < wi := by
   rcases Nat.eq_zero_or_pos wi with h0 | h0
   ·subst h0; simp at hn
   ·exact h0
  have hr : n / wi < rows.length := by rw [Nat.div_lt_iff_lt_mul hwi]; omega
  have hc := Nat.mod_lt n hwi
  have hvals : ∀ y ∈ (stAt rows wi n).1, Vals rows y := by
   rw [stAt_ord h n (by omega)]
   intro y hy
   rcases ordL_sub _ _ y hy with h1 | h1
   ·cases h1
   ·exact List.mem_of_mem_take h1
  have hv := val_mem h hr hc
  simp only [stAt]
  rw [stAt_map h hf n (by omega), valAt_map h f hr hc]
  have hiff : f (zba rows (n / wi) (n % wi)) ∈ (stAt rows wi n).1.map f ↔ zba rows (n / wi) (n % wi) ∈ (stAt rows wi n).1 := by
   rw [List.mem_map]
   constructor
   ·rintro ⟨y, hy, e⟩
    rw [← hf y _ (hvals y hy) hv e]
    exact hy
   ·exact fun h => ⟨_, h, rfl⟩
  unfold stepS
  by_cases hm : zba rows (n / wi) (n % wi) ∈ (stAt rows wi n).1
  ·rw [if_pos hm, if_pos (hiff.2 hm)]
   simp only
   rw [idxOf_map f (Vals rows) hf _ hv _ hvals]
  ·rw [if_neg hm, if_neg (fun hh => hm (hiff.1 hh))]
   simp
theorem rooms_map {f : Int → Int} {rows : List (List Int)} (hs : zbu rows = true) (hf : InjOn f (Vals rows)) : zbd (mapG f rows) = zbd rows := by
 unfold zbd
 rw [mapG_length, mapG_wide, stAt_map (shape_rect hs) hf _ (Nat.le_refl _)]
theorem settled_map {f : Int → Int} {rows : List (List Int)} (hf : InjOn f (Vals rows)) : zcj (mapG f rows) = zcj rows := by
 by_cases hs : zbu rows = true
 ·rw [settled_shape hs, settled_shape (by rw [mapG_shape]; exact hs), rooms_map hs hf, canon_map hf, mapG_length, mapG_wide]
 ·unfold zcj
  rw [if_neg hs, if_neg (by rw [mapG_shape]; exact hs)]
theorem plan_map {f : Int → Int} {rows : List (List Int)} (hf : InjOn f (Vals rows)) : planF (mapG f rows) = planF rows := by
 unfold planF
 rw [settled_map hf]
def doneF (t : List ByteArray) : List ByteArray × Bool := if t.all okText = true then planF (zao t) else ([], false)
theorem planF_shape {rows : List (List Int)} (h : zbu rows = true) : planF rows = if (zbd rows).length ≤ 9 ∧ zcd (zbd rows) = (rows.length : Int) * (zap rows : Int) then (zbw (canon rows), true) else ([], false) := by
 unfold planF
 rw [settled_shape h]
 by_cases h9 : (zbd rows).length ≤ 9
 ·rw [if_pos h9]
  by_cases hs : zcd (zbd rows) = (rows.length : Int) * (zap rows : Int)
  ·rw [decide_eq_true hs, if_pos ⟨h9, hs⟩]
  ·rw [decide_eq_false hs, if_neg (fun hh => hs hh.2)]
 ·rw [if_neg h9, if_neg (fun hh => h9 hh.1)]
theorem planF_noshape {rows : List (List Int)} (h : zbu rows = false) : planF rows = ([], false) := by
 unfold planF zcj
 rw [if_neg (by rw [h]; simp)]
theorem names_nums {rows : List (List Int)} (h : zbu rows = true) : zao (zbw (canon rows)) = mapG (fun x => 97 + ((zcc rows).idxOf x : Int)) rows := by
 rw [numsOf_textOf _ (canon_val h)]
 unfold canon canonL mapG
 rw [List.map_map]
 apply List.map_congr_left
 intro r hr
 show (r.map _).map _ = _
 rw [List.map_map]
 rfl
theorem names_inj (rows : List (List Int)) : InjOn (fun x => 97 + ((zcc rows).idxOf x : Int)) (Vals rows) := by
 intro a b ha hb e
 have e2 : (zcc rows).idxOf a = (zcc rows).idxOf b := by
  have : (97 : Int) + ((zcc rows).idxOf a : Int) = 97 + ((zcc rows).idxOf b : Int) := e
  omega
 have h1 := List.idxOf_lt_length_of_mem (ordL_mem rows.flatten [] a ha)
 have h2 := List.idxOf_lt_length_of_mem (ordL_mem rows.flatten [] b hb)
 have e3 : (zcc rows)[(zcc rows).idxOf a]'h1 = a := List.getElem_idxOf h1
 have e4 : (zcc rows)[(zcc rows).idxOf b]'h2 = b := List.getElem_idxOf h2
 rw [← e3, ← e4]
 congr 1
theorem names_plan {rows : List (List Int)} (h : zbu rows = true) : planB (zbw (canon rows)) = decide ((zbd rows).length ≤ 9 ∧ zcd (zbd rows) = (rows.length : Int) * (zap rows : Int)) := by
 have hn := names_nums h
 have hinj := names_inj rows
 have hl : (zbw (canon rows)).length = rows.length := by simp [zbw, canon, canonL]
 have hnm : namesOf (zbw (canon rows)) = zbw (canon rows) := by
  unfold namesOf
  rw [hn, canon_map hinj]
 unfold planB
 cases hG : gridOk (zbw (canon rows))
 ·rw [floorF_nogrid hG]
  have : ¬ (zbd rows).length ≤ 9 := by
   intro h9
   have hL := rooms_len h
   have ht : gridOk (zbw (canon rows)) = true := by
    unfold gridOk
    rw [Bool.and_eq_true, hn, mapG_shape]
    refine ⟨h, ?_⟩
    rw [List.all_eq_true]
    intro s hs
    obtain ⟨r, hr, rfl⟩ := List.mem_map.1 hs
    unfold okText
    rw [bytesOf_rowText r (canon_val h r hr), List.all_eq_true]
    intro x hx
    obtain ⟨y, hy, rfl⟩ := List.mem_map.1 hx
    unfold canon canonL at hr
    obtain ⟨r0, hr0, rfl⟩ := List.mem_map.1 hr
    obtain ⟨z, hz, rfl⟩ := List.mem_map.1 hy
    have := List.idxOf_lt_length_of_mem (ordL_mem rows.flatten [] z (List.mem_flatten.2 ⟨r0, hr0, hz⟩))
    have h3 : (zcc rows).idxOf z < (zcc rows).length := this
    simp only [okLetter, Bool.not_eq_true', Bool.or_eq_false_iff, decide_eq_false_iff_not]
    omega
   rw [hG] at ht
   cases ht
  rw [decide_eq_false (fun hh => this hh.1)]
  rfl
 ·rw [floorF_grid hG, hn, rooms_map h hinj, mapG_wide, hl]
  by_cases hc : (zbd rows).length ≤ 9 ∧ zcd (zbd rows) = (rows.length : Int) * (zap rows : Int)
  ·rw [if_pos ⟨hc.1, hc.2, hnm⟩, decide_eq_true hc]
   rfl
  ·rw [if_neg (fun hh => hc ⟨hh.1, hh.2.1⟩), decide_eq_false hc]
   rfl
theorem l1Done_j0 (k : Nat) (p : List ByteArray) (b : Bool) : spec_l1Done.j0 (k + 1) p b = if b = true then ((spec_l1None.f).bind fun bt177 => (some (bt177.1, bt177.2))) else ((spec_l1Names.f k p).bind fun t181 => (some (t181, true))) := by simp only [spec_l1Done.j0]
theorem l1None_f : spec_l1None.f = some ([], false) := rfl
theorem small_names {p : List ByteArray} (hp : smallP p) : smallP (namesOf p) := by
 have hl : (namesOf p).length = p.length := by simp [namesOf, zbw, canon, canonL, zao]
 refine ⟨by rw [hl]; exact hp.1, fun s hs => ?_⟩
 unfold namesOf zbw canon canonL zao at hs
 rw [List.map_map, List.map_map] at hs
 obtain ⟨s0, h0, rfl⟩ := List.mem_map.1 hs
 have := hp.2 s0 h0
 have hb := zbi s0
 show (rowText _).size ≤ _
 unfold rowText rowBytes
 show ((List.map letterOf (List.map _ (bytesOf s0))).toArray).size ≤ _
 simp
 omega
theorem l1Done_ev (t : List ByteArray) (hp : smallP t) : Evs (fun k => spec_l1Done.f k t) (doneF t) := by
 have hg := l1Grid_ev t hp
 cases hG : gridOk t
 ·rw [hG] at hg
  have hd : doneF t = ([], false) := by
   unfold doneF
   unfold gridOk at hG
   by_cases ha : t.all okText = true
   ·rw [ha, Bool.and_true] at hG
    rw [if_pos ha, planF_noshape hG]
   ·rw [if_neg ha]
  rw [hd]
  refine Evs.bind hg ?_
  refine Evs.congr (h := fun k => spec_l1Done.j0 k t true) (fun k => ?_) (Evs.step (h := fun _ => some ([], false)) (fun k => ?_) (Evs.const _))
  ·rw [if_neg (by simp)]
  ·rw [l1Done_j0, if_pos rfl, l1None_f]
   rfl
 ·rw [hG] at hg
  have hG2 := hG
  unfold gridOk at hG2
  rw [Bool.and_eq_true] at hG2
  have hs := hG2.1
  have hd : doneF t = if (zbd (zao t)).length ≤ 9 ∧ zcd (zbd (zao t)) = ((zao t).length : Int) * (zap (zao t) : Int) then (namesOf t, true) else ([], false) := by
   unfold doneF
   rw [if_pos hG2.2, planF_shape hs]
   rfl
  have hn := l1Names_ev t hp (by have := shape_order hs; omega)
  have hpl := PlanIn_ev (namesOf t) (small_names hp)
  rw [show planB (namesOf t) = _ from names_plan hs] at hpl
  rw [hd]
  refine Evs.bind hg ?_
  refine Evs.congr (h := fun k => (spec_l1Names.f k t).bind fun t173 => ((spec_PlanIn.f k t173).bind fun t176 => (spec_l1Done.j0 k t (!t176)))) (fun k => ?_) (Evs.bind hn (Evs.bind hpl ?_))
  ·rw [if_pos rfl]
  ·by_cases hc : (zbd (zao t)).length ≤ 9 ∧ zcd (zbd (zao t)) = ((zao t).length : Int) * (zap (zao t) : Int)
   ·rw [if_pos hc, decide_eq_true hc]
    refine Evs.step (h := fun k => (spec_l1Names.f k t).bind fun t181 => (some (t181, true))) (fun k => ?_) (Evs.bind hn (Evs.const _))
    rw [l1Done_j0, if_neg (by simp)]
   ·rw [if_neg hc, decide_eq_false hc]
    refine Evs.step (h := fun _ => some ([], false)) (fun k => ?_) (Evs.const _)
    rw [l1Done_j0, if_pos (by simp), l1None_f]
    rfl
def hasB (rs : List Rc) (a : Int) : Bool := decide (0 ≤ a) && decide (a < rs.length)
theorem has_f (cs : List (List Int)) (rs : List Rc) (a : Int) : impl_floor_has.f cs rs a = some (hasB rs a) := by
 unfold impl_floor_has.f hasB
 by_cases h : 0 ≤ a
 ·rw [if_pos h]; simp [h]
 ·rw [if_neg h]; simp [h]
theorem FloorAt.rooms {w : World} {g : Nat} {cs : List (List Int)} {rs : List Rc} (hf : FloorAt w g cs rs) : ∃ A c, w.cell? ⟨g, 1, none⟩ = some (.slice A rs.length c) ∧ kRc.C w A rs.length rs := by
 obtain ⟨A0, c0, A1, c1, h1, h2, h3, h4⟩ := hf
 exact ⟨A1, c1, (zax h1 1).trans rfl, h4⟩
structure PlanFacts (p : List ByteArray) (cs : List (List Int)) (rs : List Rc) : Prop where
 canon : Canon p
 cells : cs = Hd.canon (zao p)
 rooms : rs = zbd (zao p)
 nums : zao p = mapG (fun x => 97 + x) cs
 ok : FloorOk cs rs
 len : p.length = cs.length
 wide : zap (zao p) = zap cs
 text : p = zbw cs
theorem floor_facts {p : List ByteArray} {cs : List (List Int)} {rs : List Rc} (h : zcn p = some (cs, rs)) : PlanFacts p cs rs := by
 have hok := floorF_ok h
 cases hG : gridOk p with
 | false => rw [floorF_nogrid hG] at h; cases h
 | true =>
  rw [floorF_grid hG] at h
  split at h
  ·rename_i hc
   injection h with h
   injection h with e1 e2
   have hC : Canon p := ⟨hG, hc.2.2⟩
   have hn : zao p = mapG (fun x => 97 + x) cs := by
    have := numsOf_textOf (canon (zao p)) (canon_val hC.shape)
    rw [show zbw (canon (zao p)) = p from hC.names, e1] at this
    exact this
   refine ⟨hC, e1.symm, e2.symm, hn, hok, ?_, ?_, ?_⟩
   ·rw [← zbq, hn, mapG_length]
   ·rw [hn, mapG_wide]
   ·rw [← e1]; exact hC.names.symm
  ·cases h
theorem bytesOf_strOfNums (xs : List Int) (h : ∀ x ∈ xs, 0 ≤ x ∧ x ≤ 255) : bytesOf (strOfNums xs) = xs := by
 unfold bytesOf strOfNums
 show ((xs.map fun n => UInt8.ofNat n.toNat).toArray.toList).map _ = _
 rw [List.map_map]
 conv => rhs; rw [← List.map_id xs]
 apply List.map_congr_left
 intro x hx
 have := h x hx
 show ((UInt8.ofNat x.toNat).toNat : Int) = x
 rw [UInt8.toNat_ofNat']
 omega
theorem FloorOk.rect {cs : List (List Int)} {rs : List Rc} (h : FloorOk cs rs) : Rect (zap cs) cs := h.cells.row
theorem okText_of {s : ByteArray} (h : ∀ x ∈ bytesOf s, 97 ≤ x ∧ x ≤ 122) : okText s = true := by
 unfold okText
 rw [List.all_eq_true]
 intro x hx
 have := h x hx
 simp only [okLetter, Bool.not_eq_true', Bool.or_eq_false_iff, decide_eq_false_iff_not]
 omega
theorem planB_cases (p : List ByteArray) : (planB p = false ∧ zcn p = none) ∨ (planB p = true ∧ ∃ cs rs, zcn p = some (cs, rs)) := by
 unfold planB
 cases h : zcn p with
 | none => exact .inl ⟨rfl, rfl⟩
 | some t => exact .inr ⟨rfl, t.1, t.2, rfl⟩
structure Mid (p : List ByteArray) (wi : Nat) : Prop where
 high : p.length ≤ 100
 wide : wi ≤ 100
 row : ∀ s ∈ p, s.size = wi
theorem Mid.rect {p : List ByteArray} {wi : Nat} (h : Mid p wi) : Rect wi (zao p) := by
 intro r hr
 obtain ⟨s, hs, rfl⟩ := List.mem_map.1 hr
 rw [zbi]
 exact h.row s hs
theorem Mid.small {p : List ByteArray} {wi : Nat} (h : Mid p wi) : smallP p := ⟨by have := h.high; omega, fun s hs => by rw [h.row s hs]; have := h.wide; omega⟩
def colOf (p : List ByteArray) (c : Nat) : List Int := p.map fun s => (bytesOf s).getD c 0
def transOf (p : List ByteArray) (wi : Nat) : List ByteArray := (List.range wi).map fun c => strOfNums (colOf p c)
theorem trans_l1 (p : List ByteArray) (wi : Nat) (h : Mid p wi) (c : Nat) (hc : c < wi) (x3 : List ByteArray) (h3 : x3.length ≤ 1000) (r : List ByteArray) (hnext : Evs (fun k => spec_l1Trans.l0 k p (x3 ++ [strOfNums (colOf p c)]) ((c + 1 : Nat) : Int)) r) :
  ∀ m i, i + m = p.length → Evs (fun k => spec_l1Trans.l1 k p x3 (c : Int) (colOf (p.take i) c) (i : Int)) r := by
 have hh := h.high
 have hw := h.wide
 intro m
 induction m with
 | zero =>
  intro i hi
  rw [List.take_of_length_le (by omega)]
  refine Evs.step (h := fun k => spec_l1Trans.l0 k p (x3 ++ [strOfNums (colOf p c)]) ((c + 1 : Nat) : Int)) (fun k => ?_) hnext
  conv => lhs; unfold spec_l1Trans.l1
  rw [if_neg (by omega), if_pos (by omega), zbg (by omega)]
 | succ m ih =>
  intro i hi
  obtain ⟨s, hs⟩ : ∃ s, p[i]? = some s := ⟨_, List.getElem?_eq_getElem (by omega)⟩
  have hsz := h.row s (List.mem_of_getElem? hs)
  have hnx := ih (i + 1) (by omega)
  have e : colOf (p.take (i + 1)) c = colOf (p.take i) c ++ [(bytesOf s).getD c 0] := by
   unfold colOf
   rw [List.take_add_one, hs, List.map_append]
   rfl
  rw [e] at hnx
  refine Evs.step (h := fun k => spec_l1Trans.l1 k p x3 (c : Int) (colOf (p.take i) c ++ [(bytesOf s).getD c 0]) ((i + 1 : Nat) : Int)) (fun k => ?_) hnx
  conv => lhs; unfold spec_l1Trans.l1
  rw [if_pos (by omega), if_pos (by omega), if_pos (by omega), rdOf_at hs, if_pos (by omega), if_pos (by simp [colOf]; omega), ← bytesOf_get, zbg (by omega)]
theorem trans_l0 (p : List ByteArray) (wi : Nat) (h : Mid p wi) (h1 : 1 ≤ p.length) : ∀ m c, c + m = wi → Evs (fun k => spec_l1Trans.l0 k p ((List.range c).map fun c => strOfNums (colOf p c)) (c : Int)) (transOf p wi) := by
 have hh := h.high
 have hw := h.wide
 obtain ⟨s, hs⟩ : ∃ s, p[0]? = some s := ⟨_, List.getElem?_eq_getElem (by omega)⟩
 have hsz := h.row s (List.mem_of_getElem? hs)
 have e0 : rdOf ByteArray.empty p 0 = s := rdOf_at (i := 0) hs
 intro m
 induction m with
 | zero =>
  intro c hc
  obtain rfl : c = wi := by omega
  refine Evs.step (h := fun _ => some (transOf p c)) (fun k => ?_) (Evs.const _)
  conv => lhs; unfold spec_l1Trans.l0
  rw [if_pos (by omega), e0, if_neg (by omega)]
  rfl
 | succ m ih =>
  intro c hc
  have hnx := ih (c + 1) (by omega)
  rw [List.range_succ, List.map_append] at hnx
  have := trans_l1 p wi h c (by omega) ((List.range c).map fun c => strOfNums (colOf p c)) (by simp; omega) _ hnx p.length 0 (by omega)
  refine Evs.step (h := fun k => spec_l1Trans.l1 k p ((List.range c).map fun c => strOfNums (colOf p c)) (c : Int) (colOf (p.take 0) c) ((0 : Nat) : Int)) (fun k => ?_) this
  conv => lhs; unfold spec_l1Trans.l0
  rw [if_pos (by omega), e0, if_pos (by omega)]
  rfl
theorem l1Trans_ev (p : List ByteArray) (wi : Nat) (h : Mid p wi) (h1 : 1 ≤ p.length) : Evs (fun k => spec_l1Trans.f k p) (transOf p wi) := trans_l0 p wi h h1 wi 0 (by omega)
theorem colOf_range (p : List ByteArray) (c : Nat) : ∀ x ∈ colOf p c, 0 ≤ x ∧ x ≤ 255 := by
 intro x hx
 obtain ⟨s, hs, rfl⟩ := List.mem_map.1 hx
 rw [ycj]
 cases h : (bytesOf s)[c]? with
 | none => simp
 | some y => exact bytesOf_range s y (List.mem_of_getElem? h)
theorem numsOf_trans (p : List ByteArray) (wi : Nat) : zao (transOf p wi) = zbn wi p.length (fun r c => zba (zao p) c r) := by
 unfold zao transOf zbn
 rw [List.map_map]
 apply List.map_congr_left
 intro c hc
 show bytesOf (strOfNums (colOf p c)) = _
 rw [bytesOf_strOfNums _ (colOf_range p c)]
 unfold colOf
 apply List.ext_getElem?
 intro i
 rw [List.getElem?_map, List.getElem?_map]
 by_cases hi : i < p.length
 ·rw [List.getElem?_range hi, List.getElem?_eq_getElem hi]
  simp only [Option.map_some]
  congr 1
  unfold zba
  rw [ycj (l := List.map bytesOf p), List.getElem?_map, List.getElem?_eq_getElem hi]
  rfl
 ·rw [List.getElem?_eq_none (by omega), List.getElem?_eq_none (by simp; omega)]
  rfl
theorem mapG_gridOf (f : Int → Int) (h w : Nat) (g : Nat → Nat → Int) : mapG f (zbn h w g) = zbn h w (fun r c => f (g r c)) := by
 unfold mapG zbn
 rw [List.map_map]
 apply List.map_congr_left
 intro r hr
 show (List.map _ _).map f = _
 rw [List.map_map]
 rfl
theorem mid_trans {p : List ByteArray} {wi : Nat} (h : Mid p wi) : Mid (transOf p wi) p.length := by
 refine ⟨by simp [transOf]; exact h.wide, h.high, fun s hs => ?_⟩
 obtain ⟨c, hc, rfl⟩ := List.mem_map.1 hs
 show (List.map _ (colOf p c)).toArray.size = _
 simp [colOf]
theorem trans_length (p : List ByteArray) (wi : Nat) : (transOf p wi).length = wi := by simp [transOf]
section
variable {α : Type} {g h : Nat → Option α} {r : α} {c : Prop} [Decidable c]
theorem Evs.pos (hc : c) (hg : Evs g r) : Evs (fun k => if c then g k else h k) r := Evs.congr (fun k => if_pos hc) hg
theorem Evs.neg (hc : ¬ c) (hh : Evs h r) : Evs (fun k => if c then g k else h k) r := Evs.congr (fun k => if_neg hc) hh
end
end Go.Proofs.Ytaepgogafkmooaa.Hd
namespace Go.Proofs.Ytaepgogafkmooaa.Hd
open Go.RowKit Go.PW.PrintWords Go.PW.PrintLast Go.PW.PrintMore Go.Proofs.Ytaepgogafkmooaa.PB
abbrev Wl := S79
def runC (d : Nat → Bool) : Nat → List (Nat × Nat) × Option Nat
 | 0 => ([], none)
 | n + 1 => match runC d n with
  | (c, none) => (c, if d n then some n else none)
  | (c, some f) => if d n then (c, some f) else (c ++ [(f, n - f)], none)
def openR (n : Nat) : Option Nat → List (Nat × Nat)
 | none => []
 | some f => [(f, n - f)]
def runs (d : Nat → Bool) (n : Nat) : List (Nat × Nat) := (runC d n).1 ++ openR n (runC d n).2
theorem runC_inv (d : Nat → Bool) : ∀ n, (∀ x ∈ (runC d n).1, x.1 + x.2 ≤ n ∧ 1 ≤ x.2) ∧ (∀ f, (runC d n).2 = some f → f < n) ∧ (runC d n).1.length + (if (runC d n).2.isSome = true then 1 else 0) ≤ n
 | 0 => by simp [runC]
 | n + 1 => by
  obtain ⟨h1, h2, h3⟩ := runC_inv d n
  rcases hR : runC d n with ⟨c, o⟩
  rw [hR] at h1 h2 h3
  cases o with
  | none =>
   have e : runC d (n + 1) = (c, if d n then some n else none) := by simp only [runC, hR]
   rw [e]
   refine ⟨fun x hx => ?_, fun f hf => ?_, ?_⟩
   ·have := h1 x hx; omega
   ·dsimp only at hf
    split at hf
    ·injection hf with hf; omega
    ·cases hf
   ·dsimp only at h3 ⊢
    simp only [Option.isSome_none, Bool.false_eq_true, if_false] at h3
    split <;> simp <;> omega
  | some f =>
   have hf := h2 f rfl
   by_cases hd : d n = true
   ·have e : runC d (n + 1) = (c, some f) := by simp only [runC, hR, hd, if_true]
    rw [e]
    refine ⟨fun x hx => ?_, fun g hg => ?_, ?_⟩
    ·have := h1 x hx; omega
    ·injection hg with hg; omega
    ·dsimp only at h3 ⊢; omega
   ·have e : runC d (n + 1) = (c ++ [(f, n - f)], none) := by simp only [runC, hR, if_neg hd]
    rw [e]
    refine ⟨fun x hx => ?_, fun g hg => (by cases hg), ?_⟩
    ·rcases List.mem_append.1 hx with h | h
     ·have := h1 x h; omega
     ·simp at h; subst h; dsimp only; omega
    ·dsimp only at h3 ⊢
     simp only [Option.isSome_some, if_true] at h3
     simp
     omega
theorem runs_length (d : Nat → Bool) (n : Nat) : (runs d n).length ≤ n := by
 obtain ⟨h1, h2, h3⟩ := runC_inv d n
 unfold runs
 rw [List.length_append]
 cases h : (runC d n).2 with
 | none => rw [h] at h3; simp [openR] at h3 ⊢; exact h3
 | some f => rw [h] at h3; simp [openR] at h3 ⊢; exact h3
theorem runs_in (d : Nat → Bool) (n : Nat) : ∀ x ∈ runs d n, x.1 + x.2 ≤ n ∧ 1 ≤ x.2 := by
 obtain ⟨h1, h2, h3⟩ := runC_inv d n
 intro x hx
 unfold runs at hx
 rcases List.mem_append.1 hx with h | h
 ·exact h1 x h
 ·cases h4 : (runC d n).2 with
  | none => rw [h4] at h; cases h
  | some f =>
   rw [h4] at h
   have := h2 f h4
   simp [openR] at h
   subst h
   dsimp only
   omega
theorem runC_congr {d d' : Nat → Bool} : ∀ n, (∀ i, i < n → d i = d' i) → runC d n = runC d' n
 | 0, _ => rfl
 | n + 1, h => by simp only [runC, runC_congr n (fun i hi => h i (by omega)), h n (by omega)]
theorem runs_congr {d d' : Nat → Bool} (n : Nat) (h : ∀ i, i < n → d i = d' i) : runs d n = runs d' n := by unfold runs; rw [runC_congr n h]
def trip (d : Nat → Nat → Bool) (n : Nat) : Nat → List (Nat × Nat × Nat)
 | 0 => []
 | j + 1 => trip d n j ++ (runs (d (j + 1)) n).map fun x => (j + 1, x.1, x.2)
theorem trip_length (d : Nat → Nat → Bool) (n : Nat) : ∀ j, (trip d n j).length ≤ j * n
 | 0 => by simp [trip]
 | j + 1 => by
  have := trip_length d n j
  have := runs_length (d (j + 1)) n
  simp only [trip, List.length_append, List.length_map]
  rw [Nat.succ_mul]
  omega
theorem trip_in (d : Nat → Nat → Bool) (n : Nat) : ∀ j, ∀ x ∈ trip d n j, 1 ≤ x.1 ∧ x.1 ≤ j ∧ x.2.1 + x.2.2 ≤ n ∧ 1 ≤ x.2.2
 | 0, x, hx => by cases hx
 | j + 1, x, hx => by
  simp only [trip] at hx
  rcases List.mem_append.1 hx with h | h
  ·have := trip_in d n j x h; omega
  ·obtain ⟨y, hy, rfl⟩ := List.mem_map.1 h
   have := runs_in _ n y hy
   dsimp only
   omega
theorem trip_congr {d d' : Nat → Nat → Bool} {n : Nat} : ∀ j, (∀ l i, 1 ≤ l → l ≤ j → i < n → d l i = d' l i) → trip d n j = trip d' n j
 | 0, _ => rfl
 | j + 1, h => by
  simp only [trip]
  rw [trip_congr j (fun l i h1 h2 h3 => h l i h1 (by omega) h3), runs_congr n (fun i hi => h (j + 1) i (by omega) (by omega) hi)]
def mkW (lv : Bool) (t : Nat × Nat × Nat) : Wl := ⟨lv, (t.1 : Int), (t.2.1 : Int), (t.2.2 : Int)⟩
def difB (cs : List (List Int)) (lv : Bool) (line i : Nat) : Bool := if lv = true then zba cs (line - 1) i != zba cs line i else zba cs i (line - 1) != zba cs i line
def zbv (cs : List (List Int)) : List Wl := (trip (difB cs false) cs.length (zap cs - 1)).map (mkW false) ++ (trip (difB cs true) (zap cs) (cs.length - 1)).map (mkW true)
theorem rd_val (cs : List (List Int)) (r c : Nat) : rd (zbo cs (r : Int)) (c : Int) = zba cs r c := by
 unfold rd zbo zba
 rw [Int.toNat_natCast, Int.toNat_natCast]
theorem row_len {cs : List (List Int)} {rs : List Rc} (h : FloorOk cs rs) {r : Nat} (hr : r < cs.length) : (zbo cs (r : Int)).length = zap cs := by
 unfold zbo
 rw [Int.toNat_natCast, ycj, List.getElem?_eq_getElem hr]
 exact h.cells.row _ (List.getElem_mem _)
def zcq (cs : List (List Int)) (lv : Bool) (line i : Nat) : Int × Int := if lv = true then (zba cs (line - 1) i, zba cs line i) else (zba cs i (line - 1), zba cs i line)
def linesOf (cs : List (List Int)) (lv : Bool) : Nat := if lv = true then cs.length else zap cs
def zbt (cs : List (List Int)) (lv : Bool) : Nat := if lv = true then zap cs else cs.length
theorem sides_f {cs : List (List Int)} {rs : List Rc} (h : FloorOk cs rs) (lv : Bool) (line i : Nat) (h1 : 1 ≤ line) (h2 : line < linesOf cs lv) (h3 : i < zbt cs lv) : impl_floor_sides.f cs rs lv line i = some (zcq cs lv line i) := by
 have q1 := h.h6
 have q2 := h.w6
 unfold impl_floor_sides.f
 cases lv with
 | true =>
  simp only [linesOf, zbt, if_true] at h2 h3
  have e : wrap64 ((line : Int) - 1) = ((line - 1 : Nat) : Int) := by rw [zat (by omega) (by omega)]; omega
  rw [e, if_pos rfl, if_pos (by omega), if_pos (by omega), if_pos (by omega), row_len h (by omega), if_pos (by omega), if_pos (by omega), if_pos (by omega), row_len h (by omega), if_pos (by omega), rd_val, rd_val]
  rfl
 | false =>
  simp only [linesOf, zbt, Bool.false_eq_true, if_false] at h2 h3
  have e : wrap64 ((line : Int) - 1) = ((line - 1 : Nat) : Int) := by rw [zat (by omega) (by omega)]; omega
  rw [e, if_neg (by simp), if_pos (by omega), if_pos (by omega), if_pos (by omega), row_len h (by omega), if_pos (by omega), if_pos (by omega), if_pos (by omega), rd_val, rd_val]
  rfl
theorem differ_f {cs : List (List Int)} {rs : List Rc} (h : FloorOk cs rs) (lv : Bool) (line i : Nat) (h1 : 1 ≤ line) (h2 : line < linesOf cs lv) (h3 : i < zbt cs lv) : impl_floor_differ.f cs rs lv line i = some (difB cs lv line i) := by
 unfold impl_floor_differ.f
 rw [sides_f h lv line i h1 h2 h3]
 unfold zcq difB
 cases lv <;> rfl
theorem set_last {α : Type} (x : List α) (a b : α) : (x ++ [a]).set x.length b = x ++ [b] := by
 rw [List.set_append_right _ _ (Nat.le_refl _), Nat.sub_self, ych]
theorem walls_l2 (cs : List (List Int)) (rs : List Rc) (lv : Bool) (line : Nat) (hl : line ≤ 100) (d : Nat → Bool) (N : Nat) (hN : N ≤ 100) (hd : ∀ i, i < N → impl_floor_differ.f cs rs lv line i = some (d i)) (x6 x7 x13 x14 : Int) (x12 : List Bool) (pre : List Wl) (hpre : pre.length ≤ 1000) (r : List Wl)
  (hnext : Evs (fun k => impl_floor_walls.l1 k (pre ++ (runs d N).map (fun x => mkW lv (line, x.1, x.2))) lv x6 x7 ((line + 1 : Nat) : Int) x12 x13 x14 cs rs) r) :
  ∀ m i, i + m = N → Evs (fun k => impl_floor_walls.l2 k (pre ++ (runs d i).map (fun x => mkW lv (line, x.1, x.2))) lv x6 x7 (line : Int) (runC d i).2.isSome x12 x13 x14 (N : Int) (i : Int) cs rs) r := by
 intro m
 induction m with
 | zero =>
  intro i hi
  obtain rfl : i = N := by omega
  refine Evs.step (fun k => ?_) hnext
  conv => lhs; unfold impl_floor_walls.l2
  rw [if_neg (by omega), zbg (by omega)]
 | succ m ih =>
  intro i hi
  have hnx := ih (i + 1) (by omega)
  have hdi := hd i (by omega)
  have hrl := runs_length d i
  obtain ⟨g1, g2, g3⟩ := runC_inv d i
  rcases hR : runC d i with ⟨c, o⟩
  rw [hR] at g1 g2 g3
  have e1 : runs d i = c ++ openR i o := by unfold runs; rw [hR]
  rw [e1] at hrl ⊢
  rw [List.length_append] at hrl
  cases hb : d i with
  | true =>
   rw [hb] at hdi
   cases o with
   | none =>
    have e2 : runC d (i + 1) = (c, some i) := by simp only [runC, hR, hb, if_true]
    have e3 : runs d (i + 1) = c ++ [(i, 1)] := by unfold runs; rw [e2]; simp [openR]
    rw [e2, e3] at hnx
    refine Evs.step (h := fun k => impl_floor_walls.j4 k (pre ++ (c ++ openR i none).map (fun x => mkW lv (line, x.1, x.2))) lv x6 x7 (line : Int) (i : Int) true x12 x13 x14 (N : Int) (i : Int) false cs rs) (fun k => ?_) (Evs.step (fun k => ?_) hnx)
    ·conv => lhs; unfold impl_floor_walls.l2
     rw [if_pos (by omega), hdi]
     rfl
    ·conv => lhs; unfold impl_floor_walls.j4
     rw [if_neg (by simp), if_pos rfl, if_pos (by simp [openR]; omega), zbg (by omega)]
     simp [openR, mkW]
   | some f =>
    have hf := g2 f rfl
    have e2 : runC d (i + 1) = (c, some f) := by simp only [runC, hR, hb, if_true]
    have e3 : runs d (i + 1) = c ++ [(f, i + 1 - f)] := by unfold runs; rw [e2]; simp [openR]
    rw [e2, e3] at hnx
    have hap : pre ++ (c ++ openR i (some f)).map (fun x => mkW lv (line, x.1, x.2)) = (pre ++ c.map (fun x => mkW lv (line, x.1, x.2))) ++ [mkW lv (line, f, i - f)] := by simp [openR]
    rw [hap]
    have hap2 : pre ++ (c ++ [(f, i + 1 - f)]).map (fun x => mkW lv (line, x.1, x.2)) = (pre ++ c.map (fun x => mkW lv (line, x.1, x.2))) ++ [mkW lv (line, f, i + 1 - f)] := by simp
    rw [hap2] at hnx
    have hlen : (pre ++ c.map (fun x => mkW lv (line, x.1, x.2))).length ≤ 1100 := by simp [openR] at hrl ⊢; omega
    generalize pre ++ c.map (fun x => mkW lv (line, x.1, x.2)) = q at *
    refine Evs.step (h := fun k => impl_floor_walls.j4 k (q ++ [mkW lv (line, f, i - f)]) lv x6 x7 (line : Int) (i : Int) true x12 x13 x14 (N : Int) (i : Int) true cs rs) (fun k => ?_) (Evs.step (fun k => ?_) hnx)
    ·conv => lhs; unfold impl_floor_walls.l2
     rw [if_pos (by omega), hdi]
     rfl
    ·conv => lhs; unfold impl_floor_walls.j4
     have e4 : wrap64 (((q ++ [mkW lv (line, f, i - f)]).length : Int) - 1) = (q.length : Int) := by
      have hq : ((q ++ [mkW lv (line, f, i - f)]).length : Int) = (q.length : Int) + 1 := by simp
      rw [hq, zat (by omega) (by omega)]; omega
     have e5 : zcf (q ++ [mkW lv (line, f, i - f)]) (q.length : Int) = mkW lv (line, f, i - f) := by
      unfold zcf
      rw [Int.toNat_natCast, ycj, List.getElem?_append_right (Nat.le_refl _), Nat.sub_self]
      rfl
     have e6 : wrap64 ((mkW lv (line, f, i - f)).f3 + 1) = ((i + 1 - f : Nat) : Int) := by
      show wrap64 (((i - f : Nat) : Int) + 1) = _
      rw [zat (by omega) (by omega)]; omega
     rw [if_pos rfl, e4, if_pos (by omega), if_pos (by simp; omega), e5, e6, Int.toNat_natCast, set_last, zbg (by omega)]
     rfl
  | false =>
   rw [hb] at hdi
   have e3 : runs d (i + 1) = c ++ openR i o ∧ (runC d (i + 1)).2.isSome = false := by
    cases o with
    | none =>
     have e2 : runC d (i + 1) = (c, none) := by simp [runC, hR, hb]
     unfold runs
     rw [e2]
     exact ⟨rfl, rfl⟩
    | some f =>
     have e2 : runC d (i + 1) = (c ++ [(f, i - f)], none) := by simp [runC, hR, hb]
     unfold runs
     rw [e2]
     exact ⟨by simp [openR], rfl⟩
   rw [e3.1, e3.2] at hnx
   refine Evs.step (h := fun k => impl_floor_walls.j4 k (pre ++ (c ++ openR i o).map (fun x => mkW lv (line, x.1, x.2))) lv x6 x7 (line : Int) (i : Int) false x12 x13 x14 (N : Int) (i : Int) false cs rs) (fun k => ?_) (Evs.step (fun k => ?_) hnx)
   ·conv => lhs; unfold impl_floor_walls.l2
    rw [if_pos (by omega), hdi]
    rfl
   ·conv => lhs; unfold impl_floor_walls.j4
    rw [if_neg (by simp), if_neg (by simp), zbg (by omega)]
theorem walls_l1 {cs : List (List Int)} {rs : List Rc} (h : FloorOk cs rs) (lv : Bool) (x13 x14 : Int) (hx14 : 0 ≤ x14) (hx14' : x14 ≤ 1000) (x12 : List Bool) (pre : List Wl) (hpre : pre.length ≤ 500) (r : List Wl)
  (hnext : Evs (fun k => impl_floor_walls.l0 k (pre ++ (trip (difB cs lv) (zbt cs lv) (linesOf cs lv - 1)).map (mkW lv)) x12 x13 (x14 + 1) cs rs) r) :
  ∀ m j, j + 1 + m = linesOf cs lv → Evs (fun k => impl_floor_walls.l1 k (pre ++ (trip (difB cs lv) (zbt cs lv) j).map (mkW lv)) lv (linesOf cs lv : Int) (zbt cs lv : Int) ((j + 1 : Nat) : Int) x12 x13 x14 cs rs) r := by
 have q1 := h.h6
 have q2 := h.w6
 have hN : zbt cs lv ≤ 6 := by unfold zbt; split <;> omega
 have hL : linesOf cs lv ≤ 6 := by unfold linesOf; split <;> omega
 intro m
 induction m with
 | zero =>
  intro j hj
  have e : linesOf cs lv - 1 = j := by omega
  rw [e] at hnext
  refine Evs.step (fun k => ?_) hnext
  conv => lhs; unfold impl_floor_walls.l1
  rw [if_neg (by omega), zat (by omega) (by omega)]
 | succ m ih =>
  intro j hj
  have hnx := ih (j + 1) (by omega)
  have ht := trip_length (difB cs lv) (zbt cs lv) j
  have hm : j * zbt cs lv ≤ 6 * 6 := Nat.mul_le_mul (by omega) hN
  have e : pre ++ (trip (difB cs lv) (zbt cs lv) (j + 1)).map (mkW lv) = (pre ++ (trip (difB cs lv) (zbt cs lv) j).map (mkW lv)) ++ (runs (difB cs lv (j + 1)) (zbt cs lv)).map (fun x => mkW lv (j + 1, x.1, x.2)) := by
   simp [trip, Function.comp_def]
  rw [e] at hnx
  have := walls_l2 cs rs lv (j + 1) (by omega) (difB cs lv (j + 1)) (zbt cs lv) (by omega) (fun i hi => differ_f h lv (j + 1) i (by omega) (by omega) hi) (linesOf cs lv) (zbt cs lv) x13 x14 x12 (pre ++ (trip (difB cs lv) (zbt cs lv) j).map (mkW lv)) (by simp; omega) r hnx (zbt cs lv) 0 (by omega)
  refine Evs.step (fun k => ?_) this
  conv => lhs; unfold impl_floor_walls.l1
  rw [if_pos (by omega)]
  simp [runs, runC, openR]
theorem walls_ev {cs : List (List Int)} {rs : List Rc} (h : FloorOk cs rs) : Evs (fun k => impl_floor_walls.f k cs rs) (zbv cs) := by
 have q1 := h.h6
 have q2 := h.w6
 have q3 := h.h1
 have q4 := h.w1
 have ht := trip_length (difB cs false) cs.length (zap cs - 1)
 have hm : (zap cs - 1) * cs.length ≤ 6 * 6 := Nat.mul_le_mul (by omega) q1
 have end_ : Evs (fun k => impl_floor_walls.l0 k (zbv cs) [false, true] 2 2 cs rs) (zbv cs) := by
  refine Evs.step (h := fun _ => some (zbv cs)) (fun k => ?_) (Evs.const _)
  conv => lhs; unfold impl_floor_walls.l0
  rw [if_neg (by omega)]
 have two := walls_l1 h true 2 1 (by omega) (by omega) [false, true] ((trip (difB cs false) cs.length (zap cs - 1)).map (mkW false)) (by simp; omega) _ end_ (cs.length - 1) 0 (by show 0 + 1 + _ = cs.length; omega)
 simp only [trip, List.map_nil, List.append_nil] at two
 have two' : Evs (fun k => impl_floor_walls.l0 k ((trip (difB cs false) cs.length (zap cs - 1)).map (mkW false)) [false, true] 2 1 cs rs) (zbv cs) := by
  refine Evs.step (h := fun k => impl_floor_walls.j1 k ((trip (difB cs false) cs.length (zap cs - 1)).map (mkW false)) true (cs.length : Int) (zap cs : Int) [false, true] 2 1 cs rs) (fun k => ?_) (Evs.step (fun k => ?_) two)
  ·conv => lhs; unfold impl_floor_walls.l0
   rw [if_pos (by omega), if_pos (by omega), if_pos (by simp), wide_f h, high_f]
   rfl
  ·conv => lhs; unfold impl_floor_walls.j1
   rfl
 have one := walls_l1 h false 2 0 (by omega) (by omega) [false, true] [] (by simp) _ (by rw [List.nil_append]; exact two') (zap cs - 1) 0 (by show 0 + 1 + _ = zap cs; omega)
 simp only [trip, List.map_nil, List.append_nil] at one
 refine Evs.congr (h := fun k => impl_floor_walls.l0 k [] [false, true] 2 0 cs rs) (fun k => rfl) ?_
 refine Evs.step (h := fun k => impl_floor_walls.j1 k [] false (zap cs : Int) (cs.length : Int) [false, true] 2 0 cs rs) (fun k => ?_) (Evs.step (fun k => ?_) one)
 ·conv => lhs; unfold impl_floor_walls.l0
  rw [if_pos (by omega), if_pos (by omega), if_pos (by simp), wide_f h, high_f]
  rfl
 ·conv => lhs; unfold impl_floor_walls.j1
  rfl
def tri (t : Nat × Nat × Nat) : List Int := [(t.1 : Int), (t.2.1 : Int), (t.2.2 : Int)]
def fromI : Option Nat → Int
 | none => -1
 | some f => (f : Int)
def difU (g : Nat → Nat → Int) (line i : Nat) : Bool := g i (line - 1) != g i line
def upsOf (g : Nat → Nat → Int) (hi wi : Nat) : List (List Int) := (trip (difU g) hi (wi - 1)).map tri
theorem up_l1 (p : List ByteArray) (wi : Nat) (h : Mid p wi) (line : Nat) (h1 : 1 ≤ line) (h2 : line < wi) (pre : List (List Int)) (hpre : pre.length ≤ 100000) (r : List (List Int))
  (hnext : Evs (fun k => spec_l2Upright.l0 k p (pre ++ (runs (difU (zba (zao p)) line) p.length).map (fun x => tri (line, x.1, x.2))) ((line + 1 : Nat) : Int)) r) :
  ∀ m i, i + m = p.length → Evs (fun k => spec_l2Upright.l1 k p (pre ++ (runC (difU (zba (zao p)) line) i).1.map (fun x => tri (line, x.1, x.2))) (line : Int) (fromI (runC (difU (zba (zao p)) line) i).2) (i : Int)) r := by
 have hh := h.high
 have hw := h.wide
 generalize hdd : difU (zba (zao p)) line = d at *
 intro m
 induction m with
 | zero =>
  intro i hi
  obtain rfl : i = p.length := by omega
  obtain ⟨g1, g2, g3⟩ := runC_inv d p.length
  unfold runs at hnext
  rcases hR : runC d p.length with ⟨c, o⟩
  rw [hR] at g1 g2 g3 hnext
  have hcl : c.length ≤ p.length := by dsimp only at g3; omega
  have hend : Evs (fun k => spec_l2Upright.l1 k p (pre ++ (c ++ openR p.length o).map (fun x => tri (line, x.1, x.2))) (line : Int) (-1) ((p.length + 1 : Nat) : Int)) r := by
   refine Evs.step (fun k => ?_) hnext
   conv => lhs; unfold spec_l2Upright.l1
   rw [if_neg (by omega), zbg (by omega)]
  refine Evs.step (h := fun k => spec_l2Upright.j2 k p (pre ++ c.map (fun x => tri (line, x.1, x.2))) (line : Int) (fromI o) (p.length : Int) false) (fun k => ?_) (Evs.step (h := fun k => spec_l2Upright.j3 k p (pre ++ c.map (fun x => tri (line, x.1, x.2))) (line : Int) (fromI o) (p.length : Int) false false) (fun k => ?_) ?_)
  ·conv => lhs; unfold spec_l2Upright.l1
   rw [if_pos (by omega), if_neg (by omega)]
  ·conv => lhs; unfold spec_l2Upright.j2
   rw [if_neg (by simp)]
  ·cases o with
   | none =>
    rw [show c ++ openR p.length none = c by simp [openR]] at hend
    refine Evs.step (fun k => ?_) hend
    conv => lhs; unfold spec_l2Upright.j3
    rw [if_neg (by simp), if_neg (by simp), if_neg (by simp [fromI]), zbg (by omega)]
    rfl
   | some f =>
    have hf := g2 f rfl
    refine Evs.step (fun k => ?_) hend
    conv => lhs; unfold spec_l2Upright.j3
    have e : wrap64 ((p.length : Int) - fromI (some f)) = ((p.length - f : Nat) : Int) := by
     show wrap64 ((p.length : Int) - (f : Int)) = _
     rw [zat (by omega) (by omega)]; omega
    rw [if_neg (by simp), if_neg (by simp), if_pos (by simp [fromI]), if_pos (by simp; omega), e, zbg (by omega)]
    simp [openR, tri, fromI]
 | succ m ih =>
  intro i hi
  have hnx := ih (i + 1) (by omega)
  obtain ⟨g1, g2, g3⟩ := runC_inv d i
  obtain ⟨s, hs⟩ : ∃ s, p[i]? = some s := ⟨_, List.getElem?_eq_getElem (by omega)⟩
  have hsz := h.row s (List.mem_of_getElem? hs)
  obtain ⟨row, q1, q2⟩ := valAt_get h.rect (r := i) (c := line - 1) (by rw [zbq]; omega) (by omega)
  obtain ⟨row', q3, q4⟩ := valAt_get h.rect (r := i) (c := line) (by rw [zbq]; omega) (by omega)
  have hrow : (zao p)[i]? = some (bytesOf s) := by unfold zao; rw [List.getElem?_map, hs]; rfl
  obtain rfl : row = bytesOf s := by rw [hrow] at q1; exact (Option.some.inj q1).symm
  obtain rfl : row' = bytesOf s := by rw [hrow] at q3; exact (Option.some.inj q3).symm
  have hdi : (bt s ((line - 1 : Nat) : Int) != bt s (line : Int)) = d i := by rw [bt_get q2, bt_get q4, ← hdd]; rfl
  rcases hR : runC d i with ⟨c, o⟩
  rw [hR] at g1 g2 g3
  have hcl : c.length ≤ i := by dsimp only at g3; omega
  have el : wrap64 ((line : Int) - 1) = ((line - 1 : Nat) : Int) := by rw [zat (by omega) (by omega)]; omega
  refine Evs.step (h := fun k => spec_l2Upright.j2 k p (pre ++ c.map (fun x => tri (line, x.1, x.2))) (line : Int) (fromI o) (i : Int) (d i)) (fun k => ?_) ?_
  ·conv => lhs; unfold spec_l2Upright.l1
   rw [if_pos (by omega), if_pos (by omega), if_pos (by omega), el, rdOf_at hs, if_pos (by omega), if_pos (by omega), if_pos (by omega), if_pos (by omega), hdi]
  ·cases hb : d i with
   | true =>
    cases o with
    | none =>
     have e2 : runC d (i + 1) = (c, some i) := by simp only [runC, hR, hb, if_true]
     rw [e2] at hnx
     refine Evs.step (h := fun k => spec_l2Upright.j3 k p (pre ++ c.map (fun x => tri (line, x.1, x.2))) (line : Int) (fromI none) (i : Int) true true) (fun k => ?_) (Evs.step (fun k => ?_) hnx)
     ·conv => lhs; unfold spec_l2Upright.j2
      rw [if_pos rfl]
      rfl
     ·conv => lhs; unfold spec_l2Upright.j3
      rw [if_pos rfl, if_pos rfl, zbg (by omega)]
      rfl
    | some f =>
     have e2 : runC d (i + 1) = (c, some f) := by simp only [runC, hR, hb, if_true]
     rw [e2] at hnx
     refine Evs.step (h := fun k => spec_l2Upright.j3 k p (pre ++ c.map (fun x => tri (line, x.1, x.2))) (line : Int) (fromI (some f)) (i : Int) true false) (fun k => ?_) (Evs.step (fun k => ?_) hnx)
     ·conv => lhs; unfold spec_l2Upright.j2
      rw [if_pos rfl, decide_eq_false (by simp [fromI])]
     ·conv => lhs; unfold spec_l2Upright.j3
      rw [if_neg (by simp), if_pos rfl, zbg (by omega)]
   | false =>
    refine Evs.step (h := fun k => spec_l2Upright.j3 k p (pre ++ c.map (fun x => tri (line, x.1, x.2))) (line : Int) (fromI o) (i : Int) false false) (fun k => ?_) ?_
    ·conv => lhs; unfold spec_l2Upright.j2
     rw [if_neg (by simp)]
    cases o with
    | none =>
     have e2 : runC d (i + 1) = (c, none) := by simp [runC, hR, hb]
     rw [e2] at hnx
     refine Evs.step (fun k => ?_) hnx
     conv => lhs; unfold spec_l2Upright.j3
     rw [if_neg (by simp), if_neg (by simp), if_neg (by simp [fromI]), zbg (by omega)]
    | some f =>
     have hf := g2 f rfl
     have e2 : runC d (i + 1) = (c ++ [(f, i - f)], none) := by simp [runC, hR, hb]
     rw [e2] at hnx
     refine Evs.step (fun k => ?_) hnx
     conv => lhs; unfold spec_l2Upright.j3
     have e : wrap64 ((i : Int) - fromI (some f)) = ((i - f : Nat) : Int) := by
      show wrap64 ((i : Int) - (f : Int)) = _
      rw [zat (by omega) (by omega)]; omega
     rw [if_neg (by simp), if_neg (by simp), if_pos (by simp [fromI]), if_pos (by simp; omega), e, zbg (by omega)]
     simp [tri, fromI]
theorem up_l0 (p : List ByteArray) (wi : Nat) (h : Mid p wi) (h1 : 1 ≤ p.length) (hw1 : 1 ≤ wi) : ∀ m j, j + 1 + m = wi → Evs (fun k => spec_l2Upright.l0 k p ((trip (difU (zba (zao p))) p.length j).map tri) ((j + 1 : Nat) : Int)) (upsOf (zba (zao p)) p.length wi) := by
 have hh := h.high
 have hw := h.wide
 obtain ⟨s, hs⟩ : ∃ s, p[0]? = some s := ⟨_, List.getElem?_eq_getElem (by omega)⟩
 have hsz := h.row s (List.mem_of_getElem? hs)
 have e0 : rdOf ByteArray.empty p 0 = s := rdOf_at (i := 0) hs
 intro m
 induction m with
 | zero =>
  intro j hj
  have e : wi - 1 = j := by omega
  unfold upsOf
  rw [e]
  refine Evs.step (h := fun _ => some ((trip (difU (zba (zao p))) p.length j).map tri)) (fun k => ?_) (Evs.const _)
  conv => lhs; unfold spec_l2Upright.l0
  rw [if_pos (by omega), e0, if_neg (by omega)]
 | succ m ih =>
  intro j hj
  have hnx := ih (j + 1) (by omega)
  have ht := trip_length (difU (zba (zao p))) p.length j
  have hm : j * p.length ≤ 100 * 100 := Nat.mul_le_mul (by omega) hh
  have e : (trip (difU (zba (zao p))) p.length (j + 1)).map tri = (trip (difU (zba (zao p))) p.length j).map tri ++ (runs (difU (zba (zao p)) (j + 1)) p.length).map (fun x => tri (j + 1, x.1, x.2)) := by
   simp [trip, Function.comp_def]
  rw [e] at hnx
  have := up_l1 p wi h (j + 1) (by omega) (by omega) ((trip (difU (zba (zao p))) p.length j).map tri) (by simp; omega) _ hnx p.length 0 (by omega)
  refine Evs.step (fun k => ?_) this
  conv => lhs; unfold spec_l2Upright.l0
  rw [if_pos (by omega), e0, if_pos (by omega)]
  simp [runC, fromI]
theorem l2Upright_ev (p : List ByteArray) (wi : Nat) (h : Mid p wi) (h1 : 1 ≤ p.length) (hw1 : 1 ≤ wi) : Evs (fun k => spec_l2Upright.f k p) (upsOf (zba (zao p)) p.length wi) := by
 have := up_l0 p wi h h1 hw1 (wi - 1) 0 (by omega)
 refine Evs.congr (fun k => ?_) this
 unfold spec_l2Upright.f
 simp [trip]
def upT (cs : List (List Int)) : List (Nat × Nat × Nat) := trip (difB cs false) cs.length (zap cs - 1)
def levT (cs : List (List Int)) : List (Nat × Nat × Nat) := trip (difB cs true) (zap cs) (cs.length - 1)
theorem PlanFacts.mid {p : List ByteArray} {cs : List (List Int)} {rs : List Rc} (F : PlanFacts p cs rs) : Mid p (zap cs) := by
 have hsm := gridOk_small F.canon.grid
 rw [F.wide] at hsm
 exact ⟨by have := hsm.high; omega, by have := hsm.wide; omega, hsm.row⟩
theorem bne_add (a b : Int) : (97 + a != 97 + b) = (a != b) := by
 rw [Bool.eq_iff_iff, bne_iff_ne, bne_iff_ne]
 omega
theorem up_plan {p : List ByteArray} {cs : List (List Int)} {rs : List Rc} (F : PlanFacts p cs rs) : Evs (fun k => spec_l2Upright.f k p) ((upT cs).map tri) := by
 have o1 := F.ok.h1
 have o2 := F.ok.w1
 have l1 := F.len
 have := l2Upright_ev p (zap cs) F.mid (by omega) o2
 have e : upsOf (zba (zao p)) p.length (zap cs) = (upT cs).map tri := by
  unfold upsOf upT
  rw [l1]
  congr 1
  refine trip_congr _ fun l i h1 h2 h3 => ?_
  unfold difU difB
  rw [F.nums, valAt_map F.ok.rect _ h3 (by omega), valAt_map F.ok.rect _ h3 (by omega)]
  exact bne_add _ _
 rwa [e] at this
theorem trans_plan {p : List ByteArray} {cs : List (List Int)} {rs : List Rc} (F : PlanFacts p cs rs) : Evs (fun k => spec_l1Trans.f k p) (transOf p (zap cs)) := by
 have o1 := F.ok.h1
 have l1 := F.len
 exact l1Trans_ev p (zap cs) F.mid (by omega)
theorem lev_plan {p : List ByteArray} {cs : List (List Int)} {rs : List Rc} (F : PlanFacts p cs rs) : Evs (fun k => spec_l2Upright.f k (transOf p (zap cs))) ((levT cs).map tri) := by
 have o1 := F.ok.h1
 have o2 := F.ok.w1
 have l1 := F.len
 have hM := mid_trans F.mid
 have := l2Upright_ev (transOf p (zap cs)) p.length hM (by rw [trans_length]; exact o2) (by omega)
 have e : upsOf (zba (zao (transOf p (zap cs)))) (transOf p (zap cs)).length p.length = (levT cs).map tri := by
  unfold upsOf levT
  rw [l1, trans_length, numsOf_trans, l1]
  congr 1
  refine trip_congr _ fun l i h1 h2 h3 => ?_
  unfold difU difB
  rw [valAt_gridOf h3 (by omega), valAt_gridOf h3 (by omega), F.nums, valAt_map F.ok.rect _ (by omega) h3, valAt_map F.ok.rect _ (by omega) h3]
  exact bne_add _ _
 rwa [e] at this
theorem wallsOf_eq (cs : List (List Int)) : zbv cs = (upT cs).map (mkW false) ++ (levT cs).map (mkW true) := rfl
theorem wall_bound {cs : List (List Int)} {rs : List Rc} (h : FloorOk cs rs) : (upT cs).length ≤ 36 ∧ (levT cs).length ≤ 36 := by
 have q1 := h.h6
 have q2 := h.w6
 have h1 := trip_length (difB cs false) cs.length (zap cs - 1)
 have h2 := trip_length (difB cs true) (zap cs) (cs.length - 1)
 have m1 : (zap cs - 1) * cs.length ≤ 6 * 6 := Nat.mul_le_mul (by omega) q1
 have m2 : (cs.length - 1) * zap cs ≤ 6 * 6 := Nat.mul_le_mul (by omega) q2
 unfold upT levT
 omega
def sumZ : List Int → Int
 | [] => 0
 | x :: r => x + sumZ r
theorem sumZ_append (a b : List Int) : sumZ (a ++ b) = sumZ a + sumZ b := by
 induction a with
 | nil => simp [sumZ]
 | cons x r ih => simp only [List.cons_append, sumZ, ih]; omega
theorem sumZ_range {L : List Int} (h : ∀ x ∈ L, 0 ≤ x ∧ x ≤ 2) : 0 ≤ sumZ L ∧ sumZ L ≤ 2 * L.length := by
 induction L with
 | nil => simp [sumZ]
 | cons x r ih =>
  have h1 := h x List.mem_cons_self
  have h2 := ih (fun y hy => h y (List.mem_cons_of_mem _ hy))
  simp only [sumZ, List.length_cons]
  omega
def four (kind : Int) (t : Nat × Nat × Nat) : List Int := [kind, (t.1 : Int), (t.2.1 : Int), (t.2.2 : Int)]
def walls4 (cs : List (List Int)) : List (List Int) := (upT cs).map (four 0) ++ (levT cs).map (four 1)
theorem rdL_map {f : Nat × Nat × Nat → List Int} {L : List (Nat × Nat × Nat)} {i : Nat} {x : Nat × Nat × Nat} (hx : L[i]? = some x) : zbo (L.map f) (i : Int) = f x := by
 unfold zbo
 rw [Int.toNat_natCast, ycj, List.getElem?_map, hx]
 rfl
theorem walls_sl1 (L : List (Nat × Nat × Nat)) (hL : L.length ≤ 1000) (pre : List (List Int)) (hpre : pre.length ≤ 1000) : ∀ m i, i + m = L.length → Evs (fun k => spec_l2Walls.l1 k (pre ++ (L.take i).map (four 1)) (L.map tri) (i : Int)) (pre ++ L.map (four 1)) := by
 intro m
 induction m with
 | zero =>
  intro i hi
  rw [List.take_of_length_le (by omega)]
  refine Evs.step (h := fun _ => some (pre ++ L.map (four 1))) (fun k => ?_) (Evs.const _)
  conv => lhs; unfold spec_l2Walls.l1
  rw [if_neg (by simp; omega)]
 | succ m ih =>
  intro i hi
  obtain ⟨x, hx⟩ : ∃ x, L[i]? = some x := ⟨_, List.getElem?_eq_getElem (by omega)⟩
  have hnx := ih (i + 1) (by omega)
  rw [List.take_add_one, hx, List.map_append, ← List.append_assoc] at hnx
  refine Evs.step (fun k => ?_) hnx
  conv => lhs; unfold spec_l2Walls.l1
  rw [if_pos (by simp; omega)]
  simp only [Option.bind_some]
  rw [rdL_map hx, if_pos (by omega), if_pos (by simp [tri]), if_pos (by simp; omega), zbg (by omega)]
  rfl
theorem walls_sl0 {p : List ByteArray} {cs : List (List Int)} {rs : List Rc} (F : PlanFacts p cs rs) : ∀ m i, i + m = (upT cs).length → Evs (fun k => spec_l2Walls.l0 k p (((upT cs).take i).map (four 0)) ((upT cs).map tri) (i : Int)) (walls4 cs) := by
 have hb := wall_bound F.ok
 intro m
 induction m with
 | zero =>
  intro i hi
  rw [List.take_of_length_le (by omega)]
  have := walls_sl1 (levT cs) (by omega) ((upT cs).map (four 0)) (by simp; omega) (levT cs).length 0 (by omega)
  simp only [List.take_zero, List.map_nil, List.append_nil] at this
  refine Evs.step (h := fun k => (spec_l1Trans.f k p).bind fun t498 => ((spec_l2Upright.f k t498).bind fun t501 => (spec_l2Walls.l1 k ((upT cs).map (four 0)) t501 0))) (fun k => ?_) (Evs.bind (trans_plan F) (Evs.bind (lev_plan F) this))
  conv => lhs; unfold spec_l2Walls.l0
  rw [if_neg (by simp; omega)]
 | succ m ih =>
  intro i hi
  obtain ⟨x, hx⟩ : ∃ x, (upT cs)[i]? = some x := ⟨_, List.getElem?_eq_getElem (by omega)⟩
  have hnx := ih (i + 1) (by omega)
  rw [List.take_add_one, hx, List.map_append] at hnx
  refine Evs.step (fun k => ?_) hnx
  conv => lhs; unfold spec_l2Walls.l0
  rw [if_pos (by simp; omega)]
  simp only [Option.bind_some]
  rw [rdL_map hx, if_pos (by omega), if_pos (by simp [tri]), if_pos (by simp; omega), zbg (by omega)]
  rfl
theorem l2Walls_ev {p : List ByteArray} {cs : List (List Int)} {rs : List Rc} (F : PlanFacts p cs rs) : Evs (fun k => spec_l2Walls.f k p) (walls4 cs) := by
 have := walls_sl0 F (upT cs).length 0 (by omega)
 refine Evs.congr (h := fun k => (spec_l2Upright.f k p).bind fun t485 => (spec_l2Walls.l0 k p (([] : List (List Int))) t485 0)) (fun k => rfl) (Evs.bind (up_plan F) ?_)
 simpa using this
def allT (cs : List (List Int)) : List (Nat × Nat × Nat) := upT cs ++ levT cs
def sumR (f : Nat → Int) (a l : Nat) : Int := sumI (fun j => f (a + j)) l
def sumX (f : Nat → Int) : List (Nat × Nat) → Int
 | [] => 0
 | x :: r => sumR f x.1 x.2 + sumX f r
theorem sumX_append (f : Nat → Int) (a b : List (Nat × Nat)) : sumX f (a ++ b) = sumX f a + sumX f b := by
 induction a with
 | nil => simp [sumX]
 | cons x r ih => simp only [List.cons_append, sumX, ih]; omega
theorem sum_runs (f : Nat → Int) (d : Nat → Bool) : ∀ n, sumX f (runs d n) = sumI (fun i => if d i = true then f i else 0) n
 | 0 => by simp [runs, runC, openR, sumX, sumI]
 | n + 1 => by
  have ih := sum_runs f d n
  obtain ⟨g1, g2, g3⟩ := runC_inv d n
  rcases hR : runC d n with ⟨c, o⟩
  rw [hR] at g2
  have e1 : runs d n = c ++ openR n o := by unfold runs; rw [hR]
  rw [e1] at ih
  simp only [sumI]
  rw [← ih]
  cases hb : d n with
  | true =>
   rw [if_pos rfl]
   cases o with
   | none =>
    have e2 : runC d (n + 1) = (c, some n) := by simp only [runC, hR, hb, if_true]
    have e3 : runs d (n + 1) = c ++ [(n, 1)] := by unfold runs; rw [e2]; simp [openR]
    rw [e3, sumX_append, sumX_append]
    simp [openR, sumX, sumR, sumI]
   | some a =>
    have hf := g2 a rfl
    have e2 : runC d (n + 1) = (c, some a) := by simp only [runC, hR, hb, if_true]
    have e3 : runs d (n + 1) = c ++ [(a, n + 1 - a)] := by unfold runs; rw [e2]; simp [openR]
    rw [e3, sumX_append, sumX_append]
    have e4 : n + 1 - a = (n - a) + 1 := by omega
    simp only [openR, sumX, sumR]
    rw [e4]
    simp only [sumI]
    rw [show a + (n - a) = n by omega]
    omega
  | false =>
   rw [if_neg (by simp)]
   have e3 : runs d (n + 1) = c ++ openR n o := by
    cases o with
    | none =>
     have e2 : runC d (n + 1) = (c, none) := by simp [runC, hR, hb]
     unfold runs
     rw [e2]
     rfl
    | some a =>
     have e2 : runC d (n + 1) = (c ++ [(a, n - a)], none) := by simp [runC, hR, hb]
     unfold runs
     rw [e2]
     simp [openR]
   rw [e3]
   omega
theorem sumI_zero : ∀ n, sumI (fun _ => 0) n = 0
 | 0 => rfl
 | n + 1 => by simp only [sumI, sumI_zero n]; rfl
theorem sum_swap (F : Nat → Nat → Int) (m : Nat) : ∀ n, sumI (fun i => sumI (fun j => F i j) m) n = sumI (fun j => sumI (fun i => F i j) n) m
 | 0 => by simp only [sumI]; exact (sumI_zero m).symm
 | n + 1 => by
  simp only [sumI]
  rw [sum_swap F m n, ← sumI_add]
def hit (x : Int × Int) (a b : Int) : Int := (if x = (a, b) then 1 else 0) + (if x = (b, a) then 1 else 0)
def hits (T : List (Int × Int)) (a b : Int) : Int := sumZ (T.map fun x => hit x a b)
theorem hits_append (T U : List (Int × Int)) (a b : Int) : hits (T ++ U) a b = hits T a b + hits U a b := by unfold hits; rw [List.map_append, sumZ_append]
def touchW (cs : List (List Int)) (lv : Bool) (x : Nat × Nat × Nat) : List (Int × Int) := (List.range x.2.2).map fun j => zcq cs lv x.1 (x.2.1 + j)
def touchL (cs : List (List Int)) : List (Int × Int) := (upT cs).flatMap (touchW cs false) ++ (levT cs).flatMap (touchW cs true)
theorem hits_range (f : Nat → Int × Int) (a b : Int) : ∀ n, hits ((List.range n).map f) a b = sumI (fun j => hit (f j) a b) n
 | 0 => rfl
 | n + 1 => by
  rw [List.range_succ, List.map_append, hits_append, hits_range f a b n]
  simp [hits, sumZ, sumI]
theorem hits_runs (cs : List (List Int)) (lv : Bool) (line : Nat) (a b : Int) : ∀ L : List (Nat × Nat), hits ((L.map fun x => (line, x.1, x.2)).flatMap (touchW cs lv)) a b = sumX (fun i => hit (zcq cs lv line i) a b) L
 | [] => rfl
 | x :: r => by
  rw [List.map_cons, List.flatMap_cons, hits_append, hits_runs cs lv line a b r]
  simp only [sumX]
  congr 1
  unfold touchW
  exact hits_range _ a b _
theorem hit_same (x a b : Int) (h : a ≠ b) : hit (x, x) a b = 0 := by
 unfold hit
 rw [if_neg (fun e => by injection e with e1 e2; omega), if_neg (fun e => by injection e with e1 e2; omega)]
 rfl
theorem dif_sides (cs : List (List Int)) (lv : Bool) (line i : Nat) : difB cs lv line i = ((zcq cs lv line i).1 != (zcq cs lv line i).2) := by unfold difB zcq; cases lv <;> rfl
theorem hits_trip (cs : List (List Int)) (lv : Bool) (n : Nat) (a b : Int) (hab : a ≠ b) : ∀ j, hits ((trip (difB cs lv) n j).flatMap (touchW cs lv)) a b = sumI (fun l => sumI (fun i => hit (zcq cs lv (l + 1) i) a b) n) j
 | 0 => rfl
 | j + 1 => by
  simp only [trip, sumI]
  rw [List.flatMap_append, hits_append, hits_trip cs lv n a b hab j, hits_runs, sum_runs]
  congr 1
  refine sumI_congr n fun i hi => ?_
  split
  ·rfl
  ·rename_i h
   rw [dif_sides, bne_iff_ne, ne_eq, Classical.not_not] at h
   rcases hs : zcq cs lv (j + 1) i with ⟨x, y⟩
   rw [hs] at h
   dsimp only at h
   subst h
   exact (hit_same x a b hab).symm
def lenU (g : Nat → Nat → Int) (hi wi : Nat) (a b : Int) : Int := sumI (fun i => sumI (fun k => hit (g i k, g i (k + 1)) a b) (wi - 1)) hi
theorem touch_hits (cs : List (List Int)) (a b : Int) (hab : a ≠ b) : hits (touchL cs) a b = lenU (zba cs) cs.length (zap cs) a b + lenU (fun i k => zba cs k i) (zap cs) cs.length a b := by
 unfold touchL
 rw [hits_append]
 unfold upT levT lenU
 rw [hits_trip cs false _ a b hab, hits_trip cs true _ a b hab]
 congr 1
 ·exact sum_swap (fun l i => hit (zcq cs false (l + 1) i) a b) cs.length (zap cs - 1)
 ·exact sum_swap (fun l i => hit (zcq cs true (l + 1) i) a b) (zap cs) (cs.length - 1)
theorem hit_range (x : Int × Int) (a b : Int) : 0 ≤ hit x a b ∧ hit x a b ≤ 2 := by
 unfold hit
 split <;> split <;> omega
theorem sumI_range {f : Nat → Int} (M : Nat) (h : ∀ i, 0 ≤ f i ∧ f i ≤ M) : ∀ n, 0 ≤ sumI f n ∧ sumI f n ≤ (n * M : Nat)
 | 0 => by simp [sumI]
 | n + 1 => by
  have h1 := sumI_range M h n
  have h2 := h n
  simp only [sumI]
  rw [Nat.succ_mul]
  omega
theorem hits_range' (T : List (Int × Int)) (a b : Int) : 0 ≤ hits T a b ∧ hits T a b ≤ 2 * T.length := by
 have := sumZ_range (L := T.map fun x => hit x a b) (fun x hx => by obtain ⟨y, _, rfl⟩ := List.mem_map.1 hx; exact hit_range y a b)
 unfold hits
 simpa using this
def besN (cs : List (List Int)) (a b : Int) : Int := if a = b then 0 else hits (touchL cs) a b
def givenB (p : List ByteArray) (a : Int) : Bool := match zcn p with
 | none => false
 | some (_, rs) => hasB rs a
theorem l1Given_ev (p : List ByteArray) (a : Int) (hp : smallP p) : Evs (fun k => spec_l1Given.f k p a) (givenB p a) := by
 have h1 := PlanIn_ev p hp
 rcases planB_cases p with ⟨e1, f1⟩ | ⟨e1, cs, rs, f1⟩
 ·rw [e1] at h1
  have : givenB p a = false := by unfold givenB; rw [f1]
  rw [this]
  refine Evs.bind h1 ?_
  refine Evs.congr (h := fun _ => some false) (fun k => ?_) (Evs.const _)
  rw [if_neg (by simp)]
 ·rw [e1] at h1
  have F := floor_facts f1
  have hg : givenB p a = hasB rs a := by unfold givenB; rw [f1]
  have hR := l1Rooms_ev p _ (gridOk_small F.canon.grid)
  rw [F.canon.max, ← F.rooms] at hR
  have h9 := F.ok.many
  rw [hg]
  refine Evs.bind h1 ?_
  refine Evs.congr (h := fun k => (spec_l1Rooms.f k p).bind fun t167 => ((spec_l6In.f a 0 (wrap64 (t167 - 1))).bind fun t168 => (some t168))) (fun k => ?_) (Evs.bind hR ?_)
  ·rw [if_pos rfl]
  ·refine Evs.congr (h := fun _ => some (hasB rs a)) (fun k => ?_) (Evs.const _)
   rw [zat (by omega) (by omega), l6In_f]
   simp only [Option.bind_some]
   unfold hasB
   congr 2
   congr 1
   exact propext ⟨fun h => by omega, fun h => by omega⟩
theorem floor_sum {p : List ByteArray} {cs : List (List Int)} {rs : List Rc} (h : zcn p = some (cs, rs)) : zcd rs = (p.length : Int) * (zap (zao p) : Int) := by
 have F := floor_facts h
 rw [floorF_grid F.canon.grid] at h
 split at h
 ·rename_i hc
  rw [F.rooms]
  exact hc.2.1
 ·cases h
theorem count_conv (rows : List (List Int)) (wi : Nat) (x : Int) (b : Rc) : ∀ n, (∀ m, m < n → cellN rows wi m = x → inBox b wi m) → countN rows wi x n = countB b wi n → ∀ m, m < n → inBox b wi m → cellN rows wi m = x
 | 0, _, _, m, hm, _ => by omega
 | n + 1, h, he, m, hm, hb => by
  have hle := countN_le_B rows wi x b n (fun m hm => h m (by omega))
  simp only [countN, countB] at he
  by_cases hx : cellN rows wi n = x
  ·rw [if_pos hx, if_pos (h n (by omega) hx)] at he
   rcases Nat.lt_or_eq_of_le (Nat.lt_succ_iff.1 hm) with h1 | h1
   ·exact count_conv rows wi x b n (fun m hm => h m (by omega)) (by omega) m h1 hb
   ·subst h1; exact hx
  ·rw [if_neg hx] at he
   by_cases hbn : inBox b wi n
   ·rw [if_pos hbn] at he; omega
   ·rw [if_neg hbn] at he
    rcases Nat.lt_or_eq_of_le (Nat.lt_succ_iff.1 hm) with h1 | h1
    ·exact count_conv rows wi x b n (fun m hm => h m (by omega)) he m h1 hb
    ·subst h1; exact absurd hb hbn
theorem room_cells {p : List ByteArray} {cs : List (List Int)} {rs : List Rc} (h : zcn p = some (cs, rs)) (i : Nat) (hi : i < rs.length) (r c : Nat) (hr : r < cs.length) (hc : c < zap cs) :
  zba cs r c = (i : Int) ↔ ((rs.getD i zco).f0 ≤ r ∧ (r : Int) < (rs.getD i zco).f0 + (rs.getD i zco).f2 ∧ (rs.getD i zco).f1 ≤ c ∧ (c : Int) < (rs.getD i zco).f1 + (rs.getD i zco).f3) := by
 have F := floor_facts h
 have hsum := floor_sum h
 have hrs := F.rooms
 have hfull := full_iff F.canon
 rw [← hrs, decide_eq_true hsum, List.all_eq_true] at hfull
 have hf := of_decide_eq_true (hfull i (List.mem_range.2 hi))
 rw [← hrs] at hf
 have hs := F.canon.shape
 obtain ⟨x, hx, hb, hbd⟩ := rooms_box hs i (by rw [← hrs]; exact hi)
 rw [zbq, ← hrs] at hb hbd
 have hiff : ∀ m, m < p.length * zap (zao p) → (cellN (zao p) (zap (zao p)) m = (i : Int) ↔ zba (zao p) (m / zap (zao p)) (m % zap (zao p)) = x) := fun m hm => by
  rw [F.canon.cell m hm]
  exact idx_iff (ordAll_nodup _) hx (cell_mem hs m (by rw [zbq]; exact hm))
 have hin : ∀ m, m < p.length * zap (zao p) → cellN (zao p) (zap (zao p)) m = (i : Int) → inBox (rs.getD i zco) (zap (zao p)) m := fun m hm hv => hb.ins m hm ((hiff m hm).1 hv)
 have hcb := countB_all (rs.getD i zco) p.length (zap (zao p)) hbd
 have hconv := count_conv _ _ _ _ _ hin (hf.trans hcb.symm)
 rw [F.wide] at hin hconv
 have hm : r * zap cs + c < p.length * zap cs := by
  rw [F.len]
  have : (r + 1) * zap cs ≤ cs.length * zap cs := Nat.mul_le_mul_right _ hr
  rw [Nat.succ_mul] at this
  omega
 obtain ⟨d1, d2⟩ := divmod_of (r := r) hc
 have hcell : cellN (zao p) (zap cs) (r * zap cs + c) = zba cs r c := by
  unfold cellN
  rw [d1, d2, F.nums, valAt_map F.ok.rect _ hr hc]
  omega
 have hib : inBox (rs.getD i zco) (zap cs) (r * zap cs + c) ↔ ((rs.getD i zco).f0 ≤ r ∧ (r : Int) < (rs.getD i zco).f0 + (rs.getD i zco).f2 ∧ (rs.getD i zco).f1 ≤ c ∧ (c : Int) < (rs.getD i zco).f1 + (rs.getD i zco).f3) := by unfold inBox; rw [d1, d2]
 rw [← hcell, ← hib]
 exact ⟨hin _ hm, hconv _ hm⟩
theorem hit_diag (x : Int × Int) (a : Int) (h : x.1 ≠ x.2) : hit x a a = 0 := by
 unfold hit
 rw [if_neg (fun e => by subst e; exact h rfl)]
 rfl
theorem hits_trip_diag (cs : List (List Int)) (lv : Bool) (n : Nat) (a : Int) : ∀ j, hits ((trip (difB cs lv) n j).flatMap (touchW cs lv)) a a = 0
 | 0 => rfl
 | j + 1 => by
  simp only [trip]
  rw [List.flatMap_append, hits_append, hits_trip_diag cs lv n a j, hits_runs, sum_runs]
  rw [sumI_congr (g := fun _ => 0) n (fun i hi => by
   split
   ·rename_i h
    rw [dif_sides, bne_iff_ne] at h
    exact hit_diag _ a h
   ·rfl), sumI_zero]
  rfl
theorem hits_diag (cs : List (List Int)) (a : Int) : hits (touchL cs) a a = 0 := by
 unfold touchL upT levT
 rw [hits_append, hits_trip_diag, hits_trip_diag]
 rfl
theorem besN_hits (cs : List (List Int)) (a b : Int) : besN cs a b = hits (touchL cs) a b := by
 unfold besN
 split
 ·rename_i h
  subst h
  exact (hits_diag cs a).symm
 ·rfl
theorem besN_self (cs : List (List Int)) (a : Int) : besN cs a a = 0 := by unfold besN; rw [if_pos rfl]
def zck (p : List ByteArray) (a b : Int) : Int × Bool := match zcn p with
 | none => (0, false)
 | some (cs, rs) => if (hasB rs a && hasB rs b && !(a == b)) = true then (besN cs a b, true) else (0, false)
def nearIsF (p : List ByteArray) (a b : Int) : Bool := match zcn p with
 | none => false
 | some (cs, rs) => hasB rs a && hasB rs b && decide (besN cs a b > 0)
theorem nearIs_length (p : List ByteArray) (a b : Int) : nearIsF p a b = ((zck p a b).2 && decide ((zck p a b).1 > 0)) := by
 cases hF : zcn p with
 | none =>
  have e1 : nearIsF p a b = false := by unfold nearIsF; rw [hF]
  have e2 : zck p a b = (0, false) := by unfold zck; rw [hF]
  rw [e1, e2]
  rfl
 | some t =>
  obtain ⟨cs, rs⟩ := t
  have e1 : nearIsF p a b = (hasB rs a && hasB rs b && decide (besN cs a b > 0)) := by unfold nearIsF; rw [hF]
  have e2 : zck p a b = if (hasB rs a && hasB rs b && !(a == b)) = true then (besN cs a b, true) else (0, false) := by unfold zck; rw [hF]
  rw [e1, e2]
  by_cases hab : a = b
  ·subst hab
   rw [besN_self]
   simp
  ·have hq : (a == b) = false := by simp [hab]
   rw [hq]
   generalize hasB rs a = x
   generalize hasB rs b = y
   cases x <;> cases y <;> simp
def touchM (cs : List (List Int)) (n : Nat) : List (List Int) := zbn n n fun a b => hits (touchL cs) a b
end Go.Proofs.Ytaepgogafkmooaa.Hd
namespace Go.Proofs.Ytaepgogafkmooaa.Hd
open Go.RowKit Go.Shelf Go.PW.PrintWords Go.PW.PrintLast Go.PW.PrintMore Go.Proofs.Ytaepgogafkmooaa.PB
def renC : Go.Shelf.Ren := ⟨fun | 20 => 88 | n => n, fun | 0 => 0 | 3 => 3 | 4 => 4 | 22 => 39 | n => n, fun n => n⟩
theorem lays20 : Lays2.n20 Try.prog renC := { mixed := by kernel_rfl, f20 := Try.func88.trans (congrArg some (by kernel_rfl)), t0 := Try.underlying0, a0 := Try.isAgg0, z0 := Try.sizeOf0, v0 := Try.zeroValue0, t3 := Try.underlying3, a3 := Try.isAgg3, z3 := Try.sizeOf3, v3 := Try.zeroValue3, t4 := Try.underlying4, a4 := Try.isAgg4, z4 := Try.sizeOf4, v4 := Try.zeroValue4, t22 := Try.underlying39, a22 := Try.isAgg39, z22 := Try.sizeOf39, v22 := Try.zeroValue39, i3 := by kernel_rfl }
theorem compact_le (xs : List Int) : (Go.Lib.compact xs).length ≤ xs.length := by
 unfold Go.Lib.compact Go.Lib.compactUpTo
 rw [List.length_map]
 have := List.length_filter_le (Go.Lib.keeps xs.toArray) (List.range xs.length)
 rw [List.length_range] at this
 exact this
theorem putRow_heap (w : World) (g : Nat) (D : Array Int) (cur : Array Value) (e : TypeId) (hh : w.heap[g]? = some (.cells cur e (0, 0))) : (Go.Sort.putRow (Value.int .i64) w g 0 D).heap[g]? = some (.cells (Go.Sort.putCells (Value.int .i64) 0 D cur) e (0, 0)) := by
 unfold Go.Sort.putRow Go.Sort.mapBlock
 rw [Array.getElem?_modify, if_pos rfl, hh]
 rfl
theorem putRow_other (w : World) (g k : Nat) (D : Array Int) (hk : k ≠ g) : (Go.Sort.putRow (Value.int .i64) w g 0 D).heap[k]? = w.heap[k]? := by
 unfold Go.Sort.putRow Go.Sort.mapBlock
 rw [Array.getElem?_modify, if_neg (Ne.symm hk)]
theorem put_take (xs : List Int) (L : List Int) (cur : Array Value) (hl : L.length ≤ cur.size) (z : Nat) : (Go.Sort.putCells (Value.int .i64) 0 (L ++ List.replicate z 0).toArray cur).toList.take L.length = encs (Value.int .i64) L := by
 apply List.ext_getElem?
 intro i
 rw [List.getElem?_take]
 unfold Go.Sort.putCells
 by_cases hi : i < L.length
 ·rw [if_pos hi]
  simp only [Array.toList_mapIdx, List.getElem?_mapIdx, encs, List.getElem?_map]
  obtain ⟨u, h1⟩ : ∃ u, cur.toList[i]? = some u := ⟨_, List.getElem?_eq_getElem (show i < cur.toList.length by rw [Array.length_toList]; omega)⟩
  rw [h1, List.getElem?_eq_getElem hi]
  simp only [Option.map_some]
  rw [if_pos (by simp; omega)]
  congr 2
  rw [Nat.sub_zero, getElem!_pos _ i (by simp; omega)]
  simp [hi]
 ·rw [if_neg hi, List.getElem?_eq_none (by rw [encs, List.length_map]; omega)]
set_option maxHeartbeats 1000000 in
theorem compact_calls (xs : List Int) (v : Value) (w : World) (base : Nat) (ok : Nat → Prop) (h : Kd.R (Kd.int .i64) 3 w base ok v xs) :
  Calls Try.prog 88 #[v] w fun e w' => ∃ v', e = .returned v' ∧ Kd.R (Kd.int .i64) 3 w' base ok v' (Go.Lib.compact xs) ∧ w.grownBy w' v.ownBlock ∧ v'.ownBlock = v.ownBlock := by
 have hok := h.1
 have hown := Kd.own_of_R h
 rcases hown.2 with ⟨hv, hx0⟩ | ⟨g, cap, cur, hv, hb, hh, hnc, hcm, hcs, htake⟩
 ·obtain ⟨A, c, rfl⟩ := own_slice hown
  have e0 : xs.length = 0 := hx0
  rw [e0]
  refine (Any.slices_Compact_int_empty lays20 A c w).mono ?_
  rintro e w' ⟨rfl, rfl⟩
  have : xs = [] := List.length_eq_zero_iff.1 e0
  subst this
  exact ⟨_, rfl, h, World.grownBy.refl _ _, rfl⟩
 ·subst hv
  rw [Nat.mul_one] at htake hcs
  have hle := compact_le xs
  have hcm' := hcm
  unfold maxLen at hcm'
  have hH : Go.Sort.Holds (Value.int .i64) w g 0 xs.toArray := by
   intro j hj
   have hj : j < xs.length := by simpa using hj
   rw [Nat.zero_add]
   refine ⟨?_, zbb hh j⟩
   rw [cell_of_row w g j cur 3 (0, 0) hh]
   have h1 : (cur.toList.take xs.length)[j]? = some (.int .i64 xs[j]) := by rw [htake]; simp [encs, hj]
   rw [List.getElem?_take, if_pos hj] at h1
   rw [getElem!_pos _ j (by simpa using hj)]
   simpa using h1
  refine (Any.slices_Compact_int lays20 g 0 cap xs w hH (by omega) (by omega)).mono ?_
  rintro e w' ⟨rfl, q, rfl⟩
  refine ⟨_, rfl, Kd.R_of_own ⟨by rw [encs_length, Nat.mul_one], .inr ⟨g, cap, _, rfl, hb, putRow_heap _ g _ cur 3 hh, by omega, hcm, by simp [Go.Sort.putCells, hcs], ?_⟩⟩ hok, ?_, rfl⟩
  ·rw [Nat.mul_one]
   exact put_take xs _ cur (by omega) _
  ·refine ⟨rfl, rfl, rfl, by simp [Go.Sort.putRow, Go.Sort.mapBlock, Go.Sort.ahead], fun k _ hk => ?_⟩
   have hk : k ≠ g := fun e => hk (by rw [e]; rfl)
   exact putRow_other _ g k _ hk
def putL (L : List Int) (x : Int) : List Int := if L.getLast? = some x then L else L ++ [x]
def zcm (xs : List Int) : List Int := xs.foldl putL []
theorem foldP_snoc (xs : List Int) (x : Int) : zcm (xs ++ [x]) = putL (zcm xs) x := by simp [zcm]
theorem foldP_last (xs : List Int) (x : Int) : (zcm (xs ++ [x])).getLast? = some x := by
 rw [foldP_snoc]
 unfold putL
 split
 ·assumption
 ·simp
theorem upTo_eq (d : Array Int) : ∀ m, m ≤ d.size → Go.Lib.compactUpTo d m = zcm (d.toList.take m)
 | 0, _ => by simp [Go.Lib.compactUpTo, zcm]
 | m + 1, hm => by
  have ih := upTo_eq d m (by omega)
  have e : d.toList.take (m + 1) = d.toList.take m ++ [d[m]!] := by
   rw [List.take_add_one, getElem!_pos d m (by omega)]
   simp [show m < d.size by omega]
  unfold Go.Lib.compactUpTo at ih ⊢
  rw [List.range_succ, List.filter_append, List.map_append, ih, e, foldP_snoc]
  unfold putL
  rcases Nat.eq_zero_or_pos m with h0 | h0
  ·subst h0
   simp [Go.Lib.keeps, zcm]
  ·have e2 : d.toList.take m = d.toList.take (m - 1) ++ [d[m - 1]!] := by
    have : d.toList.take (m - 1 + 1) = d.toList.take (m - 1) ++ [d[m - 1]!] := by
     rw [List.take_add_one, getElem!_pos d (m - 1) (by omega)]
     simp [show m - 1 < d.size by omega]
    rwa [show m - 1 + 1 = m by omega] at this
   have hl : (zcm (d.toList.take m)).getLast? = some d[m - 1]! := by rw [e2]; exact foldP_last _ _
   rw [hl]
   by_cases hd : d[m]! = d[m - 1]!
   ·rw [if_pos (by rw [hd])]
    simp [Go.Lib.keeps_neg h0 hd]
   ·rw [if_neg (fun z => hd (Option.some.inj z).symm)]
    simp [Go.Lib.keeps_pos hd]
theorem compact_fold (xs : List Int) : Go.Lib.compact xs = zcm xs := by
 unfold Go.Lib.compact
 have := upTo_eq xs.toArray xs.length (by simp)
 rw [this]
 simp
end Go.Proofs.Ytaepgogafkmooaa.Hd
namespace Go.Proofs.Ytaepgogafkmooaa.Hd
open Go.RowKit Go.PW.PrintWords Go.PW.PrintLast Go.PW.PrintMore Go.Proofs.Ytaepgogafkmooaa.PB
abbrev kWl := k79
def zeroW : Wl := ⟨false, 0, 0, 0⟩
theorem wl_cells {W : World} {B g n cap : Nat} {ok : Nat → Prop} {ws : List Wl} (h : Kd.R kWl 79 W B ok (.slice (some ⟨g, 0, none⟩) n cap) ws) (k : Nat) (hk : k < ws.length) :
  W.cell? ⟨g, k * 4, none⟩ = some (.bool (ws.getD k zeroW).f0) ∧ W.cell? ⟨g, k * 4 + 1, none⟩ = some (.int .i64 (ws.getD k zeroW).f1) ∧ W.cell? ⟨g, k * 4 + 2, none⟩ = some (.int .i64 (ws.getD k zeroW).f2) ∧ W.cell? ⟨g, k * 4 + 3, none⟩ = some (.int .i64 (ws.getD k zeroW).f3) := by
 obtain ⟨A, c, e, hl, hC⟩ := Kd.R_reads h
 injection e with e1 e2 e3
 subst e1; subst e2
 obtain ⟨ad, e4, h0, h1, h2, h3⟩ := at_T79 hC (k : Int) (by omega) (by omega)
 injection e4 with e4
 subst e4
 have e5 : zcf ws (k : Int) = ws.getD k zeroW := by
  unfold zcf
  rw [show ((k : Int).toNat) = k by omega]
  rfl
 rw [show ((k : Int).toNat) = k by omega, add_plain, e5] at h0 h1 h2 h3
 exact ⟨h0, h1, h2, h3⟩
theorem wallsOf_length (cs : List (List Int)) : (zbv cs).length = (allT cs).length := by simp [wallsOf_eq, allT]
theorem wallsOf_bound {cs : List (List Int)} {rs : List Rc} (h : FloorOk cs rs) : (zbv cs).length ≤ 72 := by
 have := wall_bound h
 rw [wallsOf_length]
 unfold allT
 rw [List.length_append]
 omega
def zcg (cs : List (List Int)) : List (Bool × Nat × Nat × Nat) := (upT cs).map (fun t => (false, t)) ++ (levT cs).map (fun t => (true, t))
theorem wallsP_walls (cs : List (List Int)) : zbv cs = (zcg cs).map fun x => mkW x.1 x.2 := by
 unfold zcg
 rw [wallsOf_eq, List.map_append, List.map_map, List.map_map]
 rfl
theorem wallsP_touch (cs : List (List Int)) : touchL cs = (zcg cs).flatMap fun x => touchW cs x.1 x.2 := by
 unfold zcg touchL
 rw [List.flatMap_append, List.flatMap_map, List.flatMap_map]
theorem wallsP_ok {cs : List (List Int)} {rs : List Rc} (h : FloorOk cs rs) (i : Nat) (hi : i < (zcg cs).length) : ∃ lv l f n, (zcg cs)[i]? = some (lv, l, f, n) ∧ 1 ≤ l ∧ l < linesOf cs lv ∧ f + n ≤ zbt cs lv ∧ 1 ≤ n ∧ linesOf cs lv ≤ 6 ∧ zbt cs lv ≤ 6 := by
 have q1 := h.h6
 have q2 := h.w6
 have q3 := h.h1
 have q4 := h.w1
 have hm := List.getElem_mem hi
 rw [List.getElem?_eq_getElem hi]
 generalize (zcg cs)[i] = x at *
 unfold zcg at hm
 rcases List.mem_append.1 hm with hm | hm
 ·obtain ⟨⟨l, f, n⟩, hx, rfl⟩ := List.mem_map.1 hm
  have := trip_in _ _ _ _ hx
  exact ⟨false, l, f, n, rfl, by simp only [linesOf, zbt, Bool.false_eq_true, if_false]; dsimp only at this; omega⟩
 ·obtain ⟨⟨l, f, n⟩, hx, rfl⟩ := List.mem_map.1 hm
  have := trip_in _ _ _ _ hx
  exact ⟨true, l, f, n, rfl, by simp only [linesOf, zbt, if_true]; dsimp only at this; omega⟩
def touchP (cs : List (List Int)) (i : Nat) : List (Int × Int) := ((zcg cs).take i).flatMap fun x => touchW cs x.1 x.2
theorem touchW_length (cs : List (List Int)) (lv : Bool) (x : Nat × Nat × Nat) : (touchW cs lv x).length = x.2.2 := by simp [touchW]
theorem touchP_succ (cs : List (List Int)) (i : Nat) (lv : Bool) (t : Nat × Nat × Nat) (h : (zcg cs)[i]? = some (lv, t)) : touchP cs (i + 1) = touchP cs i ++ touchW cs lv t := by
 unfold touchP
 rw [List.take_add_one, h, List.flatMap_append]
 simp
theorem touchP_length {cs : List (List Int)} {rs : List Rc} (h : FloorOk cs rs) : ∀ i, i ≤ (zcg cs).length → (touchP cs i).length ≤ i * 6
 | 0, _ => by simp [touchP]
 | i + 1, hi => by
  obtain ⟨lv, l, f, n, e, h1, h2, h3, h4, h5, h6⟩ := wallsP_ok h i (by omega)
  have ih := touchP_length h i (by omega)
  rw [touchP_succ cs i lv _ e, List.length_append, touchW_length, Nat.succ_mul]
  dsimp only
  omega
theorem touchP_all (cs : List (List Int)) : touchP cs (zcg cs).length = touchL cs := by
 unfold touchP
 rw [List.take_length, wallsP_touch]
theorem touchW_take (cs : List (List Int)) (lv : Bool) (l f n j : Nat) (hj : j < n) : (touchW cs lv (l, f, n)).take (j + 1) = (touchW cs lv (l, f, n)).take j ++ [zcq cs lv l (f + j)] := by
 unfold touchW
 rw [List.take_add_one, List.getElem?_map, List.getElem?_range hj]
 rfl
theorem sides_range {cs : List (List Int)} {rs : List Rc} (h : FloorOk cs rs) (lv : Bool) (line i : Nat) (h1 : 1 ≤ line) (h2 : line < linesOf cs lv) (h3 : i < zbt cs lv) : ∃ a b : Nat, zcq cs lv line i = ((a : Int), (b : Int)) ∧ a < rs.length ∧ b < rs.length := by
 unfold zcq
 cases lv with
 | true =>
  simp only [linesOf, zbt, if_true] at h2 h3
  have v1 := valAt_range h (line - 1) i (by omega) h3
  have v2 := valAt_range h line i h2 h3
  rw [if_pos rfl]
  exact ⟨(zba cs (line - 1) i).toNat, (zba cs line i).toNat, by rw [Int.toNat_of_nonneg v1.1, Int.toNat_of_nonneg v2.1], by omega, by omega⟩
 | false =>
  simp only [linesOf, zbt, Bool.false_eq_true, if_false] at h2 h3
  have v1 := valAt_range h i (line - 1) h3 (by omega)
  have v2 := valAt_range h i line h3 h2
  rw [if_neg (by simp)]
  exact ⟨(zba cs i (line - 1)).toNat, (zba cs i line).toNat, by rw [Int.toNat_of_nonneg v1.1, Int.toNat_of_nonneg v2.1], by omega, by omega⟩
def incG (G : Nat → Nat → Int) (i j r c : Nat) : Int := if r = i ∧ c = j then G r c + 1 else G r c
def hitG (T : List (Int × Int)) (r c : Nat) : Int := hits T (r : Int) (c : Int)
theorem hitG_snoc (T : List (Int × Int)) (a b r c : Nat) : incG (incG (hitG T) a b) b a r c = hitG (T ++ [((a : Int), (b : Int))]) r c := by
 unfold hitG
 rw [hits_append]
 have e : hits [((a : Int), (b : Int))] (r : Int) (c : Int) = (if r = a ∧ c = b then 1 else 0) + (if r = b ∧ c = a then 1 else 0) := by
  unfold hits hit
  simp only [List.map_cons, List.map_nil, sumZ, Prod.mk.injEq]
  have e1 : ((a : Int) = (r : Int) ∧ (b : Int) = (c : Int)) ↔ (r = a ∧ c = b) := by omega
  have e2 : ((a : Int) = (c : Int) ∧ (b : Int) = (r : Int)) ↔ (r = b ∧ c = a) := by omega
  simp only [e1, e2]
  omega
 rw [e]
 unfold incG
 dsimp only
 split <;> split <;> omega
theorem grid_inc {n : Nat} (G : Nat → Nat → Int) (i j : Nat) (hi : i < n) (hj : j < n) : (zbn n n G).set i (((List.range n).map fun c => G i c).set j (G i j + 1)) = zbn n n (incG G i j) := by
 apply List.ext_getElem?
 intro r
 by_cases hr : r < n
 ·rw [gridOf_get hr, List.getElem?_set]
  by_cases e : i = r
  ·subst e
   rw [if_pos rfl, if_pos (by rw [zbj]; exact hi)]
   congr 1
   apply List.ext_getElem?
   intro c
   rw [List.getElem?_set]
   by_cases hc : c < n
   ·rw [List.getElem?_map, List.getElem?_range hc]
    by_cases e2 : j = c
    ·subst e2
     rw [if_pos rfl, if_pos (by simp; exact hj), List.getElem?_map, List.getElem?_range hj]
     simp [incG]
    ·rw [if_neg e2, List.getElem?_map, List.getElem?_range hc]
     simp only [Option.map_some, incG]
     rw [if_neg (fun z => e2 z.2.symm)]
   ·rw [List.getElem?_eq_none (by simp; omega : ((List.range n).map fun c => incG G i j i c).length ≤ c), if_neg (by omega), List.getElem?_eq_none (by simp; omega)]
  ·rw [if_neg e, gridOf_get hr]
   congr 1
   apply List.map_congr_left
   intro c _
   unfold incG
   rw [if_neg (fun z => e z.1.symm)]
 ·rw [List.getElem?_eq_none (by rw [List.length_set, zbj]; omega), List.getElem?_eq_none (by rw [zbj]; omega)]
theorem mat_inc {W : World} {g0 n : Nat} {bs : List Nat} {G : Nat → Nat → Int} (HM : MatAt W g0 n bs (zbn n n G)) (i j : Nat) (hi : i < n) (hj : j < n) :
  ∃ b, b ∈ bs ∧ W.cell? ⟨g0, i, none⟩ = some (.slice (some ⟨b, 0, none⟩) n n) ∧ W.cell? ⟨b, j, none⟩ = some (.int .i64 (G i j)) ∧ W.frozen? ⟨b, j, none⟩ = false ∧ ∀ p : Int, p = G i j + 1 → MatAt (W.setCell ⟨b, j, none⟩ (.int .i64 p)) g0 n bs (zbn n n (incG G i j)) := by
 have hr := gridOf_get (hi := n) (wi := n) (g := G) hi
 obtain ⟨b, hb⟩ : ∃ b, bs[i]? = some b := ⟨_, List.getElem?_eq_getElem (by rw [HM.len, zbj]; exact hi)⟩
 have hx : ((List.range n).map fun c => G i c)[j]? = some (G i j) := by rw [List.getElem?_map, List.getElem?_range hj]; rfl
 have h1 := HM.topCell i b _ hb hr
 have h2 := HM.rowCell i j b _ _ hb hr hx
 have h3 := HM.set i j b _ (G i j + 1) hb hr
 rw [grid_inc G i j hi hj] at h3
 simp only [List.length_map, List.length_range] at h1
 exact ⟨b, List.mem_of_getElem? hb, h1, h2.1, h2.2, fun p hp => by subst hp; exact h3⟩
theorem wallsP_get {cs : List (List Int)} {i : Nat} {x : Bool × Nat × Nat × Nat} (h : (zcg cs)[i]? = some x) : (zbv cs).getD i zeroW = mkW x.1 x.2 := by
 rw [wallsP_walls, ycj, List.getElem?_map, h]
 rfl
theorem wallsP_length (cs : List (List Int)) : (zcg cs).length = (zbv cs).length := by rw [wallsP_walls]; simp
set_option maxHeartbeats 4000000 in
set_option maxRecDepth 100000 in
theorem touching1_read (w : World) (n : Nat) : ReadFn Try.prog 143 #[] w n n (fun _ _ => 0) := by
 intro W r c hr hc hS
 clear hS
 show Calls _ _ #[.int .i64 r, .int .i64 c] W _
 go_enter Try.func143, Try.ntmps143
 go_wp2
 go_ret
 exact ⟨rfl, Below.refl _ _⟩
theorem block_ne {W : World} {a b t s : Nat} {x y : Array Value} {u v : Nat × Nat} (ha : W.heap[a]? = some (.cells x t u)) (hb : W.heap[b]? = some (.cells y s v)) (h : t ≠ s) : a ≠ b := by
 rintro rfl
 rw [ha] at hb
 injection hb with hb
 injection hb with _ hb
 exact h hb
theorem MatAt.typed {W : World} {g n : Nat} {bs : List Nat} {rows : List (List Int)} (h : MatAt W g n bs rows) {b : Nat} (hb : b ∈ bs) : ∃ x, W.heap[b]? = some (.cells x 3 (0, 0)) := by
 obtain ⟨i, hi, e⟩ := List.mem_iff_getElem.1 hb
 have hr : i < rows.length := by rw [← h.len]; exact hi
 exact ⟨_, h.row i b _ (by rw [List.getElem?_eq_getElem hi, e]) (List.getElem?_eq_getElem hr)⟩
set_option maxHeartbeats 8000000 in
set_option maxRecDepth 100000 in
theorem touching_calls (g : Nat) (cs : List (List Int)) (rs : List Rc) (w : World) (hf : FloorAt w g cs rs) (hk : FloorOk cs rs) :
  Calls Try.prog 128 #[.pointer (some ⟨g, 0, none⟩)] w (GridRes w (touchM cs rs.length)) := by
 have HF := zaa.mk hf
 have HK := zaa.mk hk
 obtain ⟨Ar, cr, hrm, -⟩ := hf.rooms
 have h9 := hk.many
 clear hf hk
 have b9 : (rs.length : Int) ≤ 9 := by omega
 go_enter Try.func128, Try.ntmps128
 go_wp2
 refine start_ (n := 12) (S := fun w' => (w'.cell? ⟨g, 1, none⟩ = some (.slice Ar rs.length cr)) ∧ (Below w.heap.size w w')) (ds := []) #[zf, zf, zf, zf, zf, zf, zf, zf, zf, zf, zf, zf] (by kernel_rfl) rfl rfl (⟨hrm, ⟨rfl, rfl, rfl, Nat.le_refl _, fun _ _ => rfl⟩⟩) (fun hHeld => ?_)
 clear hrm
 refine zav (i := 0) (N := some 9) (v := ?_) (a' := ?_) #[zt, zf, zf, zf, zf, zf, zf, zf, zf, zf, zf, zf] rfl rfl (by kernel_rfl) (fun _ _ _ h => h) (Or.inl ⟨by rfl, ?_⟩) ?_ ?_
 rotate_left
 ·intro w'; go_simp; with_reducible rfl
 rotate_left
 ·simp only [Act.put, ycg, ych, yci, zar, zas]; rfl
 refine zav (i := 1) (N := some 10) (v := ?_) (a' := ?_) #[zt, zt, zf, zf, zf, zf, zf, zf, zf, zf, zf, zf] rfl rfl (by kernel_rfl) (fun _ _ _ h => h) (Or.inl ⟨by rfl, ?_⟩) ?_ ?_
 rotate_left
 ·intro w'; go_simp; with_reducible rfl
 rotate_left
 ·simp only [Act.put, ycg, ych, yci, zar, zas]; rfl
 refine zav (i := 2) (N := some 11) (v := ?_) (a' := ?_) #[zt, zt, zt, zf, zf, zf, zf, zf, zf, zf, zf, zf] rfl rfl (by kernel_rfl) (fun _ _ _ h => h) (Or.inl ⟨by rfl, ?_⟩) ?_ ?_
 rotate_left
 ·intro w'; go_simp; with_reducible rfl
 rotate_left
 ·simp only [Act.put, ycg, ych, yci, zar, zas]; rfl
 refine take_ (i := 3) (N := some 12) (v := ?_) (a' := ?_) #[zt, zt, zt, zt, zf, zf, zf, zf, zf, zf, zf, zf] rfl rfl (by kernel_rfl) (fun _ _ _ h => h) (Or.inl ⟨by rfl, ?_⟩) hHeld ?_ ?_
 rotate_left
 ·rintro w' ⟨s0, s1⟩
  go_simp
  with_reducible rfl
 rotate_left
 ·simp only [Act.put, ycg, ych, yci, zar, zas]; rfl
 refine zav (i := 4) (N := some 13) (v := ?_) (a' := ?_) #[zt, zt, zt, zt, zt, zf, zf, zf, zf, zf, zf, zf] rfl rfl (by kernel_rfl) (fun _ _ _ h => h) (Or.inl ⟨by rfl, ?_⟩) ?_ ?_
 rotate_left
 ·intro w'; go_simp; with_reducible rfl
 rotate_left
 ·simp only [Act.put, ycg, ych, yci, zar, zas]; rfl
 refine zav (i := 5) (N := some 14) (v := ?_) (a' := ?_) #[zt, zt, zt, zt, zt, zt, zf, zf, zf, zf, zf, zf] rfl rfl (by kernel_rfl) (fun _ _ _ h => h) (Or.inl ⟨by rfl, ?_⟩) ?_ ?_
 rotate_left
 ·intro w'; go_simp; with_reducible rfl
 rotate_left
 ·simp only [Act.put, ycg, ych, yci, zar, zas]; rfl
 refine zav (i := 6) (N := some 15) (v := ?_) (a' := ?_) #[zt, zt, zt, zt, zt, zt, zt, zf, zf, zf, zf, zf] rfl rfl (by kernel_rfl) (fun _ _ _ h => h) (Or.inl ⟨by rfl, ?_⟩) ?_ ?_
 rotate_left
 ·intro w'; go_simp; with_reducible rfl
 rotate_left
 ·simp only [Act.put, ycg, ych, yci, zar, zas]; rfl
 refine zav (i := 7) (N := some 16) (v := ?_) (a' := ?_) #[zt, zt, zt, zt, zt, zt, zt, zt, zf, zf, zf, zf] rfl rfl (by kernel_rfl) (fun _ _ _ h => h) (Or.inl ⟨by rfl, ?_⟩) ?_ ?_
 rotate_left
 ·intro w'; go_simp; with_reducible rfl
 rotate_left
 ·simp only [Act.put, ycg, ych, yci, zar, zas]; rfl
 refine take_ (i := 8) (N := some 17) (v := ?_) (a' := ?_) #[zt, zt, zt, zt, zt, zt, zt, zt, zt, zf, zf, zf] rfl rfl (by kernel_rfl) (fun _ _ _ h => h) (Or.inl ⟨by rfl, ?_⟩) hHeld ?_ ?_
 rotate_left
 ·rintro w' ⟨s0, s1⟩
  go_simp
  with_reducible rfl
 rotate_left
 ·simp only [Act.put, ycg, ych, yci, zar, zas]; rfl
 refine zav (i := 9) (N := some 18) (v := ?_) (a' := ?_) #[zt, zt, zt, zt, zt, zt, zt, zt, zt, zt, zf, zf] rfl rfl (by kernel_rfl) (fun _ _ _ h => h) (Or.inl ⟨by rfl, ?_⟩) ?_ ?_
 rotate_left
 ·intro w'; go_simp; with_reducible rfl
 rotate_left
 ·simp only [Act.put, ycg, ych, yci, zar, zas]; rfl
 refine one_ (i := 10) (N := some 19) #[zt, zt, zt, zt, zt, zt, zt, zt, zt, zt, zt, zf] rfl rfl (by kernel_rfl) (by decide) (fun K hK => ?_)
 refine goes_ Try.func68 (by kernel_rfl) rfl #[.int .i64 (rs.length : Int), .int .i64 (rs.length : Int), .func (.func 143) #[] #[]] (by rfl) rfl rfl (by (try simp only [List.map_toArray, List.map_cons, List.map_nil]); first | done | rfl) ?_
 have hs_ := hHeld
 obtain ⟨s0, s1⟩ := hs_
 refine (blank_calls 143 Try.f143 Try.func143 (by kernel_rfl) rfl _ rs.length rs.length _ _ (readFn_cell (touching1_read _ rs.length)) (fun k => k < _) _ ⟨fun _ => Iff.rfl, Sees.refl _⟩ (by omega) (by omega)).mono ?_
 rintro e w13 ⟨g0, bs, F', rfl, hM, hfar, ⟨hF, hS⟩, hF', hO⟩
 have hb : Below _ _ w13 := ⟨hO.os, hO.tape, hO.output, hS.1, hS.2⟩
 have HM13 := zaa.mk hM
 have HLow := zaa.mk (fun k hk => Nat.le_trans s1.size (hfar k hk).1)
 have HB13 := zaa.mk (zag s1 hb)
 clear hM hfar hF hS hF' hO
 refine ⟨_, rfl, ?_⟩
 refine hK.out _ _ ⟨zau hb s0, zag s1 hb⟩ (fun hHeld => ?_)
 clear hK K hb s0 s1
 refine norm_ (a' := ?_) ?_ ?_
 rotate_left
 ·show Act.put _ (some 19) _ = _
  simp only [Act.put, ycg, ych, yci, zar, zas]
  rfl
 refine zav (i := 11) (N := some 3) (v := ?_) (a' := ?_) #[zt, zt, zt, zt, zt, zt, zt, zt, zt, zt, zt, zt] rfl rfl (by kernel_rfl) (fun _ _ _ h => h) (Or.inl ⟨by rfl, ?_⟩) ?_ ?_
 rotate_left
 ·intro w'; go_simp; with_reducible rfl
 rotate_left
 ·simp only [Act.put, ycg, ych, yci, zar, zas]; rfl
 refine done_ (by kernel_rfl) ?_
 clear hHeld
 obtain ⟨K, hK⟩ := walls_ev HK.out
 have HW := zaa.mk (hK K (Nat.le_refl K))
 have HL := zaa.mk (wallsOf_bound HK.out)
 have HPL := zaa.mk (wallsP_length cs)
 have HPG := zaa.mk (fun i x h => wallsP_get (cs := cs) (i := i) (x := x) h)
 have hM0 : touchM cs rs.length = zbn rs.length rs.length (hitG (touchP cs (zbv cs).length)) := by
  rw [← wallsP_length, touchP_all]
  rfl
 have HM0 := zaa.mk hM0
 have HZ := zaa.mk (show zbn rs.length rs.length (fun _ _ => 0) = zbn rs.length rs.length (hitG (touchP cs 0)) from gridOf_congr fun r c _ _ => rfl)
 clear hK hM0
 generalize zbv cs = ws at *
 generalize touchM cs rs.length = tm at *
 have b1 : (ws.length : Int) ≤ 72 := by have := HL.out; omega
 go_wp2_with (first
  | (go_at_call 80; refine (impl_floor_walls.calls K g cs rs ws _ _ (HF.out.below HB13.out) (Below.refl _ _) HW.out).mono ?_; rintro e w9 ⟨v9, rfl, hr9, -, hb9, -⟩; obtain ⟨A9, c9, e9⟩ := Kd.R_slice hr9; subst e9; have HB9 := zaa.mk (zag HB13.out hb9); have HR9 := zaa.mk (Kd.R_lower hr9 HB13.out.size); have HM9 := zaa.mk (HM13.out.move (fun k hk => hb9.block k (HM13.out.lt k hk))); clear hb9 hr9))
 go_loopg [23] ws.length (fun kq v23 w' => ∃ i : Nat, v23 = .int .i64 (i : Int) ∧ zaa (i + kq = ws.length) ∧ zaa (MatAt w' g0 rs.length bs (zbn rs.length rs.length (hitG (touchP cs i)))) ∧ zaa (Kd.R kWl 79 w' w.heap.size (fun _ => True) (.slice A9 ws.length c9) ws) ∧ zaa (Below w.heap.size w w'))
 case atStart => exact ⟨0, rfl, ⟨by omega⟩, ⟨HZ.out ▸ HM9.out⟩, HR9, HB9⟩
 case round =>
  clear HR9 HB9 HM9
  obtain ⟨i, rfl, HKi, HM, HO, HB⟩ := hrel
  by_cases hi : i < ws.length
  ·have hlt : (i : Int) < (ws.length : Int) := by omega
   have hi0 : (0 : Int) ≤ i := by omega
   obtain ⟨gr, cp, ev, hgr, hltg, cells, hcells⟩ := Kd.R_form HO.out (by omega)
   injection ev with ea en ec
   subst ea
   clear en ec hcells hltg hgr
   obtain ⟨z0, z1, z2, z3⟩ := wl_cells HO.out i hi
   obtain ⟨lv, l, f, n, hP, k1, k2, k3, k4, k5, k6⟩ := wallsP_ok HK.out i (by rw [HPL.out]; exact hi)
   rw [HPG.out i _ hP] at z0 z1 z2 z3
   simp only [mkW] at z0 z1 z2 z3
   have HTS := zaa.mk (touchP_succ cs i lv _ hP)
   have HTL := zaa.mk (touchP_length HK.out i (by rw [HPL.out]; omega))
   have HSd := zaa.mk (fun j (hj : j < n) => sides_range HK.out lv l (f + j) k1 k2 (by omega))
   have HSf := zaa.mk (fun j (hj : j < n) => sides_f HK.out lv l (f + j) k1 k2 (by omega))
   obtain ⟨fn, hw, hfn⟩ : ∃ fn : Int, wrap64 ((f : Int) + (n : Int)) = fn ∧ fn = (f : Int) + (n : Int) := ⟨_, rfl, zat (by omega) (by omega)⟩
   have HFN := zaa.mk hfn
   have HN6 := zaa.mk (show f + n ≤ 6 ∧ n ≤ 6 by omega)
   clear hP k1 k2 k3 k4 k5 k6 hfn
   have HNw := zaa.mk (heap_alloc_new wr (.cells #[.bool lv, .int .i64 (l : Int), .int .i64 (f : Int), .int .i64 (n : Int)] 79))
   have HBa := zaa.mk (zac HB.out (.cells #[.bool lv, .int .i64 (l : Int), .int .i64 (f : Int), .int .i64 (n : Int)] 79))
   have HOa := zaa.mk (Kd.R_below HO.out (zac (Below.refl _ _) (.cells #[.bool lv, .int .i64 (l : Int), .int .i64 (f : Int), .int .i64 (n : Int)] 79)))
   have HMa := zaa.mk (HM.out.move (fun k hk => Below.heap_alloc wr (.cells #[.bool lv, .int .i64 (l : Int), .int .i64 (f : Int), .int .i64 (n : Int)] 79) k (HM.out.lt k hk)))
   clear HB HM HO
   go_wp2
   generalize wr.alloc (.cells #[.bool lv, .int .i64 (l : Int), .int .i64 (f : Int), .int .i64 (n : Int)] 79) = wz at *
   generalize wr.heap.size = gw at *
   clear z0 z1 z2 z3
   go_loopg [6] n (fun kq v6 w' => ∃ (j : Nat) (x : Int), v6 = .int .i64 x ∧ zaa (x = (f : Int) + (j : Int)) ∧ zaa (j + kq = n) ∧ zaa (MatAt w' g0 rs.length bs (zbn rs.length rs.length (hitG (touchP cs i ++ (touchW cs lv (l, f, n)).take j)))) ∧ zaa (w'.heap[gw]? = some (.cells #[.bool lv, .int .i64 (l : Int), .int .i64 (f : Int), .int .i64 (n : Int)] 79 (0, 0))) ∧ zaa (Kd.R kWl 79 w' w.heap.size (fun _ => True) (.slice (some ⟨gr, 0, none⟩) ws.length c9) ws) ∧ zaa (Below w.heap.size w w'))
   case atStart => exact ⟨0, (f : Int), rfl, ⟨by omega⟩, ⟨by omega⟩, ⟨by simpa using HMa.out⟩, HNw, HOa, HBa⟩
   case round =>
    clear HMa HNw HOa HBa
    obtain ⟨j, x, rfl, HX, HKj, HM, HNw, HO, HB⟩ := hrel
    have y0 := (zax HNw.out 0).trans rfl
    have y1 := (zax HNw.out 1).trans rfl
    have y2 := (zax HNw.out 2).trans rfl
    have y3 := (zax HNw.out 3).trans rfl
    by_cases hj : j < n
    ·have hlt2 : x < fn := by have := HX.out; have := HFN.out; omega
     obtain ⟨a, b, hs, ha, hb⟩ := HSd.out j hj
     have hsf := HSf.out j hj
     rw [hs, show ((f + j : Nat) : Int) = x by have := HX.out; omega] at hsf
     have HSF := zaa.mk hsf
     have HS := zaa.mk hs
     have HTT := zaa.mk (touchW_take cs lv l f n j hj)
     have hTl : (touchP cs i ++ (touchW cs lv (l, f, n)).take j).length ≤ 500 := by
      have := HTL.out
      have := HN6.out
      rw [List.length_append, List.length_take, touchW_length]
      dsimp only
      omega
     obtain ⟨x', hw3, hx'⟩ : ∃ x' : Int, wrap64 (x + 1) = x' ∧ x' = (f : Int) + ((j + 1 : Nat) : Int) := ⟨_, rfl, by have := HX.out; have := HN6.out; rw [zat (by omega) (by omega)]; omega⟩
     have HX' := zaa.mk hx'
     have a0 : (0 : Int) ≤ (a : Int) := by omega
     have b0 : (0 : Int) ≤ (b : Int) := by omega
     have a1 : (a : Int) < (rs.length : Int) := by omega
     have b2 : (b : Int) < (rs.length : Int) := by omega
     obtain ⟨T, hT⟩ : ∃ T, T = touchP cs i ++ (touchW cs lv (l, f, n)).take j := ⟨_, rfl⟩
     rw [← hT] at HM hTl
     have HTn := zaa.mk (show touchP cs i ++ (touchW cs lv (l, f, n)).take (j + 1) = T ++ [((a : Int), (b : Int))] by rw [HTT.out, HS.out, ← List.append_assoc, hT])
     have HTB := zaa.mk (fun r c => hits_range' T r c)
     have HTLn := zaa.mk hTl
     clear hs hsf hx' hTl hT
     go_wp2_with (first
      | (go_at_call 127; refine (impl_floor_sides.calls g cs rs lv (l : Int) x (a : Int) (b : Int) _ _ (HF.out.below HB.out) (Below.refl _ _) HSF.out).mono ?_; rintro e w12 ⟨rfl, -, hb12, -⟩; have hm12 := HM.out.move (fun k hk => hb12.block k (HM.out.lt k hk)); obtain ⟨p1, hp1, q1, q2, q3, hm1⟩ := mat_inc hm12 a b ha hb; obtain ⟨v1, hv1, hv1'⟩ : ∃ v1 : Int, wrap64 (hitG T a b + 1) = v1 ∧ v1 = hitG T a b + 1 := ⟨_, rfl, by have := HTB.out a b; have := HTLn.out; unfold hitG; exact zat (by omega) (by omega)⟩; replace hm1 := hm1 v1 hv1'; obtain ⟨p2, hp2, r1, r2, r3, hm2⟩ := mat_inc hm1 b a hb ha; obtain ⟨v2, hv2, hv2'⟩ : ∃ v2 : Int, wrap64 (incG (hitG T) a b b a + 1) = v2 ∧ v2 = incG (hitG T) a b b a + 1 := ⟨_, rfl, by have := HTB.out b a; have := HTLn.out; unfold incG hitG; split <;> exact zat (by omega) (by omega)⟩; replace hm2 := hm2 v2 hv2'; obtain ⟨X1, ht1⟩ := hm12.typed hp1; obtain ⟨X2, ht2⟩ := hm1.typed hp2; have hn12 := (hb12.block gw (Array.getElem?_eq_some_iff.1 HNw.out).1).trans HNw.out; have HNw2 := zaa.mk ((Below.heap_setCell (w12.setCell ⟨p1, b, none⟩ (.int .i64 v1)) ⟨p2, a, none⟩ (.int .i64 v2) gw (by show gw ≠ p2; exact block_ne ((Below.heap_setCell w12 ⟨p1, b, none⟩ (.int .i64 v1) gw (by show gw ≠ p1; exact block_ne hn12 ht1 (by decide))).trans hn12) ht2 (by decide))).trans ((Below.heap_setCell w12 ⟨p1, b, none⟩ (.int .i64 v1) gw (by show gw ≠ p1; exact block_ne hn12 ht1 (by decide))).trans hn12)); have HO2 := zaa.mk (R_setF (R_setF (Kd.R_below HO.out hb12) ht1 (by decide) b (.int .i64 v1)) ht2 (by decide) a (.int .i64 v2)); have HB2 := zaa.mk (zah (zah (zag HB.out hb12) (g := p1) (j := b) (v := .int .i64 v1) (HLow.out p1 (List.mem_cons_of_mem _ hp1))) (g := p2) (j := a) (v := .int .i64 v2) (HLow.out p2 (List.mem_cons_of_mem _ hp2))); have HM2 := zaa.mk hm2; clear hm12 hm1 hm2 hp1 hp2 ht1 ht2 hn12 hb12 hv1' hv2' HO HB HM HNw; generalize hitG T a b = g1 at q2 hv1; generalize incG (hitG T) a b b a = g2 at r2 hv2))
     go_roundg (n - (j + 1))
     case measure => have := HKj.out; omega
     case rel => exact ⟨j + 1, x', congrArg (Value.int .i64) hw3, HX', ⟨by have := HKj.out; omega⟩, ⟨by rw [HTn.out, ← gridOf_congr (fun r c _ _ => hitG_snoc T a b r c)]; exact HM2.out⟩, HNw2, HO2, HB2⟩
    ·have hge2 : ¬ x < fn := by have := HX.out; have := HFN.out; omega
     obtain rfl : j = n := by have := HKj.out; omega
     go_wp2
     go_roundg (ws.length - (i + 1))
     case measure => have := HKi.out; omega
     case rel => exact ⟨i + 1, by first | rfl | (congr 1; omega), ⟨by have := HKi.out; omega⟩, ⟨by rw [HTS.out]; have := HM.out; rwa [List.take_of_length_le (by rw [touchW_length]; exact Nat.le_refl _)] at this⟩, HO, HB⟩
  ·have hge : ¬ (i : Int) < (ws.length : Int) := by omega
   obtain rfl : i = ws.length := by have := HKi.out; omega
   go_wp2
   go_ret
   have hl := zbj rs.length rs.length (hitG (touchP cs ws.length))
   rw [HM0.out]
   exact ⟨some ⟨g0, 0, none⟩, rs.length, by rw [hl]; rfl, by rw [hl]; exact Nat.le_refl _, HM.out.reads (by rw [hl]; omega) (fun r hr => by rw [gridOf_row r hr]; omega), HB.out⟩
theorem touchM_length (cs : List (List Int)) (n : Nat) : (touchM cs n).length = n := zbj _ _ _
def pairF (p : List ByteArray) (a b : Int) : Option (List (List Int) × List Rc) := match zcn p with
 | none => none
 | some (cs, rs) => if (hasB rs a && hasB rs b) = true then some (cs, rs) else none
def PairRes (w : World) (r : Option (List (List Int) × List Rc)) (e : Ending) (w' : World) : Prop :=
 Below w.heap.size w w' ∧ match r with
  | none => e = .returned (.tuple #[.pointer none, .slice none 0 0, .bool false])
  | some (cs, rs) => ∃ g A c, e = .returned (.tuple #[.pointer (some ⟨g, 0, none⟩), .slice A (touchM cs rs.length).length c, .bool true]) ∧ FloorAt w' g cs rs ∧ (touchM cs rs.length).length ≤ c ∧ (Kd.slice 3 (Kd.int .i64)).C w' A (touchM cs rs.length).length (touchM cs rs.length)
set_option maxHeartbeats 4000000 in
set_option maxRecDepth 100000 in
theorem pair_calls (A0 : Option Addr) (c0 : Nat) (l0 : List ByteArray) (a b : Int) (w : World) (hr0 : Kd.C Kd.string w A0 l0.length l0) (hc0 : l0.length ≤ c0) (hp : smallP l0) :
  Calls Try.prog 94 #[.slice A0 l0.length c0, .int .i64 a, .int .i64 b] w (PairRes w (pairF l0 a b)) := by
 have HR := zaa.mk hr0
 have HC := zaa.mk hc0
 have HP := zaa.mk hp
 clear hr0 hc0 hp
 generalize hM : pairF l0 a b = res
 have HM := zaa.mk hM
 clear hM
 generalize hF : zcn l0 = t
 have HF := zaa.mk hF
 clear hF
 rcases t with _ | ⟨cs, rs⟩
 ·have e : res = none := by rw [← HM.out]; unfold pairF; rw [HF.out]
  subst e
  go_enter Try.func94, Try.ntmps94
  go_wp2_with (first
   | (go_at_call 66; refine (floorOf_calls A0 c0 l0 _ HR.out HC.out HP.out).mono ?_; rw [HF.out]; rintro e w8 ⟨hb8, v8, b8, rfl, rfl⟩; have HB8 := zaa.mk hb8; clear hb8))
  go_ret3
  exact ⟨HB8.out, rfl⟩
 ·have hre : pairF l0 a b = if (hasB rs a && hasB rs b) = true then some (cs, rs) else none := by unfold pairF; rw [HF.out]
  rw [HM.out] at hre
  have HK := zaa.mk (floorF_ok HF.out)
  generalize hA : hasB rs a = bA at hre
  generalize hB : hasB rs b = bB at hre
  have HA := zaa.mk hA
  have HBb := zaa.mk hB
  clear hA hB
  cases bA
  ·have e : res = none := by rw [hre]; simp
   subst e
   clear hre
   go_enter Try.func94, Try.ntmps94
   go_wp2_with (first
    | (go_at_call 66; refine (floorOf_calls A0 c0 l0 _ HR.out HC.out HP.out).mono ?_; rw [HF.out]; rintro e w8 ⟨hb8, v8, b8, rfl, rfl, g, rfl, hfl⟩; have HB8 := zaa.mk hb8; have HFl8 := zaa.mk hfl; clear hb8 hfl)
    | (go_at_call 67; refine (impl_floor_has.calls g cs rs a _ _ _ HFl8.out (Below.refl _ _) (has_f cs rs a)).mono ?_; rw [HA.out]; rintro e w9 ⟨rfl, -, hb9, -⟩; have HB9 := zaa.mk (zag HB8.out hb9); clear hb9))
   go_ret3
   exact ⟨HB9.out, rfl⟩
  ·cases bB
   ·have e : res = none := by rw [hre]; simp
    subst e
    clear hre
    go_enter Try.func94, Try.ntmps94
    go_wp2_with (first
     | (go_at_call 66; refine (floorOf_calls A0 c0 l0 _ HR.out HC.out HP.out).mono ?_; rw [HF.out]; rintro e w8 ⟨hb8, v8, b8, rfl, rfl, g, rfl, hfl⟩; have HB8 := zaa.mk hb8; have HFl8 := zaa.mk hfl; clear hb8 hfl)
     | (go_at_call 67; refine calls_of_args (args' := #[.pointer (some ⟨g, 0, none⟩), .int .i64 a]) (by with_reducible rfl) ?_; refine (impl_floor_has.calls g cs rs a _ _ _ HFl8.out (Below.refl _ _) (has_f cs rs a)).mono ?_; rw [HA.out]; rintro e w9 ⟨rfl, -, hb9, -⟩; have HB9 := zaa.mk (zag HB8.out hb9); have HFl9 := zaa.mk (HFl8.out.below hb9); clear hb9)
     | (go_at_call 67; refine calls_of_args (args' := #[.pointer (some ⟨g, 0, none⟩), .int .i64 b]) (by with_reducible rfl) ?_; refine (impl_floor_has.calls g cs rs b _ _ _ HFl9.out (Below.refl _ _) (has_f cs rs b)).mono ?_; rw [HBb.out]; rintro e w10 ⟨rfl, -, hb10, -⟩; have HB10 := zaa.mk (zag HB9.out hb10); clear hb10))
    go_ret3
    exact ⟨HB10.out, rfl⟩
   ·have e : res = some (cs, rs) := by rw [hre]; simp
    subst e
    clear hre
    go_enter Try.func94, Try.ntmps94
    go_wp2_with (first
     | (go_at_call 66; refine (floorOf_calls A0 c0 l0 _ HR.out HC.out HP.out).mono ?_; rw [HF.out]; rintro e w8 ⟨hb8, v8, b8, rfl, rfl, g, rfl, hfl⟩; have HB8 := zaa.mk hb8; have HFl8 := zaa.mk hfl; clear hb8 hfl)
     | (go_at_call 67; refine calls_of_args (args' := #[.pointer (some ⟨g, 0, none⟩), .int .i64 a]) (by with_reducible rfl) ?_; refine (impl_floor_has.calls g cs rs a _ _ _ HFl8.out (Below.refl _ _) (has_f cs rs a)).mono ?_; rw [HA.out]; rintro e w9 ⟨rfl, -, hb9, -⟩; have HB9 := zaa.mk (zag HB8.out hb9); have HFl9 := zaa.mk (HFl8.out.below hb9); clear hb9)
     | (go_at_call 67; refine calls_of_args (args' := #[.pointer (some ⟨g, 0, none⟩), .int .i64 b]) (by with_reducible rfl) ?_; refine (impl_floor_has.calls g cs rs b _ _ _ HFl9.out (Below.refl _ _) (has_f cs rs b)).mono ?_; rw [HBb.out]; rintro e w10 ⟨rfl, -, hb10, -⟩; have HB10 := zaa.mk (zag HB9.out hb10); have HFl10 := zaa.mk (HFl9.out.below hb10); clear hb10)
     | (go_at_call 128; refine (touching_calls g cs rs _ HFl10.out HK.out).mono ?_; rintro e w11 ⟨A11, c11, rfl, hl11, hC11, hb11⟩; have HB11 := zaa.mk (zag HB10.out hb11); have HFl11 := zaa.mk (HFl10.out.below hb11); have HL11 := zaa.mk hl11; have HC11 := zaa.mk hC11; clear hb11 hl11 hC11))
    go_ret3
    exact ⟨HB11.out, g, A11, c11, rfl, HFl11.out, HL11.out, HC11.out⟩
theorem touch_cell {w : World} {A : Option Addr} {cs : List (List Int)} {n : Nat} (h : (Kd.slice 3 (Kd.int .i64)).C w A (touchM cs n).length (touchM cs n)) (a b : Nat) (ha : a < n) (hb : b < n) :
  ∃ ad ad2 c2, A = some ad ∧ w.cell? (ad.add a) = some (.slice (some ad2) n c2) ∧ w.cell? (ad2.add b) = some (.int .i64 (besN cs a b)) := by
 have hrow : (touchM cs n)[a]? = some ((List.range n).map fun (c : Nat) => hits (touchL cs) a c) := gridOf_get ha
 obtain ⟨ad, Ai, ci, e1, hx, hl, hrr⟩ := C_row h a _ hrow
 obtain ⟨ad2, e2, hx2⟩ := C_int_cell hrr b (by simp; exact hb)
 subst e2
 refine ⟨ad, ad2, ci, e1, by simpa using hx, ?_⟩
 rw [hx2, besN_hits]
 unfold rd
 rw [Int.toNat_natCast, ycj, List.getElem?_map, List.getElem?_range hb]
 rfl
set_option maxHeartbeats 4000000 in
set_option maxRecDepth 100000 in
theorem NearLength_calls (A0 : Option Addr) (c0 : Nat) (l0 : List ByteArray) (a b : Int) (w : World) (hr0 : Kd.C Kd.string w A0 l0.length l0) (hc0 : l0.length ≤ c0) (hp : smallP l0) :
  Calls Try.prog 78 #[.slice A0 l0.length c0, .int .i64 a, .int .i64 b] w fun e w' => e = .returned (.tuple #[.int .i64 (zck l0 a b).1, .bool (zck l0 a b).2]) ∧ Below w.heap.size w w' := by
 have HPr := zaa.mk (pair_calls A0 c0 l0 a b w hr0 hc0 hp)
 clear hr0 hc0 hp
 generalize hM : zck l0 a b = res
 have hre : zck l0 a b = match pairF l0 a b with
  | none => (0, false)
  | some (cs, rs) => if (a == b) = true then (0, false) else (besN cs a b, true) := by
  unfold zck pairF
  cases zcn l0 with
  | none => rfl
  | some t =>
   dsimp only
   cases hasB t.2 a <;> cases hasB t.2 b <;> cases (a == b) <;> rfl
 have hin : ∀ cs rs, pairF l0 a b = some (cs, rs) → FloorOk cs rs ∧ hasB rs a = true ∧ hasB rs b = true := fun cs rs h => by
  unfold pairF at h
  cases hF : zcn l0 with
  | none => rw [hF] at h; cases h
  | some t =>
   obtain ⟨c1, r1⟩ := t
   rw [hF] at h
   dsimp only at h
   split at h
   ·rename_i hb
    injection h with h
    injection h with h1 h2
    subst h1 h2
    rw [Bool.and_eq_true] at hb
    exact ⟨floorF_ok hF, hb.1, hb.2⟩
   ·cases h
 rw [hM] at hre
 clear hM
 rcases hT : pairF l0 a b with _ | ⟨cs, rs⟩
 ·rw [hT] at hre HPr
  have e : res = (0, false) := hre
  subst e
  clear hre hin hT
  go_enter Try.func78, Try.ntmps78
  go_wp2_with (first
   | (go_at_call 94; refine HPr.out.mono ?_; rintro e w8 ⟨hb8, rfl⟩; have HB8 := zaa.mk hb8; clear hb8))
  go_ret2
  exact ⟨rfl, HB8.out⟩
 ·obtain ⟨hk, hA, hB⟩ := hin cs rs hT
  rw [hT] at hre HPr
  have hre2 : res = if (a == b) = true then (0, false) else (besN cs a b, true) := hre
  clear hre hin hT
  unfold hasB at hA hB
  rw [Bool.and_eq_true, decide_eq_true_eq, decide_eq_true_eq] at hA hB
  by_cases hab : a = b
  ·have e : res = (0, false) := by rw [hre2]; simp [hab]
   subst e
   have d1 : (a == b) = true := by simp [hab]
   clear hre2 hab hA hB
   go_enter Try.func78, Try.ntmps78
   go_wp2_with (first
    | (go_at_call 94; refine HPr.out.mono ?_; rintro e w8 ⟨hb8, g, A, c, rfl, hfl, hl, hC⟩; have HB8 := zaa.mk hb8; clear hb8 hfl hl hC))
   go_ret2
   exact ⟨rfl, HB8.out⟩
  ·have e : res = (besN cs a b, true) := by rw [hre2]; simp [hab]
   have HE := zaa.mk e
   have d1 : (a == b) = false := by simp [hab]
   clear hre2 hab e
   obtain ⟨ia, rfl⟩ := Int.eq_ofNat_of_zero_le hA.1
   obtain ⟨ib, rfl⟩ := Int.eq_ofNat_of_zero_le hB.1
   have hia : ia < rs.length := by omega
   have hib : ib < rs.length := by omega
   have a0 : (0 : Int) ≤ (ia : Int) := by omega
   have b0 : (0 : Int) ≤ (ib : Int) := by omega
   have a1 : (ia : Int) < (rs.length : Int) := by omega
   have b1 : (ib : Int) < (rs.length : Int) := by omega
   have HTl := zaa.mk (touchM_length cs rs.length)
   go_enter Try.func78, Try.ntmps78
   go_wp2_with (first
    | (go_at_call 94; refine HPr.out.mono ?_; rintro e w8 ⟨hb8, g, A, c, rfl, hfl, hl, hC⟩; obtain ⟨ad, ad2, c2, eA, x1, x2⟩ := touch_cell hC ia ib hia hib; subst eA; rw [HTl.out]; have HB8 := zaa.mk hb8; clear hb8 hfl hl hC))
   go_ret2
   rw [HE.out]
   exact ⟨rfl, HB8.out⟩
set_option maxHeartbeats 4000000 in
set_option maxRecDepth 100000 in
theorem NearIs_calls (A0 : Option Addr) (c0 : Nat) (l0 : List ByteArray) (a b : Int) (w : World) (hr0 : Kd.C Kd.string w A0 l0.length l0) (hc0 : l0.length ≤ c0) (hp : smallP l0) :
  Calls Try.prog 20 #[.slice A0 l0.length c0, .int .i64 a, .int .i64 b] w fun e w' => e = .returned (.bool (nearIsF l0 a b)) ∧ Below w.heap.size w w' := by
 have HN := zaa.mk (NearLength_calls A0 c0 l0 a b w hr0 hc0 hp)
 clear hr0 hc0 hp
 rw [nearIs_length]
 generalize zck l0 a b = t at *
 obtain ⟨n, ok⟩ := t
 dsimp only at *
 cases ok
 ·go_enter Try.func20, Try.ntmps20
  go_wp2_with (first
   | (go_at_call 78; refine HN.out.mono ?_; rintro e w8 ⟨rfl, hb8⟩; have HB8 := zaa.mk hb8; clear hb8))
  go_ret
  exact ⟨rfl, HB8.out⟩
 ·go_enter Try.func20, Try.ntmps20
  go_wp2_with (first
   | (go_at_call 78; refine HN.out.mono ?_; rintro e w8 ⟨rfl, hb8⟩; have HB8 := zaa.mk hb8; clear hb8))
  go_ret
  exact ⟨rfl, HB8.out⟩
def zbx (cs : List (List Int)) (lv : Bool) (l f n : Nat) : List Int := (List.range n).map fun j => (zcq cs lv l (f + j)).1
def zci (cs : List (List Int)) (lv : Bool) (l f n : Nat) : List Int := (List.range n).map fun j => (zcq cs lv l (f + j)).2
theorem oneSide_succ (cs : List (List Int)) (lv : Bool) (l f n : Nat) : zbx cs lv l f (n + 1) = zbx cs lv l f n ++ [(zcq cs lv l (f + n)).1] := by simp [zbx, List.range_succ]
theorem twoSide_succ (cs : List (List Int)) (lv : Bool) (l f n : Nat) : zci cs lv l f (n + 1) = zci cs lv l f n ++ [(zcq cs lv l (f + n)).2] := by simp [zci, List.range_succ]
theorem oneSide_length (cs : List (List Int)) (lv : Bool) (l f n : Nat) : (zbx cs lv l f n).length = n := by simp [zbx]
theorem twoSide_length (cs : List (List Int)) (lv : Bool) (l f n : Nat) : (zci cs lv l f n).length = n := by simp [zci]
set_option maxHeartbeats 4000000 in
set_option maxRecDepth 100000 in
theorem along_calls (g : Nat) (cs : List (List Int)) (rs : List Rc) (lv : Bool) (l f n : Nat) (w : World) (hf : FloorAt w g cs rs) (hk : FloorOk cs rs) (h1 : 1 ≤ l) (h2 : l < linesOf cs lv) (h3 : f + n ≤ zbt cs lv) (h4 : linesOf cs lv ≤ 6) (h5 : zbt cs lv ≤ 6) :
  Calls Try.prog 90 #[.pointer (some ⟨g, 0, none⟩), .agg #[.bool lv, .int .i64 (l : Int), .int .i64 (f : Int), .int .i64 (n : Int)]] w fun e w' => ∃ v1 v2 : Value, e = .returned (.tuple #[v1, v2]) ∧ Kd.R (Kd.int .i64) 3 w' w.heap.size (fun k_ => some k_ ≠ (v2 : Value).ownBlock) v1 (zcm (zbx cs lv l f n)) ∧ Kd.R (Kd.int .i64) 3 w' w.heap.size (fun k_ => some k_ ≠ (v1 : Value).ownBlock) v2 (zcm (zci cs lv l f n)) ∧ Below w.heap.size w w' := by
 have HF := zaa.mk hf
 have HSd := zaa.mk (fun j (hj : j < n) => sides_f hk lv l (f + j) h1 h2 (by omega))
 obtain ⟨fn, hw, hfn⟩ : ∃ fn : Int, wrap64 ((f : Int) + (n : Int)) = fn ∧ fn = (f : Int) + (n : Int) := ⟨_, rfl, zat (by omega) (by omega)⟩
 have HFN := zaa.mk hfn
 have HN6 := zaa.mk (show f + n ≤ 6 ∧ n ≤ 6 by omega)
 have HNw := zaa.mk (heap_alloc_new w (.cells #[.bool lv, .int .i64 (l : Int), .int .i64 (f : Int), .int .i64 (n : Int)] 79))
 have HBa := zaa.mk (zac (Below.refl w.heap.size w) (.cells #[.bool lv, .int .i64 (l : Int), .int .i64 (f : Int), .int .i64 (n : Int)] 79))
 clear hf hk h1 h2 h3 h4 h5 hfn
 go_enter Try.func90, Try.ntmps90
 go_wp2
 generalize w.alloc (.cells #[.bool lv, .int .i64 (l : Int), .int .i64 (f : Int), .int .i64 (n : Int)] 79) = wB at *
 have hsz := HBa.out.size
 obtain ⟨gw, hgw⟩ : ∃ gw, gw = w.heap.size := ⟨_, rfl⟩
 rw [← hgw] at HNw ⊢
 have HGW := zaa.mk hgw
 have HSZ := zaa.mk hsz
 clear hgw hsz
 go_loopg [6, 7, 8] n (fun kq v6 v7 v8 w' => ∃ (j : Nat) (x : Int), v8 = .int .i64 x ∧ zaa (x = (f : Int) + (j : Int)) ∧ zaa (j + kq = n) ∧ zaa (Kd.R (Kd.int .i64) 3 w' wB.heap.size (fun k_ => some k_ ≠ (v7 : Value).ownBlock) v6 (zbx cs lv l f j)) ∧ zaa (Kd.R (Kd.int .i64) 3 w' wB.heap.size (fun k_ => some k_ ≠ (v6 : Value).ownBlock) v7 (zci cs lv l f j)) ∧ zaa (Below wB.heap.size wB w'))
 case atStart => exact ⟨0, (f : Int), rfl, ⟨by omega⟩, ⟨by omega⟩, ⟨Kd.R_nil _ _ _ _ _⟩, ⟨Kd.R_nil _ _ _ _ _⟩, ⟨Below.refl _ _⟩⟩
 case round =>
  obtain ⟨j, x, rfl, HX, HKj, HO1, HO2, HB⟩ := hrel
  have hnw := (HB.out.block gw (by have := (Array.getElem?_eq_some_iff.1 HNw.out).1; exact this)).trans HNw.out
  have y0 := (zax hnw 0).trans rfl
  have y1 := (zax hnw 1).trans rfl
  have y2 := (zax hnw 2).trans rfl
  have y3 := (zax hnw 3).trans rfl
  clear hnw
  by_cases hj : j < n
  ·have hlt2 : x < fn := by have := HX.out; have := HFN.out; omega
   have hsf := HSd.out j hj
   rw [show ((f + j : Nat) : Int) = x by have := HX.out; omega] at hsf
   have HN1 := zaa.mk (oneSide_succ cs lv l f j)
   have HN2 := zaa.mk (twoSide_succ cs lv l f j)
   have LM := zaa.mk (show (zbx cs lv l f j).length ≤ 6 ∧ (zci cs lv l f j).length ≤ 6 by rw [oneSide_length, twoSide_length]; have := HN6.out; omega)
   generalize zcq cs lv l (f + j) = ab at *
   obtain ⟨a, b⟩ := ab
   have HSF := zaa.mk hsf
   obtain ⟨x', hw3, hx'⟩ : ∃ x' : Int, wrap64 (x + 1) = x' ∧ x' = (f : Int) + ((j + 1 : Nat) : Int) := ⟨_, rfl, by have := HX.out; have := HN6.out; rw [zat (by omega) (by omega)]; omega⟩
   have HX' := zaa.mk hx'
   clear hsf hx'
   generalize zbx cs lv l f j = p1 at *
   generalize zci cs lv l f j = p2 at *
   go_wp2_with (first
    | (go_at_call 127; refine (impl_floor_sides.calls g cs rs lv (l : Int) x a b _ _ ((HF.out.below HBa.out).below HB.out) (Below.refl _ _) HSF.out).mono ?_; rintro e w12 ⟨rfl, -, hb12, -⟩; have n0_ := zaa.mk (Kd.R_below HO1.out hb12); have n1_ := zaa.mk (Kd.R_below HO2.out hb12); have n2_ := zaa.mk (zag HB.out hb12); clear HO1 HO2 HB hb12; have HO1 := n0_; have HO2 := n1_; have HB := n2_; clear n0_ n1_ n2_)
    | ((with_reducible refine zay (b := .append) (xs := #[.tmp 32, .tmp 34]) rfl ?_); at_builtin; refine Kd.R_append (Kd.int .i64) (w0 := wB) wB.heap.size rfl (.tmp 32) (.tmp 34) 39 3 (.int .i64 0) 8 rfl Try.underlying39 info3 rfl (by decide) (by omega) u6 p1 a [.int .i64 a] (fun k_ => some k_ ≠ (u7 : Value).ownBlock) (fun _ => False) rfl rfl ?aP (fun _ hk => hk.elim) ?aF ?aO ?aB ?aS ?aL ?_; (case aP => exact rfl); (case aB => exact (by repeat (first | (with_reducible first | exact HB.out | apply zac | apply zab | apply zad) | exact HB.out))); (case aF => exact (fun k_ hk => Kd.fresh' (Kd.R_lt (by (with_reducible repeat (first | apply Kd.R_alloc | apply Kd.R_drewN | apply Kd.R_drew)); exact HO2.out)) k_ hk)); (case aO => exact (by (with_reducible repeat (first | apply Kd.R_alloc | apply Kd.R_drewN | apply Kd.R_drew)); exact HO1.out)); (case aS => exact (zai (by repeat (first | (with_reducible first | exact HB.out | apply zac | apply zab | apply zad) | exact HB.out)))); (case aL => have := LM.out; omega); intro v35 w35 ho hb hg hat; have n0_ := zaa.mk (Kd.R_after (ok := (fun k_ => True)) (by (with_reducible repeat (first | apply Kd.R_alloc | apply Kd.R_drewN | apply Kd.R_drew)); exact Kd.R_mono HO2.out (fun _ hk => ⟨trivial, hk⟩)) hg hat); have n1_ := zaa.mk (Kd.R_mono n0_.out (fun k_ hk => hk.2)); have n2_ := zaa.mk hb; have n3_ := zaa.mk ho; clear HO1 HO2 HB; have HO2 := n1_; have HO1 := n3_; have HB := n2_; clear n0_ n1_ n2_ n3_; clear ho hb hg hat)
    | ((with_reducible refine zay (b := .append) (xs := #[.tmp 36, .tmp 38]) rfl ?_); at_builtin; refine Kd.R_append (Kd.int .i64) (w0 := wB) wB.heap.size rfl (.tmp 36) (.tmp 38) 39 3 (.int .i64 0) 8 rfl Try.underlying39 info3 rfl (by decide) (by omega) u7 p2 b [.int .i64 b] (fun k_ => some k_ ≠ (v35 : Value).ownBlock) (fun _ => False) rfl rfl ?aP (fun _ hk => hk.elim) ?aF ?aO ?aB ?aS ?aL ?_; (case aP => exact rfl); (case aB => exact (by repeat (first | (with_reducible first | exact HB.out | apply zac | apply zab | apply zad) | exact HB.out))); (case aF => exact (fun k_ hk => Kd.fresh' (Kd.R_lt (by (with_reducible repeat (first | apply Kd.R_alloc | apply Kd.R_drewN | apply Kd.R_drew)); exact HO1.out)) k_ hk)); (case aO => exact (by (with_reducible repeat (first | apply Kd.R_alloc | apply Kd.R_drewN | apply Kd.R_drew)); exact HO2.out)); (case aS => exact (zai (by repeat (first | (with_reducible first | exact HB.out | apply zac | apply zab | apply zad) | exact HB.out)))); (case aL => have := LM.out; omega); intro v39 w39 ho hb hg hat; have n0_ := zaa.mk (Kd.R_after (ok := (fun k_ => True)) (by (with_reducible repeat (first | apply Kd.R_alloc | apply Kd.R_drewN | apply Kd.R_drew)); exact Kd.R_mono HO1.out (fun _ hk => ⟨trivial, hk⟩)) hg hat); have n1_ := zaa.mk (Kd.R_mono n0_.out (fun k_ hk => hk.2)); have n2_ := zaa.mk hb; have n3_ := zaa.mk ho; clear HO1 HO2 HB; have HO1 := n1_; have HO2 := n3_; have HB := n2_; clear n0_ n1_ n2_ n3_; clear ho hb hg hat))
   go_roundg (n - (j + 1))
   case measure => have := HKj.out; omega
   case rel => exact ⟨j + 1, x', congrArg (Value.int .i64) hw3, HX', ⟨by have := HKj.out; omega⟩, ⟨by rw [HN1.out]; exact HO1.out⟩, ⟨by rw [HN2.out]; exact HO2.out⟩, HB⟩
  ·have hge2 : ¬ x < fn := by have := HX.out; have := HFN.out; omega
   obtain rfl : j = n := by have := HKj.out; omega
   generalize hp1 : zbx cs lv l f j = p1 at *
   generalize hp2 : zci cs lv l f j = p2 at *
   have HP1 := zaa.mk (show Go.Lib.compact p1 = zcm (zbx cs lv l f j) by rw [hp1]; exact compact_fold p1)
   have HP2 := zaa.mk (show Go.Lib.compact p2 = zcm (zci cs lv l f j) by rw [hp2]; exact compact_fold p2)
   clear hp1 hp2
   go_wp2_with (first
    | (go_at_call 88; (with_reducible refine (compact_calls p1 u6 _ wB.heap.size _ HO1.out).mono ?_); rintro e w20 ⟨v20, rfl, hr20, hg20, he20⟩; have HB20 := zaa.mk (HB.out.grown hg20 HB.out.size (own_base (Kd.own_of_R HO1.out))); have HR20 := zaa.mk hr20; have HO20 := zaa.mk (Kd.R_after (ok := (fun k_ => True)) (Kd.R_mono HO2.out (fun _ hk => ⟨trivial, hk⟩)) hg20 (.inl he20)); clear hr20 hg20 he20)
    | (go_at_call 88; (with_reducible refine (compact_calls p2 u7 _ wB.heap.size _ HO20.out).mono ?_); rintro e w21 ⟨v21, rfl, hr21, hg21, he21⟩; have HB21 := zaa.mk (HB20.out.grown hg21 HB20.out.size (own_base (Kd.own_of_R HO20.out))); have HR21 := zaa.mk hr21; have HO21 := zaa.mk (Kd.R_after (ok := (fun k_ => True)) (Kd.R_mono HR20.out (fun _ hk => ⟨trivial, hk⟩)) hg21 (.inl he21)); clear hr21 hg21 he21))
   go_ret2
   refine ⟨_, _, rfl, ?_, ?_, zag HBa.out HB21.out⟩
   ·rw [← HP1.out]
    exact Kd.R_mono (Kd.R_lower HO21.out HSZ.out) (fun _ hk => hk.2)
   ·rw [← HP2.out]
    exact Kd.R_mono (Kd.R_lower HR21.out HSZ.out) (fun _ hk => hk.2)
def zce (p : List ByteArray) (a : Int) : List Int × List Int × Bool := match zcn p with
 | none => ([], [], false)
 | some (cs, _) => if (decide (0 ≤ a) && decide (a < (zbv cs).length)) = true then
   let x := (zcg cs).getD a.toNat (false, 0, 0, 0)
   (zcm (zbx cs x.1 x.2.1 x.2.2.1 x.2.2.2), zcm (zci cs x.1 x.2.1 x.2.2.1 x.2.2.2), true) else ([], [], false)
set_option maxHeartbeats 4000000 in
set_option maxRecDepth 100000 in
theorem WallSides_calls (A0 : Option Addr) (c0 : Nat) (l0 : List ByteArray) (a : Int) (w : World) (hr0 : Kd.C Kd.string w A0 l0.length l0) (hc0 : l0.length ≤ c0) (hp : smallP l0) :
  Calls Try.prog 34 #[.slice A0 l0.length c0, .int .i64 a] w fun e w' => ∃ v1 v2 : Value, e = .returned (.tuple #[v1, v2, .bool (zce l0 a).2.2]) ∧ Kd.R (Kd.int .i64) 3 w' w.heap.size (fun k_ => some k_ ≠ (v2 : Value).ownBlock) v1 (zce l0 a).1 ∧ Kd.R (Kd.int .i64) 3 w' w.heap.size (fun k_ => some k_ ≠ (v1 : Value).ownBlock) v2 (zce l0 a).2.1 ∧ Below w.heap.size w w' := by
 have HR := zaa.mk hr0
 have HC := zaa.mk hc0
 have HP := zaa.mk hp
 clear hr0 hc0 hp
 generalize hM : zce l0 a = res
 have HM := zaa.mk hM
 clear hM
 generalize hF : zcn l0 = t
 have HF := zaa.mk hF
 clear hF
 rcases t with _ | ⟨cs, rs⟩
 ·have e : res = ([], [], false) := by rw [← HM.out]; unfold zce; rw [HF.out]
  subst e
  go_enter Try.func34, Try.ntmps34
  go_wp2_with (first
   | (go_at_call 66; refine (floorOf_calls A0 c0 l0 _ HR.out HC.out HP.out).mono ?_; rw [HF.out]; rintro e w8 ⟨hb8, v8, b8, rfl, rfl⟩; have HB8 := zaa.mk hb8; clear hb8))
  go_ret3
  exact ⟨_, _, rfl, Kd.R_nil _ _ _ _ _, Kd.R_nil _ _ _ _ _, HB8.out⟩
 ·have e : res = if (decide (0 ≤ a) && decide (a < (zbv cs).length)) = true then
    (zcm (zbx cs ((zcg cs).getD a.toNat (false, 0, 0, 0)).1 ((zcg cs).getD a.toNat (false, 0, 0, 0)).2.1 ((zcg cs).getD a.toNat (false, 0, 0, 0)).2.2.1 ((zcg cs).getD a.toNat (false, 0, 0, 0)).2.2.2), zcm (zci cs ((zcg cs).getD a.toNat (false, 0, 0, 0)).1 ((zcg cs).getD a.toNat (false, 0, 0, 0)).2.1 ((zcg cs).getD a.toNat (false, 0, 0, 0)).2.2.1 ((zcg cs).getD a.toNat (false, 0, 0, 0)).2.2.2), true) else ([], [], false) := by
   rw [← HM.out]
   unfold zce
   rw [HF.out]
  have hok := floorF_ok HF.out
  have HOK := zaa.mk hok
  obtain ⟨K, hK⟩ := walls_ev hok
  have HW := zaa.mk (hK K (Nat.le_refl K))
  have HL := zaa.mk (wallsOf_bound hok)
  by_cases ha0 : 0 ≤ a
  ·obtain ⟨i, rfl⟩ := Int.eq_ofNat_of_zero_le ha0
   by_cases hi : i < (zbv cs).length
   ·obtain ⟨lv, l, f, n, hP, k1, k2, k3, k4, k5, k6⟩ := wallsP_ok hok i (by rw [wallsP_length]; exact hi)
    have hg := wallsP_get (cs := cs) (i := i) hP
    have HG := zaa.mk hg
    rw [if_pos (by rw [decide_eq_true (show (0 : Int) ≤ (i : Int) by omega), decide_eq_true (show (i : Int) < (zbv cs).length by omega)]; rfl), Int.toNat_natCast, ycj, hP] at e
    have HE := zaa.mk (show res = (zcm (zbx cs lv l f n), zcm (zci cs lv l f n), true) from e)
    have HAl := zaa.mk (fun (g : Nat) (W : World) (hf : FloorAt W g cs rs) => along_calls g cs rs lv l f n W hf hok k1 k2 k3 k5 k6)
    have hlt : (i : Int) < ((zbv cs).length : Int) := by omega
    have HI := zaa.mk hi
    clear hK e hok hg k1 k2 k3 k4 k5 k6 hP hi
    generalize zbv cs = ws at *
    have hge : ((ws.length : Int) ≤ (i : Int)) = False := eq_false (by omega)
    have d1 : decide ((ws.length : Int) ≤ (i : Int)) = false := decide_eq_false (by omega)
    go_enter Try.func34, Try.ntmps34
    go_wp2_with (first
     | (go_at_call 66; refine (floorOf_calls A0 c0 l0 _ HR.out HC.out HP.out).mono ?_; rw [HF.out]; rintro e w8 ⟨hb8, v8, b8, rfl, rfl, g, rfl, hfl⟩; have HB8 := zaa.mk hb8; have HFl8 := zaa.mk hfl; clear hb8 hfl)
     | (go_at_call 80; refine (impl_floor_walls.calls K g cs rs ws _ _ HFl8.out (Below.refl _ _) HW.out).mono ?_; rintro e w9 ⟨v9, rfl, hr9, -, hb9, -⟩; obtain ⟨A8, c8, e8⟩ := Kd.R_slice hr9; subst e8; have HB9 := zaa.mk (zag HB8.out hb9); have HF9 := zaa.mk (HFl8.out.below hb9); clear hb9 hr9)
     | (go_at_call 80; refine (impl_floor_walls.calls K g cs rs ws _ _ HF9.out (Below.refl _ _) HW.out).mono ?_; rintro e w10 ⟨v10, rfl, hr10, -, hb10, -⟩; obtain ⟨g9, c9, e9, -, -, -, -⟩ := Kd.R_form hr10 (by have := HI.out; omega); subst e9; obtain ⟨z0, z1, z2, z3⟩ := wl_cells hr10 i HI.out; rw [HG.out] at z0 z1 z2 z3; simp only [mkW] at z0 z1 z2 z3; have HB10 := zaa.mk (zag HB9.out hb10); have HF10 := zaa.mk (HF9.out.below hb10); clear hb10 hr10)
     | (go_at_call 90; refine (HAl.out g _ HF10.out).mono ?_; rintro e w11 ⟨v11, v12, rfl, hr11, hr12, hb11⟩; have HB11 := zaa.mk (zag HB10.out hb11); have HR11 := zaa.mk (Kd.R_lower hr11 HB10.out.size); have HR12 := zaa.mk (Kd.R_lower hr12 HB10.out.size); clear hb11 hr11 hr12))
    go_ret3
    rw [HE.out]
    exact ⟨_, _, rfl, HR11.out, HR12.out, HB11.out⟩
   ·rw [if_neg (by rw [decide_eq_false (show ¬ (i : Int) < (zbv cs).length by omega), Bool.and_false]; simp)] at e
    have HE := zaa.mk e
    clear hK e hok
    generalize zbv cs = ws at *
    have d1 : decide ((ws.length : Int) ≤ (i : Int)) = true := decide_eq_true (by omega)
    go_enter Try.func34, Try.ntmps34
    go_wp2_with (first
     | (go_at_call 66; refine (floorOf_calls A0 c0 l0 _ HR.out HC.out HP.out).mono ?_; rw [HF.out]; rintro e w8 ⟨hb8, v8, b8, rfl, rfl, g, rfl, hfl⟩; have HB8 := zaa.mk hb8; have HFl8 := zaa.mk hfl; clear hb8 hfl)
     | (go_at_call 80; refine (impl_floor_walls.calls K g cs rs ws _ _ HFl8.out (Below.refl _ _) HW.out).mono ?_; rintro e w9 ⟨v9, rfl, hr9, -, hb9, -⟩; obtain ⟨A8, c8, e8⟩ := Kd.R_slice hr9; subst e8; have HB9 := zaa.mk (zag HB8.out hb9); clear hb9 hr9))
    go_ret3
    rw [HE.out]
    exact ⟨_, _, rfl, Kd.R_nil _ _ _ _ _, Kd.R_nil _ _ _ _ _, HB9.out⟩
  ·rw [if_neg (by rw [decide_eq_false ha0]; simp)] at e
   have HE := zaa.mk e
   have hneg : a < 0 := by omega
   clear hK e hok ha0
   go_enter Try.func34, Try.ntmps34
   go_wp2_with (first
    | (go_at_call 66; refine (floorOf_calls A0 c0 l0 _ HR.out HC.out HP.out).mono ?_; rw [HF.out]; rintro e w8 ⟨hb8, v8, b8, rfl, rfl, g, rfl, hfl⟩; have HB8 := zaa.mk hb8; have HFl8 := zaa.mk hfl; clear hb8 hfl))
   go_ret3
   rw [HE.out]
   exact ⟨_, _, rfl, Kd.R_nil _ _ _ _ _, Kd.R_nil _ _ _ _ _, HB8.out⟩
def impl_WallSides.f (l0 : List ByteArray) (a1 : Int) : Option (List Int × List Int × Bool) := if smallB l0 = true then some (zce l0 a1) else none
theorem impl_WallSides.calls (A0 : Option Addr) (c0 : Nat) (l0 : List ByteArray) (a1 : Int) (r1 : List Int) (r2 : List Int) (r3 : Bool) (w : World) (hr0 : Kd.C Kd.string w A0 l0.length l0) (hc0 : l0.length ≤ c0) (h : impl_WallSides.f l0 a1 = some (r1, r2, r3)) :
  Calls Try.prog 34 #[.slice A0 l0.length c0, .int .i64 a1] w fun e w' => ∃ v0_ v1_ : Value, e = .returned (.tuple #[v0_, v1_, .bool r3]) ∧ Kd.R (Kd.int .i64) 3 w' w.heap.size (fun k_ => some k_ ≠ (v1_ : Value).ownBlock) v0_ r1 ∧ Kd.R (Kd.int .i64) 3 w' w.heap.size (fun k_ => some k_ ≠ (v0_ : Value).ownBlock) v1_ r2 ∧ Below w.heap.size w w' := by
 unfold impl_WallSides.f at h
 split at h
 ·rename_i hs
  have e := Option.some.inj h
  have := WallSides_calls A0 c0 l0 a1 w hr0 hc0 ((smallB_iff _).1 hs)
  rw [e] at this
  exact this
 ·cases h
def impl_NearIs.f (l0 : List ByteArray) (a1 : Int) (a2 : Int) : Option (Bool) := if smallB l0 = true then some (nearIsF l0 a1 a2) else none
theorem impl_NearIs.calls (A0 : Option Addr) (c0 : Nat) (l0 : List ByteArray) (a1 : Int) (a2 : Int) (r : Bool) (w : World) (hr0 : Kd.C Kd.string w A0 l0.length l0) (hc0 : l0.length ≤ c0) (h : impl_NearIs.f l0 a1 a2 = some r) :
  Calls Try.prog 20 #[.slice A0 l0.length c0, .int .i64 a1, .int .i64 a2] w fun e w' => e = .returned (.bool r) ∧ Below w.heap.size w w' := by
 unfold impl_NearIs.f at h
 split at h
 ·rename_i hs
  have e := Option.some.inj h
  have := NearIs_calls A0 c0 l0 a1 a2 w hr0 hc0 ((smallB_iff _).1 hs)
  rw [e] at this
  exact this
 ·cases h
end Go.Proofs.Ytaepgogafkmooaa.Hd
namespace Go.Proofs.Ytaepgogafkmooaa.LD
open Go.Proofs.Ytaepgogafkmooaa.PB Go.Proofs.Ytaepgogafkmooaa.Hd Go.Proofs.Ytaepgogafkmooaa.SM
open Go.RowKit Go.PW.PrintWords Go.PW.PrintLast Go.PW.PrintMore
attribute [local go_sem] zcb zbz max_two min_two zbs zbr zca zby   -- for this text's walks alone
def errW : Option Int → Value
 | none => .nilIface
 | some c => .iface 0 (.int .i64 c)
theorem zan : errW none = .nilIface := rfl
theorem zam (c : Int) : errW (some c) = .iface 0 (.int .i64 c) := rfl
theorem info3 : (Try.prog.info? 3).map (fun i => (i.zero, i.size, i.bytes)) = some (some (.int .i64 0), 1, 8) := by kernel_rfl
theorem info5 : (Try.prog.info? 5).map (fun i => (i.zero, i.size, i.bytes)) = some (some (.int .u8 0), 1, 1) := by kernel_rfl
theorem info9 : (Try.prog.info? 9).map (fun i => (i.zero, i.size, i.bytes)) = some (some (.string ⟨#[]⟩), 1, 16) := by kernel_rfl
theorem info39 : (Try.prog.info? 39).map (fun i => (i.zero, i.size, i.bytes)) = some (some (.slice none 0 0), 1, 24) := by kernel_rfl
theorem info79 : (Try.prog.info? 79).map (fun i => (i.zero, i.size, i.bytes)) = some (some (.agg #[(.bool false), (.int .i64 0), (.int .i64 0), (.int .i64 0)]), 4, 32) := by kernel_rfl
structure S131 where
 f0 : Int
 f1 : Int
 f2 : Int
 f3 : Int
def z131 : S131 := ⟨(0 : Int), (0 : Int), (0 : Int), (0 : Int)⟩
def k131 : Kd S131 := Kd.iso (Kd.pair (Kd.int .i64) (Kd.pair (Kd.int .i64) (Kd.pair (Kd.int .i64) (Kd.int .i64)))) (fun x : S131 => (x.f0, x.f1, x.f2, x.f3))
theorem k131_open {w : World} {x : S131} {cs : List Value} (h : k131.K w x cs) : cs = [.int .i64 x.f0, .int .i64 x.f1, .int .i64 x.f2, .int .i64 x.f3] := by
 obtain ⟨_, _, rfl, rfl, ⟨_, _, rfl, rfl, ⟨_, _, rfl, rfl, rfl⟩⟩⟩ := h
 exact rfl
theorem k131_mkM (w : World) (base : Nat) (ok : Nat → Prop) (x : S131)  : k131.M w base ok x [.int .i64 x.f0, .int .i64 x.f1, .int .i64 x.f2, .int .i64 x.f3] := ⟨[.int .i64 x.f0], [.int .i64 x.f1, .int .i64 x.f2, .int .i64 x.f3], rfl, rfl, ⟨[.int .i64 x.f1], [.int .i64 x.f2, .int .i64 x.f3], rfl, rfl, ⟨[.int .i64 x.f2], [.int .i64 x.f3], rfl, rfl, rfl⟩⟩⟩
def rd_T131 (xs : List S131) (i : Int) : S131 := xs.getD i.toNat z131
theorem at_T131 {w : World} {A : Option Addr} {n : Nat} {xs : List S131} (h : Kd.C k131 w A n xs) (i : Int) (h0 : 0 ≤ i) (h1 : i < n) : ∃ ad , A = some ad ∧ w.cell? (ad.add (i.toNat * 4)) = some (.int .i64 (rd_T131 xs i).f0) ∧ w.cell? ⟨(ad.add (i.toNat * 4)).block, (ad.add (i.toNat * 4)).off + 1, none⟩ = some (.int .i64 (rd_T131 xs i).f1) ∧ w.cell? ⟨(ad.add (i.toNat * 4)).block, (ad.add (i.toNat * 4)).off + 2, none⟩ = some (.int .i64 (rd_T131 xs i).f2) ∧ w.cell? ⟨(ad.add (i.toNat * 4)).block, (ad.add (i.toNat * 4)).off + 3, none⟩ = some (.int .i64 (rd_T131 xs i).f3) := by
 obtain ⟨ad, c, e, _, hK, hc0⟩ := Kd.C_get h z131 i h0 h1
 have hc : ∀ j u, c[j]? = some u → w.cell? (ad.add (i.toNat * 4 + j)) = some u := hc0
 obtain rfl := k131_open hK
 exact ⟨ad, e, hc 0 _ rfl, by rw [← add_field _ _ 1 (by omega)]; exact hc 1 _ rfl, by rw [← add_field _ _ 2 (by omega)]; exact hc 2 _ rfl, by rw [← add_field _ _ 3 (by omega)]; exact hc 3 _ rfl⟩
structure S79 where
 f0 : Bool
 f1 : Int
 f2 : Int
 f3 : Int
def z79 : S79 := ⟨false, (0 : Int), (0 : Int), (0 : Int)⟩
def k79 : Kd S79 := Kd.iso (Kd.pair Kd.bool (Kd.pair (Kd.int .i64) (Kd.pair (Kd.int .i64) (Kd.int .i64)))) (fun x : S79 => (x.f0, x.f1, x.f2, x.f3))
theorem k79_open {w : World} {x : S79} {cs : List Value} (h : k79.K w x cs) : cs = [.bool x.f0, .int .i64 x.f1, .int .i64 x.f2, .int .i64 x.f3] := by
 obtain ⟨_, _, rfl, rfl, ⟨_, _, rfl, rfl, ⟨_, _, rfl, rfl, rfl⟩⟩⟩ := h
 exact rfl
theorem k79_openM {w : World} {base : Nat} {ok : Nat → Prop} {x : S79} {cs : List Value} (h : k79.M w base ok x cs) : cs = [.bool x.f0, .int .i64 x.f1, .int .i64 x.f2, .int .i64 x.f3] := by
 obtain ⟨_, _, rfl, rfl, ⟨_, _, rfl, rfl, ⟨_, _, rfl, rfl, rfl⟩⟩⟩ := h
 exact rfl
theorem k79_mkM (w : World) (base : Nat) (ok : Nat → Prop) (x : S79)  : k79.M w base ok x [.bool x.f0, .int .i64 x.f1, .int .i64 x.f2, .int .i64 x.f3] := ⟨[.bool x.f0], [.int .i64 x.f1, .int .i64 x.f2, .int .i64 x.f3], rfl, rfl, ⟨[.int .i64 x.f1], [.int .i64 x.f2, .int .i64 x.f3], rfl, rfl, ⟨[.int .i64 x.f2], [.int .i64 x.f3], rfl, rfl, rfl⟩⟩⟩
def zcf (xs : List S79) (i : Int) : S79 := xs.getD i.toNat z79
theorem at_T79 {w : World} {A : Option Addr} {n : Nat} {xs : List S79} (h : Kd.C k79 w A n xs) (i : Int) (h0 : 0 ≤ i) (h1 : i < n) : ∃ ad , A = some ad ∧ w.cell? (ad.add (i.toNat * 4)) = some (.bool (zcf xs i).f0) ∧ w.cell? ⟨(ad.add (i.toNat * 4)).block, (ad.add (i.toNat * 4)).off + 1, none⟩ = some (.int .i64 (zcf xs i).f1) ∧ w.cell? ⟨(ad.add (i.toNat * 4)).block, (ad.add (i.toNat * 4)).off + 2, none⟩ = some (.int .i64 (zcf xs i).f2) ∧ w.cell? ⟨(ad.add (i.toNat * 4)).block, (ad.add (i.toNat * 4)).off + 3, none⟩ = some (.int .i64 (zcf xs i).f3) := by
 obtain ⟨ad, c, e, _, hK, hc0⟩ := Kd.C_get h z79 i h0 h1
 have hc : ∀ j u, c[j]? = some u → w.cell? (ad.add (i.toNat * 4 + j)) = some u := hc0
 obtain rfl := k79_open hK
 exact ⟨ad, e, hc 0 _ rfl, by rw [← add_field _ _ 1 (by omega)]; exact hc 1 _ rfl, by rw [← add_field _ _ 2 (by omega)]; exact hc 2 _ rfl, by rw [← add_field _ _ 3 (by omega)]; exact hc 3 _ rfl⟩
end Go.Proofs.Ytaepgogafkmooaa.LD
