/- Part 5 of the proof of FnUnder: what the program's functions and the reference's compute. -/
import Derived.Test.YtacdgeoleeedpaaProg
import Derived.Below
import Derived.Deep.Draws
import Derived.Deep.AppendLies
import Derived.Maps.AppendAt
import Derived.OwnWalk
import Derived.Laws.BytesArg
import Derived.Laws.MakeOwn
import Derived.Laws.OwnMore
import Derived.Deep.OwnRows
import Derived.Tactics
import Derived.Lib.ConvBytes
import Derived.Laws.Slices
import Derived.WalkKit
import Derived.KernelRfl
import Derived.RowKit3
import Derived.Deep.LoopGhost
import Derived.Deep.QuietTactic
import Derived.BigQuiet
import Derived.WideLaws
import Derived.Deep.DeepCutAuto
import Derived.Deep.CutBlock
import Derived.Deep.RegionHeld3
import Derived.Laws.Rows
import Derived.Lib.AppendStr
import Derived.ArgAppend
import Derived.Laws.IdiomCopy
import Derived.OrdersHeld
import Derived.Laws.BitsLemmas
import Derived.RowKit
import Derived.Test.YtacdgeoleeedpaaCPLUd
namespace Go.Proofs.Ytacdgeoleeedpaa.Hd
open Go.RowKit Go.Proofs.YtacdgeoleeedpaaW.PrintWords Go.Proofs.YtacdgeoleeedpaaW.PrintLast Go.Proofs.YtacdgeoleeedpaaW.PrintMore Go.Proofs.Ytacdgeoleeedpaa.PB
set_option linter.unusedVariables false
set_option linter.unusedSimpArgs false
theorem letterOf_toNat {x : Int} (h0 : 0 ≤ x) (h1 : x ≤ 100) : ((letterOf x).toNat : Int) = 97 + x := by
 unfold letterOf
 rw [UInt8.toNat_ofNat']
 omega
theorem bytesOf_rowText (row : List Int) (h : ∀ x ∈ row, 0 ≤ x ∧ x ≤ 100) : bytesOf (rowText row) = row.map (fun x => 97 + x) := by
 unfold bytesOf rowText rowBytes
 show ((row.map letterOf).toArray.toList).map _ = _
 rw [List.map_map]
 apply List.map_congr_left
 intro x hx
 exact letterOf_toNat (h x hx).1 (h x hx).2
theorem numsOf_textOf (cs : List (List Int)) (h : ∀ r ∈ cs, ∀ x ∈ r, 0 ≤ x ∧ x ≤ 100) : numsOf (textOf cs) = cs.map (fun r => r.map (fun x => 97 + x)) := by
 unfold numsOf textOf
 rw [List.map_map]
 apply List.map_congr_left
 intro r hr
 exact bytesOf_rowText r (h r hr)
theorem canon_val {rows : List (List Int)} (h : shapeOk rows = true) : ∀ r ∈ canon rows, ∀ x ∈ r, 0 ≤ x ∧ x ≤ 100 := by
 have hL := shape_order h
 intro r hr x hx
 unfold canon canonL at hr
 simp at hr
 obtain ⟨a, _, rfl⟩ := hr
 simp at hx
 obtain ⟨y, _, rfl⟩ := hx
 have := List.idxOf_le_length (a := y) (l := ordAll rows)
 omega
structure Canon (p : List ByteArray) : Prop where
 grid : gridOk p = true
 names : namesOf p = p
theorem Canon.shape {p : List ByteArray} (h : Canon p) : shapeOk (numsOf p) = true := by
 have := h.grid
 unfold gridOk at this
 rw [Bool.and_eq_true] at this
 exact this.1
theorem numsOf_length (p : List ByteArray) : (numsOf p).length = p.length := by simp [numsOf]
theorem Canon.cell {p : List ByteArray} (h : Canon p) : ∀ m, m < p.length * wideOf (numsOf p) → cellN (numsOf p) (wideOf (numsOf p)) m = ((ordAll (numsOf p)).idxOf (valAt (numsOf p) (m / wideOf (numsOf p)) (m % wideOf (numsOf p))) : Int) := by
 intro m hm
 have hR := shape_rect h.shape
 have h1 : numsOf p = (canon (numsOf p)).map (fun r => r.map (fun x => 97 + x)) := by
  have := numsOf_textOf (canon (numsOf p)) (canon_val h.shape)
  rw [show textOf (canon (numsOf p)) = p from h.names] at this
  exact this
 have hwi : 0 < wideOf (numsOf p) := by
  rcases Nat.eq_zero_or_pos (wideOf (numsOf p)) with h0 | h0
  ·rw [h0] at hm; simp at hm
  ·exact h0
 have hr : m / wideOf (numsOf p) < (numsOf p).length := by rw [numsOf_length, Nat.div_lt_iff_lt_mul hwi]; exact hm
 have hc := Nat.mod_lt m hwi
 have hcr : Rect (wideOf (numsOf p)) (canon (numsOf p)) := by rw [canon_grid hR]; exact gridOf_rect _ _ _
 have h2 := rect_map hcr (fun x => 97 + x)
 rw [← h1] at h2
 have hcl : (canon (numsOf p)).length = (numsOf p).length := by simp [canon, canonL]
 unfold cellN
 have h3 := congrArg (fun R => valAt R (m / wideOf (numsOf p)) (m % wideOf (numsOf p))) h2
 have h4 := congrArg (fun R => valAt R (m / wideOf (numsOf p)) (m % wideOf (numsOf p))) (canon_grid hR)
 try dsimp only at h3 h4
 rw [valAt_gridOf (by rw [hcl]; exact hr) hc] at h3
 rw [valAt_gridOf hr hc] at h4
 omega
theorem rooms_len {rows : List (List Int)} (h : shapeOk rows = true) : (ordAll rows).length = (roomsOf rows).length := by
 rw [← stAt_all (shape_rect h)]
 exact (stAt_len rows (wideOf rows) _).1
theorem rooms_box {rows : List (List Int)} (h : shapeOk rows = true) (i : Nat) (hi : i < (roomsOf rows).length) : ∃ x, (ordAll rows)[i]? = some x ∧ BoxN rows (wideOf rows) (rows.length * wideOf rows) x ((roomsOf rows).getD i zeroR) ∧ boundR ((roomsOf rows).getD i zeroR) rows.length (wideOf rows) := by
 have hl := rooms_len h
 obtain ⟨x, hx⟩ : ∃ x, (ordAll rows)[i]? = some x := ⟨_, List.getElem?_eq_getElem (by omega)⟩
 have hb : (roomsOf rows)[i]? = some ((roomsOf rows).getD i zeroR) := by
  rw [List.getD_eq_getElem?_getD, List.getElem?_eq_getElem hi]
  rfl
 have hx2 := hx
 rw [← stAt_all (shape_rect h)] at hx2
 exact ⟨x, hx, stAt_box rows (wideOf rows) _ i x _ hx2 hb, (stAt_inv rows rows.length (wideOf rows) _ (Nat.le_refl _)).2.2.2 _ (List.mem_of_getElem? hb)⟩
theorem idx_iff {L : List Int} (hn : L.Nodup) {i : Nat} {x v : Int} (hx : L[i]? = some x) (hv : v ∈ L) : ((L.idxOf v : Int) = (i : Int) ↔ v = x) := by
 have hi := (List.getElem?_eq_some_iff.1 hx).1
 have hk := List.idxOf_lt_length_of_mem hv
 have e : L[L.idxOf v] = v := List.getElem_idxOf hk
 rw [List.getElem?_eq_getElem hi] at hx
 have hx := Option.some.inj hx
 constructor
 ·intro h
  have h : L.idxOf v = i := by omega
  subst h
  rw [← e, hx]
 ·rintro rfl
  have := nodup_inj hn hk hi (e.trans hx.symm)
  omega
theorem ordAll_nodup (rows : List (List Int)) : (ordAll rows).Nodup := ordL_nodup _ _ List.nodup_nil
theorem cell_mem {rows : List (List Int)} (h : shapeOk rows = true) (m : Nat) (hm : m < rows.length * wideOf rows) : valAt rows (m / wideOf rows) (m % wideOf rows) ∈ ordAll rows := by
 have := flatten_get rows (shape_rect h) m hm
 exact ordL_mem _ _ _ (List.mem_of_getElem? this)
theorem mem_cell {rows : List (List Int)} (h : shapeOk rows = true) (x : Int) (hx : x ∈ ordAll rows) : ∃ m, m < rows.length * wideOf rows ∧ valAt rows (m / wideOf rows) (m % wideOf rows) = x := by
 rcases ordL_sub _ _ x hx with h1 | h1
 ·cases h1
 ·obtain ⟨m, hm, e⟩ := List.mem_iff_getElem.1 h1
  have hl := flatten_length_le rows _ (shape_rect h)
  refine ⟨m, by omega, ?_⟩
  have := flatten_get rows (shape_rect h) m (by omega)
  rw [List.getElem?_eq_getElem hm, e] at this
  exact (Option.some.inj this).symm
theorem Canon.max {p : List ByteArray} (h : Canon p) : maxN (numsOf p) (wideOf (numsOf p)) (p.length * wideOf (numsOf p)) = (roomsOf (numsOf p)).length := by
 have hs := h.shape
 have hl := rooms_len hs
 have hc := h.cell
 obtain ⟨s1, s2, s3, s4, s5⟩ := (shapeOk_iff _).1 hs
 rw [numsOf_length] at s1 s2
 have hpos : 0 < p.length * wideOf (numsOf p) := Nat.mul_pos (by omega) (by omega)
 have hub := maxN_ub (numsOf p) (wideOf (numsOf p)) ((roomsOf (numsOf p)).length : Int) (by omega) (p.length * wideOf (numsOf p)) (fun m hm => by
  rw [hc m hm]
  have := List.idxOf_lt_length_of_mem (cell_mem hs m (by rw [numsOf_length]; exact hm))
  omega)
 have h0 := List.idxOf_lt_length_of_mem (cell_mem hs 0 (by rw [numsOf_length]; exact hpos))
 obtain ⟨y, hy⟩ : ∃ y, (ordAll (numsOf p))[(ordAll (numsOf p)).length - 1]? = some y := ⟨_, List.getElem?_eq_getElem (by omega)⟩
 obtain ⟨m, hm, hv⟩ := mem_cell hs y (List.mem_of_getElem? hy)
 rw [numsOf_length] at hm
 have hge := maxN_ge (numsOf p) (wideOf (numsOf p)) _ m hm
 have hi := (idx_iff (ordAll_nodup (numsOf p)) hy (List.mem_of_getElem? hy)).2 rfl
 rw [hc m hm, hv] at hge
 omega
theorem Canon.room {p : List ByteArray} (h : Canon p) (i : Nat) (hi : i < (roomsOf (numsOf p)).length) : let b := (roomsOf (numsOf p)).getD i zeroR
  roomOut (roomN (numsOf p) (wideOf (numsOf p)) (i : Int) (p.length : Int) (wideOf (numsOf p) : Int) (p.length * wideOf (numsOf p))) = (b.f0, b.f1, b.f2, b.f3) ∧ countN (numsOf p) (wideOf (numsOf p)) (i : Int) (p.length * wideOf (numsOf p)) ≤ areaR b ∧ boundR b p.length (wideOf (numsOf p)) := by
 intro b
 have hs := h.shape
 obtain ⟨x, hx, hb, hbd⟩ := rooms_box hs i hi
 rw [numsOf_length] at hb hbd
 have hiff : ∀ m, m < p.length * wideOf (numsOf p) → (cellN (numsOf p) (wideOf (numsOf p)) m = (i : Int) ↔ valAt (numsOf p) (m / wideOf (numsOf p)) (m % wideOf (numsOf p)) = x) := fun m hm => by
  rw [h.cell m hm]
  exact idx_iff (ordAll_nodup _) hx (cell_mem hs m (by rw [numsOf_length]; exact hm))
 refine ⟨room_box hiff hb hbd _ _ (Int.le_refl _) (Int.le_refl _), ?_, hbd⟩
 rw [← countB_all b p.length (wideOf (numsOf p)) hbd]
 exact countN_le_B _ _ _ _ _ (fun m hm hv => hb.ins m hm ((hiff m hm).1 hv))
theorem Canon.sum {p : List ByteArray} (h : Canon p) : sumI (fun x => countN (numsOf p) (wideOf (numsOf p)) (x : Int) (p.length * wideOf (numsOf p))) (roomsOf (numsOf p)).length = ((p.length * wideOf (numsOf p) : Nat) : Int) := by
 refine count_sum _ _ _ _ (fun m hm => ?_)
 rw [h.cell m hm]
 have := List.idxOf_lt_length_of_mem (cell_mem h.shape m (by rw [numsOf_length]; exact hm))
 have := rooms_len h.shape
 omega
theorem sumArea_sumI (rs : List Rc) : sumArea rs = sumI (fun x => areaR (rs.getD x zeroR)) rs.length := by
 have : ∀ n, n ≤ rs.length → sumArea (rs.take n) = sumI (fun x => areaR (rs.getD x zeroR)) n := by
  intro n
  induction n with
  | zero => intro _; simp [sumArea, sumI]
  | succ n ih => intro hn; rw [sum_take rs n (by omega), ih (by omega)]; rfl
 have h := this rs.length (Nat.le_refl _)
 rwa [List.take_length] at h
def fullB (p : List ByteArray) (x : Nat) : Bool := decide (countN (numsOf p) (wideOf (numsOf p)) (x : Int) (p.length * wideOf (numsOf p)) = areaR ((roomsOf (numsOf p)).getD x zeroR))
theorem full_iff {p : List ByteArray} (h : Canon p) : (List.range (roomsOf (numsOf p)).length).all (fullB p) = decide (sumArea (roomsOf (numsOf p)) = (p.length : Int) * (wideOf (numsOf p) : Int)) := by
 rw [Bool.eq_iff_iff, List.all_eq_true, decide_eq_true_eq, sumArea_sumI, ← Int.natCast_mul, ← h.sum]
 constructor
 ·intro hall
  refine (sumI_congr _ (fun x hx => ?_)).symm
  have := hall x (List.mem_range.2 hx)
  unfold fullB at this
  exact of_decide_eq_true this
 ·intro he x hx
  have := sumI_eq _ (fun x hx => (h.room x hx).2.1) he.symm x (List.mem_range.1 hx)
  unfold fullB
  exact decide_eq_true this
theorem planIn_l0 {p : List ByteArray} (h : Canon p) : ∀ m r, r + m = (roomsOf (numsOf p)).length → Evs (fun k => spec_PlanIn.l0 k p (r : Int)) (((List.range (roomsOf (numsOf p)).length).drop r).all (fullB p)) := by
 have hsm := gridOk_small h.grid
 obtain ⟨s1, s2, s3, s4, s5⟩ := (shapeOk_iff _).1 h.shape
 rw [numsOf_length] at s1 s2
 have hR := l1Rooms_ev p _ hsm
 rw [h.max] at hR
 have hrl : (roomsOf (numsOf p)).length ≤ 36 := by have := rooms_len h.shape; have := shape_order h.shape; omega
 intro m
 induction m with
 | zero =>
  intro r hr
  rw [List.drop_eq_nil_of_le (by simp; omega)]
  refine Evs.step (h := fun k => (spec_l1Rooms.f k p).bind fun t => if (r : Int) < t then ((spec_l1Room.f k p (r : Int)).bind fun bt161 => ((spec_l1Cells.f k p (r : Int)).bind fun t165 => (if t165 = (wrap64 (bt161.2.2.1 * bt161.2.2.2)) then (spec_PlanIn.l0 k p (wrap64 ((r : Int) + 1))) else (some false)))) else some true) (fun k => ?_) (Evs.bind hR ?_)
  ·conv => lhs; unfold spec_PlanIn.l0
  ·refine Evs.congr (h := fun _ => some true) (fun k => ?_) (Evs.const _)
   try dsimp only
   rw [if_neg (by omega)]
 | succ m ih =>
  intro r hr
  obtain ⟨q1, q2, q3⟩ := h.room r (by omega)
  have hroom := l1Room_ev p _ hsm s1 (r : Int)
  have hcnt := l1Cells_ev p _ hsm (r : Int)
  rw [q1] at hroom
  have hab := area_bound q3 s2 s4
  have hdrop : (List.range (roomsOf (numsOf p)).length).drop r = r :: (List.range (roomsOf (numsOf p)).length).drop (r + 1) := by
   rw [List.drop_eq_getElem_cons (by simp; omega)]
   simp
  rw [hdrop, List.all_cons]
  refine Evs.step (h := fun k => (spec_l1Rooms.f k p).bind fun t => if (r : Int) < t then ((spec_l1Room.f k p (r : Int)).bind fun bt161 => ((spec_l1Cells.f k p (r : Int)).bind fun t165 => (if t165 = (wrap64 (bt161.2.2.1 * bt161.2.2.2)) then (spec_PlanIn.l0 k p (wrap64 ((r : Int) + 1))) else (some false)))) else some true) (fun k => ?_) (Evs.bind hR ?_)
  ·conv => lhs; unfold spec_PlanIn.l0
  ·refine Evs.congr (h := fun k => ((spec_l1Room.f k p (r : Int)).bind fun bt161 => ((spec_l1Cells.f k p (r : Int)).bind fun t165 => (if t165 = (wrap64 (bt161.2.2.1 * bt161.2.2.2)) then (spec_PlanIn.l0 k p (wrap64 ((r : Int) + 1))) else (some false))))) (fun k => ?_) ?_
   ·try dsimp only
    rw [if_pos (by omega)]
   ·refine Evs.bind hroom (Evs.bind hcnt ?_)
    try dsimp only
    have hw : wrap64 (((roomsOf (numsOf p)).getD r zeroR).f2 * ((roomsOf (numsOf p)).getD r zeroR).f3) = areaR ((roomsOf (numsOf p)).getD r zeroR) := by
     have h3 := hab
     unfold areaR at h3 ⊢
     exact wrap64_small (by omega) (by omega)
    rw [hw]
    have hnx := ih (r + 1) (by omega)
    by_cases hf : countN (numsOf p) (wideOf (numsOf p)) (r : Int) (p.length * wideOf (numsOf p)) = areaR ((roomsOf (numsOf p)).getD r zeroR)
    ·have : fullB p r = true := decide_eq_true hf
     rw [this, Bool.true_and]
     refine Evs.congr (fun k => ?_) hnx
     rw [if_pos hf, wrap_succ (by omega)]
    ·have : fullB p r = false := decide_eq_false hf
     rw [this, Bool.false_and]
     refine Evs.congr (h := fun _ => some false) (fun k => ?_) (Evs.const _)
     rw [if_neg hf]
theorem planIn_j0 (k : Nat) (p : List ByteArray) (b : Bool) : spec_PlanIn.j0 (k + 1) p b = if b = true then some false else spec_PlanIn.l0 k p 0 := by simp only [spec_PlanIn.j0]
def planB (p : List ByteArray) : Bool := (floorF p).isSome
theorem settled_shape {rows : List (List Int)} (h : shapeOk rows = true) : settledF rows = if (roomsOf rows).length ≤ 9 then some (canon rows, roomsOf rows, decide (sumArea (roomsOf rows) = (rows.length : Int) * (wideOf rows : Int))) else none := by
 unfold settledF
 rw [if_pos h, cellsOf_canon h]
theorem floorF_grid {p : List ByteArray} (h : gridOk p = true) : floorF p = if (roomsOf (numsOf p)).length ≤ 9 ∧ sumArea (roomsOf (numsOf p)) = (p.length : Int) * (wideOf (numsOf p) : Int) ∧ namesOf p = p then some (canon (numsOf p), roomsOf (numsOf p)) else none := by
 unfold gridOk at h
 rw [Bool.and_eq_true] at h
 unfold floorF readF
 rw [if_pos h.2, settled_shape h.1, numsOf_length]
 by_cases h9 : (roomsOf (numsOf p)).length ≤ 9
 ·rw [if_pos h9]
  simp only [Option.bind_some, decide_eq_true_eq]
  rw [show textOf (canon (numsOf p)) = namesOf p from rfl]
  by_cases hs : sumArea (roomsOf (numsOf p)) = (p.length : Int) * (wideOf (numsOf p) : Int) ∧ namesOf p = p
  ·rw [if_pos hs, if_pos ⟨h9, hs⟩]
  ·rw [if_neg hs, if_neg (fun hh => hs hh.2)]
 ·rw [if_neg h9, if_neg (fun hh => h9 hh.1)]
  rfl
theorem floorF_nogrid {p : List ByteArray} (h : gridOk p = false) : floorF p = none := by
 unfold floorF readF
 unfold gridOk at h
 by_cases ha : p.all okText = true
 ·rw [ha, Bool.and_true] at h
  rw [if_pos ha]
  unfold settledF
  rw [if_neg (by rw [h]; simp)]
  rfl
 ·rw [if_neg ha]
  rfl
theorem PlanIn_ev (p : List ByteArray) (hp : smallP p) : Evs (fun k => spec_PlanIn.f k p) (planB p) := by
 have hg := l1Grid_ev p hp
 cases hG : gridOk p
 ·rw [hG] at hg
  have : planB p = false := by unfold planB; rw [floorF_nogrid hG]; rfl
  rw [this]
  refine Evs.bind hg ?_
  refine Evs.congr (h := fun k => spec_PlanIn.j0 k p true) (fun k => ?_) (Evs.step (h := fun _ => some false) (fun k => ?_) (Evs.const _))
  ·try dsimp only
   rw [if_neg (by simp)]
  ·rw [planIn_j0]
   rw [if_pos rfl]
 ·rw [hG] at hg
  have hs : shapeOk (numsOf p) = true := by
   unfold gridOk at hG
   rw [Bool.and_eq_true] at hG
   exact hG.1
  have hn := l1Names_ev p hp (by have := shape_order hs; omega)
  have hsame := l1Same_ev (namesOf p) p (by simp [namesOf, textOf, canon, canonL, numsOf]; have := hp.1; omega)
  refine Evs.bind hg ?_
  refine Evs.congr (h := fun k => (spec_l1Names.f k p).bind fun t155 => ((spec_l1Same.f k t155 p).bind fun t158 => (if t158 = true then ((spec_l1Rooms.f k p).bind fun t159 => (spec_PlanIn.j0 k p (decide (t159 > 9)))) else (spec_PlanIn.j0 k p true)))) (fun k => ?_) (Evs.bind hn (Evs.bind hsame ?_))
  ·try dsimp only
   rw [if_pos rfl]
  ·unfold planB
   rw [floorF_grid hG]
   by_cases hN : namesOf p = p
   ·have hC : Canon p := ⟨hG, hN⟩
    have hR := l1Rooms_ev p _ (gridOk_small hG)
    rw [hC.max] at hR
    refine Evs.congr (h := fun k => (spec_l1Rooms.f k p).bind fun t159 => (spec_PlanIn.j0 k p (decide (t159 > 9)))) (fun k => ?_) (Evs.bind hR ?_)
    ·try dsimp only
     rw [decide_eq_true hN, if_pos rfl]
    ·by_cases h9 : (roomsOf (numsOf p)).length ≤ 9
     ·refine Evs.step (h := fun k => spec_PlanIn.l0 k p ((0 : Nat) : Int)) (fun k => ?_) ?_
      ·try dsimp only
       rw [planIn_j0]
       rw [decide_eq_false (by omega), if_neg (by simp)]
       rfl
      ·have := planIn_l0 hC (roomsOf (numsOf p)).length 0 (by omega)
       rw [List.drop_zero, full_iff hC] at this
       by_cases hsum : sumArea (roomsOf (numsOf p)) = (p.length : Int) * (wideOf (numsOf p) : Int)
       ·rw [decide_eq_true hsum] at this
        rw [if_pos ⟨h9, hsum, hN⟩]
        exact this
       ·rw [decide_eq_false hsum] at this
        rw [if_neg (fun hh => hsum hh.2.1)]
        exact this
     ·rw [if_neg (fun hh => h9 hh.1)]
      refine Evs.step (h := fun _ => some false) (fun k => ?_) (Evs.const _)
      try dsimp only
      rw [planIn_j0]
      rw [decide_eq_true (by omega), if_pos rfl]
   ·rw [if_neg (fun hh => hN hh.2.2)]
    refine Evs.congr (h := fun k => spec_PlanIn.j0 k p true) (fun k => ?_) (Evs.step (h := fun _ => some false) (fun k => ?_) (Evs.const _))
    ·try dsimp only
     rw [decide_eq_false hN, if_neg (by simp)]
    ·rw [planIn_j0]
     rw [if_pos rfl]
end Go.Proofs.Ytacdgeoleeedpaa.Hd
namespace Go.Proofs.Ytacdgeoleeedpaa.Hd
open Go.RowKit Go.Proofs.YtacdgeoleeedpaaW.PrintWords Go.Proofs.YtacdgeoleeedpaaW.PrintLast Go.Proofs.YtacdgeoleeedpaaW.PrintMore Go.Proofs.Ytacdgeoleeedpaa.PB
set_option linter.unusedVariables false
set_option linter.unusedSimpArgs false
def mapG (f : Int → Int) (rows : List (List Int)) : List (List Int) := rows.map fun r => r.map f
def InjOn (f : Int → Int) (S : Int → Prop) : Prop := ∀ a b, S a → S b → f a = f b → a = b
theorem idxOf_map (f : Int → Int) (S : Int → Prop) (hf : InjOn f S) (x : Int) (hx : S x) : ∀ L : List Int, (∀ y ∈ L, S y) → (L.map f).idxOf (f x) = L.idxOf x
 | [], _ => rfl
 | y :: r, h => by
  rw [List.map_cons, List.idxOf_cons, List.idxOf_cons]
  by_cases he : y = x
  ·subst he; simp
  ·have : f y ≠ f x := fun e => he (hf y x (h y List.mem_cons_self) hx e)
   have h1 : (f y == f x) = false := by simp [this]
   have h2 : (y == x) = false := by simp [he]
   rw [h1, h2, idxOf_map f S hf x hx r (fun z hz => h z (List.mem_cons_of_mem _ hz))]
theorem pushL_map (f : Int → Int) (S : Int → Prop) (hf : InjOn f S) (x : Int) (hx : S x) (o : List Int) (ho : ∀ y ∈ o, S y) : pushL (o.map f) (f x) = (pushL o x).map f := by
 have hiff : f x ∈ o.map f ↔ x ∈ o := by
  rw [List.mem_map]
  constructor
  ·rintro ⟨y, hy, e⟩
   rw [← hf y x (ho y hy) hx e]
   exact hy
  ·exact fun h => ⟨x, h, rfl⟩
 unfold pushL
 by_cases h : x ∈ o
 ·rw [if_pos h, if_pos (hiff.2 h)]
 ·rw [if_neg h, if_neg (fun hh => h (hiff.1 hh))]
  simp
theorem pushL_all {S : Int → Prop} {x : Int} (hx : S x) {o : List Int} (ho : ∀ y ∈ o, S y) : ∀ y ∈ pushL o x, S y := by
 intro y hy
 unfold pushL at hy
 split at hy
 ·exact ho y hy
 ·rcases List.mem_append.1 hy with h | h
  ·exact ho y h
  ·simp at h; subst h; exact hx
theorem ordL_map (f : Int → Int) (S : Int → Prop) (hf : InjOn f S) : ∀ (xs o : List Int), (∀ y ∈ xs, S y) → (∀ y ∈ o, S y) → ordL (xs.map f) (o.map f) = (ordL xs o).map f
 | [], o, _, _ => rfl
 | x :: r, o, h, ho => by
  show ordL (r.map f) (pushL (o.map f) (f x)) = (ordL r (pushL o x)).map f
  have hx := h x List.mem_cons_self
  rw [pushL_map f S hf x hx o ho]
  exact ordL_map f S hf r (pushL o x) (fun z hz => h z (List.mem_cons_of_mem _ hz)) (pushL_all hx ho)
theorem mapG_length (f : Int → Int) (rows : List (List Int)) : (mapG f rows).length = rows.length := by simp [mapG]
theorem mapG_flatten (f : Int → Int) (rows : List (List Int)) : (mapG f rows).flatten = rows.flatten.map f := by
 unfold mapG
 rw [List.map_flatten]
theorem mapG_wide (f : Int → Int) (rows : List (List Int)) : wideOf (mapG f rows) = wideOf rows := by
 unfold wideOf mapG
 cases rows with
 | nil => rfl
 | cons a r => simp
theorem mapG_shape (f : Int → Int) (rows : List (List Int)) : shapeOk (mapG f rows) = shapeOk rows := by
 rw [Bool.eq_iff_iff, shapeOk_iff, shapeOk_iff, mapG_length, mapG_wide]
 have : (∀ r ∈ mapG f rows, r.length = wideOf rows) ↔ (∀ r ∈ rows, r.length = wideOf rows) := by
  constructor
  ·intro h r hr
   have := h (r.map f) (List.mem_map.2 ⟨r, hr, rfl⟩)
   simpa using this
  ·intro h r hr
   obtain ⟨a, ha, rfl⟩ := List.mem_map.1 hr
   rw [List.length_map]
   exact h a ha
 rw [this]
def Vals (rows : List (List Int)) (x : Int) : Prop := x ∈ rows.flatten
theorem ordAll_map {f : Int → Int} {rows : List (List Int)} (hf : InjOn f (Vals rows)) : ordAll (mapG f rows) = (ordAll rows).map f := by
 unfold ordAll
 rw [mapG_flatten]
 exact ordL_map f (Vals rows) hf rows.flatten [] (fun y hy => hy) (by simp)
theorem ordAll_vals (rows : List (List Int)) : ∀ y ∈ ordAll rows, Vals rows y := by
 intro y hy
 rcases ordL_sub _ _ y hy with h | h
 ·cases h
 ·exact h
theorem canon_map {f : Int → Int} {rows : List (List Int)} (hf : InjOn f (Vals rows)) : canon (mapG f rows) = canon rows := by
 unfold canon canonL
 rw [ordAll_map hf]
 unfold mapG
 rw [List.map_map]
 apply List.map_congr_left
 intro r hr
 show (r.map f).map _ = _
 rw [List.map_map]
 apply List.map_congr_left
 intro x hx
 show (((ordAll rows).map f).idxOf (f x) : Int) = _
 rw [idxOf_map f (Vals rows) hf x (List.mem_flatten.2 ⟨r, hr, hx⟩) _ (ordAll_vals rows)]
theorem valAt_map {rows : List (List Int)} {wi r c : Nat} (h : Rect wi rows) (f : Int → Int) (hr : r < rows.length) (hc : c < wi) : valAt (mapG f rows) r c = f (valAt rows r c) := by
 have := congrArg (fun R => valAt R r c) (rect_map h f)
 unfold mapG
 rw [show valAt (rows.map fun r => r.map f) r c = valAt (gridOf rows.length wi fun r c => f (valAt rows r c)) r c from this, valAt_gridOf hr hc]
theorem val_mem {rows : List (List Int)} {wi r c : Nat} (h : Rect wi rows) (hr : r < rows.length) (hc : c < wi) : Vals rows (valAt rows r c) := by
 obtain ⟨row, h1, h2⟩ := valAt_get h hr hc
 exact List.mem_flatten.2 ⟨row, List.mem_of_getElem? h1, List.mem_of_getElem? h2⟩
theorem stAt_map {f : Int → Int} {rows : List (List Int)} {wi : Nat} (h : Rect wi rows) (hf : InjOn f (Vals rows)) : ∀ n, n ≤ rows.length * wi → stAt (mapG f rows) wi n = ((stAt rows wi n).1.map f, (stAt rows wi n).2)
 | 0, _ => rfl
 | n + 1, hn => by
  have hwi : 0 < wi := by
   rcases Nat.eq_zero_or_pos wi with h0 | h0
   ·subst h0; simp at hn
   ·exact h0
  have hr : n / wi < rows.length := by rw [Nat.div_lt_iff_lt_mul hwi]; omega
  have hc := Nat.mod_lt n hwi
  have hvals : ∀ y ∈ (stAt rows wi n).1, Vals rows y := by
   rw [stAt_ord h n (by omega)]
   intro y hy
   rcases ordL_sub _ _ y hy with h1 | h1
   ·cases h1
   ·exact List.mem_of_mem_take h1
  have hv := val_mem h hr hc
  simp only [stAt]
  rw [stAt_map h hf n (by omega), valAt_map h f hr hc]
  have hiff : f (valAt rows (n / wi) (n % wi)) ∈ (stAt rows wi n).1.map f ↔ valAt rows (n / wi) (n % wi) ∈ (stAt rows wi n).1 := by
   rw [List.mem_map]
   constructor
   ·rintro ⟨y, hy, e⟩
    rw [← hf y _ (hvals y hy) hv e]
    exact hy
   ·exact fun h => ⟨_, h, rfl⟩
  unfold stepS
  by_cases hm : valAt rows (n / wi) (n % wi) ∈ (stAt rows wi n).1
  ·rw [if_pos hm, if_pos (hiff.2 hm)]
   simp only
   rw [idxOf_map f (Vals rows) hf _ hv _ hvals]
  ·rw [if_neg hm, if_neg (fun hh => hm (hiff.1 hh))]
   simp
theorem rooms_map {f : Int → Int} {rows : List (List Int)} (hs : shapeOk rows = true) (hf : InjOn f (Vals rows)) : roomsOf (mapG f rows) = roomsOf rows := by
 unfold roomsOf
 rw [mapG_length, mapG_wide, stAt_map (shape_rect hs) hf _ (Nat.le_refl _)]
theorem settled_map {f : Int → Int} {rows : List (List Int)} (hf : InjOn f (Vals rows)) : settledF (mapG f rows) = settledF rows := by
 by_cases hs : shapeOk rows = true
 ·rw [settled_shape hs, settled_shape (by rw [mapG_shape]; exact hs), rooms_map hs hf, canon_map hf, mapG_length, mapG_wide]
 ·unfold settledF
  rw [if_neg hs, if_neg (by rw [mapG_shape]; exact hs)]
theorem plan_map {f : Int → Int} {rows : List (List Int)} (hf : InjOn f (Vals rows)) : planF (mapG f rows) = planF rows := by
 unfold planF
 rw [settled_map hf]
def doneF (t : List ByteArray) : List ByteArray × Bool := if t.all okText = true then planF (numsOf t) else ([], false)
theorem planF_shape {rows : List (List Int)} (h : shapeOk rows = true) : planF rows = if (roomsOf rows).length ≤ 9 ∧ sumArea (roomsOf rows) = (rows.length : Int) * (wideOf rows : Int) then (textOf (canon rows), true) else ([], false) := by
 unfold planF
 rw [settled_shape h]
 by_cases h9 : (roomsOf rows).length ≤ 9
 ·rw [if_pos h9]
  by_cases hs : sumArea (roomsOf rows) = (rows.length : Int) * (wideOf rows : Int)
  ·rw [decide_eq_true hs, if_pos ⟨h9, hs⟩]
  ·rw [decide_eq_false hs, if_neg (fun hh => hs hh.2)]
 ·rw [if_neg h9, if_neg (fun hh => h9 hh.1)]
theorem planF_noshape {rows : List (List Int)} (h : shapeOk rows = false) : planF rows = ([], false) := by
 unfold planF settledF
 rw [if_neg (by rw [h]; simp)]
theorem names_nums {rows : List (List Int)} (h : shapeOk rows = true) : numsOf (textOf (canon rows)) = mapG (fun x => 97 + ((ordAll rows).idxOf x : Int)) rows := by
 rw [numsOf_textOf _ (canon_val h)]
 unfold canon canonL mapG
 rw [List.map_map]
 apply List.map_congr_left
 intro r hr
 show (r.map _).map _ = _
 rw [List.map_map]
 rfl
theorem names_inj (rows : List (List Int)) : InjOn (fun x => 97 + ((ordAll rows).idxOf x : Int)) (Vals rows) := by
 intro a b ha hb e
 have e2 : (ordAll rows).idxOf a = (ordAll rows).idxOf b := by
  have : (97 : Int) + ((ordAll rows).idxOf a : Int) = 97 + ((ordAll rows).idxOf b : Int) := e
  omega
 have h1 := List.idxOf_lt_length_of_mem (ordL_mem rows.flatten [] a ha)
 have h2 := List.idxOf_lt_length_of_mem (ordL_mem rows.flatten [] b hb)
 have e3 : (ordAll rows)[(ordAll rows).idxOf a]'h1 = a := List.getElem_idxOf h1
 have e4 : (ordAll rows)[(ordAll rows).idxOf b]'h2 = b := List.getElem_idxOf h2
 rw [← e3, ← e4]
 congr 1
theorem names_plan {rows : List (List Int)} (h : shapeOk rows = true) : planB (textOf (canon rows)) = decide ((roomsOf rows).length ≤ 9 ∧ sumArea (roomsOf rows) = (rows.length : Int) * (wideOf rows : Int)) := by
 have hn := names_nums h
 have hinj := names_inj rows
 have hl : (textOf (canon rows)).length = rows.length := by simp [textOf, canon, canonL]
 have hnm : namesOf (textOf (canon rows)) = textOf (canon rows) := by
  unfold namesOf
  rw [hn, canon_map hinj]
 unfold planB
 cases hG : gridOk (textOf (canon rows))
 ·rw [floorF_nogrid hG]
  have : ¬ (roomsOf rows).length ≤ 9 := by
   intro h9
   have hL := rooms_len h
   have ht : gridOk (textOf (canon rows)) = true := by
    unfold gridOk
    rw [Bool.and_eq_true, hn, mapG_shape]
    refine ⟨h, ?_⟩
    rw [List.all_eq_true]
    intro s hs
    obtain ⟨r, hr, rfl⟩ := List.mem_map.1 hs
    unfold okText
    rw [bytesOf_rowText r (canon_val h r hr), List.all_eq_true]
    intro x hx
    obtain ⟨y, hy, rfl⟩ := List.mem_map.1 hx
    unfold canon canonL at hr
    obtain ⟨r0, hr0, rfl⟩ := List.mem_map.1 hr
    obtain ⟨z, hz, rfl⟩ := List.mem_map.1 hy
    have := List.idxOf_lt_length_of_mem (ordL_mem rows.flatten [] z (List.mem_flatten.2 ⟨r0, hr0, hz⟩))
    have h3 : (ordAll rows).idxOf z < (ordAll rows).length := this
    simp only [okLetter, Bool.not_eq_true', Bool.or_eq_false_iff, decide_eq_false_iff_not]
    omega
   rw [hG] at ht
   cases ht
  rw [decide_eq_false (fun hh => this hh.1)]
  rfl
 ·rw [floorF_grid hG, hn, rooms_map h hinj, mapG_wide, hl]
  by_cases hc : (roomsOf rows).length ≤ 9 ∧ sumArea (roomsOf rows) = (rows.length : Int) * (wideOf rows : Int)
  ·rw [if_pos ⟨hc.1, hc.2, hnm⟩, decide_eq_true hc]
   rfl
  ·rw [if_neg (fun hh => hc ⟨hh.1, hh.2.1⟩), decide_eq_false hc]
   rfl
theorem l1Done_j0 (k : Nat) (p : List ByteArray) (b : Bool) : spec_l1Done.j0 (k + 1) p b = if b = true then ((spec_l1None.f).bind fun bt177 => (some (bt177.1, bt177.2))) else ((spec_l1Names.f k p).bind fun t181 => (some (t181, true))) := by simp only [spec_l1Done.j0]
theorem l1None_f : spec_l1None.f = some ([], false) := rfl
theorem small_names {p : List ByteArray} (hp : smallP p) : smallP (namesOf p) := by
 have hl : (namesOf p).length = p.length := by simp [namesOf, textOf, canon, canonL, numsOf]
 refine ⟨by rw [hl]; exact hp.1, fun s hs => ?_⟩
 unfold namesOf textOf canon canonL numsOf at hs
 rw [List.map_map, List.map_map] at hs
 obtain ⟨s0, h0, rfl⟩ := List.mem_map.1 hs
 have := hp.2 s0 h0
 have hb := bytesOf_length s0
 show (rowText _).size ≤ _
 unfold rowText rowBytes
 show ((List.map letterOf (List.map _ (bytesOf s0))).toArray).size ≤ _
 simp
 omega
theorem l1Done_ev (t : List ByteArray) (hp : smallP t) : Evs (fun k => spec_l1Done.f k t) (doneF t) := by
 have hg := l1Grid_ev t hp
 cases hG : gridOk t
 ·rw [hG] at hg
  have hd : doneF t = ([], false) := by
   unfold doneF
   unfold gridOk at hG
   by_cases ha : t.all okText = true
   ·rw [ha, Bool.and_true] at hG
    rw [if_pos ha, planF_noshape hG]
   ·rw [if_neg ha]
  rw [hd]
  refine Evs.bind hg ?_
  refine Evs.congr (h := fun k => spec_l1Done.j0 k t true) (fun k => ?_) (Evs.step (h := fun _ => some ([], false)) (fun k => ?_) (Evs.const _))
  ·rw [if_neg (by simp)]
  ·rw [l1Done_j0, if_pos rfl, l1None_f]
   rfl
 ·rw [hG] at hg
  have hG2 := hG
  unfold gridOk at hG2
  rw [Bool.and_eq_true] at hG2
  have hs := hG2.1
  have hd : doneF t = if (roomsOf (numsOf t)).length ≤ 9 ∧ sumArea (roomsOf (numsOf t)) = ((numsOf t).length : Int) * (wideOf (numsOf t) : Int) then (namesOf t, true) else ([], false) := by
   unfold doneF
   rw [if_pos hG2.2, planF_shape hs]
   rfl
  have hn := l1Names_ev t hp (by have := shape_order hs; omega)
  have hpl := PlanIn_ev (namesOf t) (small_names hp)
  rw [show planB (namesOf t) = _ from names_plan hs] at hpl
  rw [hd]
  refine Evs.bind hg ?_
  refine Evs.congr (h := fun k => (spec_l1Names.f k t).bind fun t173 => ((spec_PlanIn.f k t173).bind fun t176 => (spec_l1Done.j0 k t (!t176)))) (fun k => ?_) (Evs.bind hn (Evs.bind hpl ?_))
  ·rw [if_pos rfl]
  ·by_cases hc : (roomsOf (numsOf t)).length ≤ 9 ∧ sumArea (roomsOf (numsOf t)) = ((numsOf t).length : Int) * (wideOf (numsOf t) : Int)
   ·rw [if_pos hc, decide_eq_true hc]
    refine Evs.step (h := fun k => (spec_l1Names.f k t).bind fun t181 => (some (t181, true))) (fun k => ?_) (Evs.bind hn (Evs.const _))
    rw [l1Done_j0, if_neg (by simp)]
   ·rw [if_neg hc, decide_eq_false hc]
    refine Evs.step (h := fun _ => some ([], false)) (fun k => ?_) (Evs.const _)
    rw [l1Done_j0, if_pos (by simp), l1None_f]
    rfl
end Go.Proofs.Ytacdgeoleeedpaa.Hd
namespace Go.Proofs.Ytacdgeoleeedpaa.Hd
open Go.RowKit Go.Proofs.YtacdgeoleeedpaaW.PrintWords Go.Proofs.YtacdgeoleeedpaaW.PrintLast Go.Proofs.YtacdgeoleeedpaaW.PrintMore Go.Proofs.Ytacdgeoleeedpaa.PB
set_option linter.unusedVariables false
set_option linter.unusedSimpArgs false
section
variable {α : Type} {g h : Nat → Option α} {r : α} {c : Prop} [Decidable c]
theorem Evs.pos (hc : c) (hg : Evs g r) : Evs (fun k => if c then g k else h k) r := Evs.congr (fun k => if_pos hc) hg
theorem Evs.neg (hc : ¬ c) (hh : Evs h r) : Evs (fun k => if c then g k else h k) r := Evs.congr (fun k => if_neg hc) hh
end
end Go.Proofs.Ytacdgeoleeedpaa.Hd
namespace Go.Proofs.Ytacdgeoleeedpaa.Hd
open Go.RowKit Go.Proofs.YtacdgeoleeedpaaW.PrintWords Go.Proofs.YtacdgeoleeedpaaW.PrintLast Go.Proofs.YtacdgeoleeedpaaW.PrintMore Go.Proofs.Ytacdgeoleeedpaa.PB
set_option linter.unusedVariables false
set_option linter.unusedSimpArgs false
def impl_PlanUnder.f (l0 l1 : List ByteArray) : Option (List ByteArray × Bool) := if smallB l0 = true ∧ smallB l1 = true then some (underF l0 l1) else none
theorem impl_PlanUnder.calls (A0 : Option Addr) (c0 : Nat) (l0 : List ByteArray) (A1 : Option Addr) (c1 : Nat) (l1 : List ByteArray) (r1 : List ByteArray) (r2 : Bool) (w : World) (hr0 : Kd.C Kd.string w A0 l0.length l0) (hc0 : l0.length ≤ c0) (hr1 : Kd.C Kd.string w A1 l1.length l1) (hc1 : l1.length ≤ c1) (h : impl_PlanUnder.f l0 l1 = some (r1, r2)) :
  Calls Try.prog 50 #[.slice A0 l0.length c0, .slice A1 l1.length c1] w fun e w' => ∃ v0_ : Value, e = .returned (.tuple #[v0_, .bool r2]) ∧ Kd.R Kd.string 9 w' w.heap.size (fun _ => True) v0_ r1 ∧ Below w.heap.size w w' := by
 unfold impl_PlanUnder.f at h
 split at h
 ·rename_i hs
  have e := Option.some.inj h
  have := PlanUnder_calls A0 c0 l0 A1 c1 l1 w hr0 hc0 ((smallB_iff _).1 hs.1) hr1 hc1 ((smallB_iff _).1 hs.2)
  rw [e] at this
  exact this
 ·cases h
end Go.Proofs.Ytacdgeoleeedpaa.Hd
namespace Go.Proofs.Ytacdgeoleeedpaa.Hd
open Go.RowKit Go.Proofs.YtacdgeoleeedpaaW.PrintWords Go.Proofs.YtacdgeoleeedpaaW.PrintLast Go.Proofs.YtacdgeoleeedpaaW.PrintMore Go.Proofs.Ytacdgeoleeedpaa.PB
set_option linter.unusedVariables false
set_option linter.unusedSimpArgs false
structure PlanFacts (p : List ByteArray) (cs : List (List Int)) (rs : List Rc) : Prop where
 canon : Canon p
 cells : cs = Hd.canon (numsOf p)
 rooms : rs = roomsOf (numsOf p)
 nums : numsOf p = mapG (fun x => 97 + x) cs
 ok : FloorOk cs rs
 len : p.length = cs.length
 wide : wideOf (numsOf p) = wideOf cs
 text : p = textOf cs
theorem floor_facts {p : List ByteArray} {cs : List (List Int)} {rs : List Rc} (h : floorF p = some (cs, rs)) : PlanFacts p cs rs := by
 have hok := floorF_ok h
 cases hG : gridOk p with
 | false => rw [floorF_nogrid hG] at h; cases h
 | true =>
  rw [floorF_grid hG] at h
  split at h
  ·rename_i hc
   injection h with h
   injection h with e1 e2
   have hC : Canon p := ⟨hG, hc.2.2⟩
   have hn : numsOf p = mapG (fun x => 97 + x) cs := by
    have := numsOf_textOf (canon (numsOf p)) (canon_val hC.shape)
    rw [show textOf (canon (numsOf p)) = p from hC.names, e1] at this
    exact this
   refine ⟨hC, e1.symm, e2.symm, hn, hok, ?_, ?_, ?_⟩
   ·rw [← numsOf_length, hn, mapG_length]
   ·rw [hn, mapG_wide]
   ·rw [← e1]; exact hC.names.symm
  ·cases h
theorem bytesOf_strOfNums (xs : List Int) (h : ∀ x ∈ xs, 0 ≤ x ∧ x ≤ 255) : bytesOf (strOfNums xs) = xs := by
 unfold bytesOf strOfNums
 show ((xs.map fun n => UInt8.ofNat n.toNat).toArray.toList).map _ = _
 rw [List.map_map]
 conv => rhs; rw [← List.map_id xs]
 apply List.map_congr_left
 intro x hx
 have := h x hx
 show ((UInt8.ofNat x.toNat).toNat : Int) = x
 rw [UInt8.toNat_ofNat']
 omega
def laterOf (p : List ByteArray) : List ByteArray := p.map fun s => strOfNums ((bytesOf s).map fun x => x + 9)
theorem later_l1 (p : List ByteArray) (i : Nat) (s : ByteArray) (hi : p[i]? = some s) (hib : i ≤ 1048576) (hs : s.size ≤ 1048576) (hb : ∀ x ∈ bytesOf s, x ≤ 200) (x5 : List ByteArray) (h5 : x5.length ≤ 1048576) (r : List ByteArray) (hnext : Evs (fun k => spec_l1Later.l0 k p 9 (x5 ++ [strOfNums ((bytesOf s).map fun x => x + 9)]) ((i + 1 : Nat) : Int)) r) :
  ∀ m j, j + m = s.size → Evs (fun k => spec_l1Later.l1 k p 9 x5 (i : Int) (((bytesOf s).take j).map fun x => x + 9) (j : Int)) r := by
 have hil := (List.getElem?_eq_some_iff.1 hi).1
 have hlen := bytesOf_length s
 intro m
 induction m with
 | zero =>
  intro j hj
  refine Evs.step (h := fun k => spec_l1Later.l0 k p 9 (x5 ++ [strOfNums ((bytesOf s).map fun x => x + 9)]) ((i + 1 : Nat) : Int)) (fun k => ?_) hnext
  conv => lhs; unfold spec_l1Later.l1
  rw [if_pos (by omega), if_pos (by omega), rdOf_at hi, if_neg (by omega), if_pos (by omega), wrap_succ hib, List.take_of_length_le (by omega)]
 | succ m ih =>
  intro j hj
  obtain ⟨v, hv⟩ : ∃ v, (bytesOf s)[j]? = some v := ⟨_, List.getElem?_eq_getElem (by omega)⟩
  have hr := bytesOf_range s v (List.mem_of_getElem? hv)
  have hr2 := hb v (List.mem_of_getElem? hv)
  have htake : ((bytesOf s).take (j + 1)).map (fun x => x + 9) = ((bytesOf s).take j).map (fun x => x + 9) ++ [v + 9] := by rw [List.take_add_one, hv, List.map_append]; rfl
  refine Evs.step (h := fun k => spec_l1Later.l1 k p 9 x5 (i : Int) (((bytesOf s).take (j + 1)).map fun x => x + 9) ((j + 1 : Nat) : Int)) (fun k => ?_) (ih (j + 1) (by omega))
  conv => lhs; unfold spec_l1Later.l1
  rw [if_pos (by omega), if_pos (by omega), rdOf_at hi, if_pos (by omega), if_pos (by omega), if_pos (by simp; omega), bt_get hv, wrap64_small (x := v) (by omega) (by omega), wrap64_small (x := v + 9) (by omega) (by omega), show (v + 9) % 256 = v + 9 by omega, wrap_succ (by omega), htake]
theorem later_l0 (p : List ByteArray) (hp : smallP p) (hb : ∀ s ∈ p, ∀ x ∈ bytesOf s, x ≤ 200) : ∀ m i, i + m = p.length → Evs (fun k => spec_l1Later.l0 k p 9 ((p.take i).map fun s => strOfNums ((bytesOf s).map fun x => x + 9)) (i : Int)) (laterOf p) := by
 have hpl := hp.1
 intro m
 induction m with
 | zero =>
  intro i hi
  refine Evs.step (h := fun _ => some (laterOf p)) (fun k => ?_) (Evs.const _)
  conv => lhs; unfold spec_l1Later.l0
  rw [if_neg (by omega), List.take_of_length_le (by omega)]
  rfl
 | succ m ih =>
  intro i hi
  obtain ⟨s, hs⟩ : ∃ s, p[i]? = some s := ⟨_, List.getElem?_eq_getElem (by omega)⟩
  have hm := List.mem_of_getElem? hs
  have hnx := ih (i + 1) (by omega)
  rw [List.take_add_one, hs, List.map_append] at hnx
  refine Evs.step (h := fun k => spec_l1Later.l1 k p 9 ((p.take i).map fun s => strOfNums ((bytesOf s).map fun x => x + 9)) (i : Int) (((bytesOf s).take 0).map fun x => x + 9) ((0 : Nat) : Int)) (fun k => ?_) (later_l1 p i s hs (by omega) (hp.2 s hm) (hb s hm) _ (by simp; omega) _ hnx s.size 0 (by omega))
  conv => lhs; unfold spec_l1Later.l0
  rw [if_pos (by omega)]
  rfl
theorem l1Later_ev (p : List ByteArray) (hp : smallP p) (hb : ∀ s ∈ p, ∀ x ∈ bytesOf s, x ≤ 200) : Evs (fun k => spec_l1Later.f k p 9) (laterOf p) := by
 have := later_l0 p hp hb p.length 0 (by omega)
 refine Evs.congr (fun k => ?_) this
 unfold spec_l1Later.f
 simp
theorem numsOf_later (p : List ByteArray) (hb : ∀ s ∈ p, ∀ x ∈ bytesOf s, x ≤ 200) : numsOf (laterOf p) = mapG (fun x => x + 9) (numsOf p) := by
 unfold numsOf laterOf mapG
 rw [List.map_map, List.map_map]
 apply List.map_congr_left
 intro s hs
 show bytesOf (strOfNums _) = _
 rw [bytesOf_strOfNums]
 ·rfl
 ·intro x hx
  obtain ⟨y, hy, rfl⟩ := List.mem_map.1 hx
  have := bytesOf_range s y hy
  have := hb s hs y hy
  omega
theorem numsOf_append (p q : List ByteArray) : numsOf (p ++ q) = numsOf p ++ numsOf q := by simp [numsOf]
theorem mapG_append (f : Int → Int) (a b : List (List Int)) : mapG f (a ++ b) = mapG f a ++ mapG f b := by simp [mapG]
theorem mapG_mapG (f g : Int → Int) (a : List (List Int)) : mapG f (mapG g a) = mapG (fun x => f (g x)) a := by
 unfold mapG
 rw [List.map_map]
 apply List.map_congr_left
 intro r hr
 show (r.map g).map f = _
 rw [List.map_map]
 rfl
theorem mapG_congr {f g : Int → Int} {a : List (List Int)} (h : ∀ r ∈ a, ∀ x ∈ r, f x = g x) : mapG f a = mapG g a := by
 unfold mapG
 apply List.map_congr_left
 intro r hr
 apply List.map_congr_left
 intro x hx
 exact h r hr x hx
theorem FloorOk.rect {cs : List (List Int)} {rs : List Rc} (h : FloorOk cs rs) : Rect (wideOf cs) cs := h.cells.row
theorem rect_append {wi : Nat} {a b : List (List Int)} (ha : Rect wi a) (hb : Rect wi b) : Rect wi (a ++ b) := by
 intro r hr
 rcases List.mem_append.1 hr with h | h
 ·exact ha r h
 ·exact hb r h
theorem rect_mapG {wi : Nat} {a : List (List Int)} (f : Int → Int) (ha : Rect wi a) : Rect wi (mapG f a) := by
 intro r hr
 obtain ⟨x, hx, rfl⟩ := List.mem_map.1 hr
 rw [List.length_map]
 exact ha x hx
theorem valAt_append_left {a b : List (List Int)} {r c : Nat} (h : r < a.length) : valAt (a ++ b) r c = valAt a r c := by
 unfold valAt
 rw [List.getD_eq_getElem?_getD (l := a ++ b), List.getElem?_append_left h, ← List.getD_eq_getElem?_getD]
theorem valAt_append_right {a b : List (List Int)} {r c : Nat} (h : a.length ≤ r) : valAt (a ++ b) r c = valAt b (r - a.length) c := by
 unfold valAt
 rw [List.getD_eq_getElem?_getD (l := a ++ b), List.getElem?_append_right h, ← List.getD_eq_getElem?_getD]
theorem plan_bytes {p : List ByteArray} {cs : List (List Int)} {rs : List Rc} (h : PlanFacts p cs rs) : ∀ s ∈ p, ∀ x ∈ bytesOf s, 97 ≤ x ∧ x ≤ 105 := by
 intro s hs x hx
 have hm : bytesOf s ∈ numsOf p := List.mem_map.2 ⟨s, hs, rfl⟩
 rw [h.nums] at hm
 obtain ⟨r, hr, e⟩ := List.mem_map.1 hm
 rw [← e] at hx
 obtain ⟨y, hy, rfl⟩ := List.mem_map.1 hx
 have := h.ok.cells.val r hr y hy
 have := h.ok.many
 omega
theorem renamed (n1 : Nat) (h9 : n1 ≤ 9) (S : Int → Prop) : InjOn (fun x => if x < (n1 : Int) then 97 + x else 106 + (x - n1)) S := by
 intro a b _ _ e
 dsimp only at e
 split at e <;> split at e <;> omega
theorem okText_of {s : ByteArray} (h : ∀ x ∈ bytesOf s, 97 ≤ x ∧ x ≤ 122) : okText s = true := by
 unfold okText
 rw [List.all_eq_true]
 intro x hx
 have := h x hx
 simp only [okLetter, Bool.not_eq_true', Bool.or_eq_false_iff, decide_eq_false_iff_not]
 omega
theorem later_bytes {p : List ByteArray} {cs : List (List Int)} {rs : List Rc} (h : PlanFacts p cs rs) : ∀ s ∈ laterOf p, ∀ x ∈ bytesOf s, 106 ≤ x ∧ x ≤ 114 := by
 intro s hs x hx
 obtain ⟨s0, h0, rfl⟩ := List.mem_map.1 hs
 have hb := plan_bytes h s0 h0
 rw [bytesOf_strOfNums] at hx
 ·obtain ⟨y, hy, rfl⟩ := List.mem_map.1 hx
  have := hb y hy
  omega
 ·intro z hz
  obtain ⟨y, hy, rfl⟩ := List.mem_map.1 hz
  have := hb y hy
  omega
theorem small_later {p : List ByteArray} (hp : smallP p) : smallP (laterOf p) := by
 refine ⟨by simp [laterOf]; exact hp.1, fun s hs => ?_⟩
 obtain ⟨s0, h0, rfl⟩ := List.mem_map.1 hs
 have := hp.2 s0 h0
 have hl := bytesOf_length s0
 show (List.map _ (List.map _ (bytesOf s0))).toArray.size ≤ _
 simp
 omega
theorem planB_cases (p : List ByteArray) : (planB p = false ∧ floorF p = none) ∨ (planB p = true ∧ ∃ cs rs, floorF p = some (cs, rs)) := by
 unfold planB
 cases h : floorF p with
 | none => exact .inl ⟨rfl, rfl⟩
 | some t => exact .inr ⟨rfl, t.1, t.2, rfl⟩
end Go.Proofs.Ytacdgeoleeedpaa.Hd
namespace Go.Proofs.Ytacdgeoleeedpaa.Hd
open Go.RowKit Go.Proofs.YtacdgeoleeedpaaW.PrintWords Go.Proofs.YtacdgeoleeedpaaW.PrintLast Go.Proofs.YtacdgeoleeedpaaW.PrintMore Go.Proofs.Ytacdgeoleeedpaa.PB
set_option linter.unusedVariables false
set_option linter.unusedSimpArgs false
def givenB (p : List ByteArray) (a : Int) : Bool := match floorF p with
 | none => false
 | some (_, rs) => hasB rs a
theorem l1Given_ev (p : List ByteArray) (a : Int) (hp : smallP p) : Evs (fun k => spec_l1Given.f k p a) (givenB p a) := by
 have h1 := PlanIn_ev p hp
 rcases planB_cases p with ⟨e1, f1⟩ | ⟨e1, cs, rs, f1⟩
 ·rw [e1] at h1
  have : givenB p a = false := by unfold givenB; rw [f1]
  rw [this]
  refine Evs.bind h1 ?_
  refine Evs.congr (h := fun _ => some false) (fun k => ?_) (Evs.const _)
  rw [if_neg (by simp)]
 ·rw [e1] at h1
  have F := floor_facts f1
  have hg : givenB p a = hasB rs a := by unfold givenB; rw [f1]
  have hR := l1Rooms_ev p _ (gridOk_small F.canon.grid)
  rw [F.canon.max, ← F.rooms] at hR
  have h9 := F.ok.many
  rw [hg]
  refine Evs.bind h1 ?_
  refine Evs.congr (h := fun k => (spec_l1Rooms.f k p).bind fun t167 => ((spec_l6In.f a 0 (wrap64 (t167 - 1))).bind fun t168 => (some t168))) (fun k => ?_) (Evs.bind hR ?_)
  ·rw [if_pos rfl]
  ·refine Evs.congr (h := fun _ => some (hasB rs a)) (fun k => ?_) (Evs.const _)
   rw [wrap64_small (by omega) (by omega), l6In_f]
   simp only [Option.bind_some]
   unfold hasB
   congr 2
   congr 1
   exact propext ⟨fun h => by omega, fun h => by omega⟩
theorem floor_sum {p : List ByteArray} {cs : List (List Int)} {rs : List Rc} (h : floorF p = some (cs, rs)) : sumArea rs = (p.length : Int) * (wideOf (numsOf p) : Int) := by
 have F := floor_facts h
 rw [floorF_grid F.canon.grid] at h
 split at h
 ·rename_i hc
  rw [F.rooms]
  exact hc.2.1
 ·cases h
theorem count_conv (rows : List (List Int)) (wi : Nat) (x : Int) (b : Rc) : ∀ n, (∀ m, m < n → cellN rows wi m = x → inBox b wi m) → countN rows wi x n = countB b wi n → ∀ m, m < n → inBox b wi m → cellN rows wi m = x
 | 0, _, _, m, hm, _ => by omega
 | n + 1, h, he, m, hm, hb => by
  have hle := countN_le_B rows wi x b n (fun m hm => h m (by omega))
  simp only [countN, countB] at he
  by_cases hx : cellN rows wi n = x
  ·rw [if_pos hx, if_pos (h n (by omega) hx)] at he
   rcases Nat.lt_or_eq_of_le (Nat.lt_succ_iff.1 hm) with h1 | h1
   ·exact count_conv rows wi x b n (fun m hm => h m (by omega)) (by omega) m h1 hb
   ·subst h1; exact hx
  ·rw [if_neg hx] at he
   by_cases hbn : inBox b wi n
   ·rw [if_pos hbn] at he; omega
   ·rw [if_neg hbn] at he
    rcases Nat.lt_or_eq_of_le (Nat.lt_succ_iff.1 hm) with h1 | h1
    ·exact count_conv rows wi x b n (fun m hm => h m (by omega)) he m h1 hb
    ·subst h1; exact absurd hb hbn
theorem room_cells {p : List ByteArray} {cs : List (List Int)} {rs : List Rc} (h : floorF p = some (cs, rs)) (i : Nat) (hi : i < rs.length) (r c : Nat) (hr : r < cs.length) (hc : c < wideOf cs) :
  valAt cs r c = (i : Int) ↔ ((rs.getD i zeroR).f0 ≤ r ∧ (r : Int) < (rs.getD i zeroR).f0 + (rs.getD i zeroR).f2 ∧ (rs.getD i zeroR).f1 ≤ c ∧ (c : Int) < (rs.getD i zeroR).f1 + (rs.getD i zeroR).f3) := by
 have F := floor_facts h
 have hsum := floor_sum h
 have hrs := F.rooms
 have hfull := full_iff F.canon
 rw [← hrs, decide_eq_true hsum, List.all_eq_true] at hfull
 have hf := of_decide_eq_true (hfull i (List.mem_range.2 hi))
 rw [← hrs] at hf
 have hs := F.canon.shape
 obtain ⟨x, hx, hb, hbd⟩ := rooms_box hs i (by rw [← hrs]; exact hi)
 rw [numsOf_length, ← hrs] at hb hbd
 have hiff : ∀ m, m < p.length * wideOf (numsOf p) → (cellN (numsOf p) (wideOf (numsOf p)) m = (i : Int) ↔ valAt (numsOf p) (m / wideOf (numsOf p)) (m % wideOf (numsOf p)) = x) := fun m hm => by
  rw [F.canon.cell m hm]
  exact idx_iff (ordAll_nodup _) hx (cell_mem hs m (by rw [numsOf_length]; exact hm))
 have hin : ∀ m, m < p.length * wideOf (numsOf p) → cellN (numsOf p) (wideOf (numsOf p)) m = (i : Int) → inBox (rs.getD i zeroR) (wideOf (numsOf p)) m := fun m hm hv => hb.ins m hm ((hiff m hm).1 hv)
 have hcb := countB_all (rs.getD i zeroR) p.length (wideOf (numsOf p)) hbd
 have hconv := count_conv _ _ _ _ _ hin (hf.trans hcb.symm)
 rw [F.wide] at hin hconv
 have hm : r * wideOf cs + c < p.length * wideOf cs := by
  rw [F.len]
  have : (r + 1) * wideOf cs ≤ cs.length * wideOf cs := Nat.mul_le_mul_right _ hr
  rw [Nat.succ_mul] at this
  omega
 obtain ⟨d1, d2⟩ := divmod_of (r := r) hc
 have hcell : cellN (numsOf p) (wideOf cs) (r * wideOf cs + c) = valAt cs r c := by
  unfold cellN
  rw [d1, d2, F.nums, valAt_map F.ok.rect _ hr hc]
  omega
 have hib : inBox (rs.getD i zeroR) (wideOf cs) (r * wideOf cs + c) ↔ ((rs.getD i zeroR).f0 ≤ r ∧ (r : Int) < (rs.getD i zeroR).f0 + (rs.getD i zeroR).f2 ∧ (rs.getD i zeroR).f1 ≤ c ∧ (c : Int) < (rs.getD i zeroR).f1 + (rs.getD i zeroR).f3) := by unfold inBox; rw [d1, d2]
 rw [← hcell, ← hib]
 exact ⟨hin _ hm, hconv _ hm⟩
end Go.Proofs.Ytacdgeoleeedpaa.Hd
namespace Go.Proofs.Ytacdgeoleeedpaa.Hd
open Go.RowKit Go.Proofs.YtacdgeoleeedpaaW.PrintWords Go.Proofs.YtacdgeoleeedpaaW.PrintLast Go.Proofs.YtacdgeoleeedpaaW.PrintMore Go.Proofs.Ytacdgeoleeedpaa.PB
set_option linter.unusedVariables false
set_option linter.unusedSimpArgs false
def Conv (hi wi : Nat) (g : Nat → Nat → Int) : Prop := ∀ r c r' c' i j, r < hi → c < wi → r' < hi → c' < wi → g r c = g r' c' → min r r' ≤ i → i ≤ max r r' → min c c' ≤ j → j ≤ max c c' → g i j = g r c
def ConvG (rows : List (List Int)) : Prop := Conv rows.length (wideOf rows) (valAt rows)
theorem Conv.congr {hi wi : Nat} {g g' : Nat → Nat → Int} (h : Conv hi wi g) (e : ∀ r c, r < hi → c < wi → g r c = g' r c) : Conv hi wi g' := by
 intro r c r' c' i j h1 h2 h3 h4 hv k1 k2 k3 k4
 rw [← e i j (by omega) (by omega), ← e r c h1 h2]
 exact h r c r' c' i j h1 h2 h3 h4 (by rw [e r c h1 h2, e r' c' h3 h4]; exact hv) k1 k2 k3 k4
theorem Conv.map {hi wi : Nat} {g : Nat → Nat → Int} (h : Conv hi wi g) (f : Int → Int) (hf : ∀ r c r' c', r < hi → c < wi → r' < hi → c' < wi → f (g r c) = f (g r' c') → g r c = g r' c') : Conv hi wi (fun r c => f (g r c)) := by
 intro r c r' c' i j h1 h2 h3 h4 hv k1 k2 k3 k4
 show f _ = f _
 rw [h r c r' c' i j h1 h2 h3 h4 (hf _ _ _ _ h1 h2 h3 h4 hv) k1 k2 k3 k4]
theorem names_canon {rows : List (List Int)} (hs : shapeOk rows = true) (h9 : (roomsOf rows).length ≤ 9) : Canon (textOf (canon rows)) := by
 have hn := names_nums hs
 have hinj := names_inj rows
 have hL := rooms_len hs
 refine ⟨?_, ?_⟩
 ·unfold gridOk
  rw [Bool.and_eq_true, hn, mapG_shape]
  refine ⟨hs, ?_⟩
  rw [List.all_eq_true]
  intro s hss
  obtain ⟨r, hr, rfl⟩ := List.mem_map.1 hss
  unfold okText
  rw [bytesOf_rowText r (canon_val hs r hr), List.all_eq_true]
  intro x hx
  obtain ⟨y, hy, rfl⟩ := List.mem_map.1 hx
  unfold canon canonL at hr
  obtain ⟨r0, hr0, rfl⟩ := List.mem_map.1 hr
  obtain ⟨z, hz, rfl⟩ := List.mem_map.1 hy
  have h3 : (ordAll rows).idxOf z < (ordAll rows).length := List.idxOf_lt_length_of_mem (ordL_mem rows.flatten [] z (List.mem_flatten.2 ⟨r0, hr0, hz⟩))
  simp only [okLetter, Bool.not_eq_true', Bool.or_eq_false_iff, decide_eq_false_iff_not]
  omega
 ·unfold namesOf
  rw [hn, canon_map hinj]
theorem text_length (rows : List (List Int)) : (textOf (canon rows)).length = rows.length := by simp [textOf, canon, canonL]
theorem canon_length (rows : List (List Int)) : (canon rows).length = rows.length := by simp [canon, canonL]
theorem names_floor {rows : List (List Int)} (hs : shapeOk rows = true) (h9 : (roomsOf rows).length ≤ 9) : floorF (textOf (canon rows)) = if sumArea (roomsOf rows) = (rows.length : Int) * (wideOf rows : Int) then some (canon rows, roomsOf rows) else none := by
 have hC := names_canon hs h9
 have hn := names_nums hs
 have hinj := names_inj rows
 rw [floorF_grid hC.grid, hn, rooms_map hs hinj, mapG_wide, text_length, canon_map hinj]
 by_cases h : sumArea (roomsOf rows) = (rows.length : Int) * (wideOf rows : Int)
 ·rw [if_pos h, if_pos ⟨h9, h, hC.names⟩]
 ·rw [if_neg h, if_neg (fun z => h z.2.1)]
theorem canon_wide (rows : List (List Int)) : wideOf (canon rows) = wideOf rows := by
 unfold wideOf canon canonL
 cases rows with
 | nil => rfl
 | cons a r => simp
theorem canon_at {rows : List (List Int)} (hs : shapeOk rows = true) {r c : Nat} (hr : r < rows.length) (hc : c < wideOf rows) : valAt (canon rows) r c = ((ordAll rows).idxOf (valAt rows r c) : Int) := by
 have e := congrArg (fun R => valAt R r c) (rect_map (shape_rect hs) (fun x => ((ordAll rows).idxOf x : Int)))
 exact Eq.trans e (valAt_gridOf hr hc)
theorem idxOf_inj {L : List Int} {x y : Int} (hx : x ∈ L) (hy : y ∈ L) (e : L.idxOf x = L.idxOf y) : x = y := by
 have h1 := List.idxOf_lt_length_of_mem hx
 have h2 := List.idxOf_lt_length_of_mem hy
 have e1 : L[L.idxOf x] = x := List.getElem_idxOf h1
 have e2 : L[L.idxOf y] = y := List.getElem_idxOf h2
 rw [← e1, ← e2]
 congr 1
theorem val_ord {rows : List (List Int)} (hs : shapeOk rows = true) {r c : Nat} (hr : r < rows.length) (hc : c < wideOf rows) : valAt rows r c ∈ ordAll rows := ordL_mem rows.flatten [] _ (val_mem (shape_rect hs) hr hc)
theorem canon_eq_iff {rows : List (List Int)} (hs : shapeOk rows = true) {r c r' c' : Nat} (hr : r < rows.length) (hc : c < wideOf rows) (hr' : r' < rows.length) (hc' : c' < wideOf rows) : valAt (canon rows) r c = valAt (canon rows) r' c' ↔ valAt rows r c = valAt rows r' c' := by
 rw [canon_at hs hr hc, canon_at hs hr' hc']
 constructor
 ·exact fun h => idxOf_inj (val_ord hs hr hc) (val_ord hs hr' hc') (by omega)
 ·intro h
  rw [h]
theorem conv_canon {rows : List (List Int)} (hs : shapeOk rows = true) : ConvG (canon rows) ↔ ConvG rows := by
 unfold ConvG
 rw [canon_length, canon_wide]
 constructor
 ·intro h r c r' c' i j h1 h2 h3 h4 hv k1 k2 k3 k4
  exact (canon_eq_iff hs (by omega) (by omega) h1 h2).1 (h r c r' c' i j h1 h2 h3 h4 ((canon_eq_iff hs h1 h2 h3 h4).2 hv) k1 k2 k3 k4)
 ·intro h r c r' c' i j h1 h2 h3 h4 hv k1 k2 k3 k4
  exact (canon_eq_iff hs (by omega) (by omega) h1 h2).2 (h r c r' c' i j h1 h2 h3 h4 ((canon_eq_iff hs h1 h2 h3 h4).1 hv) k1 k2 k3 k4)
theorem countN_conv (rows : List (List Int)) (wi : Nat) (x : Int) (b : Rc) : ∀ n, (∀ m, m < n → (cellN rows wi m = x ↔ inBox b wi m)) → countN rows wi x n = countB b wi n
 | 0, _ => rfl
 | n + 1, h => by
  have ih := countN_conv rows wi x b n (fun m hm => h m (by omega))
  simp only [countN, countB]
  by_cases hx : cellN rows wi n = x
  ·rw [if_pos hx, if_pos ((h n (by omega)).1 hx), ih]
  ·rw [if_neg hx, if_neg (fun z => hx ((h n (by omega)).2 z)), ih]
theorem conv_sum {rows : List (List Int)} (hs : shapeOk rows = true) (h9 : (roomsOf rows).length ≤ 9) : sumArea (roomsOf rows) = (rows.length : Int) * (wideOf rows : Int) ↔ ConvG rows := by
 have hfl := names_floor hs h9
 constructor
 ·intro h
  rw [if_pos h] at hfl
  have F := floor_facts hfl
  rw [← conv_canon hs]
  intro r c r' c' i j h1 h2 h3 h4 hv k1 k2 k3 k4
  have hv1 := valAt_range F.ok r c h1 h2
  obtain ⟨q, hq⟩ := Int.eq_ofNat_of_zero_le hv1.1
  have hq2 : q < (roomsOf rows).length := by omega
  have hc := fun r c hr hc => room_cells hfl q hq2 r c hr hc
  have a1 := (hc r c h1 h2).1 hq
  have a2 := (hc r' c' h3 h4).1 (by rw [← hv]; exact hq)
  rw [hq]
  exact (hc i j (by omega) (by omega)).2 (by omega)
 ·intro h
  have hC := names_canon hs h9
  have hn := names_nums hs
  have hinj := names_inj rows
  have hiff := full_iff hC
  rw [hn, rooms_map hs hinj, mapG_wide, text_length] at hiff
  have hall : (List.range (roomsOf rows).length).all (fullB (textOf (canon rows))) = true := by
   rw [List.all_eq_true]
   intro x hx
   have hx := List.mem_range.1 hx
   unfold fullB
   rw [decide_eq_true_eq, hn, rooms_map hs hinj, mapG_wide, text_length]
   obtain ⟨v, hv, hb, hbd⟩ := rooms_box hs x hx
   rw [← countB_all _ _ _ hbd]
   obtain ⟨s1, s2, s3, s4, s5⟩ := (shapeOk_iff _).1 hs
   have hR := shape_rect hs
   refine countN_conv _ _ _ _ _ fun m hm => ?_
   have hr : m / wideOf rows < rows.length := by rw [Nat.div_lt_iff_lt_mul (by omega)]; exact hm
   have hc := Nat.mod_lt m (show 0 < wideOf rows by omega)
   have hcell : cellN (mapG (fun x => 97 + ((ordAll rows).idxOf x : Int)) rows) (wideOf rows) m = ((ordAll rows).idxOf (valAt rows (m / wideOf rows) (m % wideOf rows)) : Int) := by
    unfold cellN
    rw [valAt_map hR _ hr hc]
    omega
   rw [hcell, idx_iff (ordAll_nodup rows) hv (val_ord hs hr hc)]
   constructor
   ·exact fun h => hb.ins m hm h
   ·intro hin
    obtain ⟨i1, i2, i3, i4⟩ := hin
    obtain ⟨mt, nt, vt, et⟩ := hb.top
    obtain ⟨ml, nl, vl, el⟩ := hb.left
    obtain ⟨mw, nw, vw, ew⟩ := hb.low
    obtain ⟨mr, nr, vr, er⟩ := hb.right
    have rr : ∀ m, m < rows.length * wideOf rows → m / wideOf rows < rows.length ∧ m % wideOf rows < wideOf rows := fun m hm => ⟨by rw [Nat.div_lt_iff_lt_mul (by omega)]; exact hm, Nat.mod_lt m (by omega)⟩
    obtain ⟨t1, t2⟩ := rr mt nt
    obtain ⟨l1, l2⟩ := rr ml nl
    obtain ⟨w1, w2⟩ := rr mw nw
    obtain ⟨r1, r2⟩ := rr mr nr
    have gt := hb.ins mt nt vt
    have gl := hb.ins ml nl vl
    have gw := hb.ins mw nw vw
    have gr := hb.ins mr nr vr
    generalize hbx : (roomsOf rows).getD x zeroR = bx at *
    -- the upper left and the lower right corner
    have c1 := h (mt / wideOf rows) (mt % wideOf rows) (ml / wideOf rows) (ml % wideOf rows) (mt / wideOf rows) (ml % wideOf rows) t1 t2 l1 l2 (vt.trans vl.symm) (by omega) (by omega) (by omega) (by omega)
    have c2 := h (mw / wideOf rows) (mw % wideOf rows) (mr / wideOf rows) (mr % wideOf rows) (mw / wideOf rows) (mr % wideOf rows) w1 w2 r1 r2 (vw.trans vr.symm) (by omega) (by omega) (by omega) (by omega)
    have c3 := h (mt / wideOf rows) (ml % wideOf rows) (mw / wideOf rows) (mr % wideOf rows) (m / wideOf rows) (m % wideOf rows) t1 l2 w1 r2 (by rw [c1, c2, vt, vw]) (by omega) (by omega) (by omega) (by omega)
    rw [c3, c1, vt]
  rw [hall] at hiff
  exact of_decide_eq_true hiff.symm
structure OkG (rows : List (List Int)) : Prop where
 shape : shapeOk rows = true
 many : (ordAll rows).length ≤ 9
 conv : ConvG rows
theorem OkG.plan {rows : List (List Int)} (h : OkG rows) : planF rows = (textOf (canon rows), true) := by
 have h9 : (roomsOf rows).length ≤ 9 := by rw [← rooms_len h.shape]; exact h.many
 rw [planF_shape h.shape, if_pos ⟨h9, (conv_sum h.shape h9).2 h.conv⟩]
theorem OkG.floor {rows : List (List Int)} (h : OkG rows) : floorF (textOf (canon rows)) = some (canon rows, roomsOf rows) := by
 have h9 : (roomsOf rows).length ≤ 9 := by rw [← rooms_len h.shape]; exact h.many
 rw [names_floor h.shape h9, if_pos ((conv_sum h.shape h9).2 h.conv)]
theorem planF_cases (rows : List (List Int)) : (OkG rows ∧ planF rows = (textOf (canon rows), true)) ∨ (¬ OkG rows ∧ planF rows = ([], false)) := by
 by_cases h : OkG rows
 ·exact .inl ⟨h, h.plan⟩
 ·refine .inr ⟨h, ?_⟩
  cases hs : shapeOk rows with
  | false => exact planF_noshape hs
  | true =>
   rw [planF_shape hs]
   by_cases hc : (roomsOf rows).length ≤ 9 ∧ sumArea (roomsOf rows) = (rows.length : Int) * (wideOf rows : Int)
   ·exact absurd ⟨hs, by rw [rooms_len hs]; exact hc.1, (conv_sum hs hc.1).1 hc.2⟩ h
   ·rw [if_neg hc]
theorem floor_shape {cs : List (List Int)} {rs : List Rc} (h : FloorOk cs rs) : shapeOk cs = true := (shapeOk_iff _).2 ⟨h.h1, h.h6, h.w1, h.w6, h.rect⟩
theorem add_inj (a : Int) (S : Int → Prop) : InjOn (fun x => a + x) S := fun x y _ _ e => by have : a + x = a + y := e; omega
theorem floor_okG {p : List ByteArray} {cs : List (List Int)} {rs : List Rc} (h : floorF p = some (cs, rs)) : OkG cs ∧ canon cs = cs ∧ rs = roomsOf cs ∧ p = textOf cs := by
 have F := floor_facts h
 have hs := floor_shape F.ok
 have e1 : canon cs = cs := by
  have e2 : canon (mapG (fun x => 97 + x) cs) = canon cs := canon_map (add_inj 97 _)
  rw [← F.nums, ← F.cells] at e2
  exact e2.symm
 have e2 : rs = roomsOf cs := by rw [F.rooms, F.nums, rooms_map hs (add_inj 97 _)]
 have h9 : (roomsOf cs).length ≤ 9 := by rw [← e2]; exact F.ok.many
 have hsum := floor_sum h
 rw [F.wide, F.len, e2] at hsum
 exact ⟨⟨hs, by rw [rooms_len hs]; exact h9, (conv_sum hs h9).1 hsum⟩, e1, e2, F.text⟩
end Go.Proofs.Ytacdgeoleeedpaa.Hd
namespace Go.Proofs.Ytacdgeoleeedpaa.Hd
open Go.RowKit Go.Proofs.YtacdgeoleeedpaaW.PrintWords Go.Proofs.YtacdgeoleeedpaaW.PrintLast Go.Proofs.YtacdgeoleeedpaaW.PrintMore Go.Proofs.Ytacdgeoleeedpaa.PB
set_option linter.unusedVariables false
set_option linter.unusedSimpArgs false
structure Mid (p : List ByteArray) (wi : Nat) : Prop where
 high : p.length ≤ 100
 wide : wi ≤ 100
 row : ∀ s ∈ p, s.size = wi
theorem Mid.rect {p : List ByteArray} {wi : Nat} (h : Mid p wi) : Rect wi (numsOf p) := by
 intro r hr
 obtain ⟨s, hs, rfl⟩ := List.mem_map.1 hr
 rw [bytesOf_length]
 exact h.row s hs
theorem Mid.small {p : List ByteArray} {wi : Nat} (h : Mid p wi) : smallP p := ⟨by have := h.high; omega, fun s hs => by rw [h.row s hs]; have := h.wide; omega⟩
theorem mapG_gridOf (f : Int → Int) (h w : Nat) (g : Nat → Nat → Int) : mapG f (gridOf h w g) = gridOf h w (fun r c => f (g r c)) := by
 unfold mapG gridOf
 rw [List.map_map]
 apply List.map_congr_left
 intro r hr
 show (List.map _ _).map f = _
 rw [List.map_map]
 rfl
end Go.Proofs.Ytacdgeoleeedpaa.Hd
namespace Go.Proofs.Ytacdgeoleeedpaa.Hd
open Go.RowKit Go.Proofs.YtacdgeoleeedpaaW.PrintWords Go.Proofs.YtacdgeoleeedpaaW.PrintLast Go.Proofs.YtacdgeoleeedpaaW.PrintMore Go.Proofs.Ytacdgeoleeedpaa.PB
set_option linter.unusedVariables false
set_option linter.unusedSimpArgs false
theorem gridOf_wide {h w : Nat} {g : Nat → Nat → Int} (h1 : 1 ≤ h) : wideOf (gridOf h w g) = w := by
 have := gridOf_get (hi := h) (wi := w) (g := g) (r := 0) (by omega)
 unfold wideOf
 rw [List.getD_eq_getElem?_getD, this]
 simp
def reG (X : List (List Int)) (h w : Nat) (a b : Nat → Nat → Nat) : List (List Int) := gridOf h w fun r c => valAt X (a r c) (b r c)
def IntoR (hi wi h w : Nat) (a b : Nat → Nat → Nat) : Prop := ∀ r c, r < h → c < w → a r c < hi ∧ b r c < wi
def BoxM (h w : Nat) (a b : Nat → Nat → Nat) : Prop := ∀ r c r' c' i j, r < h → c < w → r' < h → c' < w → min r r' ≤ i → i ≤ max r r' → min c c' ≤ j → j ≤ max c c' →
 min (a r c) (a r' c') ≤ a i j ∧ a i j ≤ max (a r c) (a r' c') ∧ min (b r c) (b r' c') ≤ b i j ∧ b i j ≤ max (b r c) (b r' c')
theorem shape_grid {h w : Nat} {g : Nat → Nat → Int} (h1 : 1 ≤ h) (h6 : h ≤ 6) (w1 : 1 ≤ w) (w6 : w ≤ 6) : shapeOk (gridOf h w g) = true := by
 rw [shapeOk_iff, gridOf_length, gridOf_wide h1]
 exact ⟨h1, h6, w1, w6, gridOf_rect h w g⟩
theorem vals_grid {h w : Nat} {g : Nat → Nat → Int} {v : Int} : Vals (gridOf h w g) v ↔ ∃ r c, r < h ∧ c < w ∧ g r c = v := by
 unfold Vals gridOf
 rw [List.mem_flatten]
 constructor
 ·rintro ⟨l, hl, hv⟩
  obtain ⟨r, hr, rfl⟩ := List.mem_map.1 hl
  obtain ⟨c, hc, rfl⟩ := List.mem_map.1 hv
  exact ⟨r, c, List.mem_range.1 hr, List.mem_range.1 hc, rfl⟩
 ·rintro ⟨r, c, hr, hc, rfl⟩
  exact ⟨_, List.mem_map.2 ⟨r, List.mem_range.2 hr, rfl⟩, List.mem_map.2 ⟨c, List.mem_range.2 hc, rfl⟩⟩
theorem vals_rows {X : List (List Int)} (hs : shapeOk X = true) {v : Int} : Vals X v ↔ ∃ r c, r < X.length ∧ c < wideOf X ∧ valAt X r c = v := by
 have := rect_eq (shape_rect hs)
 conv => lhs; rw [this]
 exact vals_grid
theorem ord_vals (X : List (List Int)) (v : Int) : v ∈ ordAll X ↔ Vals X v := ⟨ordAll_vals X v, fun h => ordL_mem X.flatten [] v h⟩
theorem ord_sub {X Y : List (List Int)} (h : ∀ v, Vals X v → Vals Y v) : (ordAll X).length ≤ (ordAll Y).length :=
 (ordAll_nodup X).length_le_of_subset fun v hv => (ord_vals Y v).2 (h v ((ord_vals X v).1 hv))
theorem re_vals {X : List (List Int)} (hs : shapeOk X = true) {h w : Nat} {a b : Nat → Nat → Nat} (hi : IntoR X.length (wideOf X) h w a b) : ∀ v, Vals (reG X h w a b) v → Vals X v := by
 intro v hv
 obtain ⟨r, c, hr, hc, rfl⟩ := vals_grid.1 hv
 exact (vals_rows hs).2 ⟨_, _, (hi r c hr hc).1, (hi r c hr hc).2, rfl⟩
theorem re_conv {X : List (List Int)} (hc : ConvG X) {h w : Nat} {a b : Nat → Nat → Nat} (hi : IntoR X.length (wideOf X) h w a b) (hb : BoxM h w a b) : Conv h w (fun r c => valAt X (a r c) (b r c)) := by
 intro r c r' c' i j h1 h2 h3 h4 hv k1 k2 k3 k4
 obtain ⟨m1, m2, m3, m4⟩ := hb r c r' c' i j h1 h2 h3 h4 k1 k2 k3 k4
 obtain ⟨a1, a2⟩ := hi r c h1 h2
 obtain ⟨b1, b2⟩ := hi r' c' h3 h4
 exact hc _ _ _ _ _ _ a1 a2 b1 b2 hv m1 m2 m3 m4
theorem convG_grid {h w : Nat} {g : Nat → Nat → Int} (h1 : 1 ≤ h) (hc : Conv h w g) : ConvG (gridOf h w g) := by
 unfold ConvG
 rw [gridOf_length, gridOf_wide h1]
 exact hc.congr fun r c hr hc => (valAt_gridOf hr hc).symm
theorem re_ok {X : List (List Int)} (hX : OkG X) {h w : Nat} {a b : Nat → Nat → Nat} (h1 : 1 ≤ h) (h6 : h ≤ 6) (w1 : 1 ≤ w) (w6 : w ≤ 6) (hi : IntoR X.length (wideOf X) h w a b) (hb : BoxM h w a b) : OkG (reG X h w a b) :=
 ⟨shape_grid h1 h6 w1 w6, Nat.le_trans (ord_sub (re_vals hX.shape hi)) hX.many, convG_grid h1 (re_conv hX.conv hi hb)⟩
theorem reG_length (X : List (List Int)) (h w : Nat) (a b : Nat → Nat → Nat) : (reG X h w a b).length = h := gridOf_length _ _ _
theorem reG_wide (X : List (List Int)) {h w : Nat} (a b : Nat → Nat → Nat) (h1 : 1 ≤ h) : wideOf (reG X h w a b) = w := gridOf_wide h1
theorem re_canon {X : List (List Int)} (hs : shapeOk X = true) {h w : Nat} {a b : Nat → Nat → Nat} (hi : IntoR X.length (wideOf X) h w a b) : canon (reG (canon X) h w a b) = canon (reG X h w a b) := by
 have e : reG (canon X) h w a b = mapG (fun x => ((ordAll X).idxOf x : Int)) (reG X h w a b) := by
  unfold reG
  rw [mapG_gridOf]
  exact gridOf_congr fun r c hr hc => canon_at hs (hi r c hr hc).1 (hi r c hr hc).2
 rw [e]
 refine canon_map fun x y hx hy e => ?_
 have e : ((ordAll X).idxOf x : Int) = ((ordAll X).idxOf y : Int) := e
 exact idxOf_inj ((ord_vals X x).2 (re_vals hs hi x hx)) ((ord_vals X y).2 (re_vals hs hi y hy)) (by omega)
end Go.Proofs.Ytacdgeoleeedpaa.Hd
namespace Go.Proofs.Ytacdgeoleeedpaa.Hd
open Go.RowKit Go.Proofs.YtacdgeoleeedpaaW.PrintWords Go.Proofs.YtacdgeoleeedpaaW.PrintLast Go.Proofs.YtacdgeoleeedpaaW.PrintMore Go.Proofs.Ytacdgeoleeedpaa.PB
set_option linter.unusedVariables false
set_option linter.unusedSimpArgs false
def crossX (X : List (List Int)) : List (List Int) := reG X (wideOf X) X.length (fun r c => c) (fun r c => r)
def planOf (X : List (List Int)) : List ByteArray := textOf (canon X)
theorem OkG.dims {X : List (List Int)} (h : OkG X) : 1 ≤ X.length ∧ X.length ≤ 6 ∧ 1 ≤ wideOf X ∧ wideOf X ≤ 6 := by
 obtain ⟨a, b, c, d, e⟩ := (shapeOk_iff _).1 h.shape
 exact ⟨a, b, c, d⟩
theorem OkG.canon {X : List (List Int)} (h : OkG X) : OkG (canon X) := (floor_okG h.floor).1
theorem cross_into {X : List (List Int)} (h : OkG X) : IntoR X.length (wideOf X) (wideOf X) X.length (fun r c => c) (fun r c => r) := fun r c hr hc => ⟨hc, hr⟩
theorem cross_ok {X : List (List Int)} (h : OkG X) : OkG (crossX X) := by
 obtain ⟨a, b, c, d⟩ := h.dims
 exact re_ok h c d a b (cross_into h) (fun r c r' c' i j h1 h2 h3 h4 k1 k2 k3 k4 => by first | omega | (dsimp only; omega))
theorem cross_dims {X : List (List Int)} (h : OkG X) : (crossX X).length = wideOf X ∧ wideOf (crossX X) = X.length := ⟨reG_length _ _ _ _ _, reG_wide _ _ _ h.dims.2.2.1⟩
theorem cross_at {X : List (List Int)} {r c : Nat} (hr : r < wideOf X) (hc : c < X.length) : valAt (crossX X) r c = valAt X c r := valAt_gridOf hr hc
def crossH (cs : List (List Int)) (_ : List Rc) : List (List Int) := crossX cs
theorem cross_canon {X : List (List Int)} (h : OkG X) : canon (crossX (canon X)) = canon (crossX X) := by
 have := re_canon h.shape (cross_into h)
 unfold crossX
 rw [canon_length, canon_wide]
 exact this
theorem act_cross {X : List (List Int)} (h : OkG X) : remadeF (planOf X) crossH = (planOf (crossX X), true) := by
 unfold remadeF planOf
 rw [h.floor]
 show planF (crossX (canon X)) = _
 rw [(cross_ok h.canon).plan, cross_canon h]
theorem plan_of {p : List ByteArray} {cs : List (List Int)} {rs : List Rc} (h : floorF p = some (cs, rs)) : OkG cs ∧ p = planOf cs ∧ rs = roomsOf cs := by
 obtain ⟨a, b, c, d⟩ := floor_okG h
 exact ⟨a, by unfold planOf; rw [b]; exact d, c⟩
end Go.Proofs.Ytacdgeoleeedpaa.Hd
namespace Go.Proofs.Ytacdgeoleeedpaa.Hd
open Go.RowKit Go.Proofs.YtacdgeoleeedpaaW.PrintWords Go.Proofs.YtacdgeoleeedpaaW.PrintLast Go.Proofs.YtacdgeoleeedpaaW.PrintMore Go.Proofs.Ytacdgeoleeedpaa.PB
set_option linter.unusedVariables false
set_option linter.unusedSimpArgs false
set_option maxHeartbeats 4000000 in
set_option maxRecDepth 100000 in
theorem cross1_read (w : World) (p1 g : Nat) (cs : List (List Int)) (rs : List Rc) (hk : FloorOk cs rs) (hf : FloorAt w g cs rs) (hp1 : w.cell? ⟨p1, 0, none⟩ = some (.pointer (some ⟨g, 0, none⟩))) :
  ReadFn Try.prog 103 #[.pointer (some ⟨p1, 0, none⟩)] w (wideOf cs) cs.length (fun r c => valAt cs c r) := by
 intro W r c hr hc hS
 show Calls Try.prog _ _ _ fun e W' => e = .returned (.int .i64 (valAt cs c r)) ∧ Below W.heap.size W W'
 replace hf := hf.sees hS
 replace hp1 := hS.cell hp1
 have hh1 := hk.h6
 have hw6 := hk.w6
 have HF := Aside0.mk hf
 have H1 := Aside0.mk (high_f cs rs)
 have W1 := Aside0.mk (wide_f hk)
 have r0 : (0 : Int) ≤ r := by omega
 have c0 : (0 : Int) ≤ c := by omega
 obtain ⟨ad, q0, ad2, q2, x1, x2, x3⟩ := hf.cell hk c r hc hr
 have c1 : (c : Int) < cs.length := by omega
 have r1 : (r : Int) < wideOf cs := by omega
 have HG := Aside0.mk (show valAt cs c r = valAt cs c r from rfl)
 generalize valAt cs c r = x at *
 clear hk hf hS hr hc
 show Calls Try.prog _ #[.int .i64 (r : Int), .int .i64 (c : Int), .pointer (some ⟨p1, 0, none⟩)] _ _
 go_enter Try.func103, Try.ntmps103
 go_wp2
 go_ret
 exact ⟨rfl, Below.refl _ _⟩
set_option maxHeartbeats 4000000 in
set_option maxRecDepth 100000 in
theorem cross_fn (w : World) : HowFn Try.prog 66 #[] w crossH := by
 intro W g cs rs hk hf hS
 have HK := Aside0.mk hk
 have HF := Aside0.mk hf
 have H1 := Aside0.mk (high_f cs rs)
 have W1 := Aside0.mk (wide_f hk)
 have a1 := hk.h6
 have a3 := hk.w6
 clear hk hf hS
 show Calls Try.prog _ #[.pointer (some ⟨g, 0, none⟩)] _ _
 go_enter Try.func66, Try.ntmps66
 go_upto_region 1 with (first
  | ((with_reducible refine gate_dst (N := 1) rfl ?_); refine box_event ?hg (N := 1) ?hd (cs := #[.pointer (some ⟨g, 0, none⟩)]) (t := 50) ?hr ?_; (case hd => rfl); (case hg => rfl); (case hr => first | (go_simp; done) | (go_simp; rfl)); intro p1 hq1 w1 hbox hb; have HB1 := Aside0.mk hb; have hp1 : w1.cell? ⟨p1, 0, none⟩ = some (.pointer (some ⟨g, 0, none⟩)) := box_cell hbox; have HF1 := Aside0.mk (HF.out.below hb); clear hb hbox hq1))
 refine start_ (n := 7) (S := fun w' => (w'.cell? ⟨p1, 0, none⟩ = some (.pointer (some ⟨g, 0, none⟩))) ∧ (FloorAt w' g cs rs) ∧ (Below W.heap.size W w')) (ds := []) #[false, false, false, false, false, false, false] (by kernel_rfl) rfl rfl (⟨hp1, HF1.out, ⟨HB1.out.os, HB1.out.tape, HB1.out.output, HB1.out.size, HB1.out.block⟩⟩) (fun hHeld => ?_)
 clear hp1
 refine take_ (i := 0) (N := some 3) (v := ?_) (a' := ?_) #[true, false, false, false, false, false, false] rfl rfl (by kernel_rfl) (fun _ _ _ h => h) (Or.inl ⟨by rfl, ?_⟩) hHeld ?_ ?_
 rotate_left
 ·rintro w' ⟨s0, s1, s2⟩
  go_simp
  with_reducible rfl
 rotate_left
 ·simp only [Act.put, List.setIfInBounds_toArray, List.set_cons_zero, List.set_cons_succ, i64_w, i32_w]
  rfl
 refine take_ (i := 2) (N := some 5) (v := ?_) (a' := ?_) #[true, false, true, false, false, false, false] rfl rfl (by kernel_rfl) (fun _ _ _ h => h) (Or.inl ⟨by rfl, ?_⟩) hHeld ?_ ?_
 rotate_left
 ·rintro w' ⟨s0, s1, s2⟩
  go_simp
  with_reducible rfl
 rotate_left
 ·simp only [Act.put, List.setIfInBounds_toArray, List.set_cons_zero, List.set_cons_succ, i64_w, i32_w]
  rfl
 refine pure_ (i := 4) (N := some 7) (v := ?_) (a' := ?_) #[true, false, true, false, true, false, false] rfl rfl (by kernel_rfl) (fun _ _ _ h => h) (Or.inl ⟨by rfl, ?_⟩) ?_ ?_
 rotate_left
 ·intro w'
  go_simp
  with_reducible rfl
 rotate_left
 ·simp only [Act.put, List.setIfInBounds_toArray, List.set_cons_zero, List.set_cons_succ, i64_w, i32_w]
  rfl
 refine one_ (i := 1) (N := some 4) #[true, true, true, false, true, false, false] rfl rfl (by kernel_rfl) (by decide) (fun K hK => ?_)
 refine goes_ Try.func86 (by kernel_rfl) rfl #[.pointer (some ⟨g, 0, none⟩)] (by rfl) rfl rfl (by (try simp only [List.map_toArray, List.map_cons, List.map_nil]); first | done | rfl) ?_
 have hs_ := hHeld
 obtain ⟨s0, s1, s2⟩ := hs_
 refine (impl_floor_wide.calls g cs rs _ _ _ s1 (Below.refl _ _) W1.out).mono ?_
 rintro e w16 ⟨rfl, -, hb, -⟩
 refine ⟨_, rfl, ?_⟩
 refine hK.out _ _ ⟨pw_cell_below hb s0, FloorAt.below s1 hb, below_step s2 hb⟩ (fun hHeld => ?_)
 clear hK K hb s0 s1 s2
 refine norm_ (a' := ?_) ?_ ?_
 rotate_left
 ·show Act.put _ (some 4) _ = _
  simp only [Act.put, List.setIfInBounds_toArray, List.set_cons_zero, List.set_cons_succ, i64_w, i32_w]
  rfl
 refine one_ (i := 3) (N := some 6) #[true, true, true, true, true, false, false] rfl rfl (by kernel_rfl) (by decide) (fun K hK => ?_)
 refine goes_ Try.func85 (by kernel_rfl) rfl #[.pointer (some ⟨g, 0, none⟩)] (by rfl) rfl rfl (by (try simp only [List.map_toArray, List.map_cons, List.map_nil]); first | done | rfl) ?_
 have hs_ := hHeld
 obtain ⟨s0, s1, s2⟩ := hs_
 refine (impl_floor_high.calls g cs rs _ _ _ s1 (Below.refl _ _) H1.out).mono ?_
 rintro e w17 ⟨rfl, -, hb, -⟩
 refine ⟨_, rfl, ?_⟩
 refine hK.out _ _ ⟨pw_cell_below hb s0, FloorAt.below s1 hb, below_step s2 hb⟩ (fun hHeld => ?_)
 clear hK K hb s0 s1 s2
 refine norm_ (a' := ?_) ?_ ?_
 rotate_left
 ·show Act.put _ (some 6) _ = _
  simp only [Act.put, List.setIfInBounds_toArray, List.set_cons_zero, List.set_cons_succ, i64_w, i32_w]
  rfl
 refine one_ (i := 5) (N := some 8) #[true, true, true, true, true, true, false] rfl rfl (by kernel_rfl) (by decide) (fun K hK => ?_)
 refine goes_ Try.func84 (by kernel_rfl) rfl #[.int .i64 (wideOf cs : Int), .int .i64 (cs.length : Int), .func (.func 103) #[] #[.pointer (some ⟨p1, 0, none⟩)]] (by rfl) rfl rfl (by (try simp only [List.map_toArray, List.map_cons, List.map_nil]); first | done | rfl) ?_
 have hs_ := hHeld
 obtain ⟨s0, s1, s2⟩ := hs_
 refine (blank_reads 103 Try.f103 Try.func103 (by kernel_rfl) rfl _ (wideOf cs) cs.length _ _ (cross1_read _ p1 g cs rs HK.out s1 s0) (by omega) (by omega)).mono ?_
 rintro e w14 ⟨A14, c14, rfl, hl14, hC14, hb⟩
 have HC14 := Aside0.mk hC14
 have HL14 := Aside0.mk hl14
 have HB14 := Aside0.mk (below_step s2 hb)
 clear hC14 hl14
 refine ⟨_, rfl, ?_⟩
 refine hK.out _ _ ⟨pw_cell_below hb s0, FloorAt.below s1 hb, below_step s2 hb⟩ (fun hHeld => ?_)
 clear hK K hb s0 s1 s2
 refine norm_ (a' := ?_) ?_ ?_
 rotate_left
 ·show Act.put _ (some 8) _ = _
  simp only [Act.put, List.setIfInBounds_toArray, List.set_cons_zero, List.set_cons_succ, i64_w, i32_w]
  rfl
 refine pure_ (i := 6) (N := some 2) (v := ?_) (a' := ?_) #[true, true, true, true, true, true, true] rfl rfl (by kernel_rfl) (fun _ _ _ h => h) (Or.inl ⟨by rfl, ?_⟩) ?_ ?_
 rotate_left
 ·intro w'
  go_simp
  with_reducible rfl
 rotate_left
 ·simp only [Act.put, List.setIfInBounds_toArray, List.set_cons_zero, List.set_cons_succ, i64_w, i32_w]
  rfl
 refine done_ (by kernel_rfl) ?_
 go_wp2
 go_ret
 exact ⟨A14, c14, rfl, HL14.out, HC14.out, HB14.out⟩
theorem cross_good : goodHow crossH := fun cs rs hk => grid_vals fun r c hr hc => by
 have := valAt_range hk c r (by omega) (by omega)
 have := hk.many
 dsimp only
 omega
set_option maxHeartbeats 4000000 in
set_option maxRecDepth 100000 in
theorem PlanTrans_calls (A0 : Option Addr) (c0 : Nat) (l0 : List ByteArray) (w : World) (hr0 : Kd.C Kd.string w A0 l0.length l0) (hc0 : l0.length ≤ c0) (hp : smallP l0) :
  Calls Try.prog 26 #[.slice A0 l0.length c0] w (PlanRes w (remadeF l0 crossH)) := by
 have HR := Aside0.mk hr0
 have HC := Aside0.mk hc0
 have HP := Aside0.mk hp
 clear hr0 hc0 hp
 generalize hM : remadeF l0 crossH = res
 have HM := Aside0.mk hM
 clear hM
 go_enter Try.func26, Try.ntmps26
 go_wp2_with (first
  | (go_at_call 65; refine (remade_calls 66 Try.f66 Try.func66 (by kernel_rfl) rfl #[] crossH cross_good A0 c0 l0 _ HR.out HC.out HP.out (cross_fn _)).mono ?_; rw [HM.out]; rintro e w9 ⟨v9, rfl, hr9, hb9⟩; have HR9 := Aside0.mk hr9; have HB9 := Aside0.mk hb9; clear hr9 hb9))
 go_ret2
 exact ⟨v9, rfl, HR9.out, HB9.out⟩
def impl_PlanTrans.f (l0 : List ByteArray) : Option (List ByteArray × Bool) := if smallB l0 = true then some (remadeF l0 crossH) else none
theorem impl_PlanTrans.calls (A0 : Option Addr) (c0 : Nat) (l0 : List ByteArray) (r1 : List ByteArray) (r2 : Bool) (w : World) (hr0 : Kd.C Kd.string w A0 l0.length l0) (hc0 : l0.length ≤ c0) (h : impl_PlanTrans.f l0 = some (r1, r2)) :
  Calls Try.prog 26 #[.slice A0 l0.length c0] w fun e w' => ∃ v0_ : Value, e = .returned (.tuple #[v0_, .bool r2]) ∧ Kd.R Kd.string 9 w' w.heap.size (fun _ => True) v0_ r1 ∧ Below w.heap.size w w' := by
 unfold impl_PlanTrans.f at h
 split at h
 ·rename_i hs
  have e := Option.some.inj h
  have := PlanTrans_calls A0 c0 l0 w hr0 hc0 ((smallB_iff _).1 hs)
  rw [e] at this
  exact this
 ·cases h
end Go.Proofs.Ytacdgeoleeedpaa.Hd
namespace Go.Proofs.Ytacdgeoleeedpaa.Hd
open Go.RowKit Go.Proofs.YtacdgeoleeedpaaW.PrintWords Go.Proofs.YtacdgeoleeedpaaW.PrintLast Go.Proofs.YtacdgeoleeedpaaW.PrintMore Go.Proofs.Ytacdgeoleeedpaa.PB
set_option linter.unusedVariables false
set_option linter.unusedSimpArgs false
def besideG (cs1 : List (List Int)) (rs1 : List Rc) (cs2 : List (List Int)) (r c : Nat) : Int := if c < wideOf cs1 then valAt cs1 r c else rs1.length + valAt cs2 r (c - wideOf cs1)
set_option maxHeartbeats 4000000 in
set_option maxRecDepth 100000 in
theorem fitH_fn (w : World) : FitFn Try.prog 93 #[] w (fun a b => (a.length : Int) == (b.length : Int)) := by
 intro W g1 g2 cs1 cs2 rs1 rs2 hk1 hk2 hf1 hf2 hS
 have H1 := Aside0.mk hf1
 have H2 := Aside0.mk hf2
 have W1 := Aside0.mk (high_f cs1 rs1)
 have W2 := Aside0.mk (high_f cs2 rs2)
 clear hf1 hf2 hS
 show Calls Try.prog _ #[.pointer (some ⟨g1, 0, none⟩), .pointer (some ⟨g2, 0, none⟩)] _ _
 go_enter Try.func93, Try.ntmps93
 go_wp2_with (first
  | ((with_reducible refine gate_dst (N := 6) rfl ?_); refine goesL_ (some 6) rfl rfl Try.func85 (by kernel_rfl) rfl #[.pointer (some ⟨g1, 0, none⟩)] rfl (by (try simp only [List.map_toArray, List.map_cons, List.map_nil]); first | done | rfl) ?_; refine (impl_floor_high.calls g1 cs1 rs1 _ _ _ H1.out (Below.refl _ _) W1.out).mono ?_; rintro e w9 ⟨rfl, -, hb9, -⟩; refine ⟨_, rfl, ?_⟩; have HB9 := Aside0.mk hb9; have HF9 := Aside0.mk (H2.out.below hb9); clear hb9)
  | ((with_reducible refine gate_dst (N := 8) rfl ?_); refine goesL_ (some 8) rfl rfl Try.func85 (by kernel_rfl) rfl #[.pointer (some ⟨g2, 0, none⟩)] rfl (by (try simp only [List.map_toArray, List.map_cons, List.map_nil]); first | done | rfl) ?_; refine (impl_floor_high.calls g2 cs2 rs2 _ _ _ HF9.out (Below.refl _ _) W2.out).mono ?_; rintro e w10 ⟨rfl, -, hb10, -⟩; refine ⟨_, rfl, ?_⟩; have HB10 := Aside0.mk (below_step HB9.out hb10); clear hb10))
 all_goals go_ret
 all_goals exact ⟨rfl, HB10.out⟩
set_option maxHeartbeats 4000000 in
set_option maxRecDepth 100000 in
theorem beside1_read (w : World) (p1 p2 g1 g2 : Nat) (cs1 cs2 : List (List Int)) (rs1 rs2 : List Rc) (hk1 : FloorOk cs1 rs1) (hk2 : FloorOk cs2 rs2) (hw : cs1.length = cs2.length) (hf1 : FloorAt w g1 cs1 rs1) (hf2 : FloorAt w g2 cs2 rs2) (hp1 : w.cell? ⟨p1, 0, none⟩ = some (.pointer (some ⟨g1, 0, none⟩))) (hp2 : w.cell? ⟨p2, 0, none⟩ = some (.pointer (some ⟨g2, 0, none⟩))) :
  ReadFn Try.prog 110 #[.pointer (some ⟨p1, 0, none⟩), .pointer (some ⟨p2, 0, none⟩)] w cs1.length (wideOf cs1 + wideOf cs2) (besideG cs1 rs1 cs2) := by
 intro W r c hr hc hS
 replace hf1 := hf1.sees hS
 replace hf2 := hf2.sees hS
 replace hp1 := hS.cell hp1
 replace hp2 := hS.cell hp2
 have H1 := Aside0.mk hf1
 have hh1 := hk1.h6
 have hh2 := hk2.h6
 have hw6 := hk1.w6
 have r0 : (0 : Int) ≤ r := by omega
 have c0 : (0 : Int) ≤ c := by omega
 have HH := Aside0.mk (wide_f hk1)
 have hw7 := hk2.w6
 have r1 : (r : Int) < cs1.length := by omega
 have hG : besideG cs1 rs1 cs2 r c = if c < wideOf cs1 then valAt cs1 r c else rs1.length + valAt cs2 r (c - wideOf cs1) := rfl
 generalize besideG cs1 rs1 cs2 r c = res at *
 show Calls Try.prog _ #[.int .i64 (r : Int), .int .i64 (c : Int), .pointer (some ⟨p1, 0, none⟩), .pointer (some ⟨p2, 0, none⟩)] _ _
 by_cases hl : c < wideOf cs1
 ·rw [if_pos hl] at hG
  have d1 : decide ((c : Int) < wideOf cs1) = true := decide_eq_true (by omega)
  have c1 : (c : Int) < wideOf cs1 := by omega
  obtain ⟨ad, q0, ad2, q2, x1, x2, x3⟩ := hf1.cell hk1 r c hr hl
  generalize valAt cs1 r c = x at *
  have HG := Aside0.mk hG
  clear hG hf1 hf2 hk1 hk2 hS
  go_enter Try.func110, Try.ntmps110
  go_wp2_with (first
   | (go_at_call 86; refine (impl_floor_wide.calls g1 cs1 rs1 _ _ _ H1.out (Below.refl _ _) HH.out).mono ?_; rintro e w9 ⟨rfl, -, hb9, -⟩; have HB9 := Aside0.mk hb9; replace x1 := pw_cell_below hb9 x1; replace x2 := pw_cell_below hb9 x2; replace x3 := pw_cell_below hb9 x3; replace hp1 := pw_cell_below hb9 hp1; clear hb9))
  go_ret
  exact ⟨by rw [HG.out]; rfl, HB9.out⟩
 ·rw [if_neg hl] at hG
  have d1 : decide ((c : Int) < wideOf cs1) = false := decide_eq_false (by omega)
  obtain ⟨ad, q0, ad2, q2, x1, x2, x3⟩ := hf2.cell hk2 r (c - wideOf cs1) (by omega) (by omega)
  obtain ⟨Ar, qr, y1, -⟩ := hf1.rooms
  have hv := valAt_range hk2 r (c - wideOf cs1) (by omega) (by omega)
  have m1 := hk1.many
  have m2 := hk2.many
  have m3 : (rs1.length : Int) ≤ 9 := by omega
  have r4 : (r : Int) < cs2.length := by omega
  generalize valAt cs2 r (c - wideOf cs1) = x at *
  have e1 : wrap64 ((c : Int) - (wideOf cs1 : Int)) = ((c - wideOf cs1 : Nat) : Int) := by rw [wrap64_small (by omega) (by omega)]; omega
  have r2 : (0 : Int) ≤ ((c - wideOf cs1 : Nat) : Int) := by omega
  have r3 : ((c - wideOf cs1 : Nat) : Int) < wideOf cs2 := by omega
  generalize c - wideOf cs1 = d at *
  obtain ⟨v0, v1⟩ := hv
  have v2 : x ≤ 9 := by omega
  have e2 : wrap64 ((rs1.length : Int) + x) = (rs1.length : Int) + x := wrap64_small (by omega) (by omega)
  have HG := Aside0.mk hG
  clear hG hf1 hf2 hk1 hk2 hS
  go_enter Try.func110, Try.ntmps110
  go_upto_region 3 with (first
   | (go_at_call 86; refine (impl_floor_wide.calls g1 cs1 rs1 _ _ _ H1.out (Below.refl _ _) HH.out).mono ?_; rintro e w9 ⟨rfl, -, hb9, -⟩; have HB9 := Aside0.mk hb9; have H9 := Aside0.mk (H1.out.below hb9); replace x1 := pw_cell_below hb9 x1; replace x2 := pw_cell_below hb9 x2; replace x3 := pw_cell_below hb9 x3; replace y1 := pw_cell_below hb9 y1; replace hp1 := pw_cell_below hb9 hp1; replace hp2 := pw_cell_below hb9 hp2; clear hb9))
  refine start_ (n := 20) (S := fun w' => (w'.cell? ⟨p1, 0, none⟩ = some (.pointer (some ⟨g1, 0, none⟩))) ∧ (w'.cell? ⟨p2, 0, none⟩ = some (.pointer (some ⟨g2, 0, none⟩))) ∧ (w'.cell? ⟨g1, 1, none⟩ = some (.slice Ar rs1.length qr)) ∧ (w'.cell? ⟨g2, 0, none⟩ = some (.slice (some ad) cs2.length q0)) ∧ (w'.cell? (ad.add r) = some (.slice (some ad2) (wideOf cs2) q2)) ∧ (w'.cell? (ad2.add d) = some (.int .i64 x)) ∧ (FloorAt w' g1 cs1 rs1) ∧ (Below W.heap.size W w')) (ds := []) #[false, false, false, false, false, false, false, false, false, false, false, false, false, false, false, false, false, false, false, false] (by kernel_rfl) rfl rfl (⟨hp1, hp2, y1, x1, x2, x3, H9.out, ⟨HB9.out.os, HB9.out.tape, HB9.out.output, HB9.out.size, HB9.out.block⟩⟩) (fun hHeld => ?_)
  clear hp1 hp2 y1 x1 x2 x3
  refine take_ (i := 0) (N := some 21) (v := ?_) (a' := ?_) #[true, false, false, false, false, false, false, false, false, false, false, false, false, false, false, false, false, false, false, false] rfl rfl (by kernel_rfl) (fun _ _ _ h => h) (Or.inl ⟨by rfl, ?_⟩) hHeld ?_ ?_
  rotate_left
  ·rintro w' ⟨s0, s1, s2, s3, s4, s5, s6, s7⟩
   go_simp
   with_reducible rfl
  rotate_left
  ·simp only [Act.put, List.setIfInBounds_toArray, List.set_cons_zero, List.set_cons_succ, i64_w, i32_w]
   rfl
  refine pure_ (i := 1) (N := some 22) (v := ?_) (a' := ?_) #[true, true, false, false, false, false, false, false, false, false, false, false, false, false, false, false, false, false, false, false] rfl rfl (by kernel_rfl) (fun _ _ _ h => h) (Or.inl ⟨by rfl, ?_⟩) ?_ ?_
  rotate_left
  ·intro w'
   go_simp
   with_reducible rfl
  rotate_left
  ·simp only [Act.put, List.setIfInBounds_toArray, List.set_cons_zero, List.set_cons_succ, i64_w, i32_w]
   rfl
  refine pure_ (i := 2) (N := some 23) (v := ?_) (a' := ?_) #[true, true, true, false, false, false, false, false, false, false, false, false, false, false, false, false, false, false, false, false] rfl rfl (by kernel_rfl) (fun _ _ _ h => h) (Or.inl ⟨by rfl, ?_⟩) ?_ ?_
  rotate_left
  ·intro w'
   go_simp
   with_reducible rfl
  rotate_left
  ·simp only [Act.put, List.setIfInBounds_toArray, List.set_cons_zero, List.set_cons_succ, i64_w, i32_w]
   rfl
  refine take_ (i := 3) (N := some 24) (v := ?_) (a' := ?_) #[true, true, true, true, false, false, false, false, false, false, false, false, false, false, false, false, false, false, false, false] rfl rfl (by kernel_rfl) (fun _ _ _ h => h) (Or.inl ⟨by rfl, ?_⟩) hHeld ?_ ?_
  rotate_left
  ·rintro w' ⟨s0, s1, s2, s3, s4, s5, s6, s7⟩
   go_simp
   with_reducible rfl
  rotate_left
  ·simp only [Act.put, List.setIfInBounds_toArray, List.set_cons_zero, List.set_cons_succ, i64_w, i32_w]
   rfl
  refine pure_ (i := 4) (N := some 25) (v := ?_) (a' := ?_) #[true, true, true, true, true, false, false, false, false, false, false, false, false, false, false, false, false, false, false, false] rfl rfl (by kernel_rfl) (fun _ _ _ h => h) (Or.inl ⟨by rfl, ?_⟩) ?_ ?_
  rotate_left
  ·intro w'
   go_simp
   with_reducible rfl
  rotate_left
  ·simp only [Act.put, List.setIfInBounds_toArray, List.set_cons_zero, List.set_cons_succ, i64_w, i32_w]
   rfl
  refine take_ (i := 5) (N := some 26) (v := ?_) (a' := ?_) #[true, true, true, true, true, true, false, false, false, false, false, false, false, false, false, false, false, false, false, false] rfl rfl (by kernel_rfl) (fun _ _ _ h => h) (Or.inl ⟨by rfl, ?_⟩) hHeld ?_ ?_
  rotate_left
  ·rintro w' ⟨s0, s1, s2, s3, s4, s5, s6, s7⟩
   go_simp
   with_reducible rfl
  rotate_left
  ·simp only [Act.put, List.setIfInBounds_toArray, List.set_cons_zero, List.set_cons_succ, i64_w, i32_w]
   rfl
  refine pure_ (i := 6) (N := some 27) (v := ?_) (a' := ?_) #[true, true, true, true, true, true, true, false, false, false, false, false, false, false, false, false, false, false, false, false] rfl rfl (by kernel_rfl) (fun _ _ _ h => h) (Or.inl ⟨by rfl, ?_⟩) ?_ ?_
  rotate_left
  ·intro w'
   go_simp
   with_reducible rfl
  rotate_left
  ·simp only [Act.put, List.setIfInBounds_toArray, List.set_cons_zero, List.set_cons_succ, i64_w, i32_w]
   rfl
  refine pure_ (i := 7) (N := some 28) (v := ?_) (a' := ?_) #[true, true, true, true, true, true, true, true, false, false, false, false, false, false, false, false, false, false, false, false] rfl rfl (by kernel_rfl) (fun _ _ _ h => h) (Or.inl ⟨by rfl, ?_⟩) ?_ ?_
  rotate_left
  ·intro w'
   go_simp
   with_reducible rfl
  rotate_left
  ·simp only [Act.put, List.setIfInBounds_toArray, List.set_cons_zero, List.set_cons_succ, i64_w, i32_w]
   rfl
  refine take_ (i := 8) (N := some 29) (v := ?_) (a' := ?_) #[true, true, true, true, true, true, true, true, true, false, false, false, false, false, false, false, false, false, false, false] rfl rfl (by kernel_rfl) (fun _ _ _ h => h) (Or.inl ⟨by rfl, ?_⟩) hHeld ?_ ?_
  rotate_left
  ·rintro w' ⟨s0, s1, s2, s3, s4, s5, s6, s7⟩
   go_simp
   with_reducible rfl
  rotate_left
  ·simp only [Act.put, List.setIfInBounds_toArray, List.set_cons_zero, List.set_cons_succ, i64_w, i32_w]
   rfl
  refine pure_ (i := 9) (N := some 30) (v := ?_) (a' := ?_) #[true, true, true, true, true, true, true, true, true, true, false, false, false, false, false, false, false, false, false, false] rfl rfl (by kernel_rfl) (fun _ _ _ h => h) (Or.inl ⟨by rfl, ?_⟩) ?_ ?_
  rotate_left
  ·intro w'
   go_simp
   with_reducible rfl
  rotate_left
  ·simp only [Act.put, List.setIfInBounds_toArray, List.set_cons_zero, List.set_cons_succ, i64_w, i32_w]
   rfl
  refine pure_ (i := 10) (N := some 31) (v := ?_) (a' := ?_) #[true, true, true, true, true, true, true, true, true, true, true, false, false, false, false, false, false, false, false, false] rfl rfl (by kernel_rfl) (fun _ _ _ h => h) (Or.inl ⟨by rfl, ?_⟩) ?_ ?_
  rotate_left
  ·intro w'
   go_simp
   with_reducible rfl
  rotate_left
  ·simp only [Act.put, List.setIfInBounds_toArray, List.set_cons_zero, List.set_cons_succ, i64_w, i32_w]
   rfl
  refine take_ (i := 11) (N := some 32) (v := ?_) (a' := ?_) #[true, true, true, true, true, true, true, true, true, true, true, true, false, false, false, false, false, false, false, false] rfl rfl (by kernel_rfl) (fun _ _ _ h => h) (Or.inl ⟨by rfl, ?_⟩) hHeld ?_ ?_
  rotate_left
  ·rintro w' ⟨s0, s1, s2, s3, s4, s5, s6, s7⟩
   go_simp
   with_reducible rfl
  rotate_left
  ·simp only [Act.put, List.setIfInBounds_toArray, List.set_cons_zero, List.set_cons_succ, i64_w, i32_w]
   rfl
  refine pure_ (i := 12) (N := some 33) (v := ?_) (a' := ?_) #[true, true, true, true, true, true, true, true, true, true, true, true, true, false, false, false, false, false, false, false] rfl rfl (by kernel_rfl) (fun _ _ _ h => h) (Or.inl ⟨by rfl, ?_⟩) ?_ ?_
  rotate_left
  ·intro w'
   go_simp
   with_reducible rfl
  rotate_left
  ·simp only [Act.put, List.setIfInBounds_toArray, List.set_cons_zero, List.set_cons_succ, i64_w, i32_w]
   rfl
  refine take_ (i := 13) (N := some 34) (v := ?_) (a' := ?_) #[true, true, true, true, true, true, true, true, true, true, true, true, true, true, false, false, false, false, false, false] rfl rfl (by kernel_rfl) (fun _ _ _ h => h) (Or.inl ⟨by rfl, ?_⟩) hHeld ?_ ?_
  rotate_left
  ·rintro w' ⟨s0, s1, s2, s3, s4, s5, s6, s7⟩
   go_simp
   with_reducible rfl
  rotate_left
  ·simp only [Act.put, List.setIfInBounds_toArray, List.set_cons_zero, List.set_cons_succ, i64_w, i32_w]
   rfl
  refine one_ (i := 14) (N := some 35) #[true, true, true, true, true, true, true, true, true, true, true, true, true, true, true, false, false, false, false, false] rfl rfl (by kernel_rfl) (by decide) (fun K hK => ?_)
  refine goes_ Try.func86 (by kernel_rfl) rfl #[.pointer (some ⟨g1, 0, none⟩)] (by rfl) rfl rfl (by (try simp only [List.map_toArray, List.map_cons, List.map_nil]); first | done | rfl) ?_
  have hs_ := hHeld
  obtain ⟨s0, s1, s2, s3, s4, s5, s6, s7⟩ := hs_
  refine (impl_floor_wide.calls g1 cs1 rs1 _ _ _ s6 (Below.refl _ _) HH.out).mono ?_
  rintro e w12 ⟨rfl, -, hb, -⟩
  have HB12 := Aside0.mk (below_step s7 hb)
  refine ⟨_, rfl, ?_⟩
  refine hK.out _ _ ⟨pw_cell_below hb s0, pw_cell_below hb s1, pw_cell_below hb s2, pw_cell_below hb s3, pw_cell_below hb s4, pw_cell_below hb s5, FloorAt.below s6 hb, below_step s7 hb⟩ (fun hHeld => ?_)
  clear hK K hb s0 s1 s2 s3 s4 s5 s6 s7
  refine norm_ (a' := ?_) ?_ ?_
  rotate_left
  ·show Act.put _ (some 35) _ = _
   simp only [Act.put, List.setIfInBounds_toArray, List.set_cons_zero, List.set_cons_succ, i64_w, i32_w]
   rfl
  refine pure_ (i := 15) (N := some 36) (v := ?_) (a' := ?_) #[true, true, true, true, true, true, true, true, true, true, true, true, true, true, true, true, false, false, false, false] rfl rfl (by kernel_rfl) (fun _ _ _ h => h) (Or.inl ⟨by rfl, ?_⟩) ?_ ?_
  rotate_left
  ·intro w'
   go_simp
   with_reducible rfl
  rotate_left
  ·simp only [Act.put, List.setIfInBounds_toArray, List.set_cons_zero, List.set_cons_succ, i64_w, i32_w]
   rfl
  refine pure_ (i := 16) (N := some 37) (v := ?_) (a' := ?_) #[true, true, true, true, true, true, true, true, true, true, true, true, true, true, true, true, true, false, false, false] rfl rfl (by kernel_rfl) (fun _ _ _ h => h) (Or.inl ⟨by rfl, ?_⟩) ?_ ?_
  rotate_left
  ·intro w'
   go_simp
   with_reducible rfl
  rotate_left
  ·simp only [Act.put, List.setIfInBounds_toArray, List.set_cons_zero, List.set_cons_succ, i64_w, i32_w]
   rfl
  refine take_ (i := 17) (N := some 38) (v := ?_) (a' := ?_) #[true, true, true, true, true, true, true, true, true, true, true, true, true, true, true, true, true, true, false, false] rfl rfl (by kernel_rfl) (fun _ _ _ h => h) (Or.inl ⟨by rfl, ?_⟩) hHeld ?_ ?_
  rotate_left
  ·rintro w' ⟨s0, s1, s2, s3, s4, s5, s6, s7⟩
   go_simp
   with_reducible rfl
  rotate_left
  ·simp only [Act.put, List.setIfInBounds_toArray, List.set_cons_zero, List.set_cons_succ, i64_w, i32_w]
   rfl
  refine pure_ (i := 18) (N := some 39) (v := ?_) (a' := ?_) #[true, true, true, true, true, true, true, true, true, true, true, true, true, true, true, true, true, true, true, false] rfl rfl (by kernel_rfl) (fun _ _ _ h => h) (Or.inl ⟨by rfl, ?_⟩) ?_ ?_
  rotate_left
  ·intro w'
   go_simp
   with_reducible rfl
  rotate_left
  ·simp only [Act.put, List.setIfInBounds_toArray, List.set_cons_zero, List.set_cons_succ, i64_w, i32_w]
   rfl
  refine pure_ (i := 19) (N := some 6) (v := ?_) (a' := ?_) #[true, true, true, true, true, true, true, true, true, true, true, true, true, true, true, true, true, true, true, true] rfl rfl (by kernel_rfl) (fun _ _ _ h => h) (Or.inl ⟨by rfl, ?_⟩) ?_ ?_
  rotate_left
  ·intro w'
   go_simp
   with_reducible rfl
  rotate_left
  ·simp only [Act.put, List.setIfInBounds_toArray, List.set_cons_zero, List.set_cons_succ, i64_w, i32_w]
   rfl
  refine done_ (by kernel_rfl) ?_
  go_wp2
  go_ret
  exact ⟨by rw [HG.out]; rfl, HB12.out⟩
set_option maxHeartbeats 4000000 in
set_option maxRecDepth 100000 in
theorem beside_fn (w : World) : How2Fn Try.prog 94 #[] w (fun a b => (a.length : Int) == (b.length : Int)) (fun a r b => gridOf a.length (wideOf a + wideOf b) (besideG a r b)) := by
 intro W g1 g2 cs1 cs2 rs1 rs2 hk1 hk2 hfit hf1 hf2 hS
 have hw : cs1.length = cs2.length := by
  have z : ((cs1.length : Int) == (cs2.length : Int)) = true := hfit
  rw [beq_iff_eq] at z
  omega
 have HK1 := Aside0.mk hk1
 have HK2 := Aside0.mk hk2
 have HF1 := Aside0.mk hf1
 have HF2 := Aside0.mk hf2
 have HW := Aside0.mk hw
 have H1 := Aside0.mk (high_f cs1 rs1)
 have H2 := Aside0.mk (high_f cs2 rs2)
 have W1 := Aside0.mk (wide_f hk1)
 have W2 := Aside0.mk (wide_f hk2)
 have a1 := hk1.h6
 have a2 := hk2.h6
 have a3 := hk1.w6
 have a4 := hk2.w6
 have e1 : wrap64 ((cs1.length : Int) + (cs2.length : Int)) = ((cs1.length + cs2.length : Nat) : Int) := by rw [wrap64_small (by omega) (by omega)]; omega
 have e2 : wrap64 ((wideOf cs1 : Int) + (wideOf cs2 : Int)) = ((wideOf cs1 + wideOf cs2 : Nat) : Int) := by rw [wrap64_small (by omega) (by omega)]; omega
 generalize hN : cs1.length + cs2.length = sumH at *
 generalize hM : wideOf cs1 + wideOf cs2 = sumW at *
 have HN := Aside0.mk hN
 have HM := Aside0.mk hM
 have b1 : sumH ≤ 1048576 := by omega
 have b2 : sumW ≤ 1048576 := by omega
 clear hk1 hk2 hf1 hf2 hw hfit hS hN hM
 show Calls Try.prog _ #[.pointer (some ⟨g1, 0, none⟩), .pointer (some ⟨g2, 0, none⟩)] _ _
 go_enter Try.func94, Try.ntmps94
 go_upto_region 1 with (first
  | ((with_reducible refine gate_dst (N := 2) rfl ?_); refine box_event ?hg (N := 2) ?hd (cs := #[.pointer (some ⟨g1, 0, none⟩)]) (t := 50) ?hr ?_; (case hd => rfl); (case hg => rfl); (case hr => first | (go_simp; done) | (go_simp; rfl)); intro p1 hq1 w1 hbox hb; have HB1 := Aside0.mk hb; have HX1 := Aside0.mk hbox; clear hb hbox hq1)
  | ((with_reducible refine gate_dst (N := 3) rfl ?_); refine box_event ?hg (N := 3) ?hd (cs := #[.pointer (some ⟨g2, 0, none⟩)]) (t := 50) ?hr ?_; (case hd => rfl); (case hg => rfl); (case hr => first | (go_simp; done) | (go_simp; rfl)); intro p2 hq2 w2 hbox hb; have HB2 := Aside0.mk (below_step HB1.out hb); have hp1 : w2.cell? ⟨p1, 0, none⟩ = some (.pointer (some ⟨g1, 0, none⟩)) := pw_cell_below hb (box_cell HX1.out); have hp2 : w2.cell? ⟨p2, 0, none⟩ = some (.pointer (some ⟨g2, 0, none⟩)) := box_cell hbox; clear hb hbox hq2))
 have HF1b := Aside0.mk (HF1.out.below HB2.out)
 have HF2b := Aside0.mk (HF2.out.below HB2.out)
 refine start_ (n := 10) (S := fun w' => (w'.cell? ⟨p1, 0, none⟩ = some (.pointer (some ⟨g1, 0, none⟩))) ∧ (w'.cell? ⟨p2, 0, none⟩ = some (.pointer (some ⟨g2, 0, none⟩))) ∧ (FloorAt w' g1 cs1 rs1) ∧ (FloorAt w' g2 cs2 rs2) ∧ (Below W.heap.size W w')) (ds := []) #[false, false, false, false, false, false, false, false, false, false] (by kernel_rfl) rfl rfl (⟨hp1, hp2, HF1b.out, HF2b.out, ⟨HB2.out.os, HB2.out.tape, HB2.out.output, HB2.out.size, HB2.out.block⟩⟩) (fun hHeld => ?_)
 clear hp1 hp2
 refine take_ (i := 0) (N := some 5) (v := ?_) (a' := ?_) #[true, false, false, false, false, false, false, false, false, false] rfl rfl (by kernel_rfl) (fun _ _ _ h => h) (Or.inl ⟨by rfl, ?_⟩) hHeld ?_ ?_
 rotate_left
 ·rintro w' ⟨s0, s1, s2, s3, s4⟩
  go_simp
  with_reducible rfl
 rotate_left
 ·simp only [Act.put, List.setIfInBounds_toArray, List.set_cons_zero, List.set_cons_succ, i64_w, i32_w]
  rfl
 refine take_ (i := 2) (N := some 7) (v := ?_) (a' := ?_) #[true, false, true, false, false, false, false, false, false, false] rfl rfl (by kernel_rfl) (fun _ _ _ h => h) (Or.inl ⟨by rfl, ?_⟩) hHeld ?_ ?_
 rotate_left
 ·rintro w' ⟨s0, s1, s2, s3, s4⟩
  go_simp
  with_reducible rfl
 rotate_left
 ·simp only [Act.put, List.setIfInBounds_toArray, List.set_cons_zero, List.set_cons_succ, i64_w, i32_w]
  rfl
 refine take_ (i := 4) (N := some 9) (v := ?_) (a' := ?_) #[true, false, true, false, true, false, false, false, false, false] rfl rfl (by kernel_rfl) (fun _ _ _ h => h) (Or.inl ⟨by rfl, ?_⟩) hHeld ?_ ?_
 rotate_left
 ·rintro w' ⟨s0, s1, s2, s3, s4⟩
  go_simp
  with_reducible rfl
 rotate_left
 ·simp only [Act.put, List.setIfInBounds_toArray, List.set_cons_zero, List.set_cons_succ, i64_w, i32_w]
  rfl
 refine pure_ (i := 7) (N := some 12) (v := ?_) (a' := ?_) #[true, false, true, false, true, false, false, true, false, false] rfl rfl (by kernel_rfl) (fun _ _ _ h => h) (Or.inl ⟨by rfl, ?_⟩) ?_ ?_
 rotate_left
 ·intro w'
  go_simp
  with_reducible rfl
 rotate_left
 ·simp only [Act.put, List.setIfInBounds_toArray, List.set_cons_zero, List.set_cons_succ, i64_w, i32_w]
  rfl
 refine one_ (i := 1) (N := some 6) #[true, true, true, false, true, false, false, true, false, false] rfl rfl (by kernel_rfl) (by decide) (fun K hK => ?_)
 refine goes_ Try.func85 (by kernel_rfl) rfl #[.pointer (some ⟨g1, 0, none⟩)] (by rfl) rfl rfl (by (try simp only [List.map_toArray, List.map_cons, List.map_nil]); first | done | rfl) ?_
 have hs_ := hHeld
 obtain ⟨s0, s1, s2, s3, s4⟩ := hs_
 refine (impl_floor_high.calls g1 cs1 rs1 _ _ _ s2 (Below.refl _ _) H1.out).mono ?_
 rintro e w16 ⟨rfl, -, hb, -⟩
 refine ⟨_, rfl, ?_⟩
 refine hK.out _ _ ⟨pw_cell_below hb s0, pw_cell_below hb s1, FloorAt.below s2 hb, FloorAt.below s3 hb, below_step s4 hb⟩ (fun hHeld => ?_)
 clear hK K hb s0 s1 s2 s3 s4
 refine norm_ (a' := ?_) ?_ ?_
 rotate_left
 ·show Act.put _ (some 6) _ = _
  simp only [Act.put, List.setIfInBounds_toArray, List.set_cons_zero, List.set_cons_succ, i64_w, i32_w]
  rfl
 refine one_ (i := 3) (N := some 8) #[true, true, true, true, true, false, false, true, false, false] rfl rfl (by kernel_rfl) (by decide) (fun K hK => ?_)
 refine goes_ Try.func86 (by kernel_rfl) rfl #[.pointer (some ⟨g1, 0, none⟩)] (by rfl) rfl rfl (by (try simp only [List.map_toArray, List.map_cons, List.map_nil]); first | done | rfl) ?_
 have hs_ := hHeld
 obtain ⟨s0, s1, s2, s3, s4⟩ := hs_
 refine (impl_floor_wide.calls g1 cs1 rs1 _ _ _ s2 (Below.refl _ _) W1.out).mono ?_
 rintro e w18 ⟨rfl, -, hb, -⟩
 refine ⟨_, rfl, ?_⟩
 refine hK.out _ _ ⟨pw_cell_below hb s0, pw_cell_below hb s1, FloorAt.below s2 hb, FloorAt.below s3 hb, below_step s4 hb⟩ (fun hHeld => ?_)
 clear hK K hb s0 s1 s2 s3 s4
 refine norm_ (a' := ?_) ?_ ?_
 rotate_left
 ·show Act.put _ (some 8) _ = _
  simp only [Act.put, List.setIfInBounds_toArray, List.set_cons_zero, List.set_cons_succ, i64_w, i32_w]
  rfl
 refine one_ (i := 5) (N := some 10) #[true, true, true, true, true, true, false, true, false, false] rfl rfl (by kernel_rfl) (by decide) (fun K hK => ?_)
 refine goes_ Try.func86 (by kernel_rfl) rfl #[.pointer (some ⟨g2, 0, none⟩)] (by rfl) rfl rfl (by (try simp only [List.map_toArray, List.map_cons, List.map_nil]); first | done | rfl) ?_
 have hs_ := hHeld
 obtain ⟨s0, s1, s2, s3, s4⟩ := hs_
 refine (impl_floor_wide.calls g2 cs2 rs2 _ _ _ s3 (Below.refl _ _) W2.out).mono ?_
 rintro e w110 ⟨rfl, -, hb, -⟩
 refine ⟨_, rfl, ?_⟩
 refine hK.out _ _ ⟨pw_cell_below hb s0, pw_cell_below hb s1, FloorAt.below s2 hb, FloorAt.below s3 hb, below_step s4 hb⟩ (fun hHeld => ?_)
 clear hK K hb s0 s1 s2 s3 s4
 refine norm_ (a' := ?_) ?_ ?_
 rotate_left
 ·show Act.put _ (some 10) _ = _
  simp only [Act.put, List.setIfInBounds_toArray, List.set_cons_zero, List.set_cons_succ, i64_w, i32_w]
  rfl
 refine pure_ (i := 6) (N := some 11) (v := ?_) (a' := ?_) #[true, true, true, true, true, true, true, true, false, false] rfl rfl (by kernel_rfl) (fun _ _ _ h => h) (Or.inl ⟨by rfl, ?_⟩) ?_ ?_
 rotate_left
 ·intro w'
  go_simp
  with_reducible rfl
 rotate_left
 ·simp only [Act.put, List.setIfInBounds_toArray, List.set_cons_zero, List.set_cons_succ, i64_w, i32_w]
  rfl
 refine one_ (i := 8) (N := some 13) #[true, true, true, true, true, true, true, true, true, false] rfl rfl (by kernel_rfl) (by decide) (fun K hK => ?_)
 refine goes_ Try.func84 (by kernel_rfl) rfl #[.int .i64 (cs1.length : Int), .int .i64 (wrap64 ((wideOf cs1 : Int) + (wideOf cs2 : Int))), .func (.func 110) #[] #[.pointer (some ⟨p1, 0, none⟩), .pointer (some ⟨p2, 0, none⟩)]] (by rfl) rfl rfl (by (try simp only [List.map_toArray, List.map_cons, List.map_nil]); first | done | rfl) ?_
 have hs_ := hHeld
 obtain ⟨s0, s1, s2, s3, s4⟩ := hs_
 refine calls_of_args (args' := #[.int .i64 (cs1.length : Int), .int .i64 (sumW : Int), .func (.func 110) #[] #[.pointer (some ⟨p1, 0, none⟩), .pointer (some ⟨p2, 0, none⟩)]]) (by rw [e2]) ?_
 refine (blank_reads 110 Try.f110 Try.func110 (by kernel_rfl) rfl _ cs1.length sumW _ _ (by have z := beside1_read _ p1 p2 g1 g2 cs1 cs2 rs1 rs2 HK1.out HK2.out HW.out s2 s3 s0 s1; (first | rw [HN.out] at z | rw [HM.out] at z); exact z) (by omega) (by omega)).mono ?_
 rintro e w14 ⟨A14, c14, rfl, hl14, hC14, hb⟩
 have HC14 := Aside0.mk hC14
 have HL14 := Aside0.mk hl14
 have HB14 := Aside0.mk (below_step s4 hb)
 clear hC14 hl14
 refine ⟨_, rfl, ?_⟩
 refine hK.out _ _ ⟨pw_cell_below hb s0, pw_cell_below hb s1, FloorAt.below s2 hb, FloorAt.below s3 hb, below_step s4 hb⟩ (fun hHeld => ?_)
 clear hK K hb s0 s1 s2 s3 s4
 refine norm_ (a' := ?_) ?_ ?_
 rotate_left
 ·show Act.put _ (some 13) _ = _
  simp only [Act.put, List.setIfInBounds_toArray, List.set_cons_zero, List.set_cons_succ, i64_w, i32_w]
  rfl
 refine pure_ (i := 9) (N := some 4) (v := ?_) (a' := ?_) #[true, true, true, true, true, true, true, true, true, true] rfl rfl (by kernel_rfl) (fun _ _ _ h => h) (Or.inl ⟨by rfl, ?_⟩) ?_ ?_
 rotate_left
 ·intro w'
  go_simp
  with_reducible rfl
 rotate_left
 ·simp only [Act.put, List.setIfInBounds_toArray, List.set_cons_zero, List.set_cons_succ, i64_w, i32_w]
  rfl
 refine done_ (by kernel_rfl) ?_
 go_wp2
 go_ret
 first | rw [HN.out] | rw [HM.out]
 exact ⟨A14, c14, rfl, HL14.out, HC14.out, HB14.out⟩
def besideF (p q : List ByteArray) : List ByteArray × Bool := joinedF p q (fun a b => (a.length : Int) == (b.length : Int)) (fun a r b => gridOf a.length (wideOf a + wideOf b) (besideG a r b))
set_option maxHeartbeats 4000000 in
set_option maxRecDepth 100000 in
theorem PlanBeside_calls (A0 : Option Addr) (c0 : Nat) (l0 : List ByteArray) (A1 : Option Addr) (c1 : Nat) (l1 : List ByteArray) (w : World) (hr0 : Kd.C Kd.string w A0 l0.length l0) (hc0 : l0.length ≤ c0) (hp : smallP l0) (hr1 : Kd.C Kd.string w A1 l1.length l1) (hc1 : l1.length ≤ c1) (hp1 : smallP l1) :
  Calls Try.prog 47 #[.slice A0 l0.length c0, .slice A1 l1.length c1] w (PlanRes w (besideF l0 l1)) := by
 have HJ := Aside0.mk (joined_calls 93 94 _ _ Try.func93 (by kernel_rfl) rfl Try.func94 (by kernel_rfl) rfl #[] #[] (fun a b => (a.length : Int) == (b.length : Int)) (fun a r b => gridOf a.length (wideOf a + wideOf b) (besideG a r b)) (fun cs1 rs1 cs2 rs2 hk1 hk2 hfit => grid_vals fun r c hr hc => by
  have hw : cs1.length = cs2.length := by
   have z : ((cs1.length : Int) == (cs2.length : Int)) = true := hfit
   rw [beq_iff_eq] at z
   omega
  have m1 := hk1.many
  have m2 := hk2.many
  unfold besideG
  split
  ·have := valAt_range hk1 r c (by omega) (by omega)
   omega
  ·have := valAt_range hk2 r (c - wideOf cs1) (by omega) (by omega)
   omega) A0 c0 l0 A1 c1 l1 w hr0 hc0 hp hr1 hc1 hp1 (fitH_fn w) (beside_fn w))
 clear hr0 hc0 hp hr1 hc1 hp1
 go_enter Try.func47, Try.ntmps47
 go_wp2_with (first
  | (go_at_call 92; refine HJ.out.mono ?_; rintro e w9 ⟨v9, rfl, hr9, hb9⟩; have HR9 := Aside0.mk hr9; have HB9 := Aside0.mk hb9; clear hr9 hb9))
 go_ret2
 exact ⟨v9, rfl, HR9.out, HB9.out⟩
end Go.Proofs.Ytacdgeoleeedpaa.Hd
namespace Go.Proofs.Ytacdgeoleeedpaa.Hd
open Go.RowKit Go.Proofs.YtacdgeoleeedpaaW.PrintWords Go.Proofs.YtacdgeoleeedpaaW.PrintLast Go.Proofs.YtacdgeoleeedpaaW.PrintMore Go.Proofs.Ytacdgeoleeedpaa.PB
set_option linter.unusedVariables false
set_option linter.unusedSimpArgs false
def impl_PlanBeside.f (l0 l1 : List ByteArray) : Option (List ByteArray × Bool) := if smallB l0 = true ∧ smallB l1 = true then some (besideF l0 l1) else none
theorem impl_PlanBeside.calls (A0 : Option Addr) (c0 : Nat) (l0 : List ByteArray) (A1 : Option Addr) (c1 : Nat) (l1 : List ByteArray) (r1 : List ByteArray) (r2 : Bool) (w : World) (hr0 : Kd.C Kd.string w A0 l0.length l0) (hc0 : l0.length ≤ c0) (hr1 : Kd.C Kd.string w A1 l1.length l1) (hc1 : l1.length ≤ c1) (h : impl_PlanBeside.f l0 l1 = some (r1, r2)) :
  Calls Try.prog 47 #[.slice A0 l0.length c0, .slice A1 l1.length c1] w fun e w' => ∃ v0_ : Value, e = .returned (.tuple #[v0_, .bool r2]) ∧ Kd.R Kd.string 9 w' w.heap.size (fun _ => True) v0_ r1 ∧ Below w.heap.size w w' := by
 unfold impl_PlanBeside.f at h
 split at h
 ·rename_i hs
  have e := Option.some.inj h
  have := PlanBeside_calls A0 c0 l0 A1 c1 l1 w hr0 hc0 ((smallB_iff _).1 hs.1) hr1 hc1 ((smallB_iff _).1 hs.2)
  rw [e] at this
  exact this
 ·cases h
end Go.Proofs.Ytacdgeoleeedpaa.Hd
namespace Go.Proofs.Ytacdgeoleeedpaa.LU
open Go.Proofs.Ytacdgeoleeedpaa.PB Go.Proofs.Ytacdgeoleeedpaa.Hd Go.Proofs.Ytacdgeoleeedpaa.SM
open Go.RowKit Go.Proofs.YtacdgeoleeedpaaW.PrintWords Go.Proofs.YtacdgeoleeedpaaW.PrintLast Go.Proofs.YtacdgeoleeedpaaW.PrintMore
attribute [local go_sem] max2_int min2_int max_two min_two max_three min_three max_four min_four   -- for this text's walks alone
set_option linter.unusedVariables false
set_option linter.unusedSimpArgs false
def errW : Option Int → Value
 | none => .nilIface
 | some c => .iface 0 (.int .i64 c)
theorem errW_none : errW none = .nilIface := rfl
theorem errW_some (c : Int) : errW (some c) = .iface 0 (.int .i64 c) := rfl
theorem info5 : (Try.prog.info? 5).map (fun i => (i.zero, i.size, i.bytes)) = some (some (.int .u8 0), 1, 1) := by kernel_rfl
theorem info9 : (Try.prog.info? 9).map (fun i => (i.zero, i.size, i.bytes)) = some (some (.string ⟨#[]⟩), 1, 16) := by kernel_rfl
structure S60 where
 f0 : Int
 f1 : Int
 f2 : Int
 f3 : Int
def z60 : S60 := ⟨(0 : Int), (0 : Int), (0 : Int), (0 : Int)⟩
def k60 : Kd S60 := Kd.iso (Kd.pair (Kd.int .i64) (Kd.pair (Kd.int .i64) (Kd.pair (Kd.int .i64) (Kd.int .i64)))) (fun x : S60 => (x.f0, x.f1, x.f2, x.f3))
theorem k60_open {w : World} {x : S60} {cs : List Value} (h : k60.K w x cs) : cs = [.int .i64 x.f0, .int .i64 x.f1, .int .i64 x.f2, .int .i64 x.f3] := by
 obtain ⟨_, _, rfl, rfl, ⟨_, _, rfl, rfl, ⟨_, _, rfl, rfl, rfl⟩⟩⟩ := h
 exact rfl
theorem k60_mkM (w : World) (base : Nat) (ok : Nat → Prop) (x : S60)  : k60.M w base ok x [.int .i64 x.f0, .int .i64 x.f1, .int .i64 x.f2, .int .i64 x.f3] := ⟨[.int .i64 x.f0], [.int .i64 x.f1, .int .i64 x.f2, .int .i64 x.f3], rfl, rfl, ⟨[.int .i64 x.f1], [.int .i64 x.f2, .int .i64 x.f3], rfl, rfl, ⟨[.int .i64 x.f2], [.int .i64 x.f3], rfl, rfl, rfl⟩⟩⟩
def rd_T60 (xs : List S60) (i : Int) : S60 := xs.getD i.toNat z60
theorem at_T60 {w : World} {A : Option Addr} {n : Nat} {xs : List S60} (h : Kd.C k60 w A n xs) (i : Int) (h0 : 0 ≤ i) (h1 : i < n) : ∃ ad , A = some ad ∧ w.cell? (ad.add (i.toNat * 4)) = some (.int .i64 (rd_T60 xs i).f0) ∧ w.cell? ⟨(ad.add (i.toNat * 4)).block, (ad.add (i.toNat * 4)).off + 1, none⟩ = some (.int .i64 (rd_T60 xs i).f1) ∧ w.cell? ⟨(ad.add (i.toNat * 4)).block, (ad.add (i.toNat * 4)).off + 2, none⟩ = some (.int .i64 (rd_T60 xs i).f2) ∧ w.cell? ⟨(ad.add (i.toNat * 4)).block, (ad.add (i.toNat * 4)).off + 3, none⟩ = some (.int .i64 (rd_T60 xs i).f3) := by
 obtain ⟨ad, c, e, _, hK, hc0⟩ := Kd.C_get h z60 i h0 h1
 have hc : ∀ j u, c[j]? = some u → w.cell? (ad.add (i.toNat * 4 + j)) = some u := hc0
 obtain rfl := k60_open hK
 exact ⟨ad, e, hc 0 _ rfl, by rw [← add_field _ _ 1 (by omega)]; exact hc 1 _ rfl, by rw [← add_field _ _ 2 (by omega)]; exact hc 2 _ rfl, by rw [← add_field _ _ 3 (by omega)]; exact hc 3 _ rfl⟩
end Go.Proofs.Ytacdgeoleeedpaa.LU
namespace Go.Proofs.Ytacdgeoleeedpaa.LU
open Go.Proofs.Ytacdgeoleeedpaa.PB Go.Proofs.Ytacdgeoleeedpaa.Hd Go.Proofs.Ytacdgeoleeedpaa.SM
open Go.RowKit Go.Proofs.YtacdgeoleeedpaaW.PrintWords Go.Proofs.YtacdgeoleeedpaaW.PrintLast Go.Proofs.YtacdgeoleeedpaaW.PrintMore
attribute [local go_sem] max2_int min2_int max_two min_two max_three min_three max_four min_four   -- for this text's walks alone
set_option linter.unusedVariables false
set_option linter.unusedSimpArgs false
def laws_FnUnder.j0 : Nat → List ByteArray → List ByteArray → List ByteArray → Bool → List ByteArray → Bool → Bool → Option (Bool)
 | 0, _, _, _, _, _, _, _ => none
 | k + 1, x3, x4, x5, x6, x7, x8, x49 => if x49 = true then (if (x6 == x8) = true then ((laws_sameTexts.f k x5 x7).bind fun t340 => (some t340)) else (some false)) else ((impl_PlanTrans.f x3).bind fun bt341 => ((impl_PlanTrans.f x4).bind fun bt345 => ((impl_PlanBeside.f bt341.1 bt345.1).bind fun bt349 => ((impl_PlanTrans.f x5).bind fun bt353 => (if bt341.2 = true then (if bt345.2 = true then (if bt349.2 = true then (if bt353.2 = true then ((laws_sameTexts.f k bt349.1 bt353.1).bind fun t357 => (some t357)) else (some false)) else (some false)) else (some false)) else (some false))))))
def laws_FnUnder.f (k : Nat) (l0 : List Int) : Option (Bool) := if (l0.length : Int) > 1048576 then (some true) else ((spec_DrawPlanUnder.f k l0).bind fun bt325 => ((impl_PlanUnder.f bt325.1 bt325.2).bind fun bt331 => ((spec_PlanUnder.f k bt325.1 bt325.2).bind fun bt335 => (if (bt331.2 != bt335.2) = true then (laws_FnUnder.j0 k bt325.1 bt325.2 bt331.1 bt331.2 bt335.1 bt335.2 true) else ((laws_sameTexts.f k bt331.1 bt335.1).bind fun t339 => (if t339 = true then (laws_FnUnder.j0 k bt325.1 bt325.2 bt331.1 bt331.2 bt335.1 bt335.2 (!bt331.2)) else (laws_FnUnder.j0 k bt325.1 bt325.2 bt331.1 bt331.2 bt335.1 bt335.2 true)))))))
set_option maxHeartbeats 8000000 in
set_option maxRecDepth 100000 in
theorem laws_FnUnder.calls (k : Nat) (A0 : Option Addr) (c0 : Nat) (l0 : List Int) (r : Bool) (w : World) (hr0 : Kd.C (Kd.int .u8) w A0 l0.length l0) (hc0 : l0.length ≤ c0) (h : laws_FnUnder.f k l0 = some r) :
  Calls Try.prog 13 #[.slice A0 l0.length c0] w fun e w' => e = .returned (.bool r) ∧ Below w.heap.size w w' := by
 have HR0 := Aside0.mk hr0
 have HC0 := Aside0.mk hc0
 clear hr0 hc0
 have HB := Aside0.mk (Below.refl w.heap.size w)
 have H : (if (l0.length : Int) > 1048576 then (some true) else ((spec_DrawPlanUnder.f k l0).bind fun bt325 => ((impl_PlanUnder.f bt325.1 bt325.2).bind fun bt331 => ((spec_PlanUnder.f k bt325.1 bt325.2).bind fun bt335 => (if (bt331.2 != bt335.2) = true then (laws_FnUnder.j0 k bt325.1 bt325.2 bt331.1 bt331.2 bt335.1 bt335.2 true) else ((laws_sameTexts.f k bt331.1 bt335.1).bind fun t339 => (if t339 = true then (laws_FnUnder.j0 k bt325.1 bt325.2 bt331.1 bt331.2 bt335.1 bt335.2 (!bt331.2)) else (laws_FnUnder.j0 k bt325.1 bt325.2 bt331.1 bt331.2 bt335.1 bt335.2 true)))))))) = some r := h
 clear h
 by_cases c2 : (l0.length : Int) > 1048576
 ·rw [if_pos c2] at H
  have c2b0 : decide (1048576 < (l0.length : Int)) = true := decide_eq_true c2
  have c2b1 : decide (1048576 < l0.length) = true := decide_eq_true (by omega)
  clear c2
  obtain rfl := Option.some.inj H
  go_enter Try.func13, Try.ntmps13
  go_wp2
  go_ret
  exact ⟨by first | rfl | (simp [errW_none, errW_some] <;> rfl) | (simp [*, errW_none, errW_some] <;> rfl), by repeat (first | (with_reducible first | exact HB.out | apply below_alloc | apply pw_below_drewN | apply below_drew1) | exact HB.out)⟩
 ·rw [if_neg c2] at H
  have c2b0 : decide (1048576 < (l0.length : Int)) = false := decide_eq_false c2
  have c2b1 : decide (1048576 < l0.length) = false := decide_eq_false (by omega)
  clear c2
  replace H := Option.bind_eq_some_iff.mp H
  obtain ⟨⟨t325, t328⟩, A30, H⟩ := H
  replace H : ((impl_PlanUnder.f t325 t328).bind fun bt331 => ((spec_PlanUnder.f k t325 t328).bind fun bt335 => (if (bt331.2 != bt335.2) = true then (laws_FnUnder.j0 k t325 t328 bt331.1 bt331.2 bt335.1 bt335.2 true) else ((laws_sameTexts.f k bt331.1 bt335.1).bind fun t339 => (if t339 = true then (laws_FnUnder.j0 k t325 t328 bt331.1 bt331.2 bt335.1 bt335.2 (!bt331.2)) else (laws_FnUnder.j0 k t325 t328 bt331.1 bt331.2 bt335.1 bt335.2 true)))))) = some r := H
  have A3 := Aside0.mk A30
  clear A30
  replace H := Option.bind_eq_some_iff.mp H
  obtain ⟨⟨t331, t332⟩, A40, H⟩ := H
  replace H : ((spec_PlanUnder.f k t325 t328).bind fun bt335 => (if (t332 != bt335.2) = true then (laws_FnUnder.j0 k t325 t328 t331 t332 bt335.1 bt335.2 true) else ((laws_sameTexts.f k t331 bt335.1).bind fun t339 => (if t339 = true then (laws_FnUnder.j0 k t325 t328 t331 t332 bt335.1 bt335.2 (!t332)) else (laws_FnUnder.j0 k t325 t328 t331 t332 bt335.1 bt335.2 true))))) = some r := H
  have A4 := Aside0.mk A40
  clear A40
  replace H := Option.bind_eq_some_iff.mp H
  obtain ⟨⟨t335, t336⟩, A50, H⟩ := H
  replace H : (if (t332 != t336) = true then (laws_FnUnder.j0 k t325 t328 t331 t332 t335 t336 true) else ((laws_sameTexts.f k t331 t335).bind fun t339 => (if t339 = true then (laws_FnUnder.j0 k t325 t328 t331 t332 t335 t336 (!t332)) else (laws_FnUnder.j0 k t325 t328 t331 t332 t335 t336 true)))) = some r := H
  have A5 := Aside0.mk A50
  clear A50
  have HC6 := Aside0.mk H
  clear H
  go_enter Try.func13, Try.ntmps13
  go_upto_region 6 with (first | ((with_reducible refine gate_callee (f := 49) rfl ?_); refine goesL_ (some 22) rfl rfl Try.func49 (by kernel_rfl) rfl #[.slice A0 l0.length c0] rfl (by (try simp only [List.map_toArray, List.map_cons, List.map_nil]); first | done | rfl | (simp only [List.length_drop, List.length_take]; rfl)) ?_; (with_reducible refine (spec_DrawPlanUnder.calls k _ _ l0 t325 t328 _ ?side1 ?side2 A3.out).mono ?_); (case side1 => repeat (first | exact HR0.out | (with_reducible refine Kd.C_alloc ?_ _) | (with_reducible refine Kd.C_drewN ?_ _) | (with_reducible refine Kd.C_drew ?_))); (case side2 => exact HC0.out); rintro e w7 ⟨v326, v329, rfl, ho0, ho1, hb⟩; refine ⟨_, rfl, ?_⟩; have n0_ := Aside0.mk (Kd.V_lower (Kd.V_mono (ok' := fun k_ => True) ho0 (fun k_ hk_ => trivial)) (below_size (by repeat (first | (with_reducible first | exact HB.out | apply below_alloc | apply pw_below_drewN | apply below_drew1) | exact HB.out)))); have n1_ := Aside0.mk (Kd.V_lower (Kd.V_mono (ok' := fun k_ => True) ho1 (fun k_ hk_ => trivial)) (below_size (by repeat (first | (with_reducible first | exact HB.out | apply below_alloc | apply pw_below_drewN | apply below_drew1) | exact HB.out)))); have n2_ := Aside0.mk (below_step (by repeat (first | (with_reducible first | exact HB.out | apply below_alloc | apply pw_below_drewN | apply below_drew1) | exact HB.out)) hb); clear HB; have HO327 := n0_; have HO330 := n1_; have HB := n2_; clear n0_ n1_ n2_; (try clear hb); (try clear hb2); (try clear hk); (try clear hi); (try clear ho0); (try clear ho1); obtain ⟨Ao8, co8, eo8⟩ := Kd.V_slice HO327.out; subst eo8; obtain ⟨Ao9, co9, eo9⟩ := Kd.V_slice HO330.out; subst eo9) | ((with_reducible refine gate_callee (f := 50) rfl ?_); refine goesL_ (some 28) rfl rfl Try.func50 (by kernel_rfl) rfl #[.slice Ao8 t325.length co8, .slice Ao9 t328.length co9] rfl (by (try simp only [List.map_toArray, List.map_cons, List.map_nil]); first | done | rfl | (simp only [List.length_drop, List.length_take]; rfl)) ?_; (with_reducible refine (impl_PlanUnder.calls _ _ t325 _ _ t328 t331 t332 _ ?side1 ?side2 ?side3 ?side4 A4.out).mono ?_); (case side1 => repeat (first | exact (Kd.V_reads' HO327.out).2.2 | (with_reducible refine Kd.C_alloc ?_ _) | (with_reducible refine Kd.C_drewN ?_ _) | (with_reducible refine Kd.C_drew ?_))); (case side2 => exact (Kd.V_reads' HO327.out).2.1); (case side3 => repeat (first | exact (Kd.V_reads' HO330.out).2.2 | (with_reducible refine Kd.C_alloc ?_ _) | (with_reducible refine Kd.C_drewN ?_ _) | (with_reducible refine Kd.C_drew ?_))); (case side4 => exact (Kd.V_reads' HO330.out).2.1); rintro e w10 ⟨v333, rfl, ho0, hb⟩; refine ⟨_, rfl, ?_⟩; have n0_ := Aside0.mk (Kd.V_elder' (by (with_reducible repeat (first | apply Kd.V_alloc | apply Kd.V_drewN | apply Kd.V_drew)); exact HO327.out) (Kd.R_base ho0) hb); have n1_ := Aside0.mk (Kd.V_elder' (by (with_reducible repeat (first | apply Kd.V_alloc | apply Kd.V_drewN | apply Kd.V_drew)); exact HO330.out) (Kd.R_base ho0) hb); have n2_ := Aside0.mk (Kd.R_lower ho0 (below_size (by repeat (first | (with_reducible first | exact HB.out | apply below_alloc | apply pw_below_drewN | apply below_drew1) | exact HB.out)))); have n3_ := Aside0.mk (below_step (by repeat (first | (with_reducible first | exact HB.out | apply below_alloc | apply pw_below_drewN | apply below_drew1) | exact HB.out)) hb); clear HO327; clear HO330; clear HB; have HO327 := n0_; have HO330 := n1_; have HO334 := n2_; have HB := n3_; clear n0_ n1_ n2_ n3_; (try clear hb); (try clear hb2); (try clear hk); (try clear hi); (try clear ho0)) | ((with_reducible refine gate_callee (f := 51) rfl ?_); refine goesL_ (some 34) rfl rfl Try.func51 (by kernel_rfl) rfl #[.slice Ao8 t325.length co8, .slice Ao9 t328.length co9] rfl (by (try simp only [List.map_toArray, List.map_cons, List.map_nil]); first | done | rfl | (simp only [List.length_drop, List.length_take]; rfl)) ?_; (with_reducible refine (spec_PlanUnder.calls k _ _ t325 _ _ t328 t335 t336 _ ?side1 ?side2 ?side3 ?side4 A5.out).mono ?_); (case side1 => repeat (first | exact (Kd.V_reads' HO327.out).2.2 | (with_reducible refine Kd.C_alloc ?_ _) | (with_reducible refine Kd.C_drewN ?_ _) | (with_reducible refine Kd.C_drew ?_))); (case side2 => exact (Kd.V_reads' HO327.out).2.1); (case side3 => repeat (first | exact (Kd.V_reads' HO330.out).2.2 | (with_reducible refine Kd.C_alloc ?_ _) | (with_reducible refine Kd.C_drewN ?_ _) | (with_reducible refine Kd.C_drew ?_))); (case side4 => exact (Kd.V_reads' HO330.out).2.1); rintro e w11 ⟨v337, rfl, ho0, hb⟩; refine ⟨_, rfl, ?_⟩; have n0_ := Aside0.mk (Kd.V_elder' (by (with_reducible repeat (first | apply Kd.V_alloc | apply Kd.V_drewN | apply Kd.V_drew)); exact HO327.out) (Kd.R_base ho0) hb); have n1_ := Aside0.mk (Kd.V_elder' (by (with_reducible repeat (first | apply Kd.V_alloc | apply Kd.V_drewN | apply Kd.V_drew)); exact HO330.out) (Kd.R_base ho0) hb); have n2_ := Aside0.mk (Kd.R_elder' (by (with_reducible repeat (first | apply Kd.R_alloc | apply Kd.R_drewN | apply Kd.R_drew)); exact HO334.out) (Kd.R_base ho0) hb); have n3_ := Aside0.mk (Kd.R_lower (Kd.R_new' ho0 (Kd.R_lt (by (with_reducible repeat (first | apply Kd.R_alloc | apply Kd.R_drewN | apply Kd.R_drew)); exact HO334.out))) (below_size (by repeat (first | (with_reducible first | exact HB.out | apply below_alloc | apply pw_below_drewN | apply below_drew1) | exact HB.out)))); have n4_ := Aside0.mk (below_step (by repeat (first | (with_reducible first | exact HB.out | apply below_alloc | apply pw_below_drewN | apply below_drew1) | exact HB.out)) hb); clear HO327; clear HO330; clear HO334; clear HB; have HO327 := n0_; have HO330 := n1_; have HO334 := n2_; have HO338 := n3_; have HB := n4_; clear n0_ n1_ n2_ n3_ n4_; (try clear hb); (try clear hb2); (try clear hk); (try clear hi); (try clear ho0)))
  (try simp only [Act.put, List.setIfInBounds_toArray, List.set_cons_zero, List.set_cons_succ])
  go_cut [49] (fun v49 wc => ∃ (kq : Nat) (x49_5 : Bool), v49 = .bool x49_5 ∧ Aside0 (laws_FnUnder.j0 kq t325 t328 t331 t332 t335 t336 x49_5 = some r) ∧ Aside0 (kq ≤ k) ∧ Aside0 (Kd.V Kd.string 9 wc w.heap.size (fun k_ => some k_ ≠ (v333 : Value).ownBlock ∧ some k_ ≠ (v337 : Value).ownBlock) (.slice Ao8 t325.length co8) t325) ∧ Aside0 (Kd.V Kd.string 9 wc w.heap.size (fun k_ => some k_ ≠ (v333 : Value).ownBlock ∧ some k_ ≠ (v337 : Value).ownBlock) (.slice Ao9 t328.length co9) t328) ∧ Aside0 (Kd.R Kd.string 9 wc w.heap.size (fun k_ => some k_ ≠ (v337 : Value).ownBlock) v333 t331) ∧ Aside0 (Kd.R Kd.string 9 wc w.heap.size (fun k_ => some k_ ≠ (v333 : Value).ownBlock) v337 t335) ∧ Aside0 (Below w.heap.size w wc))
  case first =>
   have H := HC6.out
   clear HC6
   by_cases c12 : (t332 != t336) = true
   ·rw [if_pos c12] at H
    have c12b0 : (t332 != t336) = true := c12
    (try (have c12b1 : decide (t332 = t336) = false := by simpa using c12))
    (try (have c12b2 : (t332 == t336) = false := by simpa using c12))
    (try (have c12b3 : ¬ (t332 = t336) := by simpa using c12))
    clear c12
    (first | rw [c12b0] | (simp only [i64_w, i32_w]; rw [c12b0]) | skip)
    have H' := Aside0.mk H
    clear H
    go_wp2
    go_meet
    case rel => exact ⟨_, (true), (by first | rfl | (simp; done) | (simp [*]; done)), H', ⟨by first | omega | exact Nat.le_refl _⟩, ⟨by (with_reducible repeat (first | apply Kd.V_alloc | apply Kd.V_drewN | apply Kd.V_drew)); exact Kd.V_mono HO327.out (fun _ hk => ⟨hk.1.2, hk.2⟩)⟩, ⟨by (with_reducible repeat (first | apply Kd.V_alloc | apply Kd.V_drewN | apply Kd.V_drew)); exact Kd.V_mono HO330.out (fun _ hk => ⟨hk.1.2, hk.2⟩)⟩, ⟨by (with_reducible repeat (first | apply Kd.R_alloc | apply Kd.R_drewN | apply Kd.R_drew)); exact Kd.R_mono HO334.out (fun _ hk => hk.2)⟩, ⟨by (with_reducible repeat (first | apply Kd.R_alloc | apply Kd.R_drewN | apply Kd.R_drew)); exact Kd.R_mono HO338.out (fun _ hk => hk.2)⟩, ⟨by repeat (first | (with_reducible first | exact HB.out | apply below_alloc | apply pw_below_drewN | apply below_drew1) | exact HB.out)⟩⟩
   ·rw [if_neg c12] at H
    have c12b0 : (t332 != t336) = false := by simpa using c12
    (try (have c12b1 : decide (t332 = t336) = true := by simpa using c12))
    (try (have c12b2 : (t332 == t336) = true := by simpa using c12))
    clear c12
    (first | rw [c12b0] | (simp only [i64_w, i32_w]; rw [c12b0]) | skip)
    replace H := Option.bind_eq_some_iff.mp H
    obtain ⟨t339, A130, H⟩ := H
    replace H : (if t339 = true then (laws_FnUnder.j0 k t325 t328 t331 t332 t335 t336 (!t332)) else (laws_FnUnder.j0 k t325 t328 t331 t332 t335 t336 true)) = some r := H
    have A13 := Aside0.mk A130
    clear A130
    by_cases c14 : t339 = true
    ·subst c14
     have H1 : (laws_FnUnder.j0 k t325 t328 t331 t332 t335 t336 (!t332)) = some r := by rw [if_pos rfl] at H; exact H
     clear H
     have H := H1
     clear H1
     have H' := Aside0.mk H
     clear H
     obtain ⟨Ao15, co15, eo15⟩ := Kd.R_slice HO334.out
     subst eo15
     obtain ⟨Ao16, co16, eo16⟩ := Kd.R_slice HO338.out
     subst eo16
     go_wp2_with (first | (go_at_call 31; (with_reducible refine (laws_sameTexts.calls k _ _ t331 _ _ t335 true _ ?side1 ?side2 ?side3 ?side4 A13.out).mono ?_); (case side1 => repeat (first | exact (Kd.R_reads' HO334.out).2.2 | (with_reducible refine Kd.C_alloc ?_ _) | (with_reducible refine Kd.C_drewN ?_ _) | (with_reducible refine Kd.C_drew ?_))); (case side2 => exact (Kd.R_reads' HO334.out).2.1); (case side3 => repeat (first | exact (Kd.R_reads' HO338.out).2.2 | (with_reducible refine Kd.C_alloc ?_ _) | (with_reducible refine Kd.C_drewN ?_ _) | (with_reducible refine Kd.C_drew ?_))); (case side4 => exact (Kd.R_reads' HO338.out).2.1); rintro e w' ⟨rfl, ⟨nd, rfl⟩⟩))
     go_meet
     case rel => exact ⟨_, (!t332), (by first | rfl | (simp; done) | (simp [*]; done)), H', ⟨by first | omega | exact Nat.le_refl _⟩, ⟨by (with_reducible repeat (first | apply Kd.V_alloc | apply Kd.V_drewN | apply Kd.V_drew)); exact Kd.V_mono HO327.out (fun _ hk => ⟨hk.1.2, hk.2⟩)⟩, ⟨by (with_reducible repeat (first | apply Kd.V_alloc | apply Kd.V_drewN | apply Kd.V_drew)); exact Kd.V_mono HO330.out (fun _ hk => ⟨hk.1.2, hk.2⟩)⟩, ⟨by (with_reducible repeat (first | apply Kd.R_alloc | apply Kd.R_drewN | apply Kd.R_drew)); exact Kd.R_mono HO334.out (fun _ hk => hk.2)⟩, ⟨by (with_reducible repeat (first | apply Kd.R_alloc | apply Kd.R_drewN | apply Kd.R_drew)); exact Kd.R_mono HO338.out (fun _ hk => hk.2)⟩, ⟨by repeat (first | (with_reducible first | exact HB.out | apply below_alloc | apply pw_below_drewN | apply below_drew1) | exact HB.out)⟩⟩
    ·replace c14 := Bool.eq_false_iff.mpr c14
     subst c14
     have H1 : (laws_FnUnder.j0 k t325 t328 t331 t332 t335 t336 true) = some r := by rw [if_neg (show ¬ (false = true) by decide)] at H; exact H
     clear H
     have H := H1
     clear H1
     have H' := Aside0.mk H
     clear H
     obtain ⟨Ao17, co17, eo17⟩ := Kd.R_slice HO334.out
     subst eo17
     obtain ⟨Ao18, co18, eo18⟩ := Kd.R_slice HO338.out
     subst eo18
     go_wp2_with (first | (go_at_call 31; (with_reducible refine (laws_sameTexts.calls k _ _ t331 _ _ t335 false _ ?side1 ?side2 ?side3 ?side4 A13.out).mono ?_); (case side1 => repeat (first | exact (Kd.R_reads' HO334.out).2.2 | (with_reducible refine Kd.C_alloc ?_ _) | (with_reducible refine Kd.C_drewN ?_ _) | (with_reducible refine Kd.C_drew ?_))); (case side2 => exact (Kd.R_reads' HO334.out).2.1); (case side3 => repeat (first | exact (Kd.R_reads' HO338.out).2.2 | (with_reducible refine Kd.C_alloc ?_ _) | (with_reducible refine Kd.C_drewN ?_ _) | (with_reducible refine Kd.C_drew ?_))); (case side4 => exact (Kd.R_reads' HO338.out).2.1); rintro e w' ⟨rfl, ⟨nd, rfl⟩⟩))
     go_meet
     case rel => exact ⟨_, (true), (by first | rfl | (simp; done) | (simp [*]; done)), H', ⟨by first | omega | exact Nat.le_refl _⟩, ⟨by (with_reducible repeat (first | apply Kd.V_alloc | apply Kd.V_drewN | apply Kd.V_drew)); exact Kd.V_mono HO327.out (fun _ hk => ⟨hk.1.2, hk.2⟩)⟩, ⟨by (with_reducible repeat (first | apply Kd.V_alloc | apply Kd.V_drewN | apply Kd.V_drew)); exact Kd.V_mono HO330.out (fun _ hk => ⟨hk.1.2, hk.2⟩)⟩, ⟨by (with_reducible repeat (first | apply Kd.R_alloc | apply Kd.R_drewN | apply Kd.R_drew)); exact Kd.R_mono HO334.out (fun _ hk => hk.2)⟩, ⟨by (with_reducible repeat (first | apply Kd.R_alloc | apply Kd.R_drewN | apply Kd.R_drew)); exact Kd.R_mono HO338.out (fun _ hk => hk.2)⟩, ⟨by repeat (first | (with_reducible first | exact HB.out | apply below_alloc | apply pw_below_drewN | apply below_drew1) | exact HB.out)⟩⟩
  case rest =>
   clear HC6
   try clear c1
   try clear c2
   try clear c2b0
   try clear c2b1
   try clear p2
   try clear c4
   try clear c5
   try clear c12
   try clear c12b0
   try clear c12b1
   try clear c12b2
   try clear c13
   try clear c14
   obtain ⟨kq, x49_5, rfl, HA, HJ5, HO_3, HO_4, HO_5, HO_7, HB⟩ := hcut
   cases kq with
   | zero => exact absurd HA.out (by simp [laws_FnUnder.j0])
   | succ kj5 =>
    have H := HA.out
    clear HA
    simp only [laws_FnUnder.j0] at H
    by_cases c19 : x49_5 = true
    ·subst c19
     have H1 : (if (t332 == t336) = true then ((laws_sameTexts.f kj5 t331 t335).bind fun t340 => (some t340)) else (some false)) = some r := by rw [if_pos rfl] at H; exact H
     clear H
     have H := H1
     clear H1
     by_cases c20 : (t332 == t336) = true
     ·rw [if_pos c20] at H
      have c20b0 : (t332 == t336) = true := c20
      (try (have c20b1 : decide (t332 = t336) = true := by simpa using c20))
      (try (have c20b2 : (t332 == t336) = true := by simpa using c20))
      clear c20
      replace H := Option.bind_eq_some_iff.mp H
      obtain ⟨t340, A210, H⟩ := H
      replace H : (some t340) = some r := H
      have A21 := Aside0.mk A210
      clear A210
      obtain rfl := Option.some.inj H
      obtain ⟨Ao22, co22, eo22⟩ := Kd.R_slice HO_5.out
      subst eo22
      obtain ⟨Ao23, co23, eo23⟩ := Kd.R_slice HO_7.out
      subst eo23
      go_wp2_with (first | (go_at_call 31; (with_reducible refine (laws_sameTexts.calls kj5 _ _ t331 _ _ t335 t340 _ ?side1 ?side2 ?side3 ?side4 A21.out).mono ?_); (case side1 => repeat (first | exact (Kd.R_reads' HO_5.out).2.2 | (with_reducible refine Kd.C_alloc ?_ _) | (with_reducible refine Kd.C_drewN ?_ _) | (with_reducible refine Kd.C_drew ?_))); (case side2 => exact (Kd.R_reads' HO_5.out).2.1); (case side3 => repeat (first | exact (Kd.R_reads' HO_7.out).2.2 | (with_reducible refine Kd.C_alloc ?_ _) | (with_reducible refine Kd.C_drewN ?_ _) | (with_reducible refine Kd.C_drew ?_))); (case side4 => exact (Kd.R_reads' HO_7.out).2.1); rintro e w' ⟨rfl, ⟨nd, rfl⟩⟩))
      go_ret
      exact ⟨by first | rfl | (simp [errW_none, errW_some] <;> rfl) | (simp [*, errW_none, errW_some] <;> rfl), by repeat (first | (with_reducible first | exact HB.out | apply below_alloc | apply pw_below_drewN | apply below_drew1) | exact HB.out)⟩
     ·rw [if_neg c20] at H
      have c20b0 : (t332 == t336) = false := by simpa using c20
      (try (have c20b1 : decide (t332 = t336) = false := by simpa using c20))
      (try (have c20b2 : (t332 == t336) = false := by simpa using c20))
      (try (have c20b3 : ¬ (t332 = t336) := by simpa using c20))
      clear c20
      obtain rfl := Option.some.inj H
      go_wp2
      go_ret
      exact ⟨by first | rfl | (simp [errW_none, errW_some] <;> rfl) | (simp [*, errW_none, errW_some] <;> rfl), by repeat (first | (with_reducible first | exact HB.out | apply below_alloc | apply pw_below_drewN | apply below_drew1) | exact HB.out)⟩
    ·replace c19 := Bool.eq_false_iff.mpr c19
     subst c19
     have H1 : ((impl_PlanTrans.f t325).bind fun bt341 => ((impl_PlanTrans.f t328).bind fun bt345 => ((impl_PlanBeside.f bt341.1 bt345.1).bind fun bt349 => ((impl_PlanTrans.f t331).bind fun bt353 => (if bt341.2 = true then (if bt345.2 = true then (if bt349.2 = true then (if bt353.2 = true then ((laws_sameTexts.f kj5 bt349.1 bt353.1).bind fun t357 => (some t357)) else (some false)) else (some false)) else (some false)) else (some false)))))) = some r := by rw [if_neg (show ¬ (false = true) by decide)] at H; exact H
     clear H
     have H := H1
     clear H1
     replace H := Option.bind_eq_some_iff.mp H
     obtain ⟨⟨t341, t342⟩, A240, H⟩ := H
     replace H : ((impl_PlanTrans.f t328).bind fun bt345 => ((impl_PlanBeside.f t341 bt345.1).bind fun bt349 => ((impl_PlanTrans.f t331).bind fun bt353 => (if t342 = true then (if bt345.2 = true then (if bt349.2 = true then (if bt353.2 = true then ((laws_sameTexts.f kj5 bt349.1 bt353.1).bind fun t357 => (some t357)) else (some false)) else (some false)) else (some false)) else (some false))))) = some r := H
     have A24 := Aside0.mk A240
     clear A240
     replace H := Option.bind_eq_some_iff.mp H
     obtain ⟨⟨t345, t346⟩, A250, H⟩ := H
     replace H : ((impl_PlanBeside.f t341 t345).bind fun bt349 => ((impl_PlanTrans.f t331).bind fun bt353 => (if t342 = true then (if t346 = true then (if bt349.2 = true then (if bt353.2 = true then ((laws_sameTexts.f kj5 bt349.1 bt353.1).bind fun t357 => (some t357)) else (some false)) else (some false)) else (some false)) else (some false)))) = some r := H
     have A25 := Aside0.mk A250
     clear A250
     replace H := Option.bind_eq_some_iff.mp H
     obtain ⟨⟨t349, t350⟩, A260, H⟩ := H
     replace H : ((impl_PlanTrans.f t331).bind fun bt353 => (if t342 = true then (if t346 = true then (if t350 = true then (if bt353.2 = true then ((laws_sameTexts.f kj5 t349 bt353.1).bind fun t357 => (some t357)) else (some false)) else (some false)) else (some false)) else (some false))) = some r := H
     have A26 := Aside0.mk A260
     clear A260
     replace H := Option.bind_eq_some_iff.mp H
     obtain ⟨⟨t353, t354⟩, A270, H⟩ := H
     replace H : (if t342 = true then (if t346 = true then (if t350 = true then (if t354 = true then ((laws_sameTexts.f kj5 t349 t353).bind fun t357 => (some t357)) else (some false)) else (some false)) else (some false)) else (some false)) = some r := H
     have A27 := Aside0.mk A270
     clear A270
     by_cases c28 : t342 = true
     ·subst c28
      have H1 : (if t346 = true then (if t350 = true then (if t354 = true then ((laws_sameTexts.f kj5 t349 t353).bind fun t357 => (some t357)) else (some false)) else (some false)) else (some false)) = some r := by rw [if_pos rfl] at H; exact H
      clear H
      have H := H1
      clear H1
      by_cases c29 : t346 = true
      ·subst c29
       have H1 : (if t350 = true then (if t354 = true then ((laws_sameTexts.f kj5 t349 t353).bind fun t357 => (some t357)) else (some false)) else (some false)) = some r := by rw [if_pos rfl] at H; exact H
       clear H
       have H := H1
       clear H1
       by_cases c30 : t350 = true
       ·subst c30
        have H1 : (if t354 = true then ((laws_sameTexts.f kj5 t349 t353).bind fun t357 => (some t357)) else (some false)) = some r := by rw [if_pos rfl] at H; exact H
        clear H
        have H := H1
        clear H1
        by_cases c31 : t354 = true
        ·subst c31
         have H1 : ((laws_sameTexts.f kj5 t349 t353).bind fun t357 => (some t357)) = some r := by rw [if_pos rfl] at H; exact H
         clear H
         have H := H1
         clear H1
         replace H := Option.bind_eq_some_iff.mp H
         obtain ⟨t357, A320, H⟩ := H
         replace H : (some t357) = some r := H
         have A32 := Aside0.mk A320
         clear A320
         obtain rfl := Option.some.inj H
         go_wp2_with (first | ((with_reducible refine gate_callee (f := 26) rfl ?_); refine goesL_ (some 60) rfl rfl Try.func26 (by kernel_rfl) rfl #[.slice Ao8 t325.length co8] rfl (by (try simp only [List.map_toArray, List.map_cons, List.map_nil]); first | done | rfl | (simp only [List.length_drop, List.length_take]; rfl)) ?_; (with_reducible refine (impl_PlanTrans.calls _ _ t325 t341 true _ ?side1 ?side2 A24.out).mono ?_); (case side1 => repeat (first | exact (Kd.V_reads' HO_3.out).2.2 | (with_reducible refine Kd.C_alloc ?_ _) | (with_reducible refine Kd.C_drewN ?_ _) | (with_reducible refine Kd.C_drew ?_))); (case side2 => exact (Kd.V_reads' HO_3.out).2.1); rintro e w33 ⟨v343, rfl, ho0, hb⟩; refine ⟨_, rfl, ?_⟩; have n0_ := Aside0.mk (Kd.V_elder' (by (with_reducible repeat (first | apply Kd.V_alloc | apply Kd.V_drewN | apply Kd.V_drew)); exact HO_3.out) (Kd.R_base ho0) hb); have n1_ := Aside0.mk (Kd.V_elder' (by (with_reducible repeat (first | apply Kd.V_alloc | apply Kd.V_drewN | apply Kd.V_drew)); exact HO_4.out) (Kd.R_base ho0) hb); have n2_ := Aside0.mk (Kd.R_elder' (by (with_reducible repeat (first | apply Kd.R_alloc | apply Kd.R_drewN | apply Kd.R_drew)); exact HO_5.out) (Kd.R_base ho0) hb); have n3_ := Aside0.mk (Kd.R_elder' (by (with_reducible repeat (first | apply Kd.R_alloc | apply Kd.R_drewN | apply Kd.R_drew)); exact HO_7.out) (Kd.R_base ho0) hb); have n4_ := Aside0.mk (Kd.R_lower (Kd.R_new' (Kd.R_new' ho0 (Kd.R_lt (by (with_reducible repeat (first | apply Kd.R_alloc | apply Kd.R_drewN | apply Kd.R_drew)); exact HO_5.out))) (Kd.R_lt (by (with_reducible repeat (first | apply Kd.R_alloc | apply Kd.R_drewN | apply Kd.R_drew)); exact HO_7.out))) (below_size (by repeat (first | (with_reducible first | exact HB.out | apply below_alloc | apply pw_below_drewN | apply below_drew1) | exact HB.out)))); have n5_ := Aside0.mk (below_step (by repeat (first | (with_reducible first | exact HB.out | apply below_alloc | apply pw_below_drewN | apply below_drew1) | exact HB.out)) hb); clear HO_3; clear HO_4; clear HO_5; clear HO_7; clear HB; have HO_3 := n0_; have HO_4 := n1_; have HO_5 := n2_; have HO_7 := n3_; have HO344 := n4_; have HB := n5_; clear n0_ n1_ n2_ n3_ n4_ n5_; (try clear hb); (try clear hb2); (try clear hk); (try clear hi); (try clear ho0)) | ((with_reducible refine gate_callee (f := 26) rfl ?_); refine goesL_ (some 65) rfl rfl Try.func26 (by kernel_rfl) rfl #[.slice Ao9 t328.length co9] rfl (by (try simp only [List.map_toArray, List.map_cons, List.map_nil]); first | done | rfl | (simp only [List.length_drop, List.length_take]; rfl)) ?_; (with_reducible refine (impl_PlanTrans.calls _ _ t328 t345 true _ ?side1 ?side2 A25.out).mono ?_); (case side1 => repeat (first | exact (Kd.V_reads' HO_4.out).2.2 | (with_reducible refine Kd.C_alloc ?_ _) | (with_reducible refine Kd.C_drewN ?_ _) | (with_reducible refine Kd.C_drew ?_))); (case side2 => exact (Kd.V_reads' HO_4.out).2.1); rintro e w34 ⟨v347, rfl, ho0, hb⟩; refine ⟨_, rfl, ?_⟩; have n0_ := Aside0.mk (Kd.V_elder' (by (with_reducible repeat (first | apply Kd.V_alloc | apply Kd.V_drewN | apply Kd.V_drew)); exact HO_3.out) (Kd.R_base ho0) hb); have n1_ := Aside0.mk (Kd.V_elder' (by (with_reducible repeat (first | apply Kd.V_alloc | apply Kd.V_drewN | apply Kd.V_drew)); exact HO_4.out) (Kd.R_base ho0) hb); have n2_ := Aside0.mk (Kd.R_elder' (by (with_reducible repeat (first | apply Kd.R_alloc | apply Kd.R_drewN | apply Kd.R_drew)); exact HO_5.out) (Kd.R_base ho0) hb); have n3_ := Aside0.mk (Kd.R_elder' (by (with_reducible repeat (first | apply Kd.R_alloc | apply Kd.R_drewN | apply Kd.R_drew)); exact HO_7.out) (Kd.R_base ho0) hb); have n4_ := Aside0.mk (Kd.R_elder' (by (with_reducible repeat (first | apply Kd.R_alloc | apply Kd.R_drewN | apply Kd.R_drew)); exact HO344.out) (Kd.R_base ho0) hb); have n5_ := Aside0.mk (Kd.R_lower (Kd.R_new' (Kd.R_new' (Kd.R_new' ho0 (Kd.R_lt (by (with_reducible repeat (first | apply Kd.R_alloc | apply Kd.R_drewN | apply Kd.R_drew)); exact HO_5.out))) (Kd.R_lt (by (with_reducible repeat (first | apply Kd.R_alloc | apply Kd.R_drewN | apply Kd.R_drew)); exact HO_7.out))) (Kd.R_lt (by (with_reducible repeat (first | apply Kd.R_alloc | apply Kd.R_drewN | apply Kd.R_drew)); exact HO344.out))) (below_size (by repeat (first | (with_reducible first | exact HB.out | apply below_alloc | apply pw_below_drewN | apply below_drew1) | exact HB.out)))); have n6_ := Aside0.mk (below_step (by repeat (first | (with_reducible first | exact HB.out | apply below_alloc | apply pw_below_drewN | apply below_drew1) | exact HB.out)) hb); clear HO_3; clear HO_4; clear HO_5; clear HO_7; clear HO344; clear HB; have HO_3 := n0_; have HO_4 := n1_; have HO_5 := n2_; have HO_7 := n3_; have HO344 := n4_; have HO348 := n5_; have HB := n6_; clear n0_ n1_ n2_ n3_ n4_ n5_ n6_; (try clear hb); (try clear hb2); (try clear hk); (try clear hi); (try clear ho0); obtain ⟨Ao35, co35, eo35⟩ := Kd.R_slice HO344.out; subst eo35; obtain ⟨Ao36, co36, eo36⟩ := Kd.R_slice HO348.out; subst eo36) | ((with_reducible refine gate_callee (f := 47) rfl ?_); refine goesL_ (some 71) rfl rfl Try.func47 (by kernel_rfl) rfl #[.slice Ao35 t341.length co35, .slice Ao36 t345.length co36] rfl (by (try simp only [List.map_toArray, List.map_cons, List.map_nil]); first | done | rfl | (simp only [List.length_drop, List.length_take]; rfl)) ?_; (with_reducible refine (impl_PlanBeside.calls _ _ t341 _ _ t345 t349 true _ ?side1 ?side2 ?side3 ?side4 A26.out).mono ?_); (case side1 => repeat (first | exact (Kd.R_reads' HO344.out).2.2 | (with_reducible refine Kd.C_alloc ?_ _) | (with_reducible refine Kd.C_drewN ?_ _) | (with_reducible refine Kd.C_drew ?_))); (case side2 => exact (Kd.R_reads' HO344.out).2.1); (case side3 => repeat (first | exact (Kd.R_reads' HO348.out).2.2 | (with_reducible refine Kd.C_alloc ?_ _) | (with_reducible refine Kd.C_drewN ?_ _) | (with_reducible refine Kd.C_drew ?_))); (case side4 => exact (Kd.R_reads' HO348.out).2.1); rintro e w37 ⟨v351, rfl, ho0, hb⟩; refine ⟨_, rfl, ?_⟩; have n0_ := Aside0.mk (Kd.V_elder' (by (with_reducible repeat (first | apply Kd.V_alloc | apply Kd.V_drewN | apply Kd.V_drew)); exact HO_3.out) (Kd.R_base ho0) hb); have n1_ := Aside0.mk (Kd.V_elder' (by (with_reducible repeat (first | apply Kd.V_alloc | apply Kd.V_drewN | apply Kd.V_drew)); exact HO_4.out) (Kd.R_base ho0) hb); have n2_ := Aside0.mk (Kd.R_elder' (by (with_reducible repeat (first | apply Kd.R_alloc | apply Kd.R_drewN | apply Kd.R_drew)); exact HO_5.out) (Kd.R_base ho0) hb); have n3_ := Aside0.mk (Kd.R_elder' (by (with_reducible repeat (first | apply Kd.R_alloc | apply Kd.R_drewN | apply Kd.R_drew)); exact HO_7.out) (Kd.R_base ho0) hb); have n4_ := Aside0.mk (Kd.R_elder' (by (with_reducible repeat (first | apply Kd.R_alloc | apply Kd.R_drewN | apply Kd.R_drew)); exact HO344.out) (Kd.R_base ho0) hb); have n5_ := Aside0.mk (Kd.R_elder' (by (with_reducible repeat (first | apply Kd.R_alloc | apply Kd.R_drewN | apply Kd.R_drew)); exact HO348.out) (Kd.R_base ho0) hb); have n6_ := Aside0.mk (Kd.R_lower (Kd.R_new' (Kd.R_new' (Kd.R_new' (Kd.R_new' ho0 (Kd.R_lt (by (with_reducible repeat (first | apply Kd.R_alloc | apply Kd.R_drewN | apply Kd.R_drew)); exact HO_5.out))) (Kd.R_lt (by (with_reducible repeat (first | apply Kd.R_alloc | apply Kd.R_drewN | apply Kd.R_drew)); exact HO_7.out))) (Kd.R_lt (by (with_reducible repeat (first | apply Kd.R_alloc | apply Kd.R_drewN | apply Kd.R_drew)); exact HO344.out))) (Kd.R_lt (by (with_reducible repeat (first | apply Kd.R_alloc | apply Kd.R_drewN | apply Kd.R_drew)); exact HO348.out))) (below_size (by repeat (first | (with_reducible first | exact HB.out | apply below_alloc | apply pw_below_drewN | apply below_drew1) | exact HB.out)))); have n7_ := Aside0.mk (below_step (by repeat (first | (with_reducible first | exact HB.out | apply below_alloc | apply pw_below_drewN | apply below_drew1) | exact HB.out)) hb); clear HO_3; clear HO_4; clear HO_5; clear HO_7; clear HO344; clear HO348; clear HB; have HO_3 := n0_; have HO_4 := n1_; have HO_5 := n2_; have HO_7 := n3_; have HO344 := n4_; have HO348 := n5_; have HO352 := n6_; have HB := n7_; clear n0_ n1_ n2_ n3_ n4_ n5_ n6_ n7_; (try clear hb); (try clear hb2); (try clear hk); (try clear hi); (try clear ho0); obtain ⟨Ao38, co38, eo38⟩ := Kd.R_slice HO_5.out; subst eo38) | ((with_reducible refine gate_callee (f := 26) rfl ?_); refine goesL_ (some 76) rfl rfl Try.func26 (by kernel_rfl) rfl #[.slice Ao38 t331.length co38] rfl (by (try simp only [List.map_toArray, List.map_cons, List.map_nil]); first | done | rfl | (simp only [List.length_drop, List.length_take]; rfl)) ?_; (with_reducible refine (impl_PlanTrans.calls _ _ t331 t353 true _ ?side1 ?side2 A27.out).mono ?_); (case side1 => repeat (first | exact (Kd.R_reads' HO_5.out).2.2 | (with_reducible refine Kd.C_alloc ?_ _) | (with_reducible refine Kd.C_drewN ?_ _) | (with_reducible refine Kd.C_drew ?_))); (case side2 => exact (Kd.R_reads' HO_5.out).2.1); rintro e w39 ⟨v355, rfl, ho0, hb⟩; refine ⟨_, rfl, ?_⟩; have n0_ := Aside0.mk (Kd.V_elder' (by (with_reducible repeat (first | apply Kd.V_alloc | apply Kd.V_drewN | apply Kd.V_drew)); exact HO_3.out) (Kd.R_base ho0) hb); have n1_ := Aside0.mk (Kd.V_elder' (by (with_reducible repeat (first | apply Kd.V_alloc | apply Kd.V_drewN | apply Kd.V_drew)); exact HO_4.out) (Kd.R_base ho0) hb); have n2_ := Aside0.mk (Kd.R_elder' (by (with_reducible repeat (first | apply Kd.R_alloc | apply Kd.R_drewN | apply Kd.R_drew)); exact HO_5.out) (Kd.R_base ho0) hb); have n3_ := Aside0.mk (Kd.R_elder' (by (with_reducible repeat (first | apply Kd.R_alloc | apply Kd.R_drewN | apply Kd.R_drew)); exact HO_7.out) (Kd.R_base ho0) hb); have n4_ := Aside0.mk (Kd.R_elder' (by (with_reducible repeat (first | apply Kd.R_alloc | apply Kd.R_drewN | apply Kd.R_drew)); exact HO344.out) (Kd.R_base ho0) hb); have n5_ := Aside0.mk (Kd.R_elder' (by (with_reducible repeat (first | apply Kd.R_alloc | apply Kd.R_drewN | apply Kd.R_drew)); exact HO348.out) (Kd.R_base ho0) hb); have n6_ := Aside0.mk (Kd.R_elder' (by (with_reducible repeat (first | apply Kd.R_alloc | apply Kd.R_drewN | apply Kd.R_drew)); exact HO352.out) (Kd.R_base ho0) hb); have n7_ := Aside0.mk (Kd.R_lower (Kd.R_new' (Kd.R_new' (Kd.R_new' (Kd.R_new' (Kd.R_new' ho0 (Kd.R_lt (by (with_reducible repeat (first | apply Kd.R_alloc | apply Kd.R_drewN | apply Kd.R_drew)); exact HO_5.out))) (Kd.R_lt (by (with_reducible repeat (first | apply Kd.R_alloc | apply Kd.R_drewN | apply Kd.R_drew)); exact HO_7.out))) (Kd.R_lt (by (with_reducible repeat (first | apply Kd.R_alloc | apply Kd.R_drewN | apply Kd.R_drew)); exact HO344.out))) (Kd.R_lt (by (with_reducible repeat (first | apply Kd.R_alloc | apply Kd.R_drewN | apply Kd.R_drew)); exact HO348.out))) (Kd.R_lt (by (with_reducible repeat (first | apply Kd.R_alloc | apply Kd.R_drewN | apply Kd.R_drew)); exact HO352.out))) (below_size (by repeat (first | (with_reducible first | exact HB.out | apply below_alloc | apply pw_below_drewN | apply below_drew1) | exact HB.out)))); have n8_ := Aside0.mk (below_step (by repeat (first | (with_reducible first | exact HB.out | apply below_alloc | apply pw_below_drewN | apply below_drew1) | exact HB.out)) hb); clear HO_3; clear HO_4; clear HO_5; clear HO_7; clear HO344; clear HO348; clear HO352; clear HB; have HO_3 := n0_; have HO_4 := n1_; have HO_5 := n2_; have HO_7 := n3_; have HO344 := n4_; have HO348 := n5_; have HO352 := n6_; have HO356 := n7_; have HB := n8_; clear n0_ n1_ n2_ n3_ n4_ n5_ n6_ n7_ n8_; (try clear hb); (try clear hb2); (try clear hk); (try clear hi); (try clear ho0); obtain ⟨Ao40, co40, eo40⟩ := Kd.R_slice HO352.out; subst eo40; obtain ⟨Ao41, co41, eo41⟩ := Kd.R_slice HO356.out; subst eo41) | (go_at_call 31; (with_reducible refine (laws_sameTexts.calls kj5 _ _ t349 _ _ t353 t357 _ ?side1 ?side2 ?side3 ?side4 A32.out).mono ?_); (case side1 => repeat (first | exact (Kd.R_reads' HO352.out).2.2 | (with_reducible refine Kd.C_alloc ?_ _) | (with_reducible refine Kd.C_drewN ?_ _) | (with_reducible refine Kd.C_drew ?_))); (case side2 => exact (Kd.R_reads' HO352.out).2.1); (case side3 => repeat (first | exact (Kd.R_reads' HO356.out).2.2 | (with_reducible refine Kd.C_alloc ?_ _) | (with_reducible refine Kd.C_drewN ?_ _) | (with_reducible refine Kd.C_drew ?_))); (case side4 => exact (Kd.R_reads' HO356.out).2.1); rintro e w' ⟨rfl, ⟨nd, rfl⟩⟩))
         go_ret
         exact ⟨by first | rfl | (simp [errW_none, errW_some] <;> rfl) | (simp [*, errW_none, errW_some] <;> rfl), by repeat (first | (with_reducible first | exact HB.out | apply below_alloc | apply pw_below_drewN | apply below_drew1) | exact HB.out)⟩
        ·replace c31 := Bool.eq_false_iff.mpr c31
         subst c31
         have H1 : (some false) = some r := by rw [if_neg (show ¬ (false = true) by decide)] at H; exact H
         clear H
         have H := H1
         clear H1
         obtain rfl := Option.some.inj H
         go_wp2_with (first | ((with_reducible refine gate_callee (f := 26) rfl ?_); refine goesL_ (some 60) rfl rfl Try.func26 (by kernel_rfl) rfl #[.slice Ao8 t325.length co8] rfl (by (try simp only [List.map_toArray, List.map_cons, List.map_nil]); first | done | rfl | (simp only [List.length_drop, List.length_take]; rfl)) ?_; (with_reducible refine (impl_PlanTrans.calls _ _ t325 t341 true _ ?side1 ?side2 A24.out).mono ?_); (case side1 => repeat (first | exact (Kd.V_reads' HO_3.out).2.2 | (with_reducible refine Kd.C_alloc ?_ _) | (with_reducible refine Kd.C_drewN ?_ _) | (with_reducible refine Kd.C_drew ?_))); (case side2 => exact (Kd.V_reads' HO_3.out).2.1); rintro e w42 ⟨v343, rfl, ho0, hb⟩; refine ⟨_, rfl, ?_⟩; have n0_ := Aside0.mk (Kd.V_elder' (by (with_reducible repeat (first | apply Kd.V_alloc | apply Kd.V_drewN | apply Kd.V_drew)); exact HO_3.out) (Kd.R_base ho0) hb); have n1_ := Aside0.mk (Kd.V_elder' (by (with_reducible repeat (first | apply Kd.V_alloc | apply Kd.V_drewN | apply Kd.V_drew)); exact HO_4.out) (Kd.R_base ho0) hb); have n2_ := Aside0.mk (Kd.R_elder' (by (with_reducible repeat (first | apply Kd.R_alloc | apply Kd.R_drewN | apply Kd.R_drew)); exact HO_5.out) (Kd.R_base ho0) hb); have n3_ := Aside0.mk (Kd.R_elder' (by (with_reducible repeat (first | apply Kd.R_alloc | apply Kd.R_drewN | apply Kd.R_drew)); exact HO_7.out) (Kd.R_base ho0) hb); have n4_ := Aside0.mk (Kd.R_lower (Kd.R_new' (Kd.R_new' ho0 (Kd.R_lt (by (with_reducible repeat (first | apply Kd.R_alloc | apply Kd.R_drewN | apply Kd.R_drew)); exact HO_5.out))) (Kd.R_lt (by (with_reducible repeat (first | apply Kd.R_alloc | apply Kd.R_drewN | apply Kd.R_drew)); exact HO_7.out))) (below_size (by repeat (first | (with_reducible first | exact HB.out | apply below_alloc | apply pw_below_drewN | apply below_drew1) | exact HB.out)))); have n5_ := Aside0.mk (below_step (by repeat (first | (with_reducible first | exact HB.out | apply below_alloc | apply pw_below_drewN | apply below_drew1) | exact HB.out)) hb); clear HO_3; clear HO_4; clear HO_5; clear HO_7; clear HB; have HO_3 := n0_; have HO_4 := n1_; have HO_5 := n2_; have HO_7 := n3_; have HO344 := n4_; have HB := n5_; clear n0_ n1_ n2_ n3_ n4_ n5_; (try clear hb); (try clear hb2); (try clear hk); (try clear hi); (try clear ho0)) | ((with_reducible refine gate_callee (f := 26) rfl ?_); refine goesL_ (some 65) rfl rfl Try.func26 (by kernel_rfl) rfl #[.slice Ao9 t328.length co9] rfl (by (try simp only [List.map_toArray, List.map_cons, List.map_nil]); first | done | rfl | (simp only [List.length_drop, List.length_take]; rfl)) ?_; (with_reducible refine (impl_PlanTrans.calls _ _ t328 t345 true _ ?side1 ?side2 A25.out).mono ?_); (case side1 => repeat (first | exact (Kd.V_reads' HO_4.out).2.2 | (with_reducible refine Kd.C_alloc ?_ _) | (with_reducible refine Kd.C_drewN ?_ _) | (with_reducible refine Kd.C_drew ?_))); (case side2 => exact (Kd.V_reads' HO_4.out).2.1); rintro e w43 ⟨v347, rfl, ho0, hb⟩; refine ⟨_, rfl, ?_⟩; have n0_ := Aside0.mk (Kd.V_elder' (by (with_reducible repeat (first | apply Kd.V_alloc | apply Kd.V_drewN | apply Kd.V_drew)); exact HO_3.out) (Kd.R_base ho0) hb); have n1_ := Aside0.mk (Kd.V_elder' (by (with_reducible repeat (first | apply Kd.V_alloc | apply Kd.V_drewN | apply Kd.V_drew)); exact HO_4.out) (Kd.R_base ho0) hb); have n2_ := Aside0.mk (Kd.R_elder' (by (with_reducible repeat (first | apply Kd.R_alloc | apply Kd.R_drewN | apply Kd.R_drew)); exact HO_5.out) (Kd.R_base ho0) hb); have n3_ := Aside0.mk (Kd.R_elder' (by (with_reducible repeat (first | apply Kd.R_alloc | apply Kd.R_drewN | apply Kd.R_drew)); exact HO_7.out) (Kd.R_base ho0) hb); have n4_ := Aside0.mk (Kd.R_elder' (by (with_reducible repeat (first | apply Kd.R_alloc | apply Kd.R_drewN | apply Kd.R_drew)); exact HO344.out) (Kd.R_base ho0) hb); have n5_ := Aside0.mk (Kd.R_lower (Kd.R_new' (Kd.R_new' (Kd.R_new' ho0 (Kd.R_lt (by (with_reducible repeat (first | apply Kd.R_alloc | apply Kd.R_drewN | apply Kd.R_drew)); exact HO_5.out))) (Kd.R_lt (by (with_reducible repeat (first | apply Kd.R_alloc | apply Kd.R_drewN | apply Kd.R_drew)); exact HO_7.out))) (Kd.R_lt (by (with_reducible repeat (first | apply Kd.R_alloc | apply Kd.R_drewN | apply Kd.R_drew)); exact HO344.out))) (below_size (by repeat (first | (with_reducible first | exact HB.out | apply below_alloc | apply pw_below_drewN | apply below_drew1) | exact HB.out)))); have n6_ := Aside0.mk (below_step (by repeat (first | (with_reducible first | exact HB.out | apply below_alloc | apply pw_below_drewN | apply below_drew1) | exact HB.out)) hb); clear HO_3; clear HO_4; clear HO_5; clear HO_7; clear HO344; clear HB; have HO_3 := n0_; have HO_4 := n1_; have HO_5 := n2_; have HO_7 := n3_; have HO344 := n4_; have HO348 := n5_; have HB := n6_; clear n0_ n1_ n2_ n3_ n4_ n5_ n6_; (try clear hb); (try clear hb2); (try clear hk); (try clear hi); (try clear ho0); obtain ⟨Ao44, co44, eo44⟩ := Kd.R_slice HO344.out; subst eo44; obtain ⟨Ao45, co45, eo45⟩ := Kd.R_slice HO348.out; subst eo45) | ((with_reducible refine gate_callee (f := 47) rfl ?_); refine goesL_ (some 71) rfl rfl Try.func47 (by kernel_rfl) rfl #[.slice Ao44 t341.length co44, .slice Ao45 t345.length co45] rfl (by (try simp only [List.map_toArray, List.map_cons, List.map_nil]); first | done | rfl | (simp only [List.length_drop, List.length_take]; rfl)) ?_; (with_reducible refine (impl_PlanBeside.calls _ _ t341 _ _ t345 t349 true _ ?side1 ?side2 ?side3 ?side4 A26.out).mono ?_); (case side1 => repeat (first | exact (Kd.R_reads' HO344.out).2.2 | (with_reducible refine Kd.C_alloc ?_ _) | (with_reducible refine Kd.C_drewN ?_ _) | (with_reducible refine Kd.C_drew ?_))); (case side2 => exact (Kd.R_reads' HO344.out).2.1); (case side3 => repeat (first | exact (Kd.R_reads' HO348.out).2.2 | (with_reducible refine Kd.C_alloc ?_ _) | (with_reducible refine Kd.C_drewN ?_ _) | (with_reducible refine Kd.C_drew ?_))); (case side4 => exact (Kd.R_reads' HO348.out).2.1); rintro e w46 ⟨v351, rfl, ho0, hb⟩; refine ⟨_, rfl, ?_⟩; have n0_ := Aside0.mk (Kd.V_elder' (by (with_reducible repeat (first | apply Kd.V_alloc | apply Kd.V_drewN | apply Kd.V_drew)); exact HO_3.out) (Kd.R_base ho0) hb); have n1_ := Aside0.mk (Kd.V_elder' (by (with_reducible repeat (first | apply Kd.V_alloc | apply Kd.V_drewN | apply Kd.V_drew)); exact HO_4.out) (Kd.R_base ho0) hb); have n2_ := Aside0.mk (Kd.R_elder' (by (with_reducible repeat (first | apply Kd.R_alloc | apply Kd.R_drewN | apply Kd.R_drew)); exact HO_5.out) (Kd.R_base ho0) hb); have n3_ := Aside0.mk (Kd.R_elder' (by (with_reducible repeat (first | apply Kd.R_alloc | apply Kd.R_drewN | apply Kd.R_drew)); exact HO_7.out) (Kd.R_base ho0) hb); have n4_ := Aside0.mk (Kd.R_elder' (by (with_reducible repeat (first | apply Kd.R_alloc | apply Kd.R_drewN | apply Kd.R_drew)); exact HO344.out) (Kd.R_base ho0) hb); have n5_ := Aside0.mk (Kd.R_elder' (by (with_reducible repeat (first | apply Kd.R_alloc | apply Kd.R_drewN | apply Kd.R_drew)); exact HO348.out) (Kd.R_base ho0) hb); have n6_ := Aside0.mk (Kd.R_lower (Kd.R_new' (Kd.R_new' (Kd.R_new' (Kd.R_new' ho0 (Kd.R_lt (by (with_reducible repeat (first | apply Kd.R_alloc | apply Kd.R_drewN | apply Kd.R_drew)); exact HO_5.out))) (Kd.R_lt (by (with_reducible repeat (first | apply Kd.R_alloc | apply Kd.R_drewN | apply Kd.R_drew)); exact HO_7.out))) (Kd.R_lt (by (with_reducible repeat (first | apply Kd.R_alloc | apply Kd.R_drewN | apply Kd.R_drew)); exact HO344.out))) (Kd.R_lt (by (with_reducible repeat (first | apply Kd.R_alloc | apply Kd.R_drewN | apply Kd.R_drew)); exact HO348.out))) (below_size (by repeat (first | (with_reducible first | exact HB.out | apply below_alloc | apply pw_below_drewN | apply below_drew1) | exact HB.out)))); have n7_ := Aside0.mk (below_step (by repeat (first | (with_reducible first | exact HB.out | apply below_alloc | apply pw_below_drewN | apply below_drew1) | exact HB.out)) hb); clear HO_3; clear HO_4; clear HO_5; clear HO_7; clear HO344; clear HO348; clear HB; have HO_3 := n0_; have HO_4 := n1_; have HO_5 := n2_; have HO_7 := n3_; have HO344 := n4_; have HO348 := n5_; have HO352 := n6_; have HB := n7_; clear n0_ n1_ n2_ n3_ n4_ n5_ n6_ n7_; (try clear hb); (try clear hb2); (try clear hk); (try clear hi); (try clear ho0); obtain ⟨Ao47, co47, eo47⟩ := Kd.R_slice HO_5.out; subst eo47) | ((with_reducible refine gate_callee (f := 26) rfl ?_); refine goesL_ (some 76) rfl rfl Try.func26 (by kernel_rfl) rfl #[.slice Ao47 t331.length co47] rfl (by (try simp only [List.map_toArray, List.map_cons, List.map_nil]); first | done | rfl | (simp only [List.length_drop, List.length_take]; rfl)) ?_; (with_reducible refine (impl_PlanTrans.calls _ _ t331 t353 false _ ?side1 ?side2 A27.out).mono ?_); (case side1 => repeat (first | exact (Kd.R_reads' HO_5.out).2.2 | (with_reducible refine Kd.C_alloc ?_ _) | (with_reducible refine Kd.C_drewN ?_ _) | (with_reducible refine Kd.C_drew ?_))); (case side2 => exact (Kd.R_reads' HO_5.out).2.1); rintro e w48 ⟨v355, rfl, ho0, hb⟩; refine ⟨_, rfl, ?_⟩; have n0_ := Aside0.mk (Kd.V_elder' (by (with_reducible repeat (first | apply Kd.V_alloc | apply Kd.V_drewN | apply Kd.V_drew)); exact HO_3.out) (Kd.R_base ho0) hb); have n1_ := Aside0.mk (Kd.V_elder' (by (with_reducible repeat (first | apply Kd.V_alloc | apply Kd.V_drewN | apply Kd.V_drew)); exact HO_4.out) (Kd.R_base ho0) hb); have n2_ := Aside0.mk (Kd.R_elder' (by (with_reducible repeat (first | apply Kd.R_alloc | apply Kd.R_drewN | apply Kd.R_drew)); exact HO_5.out) (Kd.R_base ho0) hb); have n3_ := Aside0.mk (Kd.R_elder' (by (with_reducible repeat (first | apply Kd.R_alloc | apply Kd.R_drewN | apply Kd.R_drew)); exact HO_7.out) (Kd.R_base ho0) hb); have n4_ := Aside0.mk (Kd.R_elder' (by (with_reducible repeat (first | apply Kd.R_alloc | apply Kd.R_drewN | apply Kd.R_drew)); exact HO344.out) (Kd.R_base ho0) hb); have n5_ := Aside0.mk (Kd.R_elder' (by (with_reducible repeat (first | apply Kd.R_alloc | apply Kd.R_drewN | apply Kd.R_drew)); exact HO348.out) (Kd.R_base ho0) hb); have n6_ := Aside0.mk (Kd.R_elder' (by (with_reducible repeat (first | apply Kd.R_alloc | apply Kd.R_drewN | apply Kd.R_drew)); exact HO352.out) (Kd.R_base ho0) hb); have n7_ := Aside0.mk (Kd.R_lower (Kd.R_new' (Kd.R_new' (Kd.R_new' (Kd.R_new' (Kd.R_new' ho0 (Kd.R_lt (by (with_reducible repeat (first | apply Kd.R_alloc | apply Kd.R_drewN | apply Kd.R_drew)); exact HO_5.out))) (Kd.R_lt (by (with_reducible repeat (first | apply Kd.R_alloc | apply Kd.R_drewN | apply Kd.R_drew)); exact HO_7.out))) (Kd.R_lt (by (with_reducible repeat (first | apply Kd.R_alloc | apply Kd.R_drewN | apply Kd.R_drew)); exact HO344.out))) (Kd.R_lt (by (with_reducible repeat (first | apply Kd.R_alloc | apply Kd.R_drewN | apply Kd.R_drew)); exact HO348.out))) (Kd.R_lt (by (with_reducible repeat (first | apply Kd.R_alloc | apply Kd.R_drewN | apply Kd.R_drew)); exact HO352.out))) (below_size (by repeat (first | (with_reducible first | exact HB.out | apply below_alloc | apply pw_below_drewN | apply below_drew1) | exact HB.out)))); have n8_ := Aside0.mk (below_step (by repeat (first | (with_reducible first | exact HB.out | apply below_alloc | apply pw_below_drewN | apply below_drew1) | exact HB.out)) hb); clear HO_3; clear HO_4; clear HO_5; clear HO_7; clear HO344; clear HO348; clear HO352; clear HB; have HO_3 := n0_; have HO_4 := n1_; have HO_5 := n2_; have HO_7 := n3_; have HO344 := n4_; have HO348 := n5_; have HO352 := n6_; have HO356 := n7_; have HB := n8_; clear n0_ n1_ n2_ n3_ n4_ n5_ n6_ n7_ n8_; (try clear hb); (try clear hb2); (try clear hk); (try clear hi); (try clear ho0)))
         go_ret
         exact ⟨by first | rfl | (simp [errW_none, errW_some] <;> rfl) | (simp [*, errW_none, errW_some] <;> rfl), by repeat (first | (with_reducible first | exact HB.out | apply below_alloc | apply pw_below_drewN | apply below_drew1) | exact HB.out)⟩
       ·replace c30 := Bool.eq_false_iff.mpr c30
        subst c30
        have H1 : (some false) = some r := by rw [if_neg (show ¬ (false = true) by decide)] at H; exact H
        clear H
        have H := H1
        clear H1
        obtain rfl := Option.some.inj H
        go_wp2_with (first | ((with_reducible refine gate_callee (f := 26) rfl ?_); refine goesL_ (some 60) rfl rfl Try.func26 (by kernel_rfl) rfl #[.slice Ao8 t325.length co8] rfl (by (try simp only [List.map_toArray, List.map_cons, List.map_nil]); first | done | rfl | (simp only [List.length_drop, List.length_take]; rfl)) ?_; (with_reducible refine (impl_PlanTrans.calls _ _ t325 t341 true _ ?side1 ?side2 A24.out).mono ?_); (case side1 => repeat (first | exact (Kd.V_reads' HO_3.out).2.2 | (with_reducible refine Kd.C_alloc ?_ _) | (with_reducible refine Kd.C_drewN ?_ _) | (with_reducible refine Kd.C_drew ?_))); (case side2 => exact (Kd.V_reads' HO_3.out).2.1); rintro e w49 ⟨v343, rfl, ho0, hb⟩; refine ⟨_, rfl, ?_⟩; have n0_ := Aside0.mk (Kd.V_elder' (by (with_reducible repeat (first | apply Kd.V_alloc | apply Kd.V_drewN | apply Kd.V_drew)); exact HO_3.out) (Kd.R_base ho0) hb); have n1_ := Aside0.mk (Kd.V_elder' (by (with_reducible repeat (first | apply Kd.V_alloc | apply Kd.V_drewN | apply Kd.V_drew)); exact HO_4.out) (Kd.R_base ho0) hb); have n2_ := Aside0.mk (Kd.R_elder' (by (with_reducible repeat (first | apply Kd.R_alloc | apply Kd.R_drewN | apply Kd.R_drew)); exact HO_5.out) (Kd.R_base ho0) hb); have n3_ := Aside0.mk (Kd.R_elder' (by (with_reducible repeat (first | apply Kd.R_alloc | apply Kd.R_drewN | apply Kd.R_drew)); exact HO_7.out) (Kd.R_base ho0) hb); have n4_ := Aside0.mk (Kd.R_lower (Kd.R_new' (Kd.R_new' ho0 (Kd.R_lt (by (with_reducible repeat (first | apply Kd.R_alloc | apply Kd.R_drewN | apply Kd.R_drew)); exact HO_5.out))) (Kd.R_lt (by (with_reducible repeat (first | apply Kd.R_alloc | apply Kd.R_drewN | apply Kd.R_drew)); exact HO_7.out))) (below_size (by repeat (first | (with_reducible first | exact HB.out | apply below_alloc | apply pw_below_drewN | apply below_drew1) | exact HB.out)))); have n5_ := Aside0.mk (below_step (by repeat (first | (with_reducible first | exact HB.out | apply below_alloc | apply pw_below_drewN | apply below_drew1) | exact HB.out)) hb); clear HO_3; clear HO_4; clear HO_5; clear HO_7; clear HB; have HO_3 := n0_; have HO_4 := n1_; have HO_5 := n2_; have HO_7 := n3_; have HO344 := n4_; have HB := n5_; clear n0_ n1_ n2_ n3_ n4_ n5_; (try clear hb); (try clear hb2); (try clear hk); (try clear hi); (try clear ho0)) | ((with_reducible refine gate_callee (f := 26) rfl ?_); refine goesL_ (some 65) rfl rfl Try.func26 (by kernel_rfl) rfl #[.slice Ao9 t328.length co9] rfl (by (try simp only [List.map_toArray, List.map_cons, List.map_nil]); first | done | rfl | (simp only [List.length_drop, List.length_take]; rfl)) ?_; (with_reducible refine (impl_PlanTrans.calls _ _ t328 t345 true _ ?side1 ?side2 A25.out).mono ?_); (case side1 => repeat (first | exact (Kd.V_reads' HO_4.out).2.2 | (with_reducible refine Kd.C_alloc ?_ _) | (with_reducible refine Kd.C_drewN ?_ _) | (with_reducible refine Kd.C_drew ?_))); (case side2 => exact (Kd.V_reads' HO_4.out).2.1); rintro e w50 ⟨v347, rfl, ho0, hb⟩; refine ⟨_, rfl, ?_⟩; have n0_ := Aside0.mk (Kd.V_elder' (by (with_reducible repeat (first | apply Kd.V_alloc | apply Kd.V_drewN | apply Kd.V_drew)); exact HO_3.out) (Kd.R_base ho0) hb); have n1_ := Aside0.mk (Kd.V_elder' (by (with_reducible repeat (first | apply Kd.V_alloc | apply Kd.V_drewN | apply Kd.V_drew)); exact HO_4.out) (Kd.R_base ho0) hb); have n2_ := Aside0.mk (Kd.R_elder' (by (with_reducible repeat (first | apply Kd.R_alloc | apply Kd.R_drewN | apply Kd.R_drew)); exact HO_5.out) (Kd.R_base ho0) hb); have n3_ := Aside0.mk (Kd.R_elder' (by (with_reducible repeat (first | apply Kd.R_alloc | apply Kd.R_drewN | apply Kd.R_drew)); exact HO_7.out) (Kd.R_base ho0) hb); have n4_ := Aside0.mk (Kd.R_elder' (by (with_reducible repeat (first | apply Kd.R_alloc | apply Kd.R_drewN | apply Kd.R_drew)); exact HO344.out) (Kd.R_base ho0) hb); have n5_ := Aside0.mk (Kd.R_lower (Kd.R_new' (Kd.R_new' (Kd.R_new' ho0 (Kd.R_lt (by (with_reducible repeat (first | apply Kd.R_alloc | apply Kd.R_drewN | apply Kd.R_drew)); exact HO_5.out))) (Kd.R_lt (by (with_reducible repeat (first | apply Kd.R_alloc | apply Kd.R_drewN | apply Kd.R_drew)); exact HO_7.out))) (Kd.R_lt (by (with_reducible repeat (first | apply Kd.R_alloc | apply Kd.R_drewN | apply Kd.R_drew)); exact HO344.out))) (below_size (by repeat (first | (with_reducible first | exact HB.out | apply below_alloc | apply pw_below_drewN | apply below_drew1) | exact HB.out)))); have n6_ := Aside0.mk (below_step (by repeat (first | (with_reducible first | exact HB.out | apply below_alloc | apply pw_below_drewN | apply below_drew1) | exact HB.out)) hb); clear HO_3; clear HO_4; clear HO_5; clear HO_7; clear HO344; clear HB; have HO_3 := n0_; have HO_4 := n1_; have HO_5 := n2_; have HO_7 := n3_; have HO344 := n4_; have HO348 := n5_; have HB := n6_; clear n0_ n1_ n2_ n3_ n4_ n5_ n6_; (try clear hb); (try clear hb2); (try clear hk); (try clear hi); (try clear ho0); obtain ⟨Ao51, co51, eo51⟩ := Kd.R_slice HO344.out; subst eo51; obtain ⟨Ao52, co52, eo52⟩ := Kd.R_slice HO348.out; subst eo52) | ((with_reducible refine gate_callee (f := 47) rfl ?_); refine goesL_ (some 71) rfl rfl Try.func47 (by kernel_rfl) rfl #[.slice Ao51 t341.length co51, .slice Ao52 t345.length co52] rfl (by (try simp only [List.map_toArray, List.map_cons, List.map_nil]); first | done | rfl | (simp only [List.length_drop, List.length_take]; rfl)) ?_; (with_reducible refine (impl_PlanBeside.calls _ _ t341 _ _ t345 t349 false _ ?side1 ?side2 ?side3 ?side4 A26.out).mono ?_); (case side1 => repeat (first | exact (Kd.R_reads' HO344.out).2.2 | (with_reducible refine Kd.C_alloc ?_ _) | (with_reducible refine Kd.C_drewN ?_ _) | (with_reducible refine Kd.C_drew ?_))); (case side2 => exact (Kd.R_reads' HO344.out).2.1); (case side3 => repeat (first | exact (Kd.R_reads' HO348.out).2.2 | (with_reducible refine Kd.C_alloc ?_ _) | (with_reducible refine Kd.C_drewN ?_ _) | (with_reducible refine Kd.C_drew ?_))); (case side4 => exact (Kd.R_reads' HO348.out).2.1); rintro e w53 ⟨v351, rfl, ho0, hb⟩; refine ⟨_, rfl, ?_⟩; have n0_ := Aside0.mk (Kd.V_elder' (by (with_reducible repeat (first | apply Kd.V_alloc | apply Kd.V_drewN | apply Kd.V_drew)); exact HO_3.out) (Kd.R_base ho0) hb); have n1_ := Aside0.mk (Kd.V_elder' (by (with_reducible repeat (first | apply Kd.V_alloc | apply Kd.V_drewN | apply Kd.V_drew)); exact HO_4.out) (Kd.R_base ho0) hb); have n2_ := Aside0.mk (Kd.R_elder' (by (with_reducible repeat (first | apply Kd.R_alloc | apply Kd.R_drewN | apply Kd.R_drew)); exact HO_5.out) (Kd.R_base ho0) hb); have n3_ := Aside0.mk (Kd.R_elder' (by (with_reducible repeat (first | apply Kd.R_alloc | apply Kd.R_drewN | apply Kd.R_drew)); exact HO_7.out) (Kd.R_base ho0) hb); have n4_ := Aside0.mk (Kd.R_elder' (by (with_reducible repeat (first | apply Kd.R_alloc | apply Kd.R_drewN | apply Kd.R_drew)); exact HO344.out) (Kd.R_base ho0) hb); have n5_ := Aside0.mk (Kd.R_elder' (by (with_reducible repeat (first | apply Kd.R_alloc | apply Kd.R_drewN | apply Kd.R_drew)); exact HO348.out) (Kd.R_base ho0) hb); have n6_ := Aside0.mk (Kd.R_lower (Kd.R_new' (Kd.R_new' (Kd.R_new' (Kd.R_new' ho0 (Kd.R_lt (by (with_reducible repeat (first | apply Kd.R_alloc | apply Kd.R_drewN | apply Kd.R_drew)); exact HO_5.out))) (Kd.R_lt (by (with_reducible repeat (first | apply Kd.R_alloc | apply Kd.R_drewN | apply Kd.R_drew)); exact HO_7.out))) (Kd.R_lt (by (with_reducible repeat (first | apply Kd.R_alloc | apply Kd.R_drewN | apply Kd.R_drew)); exact HO344.out))) (Kd.R_lt (by (with_reducible repeat (first | apply Kd.R_alloc | apply Kd.R_drewN | apply Kd.R_drew)); exact HO348.out))) (below_size (by repeat (first | (with_reducible first | exact HB.out | apply below_alloc | apply pw_below_drewN | apply below_drew1) | exact HB.out)))); have n7_ := Aside0.mk (below_step (by repeat (first | (with_reducible first | exact HB.out | apply below_alloc | apply pw_below_drewN | apply below_drew1) | exact HB.out)) hb); clear HO_3; clear HO_4; clear HO_5; clear HO_7; clear HO344; clear HO348; clear HB; have HO_3 := n0_; have HO_4 := n1_; have HO_5 := n2_; have HO_7 := n3_; have HO344 := n4_; have HO348 := n5_; have HO352 := n6_; have HB := n7_; clear n0_ n1_ n2_ n3_ n4_ n5_ n6_ n7_; (try clear hb); (try clear hb2); (try clear hk); (try clear hi); (try clear ho0); obtain ⟨Ao54, co54, eo54⟩ := Kd.R_slice HO_5.out; subst eo54) | ((with_reducible refine gate_callee (f := 26) rfl ?_); refine goesL_ (some 76) rfl rfl Try.func26 (by kernel_rfl) rfl #[.slice Ao54 t331.length co54] rfl (by (try simp only [List.map_toArray, List.map_cons, List.map_nil]); first | done | rfl | (simp only [List.length_drop, List.length_take]; rfl)) ?_; (with_reducible refine (impl_PlanTrans.calls _ _ t331 t353 t354 _ ?side1 ?side2 A27.out).mono ?_); (case side1 => repeat (first | exact (Kd.R_reads' HO_5.out).2.2 | (with_reducible refine Kd.C_alloc ?_ _) | (with_reducible refine Kd.C_drewN ?_ _) | (with_reducible refine Kd.C_drew ?_))); (case side2 => exact (Kd.R_reads' HO_5.out).2.1); rintro e w55 ⟨v355, rfl, ho0, hb⟩; refine ⟨_, rfl, ?_⟩; have n0_ := Aside0.mk (Kd.V_elder' (by (with_reducible repeat (first | apply Kd.V_alloc | apply Kd.V_drewN | apply Kd.V_drew)); exact HO_3.out) (Kd.R_base ho0) hb); have n1_ := Aside0.mk (Kd.V_elder' (by (with_reducible repeat (first | apply Kd.V_alloc | apply Kd.V_drewN | apply Kd.V_drew)); exact HO_4.out) (Kd.R_base ho0) hb); have n2_ := Aside0.mk (Kd.R_elder' (by (with_reducible repeat (first | apply Kd.R_alloc | apply Kd.R_drewN | apply Kd.R_drew)); exact HO_5.out) (Kd.R_base ho0) hb); have n3_ := Aside0.mk (Kd.R_elder' (by (with_reducible repeat (first | apply Kd.R_alloc | apply Kd.R_drewN | apply Kd.R_drew)); exact HO_7.out) (Kd.R_base ho0) hb); have n4_ := Aside0.mk (Kd.R_elder' (by (with_reducible repeat (first | apply Kd.R_alloc | apply Kd.R_drewN | apply Kd.R_drew)); exact HO344.out) (Kd.R_base ho0) hb); have n5_ := Aside0.mk (Kd.R_elder' (by (with_reducible repeat (first | apply Kd.R_alloc | apply Kd.R_drewN | apply Kd.R_drew)); exact HO348.out) (Kd.R_base ho0) hb); have n6_ := Aside0.mk (Kd.R_elder' (by (with_reducible repeat (first | apply Kd.R_alloc | apply Kd.R_drewN | apply Kd.R_drew)); exact HO352.out) (Kd.R_base ho0) hb); have n7_ := Aside0.mk (Kd.R_lower (Kd.R_new' (Kd.R_new' (Kd.R_new' (Kd.R_new' (Kd.R_new' ho0 (Kd.R_lt (by (with_reducible repeat (first | apply Kd.R_alloc | apply Kd.R_drewN | apply Kd.R_drew)); exact HO_5.out))) (Kd.R_lt (by (with_reducible repeat (first | apply Kd.R_alloc | apply Kd.R_drewN | apply Kd.R_drew)); exact HO_7.out))) (Kd.R_lt (by (with_reducible repeat (first | apply Kd.R_alloc | apply Kd.R_drewN | apply Kd.R_drew)); exact HO344.out))) (Kd.R_lt (by (with_reducible repeat (first | apply Kd.R_alloc | apply Kd.R_drewN | apply Kd.R_drew)); exact HO348.out))) (Kd.R_lt (by (with_reducible repeat (first | apply Kd.R_alloc | apply Kd.R_drewN | apply Kd.R_drew)); exact HO352.out))) (below_size (by repeat (first | (with_reducible first | exact HB.out | apply below_alloc | apply pw_below_drewN | apply below_drew1) | exact HB.out)))); have n8_ := Aside0.mk (below_step (by repeat (first | (with_reducible first | exact HB.out | apply below_alloc | apply pw_below_drewN | apply below_drew1) | exact HB.out)) hb); clear HO_3; clear HO_4; clear HO_5; clear HO_7; clear HO344; clear HO348; clear HO352; clear HB; have HO_3 := n0_; have HO_4 := n1_; have HO_5 := n2_; have HO_7 := n3_; have HO344 := n4_; have HO348 := n5_; have HO352 := n6_; have HO356 := n7_; have HB := n8_; clear n0_ n1_ n2_ n3_ n4_ n5_ n6_ n7_ n8_; (try clear hb); (try clear hb2); (try clear hk); (try clear hi); (try clear ho0)))
        go_ret
        exact ⟨by first | rfl | (simp [errW_none, errW_some] <;> rfl) | (simp [*, errW_none, errW_some] <;> rfl), by repeat (first | (with_reducible first | exact HB.out | apply below_alloc | apply pw_below_drewN | apply below_drew1) | exact HB.out)⟩
      ·replace c29 := Bool.eq_false_iff.mpr c29
       subst c29
       have H1 : (some false) = some r := by rw [if_neg (show ¬ (false = true) by decide)] at H; exact H
       clear H
       have H := H1
       clear H1
       obtain rfl := Option.some.inj H
       go_wp2_with (first | ((with_reducible refine gate_callee (f := 26) rfl ?_); refine goesL_ (some 60) rfl rfl Try.func26 (by kernel_rfl) rfl #[.slice Ao8 t325.length co8] rfl (by (try simp only [List.map_toArray, List.map_cons, List.map_nil]); first | done | rfl | (simp only [List.length_drop, List.length_take]; rfl)) ?_; (with_reducible refine (impl_PlanTrans.calls _ _ t325 t341 true _ ?side1 ?side2 A24.out).mono ?_); (case side1 => repeat (first | exact (Kd.V_reads' HO_3.out).2.2 | (with_reducible refine Kd.C_alloc ?_ _) | (with_reducible refine Kd.C_drewN ?_ _) | (with_reducible refine Kd.C_drew ?_))); (case side2 => exact (Kd.V_reads' HO_3.out).2.1); rintro e w56 ⟨v343, rfl, ho0, hb⟩; refine ⟨_, rfl, ?_⟩; have n0_ := Aside0.mk (Kd.V_elder' (by (with_reducible repeat (first | apply Kd.V_alloc | apply Kd.V_drewN | apply Kd.V_drew)); exact HO_3.out) (Kd.R_base ho0) hb); have n1_ := Aside0.mk (Kd.V_elder' (by (with_reducible repeat (first | apply Kd.V_alloc | apply Kd.V_drewN | apply Kd.V_drew)); exact HO_4.out) (Kd.R_base ho0) hb); have n2_ := Aside0.mk (Kd.R_elder' (by (with_reducible repeat (first | apply Kd.R_alloc | apply Kd.R_drewN | apply Kd.R_drew)); exact HO_5.out) (Kd.R_base ho0) hb); have n3_ := Aside0.mk (Kd.R_elder' (by (with_reducible repeat (first | apply Kd.R_alloc | apply Kd.R_drewN | apply Kd.R_drew)); exact HO_7.out) (Kd.R_base ho0) hb); have n4_ := Aside0.mk (Kd.R_lower (Kd.R_new' (Kd.R_new' ho0 (Kd.R_lt (by (with_reducible repeat (first | apply Kd.R_alloc | apply Kd.R_drewN | apply Kd.R_drew)); exact HO_5.out))) (Kd.R_lt (by (with_reducible repeat (first | apply Kd.R_alloc | apply Kd.R_drewN | apply Kd.R_drew)); exact HO_7.out))) (below_size (by repeat (first | (with_reducible first | exact HB.out | apply below_alloc | apply pw_below_drewN | apply below_drew1) | exact HB.out)))); have n5_ := Aside0.mk (below_step (by repeat (first | (with_reducible first | exact HB.out | apply below_alloc | apply pw_below_drewN | apply below_drew1) | exact HB.out)) hb); clear HO_3; clear HO_4; clear HO_5; clear HO_7; clear HB; have HO_3 := n0_; have HO_4 := n1_; have HO_5 := n2_; have HO_7 := n3_; have HO344 := n4_; have HB := n5_; clear n0_ n1_ n2_ n3_ n4_ n5_; (try clear hb); (try clear hb2); (try clear hk); (try clear hi); (try clear ho0)) | ((with_reducible refine gate_callee (f := 26) rfl ?_); refine goesL_ (some 65) rfl rfl Try.func26 (by kernel_rfl) rfl #[.slice Ao9 t328.length co9] rfl (by (try simp only [List.map_toArray, List.map_cons, List.map_nil]); first | done | rfl | (simp only [List.length_drop, List.length_take]; rfl)) ?_; (with_reducible refine (impl_PlanTrans.calls _ _ t328 t345 false _ ?side1 ?side2 A25.out).mono ?_); (case side1 => repeat (first | exact (Kd.V_reads' HO_4.out).2.2 | (with_reducible refine Kd.C_alloc ?_ _) | (with_reducible refine Kd.C_drewN ?_ _) | (with_reducible refine Kd.C_drew ?_))); (case side2 => exact (Kd.V_reads' HO_4.out).2.1); rintro e w57 ⟨v347, rfl, ho0, hb⟩; refine ⟨_, rfl, ?_⟩; have n0_ := Aside0.mk (Kd.V_elder' (by (with_reducible repeat (first | apply Kd.V_alloc | apply Kd.V_drewN | apply Kd.V_drew)); exact HO_3.out) (Kd.R_base ho0) hb); have n1_ := Aside0.mk (Kd.V_elder' (by (with_reducible repeat (first | apply Kd.V_alloc | apply Kd.V_drewN | apply Kd.V_drew)); exact HO_4.out) (Kd.R_base ho0) hb); have n2_ := Aside0.mk (Kd.R_elder' (by (with_reducible repeat (first | apply Kd.R_alloc | apply Kd.R_drewN | apply Kd.R_drew)); exact HO_5.out) (Kd.R_base ho0) hb); have n3_ := Aside0.mk (Kd.R_elder' (by (with_reducible repeat (first | apply Kd.R_alloc | apply Kd.R_drewN | apply Kd.R_drew)); exact HO_7.out) (Kd.R_base ho0) hb); have n4_ := Aside0.mk (Kd.R_elder' (by (with_reducible repeat (first | apply Kd.R_alloc | apply Kd.R_drewN | apply Kd.R_drew)); exact HO344.out) (Kd.R_base ho0) hb); have n5_ := Aside0.mk (Kd.R_lower (Kd.R_new' (Kd.R_new' (Kd.R_new' ho0 (Kd.R_lt (by (with_reducible repeat (first | apply Kd.R_alloc | apply Kd.R_drewN | apply Kd.R_drew)); exact HO_5.out))) (Kd.R_lt (by (with_reducible repeat (first | apply Kd.R_alloc | apply Kd.R_drewN | apply Kd.R_drew)); exact HO_7.out))) (Kd.R_lt (by (with_reducible repeat (first | apply Kd.R_alloc | apply Kd.R_drewN | apply Kd.R_drew)); exact HO344.out))) (below_size (by repeat (first | (with_reducible first | exact HB.out | apply below_alloc | apply pw_below_drewN | apply below_drew1) | exact HB.out)))); have n6_ := Aside0.mk (below_step (by repeat (first | (with_reducible first | exact HB.out | apply below_alloc | apply pw_below_drewN | apply below_drew1) | exact HB.out)) hb); clear HO_3; clear HO_4; clear HO_5; clear HO_7; clear HO344; clear HB; have HO_3 := n0_; have HO_4 := n1_; have HO_5 := n2_; have HO_7 := n3_; have HO344 := n4_; have HO348 := n5_; have HB := n6_; clear n0_ n1_ n2_ n3_ n4_ n5_ n6_; (try clear hb); (try clear hb2); (try clear hk); (try clear hi); (try clear ho0); obtain ⟨Ao58, co58, eo58⟩ := Kd.R_slice HO344.out; subst eo58; obtain ⟨Ao59, co59, eo59⟩ := Kd.R_slice HO348.out; subst eo59) | ((with_reducible refine gate_callee (f := 47) rfl ?_); refine goesL_ (some 71) rfl rfl Try.func47 (by kernel_rfl) rfl #[.slice Ao58 t341.length co58, .slice Ao59 t345.length co59] rfl (by (try simp only [List.map_toArray, List.map_cons, List.map_nil]); first | done | rfl | (simp only [List.length_drop, List.length_take]; rfl)) ?_; (with_reducible refine (impl_PlanBeside.calls _ _ t341 _ _ t345 t349 t350 _ ?side1 ?side2 ?side3 ?side4 A26.out).mono ?_); (case side1 => repeat (first | exact (Kd.R_reads' HO344.out).2.2 | (with_reducible refine Kd.C_alloc ?_ _) | (with_reducible refine Kd.C_drewN ?_ _) | (with_reducible refine Kd.C_drew ?_))); (case side2 => exact (Kd.R_reads' HO344.out).2.1); (case side3 => repeat (first | exact (Kd.R_reads' HO348.out).2.2 | (with_reducible refine Kd.C_alloc ?_ _) | (with_reducible refine Kd.C_drewN ?_ _) | (with_reducible refine Kd.C_drew ?_))); (case side4 => exact (Kd.R_reads' HO348.out).2.1); rintro e w60 ⟨v351, rfl, ho0, hb⟩; refine ⟨_, rfl, ?_⟩; have n0_ := Aside0.mk (Kd.V_elder' (by (with_reducible repeat (first | apply Kd.V_alloc | apply Kd.V_drewN | apply Kd.V_drew)); exact HO_3.out) (Kd.R_base ho0) hb); have n1_ := Aside0.mk (Kd.V_elder' (by (with_reducible repeat (first | apply Kd.V_alloc | apply Kd.V_drewN | apply Kd.V_drew)); exact HO_4.out) (Kd.R_base ho0) hb); have n2_ := Aside0.mk (Kd.R_elder' (by (with_reducible repeat (first | apply Kd.R_alloc | apply Kd.R_drewN | apply Kd.R_drew)); exact HO_5.out) (Kd.R_base ho0) hb); have n3_ := Aside0.mk (Kd.R_elder' (by (with_reducible repeat (first | apply Kd.R_alloc | apply Kd.R_drewN | apply Kd.R_drew)); exact HO_7.out) (Kd.R_base ho0) hb); have n4_ := Aside0.mk (Kd.R_elder' (by (with_reducible repeat (first | apply Kd.R_alloc | apply Kd.R_drewN | apply Kd.R_drew)); exact HO344.out) (Kd.R_base ho0) hb); have n5_ := Aside0.mk (Kd.R_elder' (by (with_reducible repeat (first | apply Kd.R_alloc | apply Kd.R_drewN | apply Kd.R_drew)); exact HO348.out) (Kd.R_base ho0) hb); have n6_ := Aside0.mk (Kd.R_lower (Kd.R_new' (Kd.R_new' (Kd.R_new' (Kd.R_new' ho0 (Kd.R_lt (by (with_reducible repeat (first | apply Kd.R_alloc | apply Kd.R_drewN | apply Kd.R_drew)); exact HO_5.out))) (Kd.R_lt (by (with_reducible repeat (first | apply Kd.R_alloc | apply Kd.R_drewN | apply Kd.R_drew)); exact HO_7.out))) (Kd.R_lt (by (with_reducible repeat (first | apply Kd.R_alloc | apply Kd.R_drewN | apply Kd.R_drew)); exact HO344.out))) (Kd.R_lt (by (with_reducible repeat (first | apply Kd.R_alloc | apply Kd.R_drewN | apply Kd.R_drew)); exact HO348.out))) (below_size (by repeat (first | (with_reducible first | exact HB.out | apply below_alloc | apply pw_below_drewN | apply below_drew1) | exact HB.out)))); have n7_ := Aside0.mk (below_step (by repeat (first | (with_reducible first | exact HB.out | apply below_alloc | apply pw_below_drewN | apply below_drew1) | exact HB.out)) hb); clear HO_3; clear HO_4; clear HO_5; clear HO_7; clear HO344; clear HO348; clear HB; have HO_3 := n0_; have HO_4 := n1_; have HO_5 := n2_; have HO_7 := n3_; have HO344 := n4_; have HO348 := n5_; have HO352 := n6_; have HB := n7_; clear n0_ n1_ n2_ n3_ n4_ n5_ n6_ n7_; (try clear hb); (try clear hb2); (try clear hk); (try clear hi); (try clear ho0); obtain ⟨Ao61, co61, eo61⟩ := Kd.R_slice HO_5.out; subst eo61) | ((with_reducible refine gate_callee (f := 26) rfl ?_); refine goesL_ (some 76) rfl rfl Try.func26 (by kernel_rfl) rfl #[.slice Ao61 t331.length co61] rfl (by (try simp only [List.map_toArray, List.map_cons, List.map_nil]); first | done | rfl | (simp only [List.length_drop, List.length_take]; rfl)) ?_; (with_reducible refine (impl_PlanTrans.calls _ _ t331 t353 t354 _ ?side1 ?side2 A27.out).mono ?_); (case side1 => repeat (first | exact (Kd.R_reads' HO_5.out).2.2 | (with_reducible refine Kd.C_alloc ?_ _) | (with_reducible refine Kd.C_drewN ?_ _) | (with_reducible refine Kd.C_drew ?_))); (case side2 => exact (Kd.R_reads' HO_5.out).2.1); rintro e w62 ⟨v355, rfl, ho0, hb⟩; refine ⟨_, rfl, ?_⟩; have n0_ := Aside0.mk (Kd.V_elder' (by (with_reducible repeat (first | apply Kd.V_alloc | apply Kd.V_drewN | apply Kd.V_drew)); exact HO_3.out) (Kd.R_base ho0) hb); have n1_ := Aside0.mk (Kd.V_elder' (by (with_reducible repeat (first | apply Kd.V_alloc | apply Kd.V_drewN | apply Kd.V_drew)); exact HO_4.out) (Kd.R_base ho0) hb); have n2_ := Aside0.mk (Kd.R_elder' (by (with_reducible repeat (first | apply Kd.R_alloc | apply Kd.R_drewN | apply Kd.R_drew)); exact HO_5.out) (Kd.R_base ho0) hb); have n3_ := Aside0.mk (Kd.R_elder' (by (with_reducible repeat (first | apply Kd.R_alloc | apply Kd.R_drewN | apply Kd.R_drew)); exact HO_7.out) (Kd.R_base ho0) hb); have n4_ := Aside0.mk (Kd.R_elder' (by (with_reducible repeat (first | apply Kd.R_alloc | apply Kd.R_drewN | apply Kd.R_drew)); exact HO344.out) (Kd.R_base ho0) hb); have n5_ := Aside0.mk (Kd.R_elder' (by (with_reducible repeat (first | apply Kd.R_alloc | apply Kd.R_drewN | apply Kd.R_drew)); exact HO348.out) (Kd.R_base ho0) hb); have n6_ := Aside0.mk (Kd.R_elder' (by (with_reducible repeat (first | apply Kd.R_alloc | apply Kd.R_drewN | apply Kd.R_drew)); exact HO352.out) (Kd.R_base ho0) hb); have n7_ := Aside0.mk (Kd.R_lower (Kd.R_new' (Kd.R_new' (Kd.R_new' (Kd.R_new' (Kd.R_new' ho0 (Kd.R_lt (by (with_reducible repeat (first | apply Kd.R_alloc | apply Kd.R_drewN | apply Kd.R_drew)); exact HO_5.out))) (Kd.R_lt (by (with_reducible repeat (first | apply Kd.R_alloc | apply Kd.R_drewN | apply Kd.R_drew)); exact HO_7.out))) (Kd.R_lt (by (with_reducible repeat (first | apply Kd.R_alloc | apply Kd.R_drewN | apply Kd.R_drew)); exact HO344.out))) (Kd.R_lt (by (with_reducible repeat (first | apply Kd.R_alloc | apply Kd.R_drewN | apply Kd.R_drew)); exact HO348.out))) (Kd.R_lt (by (with_reducible repeat (first | apply Kd.R_alloc | apply Kd.R_drewN | apply Kd.R_drew)); exact HO352.out))) (below_size (by repeat (first | (with_reducible first | exact HB.out | apply below_alloc | apply pw_below_drewN | apply below_drew1) | exact HB.out)))); have n8_ := Aside0.mk (below_step (by repeat (first | (with_reducible first | exact HB.out | apply below_alloc | apply pw_below_drewN | apply below_drew1) | exact HB.out)) hb); clear HO_3; clear HO_4; clear HO_5; clear HO_7; clear HO344; clear HO348; clear HO352; clear HB; have HO_3 := n0_; have HO_4 := n1_; have HO_5 := n2_; have HO_7 := n3_; have HO344 := n4_; have HO348 := n5_; have HO352 := n6_; have HO356 := n7_; have HB := n8_; clear n0_ n1_ n2_ n3_ n4_ n5_ n6_ n7_ n8_; (try clear hb); (try clear hb2); (try clear hk); (try clear hi); (try clear ho0)))
       go_ret
       exact ⟨by first | rfl | (simp [errW_none, errW_some] <;> rfl) | (simp [*, errW_none, errW_some] <;> rfl), by repeat (first | (with_reducible first | exact HB.out | apply below_alloc | apply pw_below_drewN | apply below_drew1) | exact HB.out)⟩
     ·replace c28 := Bool.eq_false_iff.mpr c28
      subst c28
      have H1 : (some false) = some r := by rw [if_neg (show ¬ (false = true) by decide)] at H; exact H
      clear H
      have H := H1
      clear H1
      obtain rfl := Option.some.inj H
      go_wp2_with (first | ((with_reducible refine gate_callee (f := 26) rfl ?_); refine goesL_ (some 60) rfl rfl Try.func26 (by kernel_rfl) rfl #[.slice Ao8 t325.length co8] rfl (by (try simp only [List.map_toArray, List.map_cons, List.map_nil]); first | done | rfl | (simp only [List.length_drop, List.length_take]; rfl)) ?_; (with_reducible refine (impl_PlanTrans.calls _ _ t325 t341 false _ ?side1 ?side2 A24.out).mono ?_); (case side1 => repeat (first | exact (Kd.V_reads' HO_3.out).2.2 | (with_reducible refine Kd.C_alloc ?_ _) | (with_reducible refine Kd.C_drewN ?_ _) | (with_reducible refine Kd.C_drew ?_))); (case side2 => exact (Kd.V_reads' HO_3.out).2.1); rintro e w63 ⟨v343, rfl, ho0, hb⟩; refine ⟨_, rfl, ?_⟩; have n0_ := Aside0.mk (Kd.V_elder' (by (with_reducible repeat (first | apply Kd.V_alloc | apply Kd.V_drewN | apply Kd.V_drew)); exact HO_3.out) (Kd.R_base ho0) hb); have n1_ := Aside0.mk (Kd.V_elder' (by (with_reducible repeat (first | apply Kd.V_alloc | apply Kd.V_drewN | apply Kd.V_drew)); exact HO_4.out) (Kd.R_base ho0) hb); have n2_ := Aside0.mk (Kd.R_elder' (by (with_reducible repeat (first | apply Kd.R_alloc | apply Kd.R_drewN | apply Kd.R_drew)); exact HO_5.out) (Kd.R_base ho0) hb); have n3_ := Aside0.mk (Kd.R_elder' (by (with_reducible repeat (first | apply Kd.R_alloc | apply Kd.R_drewN | apply Kd.R_drew)); exact HO_7.out) (Kd.R_base ho0) hb); have n4_ := Aside0.mk (Kd.R_lower (Kd.R_new' (Kd.R_new' ho0 (Kd.R_lt (by (with_reducible repeat (first | apply Kd.R_alloc | apply Kd.R_drewN | apply Kd.R_drew)); exact HO_5.out))) (Kd.R_lt (by (with_reducible repeat (first | apply Kd.R_alloc | apply Kd.R_drewN | apply Kd.R_drew)); exact HO_7.out))) (below_size (by repeat (first | (with_reducible first | exact HB.out | apply below_alloc | apply pw_below_drewN | apply below_drew1) | exact HB.out)))); have n5_ := Aside0.mk (below_step (by repeat (first | (with_reducible first | exact HB.out | apply below_alloc | apply pw_below_drewN | apply below_drew1) | exact HB.out)) hb); clear HO_3; clear HO_4; clear HO_5; clear HO_7; clear HB; have HO_3 := n0_; have HO_4 := n1_; have HO_5 := n2_; have HO_7 := n3_; have HO344 := n4_; have HB := n5_; clear n0_ n1_ n2_ n3_ n4_ n5_; (try clear hb); (try clear hb2); (try clear hk); (try clear hi); (try clear ho0)) | ((with_reducible refine gate_callee (f := 26) rfl ?_); refine goesL_ (some 65) rfl rfl Try.func26 (by kernel_rfl) rfl #[.slice Ao9 t328.length co9] rfl (by (try simp only [List.map_toArray, List.map_cons, List.map_nil]); first | done | rfl | (simp only [List.length_drop, List.length_take]; rfl)) ?_; (with_reducible refine (impl_PlanTrans.calls _ _ t328 t345 t346 _ ?side1 ?side2 A25.out).mono ?_); (case side1 => repeat (first | exact (Kd.V_reads' HO_4.out).2.2 | (with_reducible refine Kd.C_alloc ?_ _) | (with_reducible refine Kd.C_drewN ?_ _) | (with_reducible refine Kd.C_drew ?_))); (case side2 => exact (Kd.V_reads' HO_4.out).2.1); rintro e w64 ⟨v347, rfl, ho0, hb⟩; refine ⟨_, rfl, ?_⟩; have n0_ := Aside0.mk (Kd.V_elder' (by (with_reducible repeat (first | apply Kd.V_alloc | apply Kd.V_drewN | apply Kd.V_drew)); exact HO_3.out) (Kd.R_base ho0) hb); have n1_ := Aside0.mk (Kd.V_elder' (by (with_reducible repeat (first | apply Kd.V_alloc | apply Kd.V_drewN | apply Kd.V_drew)); exact HO_4.out) (Kd.R_base ho0) hb); have n2_ := Aside0.mk (Kd.R_elder' (by (with_reducible repeat (first | apply Kd.R_alloc | apply Kd.R_drewN | apply Kd.R_drew)); exact HO_5.out) (Kd.R_base ho0) hb); have n3_ := Aside0.mk (Kd.R_elder' (by (with_reducible repeat (first | apply Kd.R_alloc | apply Kd.R_drewN | apply Kd.R_drew)); exact HO_7.out) (Kd.R_base ho0) hb); have n4_ := Aside0.mk (Kd.R_elder' (by (with_reducible repeat (first | apply Kd.R_alloc | apply Kd.R_drewN | apply Kd.R_drew)); exact HO344.out) (Kd.R_base ho0) hb); have n5_ := Aside0.mk (Kd.R_lower (Kd.R_new' (Kd.R_new' (Kd.R_new' ho0 (Kd.R_lt (by (with_reducible repeat (first | apply Kd.R_alloc | apply Kd.R_drewN | apply Kd.R_drew)); exact HO_5.out))) (Kd.R_lt (by (with_reducible repeat (first | apply Kd.R_alloc | apply Kd.R_drewN | apply Kd.R_drew)); exact HO_7.out))) (Kd.R_lt (by (with_reducible repeat (first | apply Kd.R_alloc | apply Kd.R_drewN | apply Kd.R_drew)); exact HO344.out))) (below_size (by repeat (first | (with_reducible first | exact HB.out | apply below_alloc | apply pw_below_drewN | apply below_drew1) | exact HB.out)))); have n6_ := Aside0.mk (below_step (by repeat (first | (with_reducible first | exact HB.out | apply below_alloc | apply pw_below_drewN | apply below_drew1) | exact HB.out)) hb); clear HO_3; clear HO_4; clear HO_5; clear HO_7; clear HO344; clear HB; have HO_3 := n0_; have HO_4 := n1_; have HO_5 := n2_; have HO_7 := n3_; have HO344 := n4_; have HO348 := n5_; have HB := n6_; clear n0_ n1_ n2_ n3_ n4_ n5_ n6_; (try clear hb); (try clear hb2); (try clear hk); (try clear hi); (try clear ho0); obtain ⟨Ao65, co65, eo65⟩ := Kd.R_slice HO344.out; subst eo65; obtain ⟨Ao66, co66, eo66⟩ := Kd.R_slice HO348.out; subst eo66) | ((with_reducible refine gate_callee (f := 47) rfl ?_); refine goesL_ (some 71) rfl rfl Try.func47 (by kernel_rfl) rfl #[.slice Ao65 t341.length co65, .slice Ao66 t345.length co66] rfl (by (try simp only [List.map_toArray, List.map_cons, List.map_nil]); first | done | rfl | (simp only [List.length_drop, List.length_take]; rfl)) ?_; (with_reducible refine (impl_PlanBeside.calls _ _ t341 _ _ t345 t349 t350 _ ?side1 ?side2 ?side3 ?side4 A26.out).mono ?_); (case side1 => repeat (first | exact (Kd.R_reads' HO344.out).2.2 | (with_reducible refine Kd.C_alloc ?_ _) | (with_reducible refine Kd.C_drewN ?_ _) | (with_reducible refine Kd.C_drew ?_))); (case side2 => exact (Kd.R_reads' HO344.out).2.1); (case side3 => repeat (first | exact (Kd.R_reads' HO348.out).2.2 | (with_reducible refine Kd.C_alloc ?_ _) | (with_reducible refine Kd.C_drewN ?_ _) | (with_reducible refine Kd.C_drew ?_))); (case side4 => exact (Kd.R_reads' HO348.out).2.1); rintro e w67 ⟨v351, rfl, ho0, hb⟩; refine ⟨_, rfl, ?_⟩; have n0_ := Aside0.mk (Kd.V_elder' (by (with_reducible repeat (first | apply Kd.V_alloc | apply Kd.V_drewN | apply Kd.V_drew)); exact HO_3.out) (Kd.R_base ho0) hb); have n1_ := Aside0.mk (Kd.V_elder' (by (with_reducible repeat (first | apply Kd.V_alloc | apply Kd.V_drewN | apply Kd.V_drew)); exact HO_4.out) (Kd.R_base ho0) hb); have n2_ := Aside0.mk (Kd.R_elder' (by (with_reducible repeat (first | apply Kd.R_alloc | apply Kd.R_drewN | apply Kd.R_drew)); exact HO_5.out) (Kd.R_base ho0) hb); have n3_ := Aside0.mk (Kd.R_elder' (by (with_reducible repeat (first | apply Kd.R_alloc | apply Kd.R_drewN | apply Kd.R_drew)); exact HO_7.out) (Kd.R_base ho0) hb); have n4_ := Aside0.mk (Kd.R_elder' (by (with_reducible repeat (first | apply Kd.R_alloc | apply Kd.R_drewN | apply Kd.R_drew)); exact HO344.out) (Kd.R_base ho0) hb); have n5_ := Aside0.mk (Kd.R_elder' (by (with_reducible repeat (first | apply Kd.R_alloc | apply Kd.R_drewN | apply Kd.R_drew)); exact HO348.out) (Kd.R_base ho0) hb); have n6_ := Aside0.mk (Kd.R_lower (Kd.R_new' (Kd.R_new' (Kd.R_new' (Kd.R_new' ho0 (Kd.R_lt (by (with_reducible repeat (first | apply Kd.R_alloc | apply Kd.R_drewN | apply Kd.R_drew)); exact HO_5.out))) (Kd.R_lt (by (with_reducible repeat (first | apply Kd.R_alloc | apply Kd.R_drewN | apply Kd.R_drew)); exact HO_7.out))) (Kd.R_lt (by (with_reducible repeat (first | apply Kd.R_alloc | apply Kd.R_drewN | apply Kd.R_drew)); exact HO344.out))) (Kd.R_lt (by (with_reducible repeat (first | apply Kd.R_alloc | apply Kd.R_drewN | apply Kd.R_drew)); exact HO348.out))) (below_size (by repeat (first | (with_reducible first | exact HB.out | apply below_alloc | apply pw_below_drewN | apply below_drew1) | exact HB.out)))); have n7_ := Aside0.mk (below_step (by repeat (first | (with_reducible first | exact HB.out | apply below_alloc | apply pw_below_drewN | apply below_drew1) | exact HB.out)) hb); clear HO_3; clear HO_4; clear HO_5; clear HO_7; clear HO344; clear HO348; clear HB; have HO_3 := n0_; have HO_4 := n1_; have HO_5 := n2_; have HO_7 := n3_; have HO344 := n4_; have HO348 := n5_; have HO352 := n6_; have HB := n7_; clear n0_ n1_ n2_ n3_ n4_ n5_ n6_ n7_; (try clear hb); (try clear hb2); (try clear hk); (try clear hi); (try clear ho0); obtain ⟨Ao68, co68, eo68⟩ := Kd.R_slice HO_5.out; subst eo68) | ((with_reducible refine gate_callee (f := 26) rfl ?_); refine goesL_ (some 76) rfl rfl Try.func26 (by kernel_rfl) rfl #[.slice Ao68 t331.length co68] rfl (by (try simp only [List.map_toArray, List.map_cons, List.map_nil]); first | done | rfl | (simp only [List.length_drop, List.length_take]; rfl)) ?_; (with_reducible refine (impl_PlanTrans.calls _ _ t331 t353 t354 _ ?side1 ?side2 A27.out).mono ?_); (case side1 => repeat (first | exact (Kd.R_reads' HO_5.out).2.2 | (with_reducible refine Kd.C_alloc ?_ _) | (with_reducible refine Kd.C_drewN ?_ _) | (with_reducible refine Kd.C_drew ?_))); (case side2 => exact (Kd.R_reads' HO_5.out).2.1); rintro e w69 ⟨v355, rfl, ho0, hb⟩; refine ⟨_, rfl, ?_⟩; have n0_ := Aside0.mk (Kd.V_elder' (by (with_reducible repeat (first | apply Kd.V_alloc | apply Kd.V_drewN | apply Kd.V_drew)); exact HO_3.out) (Kd.R_base ho0) hb); have n1_ := Aside0.mk (Kd.V_elder' (by (with_reducible repeat (first | apply Kd.V_alloc | apply Kd.V_drewN | apply Kd.V_drew)); exact HO_4.out) (Kd.R_base ho0) hb); have n2_ := Aside0.mk (Kd.R_elder' (by (with_reducible repeat (first | apply Kd.R_alloc | apply Kd.R_drewN | apply Kd.R_drew)); exact HO_5.out) (Kd.R_base ho0) hb); have n3_ := Aside0.mk (Kd.R_elder' (by (with_reducible repeat (first | apply Kd.R_alloc | apply Kd.R_drewN | apply Kd.R_drew)); exact HO_7.out) (Kd.R_base ho0) hb); have n4_ := Aside0.mk (Kd.R_elder' (by (with_reducible repeat (first | apply Kd.R_alloc | apply Kd.R_drewN | apply Kd.R_drew)); exact HO344.out) (Kd.R_base ho0) hb); have n5_ := Aside0.mk (Kd.R_elder' (by (with_reducible repeat (first | apply Kd.R_alloc | apply Kd.R_drewN | apply Kd.R_drew)); exact HO348.out) (Kd.R_base ho0) hb); have n6_ := Aside0.mk (Kd.R_elder' (by (with_reducible repeat (first | apply Kd.R_alloc | apply Kd.R_drewN | apply Kd.R_drew)); exact HO352.out) (Kd.R_base ho0) hb); have n7_ := Aside0.mk (Kd.R_lower (Kd.R_new' (Kd.R_new' (Kd.R_new' (Kd.R_new' (Kd.R_new' ho0 (Kd.R_lt (by (with_reducible repeat (first | apply Kd.R_alloc | apply Kd.R_drewN | apply Kd.R_drew)); exact HO_5.out))) (Kd.R_lt (by (with_reducible repeat (first | apply Kd.R_alloc | apply Kd.R_drewN | apply Kd.R_drew)); exact HO_7.out))) (Kd.R_lt (by (with_reducible repeat (first | apply Kd.R_alloc | apply Kd.R_drewN | apply Kd.R_drew)); exact HO344.out))) (Kd.R_lt (by (with_reducible repeat (first | apply Kd.R_alloc | apply Kd.R_drewN | apply Kd.R_drew)); exact HO348.out))) (Kd.R_lt (by (with_reducible repeat (first | apply Kd.R_alloc | apply Kd.R_drewN | apply Kd.R_drew)); exact HO352.out))) (below_size (by repeat (first | (with_reducible first | exact HB.out | apply below_alloc | apply pw_below_drewN | apply below_drew1) | exact HB.out)))); have n8_ := Aside0.mk (below_step (by repeat (first | (with_reducible first | exact HB.out | apply below_alloc | apply pw_below_drewN | apply below_drew1) | exact HB.out)) hb); clear HO_3; clear HO_4; clear HO_5; clear HO_7; clear HO344; clear HO348; clear HO352; clear HB; have HO_3 := n0_; have HO_4 := n1_; have HO_5 := n2_; have HO_7 := n3_; have HO344 := n4_; have HO348 := n5_; have HO352 := n6_; have HO356 := n7_; have HB := n8_; clear n0_ n1_ n2_ n3_ n4_ n5_ n6_ n7_ n8_; (try clear hb); (try clear hb2); (try clear hk); (try clear hi); (try clear ho0)))
      go_ret
      exact ⟨by first | rfl | (simp [errW_none, errW_some] <;> rfl) | (simp [*, errW_none, errW_some] <;> rfl), by repeat (first | (with_reducible first | exact HB.out | apply below_alloc | apply pw_below_drewN | apply below_drew1) | exact HB.out)⟩
def laws_FnUnder.Pure : Prop := ∀ (l0 : List Int), l0.length ≤ maxLen → l0.length * 1 ≤ 140737488351232 → (∀ x ∈ l0, (Lit.int .u8 x).wf = true) → ∃ k, laws_FnUnder.f k l0 = some true
theorem laws_FnUnder.walk (P : laws_FnUnder.Pure) (a0 : Option Addr) (len0 cap0 : Nat) (z0 : List Int) (w : World) (w0 : (a0 = none ∧ len0 = 0 ∧ cap0 = 0 ∧ z0 = []) ∨ ∃ x, a0 = some x ∧ len0 ≤ cap0 ∧ cap0 ≤ maxLen ∧ z0.length = cap0 ∧ (∀ i, i < z0.length → w.cell? (x.add i) = some (.int .u8 (z0.getD i 0))) ∧ ∀ n ∈ z0, (Lit.int .u8 n).wf = true) (y0 : len0 * 1 ≤ 140737488351232) :
  Calls Try.prog 13 #[.slice a0 len0 cap0] w fun e w' => e = .returned (.bool true) ∧ Below w.heap.size w w' := by
 obtain ⟨l0, rfl, hr0, hm0, hw0, hc0⟩ := ReadsInt.ofRowC w0
 obtain ⟨k, h⟩ := P l0 hm0 y0 hw0
 refine (laws_FnUnder.calls k _ _ l0 true w (Kd.C_of_reads (d := (0 : Int)) (h1 := fun _ => rfl) hr0) hc0 h).mono ?_
 rintro e w' ⟨rfl, hd⟩
 exact ⟨rfl, hd⟩
end Go.Proofs.Ytacdgeoleeedpaa.LU
namespace Go.Proofs.Ytacdgeoleeedpaa.Hd
open Go.RowKit Go.Proofs.YtacdgeoleeedpaaW.PrintWords Go.Proofs.YtacdgeoleeedpaaW.PrintLast Go.Proofs.YtacdgeoleeedpaaW.PrintMore Go.Proofs.Ytacdgeoleeedpaa.PB
set_option linter.unusedVariables false
set_option linter.unusedSimpArgs false
structure Lil (p : List ByteArray) : Prop where
 high : p.length ≤ 100
 row : ∀ s ∈ p, s.size ≤ 100
theorem Lil.small {p : List ByteArray} (h : Lil p) : smallP p := ⟨by have := h.high; omega, fun s hs => by have := h.row s hs; omega⟩
theorem Mid.lil {p : List ByteArray} {wi : Nat} (h : Mid p wi) : Lil p := ⟨h.high, fun s hs => by rw [h.row s hs]; exact h.wide⟩
theorem bt_range (s : ByteArray) (j : Nat) (hj : j < s.size) : 0 ≤ bt s (j : Int) ∧ bt s (j : Int) ≤ 255 := by
 obtain ⟨x, hx⟩ : ∃ x, (bytesOf s)[j]? = some x := ⟨_, List.getElem?_eq_getElem (by rw [bytesOf_length]; omega)⟩
 have hr := bytesOf_range s x (List.mem_of_getElem? hx)
 rw [← bt_get hx] at hr
 exact hr
theorem roomsA_l1 (p : List ByteArray) (h : Lil p) (i : Nat) (s : ByteArray) (hs : p[i]? = some s) (hnext : ∀ v, 0 ≤ v → v ≤ 255 → ∃ r, 0 ≤ r ∧ r ≤ 255 ∧ Evs (fun k => spec_l1Rooms.l0 k p v ((i + 1 : Nat) : Int)) r) :
  ∀ m j v, j + m = s.size → 0 ≤ v → v ≤ 255 → ∃ r, 0 ≤ r ∧ r ≤ 255 ∧ Evs (fun k => spec_l1Rooms.l1 k p v (i : Int) (j : Int)) r := by
 have h6 := h.high
 have w6 := h.row s (List.mem_of_getElem? hs)
 have hi := (List.getElem?_eq_some_iff.1 hs).1
 intro m
 induction m with
 | zero =>
  intro j v hj v0 v1
  obtain ⟨r, r0, r1, hr⟩ := hnext v v0 v1
  refine ⟨r, r0, r1, Evs.step (fun k => ?_) hr⟩
  conv => lhs; unfold spec_l1Rooms.l1
  rw [if_pos (by omega), if_pos (by omega), rdOf_at hs, if_neg (by omega), wrap_succ (by omega)]
 | succ m ih =>
  intro j v hj v0 v1
  have hb := bt_range s j (by omega)
  obtain ⟨r, r0, r1, hr⟩ := ih (j + 1) (max v (bt s (j : Int) - 97 + 1)) (by omega) (by omega) (by omega)
  refine ⟨r, r0, r1, Evs.step (fun k => ?_) hr⟩
  conv => lhs; unfold spec_l1Rooms.l1
  rw [if_pos (by omega), if_pos (by omega), rdOf_at hs, if_pos (by omega), if_pos (by omega), wrap64_small (x := bt s (j : Int)) (by omega) (by omega), wrap64_small (x := bt s (j : Int) - 97) (by omega) (by omega), wrap64_small (x := bt s (j : Int) - 97 + 1) (by omega) (by omega), wrap_succ (by omega), mx_max]
theorem roomsA_l0 (p : List ByteArray) (h : Lil p) : ∀ m i v, i + m = p.length → 0 ≤ v → v ≤ 255 → ∃ r, 0 ≤ r ∧ r ≤ 255 ∧ Evs (fun k => spec_l1Rooms.l0 k p v (i : Int)) r := by
 have h6 := h.high
 intro m
 induction m with
 | zero =>
  intro i v hi v0 v1
  refine ⟨v, v0, v1, Evs.step (h := fun _ => some v) (fun k => ?_) (Evs.const _)⟩
  conv => lhs; unfold spec_l1Rooms.l0
  rw [if_neg (by omega)]
 | succ m ih =>
  intro i v hi v0 v1
  obtain ⟨s, hs⟩ : ∃ s, p[i]? = some s := ⟨_, List.getElem?_eq_getElem (by omega)⟩
  obtain ⟨r, r0, r1, hr⟩ := roomsA_l1 p h i s hs (fun v v0 v1 => ih (i + 1) v (by omega) v0 v1) s.size 0 v (by omega) v0 v1
  refine ⟨r, r0, r1, Evs.step (fun k => ?_) hr⟩
  conv => lhs; unfold spec_l1Rooms.l0
  rw [if_pos (by omega)]
  rfl
theorem l1Rooms_any (p : List ByteArray) (h : Lil p) : ∃ r, 0 ≤ r ∧ r ≤ 255 ∧ Evs (fun k => spec_l1Rooms.f k p) r := roomsA_l0 p h p.length 0 0 (by omega) (by omega) (by omega)
end Go.Proofs.Ytacdgeoleeedpaa.Hd
namespace Go.Proofs.Ytacdgeoleeedpaa.Hd
open Go.RowKit Go.Proofs.YtacdgeoleeedpaaW.PrintWords Go.Proofs.YtacdgeoleeedpaaW.PrintLast Go.Proofs.YtacdgeoleeedpaaW.PrintMore Go.Proofs.Ytacdgeoleeedpaa.PB
set_option linter.unusedVariables false
set_option linter.unusedSimpArgs false
theorem sameTexts_l0 (a b : List ByteArray) (hl : a.length = b.length) (ha : a.length ≤ 1000000) : ∀ m i, i + m = a.length → Evs (fun k => laws_sameTexts.l0 k a b (i : Int)) (decide (a.drop i = b.drop i)) := by
 intro m
 induction m with
 | zero =>
  intro i hi
  refine Evs.step (h := fun _ => some (decide (a.drop i = b.drop i))) (fun k => ?_) (Evs.const _)
  conv => lhs; unfold laws_sameTexts.l0
  rw [if_neg (by omega), List.drop_eq_nil_of_le (by omega), List.drop_eq_nil_of_le (by omega)]
  rfl
 | succ m ih =>
  intro i hi
  obtain ⟨s, hs⟩ : ∃ s, a[i]? = some s := ⟨_, List.getElem?_eq_getElem (by omega)⟩
  obtain ⟨t, ht⟩ : ∃ t, b[i]? = some t := ⟨_, List.getElem?_eq_getElem (by omega)⟩
  have hsd : a.drop i = s :: a.drop (i + 1) := by rw [List.drop_eq_getElem_cons (by omega)]; rw [List.getElem?_eq_getElem (by omega)] at hs; rw [Option.some.inj hs]
  have htd : b.drop i = t :: b.drop (i + 1) := by rw [List.drop_eq_getElem_cons (by omega)]; rw [List.getElem?_eq_getElem (by omega)] at ht; rw [Option.some.inj ht]
  by_cases e : s = t
  ·have hd : decide (a.drop i = b.drop i) = decide (a.drop (i + 1) = b.drop (i + 1)) := by rw [hsd, htd, e]; simp
   rw [hd]
   refine Evs.step (h := fun k => laws_sameTexts.l0 k a b ((i + 1 : Nat) : Int)) (fun k => ?_) (ih (i + 1) (by omega))
   conv => lhs; unfold laws_sameTexts.l0
   rw [if_pos (by omega), if_pos (by omega), if_pos (by omega), rdOf_at hs, rdOf_at ht, if_pos (by rw [e]), wrap_succ (by omega)]
  ·have hd : decide (a.drop i = b.drop i) = false := by rw [hsd, htd]; simp [e]
   rw [hd]
   refine Evs.step (h := fun _ => some false) (fun k => ?_) (Evs.const _)
   conv => lhs; unfold laws_sameTexts.l0
   rw [if_pos (by omega), if_pos (by omega), if_pos (by omega), rdOf_at hs, rdOf_at ht, if_neg (fun h => e (toList_inj.1 h))]
theorem sameTexts_ev (a b : List ByteArray) (ha : a.length ≤ 1000000) : Evs (fun k => laws_sameTexts.f k a b) (decide (a = b)) := by
 by_cases hl : a.length = b.length
 ·refine Evs.congr (h := fun k => laws_sameTexts.l0 k a b ((0 : Nat) : Int)) (fun k => ?_) (sameTexts_l0 a b hl ha a.length 0 (by omega))
  unfold laws_sameTexts.f
  rw [if_pos (by omega)]; rfl
 ·have : decide (a = b) = false := by simp; intro h; rw [h] at hl; exact hl rfl
  rw [this]
  refine Evs.congr (h := fun _ => some false) (fun k => ?_) (Evs.const _)
  unfold laws_sameTexts.f
  rw [if_neg (by omega)]
theorem sameTexts_refl (a : List ByteArray) (ha : a.length ≤ 1000000) : Evs (fun k => laws_sameTexts.f k a a) true := by
 have := sameTexts_ev a a ha
 simpa using this
end Go.Proofs.Ytacdgeoleeedpaa.Hd
namespace Go.Proofs.Ytacdgeoleeedpaa.Hd
open Go.RowKit Go.Proofs.YtacdgeoleeedpaaW.PrintWords Go.Proofs.YtacdgeoleeedpaaW.PrintLast Go.Proofs.YtacdgeoleeedpaaW.PrintMore Go.Proofs.Ytacdgeoleeedpaa.PB
set_option linter.unusedVariables false
set_option linter.unusedSimpArgs false
theorem byte_of {x : Int} (h : (Lit.int .u8 x).wf = true) : 0 ≤ x ∧ x ≤ 255 := by
 simp only [Lit.wf, IntKind.min, IntKind.max, IntKind.signed, IntKind.bits, Bool.and_eq_true, decide_eq_true_eq] at h
 have h1 := h.1
 have h2 := h.2
 simp at h1 h2
 omega
theorem OkG.facts {X : List (List Int)} (h : OkG X) : PlanFacts (planOf X) (Hd.canon X) (roomsOf X) := floor_facts h.floor
theorem OkG.plength {X : List (List Int)} (h : OkG X) : (planOf X).length = X.length := by rw [h.facts.len, canon_length]
theorem OkG.psmall {X : List (List Int)} (h : OkG X) : smallB (planOf X) = true := by
 have q := gridOk_small h.facts.canon.grid
 rw [smallB_iff]
 exact ⟨by have := q.high; omega, fun s hs => by have := q.row s hs; have := q.wide; omega⟩
theorem in_cases (p : List ByteArray) : (∃ X, OkG X ∧ p = planOf X) ∨ floorF p = none := by
 cases h : floorF p with
 | none => exact .inr rfl
 | some t =>
  obtain ⟨cs, rs⟩ := t
  obtain ⟨h1, h2, h3⟩ := plan_of h
  exact .inl ⟨cs, h1, h2⟩
theorem Evs.ex {α : Type} {g : Nat → Option α} {r : α} (h : Evs g r) : ∃ k, g k = some r := by
 obtain ⟨K, hK⟩ := h
 exact ⟨K, hK K (by omega)⟩
end Go.Proofs.Ytacdgeoleeedpaa.Hd
namespace Go.Proofs.Ytacdgeoleeedpaa.Hd
open Go.RowKit Go.Proofs.YtacdgeoleeedpaaW.PrintWords Go.Proofs.YtacdgeoleeedpaaW.PrintLast Go.Proofs.YtacdgeoleeedpaaW.PrintMore Go.Proofs.Ytacdgeoleeedpaa.PB
set_option linter.unusedVariables false
set_option linter.unusedSimpArgs false
theorem bytesOf_putS (s : ByteArray) (l n : Nat) (c : Int) (h0 : 0 ≤ c) (h1 : c ≤ 255) : bytesOf (putS s l n c) = putN (bytesOf s) l n c := by
 unfold putS
 refine bytesOf_strOfNums _ fun x hx => ?_
 unfold putN at hx
 obtain ⟨i, hi, e⟩ := List.mem_iff_getElem.1 hx
 rw [List.getElem_mapIdx] at e
 subst e
 split
 ·exact ⟨h0, h1⟩
 ·exact bytesOf_range s _ (List.getElem_mem _)
def putB (t l h m : Nat) (r c : Nat) : Prop := (t ≤ r ∧ r < t + h) ∧ (l ≤ c ∧ c < l + m)
instance (t l h m r c : Nat) : Decidable (putB t l h m r c) := by unfold putB; exact inferInstance
theorem numsOf_put {p : List ByteArray} {wi : Nat} (hs : Small p wi) (t l h m : Nat) (x : Int) (h0 : 0 ≤ x) (h1 : x ≤ 255) : numsOf (putR p t h l m x) = gridOf p.length wi (fun r c => if putB t l h m r c then x else valAt (numsOf p) r c) := by
 apply List.ext_getElem?
 intro r
 by_cases hr : r < p.length
 ·rw [gridOf_get hr]
  unfold numsOf putR
  rw [List.getElem?_map, List.getElem?_mapIdx, List.getElem?_eq_getElem hr]
  simp only [Option.map_some]
  congr 1
  have hsz := hs.row _ (List.getElem_mem hr)
  have hrow : ∀ c, c < wi → (bytesOf p[r])[c]? = some (valAt (numsOf p) r c) := fun c hc => by
   obtain ⟨row, e1, e2⟩ := valAt_get hs.rect (by rw [numsOf_length]; exact hr) hc
   unfold numsOf at e1
   rw [List.getElem?_map, List.getElem?_eq_getElem hr] at e1
   have e1 := Option.some.inj e1
   rw [e1]
   exact e2
  apply List.ext_getElem?
  intro c
  by_cases hc : c < wi
  ·rw [List.getElem?_map, List.getElem?_range hc]
   simp only [Option.map_some]
   by_cases ht : t ≤ r ∧ r < t + h
   ·rw [if_pos ht, bytesOf_putS _ _ _ _ h0 h1]
    unfold putN
    rw [List.getElem?_mapIdx, hrow c hc]
    simp only [Option.map_some]
    congr 1
    by_cases hl : l ≤ c ∧ c < l + m
    ·rw [if_pos hl, if_pos ⟨ht, hl⟩]
    ·rw [if_neg hl, if_neg (fun z => hl z.2)]; rfl
   ·rw [if_neg ht, if_neg (fun z => ht z.1)]
    exact hrow c hc
  ·rw [List.getElem?_eq_none (by
    split
    ·rw [bytesOf_putS _ _ _ _ h0 h1, putN_length, bytesOf_length]; omega
    ·rw [bytesOf_length]; omega), List.getElem?_eq_none (by simp; omega)]
 ·rw [List.getElem?_eq_none (by simp [numsOf, putR]; omega), List.getElem?_eq_none (by rw [gridOf_length]; omega)]
theorem put_f {p : List ByteArray} {wi : Nat} (hs : Small p wi) (t l h m x : Int) (t0 : 0 ≤ t) (l0 : 0 ≤ l) (h0 : 0 ≤ h) (m0 : 0 ≤ m) (th : t + h ≤ p.length) (lm : l + m ≤ wi) (x0 : 0 ≤ x) (x1 : x ≤ 255) : spec_l1Put.f p t l h m x = some (putR p t.toNat h.toNat l.toNat m.toNat x) := by
 have hh := hs.high
 have hw := hs.wide
 have hall : (p.all fun s => decide (l + m ≤ s.size) && decide (s.size ≤ 1048576)) = true := by
  rw [List.all_eq_true]
  intro s hss
  rw [hs.row s hss, decide_eq_true lm, decide_eq_true (show wi ≤ 1048576 by omega)]
  rfl
 unfold spec_l1Put.f
 rw [if_pos]
 unfold putOk
 rw [hall, decide_eq_true t0, decide_eq_true l0, decide_eq_true h0, decide_eq_true m0, decide_eq_true x0, decide_eq_true x1, decide_eq_true (show p.length ≤ 1048576 by omega), decide_eq_true th, decide_eq_true (show l ≤ 1048576 by omega), decide_eq_true (show m ≤ 1048576 by omega)]
 rfl
theorem small_put {p : List ByteArray} {wi : Nat} (hs : Small p wi) (t h l m : Nat) (x : Int) : smallP (putR p t h l m x) := by
 have hh := hs.high
 have hw := hs.wide
 refine ⟨by rw [putR_length]; omega, fun s hss => ?_⟩
 unfold putR at hss
 obtain ⟨i, hi, e⟩ := List.mem_iff_getElem.1 hss
 rw [List.length_mapIdx] at hi
 rw [List.getElem_mapIdx] at e
 have hr := hs.row _ (List.getElem_mem hi)
 subst e
 split
 ·have hl := bytesOf_length p[i]
  show (List.map _ (putN (bytesOf p[i]) l m x)).toArray.size ≤ _
  simp [putN_length]
  omega
 ·rw [hr]; omega
theorem put_done {p : List ByteArray} {cs : List (List Int)} {rs : List Rc} (F : PlanFacts p cs rs) (t h l m : Nat) (x : Int) (x0 : 97 ≤ x) (x1 : x ≤ 122) (f : Int → Int) (hf : ∀ S, InjOn f S) (g : Nat → Nat → Int) (hg : ∀ r c, r < cs.length → c < wideOf cs → f (g r c) = if putB t l h m r c then x else 97 + valAt cs r c) : doneF (putR p t h l m x) = planF (gridOf cs.length (wideOf cs) g) := by
 have hsm := gridOk_small F.canon.grid
 rw [F.wide] at hsm
 have hn := numsOf_put hsm t l h m x (by omega) (by omega)
 have hv : numsOf (putR p t h l m x) = mapG f (gridOf cs.length (wideOf cs) g) := by
  rw [hn, mapG_gridOf, F.len]
  refine gridOf_congr fun r c hr hc => ?_
  rw [hg r c hr hc, F.nums, valAt_map F.ok.rect _ hr hc]
 have hok : (putR p t h l m x).all okText = true := by
  rw [List.all_eq_true]
  intro s hs
  refine okText_of fun y hy => ?_
  have hm : bytesOf s ∈ numsOf (putR p t h l m x) := List.mem_map.2 ⟨s, hs, rfl⟩
  rw [hn, F.len] at hm
  unfold gridOf at hm
  obtain ⟨i, hi, e⟩ := List.mem_map.1 hm
  rw [← e] at hy
  obtain ⟨j, hj, rfl⟩ := List.mem_map.1 hy
  have hi := List.mem_range.1 hi
  have hj := List.mem_range.1 hj
  have h1 := valAt_range F.ok i j hi hj
  have h2 := F.ok.many
  dsimp only
  rw [F.nums, valAt_map F.ok.rect _ hi hj]
  split <;> omega
 unfold doneF
 rw [if_pos hok, hv]
 exact plan_map (hf _)
end Go.Proofs.Ytacdgeoleeedpaa.Hd
namespace Go.Proofs.Ytacdgeoleeedpaa.Hd
open Go.RowKit Go.Proofs.YtacdgeoleeedpaaW.PrintWords Go.Proofs.YtacdgeoleeedpaaW.PrintLast Go.Proofs.YtacdgeoleeedpaaW.PrintMore Go.Proofs.Ytacdgeoleeedpaa.PB
set_option linter.unusedVariables false
set_option linter.unusedSimpArgs false
def isH (letter : ByteArray) : Bool := letter.toList == [104]
def isV (letter : ByteArray) : Bool := letter.toList == [118]
theorem isHV {letter : ByteArray} (h : isH letter = true) : isV letter = false := by
 unfold isH at h
 unfold isV
 rw [beq_iff_eq] at h
 rw [h]
 rfl
def behindB (b : Rc) (letter : ByteArray) (k : Int) (r c : Nat) : Bool := (isH letter && decide (b.f0 + k ≤ r)) || (isV letter && decide (b.f1 + k ≤ c))
def splitG (cs : List (List Int)) (rs : List Rc) (room : Int) (letter : ByteArray) (k : Int) (r c : Nat) : Int :=
 if valAt cs r c = room ∧ behindB (rs.getD room.toNat zeroR) letter k r c = true then rs.length else valAt cs r c
def splitF (p : List ByteArray) (room : Int) (letter : ByteArray) (k : Int) : List ByteArray × Bool := match floorF p with
 | none => ([], false)
 | some (cs, rs) =>
  if hasB rs room && (isH letter || isV letter) then
   if 1 ≤ k ∧ k < (if isH letter then (rs.getD room.toNat zeroR).f2 else (rs.getD room.toNat zeroR).f3) then planF (gridOf cs.length (wideOf cs) (splitG cs rs room letter k)) else ([], false)
  else ([], false)
end Go.Proofs.Ytacdgeoleeedpaa.Hd
namespace Go.Proofs.Ytacdgeoleeedpaa.Hd
open Go.RowKit Go.Proofs.YtacdgeoleeedpaaW.PrintWords Go.Proofs.YtacdgeoleeedpaaW.PrintLast Go.Proofs.YtacdgeoleeedpaaW.PrintMore Go.Proofs.Ytacdgeoleeedpaa.PB Go.Proofs.Ytacdgeoleeedpaa.SM
set_option linter.unusedVariables false
set_option linter.unusedSimpArgs false
theorem isH_iff (t : ByteArray) : isH t = true ↔ t.toList = ([104] : List UInt8) := by unfold isH; rw [beq_iff_eq]
theorem isV_iff (t : ByteArray) : isV t = true ↔ t.toList = ([118] : List UInt8) := by unfold isV; rw [beq_iff_eq]
def newName (n : Nat) (x : Int) : Int := if x = n then 122 else if x = 25 then 97 + n else 97 + x
theorem newName_inj (n : Nat) (S : Int → Prop) : InjOn (newName n) S := by
 intro a b _ _ e
 unfold newName at e
 by_cases h1 : a = n <;> by_cases h2 : a = 25 <;> by_cases h3 : b = n <;> by_cases h4 : b = 25 <;> simp only [h1, h2, h3, h4, if_true, if_false] at e <;> omega
theorem split_j1_false (p : List ByteArray) (k a b c d : Int) : Evs (fun q => spec_PlanSplit.j1 q p k a b c d false) ([], false) := by
 refine Evs.step (h := fun _ => some ([], false)) (fun q => ?_) (Evs.const _)
 show spec_PlanSplit.j1 (q + 1) p k a b c d false = _
 simp only [spec_PlanSplit.j1, Bool.false_eq_true, if_false, l1None_f, Option.bind_some]
theorem split_j0_none (p : List ByteArray) (t : ByteArray) (hV : isV t = false) (k a b c d : Int) : Evs (fun q => spec_PlanSplit.j0 q p t k a b c d false) ([], false) := by
 have hv : ¬ t.toList = ([118] : List UInt8) := fun h => by rw [(isV_iff t).2 h] at hV; cases hV
 refine Evs.step (h := fun q => spec_PlanSplit.j1 q p k a b c d false) (fun q => ?_) (split_j1_false p k a b c d)
 show spec_PlanSplit.j0 (q + 1) p t k a b c d false = _
 simp only [spec_PlanSplit.j0, Bool.false_eq_true, if_false, if_neg hv]
theorem split_none {p : List ByteArray} (a : Int) (t : ByteArray) (k : Int) : Evs (fun q => if (false = true) then ((spec_l1Room.f q p a).bind fun bt205 => (if t.toList = ([104] : List UInt8) then ((spec_l6In.f k 1 (wrap64 (bt205.2.2.1 - 1))).bind fun t209 => (spec_PlanSplit.j0 q p t k bt205.1 bt205.2.1 bt205.2.2.1 bt205.2.2.2 t209)) else (spec_PlanSplit.j0 q p t k bt205.1 bt205.2.1 bt205.2.2.1 bt205.2.2.2 false))) else ((spec_l1None.f).bind fun bt201 => (some (bt201.1, bt201.2)))) ([], false) := by
 refine Evs.congr (h := fun _ => some ([], false)) (fun q => ?_) (Evs.const _)
 rw [if_neg (by simp), l1None_f]
 rfl
theorem split_val {p : List ByteArray} {cs : List (List Int)} {rs : List Rc} (F : PlanFacts p cs rs) (room : Int) (t : ByteArray) (k : Int) (T H L M : Nat) (hcell : ∀ r c, r < cs.length → c < wideOf cs → ((valAt cs r c = room ∧ behindB (rs.getD room.toNat zeroR) t k r c = true) ↔ putB T L H M r c)) :
  doneF (putR p T H L M 122) = planF (gridOf cs.length (wideOf cs) (splitG cs rs room t k)) := by
 have h9 := F.ok.many
 refine put_done F T H L M 122 (by omega) (by omega) (newName rs.length) (newName_inj rs.length) (splitG cs rs room t k) (fun r c hr hc => ?_)
 have hc2 := hcell r c hr hc
 have hv := valAt_range F.ok r c hr hc
 unfold splitG
 by_cases h : valAt cs r c = room ∧ behindB (rs.getD room.toNat zeroR) t k r c = true
 ·rw [if_pos h, if_pos (hc2.1 h)]
  unfold newName
  rw [if_pos rfl]
 ·rw [if_neg h, if_neg (fun z => h (hc2.2 z))]
  unfold newName
  rw [if_neg (by omega), if_neg (by omega)]
theorem PlanSplit_ev (p : List ByteArray) (a : Int) (t : ByteArray) (k : Int) (hp : smallP p) : Evs (fun q => spec_PlanSplit.f q p a t k) (splitF p a t k) := by
 have ha := l1Given_ev p a hp
 cases hF : floorF p with
 | none =>
  have e1 : givenB p a = false := by unfold givenB; rw [hF]
  have e2 : splitF p a t k = ([], false) := by unfold splitF; rw [hF]
  rw [e1] at ha
  rw [e2]
  exact Evs.bind ha (split_none a t k)
 | some z =>
  obtain ⟨cs, rs⟩ := z
  have e1 : givenB p a = hasB rs a := by unfold givenB; rw [hF]
  have e2 : splitF p a t k = if hasB rs a && (isH t || isV t) then
   if 1 ≤ k ∧ k < (if isH t then (rs.getD a.toNat zeroR).f2 else (rs.getD a.toNat zeroR).f3) then planF (gridOf cs.length (wideOf cs) (splitG cs rs a t k)) else ([], false)
   else ([], false) := by unfold splitF; rw [hF]
  rw [e1] at ha
  rw [e2]
  cases hA : hasB rs a with
  | false =>
   rw [hA] at ha
   exact Evs.bind ha (split_none a t k)
  | true =>
   rw [hA] at ha
   have F := floor_facts hF
   have hsm := gridOk_small F.canon.grid
   have hL := F.ok.many
   have o1 := F.ok.h1
   have o6 := F.ok.h6
   have q1 := F.len
   unfold hasB at hA
   rw [Bool.and_eq_true, decide_eq_true_eq, decide_eq_true_eq] at hA
   obtain ⟨i, rfl⟩ := Int.eq_ofNat_of_zero_le hA.1
   have hi : i < rs.length := by omega
   have hR := l1Room_ev p _ hsm (by omega) (i : Int)
   obtain ⟨c1, c2, c3⟩ := F.canon.room i (by rw [← F.rooms]; exact hi)
   rw [← F.rooms] at c1 c3
   rw [c1] at hR
   have hcell := room_cells hF i hi
   obtain ⟨b1, b2, b3, b4, b5, b6⟩ := c3
   have w6 := hsm.wide
   rw [F.wide] at b6 w6
   rw [F.wide] at hsm
   rw [Int.toNat_natCast]
   have hvalue := fun T H L M h => split_val F (i : Int) t k T H L M h
   rw [Int.toNat_natCast] at hvalue
   unfold behindB at hvalue
   generalize rs.getD i zeroR = bx at *
   refine Evs.bind ha ?_
   refine Evs.congr (h := fun q => (spec_l1Room.f q p (i : Int)).bind fun bt205 => (if t.toList = ([104] : List UInt8) then ((spec_l6In.f k 1 (wrap64 (bt205.2.2.1 - 1))).bind fun t209 => (spec_PlanSplit.j0 q p t k bt205.1 bt205.2.1 bt205.2.2.1 bt205.2.2.2 t209)) else (spec_PlanSplit.j0 q p t k bt205.1 bt205.2.1 bt205.2.2.1 bt205.2.2.2 false))) (fun q => by rw [if_pos rfl]) (Evs.bind hR ?_)
   dsimp only
   cases hH : isH t with
   | true =>
    have hV := isHV hH
    rw [hV] at hvalue
    refine Evs.pos ((isH_iff t).1 hH) ?_
    rw [wrap64_small (x := bx.f2 - 1) (by omega) (by omega)]
    refine Evs.bindS (l6In_f k 1 (bx.f2 - 1)) ?_
    simp only [Bool.true_or, Bool.and_self, if_true]
    by_cases hk : 1 ≤ k ∧ k < bx.f2
    ·rw [if_pos hk, show (decide (1 ≤ k) && decide (k ≤ bx.f2 - 1)) = true by rw [Bool.and_eq_true, decide_eq_true_eq, decide_eq_true_eq]; omega]
     have hput := put_f hsm (bx.f0 + k) bx.f1 (bx.f2 - k) bx.f3 122 (by omega) b2 (by omega) (by omega) (by omega) b6 (by omega) (by omega)
     have hd := hvalue (bx.f0 + k).toNat (bx.f2 - k).toNat bx.f1.toNat bx.f3.toNat (fun r c hr hc => by
      have hc2 := hcell r c hr hc
      rw [hc2, hH]
      simp only [Bool.true_and, Bool.false_and, Bool.or_false, decide_eq_true_eq]
      unfold putB
      omega)
     have hdn := l1Done_ev _ (small_put hsm (bx.f0 + k).toNat (bx.f2 - k).toNat bx.f1.toNat bx.f3.toNat 122)
     rw [hd] at hdn
     refine Evs.step (h := fun q => (spec_l1Put.f p (wrap64 (bx.f0 + k)) bx.f1 (wrap64 (bx.f2 - k)) bx.f3 122).bind fun t210 => ((spec_l1Done.f q t210).bind fun bt213 => (some (bt213.1, bt213.2)))) (fun q => ?_) ?_
     ·show spec_PlanSplit.j0 (q + 1) p t k bx.f0 bx.f1 bx.f2 bx.f3 true = _
      simp only [spec_PlanSplit.j0, if_true]
     ·rw [wrap64_small (x := bx.f0 + k) (by omega) (by omega), wrap64_small (x := bx.f2 - k) (by omega) (by omega), hput]
      simp only [Option.bind_some]
      exact Evs.bind hdn (Evs.const _)
    ·rw [if_neg hk, show (decide (1 ≤ k) && decide (k ≤ bx.f2 - 1)) = false by rw [← Bool.not_eq_true, Bool.and_eq_true, decide_eq_true_eq, decide_eq_true_eq]; omega]
     exact split_j0_none p t hV k _ _ _ _
   | false =>
    have hnh : ¬ t.toList = ([104] : List UInt8) := fun h => by rw [(isH_iff t).2 h] at hH; cases hH
    refine Evs.neg hnh ?_
    cases hV : isV t with
    | false =>
     simp only [Bool.false_or, Bool.and_false, Bool.false_eq_true, if_false]
     exact split_j0_none p t hV k _ _ _ _
    | true =>
     rw [hV] at hvalue
     simp only [Bool.false_or, Bool.and_self, if_true, Bool.false_eq_true, if_false]
     refine Evs.step (h := fun q => (spec_l6In.f k 1 (wrap64 (bx.f3 - 1))).bind fun t217 => (spec_PlanSplit.j1 q p k bx.f0 bx.f1 bx.f2 bx.f3 t217)) (fun q => ?_) ?_
     ·show spec_PlanSplit.j0 (q + 1) p t k bx.f0 bx.f1 bx.f2 bx.f3 false = _
      simp only [spec_PlanSplit.j0, Bool.false_eq_true, if_false, if_pos ((isV_iff t).1 hV)]
     rw [wrap64_small (x := bx.f3 - 1) (by omega) (by omega)]
     refine Evs.bindS (l6In_f k 1 (bx.f3 - 1)) ?_
     by_cases hk : 1 ≤ k ∧ k < bx.f3
     ·rw [if_pos hk, show (decide (1 ≤ k) && decide (k ≤ bx.f3 - 1)) = true by rw [Bool.and_eq_true, decide_eq_true_eq, decide_eq_true_eq]; omega]
      have hput := put_f hsm bx.f0 (bx.f1 + k) bx.f2 (bx.f3 - k) 122 b1 (by omega) (by omega) (by omega) b5 (by omega) (by omega) (by omega)
      have hd := hvalue bx.f0.toNat bx.f2.toNat (bx.f1 + k).toNat (bx.f3 - k).toNat (fun r c hr hc => by
       have hc2 := hcell r c hr hc
       rw [hc2, hH]
       simp only [Bool.true_and, Bool.false_and, Bool.false_or, decide_eq_true_eq]
       unfold putB
       omega)
      have hdn := l1Done_ev _ (small_put hsm bx.f0.toNat bx.f2.toNat (bx.f1 + k).toNat (bx.f3 - k).toNat 122)
      rw [hd] at hdn
      refine Evs.step (h := fun q => (spec_l1Put.f p bx.f0 (wrap64 (bx.f1 + k)) bx.f2 (wrap64 (bx.f3 - k)) 122).bind fun t218 => ((spec_l1Done.f q t218).bind fun bt221 => (some (bt221.1, bt221.2)))) (fun q => ?_) ?_
      ·show spec_PlanSplit.j1 (q + 1) p k bx.f0 bx.f1 bx.f2 bx.f3 true = _
       simp only [spec_PlanSplit.j1, if_true]
      ·rw [wrap64_small (x := bx.f1 + k) (by omega) (by omega), wrap64_small (x := bx.f3 - k) (by omega) (by omega), hput]
       simp only [Option.bind_some]
       exact Evs.bind hdn (Evs.const _)
     ·rw [if_neg hk, show (decide (1 ≤ k) && decide (k ≤ bx.f3 - 1)) = false by rw [← Bool.not_eq_true, Bool.and_eq_true, decide_eq_true_eq, decide_eq_true_eq]; omega]
      exact split_j1_false p k _ _ _ _
end Go.Proofs.Ytacdgeoleeedpaa.Hd
namespace Go.Proofs.Ytacdgeoleeedpaa.Hd
open Go.RowKit Go.Proofs.YtacdgeoleeedpaaW.PrintWords Go.Proofs.YtacdgeoleeedpaaW.PrintLast Go.Proofs.YtacdgeoleeedpaaW.PrintMore Go.Proofs.Ytacdgeoleeedpaa.PB Go.Proofs.Ytacdgeoleeedpaa.SM
set_option linter.unusedVariables false
set_option linter.unusedSimpArgs false
theorem xor_nonneg {a b : Int} (ha : 0 ≤ a) (hb : 0 ≤ b) (ha' : a < 1099511627776) (hb' : b < 1099511627776) : 0 ≤ Go.bits .xor .i64 a b := by
 obtain ⟨x, rfl⟩ := Int.eq_ofNat_of_zero_le ha
 obtain ⟨y, rfl⟩ := Int.eq_ofNat_of_zero_le hb
 have hx : x < 2 ^ 40 := by omega
 have hy : y < 2 ^ 40 := by omega
 have h := Nat.xor_lt_two_pow hx hy
 simp only [Go.bits, BitVec.ofInt_natCast, BitVec.toNat_xor, BitVec.toNat_ofNat]
 rw [Nat.mod_eq_of_lt (show x < 2 ^ IntKind.i64.bits by show x < 2 ^ 64; omega), Nat.mod_eq_of_lt (show y < 2 ^ IntKind.i64.bits by show y < 2 ^ 64; omega), IntKind.wrap_i64]
 omega
theorem tmod_in {x n : Int} (hx : 0 ≤ x) (hn : 1 ≤ n) : 0 ≤ Int.tmod x n ∧ Int.tmod x n < n := ⟨Int.tmod_nonneg _ hx, Int.tmod_lt_of_pos _ (by omega)⟩
structure RdB (b : List Int) : Prop where
 len : b.length ≤ 2000
 val : ∀ x ∈ b, 0 ≤ x ∧ x ≤ 255
theorem RdB.byte {b : List Int} (h : RdB b) (i : Int) : 0 ≤ rd b i ∧ rd b i ≤ 255 := by
 unfold rd
 rw [List.getD_eq_getElem?_getD]
 cases e : b[i.toNat]? with
 | none => simp
 | some x => exact h.val x (List.mem_of_getElem? e)
theorem pick_j0_true (b : List Int) (q n : Int) : Evs (fun k => spec_l6Rd_pick.j0 k n true b q) (0, q) := by
 refine Evs.step (h := fun _ => some (0, q)) (fun k => ?_) (Evs.const _)
 show spec_l6Rd_pick.j0 (k + 1) n true b q = _
 simp only [spec_l6Rd_pick.j0, if_true]
theorem pick_ev (b : List Int) (h : RdB b) (q : Nat) (hq : q ≤ 1000000) (n : Int) : ∃ v, Evs (fun k => spec_l6Rd_pick.f k b (q : Int) n) (v, ((q + 1 : Nat) : Int)) ∧ 0 ≤ v ∧ (1 ≤ n → v < n) ∧ (n < 1 → v = 0) := by
 have hw : wrap64 ((q : Int) + 1) = ((q + 1 : Nat) : Int) := by rw [wrap64_small (by omega) (by omega)]; omega
 by_cases hn : n < 1
 ·refine ⟨0, ?_, Int.le_refl _, fun h => by omega, fun _ => rfl⟩
  refine Evs.congr (fun k => ?_) (pick_j0_true b ((q + 1 : Nat) : Int) n)
  unfold spec_l6Rd_pick.f
  rw [if_pos hn, hw]
 ·by_cases hl : b.length = 0
  ·refine ⟨0, ?_, Int.le_refl _, fun h => by omega, fun h => absurd h hn⟩
   refine Evs.congr (fun k => ?_) (pick_j0_true b ((q + 1 : Nat) : Int) n)
   unfold spec_l6Rd_pick.f
   rw [if_neg hn, hw, show ((b.length : Int) == 0) = true by rw [beq_iff_eq]; omega]
  ·have hlen := h.len
   have e1 : wrap64 (((q + 1 : Nat) : Int) - 1) = (q : Int) := by rw [wrap64_small (by omega) (by omega)]; omega
   have main : ∃ v, (∀ k, spec_l6Rd_pick.j0 (k + 1) n false b ((q + 1 : Nat) : Int) = some (v, ((q + 1 : Nat) : Int))) ∧ 0 ≤ v ∧ v < n := by
    by_cases hql : (q : Int) < (b.length : Int)
    ·have hr := h.byte (q : Int)
     obtain ⟨t0, t1⟩ := tmod_in (x := rd b (q : Int)) (n := n) hr.1 (by omega)
     refine ⟨Int.tmod (rd b (q : Int)) n, fun k => ?_, t0, t1⟩
     simp only [spec_l6Rd_pick.j0, Bool.false_eq_true, if_false]
     rw [e1, if_pos hql, if_pos (by omega), if_neg (by omega), wrap64_small (x := rd b (q : Int)) (by omega) (by omega)]
    ·have i1 := tmod_in (x := (q : Int)) (n := (b.length : Int)) (by omega) (by omega)
     have e2 : wrap64 (wrap64 ((q : Int) * 7) + 3) = (q : Int) * 7 + 3 := by rw [wrap64_small (x := (q : Int) * 7) (by omega) (by omega), wrap64_small (by omega) (by omega)]
     have i2 := tmod_in (x := (q : Int) * 7 + 3) (n := (b.length : Int)) (by omega) (by omega)
     have r1 := h.byte (Int.tmod (q : Int) (b.length : Int))
     have r2 := h.byte (Int.tmod ((q : Int) * 7 + 3) (b.length : Int))
     have d1 : 0 ≤ Int.tdiv (q : Int) (b.length : Int) ∧ Int.tdiv (q : Int) (b.length : Int) ≤ 1000000 := by
      rw [Int.tdiv_eq_ediv_of_nonneg (by omega)]
      refine ⟨Int.ediv_nonneg (by omega) (by omega), Int.le_trans (Int.ediv_le_self _ (by omega)) (by omega)⟩
     have key : ∃ v, (∀ k, spec_l6Rd_pick.j0 (k + 1) n false b ((q + 1 : Nat) : Int) = some (v, ((q + 1 : Nat) : Int))) ∧ 0 ≤ v ∧ v < n := by
      have hform : ∀ k, spec_l6Rd_pick.j0 (k + 1) n false b ((q + 1 : Nat) : Int) = some (Int.tmod (Go.bits .xor .i64 (rd b (Int.tmod (q : Int) (b.length : Int)) * 131 + rd b (Int.tmod ((q : Int) * 7 + 3) (b.length : Int)) * 1117 + (q : Int) * 29 + Int.tdiv (q : Int) (b.length : Int) * 53) (wrap64 (Int.tdiv (rd b (Int.tmod (q : Int) (b.length : Int)) * 131 + rd b (Int.tmod ((q : Int) * 7 + 3) (b.length : Int)) * 1117 + (q : Int) * 29 + Int.tdiv (q : Int) (b.length : Int) * 53) 64))) n, ((q + 1 : Nat) : Int)) := fun k => by
       simp only [spec_l6Rd_pick.j0, Bool.false_eq_true, if_false]
       rw [e1, if_neg hql, if_neg (by omega), if_pos i1.1, if_pos i1.2, e2, if_pos i2.1, if_pos i2.2, if_neg (by omega)]
       generalize rd b (Int.tmod (q : Int) (b.length : Int)) = a at *
       generalize rd b (Int.tmod ((q : Int) * 7 + 3) (b.length : Int)) = c at *
       generalize Int.tdiv (q : Int) (b.length : Int) = d at *
       rw [wrap64_small (x := a) (by omega) (by omega), wrap64_small (x := a * 131) (by omega) (by omega), wrap64_small (x := c) (by omega) (by omega), wrap64_small (x := c * 1117) (by omega) (by omega), wrap64_small (x := a * 131 + c * 1117) (by omega) (by omega), wrap64_small (x := (q : Int) * 29) (by omega) (by omega), wrap64_small (x := a * 131 + c * 1117 + (q : Int) * 29) (by omega) (by omega), wrap64_small (x := d) (by omega) (by omega), wrap64_small (x := d * 53) (by omega) (by omega), wrap64_small (x := a * 131 + c * 1117 + (q : Int) * 29 + d * 53) (by omega) (by omega)]
      have hX : 0 ≤ rd b (Int.tmod (q : Int) (b.length : Int)) * 131 + rd b (Int.tmod ((q : Int) * 7 + 3) (b.length : Int)) * 1117 + (q : Int) * 29 + Int.tdiv (q : Int) (b.length : Int) * 53 ∧ rd b (Int.tmod (q : Int) (b.length : Int)) * 131 + rd b (Int.tmod ((q : Int) * 7 + 3) (b.length : Int)) * 1117 + (q : Int) * 29 + Int.tdiv (q : Int) (b.length : Int) * 53 < 1099511627776 := by omega
      generalize rd b (Int.tmod (q : Int) (b.length : Int)) * 131 + rd b (Int.tmod ((q : Int) * 7 + 3) (b.length : Int)) * 1117 + (q : Int) * 29 + Int.tdiv (q : Int) (b.length : Int) * 53 = X at *
      have hd : 0 ≤ Int.tdiv X 64 ∧ Int.tdiv X 64 ≤ X := by
       rw [Int.tdiv_eq_ediv_of_nonneg hX.1]
       exact ⟨Int.ediv_nonneg hX.1 (by omega), Int.ediv_le_self _ hX.1⟩
      rw [wrap64_small (x := Int.tdiv X 64) (by omega) (by omega)] at hform
      obtain ⟨t0, t1⟩ := tmod_in (n := n) (xor_nonneg hX.1 hd.1 hX.2 (by omega)) (by omega)
      exact ⟨_, hform, t0, t1⟩
     exact key
   obtain ⟨v, hv, v0, v1⟩ := main
   refine ⟨v, ?_, v0, fun _ => v1, fun h => absurd h hn⟩
   refine Evs.congr (h := fun k => spec_l6Rd_pick.j0 k n false b ((q + 1 : Nat) : Int)) (fun k => ?_) (Evs.step (h := fun _ => some (v, ((q + 1 : Nat) : Int))) hv (Evs.const _))
   unfold spec_l6Rd_pick.f
   rw [if_neg hn, hw, show ((b.length : Int) == 0) = false by rw [beq_eq_false_iff_ne]; omega]
theorem of_ev (b : List Int) (h : RdB b) (q : Nat) (hq : q ≤ 1000000) (L : List ByteArray) (hL : 1 ≤ L.length) : ∃ s, Evs (fun k => spec_l6Rd_of.f k b (q : Int) L) (s, ((q + 1 : Nat) : Int)) ∧ s ∈ L := by
 obtain ⟨v, hv, v0, v1, -⟩ := pick_ev b h q hq (L.length : Int)
 have hv1 := v1 (by omega)
 obtain ⟨i, rfl⟩ := Int.eq_ofNat_of_zero_le v0
 refine ⟨rdOf ByteArray.empty L (i : Int), Evs.bind hv (Evs.pos (by omega) (Evs.pos hv1 (Evs.const _))), ?_⟩
 rw [rdOf_get L i (by omega)]
 exact List.getElem_mem _
theorem open_ev (l : List Int) (hv : ∀ x ∈ l, 0 ≤ x ∧ x ≤ 255) : ∃ b, spec_l6Open.f l = some (b, 0) ∧ RdB b := by
 unfold spec_l6Open.f
 by_cases h : (l.length : Int) > 2000
 ·rw [if_pos h, if_pos (by omega)]
  exact ⟨_, rfl, by simp; omega, fun x hx => hv x (List.mem_of_mem_take hx)⟩
 ·rw [if_neg h]
  exact ⟨_, rfl, by omega, hv⟩
theorem empty_l1 (n m : Nat) (hm : m ≤ 100) (i : Nat) (hi : i ≤ 100) (x5 : List ByteArray) (h5 : x5.length ≤ 100) (r : List ByteArray) (hnext : Evs (fun k => spec_l91Empty.l0 k (n : Int) (m : Int) (x5 ++ [strOfNums (List.replicate m 97)]) ((i + 1 : Nat) : Int)) r) :
  ∀ d j, j + d = m → Evs (fun k => spec_l91Empty.l1 k (n : Int) (m : Int) x5 (i : Int) (List.replicate j 97) (j : Int)) r := by
 intro d
 induction d with
 | zero =>
  intro j hj
  obtain rfl : j = m := by omega
  refine Evs.step (fun k => ?_) hnext
  conv => lhs; unfold spec_l91Empty.l1
  rw [if_neg (by omega), if_pos (by omega), wrap_succ (by omega)]
 | succ d ih =>
  intro j hj
  have hnx := ih (j + 1) (by omega)
  rw [List.replicate_succ'] at hnx
  refine Evs.step (fun k => ?_) hnx
  conv => lhs; unfold spec_l91Empty.l1
  rw [if_pos (by omega), if_pos (by simp; omega), wrap_succ (by omega)]
theorem empty_l0 (n m : Nat) (hn : n ≤ 100) (hm : m ≤ 100) : ∀ d i, i + d = n → Evs (fun k => spec_l91Empty.l0 k (n : Int) (m : Int) (List.replicate i (strOfNums (List.replicate m 97))) (i : Int)) (List.replicate n (strOfNums (List.replicate m 97))) := by
 intro d
 induction d with
 | zero =>
  intro i hi
  obtain rfl : i = n := by omega
  refine Evs.step (h := fun _ => some (List.replicate i (strOfNums (List.replicate m 97)))) (fun k => ?_) (Evs.const _)
  conv => lhs; unfold spec_l91Empty.l0
  rw [if_neg (by omega)]
 | succ d ih =>
  intro i hi
  have hnx := ih (i + 1) (by omega)
  rw [List.replicate_succ'] at hnx
  have := empty_l1 n m hm i (by omega) (List.replicate i (strOfNums (List.replicate m 97))) (by simp; omega) _ hnx m 0 (by omega)
  refine Evs.step (fun k => ?_) this
  conv => lhs; unfold spec_l91Empty.l0
  rw [if_pos (by omega)]
  rfl
theorem Empty_ev (n m : Nat) (hn : n ≤ 100) (hm : m ≤ 100) : ∃ p, Evs (fun k => spec_l91Empty.f k (n : Int) (m : Int)) p ∧ Mid p m ∧ p.length = n := by
 refine ⟨_, empty_l0 n m hn hm n 0 (by omega), ⟨by simp; omega, hm, fun s hs => ?_⟩, by simp⟩
 rw [List.eq_of_mem_replicate hs]
 show (List.map _ (List.replicate m (97 : Int))).toArray.size = m
 simp
theorem rowText_size (row : List Int) : (rowText row).size = row.length := by
 show (List.map letterOf row).toArray.size = _
 simp
theorem planF_mid {h w : Nat} {g : Nat → Nat → Int} {p : List ByteArray} (h1 : 1 ≤ h) (e : planF (gridOf h w g) = (p, true)) : Mid p w ∧ p.length = h := by
 rcases planF_cases (gridOf h w g) with ⟨hO, hp⟩ | ⟨_, hp⟩
 ·rw [hp] at e
  injection e with e1 _
  subst e1
  obtain ⟨s1, s2, s3, s4, s5⟩ := (shapeOk_iff _).1 hO.shape
  rw [gridOf_length] at s1 s2
  have hw : wideOf (gridOf h w g) = w := by
   have := gridOf_get (hi := h) (wi := w) (g := g) (r := 0) (by omega)
   unfold wideOf
   rw [List.getD_eq_getElem?_getD, this]
   simp
  rw [hw] at s3 s4
  have hl : (textOf (canon (gridOf h w g))).length = h := by rw [text_length, gridOf_length]
  refine ⟨⟨by omega, by omega, fun s hs => ?_⟩, hl⟩
  obtain ⟨r, hr, rfl⟩ := List.mem_map.1 hs
  rw [rowText_size]
  unfold canon canonL at hr
  obtain ⟨r0, hr0, rfl⟩ := List.mem_map.1 hr
  rw [List.length_map]
  exact gridOf_row r0 hr0
 ·rw [hp] at e
  injection e with _ e2
  cases e2
theorem split_mid {p : List ByteArray} {m : Nat} (h : Mid p m) (h1 : 1 ≤ p.length) {a k : Int} {t : ByteArray} {r : List ByteArray} (e : splitF p a t k = (r, true)) : Mid r m ∧ r.length = p.length := by
 unfold splitF at e
 cases hF : floorF p with
 | none => rw [hF] at e; injection e with _ e; cases e
 | some z =>
  obtain ⟨cs, rs⟩ := z
  rw [hF] at e
  have F := floor_facts hF
  dsimp only at e
  split at e
  ·by_cases hc : 1 ≤ k ∧ k < (if isH t = true then (rs.getD a.toNat zeroR).f2 else (rs.getD a.toNat zeroR).f3)
   ·rw [if_pos hc] at e
    have hw : wideOf cs = m := by
     rw [← F.wide, wideOf_numsOf]
     refine h.row _ ?_
     rw [List.getD_eq_getElem?_getD, List.getElem?_eq_getElem (by omega)]
     exact List.getElem_mem _
    obtain ⟨q1, q2⟩ := planF_mid F.ok.h1 e
    rw [hw] at q1
    exact ⟨q1, by rw [q2, F.len]⟩
   ·rw [if_neg hc] at e
    injection e with _ e
    cases e
  ·injection e with _ e
   cases e
theorem cut_l0 (b : List Int) (hb : RdB b) (many m n : Nat) (hmany : many ≤ 1000) (hn : 1 ≤ n) : ∀ d t (p : List ByteArray) (q : Nat), t + d = many → Mid p m → p.length = n → q + 3 * d ≤ 100000 → ∃ p' q', Evs (fun k => spec_l91Cut.l0 k p (many : Int) (t : Int) b (q : Int)) (p', ((q' : Nat) : Int)) ∧ Mid p' m ∧ p'.length = n ∧ q' ≤ q + 3 * d := by
 intro d
 induction d with
 | zero =>
  intro t p q ht hp hl hq
  refine ⟨p, q, Evs.step (h := fun _ => some (p, (q : Int))) (fun k => ?_) (Evs.const _), hp, hl, by omega⟩
  conv => lhs; unfold spec_l91Cut.l0
  rw [if_neg (by omega)]
 | succ d ih =>
  intro t p q ht hp hl hq
  obtain ⟨rm, _, _, hrm⟩ := l1Rooms_any p hp.lil
  obtain ⟨v1, hv1, -, -, -⟩ := pick_ev b hb q (by omega) rm
  obtain ⟨s, hs, -⟩ := of_ev b hb (q + 1) (by omega) [(⟨#[104]⟩ : ByteArray), (⟨#[118]⟩ : ByteArray)] (by simp)
  obtain ⟨v2, hv2, -, -, -⟩ := pick_ev b hb (q + 1 + 1) (by omega) 3
  have hsp := PlanSplit_ev p v1 s (wrap64 (1 + v2)) hp.lil.small
  rcases hr : splitF p v1 s (wrap64 (1 + v2)) with ⟨r, ok⟩
  rw [hr] at hsp
  cases ok with
  | true =>
   obtain ⟨m1, m2⟩ := split_mid hp (by omega) hr
   obtain ⟨p', q', hE, h1, h2, h3⟩ := ih (t + 1) r (q + 1 + 1 + 1) (by omega) m1 (by omega) (by omega)
   refine ⟨p', q', Evs.step (h := fun k => ((spec_l1Rooms.f k p).bind fun t221 => ((spec_l6Rd_pick.f k b (q : Int) t221).bind fun bt222 => ((spec_l6Rd_of.f k b bt222.2 (([(⟨#[104]⟩ : ByteArray), (⟨#[118]⟩ : ByteArray)] : List ByteArray))).bind fun bt227 => ((spec_l6Rd_pick.f k b bt227.2 3).bind fun bt229 => ((spec_PlanSplit.f k p bt222.1 bt227.1 (wrap64 (1 + bt229.1))).bind fun bt231 => (if bt231.2 = true then (spec_l91Cut.l0 k bt231.1 (many : Int) (wrap64 ((t : Int) + 1)) b bt229.2) else (spec_l91Cut.l0 k p (many : Int) (wrap64 ((t : Int) + 1)) b bt229.2)))))))) (fun k => ?_) (Evs.bind hrm (Evs.bind hv1 (Evs.bind hs (Evs.bind hv2 (Evs.bind hsp (Evs.pos rfl ?_)))))), h1, h2, by omega⟩
   ·conv => lhs; unfold spec_l91Cut.l0
    rw [if_pos (by omega)]
   ·rw [wrap_succ (by omega)]
    exact hE
  | false =>
   obtain ⟨p', q', hE, h1, h2, h3⟩ := ih (t + 1) p (q + 1 + 1 + 1) (by omega) hp hl (by omega)
   refine ⟨p', q', Evs.step (h := fun k => ((spec_l1Rooms.f k p).bind fun t221 => ((spec_l6Rd_pick.f k b (q : Int) t221).bind fun bt222 => ((spec_l6Rd_of.f k b bt222.2 (([(⟨#[104]⟩ : ByteArray), (⟨#[118]⟩ : ByteArray)] : List ByteArray))).bind fun bt227 => ((spec_l6Rd_pick.f k b bt227.2 3).bind fun bt229 => ((spec_PlanSplit.f k p bt222.1 bt227.1 (wrap64 (1 + bt229.1))).bind fun bt231 => (if bt231.2 = true then (spec_l91Cut.l0 k bt231.1 (many : Int) (wrap64 ((t : Int) + 1)) b bt229.2) else (spec_l91Cut.l0 k p (many : Int) (wrap64 ((t : Int) + 1)) b bt229.2)))))))) (fun k => ?_) (Evs.bind hrm (Evs.bind hv1 (Evs.bind hs (Evs.bind hv2 (Evs.bind hsp (Evs.neg (by simp) ?_)))))), h1, h2, by omega⟩
   ·conv => lhs; unfold spec_l91Cut.l0
    rw [if_pos (by omega)]
   ·rw [wrap_succ (by omega)]
    exact hE
theorem Cut_ev (b : List Int) (hb : RdB b) (q : Nat) (hq : q ≤ 10000) (p : List ByteArray) (m : Nat) (hp : Mid p m) (h1 : 1 ≤ p.length) (many : Int) (h0 : 0 ≤ many) (hm : many ≤ 100) : ∃ p' q', Evs (fun k => spec_l91Cut.f k b (q : Int) p many) (p', ((q' : Nat) : Int)) ∧ Mid p' m ∧ p'.length = p.length ∧ q' ≤ q + 300 := by
 obtain ⟨n, rfl⟩ := Int.eq_ofNat_of_zero_le h0
 obtain ⟨p', q', hE, h1, h2, h3⟩ := cut_l0 b hb n m p.length (by omega) h1 n 0 p q (by omega) hp rfl (by omega)
 exact ⟨p', q', hE, h1, h2, by omega⟩
end Go.Proofs.Ytacdgeoleeedpaa.Hd
namespace Go.Proofs.Ytacdgeoleeedpaa.Hd
open Go.RowKit Go.Proofs.YtacdgeoleeedpaaW.PrintWords Go.Proofs.YtacdgeoleeedpaaW.PrintLast Go.Proofs.YtacdgeoleeedpaaW.PrintMore Go.Proofs.Ytacdgeoleeedpaa.PB
set_option linter.unusedVariables false
set_option linter.unusedSimpArgs false
theorem cross_f {X : List (List Int)} (h : OkG X) : impl_PlanTrans.f (planOf X) = some (planOf (crossX X), true) := by unfold impl_PlanTrans.f; rw [if_pos h.psmall, act_cross h]
theorem same_plan {X : List (List Int)} (h : OkG X) : Evs (fun k => laws_sameTexts.f k (planOf X) (planOf X)) true := sameTexts_refl _ (by have := h.dims; rw [h.plength]; omega)
theorem same_nil : Evs (fun k => laws_sameTexts.f k ([] : List ByteArray) []) true := sameTexts_refl _ (by simp)
end Go.Proofs.Ytacdgeoleeedpaa.Hd
namespace Go.Proofs.Ytacdgeoleeedpaa.Hd
open Go.RowKit Go.Proofs.YtacdgeoleeedpaaW.PrintWords Go.Proofs.YtacdgeoleeedpaaW.PrintLast Go.Proofs.YtacdgeoleeedpaaW.PrintMore Go.Proofs.Ytacdgeoleeedpaa.PB
set_option linter.unusedVariables false
set_option linter.unusedSimpArgs false
def Alike (h w : Nat) (g g' : Nat → Nat → Int) : Prop := ∀ r c r' c', r < h → c < w → r' < h → c' < w → (g r c = g r' c' ↔ g' r c = g' r' c')
theorem Alike.symm {h w : Nat} {g g' : Nat → Nat → Int} (a : Alike h w g g') : Alike h w g' g := fun r c r' c' h1 h2 h3 h4 => (a r c r' c' h1 h2 h3 h4).symm
theorem Alike.trans {h w : Nat} {g g' g'' : Nat → Nat → Int} (a : Alike h w g g') (b : Alike h w g' g'') : Alike h w g g'' := fun r c r' c' h1 h2 h3 h4 => (a r c r' c' h1 h2 h3 h4).trans (b r c r' c' h1 h2 h3 h4)
open Classical in
theorem alike_map {h w : Nat} {g g' : Nat → Nat → Int} (a : Alike h w g g') : ∃ f : Int → Int, gridOf h w g' = mapG f (gridOf h w g) ∧ InjOn f (Vals (gridOf h w g)) := by
 have hex : ∃ f : Int → Int, ∀ r c, r < h → c < w → f (g r c) = g' r c := by
  refine ⟨fun v => if e : ∃ q : Nat × Nat, q.1 < h ∧ q.2 < w ∧ g q.1 q.2 = v then g' e.choose.1 e.choose.2 else 0, fun r c hr hc => ?_⟩
  have e : ∃ q : Nat × Nat, q.1 < h ∧ q.2 < w ∧ g q.1 q.2 = g r c := ⟨(r, c), hr, hc, rfl⟩
  dsimp only
  rw [dif_pos e]
  obtain ⟨s1, s2, s3⟩ := e.choose_spec
  exact (a _ _ r c s1 s2 hr hc).1 s3
 obtain ⟨f, hf⟩ := hex
 refine ⟨f, ?_, fun x y hx hy exy => ?_⟩
 ·rw [mapG_gridOf]
  exact gridOf_congr fun r c hr hc => (hf r c hr hc).symm
 ·obtain ⟨r, c, hr, hc, rfl⟩ := vals_grid.1 hx
  obtain ⟨r', c', hr', hc', rfl⟩ := vals_grid.1 hy
  rw [hf r c hr hc, hf r' c' hr' hc'] at exy
  exact (a r c r' c' hr hc hr' hc').2 exy
theorem alike_planF {h w : Nat} {g g' : Nat → Nat → Int} (a : Alike h w g g') : planF (gridOf h w g) = planF (gridOf h w g') := by
 obtain ⟨f, e, hf⟩ := alike_map a
 rw [e, plan_map hf]
end Go.Proofs.Ytacdgeoleeedpaa.Hd
namespace Go.Proofs.Ytacdgeoleeedpaa.Hd
open Go.RowKit Go.Proofs.YtacdgeoleeedpaaW.PrintWords Go.Proofs.YtacdgeoleeedpaaW.PrintLast Go.Proofs.YtacdgeoleeedpaaW.PrintMore Go.Proofs.Ytacdgeoleeedpaa.PB
set_option linter.unusedVariables false
set_option linter.unusedSimpArgs false
def SideLike (X Y : List (List Int)) (g : Nat → Nat → Int) : Prop := ∀ r c r' c', r < X.length → c < wideOf X + wideOf Y → r' < X.length → c' < wideOf X + wideOf Y →
 (g r c = g r' c' ↔ (c < wideOf X ∧ c' < wideOf X ∧ valAt X r c = valAt X r' c') ∨ (¬ c < wideOf X ∧ ¬ c' < wideOf X ∧ valAt Y r (c - wideOf X) = valAt Y r' (c' - wideOf X)))
theorem side_alike {X Y : List (List Int)} {g g' : Nat → Nat → Int} (h : SideLike X Y g) (h' : SideLike X Y g') : Alike X.length (wideOf X + wideOf Y) g g' := fun r c r' c' h1 h2 h3 h4 => (h r c r' c' h1 h2 h3 h4).trans (h' r c r' c' h1 h2 h3 h4).symm
theorem val_canon {X : List (List Int)} (hX : OkG X) {r c : Nat} (hr : r < X.length) (hc : c < wideOf X) : 0 ≤ valAt (canon X) r c ∧ valAt (canon X) r c < (roomsOf X).length := by
 have := valAt_range (floorF_ok hX.floor) r c (by rw [canon_length]; exact hr) (by rw [canon_wide]; exact hc)
 exact this
theorem beside_like {X Y : List (List Int)} (hX : OkG X) (hY : OkG Y) (he : X.length = Y.length) : SideLike X Y (besideG (canon X) (roomsOf X) (canon Y)) := by
 intro r c r' c' h1 h2 h3 h4
 unfold besideG
 rw [canon_wide]
 by_cases c1 : c < wideOf X
 ·rw [if_pos c1]
  by_cases c2 : c' < wideOf X
  ·rw [if_pos c2, canon_eq_iff hX.shape h1 c1 h3 c2]
   exact ⟨fun e => .inl ⟨c1, c2, e⟩, fun e => by
    rcases e with ⟨-, -, e⟩ | ⟨e, -, -⟩
    ·exact e
    ·exact absurd c1 e⟩
  ·rw [if_neg c2]
   have v1 := val_canon hX h1 c1
   have v2 := val_canon hY (r := r') (c := c' - wideOf X) (by omega) (by omega)
   exact ⟨fun e => by omega, fun e => by
    rcases e with ⟨-, e, -⟩ | ⟨e, -, -⟩
    ·exact absurd e c2
    ·exact absurd c1 e⟩
 ·rw [if_neg c1]
  by_cases c2 : c' < wideOf X
  ·rw [if_pos c2]
   have v1 := val_canon hX h3 c2
   have v2 := val_canon hY (r := r) (c := c - wideOf X) (by omega) (by omega)
   exact ⟨fun e => by omega, fun e => by
    rcases e with ⟨e, -, -⟩ | ⟨-, e, -⟩
    ·exact absurd e c1
    ·exact absurd c2 e⟩
  ·rw [if_neg c2]
   have e := canon_eq_iff hY.shape (r := r) (c := c - wideOf X) (r' := r') (c' := c' - wideOf X) (by omega) (by omega) (by omega) (by omega)
   constructor
   ·intro h
    exact .inr ⟨c1, c2, e.1 (by omega)⟩
   ·intro h
    rcases h with ⟨h, -, -⟩ | ⟨-, -, h⟩
    ·exact absurd h c1
    ·have := e.2 h
     omega
def sideX (X Y : List (List Int)) : List (List Int) := gridOf X.length (wideOf X + wideOf Y) (besideG (canon X) (roomsOf X) (canon Y))
theorem beside_plan {X Y : List (List Int)} (hX : OkG X) (hY : OkG Y) : besideF (planOf X) (planOf Y) = if X.length = Y.length then planF (sideX X Y) else ([], false) := by
 unfold besideF joinedF planOf
 rw [hX.floor, hY.floor]
 have l1 := canon_length X
 have l2 := canon_length Y
 by_cases e : X.length = Y.length
 ·rw [if_pos e]
  refine (if_pos (show (((canon X).length : Int) == ((canon Y).length : Int)) = true by rw [beq_iff_eq]; omega)).trans ?_
  dsimp only
  rw [canon_length, canon_wide, canon_wide]
  rfl
 ·rw [if_neg e]
  exact if_neg (show ¬ (((canon X).length : Int) == ((canon Y).length : Int)) = true by rw [beq_iff_eq]; omega)
end Go.Proofs.Ytacdgeoleeedpaa.Hd
namespace Go.Proofs.Ytacdgeoleeedpaa.Hd
open Go.RowKit Go.Proofs.YtacdgeoleeedpaaW.PrintWords Go.Proofs.YtacdgeoleeedpaaW.PrintLast Go.Proofs.YtacdgeoleeedpaaW.PrintMore Go.Proofs.Ytacdgeoleeedpaa.PB
set_option linter.unusedVariables false
set_option linter.unusedSimpArgs false
theorem cross_like {X Y : List (List Int)} (hX : OkG X) (hY : OkG Y) (he : wideOf X = wideOf Y) : SideLike (crossX X) (crossX Y) (fun r c => underG (canon X) (roomsOf X) (canon Y) c r) := by
 obtain ⟨e1, e2⟩ := cross_dims hX
 obtain ⟨f1, f2⟩ := cross_dims hY
 intro r c r' c' h1 h2 h3 h4
 rw [e1] at h1 h3
 rw [e2, f2] at h2 h4
 rw [e2]
 have v1 : ∀ r c, r < wideOf X → c < X.length → valAt (crossX X) r c = valAt X c r := fun r c hr hc => cross_at hr hc
 have v2 : ∀ r c, r < wideOf Y → c < Y.length → valAt (crossX Y) r c = valAt Y c r := fun r c hr hc => cross_at hr hc
 dsimp only
 unfold underG
 rw [canon_length]
 by_cases c1 : c < X.length
 ·rw [if_pos c1]
  by_cases c2 : c' < X.length
  ·rw [if_pos c2, canon_eq_iff hX.shape c1 h1 c2 h3, v1 _ _ h1 c1, v1 _ _ h3 c2]
   exact ⟨fun e => .inl ⟨c1, c2, e⟩, fun e => by
    rcases e with ⟨-, -, e⟩ | ⟨e, -, -⟩
    ·exact e
    ·exact absurd c1 e⟩
  ·rw [if_neg c2]
   have v1 := val_canon hX c1 h1
   have v2 := val_canon hY (r := c' - X.length) (c := r') (by omega) (by omega)
   exact ⟨fun e => by omega, fun e => by
    rcases e with ⟨-, e, -⟩ | ⟨e, -, -⟩
    ·exact absurd e c2
    ·exact absurd c1 e⟩
 ·rw [if_neg c1]
  by_cases c2 : c' < X.length
  ·rw [if_pos c2]
   have v1 := val_canon hX c2 h3
   have v2 := val_canon hY (r := c - X.length) (c := r) (by omega) (by omega)
   exact ⟨fun e => by omega, fun e => by
    rcases e with ⟨e, -, -⟩ | ⟨-, e, -⟩
    ·exact absurd e c1
    ·exact absurd c2 e⟩
  ·rw [if_neg c2, v2 _ _ (by omega) (by omega), v2 _ _ (by omega) (by omega)]
   have e := canon_eq_iff hY.shape (r := c - X.length) (c := r) (r' := c' - X.length) (c' := r') (by omega) (by omega) (by omega) (by omega)
   constructor
   ·intro h
    exact .inr ⟨c1, c2, e.1 (by omega)⟩
   ·intro h
    rcases h with ⟨h, -, -⟩ | ⟨-, -, h⟩
    ·exact absurd h c1
    ·have := e.2 h
     omega
def underX (X Y : List (List Int)) : List (List Int) := gridOf (X.length + Y.length) (wideOf X) (underG (canon X) (roomsOf X) (canon Y))
theorem under_dims {X Y : List (List Int)} (hX : OkG X) : (underX X Y).length = X.length + Y.length ∧ wideOf (underX X Y) = wideOf X := ⟨gridOf_length _ _ _, gridOf_wide (by have := hX.dims; omega)⟩
theorem under_plan {X Y : List (List Int)} (hX : OkG X) (hY : OkG Y) : underF (planOf X) (planOf Y) = if wideOf X = wideOf Y then planF (underX X Y) else ([], false) := by
 unfold underF joinedF planOf
 rw [hX.floor, hY.floor]
 have l1 := canon_wide X
 have l2 := canon_wide Y
 by_cases e : wideOf X = wideOf Y
 ·rw [if_pos e]
  refine (if_pos (show ((wideOf (canon X) : Int) == (wideOf (canon Y) : Int)) = true by rw [beq_iff_eq]; omega)).trans ?_
  dsimp only
  rw [canon_length, canon_length, canon_wide]
  rfl
 ·rw [if_neg e]
  exact if_neg (show ¬ ((wideOf (canon X) : Int) == (wideOf (canon Y) : Int)) = true by rw [beq_iff_eq]; omega)
theorem cross_under {X Y : List (List Int)} (hX : OkG X) (hY : OkG Y) (he : wideOf X = wideOf Y) : planF (crossX (underX X Y)) = planF (sideX (crossX X) (crossX Y)) := by
 obtain ⟨d1, d2⟩ := under_dims (Y := Y) hX
 obtain ⟨e1, e2⟩ := cross_dims hX
 obtain ⟨f1, f2⟩ := cross_dims hY
 have hL := cross_like hX hY he
 have hR := beside_like (cross_ok hX) (cross_ok hY) (by omega)
 have a := side_alike hL hR
 rw [e1, e2, f2] at a
 have e : crossX (underX X Y) = gridOf (wideOf X) (X.length + Y.length) (fun r c => underG (canon X) (roomsOf X) (canon Y) c r) := by
  unfold crossX reG
  rw [d1, d2]
  exact gridOf_congr fun r c hr hc => valAt_gridOf hc hr
 have e' : sideX (crossX X) (crossX Y) = gridOf (wideOf X) (X.length + Y.length) (besideG (canon (crossX X)) (roomsOf (crossX X)) (canon (crossX Y))) := by
  unfold sideX
  rw [e1, e2, f2]
 rw [e, e']
 exact alike_planF a
end Go.Proofs.Ytacdgeoleeedpaa.Hd
namespace Go.Proofs.Ytacdgeoleeedpaa.Hd
open Go.RowKit Go.Proofs.YtacdgeoleeedpaaW.PrintWords Go.Proofs.YtacdgeoleeedpaaW.PrintLast Go.Proofs.YtacdgeoleeedpaaW.PrintMore Go.Proofs.Ytacdgeoleeedpaa.PB Go.Proofs.Ytacdgeoleeedpaa.SM
set_option linter.unusedVariables false
set_option linter.unusedSimpArgs false
theorem one_more {v : Int} (h0 : 0 ≤ v) (h1 : v ≤ 100) : ∃ n : Nat, wrap64 (1 + v) = (n : Int) ∧ 1 ≤ n ∧ (n : Int) = v + 1 := by
 obtain ⟨i, rfl⟩ := Int.eq_ofNat_of_zero_le h0
 exact ⟨i + 1, by rw [wrap64_small (by omega) (by omega)]; omega, by omega, by omega⟩
theorem some_more {n : Nat} (hn : n ≤ 100) {v : Int} (h0 : 0 ≤ v) (h1 : v < 24) : ∃ m : Nat, wrap64 ((n : Int) + wrap64 (Int.tdiv v 23)) = (m : Int) ∧ n ≤ m ∧ m ≤ n + 1 := by
 have e : Int.tdiv v 23 = v / 23 := Int.tdiv_eq_ediv_of_nonneg h0
 rw [e, wrap64_small (x := v / 23) (by omega) (by omega), wrap64_small (by omega) (by omega)]
 exact ⟨n + (v / 23).toNat, by omega, by omega, by omega⟩
theorem DrawPlanUnder_ev (l : List Int) (hv : ∀ x ∈ l, 0 ≤ x ∧ x ≤ 255) : ∃ p p', Evs (fun k => spec_DrawPlanUnder.f k l) (p, p') ∧ Lil p ∧ Lil p' := by
 obtain ⟨b, ho, hb⟩ := open_ev l hv
 obtain ⟨v1, hv1, a0, a1, -⟩ := pick_ev b hb 0 (by omega) 4
 obtain ⟨v2, hv2, b0, b1, -⟩ := pick_ev b hb (0 + 1) (by omega) 3
 have a1 := a1 (by omega)
 have b1 := b1 (by omega)
 obtain ⟨m, em, m1, mv⟩ := one_more a0 (by omega)
 obtain ⟨n, en, n1, nv⟩ := one_more b0 (by omega)
 obtain ⟨e, hE, hM, hl⟩ := Empty_ev n m (by omega) (by omega)
 obtain ⟨v3, hv3, c0, c1, -⟩ := pick_ev b hb (0 + 1 + 1) (by omega) 5
 have c1 := c1 (by omega)
 obtain ⟨p, q, hC, hP, hpl, hq⟩ := Cut_ev b hb (0 + 1 + 1 + 1) (by omega) e m hM (by omega) v3 c0 (by omega)
 obtain ⟨v5, hv5, e0, e1, -⟩ := pick_ev b hb q (by omega) 3
 have e1 := e1 (by omega)
 obtain ⟨v4, hv4, d0, d1, -⟩ := pick_ev b hb (q + 1) (by omega) 24
 have d1 := d1 (by omega)
 obtain ⟨m', em', m0', m1'⟩ := some_more (n := m) (by omega) d0 d1
 obtain ⟨n', en', n1', nv'⟩ := one_more e0 (by omega)
 obtain ⟨e', hE', hM', hl'⟩ := Empty_ev n' m' (by omega) (by omega)
 obtain ⟨v6, hv6, f0, f1, -⟩ := pick_ev b hb (q + 1 + 1) (by omega) 5
 have f1 := f1 (by omega)
 obtain ⟨p', q', hC', hP', hpl', hq'⟩ := Cut_ev b hb (q + 1 + 1 + 1) (by omega) e' m' hM' (by omega) v6 f0 (by omega)
 refine ⟨p, p', Evs.bindS ho (Evs.bind hv1 (Evs.bind hv2 ?_)), hP.lil, hP'.lil⟩
 dsimp only
 rw [en, em]
 refine Evs.bind hE (Evs.bind hv3 (Evs.bind hC (Evs.bind hv5 (Evs.bind hv4 ?_))))
 dsimp only
 rw [en', em']
 exact Evs.bind hE' (Evs.bind hv6 (Evs.bind hC' (Evs.const _)))
end Go.Proofs.Ytacdgeoleeedpaa.Hd
namespace Go.Proofs.Ytacdgeoleeedpaa.Hd
open Go.RowKit Go.Proofs.YtacdgeoleeedpaaW.PrintWords Go.Proofs.YtacdgeoleeedpaaW.PrintLast Go.Proofs.YtacdgeoleeedpaaW.PrintMore Go.Proofs.Ytacdgeoleeedpaa.PB
set_option linter.unusedVariables false
set_option linter.unusedSimpArgs false
theorem under_grid {cs1 cs2 : List (List Int)} {rs1 rs2 : List Rc} (h1 : FloorOk cs1 rs1) (h2 : FloorOk cs2 rs2) (hw : wideOf cs1 = wideOf cs2) :
  gridOf (cs1.length + cs2.length) (wideOf cs1) (underG cs1 rs1 cs2) = cs1 ++ mapG (fun x => rs1.length + x) cs2 := by
 have hR2 : Rect (wideOf cs1) cs2 := by rw [hw]; exact h2.rect
 have hR := rect_append h1.rect (rect_mapG (fun x => (rs1.length : Int) + x) hR2)
 rw [rect_eq hR, List.length_append, mapG_length]
 refine gridOf_congr fun r c hr hc => ?_
 unfold underG
 by_cases h : r < cs1.length
 ·rw [if_pos h, valAt_append_left h]
 ·rw [if_neg h, valAt_append_right (by omega), valAt_map hR2 _ (by omega) hc]
theorem under_done {p q : List ByteArray} {cs1 cs2 : List (List Int)} {rs1 rs2 : List Rc} (h1 : PlanFacts p cs1 rs1) (h2 : PlanFacts q cs2 rs2) (hw : wideOf cs1 = wideOf cs2) :
  doneF (p ++ laterOf q) = planF (gridOf (cs1.length + cs2.length) (wideOf cs1) (underG cs1 rs1 cs2)) := by
 have hb1 := plan_bytes h1
 have hb2 := plan_bytes h2
 have hok : (p ++ laterOf q).all okText = true := by
  rw [List.all_eq_true]
  intro s hs
  rcases List.mem_append.1 hs with h | h
  ·exact okText_of fun x hx => by have := hb1 s h x hx; omega
  ·exact okText_of fun x hx => by have := later_bytes h2 s h x hx; omega
 unfold doneF
 rw [if_pos hok, numsOf_append, numsOf_later q (fun s hs x hx => by have := hb2 s hs x hx; omega), h1.nums, h2.nums, mapG_mapG, under_grid h1.ok h2.ok hw]
 have h9 := h1.ok.many
 refine Eq.trans ?_ (plan_map (renamed rs1.length h9 _))
 rw [mapG_append, mapG_mapG]
 congr 2
 ·refine mapG_congr fun r hr x hx => ?_
  have := h1.ok.cells.val r hr x hx
  rw [if_pos (by omega)]
 ·refine mapG_congr fun r hr x hx => ?_
  have := h2.ok.cells.val r hr x hx
  rw [if_neg (by omega)]
  omega
theorem planUnder_j0_true (p q : List ByteArray) : Evs (fun k => spec_PlanUnder.j0 k p q true) ([], false) := by
 refine Evs.step (h := fun _ => some ([], false)) (fun k => ?_) (Evs.const _)
 show spec_PlanUnder.j0 (k + 1) p q true = _
 simp only [spec_PlanUnder.j0, if_true, l1None_f, Option.bind_some]
theorem size_wide {p : List ByteArray} {cs : List (List Int)} {rs : List Rc} (h : PlanFacts p cs rs) : ((rdOf ByteArray.empty p 0).size : Int) = (wideOf cs : Int) := by
 rw [← h.wide, wideOf_numsOf]
 rfl
theorem PlanUnder_ev (p q : List ByteArray) (hp : smallP p) (hq : smallP q) : Evs (fun k => spec_PlanUnder.f k p q) (underF p q) := by
 have h1 := PlanIn_ev p hp
 have h2 := PlanIn_ev q hq
 rcases planB_cases p with ⟨e1, f1⟩ | ⟨e1, cs1, rs1, f1⟩
 ·rw [e1] at h1
  have : underF p q = ([], false) := by unfold underF joinedF; rw [f1]
  rw [this]
  refine Evs.bind h1 ?_
  refine Evs.congr (fun k => ?_) (planUnder_j0_true p q)
  rw [if_neg (by simp)]
 ·rw [e1] at h1
  rcases planB_cases q with ⟨e2, f2⟩ | ⟨e2, cs2, rs2, f2⟩
  ·rw [e2] at h2
   have : underF p q = ([], false) := by unfold underF joinedF; rw [f1, f2]
   rw [this]
   refine Evs.bind h1 ?_
   refine Evs.congr (h := fun k => (spec_PlanIn.f k q).bind fun t243 => (if t243 = true then (if 0 < (p.length : Int) then (if 0 < (q.length : Int) then (spec_PlanUnder.j0 k p q (((rdOf ByteArray.empty p 0).size : Int) != ((rdOf ByteArray.empty q 0).size : Int))) else (none)) else (none)) else (spec_PlanUnder.j0 k p q true))) (fun k => ?_) (Evs.bind h2 ?_)
   ·rw [if_pos rfl]
   ·refine Evs.congr (fun k => ?_) (planUnder_j0_true p q)
    rw [if_neg (by simp)]
  ·rw [e2] at h2
   have F1 := floor_facts f1
   have F2 := floor_facts f2
   have l1 := F1.len
   have l2 := F2.len
   have o1 := F1.ok.h1
   have o2 := F2.ok.h1
   have hu : underF p q = if wideOf cs1 = wideOf cs2 then planF (gridOf (cs1.length + cs2.length) (wideOf cs1) (underG cs1 rs1 cs2)) else ([], false) := by
    unfold underF joinedF
    rw [f1, f2]
    show (if ((wideOf cs1 : Int) == (wideOf cs2 : Int)) = true then _ else _) = _
    by_cases hw : wideOf cs1 = wideOf cs2
    ·rw [if_pos hw, if_pos (by rw [hw]; simp)]
    ·rw [if_neg hw, if_neg (by simp; omega)]
   refine Evs.bind h1 ?_
   refine Evs.congr (h := fun k => (spec_PlanIn.f k q).bind fun t243 => (if t243 = true then (if 0 < (p.length : Int) then (if 0 < (q.length : Int) then (spec_PlanUnder.j0 k p q (((rdOf ByteArray.empty p 0).size : Int) != ((rdOf ByteArray.empty q 0).size : Int))) else (none)) else (none)) else (spec_PlanUnder.j0 k p q true))) (fun k => ?_) (Evs.bind h2 ?_)
   ·rw [if_pos rfl]
   ·rw [hu]
    by_cases hw : wideOf cs1 = wideOf cs2
    ·rw [if_pos hw, ← under_done F1 F2 hw]
     have hlat := l1Later_ev q hq (fun s hs x hx => by have := plan_bytes F2 s hs x hx; omega)
     have hsl : (laterOf q).length = q.length := by simp [laterOf]
     have hsm : smallP (p ++ laterOf q) := by
      have := small_later hq
      refine ⟨?_, fun s hs => ?_⟩
      ·rw [List.length_append, hsl]
       have := F1.ok.h6
       have := F2.ok.h6
       omega
      ·rcases List.mem_append.1 hs with h | h
       ·exact hp.2 s h
       ·exact this.2 s h
     have hdone := l1Done_ev (p ++ laterOf q) hsm
     refine Evs.congr (h := fun k => spec_PlanUnder.j0 k p q false) (fun k => ?_) (Evs.step (h := fun k => (spec_l1Later.f k q 9).bind fun t256 => if ([] ++ p : List ByteArray).length + t256.length < 8796093022208 then ((spec_l1Done.f k (([] ++ p) ++ t256)).bind fun bt262 => (some (bt262.1, bt262.2))) else none) (fun k => ?_) (Evs.bind hlat ?_))
     ·rw [if_pos rfl, if_pos (by omega), if_pos (by omega), size_wide F1, size_wide F2, hw]
      simp
     ·show spec_PlanUnder.j0 (k + 1) p q false = _
      simp only [spec_PlanUnder.j0, Bool.false_eq_true, if_false, Option.bind_some]
      rw [if_pos (by have := hp.1; simp; omega)]
     ·refine Evs.congr (h := fun k => (spec_l1Done.f k (p ++ laterOf q)).bind fun bt262 => (some (bt262.1, bt262.2))) (fun k => ?_) (Evs.bind hdone (Evs.const _))
      rw [if_pos (by have := hp.1; have := hq.1; rw [hsl]; simp; omega), List.nil_append]
    ·rw [if_neg hw]
     refine Evs.congr (fun k => ?_) (planUnder_j0_true p q)
     rw [if_pos rfl, if_pos (by omega), if_pos (by omega), size_wide F1, size_wide F2]
     congr 1
     simp
     omega
end Go.Proofs.Ytacdgeoleeedpaa.Hd
namespace Go.Proofs.Ytacdgeoleeedpaa.Pure
open Go.RowKit Go.Proofs.Ytacdgeoleeedpaa.LU Go.Proofs.Ytacdgeoleeedpaa.PB Go.Proofs.Ytacdgeoleeedpaa.SM Go.Proofs.Ytacdgeoleeedpaa.Hd Go.Proofs.YtacdgeoleeedpaaW.PrintWords Go.Proofs.YtacdgeoleeedpaaW.PrintLast
set_option linter.unusedVariables false
set_option linter.unusedSimpArgs false
theorem FnUnder : laws_FnUnder.Pure := by
 intro l0 h1 h2 h3
 by_cases big : (l0.length : Int) > 1048576
 ·exact ⟨0, by unfold laws_FnUnder.f; rw [if_pos big]⟩
 ·obtain ⟨p, q, hp, hl, hm⟩ := DrawPlanUnder_ev l0 (fun x hx => byte_of (h3 x hx))
  have hI : impl_PlanUnder.f p q = some (underF p q) := by unfold impl_PlanUnder.f; rw [if_pos ⟨(smallB_iff _).2 hl.small, (smallB_iff _).2 hm.small⟩]
  have bad : underF p q = ([], false) → ∃ k, laws_FnUnder.f k l0 = some true := by
   intro e0
   apply Evs.ex
   refine Evs.neg big (Evs.bind hp (Evs.bindS hI (Evs.bind (PlanUnder_ev p q hl.small hm.small) (Evs.neg (by simp) ?_))))
   rw [e0]
   refine Evs.bind same_nil (Evs.pos rfl ?_)
   refine Evs.step (h := fun k => (laws_sameTexts.f k ([] : List ByteArray) []).bind fun t361 => (some t361)) (fun k => ?_) (Evs.bind same_nil (Evs.const _))
   conv => lhs; unfold laws_FnUnder.j0
   exact (if_pos (by simp)).trans (if_pos (by simp))
  rcases in_cases p with ⟨X, hX, rfl⟩ | f1
  ·rcases in_cases q with ⟨Y, hY, rfl⟩ | f2
   ·by_cases he : wideOf X = wideOf Y
    ·have e1 := under_plan hX hY
     rw [if_pos he] at e1
     rcases planF_cases (underX X Y) with ⟨hU, e2⟩ | ⟨-, e2⟩
     ·have e0 : underF (planOf X) (planOf Y) = (planOf (underX X Y), true) := e1.trans e2
      apply Evs.ex
      refine Evs.neg big (Evs.bind hp (Evs.bindS hI (Evs.bind (PlanUnder_ev _ _ hl.small hm.small) (Evs.neg (by simp) ?_))))
      rw [e0]
      refine Evs.bind (same_plan hU) (Evs.pos rfl ?_)
      refine Evs.step (h := fun k => (impl_PlanTrans.f (planOf X)).bind fun bt341 => ((impl_PlanTrans.f (planOf Y)).bind fun bt345 => ((impl_PlanBeside.f bt341.1 bt345.1).bind fun bt349 => ((impl_PlanTrans.f (planOf (underX X Y))).bind fun bt353 => (if bt341.2 = true then (if bt345.2 = true then (if bt349.2 = true then (if bt353.2 = true then ((laws_sameTexts.f k bt349.1 bt353.1).bind fun t357 => (some t357)) else (some false)) else (some false)) else (some false)) else (some false)))))) (fun k => ?_) ?_
      ·conv => lhs; unfold laws_FnUnder.j0
       exact if_neg (by simp)
      ·have e3 : impl_PlanBeside.f (planOf (crossX X)) (planOf (crossX Y)) = some (planOf (crossX (underX X Y)), true) := by
        unfold impl_PlanBeside.f
        rw [if_pos ⟨(cross_ok hX).psmall, (cross_ok hY).psmall⟩, beside_plan (cross_ok hX) (cross_ok hY), if_pos (by rw [(cross_dims hX).1, (cross_dims hY).1]; exact he), ← cross_under hX hY he, (cross_ok hU).plan]
        rfl
       exact Evs.bindS (cross_f hX) (Evs.bindS (cross_f hY) (Evs.bindS e3 (Evs.bindS (cross_f hU) (Evs.pos rfl (Evs.pos rfl (Evs.pos rfl (Evs.pos rfl (Evs.bind (same_plan (cross_ok hU)) (Evs.const _)))))))))
     ·exact bad (e1.trans e2)
    ·exact bad (by rw [under_plan hX hY, if_neg he])
   ·exact bad (by unfold underF joinedF; rw [f2]; split <;> simp_all)
  ·exact bad (by unfold underF joinedF; rw [f1])
end Go.Proofs.Ytacdgeoleeedpaa.Pure
