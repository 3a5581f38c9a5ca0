/- Part 4 of the proof of FnExactWallLongest: what the program's functions and the reference's compute. -/
import Derived.Test.YtjaolkfjpnpglaaProg
import Derived.Below
import Derived.Deep.Draws
import Derived.Deep.AppendLies
import Derived.Maps.AppendAt
import Derived.OwnWalk
import Derived.Laws.BytesArg
import Derived.Laws.MakeOwn
import Derived.Laws.OwnMore
import Derived.Deep.OwnRows
import Derived.Tactics
import Derived.Lib.ConvBytes
import Derived.Laws.Slices
import Derived.WalkKit
import Derived.KernelRfl
import Derived.RowKit3
import Derived.Deep.LoopGhost
import Derived.Deep.QuietTactic
import Derived.BigQuiet
import Derived.WideLaws
import Derived.Deep.DeepCutAuto
import Derived.Deep.CutBlock
import Derived.Deep.RegionHeld3
import Derived.Laws.Rows
import Derived.Lib.AppendStr
import Derived.ArgAppend
import Derived.Laws.IdiomCopy
import Derived.OrdersHeld
import Derived.Laws.BitsLemmas
import Derived.RowKit
import Derived.Test.YtjaolkfjpnpglaaWWords
import Derived.Test.YtjaolkfjpnpglaaWLast
import Derived.Test.YtjaolkfjpnpglaaWApart
import Derived.Test.YtjaolkfjpnpglaaWFoot
import Derived.Test.YtjaolkfjpnpglaaWKept
import Derived.Test.YtjaolkfjpnpglaaWShare
import Derived.Test.YtjaolkfjpnpglaaWN
import Derived.Test.YtjaolkfjpnpglaaWRepsOne
import Derived.Test.YtjaolkfjpnpglaaWMore
import Derived.Test.YtjaolkfjpnpglaaCLGc
namespace Go.Proofs.Ytjaolkfjpnpglaa.Hd
open Go.RowKit Go.Proofs.YtjaolkfjpnpglaaW.PrintWords Go.Proofs.YtjaolkfjpnpglaaW.PrintLast Go.Proofs.YtjaolkfjpnpglaaW.PrintMore Go.Proofs.Ytjaolkfjpnpglaa.PB
set_option linter.unusedVariables false
set_option linter.unusedSimpArgs false
theorem wall_bound {cs : List (List Int)} {rs : List Rc} (h : FloorOk cs rs) : (upT cs).length ≤ 36 ∧ (levT cs).length ≤ 36 := by
 have q1 := h.h6
 have q2 := h.w6
 have h1 := trip_length (difB cs false) cs.length (wideOf cs - 1)
 have h2 := trip_length (difB cs true) (wideOf cs) (cs.length - 1)
 have m1 : (wideOf cs - 1) * cs.length ≤ 6 * 6 := Nat.mul_le_mul (by omega) q1
 have m2 : (cs.length - 1) * wideOf cs ≤ 6 * 6 := Nat.mul_le_mul (by omega) q2
 unfold upT levT
 omega
def four (kind : Int) (t : Nat × Nat × Nat) : List Int := [kind, (t.1 : Int), (t.2.1 : Int), (t.2.2 : Int)]
def walls4 (cs : List (List Int)) : List (List Int) := (upT cs).map (four 0) ++ (levT cs).map (four 1)
theorem rdL_map {f : Nat × Nat × Nat → List Int} {L : List (Nat × Nat × Nat)} {i : Nat} {x : Nat × Nat × Nat} (hx : L[i]? = some x) : rd_L3 (L.map f) (i : Int) = f x := by
 unfold rd_L3
 rw [Int.toNat_natCast, List.getD_eq_getElem?_getD, List.getElem?_map, hx]
 rfl
theorem walls_sl1 (L : List (Nat × Nat × Nat)) (hL : L.length ≤ 1000) (pre : List (List Int)) (hpre : pre.length ≤ 1000) : ∀ m i, i + m = L.length → Evs (fun k => spec_l2Walls.l1 k (pre ++ (L.take i).map (four 1)) (L.map tri) (i : Int)) (pre ++ L.map (four 1)) := by
 intro m
 induction m with
 | zero =>
  intro i hi
  rw [List.take_of_length_le (by omega)]
  refine Evs.step (h := fun _ => some (pre ++ L.map (four 1))) (fun k => ?_) (Evs.const _)
  conv => lhs; unfold spec_l2Walls.l1
  rw [if_neg (by simp; omega)]
 | succ m ih =>
  intro i hi
  obtain ⟨x, hx⟩ : ∃ x, L[i]? = some x := ⟨_, List.getElem?_eq_getElem (by omega)⟩
  have hnx := ih (i + 1) (by omega)
  rw [List.take_add_one, hx, List.map_append, ← List.append_assoc] at hnx
  refine Evs.step (fun k => ?_) hnx
  conv => lhs; unfold spec_l2Walls.l1
  rw [if_pos (by simp; omega)]
  simp only [Option.bind_some]
  rw [rdL_map hx, if_pos (by omega), if_pos (by simp [tri]), if_pos (by simp; omega), wrap_succ (by omega)]
  rfl
theorem walls_sl0 {p : List ByteArray} {cs : List (List Int)} {rs : List Rc} (F : PlanFacts p cs rs) : ∀ m i, i + m = (upT cs).length → Evs (fun k => spec_l2Walls.l0 k p (((upT cs).take i).map (four 0)) ((upT cs).map tri) (i : Int)) (walls4 cs) := by
 have hb := wall_bound F.ok
 intro m
 induction m with
 | zero =>
  intro i hi
  rw [List.take_of_length_le (by omega)]
  have := walls_sl1 (levT cs) (by omega) ((upT cs).map (four 0)) (by simp; omega) (levT cs).length 0 (by omega)
  simp only [List.take_zero, List.map_nil, List.append_nil] at this
  refine Evs.step (h := fun k => (spec_l1Trans.f k p).bind fun t498 => ((spec_l2Upright.f k t498).bind fun t501 => (spec_l2Walls.l1 k ((upT cs).map (four 0)) t501 0))) (fun k => ?_) (Evs.bind (trans_plan F) (Evs.bind (lev_plan F) this))
  conv => lhs; unfold spec_l2Walls.l0
  rw [if_neg (by simp; omega)]
 | succ m ih =>
  intro i hi
  obtain ⟨x, hx⟩ : ∃ x, (upT cs)[i]? = some x := ⟨_, List.getElem?_eq_getElem (by omega)⟩
  have hnx := ih (i + 1) (by omega)
  rw [List.take_add_one, hx, List.map_append] at hnx
  refine Evs.step (fun k => ?_) hnx
  conv => lhs; unfold spec_l2Walls.l0
  rw [if_pos (by simp; omega)]
  simp only [Option.bind_some]
  rw [rdL_map hx, if_pos (by omega), if_pos (by simp [tri]), if_pos (by simp; omega), wrap_succ (by omega)]
  rfl
theorem l2Walls_ev {p : List ByteArray} {cs : List (List Int)} {rs : List Rc} (F : PlanFacts p cs rs) : Evs (fun k => spec_l2Walls.f k p) (walls4 cs) := by
 have := walls_sl0 F (upT cs).length 0 (by omega)
 refine Evs.congr (h := fun k => (spec_l2Upright.f k p).bind fun t485 => (spec_l2Walls.l0 k p (([] : List (List Int))) t485 0)) (fun k => rfl) (Evs.bind (up_plan F) ?_)
 simpa using this
def bestAt (L : List Int) : Nat → Nat
 | 0 => 0
 | n + 1 => if L.getD n 0 > L.getD (bestAt L n) 0 then n else bestAt L n
theorem bestAt_le (L : List Int) : ∀ n, bestAt L n ≤ n - 1
 | 0 => Nat.le_refl _
 | n + 1 => by
  have := bestAt_le L n
  simp only [bestAt]
  split <;> omega
def allT (cs : List (List Int)) : List (Nat × Nat × Nat) := upT cs ++ levT cs
def lensOf (cs : List (List Int)) : List Int := (allT cs).map fun x => (x.2.2 : Int)
def wallLongestF (p : List ByteArray) : Int × Int × Bool := match floorF p with
 | none => (0, 0, false)
 | some (cs, _) => if (allT cs).length = 0 then (0, 0, false) else ((bestAt (lensOf cs) (allT cs).length : Int), (lensOf cs).getD (bestAt (lensOf cs) (allT cs).length) 0, true)
theorem walls4_get {cs : List (List Int)} {i : Nat} {x : Nat × Nat × Nat} (hx : (allT cs)[i]? = some x) : ((rd_L3 (walls4 cs) (i : Int)).length : Int) = 4 ∧ rd (rd_L3 (walls4 cs) (i : Int)) 3 = (x.2.2 : Int) ∧ (lensOf cs).getD i 0 = (x.2.2 : Int) := by
 have h1 : ∃ kind, rd_L3 (walls4 cs) (i : Int) = four kind x := by
  unfold rd_L3 walls4
  rw [Int.toNat_natCast, List.getD_eq_getElem?_getD]
  unfold allT at hx
  by_cases h : i < (upT cs).length
  ·rw [List.getElem?_append_left h] at hx
   rw [List.getElem?_append_left (by simp; exact h), List.getElem?_map, hx]
   exact ⟨0, rfl⟩
  ·rw [List.getElem?_append_right (by omega)] at hx
   rw [List.getElem?_append_right (by simp; omega), List.length_map, List.getElem?_map, hx]
   exact ⟨1, rfl⟩
 obtain ⟨kind, e⟩ := h1
 rw [e]
 refine ⟨rfl, rfl, ?_⟩
 unfold lensOf
 rw [List.getD_eq_getElem?_getD, List.getElem?_map, hx]
 rfl
theorem walls4_length (cs : List (List Int)) : (walls4 cs).length = (allT cs).length := by simp [walls4, allT]
theorem longest_l0 {cs : List (List Int)} {rs : List Rc} (h : FloorOk cs rs) (hpos : 0 < (allT cs).length) : ∀ m i, i + m = (allT cs).length → 1 ≤ i → Evs (fun k => spec_WallLongest.l0 k (walls4 cs) (bestAt (lensOf cs) i : Int) (i : Int)) ((bestAt (lensOf cs) (allT cs).length : Int), (lensOf cs).getD (bestAt (lensOf cs) (allT cs).length) 0, true) := by
 have hb := wall_bound h
 have hal : (allT cs).length ≤ 72 := by unfold allT; rw [List.length_append]; omega
 intro m
 induction m with
 | zero =>
  intro i hi h1
  obtain rfl : i = (allT cs).length := by omega
  have hle := bestAt_le (lensOf cs) (allT cs).length
  obtain ⟨x, hx⟩ : ∃ x, (allT cs)[bestAt (lensOf cs) (allT cs).length]? = some x := ⟨_, List.getElem?_eq_getElem (by omega)⟩
  obtain ⟨g1, g2, g3⟩ := walls4_get hx
  refine Evs.step (h := fun _ => some ((bestAt (lensOf cs) (allT cs).length : Int), (lensOf cs).getD (bestAt (lensOf cs) (allT cs).length) 0, true)) (fun k => ?_) (Evs.const _)
  conv => lhs; unfold spec_WallLongest.l0
  rw [if_neg (by rw [walls4_length]; omega), if_pos (by omega), if_pos (by rw [walls4_length]; omega), if_pos (by omega), g2, g3]
 | succ m ih =>
  intro i hi h1
  have hle := bestAt_le (lensOf cs) i
  obtain ⟨x, hx⟩ : ∃ x, (allT cs)[bestAt (lensOf cs) i]? = some x := ⟨_, List.getElem?_eq_getElem (by omega)⟩
  obtain ⟨g1, g2, g3⟩ := walls4_get hx
  obtain ⟨y, hy⟩ : ∃ y, (allT cs)[i]? = some y := ⟨_, List.getElem?_eq_getElem (by omega)⟩
  obtain ⟨k1, k2, k3⟩ := walls4_get hy
  have hnx := ih (i + 1) (by omega) (by omega)
  simp only [bestAt] at hnx
  refine Evs.step (fun k => ?_) hnx
  conv => lhs; unfold spec_WallLongest.l0
  rw [if_pos (by rw [walls4_length]; omega), if_pos (by omega), if_pos (by omega), if_pos (by omega), if_pos (by rw [walls4_length]; omega), if_pos (by omega), g2, k2, g3, k3, wrap_succ (by omega)]
  split <;> rfl
theorem WallLongest_ev (p : List ByteArray) (hp : smallP p) : Evs (fun k => spec_WallLongest.f k p) (wallLongestF p) := by
 have h1 := PlanIn_ev p hp
 have jt : Evs (fun k => spec_WallLongest.j0 k p true) (0, 0, false) := by
  refine Evs.step (h := fun _ => some (0, 0, false)) (fun k => ?_) (Evs.const _)
  show spec_WallLongest.j0 (k + 1) p true = _
  simp only [spec_WallLongest.j0, if_true]
 rcases planB_cases p with ⟨e1, f1⟩ | ⟨e1, cs, rs, f1⟩
 ·rw [e1] at h1
  have : wallLongestF p = (0, 0, false) := by unfold wallLongestF; rw [f1]
  rw [this]
  refine Evs.bind h1 ?_
  exact Evs.neg (by simp) jt
 ·rw [e1] at h1
  have F := floor_facts f1
  have : wallLongestF p = if (allT cs).length = 0 then (0, 0, false) else ((bestAt (lensOf cs) (allT cs).length : Int), (lensOf cs).getD (bestAt (lensOf cs) (allT cs).length) 0, true) := by unfold wallLongestF; rw [f1]
  rw [this]
  refine Evs.bind h1 (Evs.pos rfl (Evs.bind (l2Walls_ev F) ?_))
  rw [walls4_length]
  by_cases h0 : (allT cs).length = 0
  ·rw [if_pos h0, h0]
   exact jt
  ·rw [if_neg h0]
   have e : (((allT cs).length : Int) == 0) = false := by rw [beq_eq_false_iff_ne]; omega
   rw [e]
   refine Evs.step (h := fun k => (spec_l2Walls.f k p).bind fun t518 => (spec_WallLongest.l0 k t518 0 1)) (fun k => ?_) (Evs.bind (l2Walls_ev F) ?_)
   ·show spec_WallLongest.j0 (k + 1) p false = _
    simp only [spec_WallLongest.j0, Bool.false_eq_true, if_false]
   ·have := longest_l0 F.ok (by omega) ((allT cs).length - 1) 1 (by omega) (Nat.le_refl _)
    have e0 : bestAt (lensOf cs) 1 = 0 := by simp [bestAt]
    rw [e0] at this
    exact this
end Go.Proofs.Ytjaolkfjpnpglaa.Hd
namespace Go.Proofs.Ytjaolkfjpnpglaa.Hd
open Go.RowKit Go.Proofs.YtjaolkfjpnpglaaW.PrintWords Go.Proofs.YtjaolkfjpnpglaaW.PrintLast Go.Proofs.YtjaolkfjpnpglaaW.PrintMore Go.Proofs.Ytjaolkfjpnpglaa.PB
set_option linter.unusedVariables false
set_option linter.unusedSimpArgs false
abbrev kWl := k68
def zeroW : Wl := ⟨false, 0, 0, 0⟩
theorem wl_cells {W : World} {B g n cap : Nat} {ok : Nat → Prop} {ws : List Wl} (h : Kd.R kWl 68 W B ok (.slice (some ⟨g, 0, none⟩) n cap) ws) (k : Nat) (hk : k < ws.length) :
  W.cell? ⟨g, k * 4, none⟩ = some (.bool (ws.getD k zeroW).f0) ∧ W.cell? ⟨g, k * 4 + 1, none⟩ = some (.int .i64 (ws.getD k zeroW).f1) ∧ W.cell? ⟨g, k * 4 + 2, none⟩ = some (.int .i64 (ws.getD k zeroW).f2) ∧ W.cell? ⟨g, k * 4 + 3, none⟩ = some (.int .i64 (ws.getD k zeroW).f3) := by
 obtain ⟨A, c, e, hl, hC⟩ := Kd.R_reads h
 injection e with e1 e2 e3
 subst e1; subst e2
 obtain ⟨ad, e4, h0, h1, h2, h3⟩ := at_T68 hC (k : Int) (by omega) (by omega)
 injection e4 with e4
 subst e4
 have e5 : rd_T68 ws (k : Int) = ws.getD k zeroW := by
  unfold rd_T68
  rw [show ((k : Int).toNat) = k by omega]
  rfl
 rw [show ((k : Int).toNat) = k by omega, add_plain, e5] at h0 h1 h2 h3
 exact ⟨h0, h1, h2, h3⟩
theorem wallsOf_length (cs : List (List Int)) : (wallsOf cs).length = (allT cs).length := by simp [wallsOf_eq, allT]
theorem wallsOf_bound {cs : List (List Int)} {rs : List Rc} (h : FloorOk cs rs) : (wallsOf cs).length ≤ 72 := by
 have := wall_bound h
 rw [wallsOf_length]
 unfold allT
 rw [List.length_append]
 omega
end Go.Proofs.Ytjaolkfjpnpglaa.Hd
namespace Go.Proofs.Ytjaolkfjpnpglaa.Hd
open Go.RowKit Go.Proofs.YtjaolkfjpnpglaaW.PrintWords Go.Proofs.YtjaolkfjpnpglaaW.PrintLast Go.Proofs.YtjaolkfjpnpglaaW.PrintMore Go.Proofs.Ytjaolkfjpnpglaa.PB
set_option linter.unusedVariables false
set_option linter.unusedSimpArgs false
def lensW (ws : List Wl) : List Int := ws.map fun a => a.f3
theorem lensOf_eq (cs : List (List Int)) : lensOf cs = lensW (wallsOf cs) := by
 unfold lensOf lensW allT
 rw [wallsOf_eq, List.map_append, List.map_append, List.map_map, List.map_map]
 rfl
theorem lensW_get (ws : List Wl) (i : Nat) (hi : i < ws.length) : (lensW ws).getD i 0 = (ws.getD i zeroW).f3 := by
 unfold lensW
 rw [List.getD_eq_getElem?_getD, List.getElem?_map, List.getElem?_eq_getElem hi, List.getD_eq_getElem?_getD, List.getElem?_eq_getElem hi]
 rfl
set_option maxHeartbeats 4000000 in
set_option maxRecDepth 100000 in
theorem WallLongest_calls (A0 : Option Addr) (c0 : Nat) (l0 : List ByteArray) (w : World) (hr0 : Kd.C Kd.string w A0 l0.length l0) (hc0 : l0.length ≤ c0) (hp : smallP l0) :
  Calls Try.prog 37 #[.slice A0 l0.length c0] w fun e w' => e = .returned (.tuple #[.int .i64 (wallLongestF l0).1, .int .i64 (wallLongestF l0).2.1, .bool (wallLongestF l0).2.2]) ∧ Below w.heap.size w w' := by
 have HR := Aside0.mk hr0
 have HC := Aside0.mk hc0
 have HP := Aside0.mk hp
 clear hr0 hc0 hp
 generalize hM : wallLongestF l0 = res
 have HM := Aside0.mk hM
 clear hM
 generalize hF : floorF l0 = t
 have HF := Aside0.mk hF
 clear hF
 rcases t with _ | ⟨cs, rs⟩
 ·have e : res = (0, 0, false) := by rw [← HM.out]; unfold wallLongestF; rw [HF.out]
  subst e
  go_enter Try.func37, Try.ntmps37
  go_wp2_with (first
   | (go_at_call 49; refine (floorOf_calls A0 c0 l0 _ HR.out HC.out HP.out).mono ?_; rw [HF.out]; rintro e w8 ⟨hb8, v8, b8, rfl, rfl⟩; have HB8 := Aside0.mk hb8; clear hb8))
  go_ret3
  exact ⟨rfl, HB8.out⟩
 ·have hlen : (allT cs).length = (wallsOf cs).length := (wallsOf_length cs).symm
  have e : res = if (wallsOf cs).length = 0 then (0, 0, false) else ((bestAt (lensW (wallsOf cs)) (wallsOf cs).length : Int), (lensW (wallsOf cs)).getD (bestAt (lensW (wallsOf cs)) (wallsOf cs).length) 0, true) := by
   rw [← HM.out, ← lensOf_eq, ← hlen]
   unfold wallLongestF
   rw [HF.out]
  obtain ⟨K, hK⟩ := walls_ev (floorF_ok HF.out)
  have HW := Aside0.mk (hK K (Nat.le_refl K))
  have HL := Aside0.mk (wallsOf_bound (floorF_ok HF.out))
  have HE := Aside0.mk e
  clear hK e hlen
  generalize wallsOf cs = ws at *
  have b1 : (ws.length : Int) ≤ 72 := by have := HL.out; omega
  by_cases h0 : ws.length = 0
  ·have d0 : ((ws.length : Int) == 0) = true := by rw [beq_iff_eq]; omega
   have HE2 := Aside0.mk (show res = (0, 0, false) by rw [HE.out, if_pos h0])
   clear h0
   go_enter Try.func37, Try.ntmps37
   go_wp2_with (first
    | (go_at_call 49; refine (floorOf_calls A0 c0 l0 _ HR.out HC.out HP.out).mono ?_; rw [HF.out]; rintro e w8 ⟨hb8, v8, b8, rfl, rfl, g, rfl, hfl⟩; have HB8 := Aside0.mk hb8; have HFl8 := Aside0.mk hfl; clear hb8 hfl)
    | (go_at_call 64; refine (impl_floor_walls.calls K g cs rs ws _ _ HFl8.out (Below.refl _ _) HW.out).mono ?_; rintro e w9 ⟨v9, rfl, hr9, -, hb9, -⟩; obtain ⟨A9, c9, e9⟩ := Kd.R_slice hr9; subst e9; have HB9 := Aside0.mk (below_step HB8.out hb9); clear hb9 hr9))
   go_ret3
   rw [HE2.out]
   exact ⟨rfl, HB9.out⟩
  ·have d0 : ((ws.length : Int) == 0) = false := by rw [beq_eq_false_iff_ne]; omega
   have HE2 := Aside0.mk (show res = ((bestAt (lensW ws) ws.length : Int), (lensW ws).getD (bestAt (lensW ws) ws.length) 0, true) by rw [HE.out, if_neg h0])
   have HPos := Aside0.mk (show 0 < ws.length by omega)
   clear h0
   go_enter Try.func37, Try.ntmps37
   go_wp2_with (first
    | (go_at_call 49; refine (floorOf_calls A0 c0 l0 _ HR.out HC.out HP.out).mono ?_; rw [HF.out]; rintro e w8 ⟨hb8, v8, b8, rfl, rfl, g, rfl, hfl⟩; have HB8 := Aside0.mk hb8; have HFl8 := Aside0.mk hfl; clear hb8 hfl)
    | (go_at_call 64; refine (impl_floor_walls.calls K g cs rs ws _ _ HFl8.out (Below.refl _ _) HW.out).mono ?_; rintro e w9 ⟨v9, rfl, hr9, -, hb9, -⟩; obtain ⟨A8, c8, e8⟩ := Kd.R_slice hr9; subst e8; have HB9 := Aside0.mk (below_step HB8.out hb9); have HF9 := Aside0.mk (HFl8.out.below hb9); clear hb9 hr9)
    | (go_at_call 64; refine (impl_floor_walls.calls K g cs rs ws _ _ HF9.out (Below.refl _ _) HW.out).mono ?_; rintro e w10 ⟨v10, rfl, hr10, -, hb10, -⟩; obtain ⟨A9, c9, e9⟩ := Kd.R_slice hr10; subst e9; have HB10 := Aside0.mk (below_step HB9.out hb10); have HR10 := Aside0.mk (Kd.R_lower hr10 HB9.out.size); clear hb10 hr10))
   go_loopg [8, 28] ws.length (fun kq v8 v28 w' => ∃ i : Nat, v8 = .int .i64 (bestAt (lensW ws) i : Int) ∧ v28 = .int .i64 (i : Int) ∧ Aside0 (i + kq = ws.length) ∧ Aside0 (Kd.R kWl 68 w' w.heap.size (fun _ => True) (.slice A9 ws.length c9) ws) ∧ Aside0 (Below w.heap.size w w'))
   case atStart => exact ⟨0, rfl, rfl, ⟨by omega⟩, HR10, HB10⟩
   case round =>
    clear HR10 HB10
    obtain ⟨i, rfl, rfl, HK, HO, HB⟩ := hrel
    have hbl := bestAt_le (lensW ws) i
    have hpos := HPos.out
    have hik := HK.out
    obtain ⟨gr, cp, ev, hgr, hltg, cells, hcells⟩ := Kd.R_form HO.out (by omega)
    injection ev with ea en ec
    subst ea
    clear en ec hcells hltg hgr
    have hbi : bestAt (lensW ws) i < ws.length := by omega
    obtain ⟨-, -, -, x3⟩ := wl_cells HO.out (bestAt (lensW ws) i) hbi
    rw [← lensW_get ws _ hbi] at x3
    have q1 : ((bestAt (lensW ws) i : Nat) : Int) < (ws.length : Int) := by omega
    have q0 : (0 : Int) ≤ ((bestAt (lensW ws) i : Nat) : Int) := by omega
    have HBe := Aside0.mk (show bestAt (lensW ws) (i + 1) = if (lensW ws).getD i 0 > (lensW ws).getD (bestAt (lensW ws) i) 0 then i else bestAt (lensW ws) i from rfl)
    have HBi := Aside0.mk (show bestAt (lensW ws) i = bestAt (lensW ws) i from rfl)
    by_cases hi : i < ws.length
    ·have hlt : (i : Int) < (ws.length : Int) := by omega
     have hi0 : (0 : Int) ≤ i := by omega
     obtain ⟨z0, z1, z2, z3⟩ := wl_cells HO.out i hi
     have HG := Aside0.mk (lensW_get ws i hi)
     generalize ws.getD i zeroW = a at *
     obtain ⟨lv, f1, f2, f3⟩ := a
     dsimp only at z0 z1 z2 z3 HG
     rw [HG.out] at HBe
     have y3 := pw_cell_below (below_alloc (Below.refl _ _) (.cells #[.bool lv, .int .i64 f1, .int .i64 f2, .int .i64 f3] 68)) x3
     have HBa := Aside0.mk (below_alloc HB.out (.cells #[.bool lv, .int .i64 f1, .int .i64 f2, .int .i64 f3] 68))
     have HOa := Aside0.mk (Kd.R_below HO.out (below_alloc (Below.refl _ _) (.cells #[.bool lv, .int .i64 f1, .int .i64 f2, .int .i64 f3] 68)))
     generalize (lensW ws).getD (bestAt (lensW ws) i) 0 = lb at *
     generalize bestAt (lensW ws) i = b at *
     clear hik hbl hbi hpos
     by_cases hq : lb < f3
     ·have d1 : decide (lb < f3) = true := decide_eq_true hq
      rw [if_pos hq] at HBe
      clear hq
      go_wp2
      repeat (go_quiet (first | done | skip); try go_wp2)
      go_roundg (ws.length - (i + 1))
      case measure => have := HK.out; omega
      case rel => exact ⟨i + 1, by rw [HBe.out], by first | rfl | (congr 1; omega), ⟨by have := HK.out; omega⟩, ⟨Kd.R_drewN HOa.out _⟩, ⟨pw_below_drewN HBa.out _⟩⟩
     ·have d1 : decide (lb < f3) = false := decide_eq_false hq
      rw [if_neg hq] at HBe
      clear hq
      go_wp2
      repeat (go_quiet (first | done | skip); try go_wp2)
      go_roundg (ws.length - (i + 1))
      case measure => have := HK.out; omega
      case rel => exact ⟨i + 1, by rw [HBe.out], by first | rfl | (congr 1; omega), ⟨by have := HK.out; omega⟩, ⟨Kd.R_drewN HOa.out _⟩, ⟨pw_below_drewN HBa.out _⟩⟩
    ·have hge : ¬ (i : Int) < (ws.length : Int) := by omega
     obtain rfl : i = ws.length := by omega
     generalize (lensW ws).getD (bestAt (lensW ws) ws.length) 0 = lb at *
     generalize bestAt (lensW ws) ws.length = b at *
     go_wp2
     repeat (go_quiet (first | done | skip); try go_wp2)
     go_ret3
     rw [HE2.out]
     exact ⟨rfl, pw_below_drewN HB.out _⟩
end Go.Proofs.Ytjaolkfjpnpglaa.Hd
namespace Go.Proofs.Ytjaolkfjpnpglaa.Hd
open Go.RowKit Go.Proofs.YtjaolkfjpnpglaaW.PrintWords Go.Proofs.YtjaolkfjpnpglaaW.PrintLast Go.Proofs.YtjaolkfjpnpglaaW.PrintMore Go.Proofs.Ytjaolkfjpnpglaa.PB
set_option linter.unusedVariables false
set_option linter.unusedSimpArgs false
def impl_WallLongest.f (l0 : List ByteArray) : Option (Int × Int × Bool) := if smallB l0 = true then some (wallLongestF l0) else none
theorem impl_WallLongest.calls (A0 : Option Addr) (c0 : Nat) (l0 : List ByteArray) (r1 : Int) (r2 : Int) (r3 : Bool) (w : World) (hr0 : Kd.C Kd.string w A0 l0.length l0) (hc0 : l0.length ≤ c0) (h : impl_WallLongest.f l0 = some (r1, r2, r3)) :
  Calls Try.prog 37 #[.slice A0 l0.length c0] w fun e w' => e = .returned (.tuple #[.int .i64 r1, .int .i64 r2, .bool r3]) ∧ Below w.heap.size w w' := by
 unfold impl_WallLongest.f at h
 split at h
 ·rename_i hs
  have e := Option.some.inj h
  have := WallLongest_calls A0 c0 l0 w hr0 hc0 ((smallB_iff _).1 hs)
  rw [e] at this
  exact this
 ·cases h
end Go.Proofs.Ytjaolkfjpnpglaa.Hd
namespace Go.Proofs.Ytjaolkfjpnpglaa.LG
open Go.Proofs.Ytjaolkfjpnpglaa.PB Go.Proofs.Ytjaolkfjpnpglaa.Hd
open Go.RowKit Go.Proofs.YtjaolkfjpnpglaaW.PrintWords Go.Proofs.YtjaolkfjpnpglaaW.PrintLast Go.Proofs.YtjaolkfjpnpglaaW.PrintMore
attribute [local go_sem] max2_int min2_int max_two min_two max_three min_three max_four min_four   -- for this text's walks alone
set_option linter.unusedVariables false
set_option linter.unusedSimpArgs false
def errW : Option Int → Value
 | none => .nilIface
 | some c => .iface 0 (.int .i64 c)
theorem errW_none : errW none = .nilIface := rfl
theorem errW_some (c : Int) : errW (some c) = .iface 0 (.int .i64 c) := rfl
theorem info3 : (Try.prog.info? 3).map (fun i => (i.zero, i.size, i.bytes)) = some (some (.int .i64 0), 1, 8) := by kernel_rfl
theorem info5 : (Try.prog.info? 5).map (fun i => (i.zero, i.size, i.bytes)) = some (some (.int .u8 0), 1, 1) := by kernel_rfl
theorem info9 : (Try.prog.info? 9).map (fun i => (i.zero, i.size, i.bytes)) = some (some (.string ⟨#[]⟩), 1, 16) := by kernel_rfl
theorem info53 : (Try.prog.info? 53).map (fun i => (i.zero, i.size, i.bytes)) = some (some (.slice none 0 0), 1, 24) := by kernel_rfl
theorem info68 : (Try.prog.info? 68).map (fun i => (i.zero, i.size, i.bytes)) = some (some (.agg #[(.bool false), (.int .i64 0), (.int .i64 0), (.int .i64 0)]), 4, 32) := by kernel_rfl
def rd_L3 (xs : List (List Int)) (i : Int) : (List Int) := xs.getD i.toNat ([] : List Int)
theorem at_L3 {w : World} {A : Option Addr} {n : Nat} {xs : List (List Int)} (h : Kd.C (Kd.slice 3 (Kd.int .i64)) w A n xs) (i : Int) (h0 : 0 ≤ i) (h1 : i < n) : ∃ ad A0 c0, A = some ad ∧ w.cell? (ad.add i.toNat) = some (.slice A0 (rd_L3 xs i).length c0) ∧ (rd_L3 xs i).length ≤ c0 ∧ (Kd.int .i64).C w A0 (rd_L3 xs i).length (rd_L3 xs i) := by
 obtain ⟨ad, c, e, _, hK, hc0⟩ := Kd.C_get h ([] : List Int) i h0 h1
 have hc : ∀ j u, c[j]? = some u → w.cell? (ad.add (i.toNat * 1 + j)) = some u := hc0
 obtain ⟨A0, c0, rfl, l0, g0⟩ := hK
 exact ⟨ad, A0, c0, e, by have hq := hc 0 _ rfl; rwa [Nat.mul_one, Nat.add_zero] at hq, l0, g0⟩
structure S73 where
 f0 : Int
 f1 : Int
 f2 : Int
 f3 : Int
def z73 : S73 := ⟨(0 : Int), (0 : Int), (0 : Int), (0 : Int)⟩
def k73 : Kd S73 := Kd.iso (Kd.pair (Kd.int .i64) (Kd.pair (Kd.int .i64) (Kd.pair (Kd.int .i64) (Kd.int .i64)))) (fun x : S73 => (x.f0, x.f1, x.f2, x.f3))
theorem k73_open {w : World} {x : S73} {cs : List Value} (h : k73.K w x cs) : cs = [.int .i64 x.f0, .int .i64 x.f1, .int .i64 x.f2, .int .i64 x.f3] := by
 obtain ⟨_, _, rfl, rfl, ⟨_, _, rfl, rfl, ⟨_, _, rfl, rfl, rfl⟩⟩⟩ := h
 exact rfl
theorem k73_mkM (w : World) (base : Nat) (ok : Nat → Prop) (x : S73)  : k73.M w base ok x [.int .i64 x.f0, .int .i64 x.f1, .int .i64 x.f2, .int .i64 x.f3] := ⟨[.int .i64 x.f0], [.int .i64 x.f1, .int .i64 x.f2, .int .i64 x.f3], rfl, rfl, ⟨[.int .i64 x.f1], [.int .i64 x.f2, .int .i64 x.f3], rfl, rfl, ⟨[.int .i64 x.f2], [.int .i64 x.f3], rfl, rfl, rfl⟩⟩⟩
def rd_T73 (xs : List S73) (i : Int) : S73 := xs.getD i.toNat z73
theorem at_T73 {w : World} {A : Option Addr} {n : Nat} {xs : List S73} (h : Kd.C k73 w A n xs) (i : Int) (h0 : 0 ≤ i) (h1 : i < n) : ∃ ad , A = some ad ∧ w.cell? (ad.add (i.toNat * 4)) = some (.int .i64 (rd_T73 xs i).f0) ∧ w.cell? ⟨(ad.add (i.toNat * 4)).block, (ad.add (i.toNat * 4)).off + 1, none⟩ = some (.int .i64 (rd_T73 xs i).f1) ∧ w.cell? ⟨(ad.add (i.toNat * 4)).block, (ad.add (i.toNat * 4)).off + 2, none⟩ = some (.int .i64 (rd_T73 xs i).f2) ∧ w.cell? ⟨(ad.add (i.toNat * 4)).block, (ad.add (i.toNat * 4)).off + 3, none⟩ = some (.int .i64 (rd_T73 xs i).f3) := by
 obtain ⟨ad, c, e, _, hK, hc0⟩ := Kd.C_get h z73 i h0 h1
 have hc : ∀ j u, c[j]? = some u → w.cell? (ad.add (i.toNat * 4 + j)) = some u := hc0
 obtain rfl := k73_open hK
 exact ⟨ad, e, hc 0 _ rfl, by rw [← add_field _ _ 1 (by omega)]; exact hc 1 _ rfl, by rw [← add_field _ _ 2 (by omega)]; exact hc 2 _ rfl, by rw [← add_field _ _ 3 (by omega)]; exact hc 3 _ rfl⟩
structure S68 where
 f0 : Bool
 f1 : Int
 f2 : Int
 f3 : Int
def z68 : S68 := ⟨false, (0 : Int), (0 : Int), (0 : Int)⟩
def k68 : Kd S68 := Kd.iso (Kd.pair Kd.bool (Kd.pair (Kd.int .i64) (Kd.pair (Kd.int .i64) (Kd.int .i64)))) (fun x : S68 => (x.f0, x.f1, x.f2, x.f3))
theorem k68_open {w : World} {x : S68} {cs : List Value} (h : k68.K w x cs) : cs = [.bool x.f0, .int .i64 x.f1, .int .i64 x.f2, .int .i64 x.f3] := by
 obtain ⟨_, _, rfl, rfl, ⟨_, _, rfl, rfl, ⟨_, _, rfl, rfl, rfl⟩⟩⟩ := h
 exact rfl
theorem k68_openM {w : World} {base : Nat} {ok : Nat → Prop} {x : S68} {cs : List Value} (h : k68.M w base ok x cs) : cs = [.bool x.f0, .int .i64 x.f1, .int .i64 x.f2, .int .i64 x.f3] := by
 obtain ⟨_, _, rfl, rfl, ⟨_, _, rfl, rfl, ⟨_, _, rfl, rfl, rfl⟩⟩⟩ := h
 exact rfl
theorem k68_mkM (w : World) (base : Nat) (ok : Nat → Prop) (x : S68)  : k68.M w base ok x [.bool x.f0, .int .i64 x.f1, .int .i64 x.f2, .int .i64 x.f3] := ⟨[.bool x.f0], [.int .i64 x.f1, .int .i64 x.f2, .int .i64 x.f3], rfl, rfl, ⟨[.int .i64 x.f1], [.int .i64 x.f2, .int .i64 x.f3], rfl, rfl, ⟨[.int .i64 x.f2], [.int .i64 x.f3], rfl, rfl, rfl⟩⟩⟩
def rd_T68 (xs : List S68) (i : Int) : S68 := xs.getD i.toNat z68
theorem at_T68 {w : World} {A : Option Addr} {n : Nat} {xs : List S68} (h : Kd.C k68 w A n xs) (i : Int) (h0 : 0 ≤ i) (h1 : i < n) : ∃ ad , A = some ad ∧ w.cell? (ad.add (i.toNat * 4)) = some (.bool (rd_T68 xs i).f0) ∧ w.cell? ⟨(ad.add (i.toNat * 4)).block, (ad.add (i.toNat * 4)).off + 1, none⟩ = some (.int .i64 (rd_T68 xs i).f1) ∧ w.cell? ⟨(ad.add (i.toNat * 4)).block, (ad.add (i.toNat * 4)).off + 2, none⟩ = some (.int .i64 (rd_T68 xs i).f2) ∧ w.cell? ⟨(ad.add (i.toNat * 4)).block, (ad.add (i.toNat * 4)).off + 3, none⟩ = some (.int .i64 (rd_T68 xs i).f3) := by
 obtain ⟨ad, c, e, _, hK, hc0⟩ := Kd.C_get h z68 i h0 h1
 have hc : ∀ j u, c[j]? = some u → w.cell? (ad.add (i.toNat * 4 + j)) = some u := hc0
 obtain rfl := k68_open hK
 exact ⟨ad, e, hc 0 _ rfl, by rw [← add_field _ _ 1 (by omega)]; exact hc 1 _ rfl, by rw [← add_field _ _ 2 (by omega)]; exact hc 2 _ rfl, by rw [← add_field _ _ 3 (by omega)]; exact hc 3 _ rfl⟩
end Go.Proofs.Ytjaolkfjpnpglaa.LG
namespace Go.Proofs.Ytjaolkfjpnpglaa.LG
open Go.Proofs.Ytjaolkfjpnpglaa.PB Go.Proofs.Ytjaolkfjpnpglaa.Hd
open Go.RowKit Go.Proofs.YtjaolkfjpnpglaaW.PrintWords Go.Proofs.YtjaolkfjpnpglaaW.PrintLast Go.Proofs.YtjaolkfjpnpglaaW.PrintMore
attribute [local go_sem] max2_int min2_int max_two min_two max_three min_three max_four min_four   -- for this text's walks alone
set_option linter.unusedVariables false
set_option linter.unusedSimpArgs false
def laws_FnExactWallLongest.j0 : Nat → List ByteArray → List ByteArray → Bool → Option (Bool)
 | 0, _, _, _ => none
 | k + 1, x0, x7, x43 => if x43 = true then (some false) else ((laws_toStringS.f k x0).bind fun t294 => ((laws_eqStringS.f k x7 t294).bind fun t297 => (if t297 = true then (some true) else (some false))))
def laws_FnExactWallLongest.f (k : Nat) (l0 : List ByteArray) : Option (Bool) := (laws_szStringS.f k l0 1048576).bind fun t281 => (if t281 < 0 then (some true) else ((laws_toStringS.f k l0).bind fun t282 => ((spec_WallLongest.f k t282).bind fun bt285 => ((laws_toStringS.f k l0).bind fun t288 => ((impl_WallLongest.f t288).bind fun bt291 => (if bt291.1 = bt285.1 then (if bt291.2.1 = bt285.2.1 then (laws_FnExactWallLongest.j0 k l0 t288 (bt291.2.2 != bt285.2.2)) else (laws_FnExactWallLongest.j0 k l0 t288 true)) else (laws_FnExactWallLongest.j0 k l0 t288 true)))))))
set_option maxHeartbeats 8000000 in
set_option maxRecDepth 100000 in
theorem laws_FnExactWallLongest.calls (k : Nat) (A0 : Option Addr) (c0 : Nat) (l0 : List ByteArray) (r : Bool) (w : World) (hr0 : Kd.C Kd.string w A0 l0.length l0) (hc0 : l0.length ≤ c0) (h : laws_FnExactWallLongest.f k l0 = some r) :
  Calls Try.prog 11 #[.slice A0 l0.length c0] w fun e w' => e = .returned (.bool r) ∧ Below w.heap.size w w' := by
 have HR0 := Aside0.mk hr0
 have HC0 := Aside0.mk hc0
 clear hr0 hc0
 have HB := Aside0.mk (Below.refl w.heap.size w)
 have H : ((laws_szStringS.f k l0 1048576).bind fun t281 => (if t281 < 0 then (some true) else ((laws_toStringS.f k l0).bind fun t282 => ((spec_WallLongest.f k t282).bind fun bt285 => ((laws_toStringS.f k l0).bind fun t288 => ((impl_WallLongest.f t288).bind fun bt291 => (if bt291.1 = bt285.1 then (if bt291.2.1 = bt285.2.1 then (laws_FnExactWallLongest.j0 k l0 t288 (bt291.2.2 != bt285.2.2)) else (laws_FnExactWallLongest.j0 k l0 t288 true)) else (laws_FnExactWallLongest.j0 k l0 t288 true)))))))) = some r := h
 clear h
 replace H := Option.bind_eq_some_iff.mp H
 obtain ⟨t281, A20, H⟩ := H
 replace H : (if t281 < 0 then (some true) else ((laws_toStringS.f k l0).bind fun t282 => ((spec_WallLongest.f k t282).bind fun bt285 => ((laws_toStringS.f k l0).bind fun t288 => ((impl_WallLongest.f t288).bind fun bt291 => (if bt291.1 = bt285.1 then (if bt291.2.1 = bt285.2.1 then (laws_FnExactWallLongest.j0 k l0 t288 (bt291.2.2 != bt285.2.2)) else (laws_FnExactWallLongest.j0 k l0 t288 true)) else (laws_FnExactWallLongest.j0 k l0 t288 true))))))) = some r := H
 have A2 := Aside0.mk A20
 clear A20
 by_cases c3 : t281 < 0
 ·rw [if_pos c3] at H
  have c3b0 : decide (t281 < 0) = true := decide_eq_true c3
  clear c3
  obtain rfl := Option.some.inj H
  go_enter Try.func11, Try.ntmps11
  go_wp2_with (first | ((with_reducible refine gate_callee (f := 15) rfl ?_); refine goesL_ (some 13) rfl rfl Try.func15 (by kernel_rfl) rfl #[.slice A0 l0.length c0, .int .i64 1048576] rfl (by (try simp only [List.map_toArray, List.map_cons, List.map_nil]); first | done | rfl | (simp only [List.length_drop, List.length_take]; rfl)) ?_; (with_reducible refine (laws_szStringS.calls k _ _ l0 1048576 t281 _ ?side1 ?side2 A2.out).mono ?_); (case side1 => repeat (first | exact HR0.out | (with_reducible refine Kd.C_alloc ?_ _) | (with_reducible refine Kd.C_drewN ?_ _) | (with_reducible refine Kd.C_drew ?_))); (case side2 => exact HC0.out); rintro e w' ⟨rfl, ⟨nd, rfl⟩⟩; refine ⟨_, rfl, ?_⟩))
  go_ret
  exact ⟨by first | rfl | (simp [errW_none, errW_some] <;> rfl) | (simp [*, errW_none, errW_some] <;> rfl), by repeat (first | (with_reducible first | exact HB.out | apply below_alloc | apply pw_below_drewN | apply below_drew1) | exact HB.out)⟩
 ·rw [if_neg c3] at H
  have c3b0 : decide (t281 < 0) = false := decide_eq_false c3
  clear c3
  replace H := Option.bind_eq_some_iff.mp H
  obtain ⟨t282, A40, H⟩ := H
  replace H : ((spec_WallLongest.f k t282).bind fun bt285 => ((laws_toStringS.f k l0).bind fun t288 => ((impl_WallLongest.f t288).bind fun bt291 => (if bt291.1 = bt285.1 then (if bt291.2.1 = bt285.2.1 then (laws_FnExactWallLongest.j0 k l0 t288 (bt291.2.2 != bt285.2.2)) else (laws_FnExactWallLongest.j0 k l0 t288 true)) else (laws_FnExactWallLongest.j0 k l0 t288 true))))) = some r := H
  have A4 := Aside0.mk A40
  clear A40
  replace H := Option.bind_eq_some_iff.mp H
  obtain ⟨⟨t285, t286, t287⟩, A50, H⟩ := H
  replace H : ((laws_toStringS.f k l0).bind fun t288 => ((impl_WallLongest.f t288).bind fun bt291 => (if bt291.1 = t285 then (if bt291.2.1 = t286 then (laws_FnExactWallLongest.j0 k l0 t288 (bt291.2.2 != t287)) else (laws_FnExactWallLongest.j0 k l0 t288 true)) else (laws_FnExactWallLongest.j0 k l0 t288 true)))) = some r := H
  have A5 := Aside0.mk A50
  clear A50
  replace H := Option.bind_eq_some_iff.mp H
  obtain ⟨t288, A60, H⟩ := H
  replace H : ((impl_WallLongest.f t288).bind fun bt291 => (if bt291.1 = t285 then (if bt291.2.1 = t286 then (laws_FnExactWallLongest.j0 k l0 t288 (bt291.2.2 != t287)) else (laws_FnExactWallLongest.j0 k l0 t288 true)) else (laws_FnExactWallLongest.j0 k l0 t288 true))) = some r := H
  have A6 := Aside0.mk A60
  clear A60
  replace H := Option.bind_eq_some_iff.mp H
  obtain ⟨⟨t291, t292, t293⟩, A70, H⟩ := H
  replace H : (if t291 = t285 then (if t292 = t286 then (laws_FnExactWallLongest.j0 k l0 t288 (t293 != t287)) else (laws_FnExactWallLongest.j0 k l0 t288 true)) else (laws_FnExactWallLongest.j0 k l0 t288 true)) = some r := H
  have A7 := Aside0.mk A70
  clear A70
  have HC8 := Aside0.mk H
  clear H
  go_enter Try.func11, Try.ntmps11
  go_upto_region 8 with (first | ((with_reducible refine gate_callee (f := 15) rfl ?_); refine goesL_ (some 13) rfl rfl Try.func15 (by kernel_rfl) rfl #[.slice A0 l0.length c0, .int .i64 1048576] rfl (by (try simp only [List.map_toArray, List.map_cons, List.map_nil]); first | done | rfl | (simp only [List.length_drop, List.length_take]; rfl)) ?_; (with_reducible refine (laws_szStringS.calls k _ _ l0 1048576 t281 _ ?side1 ?side2 A2.out).mono ?_); (case side1 => repeat (first | exact HR0.out | (with_reducible refine Kd.C_alloc ?_ _) | (with_reducible refine Kd.C_drewN ?_ _) | (with_reducible refine Kd.C_drew ?_))); (case side2 => exact HC0.out); rintro e w' ⟨rfl, ⟨nd, rfl⟩⟩; refine ⟨_, rfl, ?_⟩) | ((with_reducible refine gate_callee (f := 17) rfl ?_); refine goesL_ (some 18) rfl rfl Try.func17 (by kernel_rfl) rfl #[.slice A0 l0.length c0] rfl (by (try simp only [List.map_toArray, List.map_cons, List.map_nil]); first | done | rfl | (simp only [List.length_drop, List.length_take]; rfl)) ?_; (with_reducible refine (laws_toStringS.calls k _ _ l0 t282 _ ?side1 ?side2 A4.out).mono ?_); (case side1 => repeat (first | exact HR0.out | (with_reducible refine Kd.C_alloc ?_ _) | (with_reducible refine Kd.C_drewN ?_ _) | (with_reducible refine Kd.C_drew ?_))); (case side2 => exact HC0.out); rintro e w9 ⟨v283, rfl, ho0, hb⟩; refine ⟨_, rfl, ?_⟩; have n0_ := Aside0.mk (Kd.R_lower ho0 (below_size (by repeat (first | (with_reducible first | exact HB.out | apply below_alloc | apply pw_below_drewN | apply below_drew1) | exact HB.out)))); have n1_ := Aside0.mk (below_step (by repeat (first | (with_reducible first | exact HB.out | apply below_alloc | apply pw_below_drewN | apply below_drew1) | exact HB.out)) hb); clear HB; have HO284 := n0_; have HB := n1_; clear n0_ n1_; (try clear hb); (try clear hb2); (try clear hk); (try clear hi); (try clear ho0); obtain ⟨Ao10, co10, eo10⟩ := Kd.R_slice HO284.out; subst eo10) | ((with_reducible refine gate_callee (f := 36) rfl ?_); refine goesL_ (some 19) rfl rfl Try.func36 (by kernel_rfl) rfl #[.slice Ao10 t282.length co10] rfl (by (try simp only [List.map_toArray, List.map_cons, List.map_nil]); first | done | rfl | (simp only [List.length_drop, List.length_take]; rfl)) ?_; (with_reducible refine (spec_WallLongest.calls k _ _ t282 t285 t286 t287 _ ?side1 ?side2 A5.out).mono ?_); (case side1 => repeat (first | exact (Kd.R_reads' HO284.out).2.2 | (with_reducible refine Kd.C_alloc ?_ _) | (with_reducible refine Kd.C_drewN ?_ _) | (with_reducible refine Kd.C_drew ?_))); (case side2 => exact (Kd.R_reads' HO284.out).2.1); rintro e w11 ⟨rfl, hb⟩; refine ⟨_, rfl, ?_⟩; have n0_ := Aside0.mk (Kd.R_below (by (with_reducible repeat (first | apply Kd.R_alloc | apply Kd.R_drewN | apply Kd.R_drew)); exact HO284.out) hb); have n1_ := Aside0.mk (below_step (by repeat (first | (with_reducible first | exact HB.out | apply below_alloc | apply pw_below_drewN | apply below_drew1) | exact HB.out)) hb); clear HO284; clear HB; have HO284 := n0_; have HB := n1_; clear n0_ n1_; (try clear hb); (try clear hb2); (try clear hk); (try clear hi)) | ((with_reducible refine gate_callee (f := 17) rfl ?_); refine goesL_ (some 24) rfl rfl Try.func17 (by kernel_rfl) rfl #[.slice A0 l0.length c0] rfl (by (try simp only [List.map_toArray, List.map_cons, List.map_nil]); first | done | rfl | (simp only [List.length_drop, List.length_take]; rfl)) ?_; (with_reducible refine (laws_toStringS.calls k _ _ l0 t288 _ ?side1 ?side2 A6.out).mono ?_); (case side1 => repeat (first | exact (Kd.C_below HR0.out HB.out) | (with_reducible refine Kd.C_alloc ?_ _) | (with_reducible refine Kd.C_drewN ?_ _) | (with_reducible refine Kd.C_drew ?_))); (case side2 => exact HC0.out); rintro e w12 ⟨v289, rfl, ho0, hb⟩; refine ⟨_, rfl, ?_⟩; have n0_ := Aside0.mk (Kd.R_elder' (by (with_reducible repeat (first | apply Kd.R_alloc | apply Kd.R_drewN | apply Kd.R_drew)); exact HO284.out) (Kd.R_base ho0) hb); have n1_ := Aside0.mk (Kd.R_lower (Kd.R_new' ho0 (Kd.R_lt (by (with_reducible repeat (first | apply Kd.R_alloc | apply Kd.R_drewN | apply Kd.R_drew)); exact HO284.out))) (below_size (by repeat (first | (with_reducible first | exact HB.out | apply below_alloc | apply pw_below_drewN | apply below_drew1) | exact HB.out)))); have n2_ := Aside0.mk (below_step (by repeat (first | (with_reducible first | exact HB.out | apply below_alloc | apply pw_below_drewN | apply below_drew1) | exact HB.out)) hb); clear HO284; clear HB; have HO284 := n0_; have HO290 := n1_; have HB := n2_; clear n0_ n1_ n2_; (try clear hb); (try clear hb2); (try clear hk); (try clear hi); (try clear ho0); obtain ⟨Ao13, co13, eo13⟩ := Kd.R_slice HO290.out; subst eo13) | ((with_reducible refine gate_callee (f := 37) rfl ?_); refine goesL_ (some 27) rfl rfl Try.func37 (by kernel_rfl) rfl #[.slice Ao13 t288.length co13] rfl (by (try simp only [List.map_toArray, List.map_cons, List.map_nil]); first | done | rfl | (simp only [List.length_drop, List.length_take]; rfl)) ?_; (with_reducible refine (impl_WallLongest.calls _ _ t288 t291 t292 t293 _ ?side1 ?side2 A7.out).mono ?_); (case side1 => repeat (first | exact (Kd.R_reads' HO290.out).2.2 | (with_reducible refine Kd.C_alloc ?_ _) | (with_reducible refine Kd.C_drewN ?_ _) | (with_reducible refine Kd.C_drew ?_))); (case side2 => exact (Kd.R_reads' HO290.out).2.1); rintro e w14 ⟨rfl, hb⟩; refine ⟨_, rfl, ?_⟩; have n0_ := Aside0.mk (Kd.R_below (by (with_reducible repeat (first | apply Kd.R_alloc | apply Kd.R_drewN | apply Kd.R_drew)); exact HO284.out) hb); have n1_ := Aside0.mk (Kd.R_below (by (with_reducible repeat (first | apply Kd.R_alloc | apply Kd.R_drewN | apply Kd.R_drew)); exact HO290.out) hb); have n2_ := Aside0.mk (below_step (by repeat (first | (with_reducible first | exact HB.out | apply below_alloc | apply pw_below_drewN | apply below_drew1) | exact HB.out)) hb); clear HO284; clear HO290; clear HB; have HO284 := n0_; have HO290 := n1_; have HB := n2_; clear n0_ n1_ n2_; (try clear hb); (try clear hb2); (try clear hk); (try clear hi)))
  (try simp only [Act.put, List.setIfInBounds_toArray, List.set_cons_zero, List.set_cons_succ])
  go_cut [43] (fun v43 wc => ∃ (kq : Nat) (x43_7 : Bool), v43 = .bool x43_7 ∧ Aside0 (laws_FnExactWallLongest.j0 kq l0 t288 x43_7 = some r) ∧ Aside0 (kq ≤ k) ∧ Aside0 (Kd.R Kd.string 9 wc w.heap.size (fun _ => True) (.slice Ao13 t288.length co13) t288) ∧ Aside0 (Below w.heap.size w wc))
  case first =>
   have H := HC8.out
   clear HC8
   by_cases c15 : t291 = t285
   ·rw [if_pos c15] at H
    have c15b0 : (t291 == t285) = true := beq_iff_eq.mpr c15
    have c15b1 : (t291 != t285) = false := bne_eq_false_iff_eq.mpr c15
    clear c15
    (first | rw [c15b0] | (simp only [i64_w, i32_w]; rw [c15b0]) | skip)
    by_cases c16 : t292 = t286
    ·rw [if_pos c16] at H
     have c16b0 : (t292 == t286) = true := beq_iff_eq.mpr c16
     have c16b1 : (t292 != t286) = false := bne_eq_false_iff_eq.mpr c16
     clear c16
     have H' := Aside0.mk H
     clear H
     go_wp2
     go_meet
     case rel => exact ⟨_, ((t293 != t287)), (by first | rfl | (simp; done) | (simp [*]; done)), H', ⟨by first | omega | exact Nat.le_refl _⟩, ⟨by (with_reducible repeat (first | apply Kd.R_alloc | apply Kd.R_drewN | apply Kd.R_drew)); exact Kd.R_mono HO290.out (fun _ hk => trivial)⟩, ⟨by repeat (first | (with_reducible first | exact HB.out | apply below_alloc | apply pw_below_drewN | apply below_drew1) | exact HB.out)⟩⟩
    ·rw [if_neg c16] at H
     have c16b0 : (t292 == t286) = false := beq_eq_false_iff_ne.mpr c16
     have c16b1 : (t292 != t286) = true := bne_iff_ne.mpr c16
     have H' := Aside0.mk H
     clear H
     go_wp2
     go_meet
     case rel => exact ⟨_, (true), (by first | rfl | (simp; done) | (simp [*]; done)), H', ⟨by first | omega | exact Nat.le_refl _⟩, ⟨by (with_reducible repeat (first | apply Kd.R_alloc | apply Kd.R_drewN | apply Kd.R_drew)); exact Kd.R_mono HO290.out (fun _ hk => trivial)⟩, ⟨by repeat (first | (with_reducible first | exact HB.out | apply below_alloc | apply pw_below_drewN | apply below_drew1) | exact HB.out)⟩⟩
   ·rw [if_neg c15] at H
    have c15b0 : (t291 == t285) = false := beq_eq_false_iff_ne.mpr c15
    have c15b1 : (t291 != t285) = true := bne_iff_ne.mpr c15
    (first | rw [c15b0] | (simp only [i64_w, i32_w]; rw [c15b0]) | skip)
    have H' := Aside0.mk H
    clear H
    go_wp2
    go_meet
    case rel => exact ⟨_, (true), (by first | rfl | (simp; done) | (simp [*]; done)), H', ⟨by first | omega | exact Nat.le_refl _⟩, ⟨by (with_reducible repeat (first | apply Kd.R_alloc | apply Kd.R_drewN | apply Kd.R_drew)); exact Kd.R_mono HO290.out (fun _ hk => trivial)⟩, ⟨by repeat (first | (with_reducible first | exact HB.out | apply below_alloc | apply pw_below_drewN | apply below_drew1) | exact HB.out)⟩⟩
  case rest =>
   clear HC8
   try clear c1
   try clear p2
   try clear c3
   try clear c3b0
   try clear c11
   try clear c15
   try clear c15b0
   try clear c15b1
   try clear c16
   try clear c16b0
   try clear c16b1
   obtain ⟨kq, x43_7, rfl, HA, HJ7, HO_7, HB⟩ := hcut
   cases kq with
   | zero => exact absurd HA.out (by simp [laws_FnExactWallLongest.j0])
   | succ kj7 =>
    have H := HA.out
    clear HA
    simp only [laws_FnExactWallLongest.j0] at H
    by_cases c17 : x43_7 = true
    ·subst c17
     have H1 : (some false) = some r := by rw [if_pos rfl] at H; exact H
     clear H
     have H := H1
     clear H1
     obtain rfl := Option.some.inj H
     go_wp2
     go_ret
     exact ⟨by first | rfl | (simp [errW_none, errW_some] <;> rfl) | (simp [*, errW_none, errW_some] <;> rfl), by repeat (first | (with_reducible first | exact HB.out | apply below_alloc | apply pw_below_drewN | apply below_drew1) | exact HB.out)⟩
    ·replace c17 := Bool.eq_false_iff.mpr c17
     subst c17
     have H1 : ((laws_toStringS.f kj7 l0).bind fun t294 => ((laws_eqStringS.f kj7 t288 t294).bind fun t297 => (if t297 = true then (some true) else (some false)))) = some r := by rw [if_neg (show ¬ (false = true) by decide)] at H; exact H
     clear H
     have H := H1
     clear H1
     replace H := Option.bind_eq_some_iff.mp H
     obtain ⟨t294, A180, H⟩ := H
     replace H : ((laws_eqStringS.f kj7 t288 t294).bind fun t297 => (if t297 = true then (some true) else (some false))) = some r := H
     have A18 := Aside0.mk A180
     clear A180
     replace H := Option.bind_eq_some_iff.mp H
     obtain ⟨t297, A190, H⟩ := H
     replace H : (if t297 = true then (some true) else (some false)) = some r := H
     have A19 := Aside0.mk A190
     clear A190
     by_cases c20 : t297 = true
     ·subst c20
      have H1 : (some true) = some r := by rw [if_pos rfl] at H; exact H
      clear H
      have H := H1
      clear H1
      obtain rfl := Option.some.inj H
      go_wp2_with (first | ((with_reducible refine gate_callee (f := 17) rfl ?_); refine goesL_ (some 46) rfl rfl Try.func17 (by kernel_rfl) rfl #[.slice A0 l0.length c0] rfl (by (try simp only [List.map_toArray, List.map_cons, List.map_nil]); first | done | rfl | (simp only [List.length_drop, List.length_take]; rfl)) ?_; (with_reducible refine (laws_toStringS.calls kj7 _ _ l0 t294 _ ?side1 ?side2 A18.out).mono ?_); (case side1 => repeat (first | exact (Kd.C_below HR0.out HB.out) | (with_reducible refine Kd.C_alloc ?_ _) | (with_reducible refine Kd.C_drewN ?_ _) | (with_reducible refine Kd.C_drew ?_))); (case side2 => exact HC0.out); rintro e w21 ⟨v295, rfl, ho0, hb⟩; refine ⟨_, rfl, ?_⟩; have n0_ := Aside0.mk (Kd.R_elder' (by (with_reducible repeat (first | apply Kd.R_alloc | apply Kd.R_drewN | apply Kd.R_drew)); exact HO_7.out) (Kd.R_base ho0) hb); have n1_ := Aside0.mk (Kd.R_lower (Kd.R_new' ho0 (Kd.R_lt (by (with_reducible repeat (first | apply Kd.R_alloc | apply Kd.R_drewN | apply Kd.R_drew)); exact HO_7.out))) (below_size (by repeat (first | (with_reducible first | exact HB.out | apply below_alloc | apply pw_below_drewN | apply below_drew1) | exact HB.out)))); have n2_ := Aside0.mk (below_step (by repeat (first | (with_reducible first | exact HB.out | apply below_alloc | apply pw_below_drewN | apply below_drew1) | exact HB.out)) hb); clear HO_7; clear HB; have HO_7 := n0_; have HO296 := n1_; have HB := n2_; clear n0_ n1_ n2_; (try clear hb); (try clear hb2); (try clear hk); (try clear hi); (try clear ho0); obtain ⟨Ao22, co22, eo22⟩ := Kd.R_slice HO296.out; subst eo22) | ((with_reducible refine gate_callee (f := 19) rfl ?_); refine goesL_ (some 47) rfl rfl Try.func19 (by kernel_rfl) rfl #[.slice Ao13 t288.length co13, .slice Ao22 t294.length co22] rfl (by (try simp only [List.map_toArray, List.map_cons, List.map_nil]); first | done | rfl | (simp only [List.length_drop, List.length_take]; rfl)) ?_; (with_reducible refine (laws_eqStringS.calls kj7 _ _ t288 _ _ t294 true _ ?side1 ?side2 ?side3 ?side4 A19.out).mono ?_); (case side1 => repeat (first | exact (Kd.R_reads' HO_7.out).2.2 | (with_reducible refine Kd.C_alloc ?_ _) | (with_reducible refine Kd.C_drewN ?_ _) | (with_reducible refine Kd.C_drew ?_))); (case side2 => exact (Kd.R_reads' HO_7.out).2.1); (case side3 => repeat (first | exact (Kd.R_reads' HO296.out).2.2 | (with_reducible refine Kd.C_alloc ?_ _) | (with_reducible refine Kd.C_drewN ?_ _) | (with_reducible refine Kd.C_drew ?_))); (case side4 => exact (Kd.R_reads' HO296.out).2.1); rintro e w' ⟨rfl, ⟨nd, rfl⟩⟩; refine ⟨_, rfl, ?_⟩))
      go_ret
      exact ⟨by first | rfl | (simp [errW_none, errW_some] <;> rfl) | (simp [*, errW_none, errW_some] <;> rfl), by repeat (first | (with_reducible first | exact HB.out | apply below_alloc | apply pw_below_drewN | apply below_drew1) | exact HB.out)⟩
     ·replace c20 := Bool.eq_false_iff.mpr c20
      subst c20
      have H1 : (some false) = some r := by rw [if_neg (show ¬ (false = true) by decide)] at H; exact H
      clear H
      have H := H1
      clear H1
      obtain rfl := Option.some.inj H
      go_wp2_with (first | ((with_reducible refine gate_callee (f := 17) rfl ?_); refine goesL_ (some 46) rfl rfl Try.func17 (by kernel_rfl) rfl #[.slice A0 l0.length c0] rfl (by (try simp only [List.map_toArray, List.map_cons, List.map_nil]); first | done | rfl | (simp only [List.length_drop, List.length_take]; rfl)) ?_; (with_reducible refine (laws_toStringS.calls kj7 _ _ l0 t294 _ ?side1 ?side2 A18.out).mono ?_); (case side1 => repeat (first | exact (Kd.C_below HR0.out HB.out) | (with_reducible refine Kd.C_alloc ?_ _) | (with_reducible refine Kd.C_drewN ?_ _) | (with_reducible refine Kd.C_drew ?_))); (case side2 => exact HC0.out); rintro e w23 ⟨v295, rfl, ho0, hb⟩; refine ⟨_, rfl, ?_⟩; have n0_ := Aside0.mk (Kd.R_elder' (by (with_reducible repeat (first | apply Kd.R_alloc | apply Kd.R_drewN | apply Kd.R_drew)); exact HO_7.out) (Kd.R_base ho0) hb); have n1_ := Aside0.mk (Kd.R_lower (Kd.R_new' ho0 (Kd.R_lt (by (with_reducible repeat (first | apply Kd.R_alloc | apply Kd.R_drewN | apply Kd.R_drew)); exact HO_7.out))) (below_size (by repeat (first | (with_reducible first | exact HB.out | apply below_alloc | apply pw_below_drewN | apply below_drew1) | exact HB.out)))); have n2_ := Aside0.mk (below_step (by repeat (first | (with_reducible first | exact HB.out | apply below_alloc | apply pw_below_drewN | apply below_drew1) | exact HB.out)) hb); clear HO_7; clear HB; have HO_7 := n0_; have HO296 := n1_; have HB := n2_; clear n0_ n1_ n2_; (try clear hb); (try clear hb2); (try clear hk); (try clear hi); (try clear ho0); obtain ⟨Ao24, co24, eo24⟩ := Kd.R_slice HO296.out; subst eo24) | ((with_reducible refine gate_callee (f := 19) rfl ?_); refine goesL_ (some 47) rfl rfl Try.func19 (by kernel_rfl) rfl #[.slice Ao13 t288.length co13, .slice Ao24 t294.length co24] rfl (by (try simp only [List.map_toArray, List.map_cons, List.map_nil]); first | done | rfl | (simp only [List.length_drop, List.length_take]; rfl)) ?_; (with_reducible refine (laws_eqStringS.calls kj7 _ _ t288 _ _ t294 false _ ?side1 ?side2 ?side3 ?side4 A19.out).mono ?_); (case side1 => repeat (first | exact (Kd.R_reads' HO_7.out).2.2 | (with_reducible refine Kd.C_alloc ?_ _) | (with_reducible refine Kd.C_drewN ?_ _) | (with_reducible refine Kd.C_drew ?_))); (case side2 => exact (Kd.R_reads' HO_7.out).2.1); (case side3 => repeat (first | exact (Kd.R_reads' HO296.out).2.2 | (with_reducible refine Kd.C_alloc ?_ _) | (with_reducible refine Kd.C_drewN ?_ _) | (with_reducible refine Kd.C_drew ?_))); (case side4 => exact (Kd.R_reads' HO296.out).2.1); rintro e w' ⟨rfl, ⟨nd, rfl⟩⟩; refine ⟨_, rfl, ?_⟩))
      go_ret
      exact ⟨by first | rfl | (simp [errW_none, errW_some] <;> rfl) | (simp [*, errW_none, errW_some] <;> rfl), by repeat (first | (with_reducible first | exact HB.out | apply below_alloc | apply pw_below_drewN | apply below_drew1) | exact HB.out)⟩
end Go.Proofs.Ytjaolkfjpnpglaa.LG
namespace Go.Proofs.Ytjaolkfjpnpglaa.LG
open Go.RowKit Go.Proofs.YtjaolkfjpnpglaaW.PrintWords Go.Proofs.YtjaolkfjpnpglaaW.PrintLast Go.Proofs.YtjaolkfjpnpglaaW.PrintMore Go.Proofs.Ytjaolkfjpnpglaa.PB Go.Proofs.Ytjaolkfjpnpglaa.Hd
set_option linter.unusedVariables false
set_option linter.unusedSimpArgs false
theorem laws_FnExactWallLongest.j0_eq (k : Nat) (x0 : List ByteArray) (x7 : List ByteArray) (x43 : Bool) : laws_FnExactWallLongest.j0 (k + 1) x0 x7 x43 = (if x43 = true then (some false) else ((laws_toStringS.f k x0).bind fun t294 => ((laws_eqStringS.f k x7 t294).bind fun t297 => (if t297 = true then (some true) else (some false))))) := by simp only [laws_FnExactWallLongest.j0]
theorem impl_res (l0 : List ByteArray) (hs_l0 : smallP l0) : impl_WallLongest.f l0 = some (wallLongestF l0) := by
 unfold impl_WallLongest.f
 rw [if_pos ((smallB_iff _).2 hs_l0)]
theorem law_ev (l0 : List ByteArray) (hf_l0 : fits l0) : Evs (fun k => laws_FnExactWallLongest.f k l0) true := by
 unfold laws_FnExactWallLongest.f
 obtain ⟨v0, e0, h0⟩ := sz_ev l0 hf_l0 1048576 (by omega) (by omega)
 refine Evs.bind e0 ?_
 rcases h0 with h0 | ⟨hs_l0, g0, k0⟩
 ·exact Evs.pos h0 (Evs.const _)
 refine Evs.neg (by omega) ?_
 have hi := impl_res l0 hs_l0
 refine Evs.bind (toS_ev l0 hs_l0.1) (Evs.bind (WallLongest_ev l0 hs_l0) (Evs.bind (toS_ev l0 hs_l0.1) (Evs.bindS hi ?_)))
 try dsimp only
 try simp only [if_true, bne_self_eq_false, eq_self_iff_true]
 refine Evs.step (fun k => laws_FnExactWallLongest.j0_eq k _ _ _) ?_
 refine Evs.neg (by simp) ?_
 exact Evs.bind (toS_ev l0 hs_l0.1) (Evs.bind (eqS_same l0 hs_l0.1) (Evs.pos rfl (Evs.const _)))
end Go.Proofs.Ytjaolkfjpnpglaa.LG
