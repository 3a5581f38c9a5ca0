/- Part 5 of the proof of FnExactCutFirst: what the program's functions and the reference's compute. -/
import Derived.Test.YtoijjkhdfooapaaProg
import Derived.Below
import Derived.Deep.Draws
import Derived.Deep.AppendLies
import Derived.Maps.AppendAt
import Derived.OwnWalk
import Derived.Laws.BytesArg
import Derived.Laws.MakeOwn
import Derived.Laws.OwnMore
import Derived.Deep.OwnRows
import Derived.Tactics
import Derived.Lib.ConvBytes
import Derived.Laws.Slices
import Derived.WalkKit
import Derived.KernelRfl
import Derived.RowKit3
import Derived.Deep.LoopGhost
import Derived.Deep.QuietTactic
import Derived.BigQuiet
import Derived.WideLaws
import Derived.Deep.DeepCutAuto
import Derived.Deep.CutBlock
import Derived.Deep.RegionHeld3
import Derived.Laws.Rows
import Derived.Lib.AppendStr
import Derived.ArgAppend
import Derived.Laws.IdiomCopy
import Derived.OrdersHeld
import Derived.Laws.BitsLemmas
import Derived.RowKit
import Derived.Test.YtoijjkhdfooapaaCCFd
namespace Go.Proofs.Ytoijjkhdfooapaa.PB
open Go.RowKit Go.Proofs.YtoijjkhdfooapaaW.PrintWords Go.Proofs.YtoijjkhdfooapaaW.PrintLast Go.Proofs.YtoijjkhdfooapaaW.PrintMore
attribute [local go_sem] max2_int min2_int max_two min_two max_three min_three max_four min_four   -- for this text's walks alone
set_option linter.unusedVariables false
set_option linter.unusedSimpArgs false
def impl_floor_end.f (s0_0 : List (List Int)) (s0_1 : List (S87)) (a1_0 : Bool) (a1_1 : Int) (a1_2 : Int) (a1_3 : Int) : Option (Int) := if a1_0 = true then ((impl_floor_wide.f s0_0 s0_1).bind fun t281 => (some t281)) else ((impl_floor_high.f s0_0 s0_1).bind fun t282 => (some t282))
set_option maxHeartbeats 8000000 in
set_option maxRecDepth 100000 in
theorem impl_floor_end.calls (g : Nat) (s0_0 : List (List Int)) (s0_1 : List (S87)) (a1_0 : Bool) (a1_1 : Int) (a1_2 : Int) (a1_3 : Int) (r : Int) (w0 w : World) (hI : IsS70 w0 w g s0_0 s0_1) (hB : Below w0.heap.size w0 w) (h : impl_floor_end.f s0_0 s0_1 a1_0 a1_1 a1_2 a1_3 = some r) :
  Calls Try.prog 92 #[.pointer (some ⟨g, 0, none⟩), .agg #[.bool a1_0, .int .i64 a1_1, .int .i64 a1_2, .int .i64 a1_3]] w fun e w' => e = .returned (.int .i64 r) ∧ IsS70 w0 w' g s0_0 s0_1 ∧ Below w0.heap.size w0 w' ∧ KeepBut w w' g none := by
 have hu60 := Try.underlying60
 have HI0 := Aside0.mk hI
 have HK := Aside0.mk (KeepBut.refl w g none)
 have HL := Aside0.mk hB.size
 clear hI
 have HW0 := Aside0.mk hB.size
 have HB := Aside0.mk hB
 clear hB
 have H : (if a1_0 = true then ((impl_floor_wide.f s0_0 s0_1).bind fun t281 => (some t281)) else ((impl_floor_high.f s0_0 s0_1).bind fun t282 => (some t282))) = some r := h
 clear h
 by_cases c3 : a1_0 = true
 ·subst c3
  have H1 : ((impl_floor_wide.f s0_0 s0_1).bind fun t281 => (some t281)) = some r := by rw [if_pos rfl] at H; exact H
  clear H
  have H := H1
  clear H1
  replace H := Option.bind_eq_some_iff.mp H
  obtain ⟨t281, A40, H⟩ := H
  replace H : (some t281) = some r := H
  have A4 := Aside0.mk A40
  clear A40
  obtain rfl := Option.some.inj H
  go_enter Try.func92, Try.ntmps92
  go_wp2_with (first | ((with_reducible refine gate_dst (N := 3) rfl ?_); refine box_event ?hg (N := 3) ?hd (cs := #[.bool true, .int .i64 a1_1, .int .i64 a1_2, .int .i64 a1_3]) (t := 60) ?hr ?_; (case hd => rfl); (case hg => rfl); (case hr => first | (go_simp; done) | (go_simp; rfl)); intro gb280 hg w5 hbox hb; have n0_ := Aside0.mk (IsS70.below (by repeat (first | (with_reducible first | exact HI0.out | apply IsS70.alloc | apply IsS70.drewN | apply IsS70.drew) | exact HI0.out)) hb); have n1_ := Aside0.mk (KeepBut.trans (by repeat (first | (with_reducible first | exact HK.out | apply KeepBut.set_ | apply keep_drewN | apply keep_drew | apply keep_alloc) | exact HK.out)) (KeepBut.of_below hb g none) (.inl rfl)); have n2_ := Aside0.mk (below_step (by repeat (first | (with_reducible first | exact HB.out | apply below_alloc | apply pw_below_drewN | apply below_drew1 | refine below_set ?_ (IsS70.ge HI0.out)) | exact HB.out)) hb); have n3_ := Aside0.mk (hbox); have n4_ := Aside0.mk ((by rw [hg]; exact (keep_size (w := w) (g := g) (row := none) (by repeat (first | (with_reducible first | exact HK.out | apply KeepBut.set_ | apply keep_drewN | apply keep_drew | apply keep_alloc) | exact HK.out))) : w.heap.size ≤ gb280)); have n5_ := Aside0.mk ((Nat.le_trans HW0.out (by rw [hg]; exact (keep_size (w := w) (g := g) (row := none) (by repeat (first | (with_reducible first | exact HK.out | apply KeepBut.set_ | apply keep_drewN | apply keep_drew | apply keep_alloc) | exact HK.out))) : w.heap.size ≤ gb280) : w0.heap.size ≤ gb280)); have n6_ := Aside0.mk ((by rw [hg]; exact Nat.ne_of_lt (IsS70.lt (show IsS70 w0 _ g s0_0 s0_1 from by repeat (first | (with_reducible first | exact HI0.out | apply IsS70.alloc | apply IsS70.drewN | apply IsS70.drew) | exact HI0.out))) : g ≠ gb280)); have n7_ := Aside0.mk ((by rw [hg]; exact Nat.ne_of_gt (IsS70.lt (show IsS70 w0 _ g s0_0 s0_1 from by repeat (first | (with_reducible first | exact HI0.out | apply IsS70.alloc | apply IsS70.drewN | apply IsS70.drew) | exact HI0.out))) : gb280 ≠ g)); clear HI0; clear HK; clear HB; have HI0 := n0_; have HK := n1_; have HB := n2_; have BK280 := n3_; have GW280 := n4_; have GE280 := n5_; have NB0_280 := n6_; have NB280_0 := n7_; clear n0_ n1_ n2_ n3_ n4_ n5_ n6_ n7_; clear hb hbox hg; have hnb6 := NB280_0.out; have hnc6 := NB0_280.out; have hcz7_0 : w5.cell? ⟨gb280, 0, none⟩ = some (.bool true) := (blk_cell BK280.out 0).trans rfl; have hcz7_1 : w5.cell? ⟨gb280, 1, none⟩ = some (.int .i64 a1_1) := (blk_cell BK280.out 1).trans rfl; have hcz7_2 : w5.cell? ⟨gb280, 2, none⟩ = some (.int .i64 a1_2) := (blk_cell BK280.out 2).trans rfl; have hcz7_3 : w5.cell? ⟨gb280, 3, none⟩ = some (.int .i64 a1_3) := (blk_cell BK280.out 3).trans rfl; have hfz7_0 := blk_frozen BK280.out 0; have hfz7_1 := blk_frozen BK280.out 1; have hfz7_2 := blk_frozen BK280.out 2; have hfz7_3 := blk_frozen BK280.out 3) | ((with_reducible refine gate_callee (f := 65) rfl ?_); refine goesL_ (some 8) rfl rfl Try.func65 (by kernel_rfl) rfl #[.pointer (some ⟨g, 0, none⟩)] rfl (by (try simp only [List.map_toArray, List.map_cons, List.map_nil]); first | done | rfl | (simp only [List.length_drop, List.length_take]; rfl)) ?_; (with_reducible refine (impl_floor_wide.calls g s0_0 s0_1 t281 w0 _ ?side1 ?side2 A4.out).mono ?_); (case side1 => repeat (first | (with_reducible first | exact HI0.out | apply IsS70.alloc | apply IsS70.drewN | apply IsS70.drew | refine IsS70.far ?_ NB0_280.out _) | exact HI0.out)); (case side2 => repeat (first | (with_reducible first | exact HB.out | apply below_alloc | apply pw_below_drewN | apply below_drew1 | refine below_set ?_ (IsS70.ge HI0.out) | refine below_set ?_ GE280.out) | exact HB.out)); rintro e w8 ⟨rfl, hi, hb, hk⟩; refine ⟨_, rfl, ?_⟩; have n0_ := Aside0.mk (KeepBut.blk hk (g' := gb280) (o := .cells #[.bool true, .int .i64 a1_1, .int .i64 a1_2, .int .i64 a1_3] 60 (0, 0)) (by (with_reducible repeat (first | refine blk_drewN ?_ _ | refine blk_drew ?_ | refine blk_alloc ?_ _)); exact BK280.out) NB280_0.out (by simp)); have n1_ := Aside0.mk (KeepBut.trans (by repeat (first | (with_reducible first | exact HK.out | apply KeepBut.set_ | apply keep_drewN | apply keep_drew | apply keep_alloc | refine keep_far ?_ GW280.out _) | exact HK.out)) hk (.inl rfl)); have n2_ := Aside0.mk (hb); have n3_ := Aside0.mk (hi); clear BK280; clear HK; clear HB; clear HI0; have BK280 := n0_; have HK := n1_; have HB := n2_; have HI0 := n3_; clear n0_ n1_ n2_ n3_; (try clear hb); (try clear hb2); (try clear hk); (try clear hi)))
  go_ret
  exact ⟨by first | rfl | (simp [errW_none, errW_some] <;> rfl) | (simp [*, errW_none, errW_some] <;> rfl), by repeat (first | (with_reducible first | exact HI0.out | apply IsS70.alloc | apply IsS70.drewN | apply IsS70.drew | refine IsS70.far ?_ NB0_280.out _) | exact HI0.out), by repeat (first | (with_reducible first | exact HB.out | apply below_alloc | apply pw_below_drewN | apply below_drew1 | refine below_set ?_ (IsS70.ge HI0.out) | refine below_set ?_ GE280.out) | exact HB.out), by repeat (first | (with_reducible first | exact HK.out | apply KeepBut.set_ | apply keep_drewN | apply keep_drew | apply keep_alloc | refine keep_far ?_ GW280.out _) | exact HK.out)⟩
 ·replace c3 := Bool.eq_false_iff.mpr c3
  subst c3
  have H1 : ((impl_floor_high.f s0_0 s0_1).bind fun t282 => (some t282)) = some r := by rw [if_neg (show ¬ (false = true) by decide)] at H; exact H
  clear H
  have H := H1
  clear H1
  replace H := Option.bind_eq_some_iff.mp H
  obtain ⟨t282, A90, H⟩ := H
  replace H : (some t282) = some r := H
  have A9 := Aside0.mk A90
  clear A90
  obtain rfl := Option.some.inj H
  go_enter Try.func92, Try.ntmps92
  go_wp2_with (first | ((with_reducible refine gate_dst (N := 3) rfl ?_); refine box_event ?hg (N := 3) ?hd (cs := #[.bool false, .int .i64 a1_1, .int .i64 a1_2, .int .i64 a1_3]) (t := 60) ?hr ?_; (case hd => rfl); (case hg => rfl); (case hr => first | (go_simp; done) | (go_simp; rfl)); intro gb280 hg w10 hbox hb; have n0_ := Aside0.mk (IsS70.below (by repeat (first | (with_reducible first | exact HI0.out | apply IsS70.alloc | apply IsS70.drewN | apply IsS70.drew) | exact HI0.out)) hb); have n1_ := Aside0.mk (KeepBut.trans (by repeat (first | (with_reducible first | exact HK.out | apply KeepBut.set_ | apply keep_drewN | apply keep_drew | apply keep_alloc) | exact HK.out)) (KeepBut.of_below hb g none) (.inl rfl)); have n2_ := Aside0.mk (below_step (by repeat (first | (with_reducible first | exact HB.out | apply below_alloc | apply pw_below_drewN | apply below_drew1 | refine below_set ?_ (IsS70.ge HI0.out)) | exact HB.out)) hb); have n3_ := Aside0.mk (hbox); have n4_ := Aside0.mk ((by rw [hg]; exact (keep_size (w := w) (g := g) (row := none) (by repeat (first | (with_reducible first | exact HK.out | apply KeepBut.set_ | apply keep_drewN | apply keep_drew | apply keep_alloc) | exact HK.out))) : w.heap.size ≤ gb280)); have n5_ := Aside0.mk ((Nat.le_trans HW0.out (by rw [hg]; exact (keep_size (w := w) (g := g) (row := none) (by repeat (first | (with_reducible first | exact HK.out | apply KeepBut.set_ | apply keep_drewN | apply keep_drew | apply keep_alloc) | exact HK.out))) : w.heap.size ≤ gb280) : w0.heap.size ≤ gb280)); have n6_ := Aside0.mk ((by rw [hg]; exact Nat.ne_of_lt (IsS70.lt (show IsS70 w0 _ g s0_0 s0_1 from by repeat (first | (with_reducible first | exact HI0.out | apply IsS70.alloc | apply IsS70.drewN | apply IsS70.drew) | exact HI0.out))) : g ≠ gb280)); have n7_ := Aside0.mk ((by rw [hg]; exact Nat.ne_of_gt (IsS70.lt (show IsS70 w0 _ g s0_0 s0_1 from by repeat (first | (with_reducible first | exact HI0.out | apply IsS70.alloc | apply IsS70.drewN | apply IsS70.drew) | exact HI0.out))) : gb280 ≠ g)); clear HI0; clear HK; clear HB; have HI0 := n0_; have HK := n1_; have HB := n2_; have BK280 := n3_; have GW280 := n4_; have GE280 := n5_; have NB0_280 := n6_; have NB280_0 := n7_; clear n0_ n1_ n2_ n3_ n4_ n5_ n6_ n7_; clear hb hbox hg; have hnb11 := NB280_0.out; have hnc11 := NB0_280.out; have hcz12_0 : w10.cell? ⟨gb280, 0, none⟩ = some (.bool false) := (blk_cell BK280.out 0).trans rfl; have hcz12_1 : w10.cell? ⟨gb280, 1, none⟩ = some (.int .i64 a1_1) := (blk_cell BK280.out 1).trans rfl; have hcz12_2 : w10.cell? ⟨gb280, 2, none⟩ = some (.int .i64 a1_2) := (blk_cell BK280.out 2).trans rfl; have hcz12_3 : w10.cell? ⟨gb280, 3, none⟩ = some (.int .i64 a1_3) := (blk_cell BK280.out 3).trans rfl; have hfz12_0 := blk_frozen BK280.out 0; have hfz12_1 := blk_frozen BK280.out 1; have hfz12_2 := blk_frozen BK280.out 2; have hfz12_3 := blk_frozen BK280.out 3) | ((with_reducible refine gate_callee (f := 66) rfl ?_); refine goesL_ (some 10) rfl rfl Try.func66 (by kernel_rfl) rfl #[.pointer (some ⟨g, 0, none⟩)] rfl (by (try simp only [List.map_toArray, List.map_cons, List.map_nil]); first | done | rfl | (simp only [List.length_drop, List.length_take]; rfl)) ?_; (with_reducible refine (impl_floor_high.calls g s0_0 s0_1 t282 w0 _ ?side1 ?side2 A9.out).mono ?_); (case side1 => repeat (first | (with_reducible first | exact HI0.out | apply IsS70.alloc | apply IsS70.drewN | apply IsS70.drew | refine IsS70.far ?_ NB0_280.out _) | exact HI0.out)); (case side2 => repeat (first | (with_reducible first | exact HB.out | apply below_alloc | apply pw_below_drewN | apply below_drew1 | refine below_set ?_ (IsS70.ge HI0.out) | refine below_set ?_ GE280.out) | exact HB.out)); rintro e w13 ⟨rfl, hi, hb, hk⟩; refine ⟨_, rfl, ?_⟩; have n0_ := Aside0.mk (KeepBut.blk hk (g' := gb280) (o := .cells #[.bool false, .int .i64 a1_1, .int .i64 a1_2, .int .i64 a1_3] 60 (0, 0)) (by (with_reducible repeat (first | refine blk_drewN ?_ _ | refine blk_drew ?_ | refine blk_alloc ?_ _)); exact BK280.out) NB280_0.out (by simp)); have n1_ := Aside0.mk (KeepBut.trans (by repeat (first | (with_reducible first | exact HK.out | apply KeepBut.set_ | apply keep_drewN | apply keep_drew | apply keep_alloc | refine keep_far ?_ GW280.out _) | exact HK.out)) hk (.inl rfl)); have n2_ := Aside0.mk (hb); have n3_ := Aside0.mk (hi); clear BK280; clear HK; clear HB; clear HI0; have BK280 := n0_; have HK := n1_; have HB := n2_; have HI0 := n3_; clear n0_ n1_ n2_ n3_; (try clear hb); (try clear hb2); (try clear hk); (try clear hi)))
  go_ret
  exact ⟨by first | rfl | (simp [errW_none, errW_some] <;> rfl) | (simp [*, errW_none, errW_some] <;> rfl), by repeat (first | (with_reducible first | exact HI0.out | apply IsS70.alloc | apply IsS70.drewN | apply IsS70.drew | refine IsS70.far ?_ NB0_280.out _) | exact HI0.out), by repeat (first | (with_reducible first | exact HB.out | apply below_alloc | apply pw_below_drewN | apply below_drew1 | refine below_set ?_ (IsS70.ge HI0.out) | refine below_set ?_ GE280.out) | exact HB.out), by repeat (first | (with_reducible first | exact HK.out | apply KeepBut.set_ | apply keep_drewN | apply keep_drew | apply keep_alloc | refine keep_far ?_ GW280.out _) | exact HK.out)⟩
end Go.Proofs.Ytoijjkhdfooapaa.PB
namespace Go.Proofs.Ytoijjkhdfooapaa.Hd
open Go.RowKit Go.Proofs.YtoijjkhdfooapaaW.PrintWords Go.Proofs.YtoijjkhdfooapaaW.PrintLast Go.Proofs.YtoijjkhdfooapaaW.PrintMore Go.Proofs.Ytoijjkhdfooapaa.PB
set_option linter.unusedVariables false
set_option linter.unusedSimpArgs false
def endOf (cs : List (List Int)) (lv : Bool) : Int := if lv = true then (wideOf cs : Int) else (cs.length : Int)
theorem end_f {cs : List (List Int)} {rs : List Rc} (h : FloorOk cs rs) (lv : Bool) (a b c : Int) : impl_floor_end.f cs rs lv a b c = some (endOf cs lv) := by
 unfold impl_floor_end.f endOf
 cases lv with
 | true => rw [if_pos rfl, if_pos rfl, wide_f h]; rfl
 | false => rw [if_neg (by simp), if_neg (by simp), high_f]; rfl
end Go.Proofs.Ytoijjkhdfooapaa.Hd
namespace Go.Proofs.Ytoijjkhdfooapaa.PB
open Go.RowKit Go.Proofs.YtoijjkhdfooapaaW.PrintWords Go.Proofs.YtoijjkhdfooapaaW.PrintLast Go.Proofs.YtoijjkhdfooapaaW.PrintMore
attribute [local go_sem] max2_int min2_int max_two min_two max_three min_three max_four min_four   -- for this text's walks alone
set_option linter.unusedVariables false
set_option linter.unusedSimpArgs false
def impl_floor_cutting.l0 : Nat → List Int → List (S60) → Int → Int → List (List Int) → List (S87) → Option (List Int)
 | 0, _, _, _, _, _, _ => none
 | k + 1, x3, x7, x8, x9, x1000, x1001 => if x9 < x8 then (if 0 ≤ x9 then (if x9 < (x7.length : Int) then ((impl_floor_end.f x1000 x1001 ((rd_T60 x7 x9).f0) ((rd_T60 x7 x9).f1) ((rd_T60 x7 x9).f2) ((rd_T60 x7 x9).f3)).bind fun t288 => (if ((rd_T60 x7 x9).f3) = t288 then (if x3.length < 17592186044416 then (impl_floor_cutting.l0 k (x3 ++ [x9]) x7 x8 (wrap64 (x9 + 1)) x1000 x1001) else (none)) else (impl_floor_cutting.l0 k x3 x7 x8 (wrap64 (x9 + 1)) x1000 x1001))) else (none)) else (none)) else (some x3)
def impl_floor_cutting.f (k : Nat) (s0_0 : List (List Int)) (s0_1 : List (S87)) : Option (List Int) := (impl_floor_walls.f k s0_0 s0_1).bind fun t283 => (impl_floor_cutting.l0 k ([] : List Int) t283 (t283.length : Int) 0 s0_0 s0_1)
set_option maxHeartbeats 8000000 in
set_option maxRecDepth 100000 in
theorem impl_floor_cutting.calls (k : Nat) (g : Nat) (s0_0 : List (List Int)) (s0_1 : List (S87)) (r : List Int) (w0 w : World) (hI : IsS70 w0 w g s0_0 s0_1) (hB : Below w0.heap.size w0 w) (h : impl_floor_cutting.f k s0_0 s0_1 = some r) :
  Calls Try.prog 56 #[.pointer (some ⟨g, 0, none⟩)] w fun e w' => ∃ v0_ : Value, e = .returned (v0_) ∧ Kd.R (Kd.int .i64) 3 w' w.heap.size (fun _ => True) v0_ r ∧ IsS70 w0 w' g s0_0 s0_1 ∧ Below w0.heap.size w0 w' ∧ KeepBut w w' g none := by
 have hu60 := Try.underlying60
 have HI0 := Aside0.mk hI
 have HK := Aside0.mk (KeepBut.refl w g none)
 have HL := Aside0.mk hB.size
 clear hI
 have HW0 := Aside0.mk hB.size
 have HB := Aside0.mk hB
 clear hB
 have H : ((impl_floor_walls.f k s0_0 s0_1).bind fun t283 => (impl_floor_cutting.l0 k ([] : List Int) t283 (t283.length : Int) 0 s0_0 s0_1)) = some r := h
 clear h
 replace H := Option.bind_eq_some_iff.mp H
 obtain ⟨t283, A20, H⟩ := H
 replace H : (impl_floor_cutting.l0 k ([] : List Int) t283 (t283.length : Int) 0 s0_0 s0_1) = some r := H
 have A2 := Aside0.mk A20
 clear A20
 have H' := Aside0.mk H
 clear H
 go_enter Try.func56, Try.ntmps56
 go_wp2_with (first | ((with_reducible refine gate_callee (f := 57) rfl ?_); refine goesL_ (some 7) rfl rfl Try.func57 (by kernel_rfl) rfl #[.pointer (some ⟨g, 0, none⟩)] rfl (by (try simp only [List.map_toArray, List.map_cons, List.map_nil]); first | done | rfl | (simp only [List.length_drop, List.length_take]; rfl)) ?_; (with_reducible refine (impl_floor_walls.calls k g s0_0 s0_1 t283 w0 _ ?side1 ?side2 A2.out).mono ?_); (case side1 => repeat (first | (with_reducible first | exact HI0.out | apply IsS70.alloc | apply IsS70.drewN | apply IsS70.drew) | exact HI0.out)); (case side2 => repeat (first | (with_reducible first | exact HB.out | apply below_alloc | apply pw_below_drewN | apply below_drew1 | refine below_set ?_ (IsS70.ge HI0.out)) | exact HB.out)); rintro e w3 ⟨v284, rfl, ho0, hi, hb, hk⟩; refine ⟨_, rfl, ?_⟩; have n0_ := Aside0.mk (Kd.R_lower ho0 (keep_size (w := w) (g := g) (row := none) (by repeat (first | (with_reducible first | exact HK.out | apply KeepBut.set_ | apply keep_drewN | apply keep_drew | apply keep_alloc) | exact HK.out)))); have n1_ := Aside0.mk (KeepBut.trans (by repeat (first | (with_reducible first | exact HK.out | apply KeepBut.set_ | apply keep_drewN | apply keep_drew | apply keep_alloc) | exact HK.out)) hk (.inl rfl)); have n2_ := Aside0.mk (hb); have n3_ := Aside0.mk (hi); clear HK; clear HB; clear HI0; have HO285 := n0_; have HK := n1_; have HB := n2_; have HI0 := n3_; clear n0_ n1_ n2_ n3_; (try clear hb); (try clear hb2); (try clear hk); (try clear hi); (try clear ho0); obtain ⟨Ao4, co4, eo4⟩ := Kd.R_slice HO285.out; subst eo4))
 go_loopg [3, 9] k (fun kq v3 v9 w' => ∃ (x3_1 : List Int) (x9_1 : Int), v9 = .int .i64 x9_1 ∧ Aside0 (impl_floor_cutting.l0 kq x3_1 t283 (t283.length : Int) x9_1 s0_0 s0_1 = some r) ∧ Aside0 (kq ≤ k) ∧ Aside0 (Kd.R (Kd.int .i64) 3 w' w.heap.size (fun _ => True) v3 x3_1) ∧ Aside0 (Kd.R k60 60 w' w.heap.size (fun _ => True) (.slice Ao4 t283.length co4) t283) ∧ Aside0 (IsS70 w0 w' g s0_0 s0_1) ∧ Aside0 (KeepBut w w' g none) ∧ Aside0 (Below w0.heap.size w0 w'))
 case atStart => exact ⟨(([] : List Int)), (0), (by first | rfl | (simp; done) | (simp [*]; done)), H', ⟨Nat.le_refl _⟩, ⟨by first | exact Kd.R_nil _ _ _ _ _ | exact Kd.N_nil _ _ _ _ _ | exact Kd.V_nil _ _ _ _ _ | exact Kd.Q_nil _ _ _ _ _ | exact Kd.S_nil _ _ _ _ _⟩, ⟨by (with_reducible repeat (first | apply Kd.R_alloc | apply Kd.R_drewN | apply Kd.R_drew)); exact HO285.out⟩, ⟨by repeat (first | (with_reducible first | exact HI0.out | apply IsS70.alloc | apply IsS70.drewN | apply IsS70.drew) | exact HI0.out)⟩, ⟨by repeat (first | (with_reducible first | exact HK.out | apply KeepBut.set_ | apply keep_drewN | apply keep_drew | apply keep_alloc) | exact HK.out)⟩, ⟨by repeat (first | (with_reducible first | exact HB.out | apply below_alloc | apply pw_below_drewN | apply below_drew1 | refine below_set ?_ (IsS70.ge HI0.out)) | exact HB.out)⟩⟩
 case round =>
  clear H'
  try clear p2
  obtain ⟨x3_1, x9_1, rfl, HA, HK1, HO_3, HO_7, HI0, HK, HB⟩ := hrel
  cases gk with
  | zero => exact absurd HA.out (by simp [impl_floor_cutting.l0])
  | succ k1 =>
   have H := HA.out
   clear HA
   simp only [impl_floor_cutting.l0] at H
   by_cases c5 : x9_1 < (t283.length : Int)
   ·rw [if_pos c5] at H
    have c5b0 : decide (x9_1 < (t283.length : Int)) = true := decide_eq_true c5
    clear c5
    by_cases c6 : 0 ≤ x9_1
    ·rw [if_pos c6] at H
     have c6b0 : decide (0 ≤ x9_1) = true := decide_eq_true c6
     clear c6
     by_cases c7 : x9_1 < (t283.length : Int)
     ·rw [if_pos c7] at H
      have c7b0 : decide (x9_1 < (t283.length : Int)) = true := decide_eq_true c7
      clear c7
      replace H := Option.bind_eq_some_iff.mp H
      obtain ⟨t288, A80, H⟩ := H
      replace H : (if ((rd_T60 t283 x9_1).f3) = t288 then (if x3_1.length < 17592186044416 then (impl_floor_cutting.l0 k1 (x3_1 ++ [x9_1]) t283 (t283.length : Int) (wrap64 (x9_1 + 1)) s0_0 s0_1) else (none)) else (impl_floor_cutting.l0 k1 x3_1 t283 (t283.length : Int) (wrap64 (x9_1 + 1)) s0_0 s0_1)) = some r := H
      have A8 := Aside0.mk A80
      clear A80
      by_cases c9 : ((rd_T60 t283 x9_1).f3) = t288
      ·rw [if_pos c9] at H
       have c9b0 : (((rd_T60 t283 x9_1).f3) == t288) = true := beq_iff_eq.mpr c9
       have c9b1 : (((rd_T60 t283 x9_1).f3) != t288) = false := bne_eq_false_iff_eq.mpr c9
       clear c9
       by_cases c10 : x3_1.length < 17592186044416
       ·rw [if_pos c10] at H
        have LMc10 := Aside0.mk c10
        clear c10
        obtain ⟨y289, hy289⟩ : ∃ y_ : List Int, y_ = (x3_1 ++ [x9_1]) := ⟨_, rfl⟩
        replace H : (impl_floor_cutting.l0 k1 y289 t283 (t283.length : Int) (wrap64 (x9_1 + 1)) s0_0 s0_1) = some r := by first | (rw [hy289]; with_reducible exact H) | (have H2_ := (Option.bind_some _ _).symm.trans H; rw [hy289]; with_reducible exact H2_) | (have H2_ := (Option.bind_some _ _).symm.trans H; with_reducible exact H2_) | with_reducible exact H | (rw [hy289]; exact H) | exact H
        have Ny289 := Aside0.mk hy289
        clear hy289
        have H' := Aside0.mk H
        clear H
        have p286 : 0 ≤ (x9_1 : Int) := of_decide_eq_true (by first | (with_reducible assumption) | assumption)
        have q286 : x9_1 < (t283.length : Int) := of_decide_eq_true (by first | (with_reducible assumption) | assumption)
        obtain ⟨ad286, e286, hx286_0, hx286_1, hx286_2, hx286_3⟩ := at_T60 (Kd.R_reads' HO_7.out).2.2 x9_1 p286 q286
        cases e286
        replace p286 := eq_true p286
        replace q286 := eq_true q286
        try go_wp2_with (first | ((with_reducible refine gate_dst (N := 5) rfl ?_); refine box_event ?hg (N := 5) ?hd (cs := #[.bool false, .int .i64 0, .int .i64 0, .int .i64 0]) (t := 60) ?hr ?_; (case hd => rfl); (case hg => rfl); (case hr => first | (go_simp; done) | (go_simp; rfl)); intro gb287 hg w11 hbox hb; have n0_ := Aside0.mk (Kd.R_below (by (with_reducible repeat (first | apply Kd.R_alloc | apply Kd.R_drewN | apply Kd.R_drew)); exact HO_3.out) hb); have n1_ := Aside0.mk (Kd.R_below (Kd.R_elderB (by (with_reducible repeat (first | apply Kd.R_alloc | apply Kd.R_drewN | apply Kd.R_drew)); exact HO_7.out) gb287 (Nat.le_of_eq hg.symm)) hb); have n2_ := Aside0.mk (IsS70.below (by repeat (first | (with_reducible first | exact HI0.out | apply IsS70.alloc | apply IsS70.drewN | apply IsS70.drew) | exact HI0.out)) hb); have n3_ := Aside0.mk (KeepBut.trans (by repeat (first | (with_reducible first | exact HK.out | apply KeepBut.set_ | apply keep_drewN | apply keep_drew | apply keep_alloc) | exact HK.out)) (KeepBut.of_below hb g none) (.inl rfl)); have n4_ := Aside0.mk (below_step (by repeat (first | (with_reducible first | exact HB.out | apply below_alloc | apply pw_below_drewN | apply below_drew1 | refine below_set ?_ (IsS70.ge HI0.out)) | exact HB.out)) hb); have n5_ := Aside0.mk (hbox); have n6_ := Aside0.mk ((by rw [hg]; exact (keep_size (w := w) (g := g) (row := none) (by repeat (first | (with_reducible first | exact HK.out | apply KeepBut.set_ | apply keep_drewN | apply keep_drew | apply keep_alloc) | exact HK.out))) : w.heap.size ≤ gb287)); have n7_ := Aside0.mk ((Nat.le_trans HW0.out (by rw [hg]; exact (keep_size (w := w) (g := g) (row := none) (by repeat (first | (with_reducible first | exact HK.out | apply KeepBut.set_ | apply keep_drewN | apply keep_drew | apply keep_alloc) | exact HK.out))) : w.heap.size ≤ gb287) : w0.heap.size ≤ gb287)); have n8_ := Aside0.mk ((by rw [hg]; exact Nat.ne_of_lt (IsS70.lt (show IsS70 w0 _ g s0_0 s0_1 from by repeat (first | (with_reducible first | exact HI0.out | apply IsS70.alloc | apply IsS70.drewN | apply IsS70.drew) | exact HI0.out))) : g ≠ gb287)); have n9_ := Aside0.mk ((by rw [hg]; exact Nat.ne_of_gt (IsS70.lt (show IsS70 w0 _ g s0_0 s0_1 from by repeat (first | (with_reducible first | exact HI0.out | apply IsS70.alloc | apply IsS70.drewN | apply IsS70.drew) | exact HI0.out))) : gb287 ≠ g)); clear HO_3; clear HO_7; clear HI0; clear HK; clear HB; have HO_3 := n0_; have HO_7 := n1_; have HI0 := n2_; have HK := n3_; have HB := n4_; have BK287 := n5_; have GW287 := n6_; have GE287 := n7_; have NB0_287 := n8_; have NB287_0 := n9_; clear n0_ n1_ n2_ n3_ n4_ n5_ n6_ n7_ n8_ n9_; clear hb hbox hg; have hnb12 := NB287_0.out; have hnc12 := NB0_287.out; have hcz13_0 : w11.cell? ⟨gb287, 0, none⟩ = some (.bool false) := (blk_cell BK287.out 0).trans rfl; have hcz13_1 : w11.cell? ⟨gb287, 1, none⟩ = some (.int .i64 0) := (blk_cell BK287.out 1).trans rfl; have hcz13_2 : w11.cell? ⟨gb287, 2, none⟩ = some (.int .i64 0) := (blk_cell BK287.out 2).trans rfl; have hcz13_3 : w11.cell? ⟨gb287, 3, none⟩ = some (.int .i64 0) := (blk_cell BK287.out 3).trans rfl; have hfz13_0 := blk_frozen BK287.out 0; have hfz13_1 := blk_frozen BK287.out 1; have hfz13_2 := blk_frozen BK287.out 2; have hfz13_3 := blk_frozen BK287.out 3))
        have n0_ : Aside0 (Kd.R (Kd.int .i64) 3 ((((w11.setCell ⟨gb287, 0, none⟩ (.bool ((rd_T60 t283 x9_1).f0))).setCell ⟨gb287, 1, none⟩ (.int .i64 ((rd_T60 t283 x9_1).f1))).setCell ⟨gb287, 2, none⟩ (.int .i64 ((rd_T60 t283 x9_1).f2))).setCell ⟨gb287, 3, none⟩ (.int .i64 ((rd_T60 t283 x9_1).f3))) w.heap.size (fun _ => True) u3 x3_1) := ⟨by (with_reducible repeat (first | apply Kd.R_alloc | apply Kd.R_drewN | apply Kd.R_drew)); exact Kd.R_mono (Kd.R_far (p := ⟨gb287, 3, none⟩) (Kd.R_far (p := ⟨gb287, 2, none⟩) (Kd.R_far (p := ⟨gb287, 1, none⟩) (Kd.R_far (p := ⟨gb287, 0, none⟩) (Kd.R_types HO_3.out BK287.out (by decide)) (fun _ hk => hk.2) (.bool ((rd_T60 t283 x9_1).f0))) (fun _ hk => hk.2) (.int .i64 ((rd_T60 t283 x9_1).f1))) (fun _ hk => hk.2) (.int .i64 ((rd_T60 t283 x9_1).f2))) (fun _ hk => hk.2) (.int .i64 ((rd_T60 t283 x9_1).f3))) (fun _ hk => trivial)⟩
        have n1_ : Aside0 (Kd.R k60 60 ((((w11.setCell ⟨gb287, 0, none⟩ (.bool ((rd_T60 t283 x9_1).f0))).setCell ⟨gb287, 1, none⟩ (.int .i64 ((rd_T60 t283 x9_1).f1))).setCell ⟨gb287, 2, none⟩ (.int .i64 ((rd_T60 t283 x9_1).f2))).setCell ⟨gb287, 3, none⟩ (.int .i64 ((rd_T60 t283 x9_1).f3))) w.heap.size (fun k_ => k_ ≠ gb287) (.slice (some ad286) t283.length co4) t283) := ⟨by (with_reducible repeat (first | apply Kd.R_alloc | apply Kd.R_drewN | apply Kd.R_drew)); exact Kd.R_mono (Kd.R_far (p := ⟨gb287, 3, none⟩) (Kd.R_far (p := ⟨gb287, 2, none⟩) (Kd.R_far (p := ⟨gb287, 1, none⟩) (Kd.R_far (p := ⟨gb287, 0, none⟩) (Kd.R_mono HO_7.out (fun k_ hk => (⟨hk, hk.2⟩ : _ ∧ k_ ≠ gb287))) (fun _ hk => hk.2) (.bool ((rd_T60 t283 x9_1).f0))) (fun _ hk => hk.2) (.int .i64 ((rd_T60 t283 x9_1).f1))) (fun _ hk => hk.2) (.int .i64 ((rd_T60 t283 x9_1).f2))) (fun _ hk => hk.2) (.int .i64 ((rd_T60 t283 x9_1).f3))) (fun _ hk => hk.1.2)⟩
        have n2_ : Aside0 (((((w11.setCell ⟨gb287, 0, none⟩ (.bool ((rd_T60 t283 x9_1).f0))).setCell ⟨gb287, 1, none⟩ (.int .i64 ((rd_T60 t283 x9_1).f1))).setCell ⟨gb287, 2, none⟩ (.int .i64 ((rd_T60 t283 x9_1).f2))).setCell ⟨gb287, 3, none⟩ (.int .i64 ((rd_T60 t283 x9_1).f3))).heap[gb287]? = some (.cells #[.bool ((rd_T60 t283 x9_1).f0), .int .i64 ((rd_T60 t283 x9_1).f1), .int .i64 ((rd_T60 t283 x9_1).f2), .int .i64 ((rd_T60 t283 x9_1).f3)] 60 (0, 0))) := ⟨by (with_reducible repeat (first | refine blk_drewN ?_ _ | refine blk_drew ?_ | refine blk_alloc ?_ _)); refine blk_put (cs := #[.bool ((rd_T60 t283 x9_1).f0), .int .i64 ((rd_T60 t283 x9_1).f1), .int .i64 ((rd_T60 t283 x9_1).f2), .int .i64 0]) ?_ 3 _ rfl; (with_reducible repeat (first | refine blk_drewN ?_ _ | refine blk_drew ?_ | refine blk_alloc ?_ _)); refine blk_put (cs := #[.bool ((rd_T60 t283 x9_1).f0), .int .i64 ((rd_T60 t283 x9_1).f1), .int .i64 0, .int .i64 0]) ?_ 2 _ rfl; (with_reducible repeat (first | refine blk_drewN ?_ _ | refine blk_drew ?_ | refine blk_alloc ?_ _)); refine blk_put (cs := #[.bool ((rd_T60 t283 x9_1).f0), .int .i64 0, .int .i64 0, .int .i64 0]) ?_ 1 _ rfl; (with_reducible repeat (first | refine blk_drewN ?_ _ | refine blk_drew ?_ | refine blk_alloc ?_ _)); refine blk_put (cs := #[.bool false, .int .i64 0, .int .i64 0, .int .i64 0]) ?_ 0 _ rfl; (with_reducible repeat (first | refine blk_drewN ?_ _ | refine blk_drew ?_ | refine blk_alloc ?_ _)); exact BK287.out⟩
        have n3_ : Aside0 (IsS70 w0 ((((w11.setCell ⟨gb287, 0, none⟩ (.bool ((rd_T60 t283 x9_1).f0))).setCell ⟨gb287, 1, none⟩ (.int .i64 ((rd_T60 t283 x9_1).f1))).setCell ⟨gb287, 2, none⟩ (.int .i64 ((rd_T60 t283 x9_1).f2))).setCell ⟨gb287, 3, none⟩ (.int .i64 ((rd_T60 t283 x9_1).f3))) g s0_0 s0_1) := ⟨by repeat (first | (with_reducible first | exact HI0.out | apply IsS70.alloc | apply IsS70.drewN | apply IsS70.drew | refine IsS70.far ?_ NB0_287.out _) | exact HI0.out)⟩
        have n4_ : Aside0 (KeepBut w ((((w11.setCell ⟨gb287, 0, none⟩ (.bool ((rd_T60 t283 x9_1).f0))).setCell ⟨gb287, 1, none⟩ (.int .i64 ((rd_T60 t283 x9_1).f1))).setCell ⟨gb287, 2, none⟩ (.int .i64 ((rd_T60 t283 x9_1).f2))).setCell ⟨gb287, 3, none⟩ (.int .i64 ((rd_T60 t283 x9_1).f3))) g none) := ⟨by repeat (first | (with_reducible first | exact HK.out | apply KeepBut.set_ | apply keep_drewN | apply keep_drew | apply keep_alloc | refine keep_far ?_ GW287.out _) | exact HK.out)⟩
        have n5_ : Aside0 (Below w0.heap.size w0 ((((w11.setCell ⟨gb287, 0, none⟩ (.bool ((rd_T60 t283 x9_1).f0))).setCell ⟨gb287, 1, none⟩ (.int .i64 ((rd_T60 t283 x9_1).f1))).setCell ⟨gb287, 2, none⟩ (.int .i64 ((rd_T60 t283 x9_1).f2))).setCell ⟨gb287, 3, none⟩ (.int .i64 ((rd_T60 t283 x9_1).f3)))) := ⟨by repeat (first | (with_reducible first | exact HB.out | apply below_alloc | apply pw_below_drewN | apply below_drew1 | refine below_set ?_ (IsS70.ge HI0.out) | refine below_set ?_ GE287.out) | exact HB.out)⟩
        (try clear HO_3)
        (try clear HO_7)
        (try clear BK287)
        (try clear HI0)
        (try clear HK)
        (try clear HB)
        generalize ((((w11.setCell ⟨gb287, 0, none⟩ (.bool ((rd_T60 t283 x9_1).f0))).setCell ⟨gb287, 1, none⟩ (.int .i64 ((rd_T60 t283 x9_1).f1))).setCell ⟨gb287, 2, none⟩ (.int .i64 ((rd_T60 t283 x9_1).f2))).setCell ⟨gb287, 3, none⟩ (.int .i64 ((rd_T60 t283 x9_1).f3))) = w14 at n0_ n1_ n2_ n3_ n4_ n5_ ⊢
        have HO_3 := n0_
        have HO_7 := n1_
        have BK287 := n2_
        have HI0 := n3_
        have HK := n4_
        have HB := n5_
        clear n0_ n1_ n2_ n3_ n4_ n5_
        have n0_ := Aside0.mk (Kd.R_drew HO_3.out)
        have n1_ := Aside0.mk (Kd.R_drew HO_7.out)
        have n2_ := Aside0.mk (blk_drew BK287.out)
        have n3_ := Aside0.mk (IsS70.drew HI0.out)
        have n4_ := Aside0.mk (keep_drew HK.out)
        have n5_ := Aside0.mk (below_drew1 HB.out)
        clear HO_3
        clear HO_7
        clear BK287
        clear HI0
        clear HK
        clear HB
        have HO_3 := n0_
        have HO_7 := n1_
        have BK287 := n2_
        have HI0 := n3_
        have HK := n4_
        have HB := n5_
        clear n0_ n1_ n2_ n3_ n4_ n5_
        refine start_ (n := 6) (S := fun w' => w'.cell? ⟨gb287, 0, none⟩ = some (.bool ((rd_T60 t283 x9_1).f0)) ∧ w'.cell? ⟨gb287, 1, none⟩ = some (.int .i64 ((rd_T60 t283 x9_1).f1)) ∧ w'.cell? ⟨gb287, 2, none⟩ = some (.int .i64 ((rd_T60 t283 x9_1).f2)) ∧ w'.cell? ⟨gb287, 3, none⟩ = some (.int .i64 ((rd_T60 t283 x9_1).f3))) (ds := []) #[false, false, false, false, false, false] (by kernel_rfl) rfl rfl ⟨(blk_cell BK287.out 0).trans rfl, (blk_cell BK287.out 1).trans rfl, (blk_cell BK287.out 2).trans rfl, (blk_cell BK287.out 3).trans rfl⟩ (fun hHeld => ?_)
        generalize w14.drew = w15 at HO_3 HO_7 BK287 HI0 HK HB hHeld ⊢
        refine pure_ (i := 0) (N := some 14) (v := ?_) (a' := ?_) #[true, false, false, false, false, false] rfl rfl (by kernel_rfl) (fun _ _ _ h => h) (Or.inl ⟨by rfl, ?_⟩) ?_ ?_
        rotate_left
        ·intro w'
         go_simp
         with_reducible rfl
        rotate_left
        ·simp only [Act.put, List.setIfInBounds_toArray, List.set_cons_zero, List.set_cons_succ, i64_w, i32_w]
         rfl
        refine pure_ (i := 2) (N := some 16) (v := ?_) (a' := ?_) #[true, false, true, false, false, false] rfl rfl (by kernel_rfl) (fun _ _ _ h => h) (Or.inl ⟨by rfl, ?_⟩) ?_ ?_
        rotate_left
        ·intro w'
         go_simp
         with_reducible rfl
        rotate_left
        ·simp only [Act.put, List.setIfInBounds_toArray, List.set_cons_zero, List.set_cons_succ, i64_w, i32_w]
         rfl
        refine take_ (i := 1) (N := some 15) (v := ?_) (a' := ?_) #[true, true, true, false, false, false] rfl rfl (by kernel_rfl) (fun _ _ _ h => h) (Or.inl ⟨by rfl, ?_⟩) hHeld ?_ ?_
        rotate_left
        ·rintro w' ⟨s0, s1, s2, s3⟩
         go_simp
         with_reducible rfl
        rotate_left
        ·simp only [Act.put, List.setIfInBounds_toArray, List.set_cons_zero, List.set_cons_succ, i64_w, i32_w]
         rfl
        refine take_ (i := 3) (N := some 17) (v := ?_) (a' := ?_) #[true, true, true, true, false, false] rfl rfl (by kernel_rfl) (fun _ _ _ h => h) (Or.inl ⟨by rfl, ?_⟩) hHeld ?_ ?_
        rotate_left
        ·rintro w' ⟨s0, s1, s2, s3⟩
         go_simp
         with_reducible rfl
        rotate_left
        ·simp only [Act.put, List.setIfInBounds_toArray, List.set_cons_zero, List.set_cons_succ, i64_w, i32_w]
         rfl
        refine one_ (i := 4) (N := some 18) #[true, true, true, true, true, false] rfl rfl (by kernel_rfl) (by decide) (fun K hK => ?_)
        refine goes_ Try.func92 (by kernel_rfl) rfl #[.pointer (some ⟨g, 0, none⟩), .agg #[.bool ((rd_T60 t283 x9_1).f0), .int .i64 ((rd_T60 t283 x9_1).f1), .int .i64 ((rd_T60 t283 x9_1).f2), .int .i64 ((rd_T60 t283 x9_1).f3)]] (by rfl) rfl rfl (by (try simp only [List.map_toArray, List.map_cons, List.map_nil]); first | done | rfl | (simp only [List.length_drop, List.length_take]; rfl)) ?_
        with_reducible refine (impl_floor_end.calls g s0_0 s0_1 ((rd_T60 t283 x9_1).f0) ((rd_T60 t283 x9_1).f1) ((rd_T60 t283 x9_1).f2) ((rd_T60 t283 x9_1).f3) t288 w0 _ ?side1 ?side2 A8.out).mono ?_
        (case side1 => repeat (first | (with_reducible first | exact HI0.out | apply IsS70.alloc | apply IsS70.drewN | apply IsS70.drew | refine IsS70.far ?_ NB0_287.out _) | exact HI0.out))
        (case side2 => repeat (first | (with_reducible first | exact HB.out | apply below_alloc | apply pw_below_drewN | apply below_drew1 | refine below_set ?_ (IsS70.ge HI0.out) | refine below_set ?_ GE287.out) | exact HB.out))
        rintro e w16 ⟨rfl, hi, hb, hk⟩
        refine ⟨_, rfl, ?_⟩
        have n0_ := Aside0.mk (Kd.R_mono (Kd.R_keep (IsS70.apart (show IsS70 w0 _ g s0_0 s0_1 from by repeat (first | (with_reducible first | exact HI0.out | apply IsS70.alloc | apply IsS70.drewN | apply IsS70.drew | refine IsS70.far ?_ NB0_287.out _) | exact HI0.out)) (by (with_reducible repeat (first | apply Kd.R_alloc | apply Kd.R_drewN | apply Kd.R_drew)); exact HO_3.out) (by decide)) hk (fun _ h => h.2)) (fun _ h => h.1))
        have n1_ := Aside0.mk (Kd.R_mono (Kd.R_keep (IsS70.apart (show IsS70 w0 _ g s0_0 s0_1 from by repeat (first | (with_reducible first | exact HI0.out | apply IsS70.alloc | apply IsS70.drewN | apply IsS70.drew | refine IsS70.far ?_ NB0_287.out _) | exact HI0.out)) (by (with_reducible repeat (first | apply Kd.R_alloc | apply Kd.R_drewN | apply Kd.R_drew)); exact HO_7.out) (by decide)) hk (fun _ h => h.2)) (fun _ h => h.1))
        have n2_ := Aside0.mk (KeepBut.blk hk (g' := gb287) (o := .cells #[.bool ((rd_T60 t283 x9_1).f0), .int .i64 ((rd_T60 t283 x9_1).f1), .int .i64 ((rd_T60 t283 x9_1).f2), .int .i64 ((rd_T60 t283 x9_1).f3)] 60 (0, 0)) (by (with_reducible repeat (first | refine blk_drewN ?_ _ | refine blk_drew ?_ | refine blk_alloc ?_ _)); exact BK287.out) NB287_0.out (by simp))
        have n3_ := Aside0.mk (KeepBut.trans (by repeat (first | (with_reducible first | exact HK.out | apply KeepBut.set_ | apply keep_drewN | apply keep_drew | apply keep_alloc | refine keep_far ?_ GW287.out _) | exact HK.out)) hk (.inl rfl))
        have n4_ := Aside0.mk (hb)
        have n5_ := Aside0.mk (hi)
        clear HO_3
        clear HO_7
        clear BK287
        clear HK
        clear HB
        clear HI0
        have HO_3 := n0_
        have HO_7 := n1_
        have BK287 := n2_
        have HK := n3_
        have HB := n4_
        have HI0 := n5_
        clear n0_ n1_ n2_ n3_ n4_ n5_
        (try clear hb)
        (try clear hb2)
        (try clear hk)
        (try clear hi)
        refine hK.out _ _ ⟨(blk_cell BK287.out 0).trans rfl, (blk_cell BK287.out 1).trans rfl, (blk_cell BK287.out 2).trans rfl, (blk_cell BK287.out 3).trans rfl⟩ (fun hHeld => ?_)
        clear hK K
        refine norm_ (a' := ?_) ?_ ?_
        rotate_left
        ·show Act.put _ (some 18) _ = _
         simp only [Act.put, List.setIfInBounds_toArray, List.set_cons_zero, List.set_cons_succ, i64_w, i32_w]
         rfl
        refine pure_ (i := 5) (N := some 19) (v := ?_) (a' := ?_) #[true, true, true, true, true, true] rfl rfl (by kernel_rfl) (fun _ _ _ h => h) (Or.inl ⟨by rfl, ?_⟩) ?_ ?_
        rotate_left
        ·intro w'
         go_simp
         with_reducible rfl
        rotate_left
        ·simp only [Act.put, List.setIfInBounds_toArray, List.set_cons_zero, List.set_cons_succ, i64_w, i32_w]
         rfl
        refine done_ (by kernel_rfl) ?_
        try go_wp2_with (first | ((with_reducible refine gate_builtin (b := .append) (xs := #[.tmp 20, .tmp 22]) rfl ?_); at_builtin; refine Kd.R_append (Kd.int .i64) w.heap.size rfl (.tmp 20) (.tmp 22) 34 3 (.int .i64 0) 8 rfl Try.underlying34 info3 rfl (by decide) (by omega) u3 x3_1 x9_1 [.int .i64 x9_1] (fun _ => True) (fun _ => False) rfl rfl ?aP (fun _ hk => hk.elim) ?aF ?aO (Below.refl _ _) ?aS ?aL ?_; (case aP => exact rfl); (case aF => exact (fun _ _ => trivial)); (case aO => exact (by (with_reducible repeat (first | apply Kd.R_alloc | apply Kd.R_drewN | apply Kd.R_drew)); exact HO_3.out)); (case aS => exact (keep_size (w := w) (g := g) (row := none) (by repeat (first | (with_reducible first | exact HK.out | apply KeepBut.set_ | apply keep_drewN | apply keep_drew | apply keep_alloc | refine keep_far ?_ GW287.out _) | exact HK.out)))); (case aL => have := LMc10.out; omega); intro v290 w17 ho hb hg hat; rw [← Ny289.out] at ho; have n0_ := Aside0.mk (Kd.R_over' (by (with_reducible repeat (first | apply Kd.R_alloc | apply Kd.R_drewN | apply Kd.R_drew)); exact HO_7.out) (Kd.R_typed (by (with_reducible repeat (first | apply Kd.R_alloc | apply Kd.R_drewN | apply Kd.R_drew)); exact HO_3.out)) (by decide) hg); have n1_ := Aside0.mk (IsS70.grown (by repeat (first | (with_reducible first | exact HI0.out | apply IsS70.alloc | apply IsS70.drewN | apply IsS70.drew | refine IsS70.far ?_ NB0_287.out _) | exact HI0.out)) hg (IsS70.own_ne HI0.out HO_3.out (by decide))); have n2_ := Aside0.mk (blk_grown (g := gb287) (o := .cells #[.bool ((rd_T60 t283 x9_1).f0), .int .i64 ((rd_T60 t283 x9_1).f1), .int .i64 ((rd_T60 t283 x9_1).f2), .int .i64 ((rd_T60 t283 x9_1).f3)] 60 (0, 0)) (by (with_reducible repeat (first | refine blk_drewN ?_ _ | refine blk_drew ?_ | refine blk_alloc ?_ _)); exact BK287.out) hg (Kd.R_ne HO_3.out BK287.out (by decide))); have n3_ := Aside0.mk (below_weaken (by repeat (first | (with_reducible first | exact HB.out | apply below_alloc | apply pw_below_drewN | apply below_drew1 | refine below_set ?_ (IsS70.ge HI0.out) | refine below_set ?_ GE287.out) | exact HB.out)) HL.out hb); have n4_ := Aside0.mk (KeepBut.trans (by repeat (first | (with_reducible first | exact HK.out | apply KeepBut.set_ | apply keep_drewN | apply keep_drew | apply keep_alloc | refine keep_far ?_ GW287.out _) | exact HK.out)) (KeepBut.of_grown hg g) (Kd.R_base2 HO_3.out)); have n5_ := Aside0.mk (ho); clear HO_7; clear HI0; clear BK287; clear HB; clear HK; clear HO_3; have HO_7 := n0_; have HI0 := n1_; have BK287 := n2_; have HB := n3_; have HK := n4_; have HO291 := n5_; clear n0_ n1_ n2_ n3_ n4_ n5_; clear ho hb hg hat))
        go_roundg k1
        case measure => have := HK1.out; omega
        case rel => exact ⟨(y289), (wrap64 (x9_1 + 1)), (by first | rfl | (simp; done) | (simp [*]; done)), H', ⟨by have := HK1.out; omega⟩, ⟨by (with_reducible repeat (first | apply Kd.R_alloc | apply Kd.R_drewN | apply Kd.R_drew)); exact HO291.out⟩, ⟨by (with_reducible repeat (first | apply Kd.R_alloc | apply Kd.R_drewN | apply Kd.R_drew)); exact Kd.R_mono HO_7.out (fun _ hk => trivial)⟩, ⟨by repeat (first | (with_reducible first | exact HI0.out | apply IsS70.alloc | apply IsS70.drewN | apply IsS70.drew | refine IsS70.far ?_ NB0_287.out _) | exact HI0.out)⟩, ⟨by repeat (first | (with_reducible first | exact HK.out | apply KeepBut.set_ | apply keep_drewN | apply keep_drew | apply keep_alloc | refine keep_far ?_ GW287.out _) | exact HK.out)⟩, ⟨by repeat (first | (with_reducible first | exact HB.out | apply below_alloc | apply pw_below_drewN | apply below_drew1 | refine below_set ?_ (IsS70.ge HI0.out) | refine below_set ?_ GE287.out) | exact HB.out)⟩⟩
       ·rw [if_neg c10] at H
        exact absurd H (by simp)
      ·rw [if_neg c9] at H
       have c9b0 : (((rd_T60 t283 x9_1).f3) == t288) = false := beq_eq_false_iff_ne.mpr c9
       have c9b1 : (((rd_T60 t283 x9_1).f3) != t288) = true := bne_iff_ne.mpr c9
       have H' := Aside0.mk H
       clear H
       have p286 : 0 ≤ (x9_1 : Int) := of_decide_eq_true (by first | (with_reducible assumption) | assumption)
       have q286 : x9_1 < (t283.length : Int) := of_decide_eq_true (by first | (with_reducible assumption) | assumption)
       obtain ⟨ad286, e286, hx286_0, hx286_1, hx286_2, hx286_3⟩ := at_T60 (Kd.R_reads' HO_7.out).2.2 x9_1 p286 q286
       cases e286
       replace p286 := eq_true p286
       replace q286 := eq_true q286
       try go_wp2_with (first | ((with_reducible refine gate_dst (N := 5) rfl ?_); refine box_event ?hg (N := 5) ?hd (cs := #[.bool false, .int .i64 0, .int .i64 0, .int .i64 0]) (t := 60) ?hr ?_; (case hd => rfl); (case hg => rfl); (case hr => first | (go_simp; done) | (go_simp; rfl)); intro gb287 hg w18 hbox hb; have n0_ := Aside0.mk (Kd.R_below (by (with_reducible repeat (first | apply Kd.R_alloc | apply Kd.R_drewN | apply Kd.R_drew)); exact HO_3.out) hb); have n1_ := Aside0.mk (Kd.R_below (Kd.R_elderB (by (with_reducible repeat (first | apply Kd.R_alloc | apply Kd.R_drewN | apply Kd.R_drew)); exact HO_7.out) gb287 (Nat.le_of_eq hg.symm)) hb); have n2_ := Aside0.mk (IsS70.below (by repeat (first | (with_reducible first | exact HI0.out | apply IsS70.alloc | apply IsS70.drewN | apply IsS70.drew) | exact HI0.out)) hb); have n3_ := Aside0.mk (KeepBut.trans (by repeat (first | (with_reducible first | exact HK.out | apply KeepBut.set_ | apply keep_drewN | apply keep_drew | apply keep_alloc) | exact HK.out)) (KeepBut.of_below hb g none) (.inl rfl)); have n4_ := Aside0.mk (below_step (by repeat (first | (with_reducible first | exact HB.out | apply below_alloc | apply pw_below_drewN | apply below_drew1 | refine below_set ?_ (IsS70.ge HI0.out)) | exact HB.out)) hb); have n5_ := Aside0.mk (hbox); have n6_ := Aside0.mk ((by rw [hg]; exact (keep_size (w := w) (g := g) (row := none) (by repeat (first | (with_reducible first | exact HK.out | apply KeepBut.set_ | apply keep_drewN | apply keep_drew | apply keep_alloc) | exact HK.out))) : w.heap.size ≤ gb287)); have n7_ := Aside0.mk ((Nat.le_trans HW0.out (by rw [hg]; exact (keep_size (w := w) (g := g) (row := none) (by repeat (first | (with_reducible first | exact HK.out | apply KeepBut.set_ | apply keep_drewN | apply keep_drew | apply keep_alloc) | exact HK.out))) : w.heap.size ≤ gb287) : w0.heap.size ≤ gb287)); have n8_ := Aside0.mk ((by rw [hg]; exact Nat.ne_of_lt (IsS70.lt (show IsS70 w0 _ g s0_0 s0_1 from by repeat (first | (with_reducible first | exact HI0.out | apply IsS70.alloc | apply IsS70.drewN | apply IsS70.drew) | exact HI0.out))) : g ≠ gb287)); have n9_ := Aside0.mk ((by rw [hg]; exact Nat.ne_of_gt (IsS70.lt (show IsS70 w0 _ g s0_0 s0_1 from by repeat (first | (with_reducible first | exact HI0.out | apply IsS70.alloc | apply IsS70.drewN | apply IsS70.drew) | exact HI0.out))) : gb287 ≠ g)); clear HO_3; clear HO_7; clear HI0; clear HK; clear HB; have HO_3 := n0_; have HO_7 := n1_; have HI0 := n2_; have HK := n3_; have HB := n4_; have BK287 := n5_; have GW287 := n6_; have GE287 := n7_; have NB0_287 := n8_; have NB287_0 := n9_; clear n0_ n1_ n2_ n3_ n4_ n5_ n6_ n7_ n8_ n9_; clear hb hbox hg; have hnb19 := NB287_0.out; have hnc19 := NB0_287.out; have hcz20_0 : w18.cell? ⟨gb287, 0, none⟩ = some (.bool false) := (blk_cell BK287.out 0).trans rfl; have hcz20_1 : w18.cell? ⟨gb287, 1, none⟩ = some (.int .i64 0) := (blk_cell BK287.out 1).trans rfl; have hcz20_2 : w18.cell? ⟨gb287, 2, none⟩ = some (.int .i64 0) := (blk_cell BK287.out 2).trans rfl; have hcz20_3 : w18.cell? ⟨gb287, 3, none⟩ = some (.int .i64 0) := (blk_cell BK287.out 3).trans rfl; have hfz20_0 := blk_frozen BK287.out 0; have hfz20_1 := blk_frozen BK287.out 1; have hfz20_2 := blk_frozen BK287.out 2; have hfz20_3 := blk_frozen BK287.out 3))
       have n0_ : Aside0 (Kd.R (Kd.int .i64) 3 ((((w18.setCell ⟨gb287, 0, none⟩ (.bool ((rd_T60 t283 x9_1).f0))).setCell ⟨gb287, 1, none⟩ (.int .i64 ((rd_T60 t283 x9_1).f1))).setCell ⟨gb287, 2, none⟩ (.int .i64 ((rd_T60 t283 x9_1).f2))).setCell ⟨gb287, 3, none⟩ (.int .i64 ((rd_T60 t283 x9_1).f3))) w.heap.size (fun _ => True) u3 x3_1) := ⟨by (with_reducible repeat (first | apply Kd.R_alloc | apply Kd.R_drewN | apply Kd.R_drew)); exact Kd.R_mono (Kd.R_far (p := ⟨gb287, 3, none⟩) (Kd.R_far (p := ⟨gb287, 2, none⟩) (Kd.R_far (p := ⟨gb287, 1, none⟩) (Kd.R_far (p := ⟨gb287, 0, none⟩) (Kd.R_types HO_3.out BK287.out (by decide)) (fun _ hk => hk.2) (.bool ((rd_T60 t283 x9_1).f0))) (fun _ hk => hk.2) (.int .i64 ((rd_T60 t283 x9_1).f1))) (fun _ hk => hk.2) (.int .i64 ((rd_T60 t283 x9_1).f2))) (fun _ hk => hk.2) (.int .i64 ((rd_T60 t283 x9_1).f3))) (fun _ hk => trivial)⟩
       have n1_ : Aside0 (Kd.R k60 60 ((((w18.setCell ⟨gb287, 0, none⟩ (.bool ((rd_T60 t283 x9_1).f0))).setCell ⟨gb287, 1, none⟩ (.int .i64 ((rd_T60 t283 x9_1).f1))).setCell ⟨gb287, 2, none⟩ (.int .i64 ((rd_T60 t283 x9_1).f2))).setCell ⟨gb287, 3, none⟩ (.int .i64 ((rd_T60 t283 x9_1).f3))) w.heap.size (fun k_ => k_ ≠ gb287) (.slice (some ad286) t283.length co4) t283) := ⟨by (with_reducible repeat (first | apply Kd.R_alloc | apply Kd.R_drewN | apply Kd.R_drew)); exact Kd.R_mono (Kd.R_far (p := ⟨gb287, 3, none⟩) (Kd.R_far (p := ⟨gb287, 2, none⟩) (Kd.R_far (p := ⟨gb287, 1, none⟩) (Kd.R_far (p := ⟨gb287, 0, none⟩) (Kd.R_mono HO_7.out (fun k_ hk => (⟨hk, hk.2⟩ : _ ∧ k_ ≠ gb287))) (fun _ hk => hk.2) (.bool ((rd_T60 t283 x9_1).f0))) (fun _ hk => hk.2) (.int .i64 ((rd_T60 t283 x9_1).f1))) (fun _ hk => hk.2) (.int .i64 ((rd_T60 t283 x9_1).f2))) (fun _ hk => hk.2) (.int .i64 ((rd_T60 t283 x9_1).f3))) (fun _ hk => hk.1.2)⟩
       have n2_ : Aside0 (((((w18.setCell ⟨gb287, 0, none⟩ (.bool ((rd_T60 t283 x9_1).f0))).setCell ⟨gb287, 1, none⟩ (.int .i64 ((rd_T60 t283 x9_1).f1))).setCell ⟨gb287, 2, none⟩ (.int .i64 ((rd_T60 t283 x9_1).f2))).setCell ⟨gb287, 3, none⟩ (.int .i64 ((rd_T60 t283 x9_1).f3))).heap[gb287]? = some (.cells #[.bool ((rd_T60 t283 x9_1).f0), .int .i64 ((rd_T60 t283 x9_1).f1), .int .i64 ((rd_T60 t283 x9_1).f2), .int .i64 ((rd_T60 t283 x9_1).f3)] 60 (0, 0))) := ⟨by (with_reducible repeat (first | refine blk_drewN ?_ _ | refine blk_drew ?_ | refine blk_alloc ?_ _)); refine blk_put (cs := #[.bool ((rd_T60 t283 x9_1).f0), .int .i64 ((rd_T60 t283 x9_1).f1), .int .i64 ((rd_T60 t283 x9_1).f2), .int .i64 0]) ?_ 3 _ rfl; (with_reducible repeat (first | refine blk_drewN ?_ _ | refine blk_drew ?_ | refine blk_alloc ?_ _)); refine blk_put (cs := #[.bool ((rd_T60 t283 x9_1).f0), .int .i64 ((rd_T60 t283 x9_1).f1), .int .i64 0, .int .i64 0]) ?_ 2 _ rfl; (with_reducible repeat (first | refine blk_drewN ?_ _ | refine blk_drew ?_ | refine blk_alloc ?_ _)); refine blk_put (cs := #[.bool ((rd_T60 t283 x9_1).f0), .int .i64 0, .int .i64 0, .int .i64 0]) ?_ 1 _ rfl; (with_reducible repeat (first | refine blk_drewN ?_ _ | refine blk_drew ?_ | refine blk_alloc ?_ _)); refine blk_put (cs := #[.bool false, .int .i64 0, .int .i64 0, .int .i64 0]) ?_ 0 _ rfl; (with_reducible repeat (first | refine blk_drewN ?_ _ | refine blk_drew ?_ | refine blk_alloc ?_ _)); exact BK287.out⟩
       have n3_ : Aside0 (IsS70 w0 ((((w18.setCell ⟨gb287, 0, none⟩ (.bool ((rd_T60 t283 x9_1).f0))).setCell ⟨gb287, 1, none⟩ (.int .i64 ((rd_T60 t283 x9_1).f1))).setCell ⟨gb287, 2, none⟩ (.int .i64 ((rd_T60 t283 x9_1).f2))).setCell ⟨gb287, 3, none⟩ (.int .i64 ((rd_T60 t283 x9_1).f3))) g s0_0 s0_1) := ⟨by repeat (first | (with_reducible first | exact HI0.out | apply IsS70.alloc | apply IsS70.drewN | apply IsS70.drew | refine IsS70.far ?_ NB0_287.out _) | exact HI0.out)⟩
       have n4_ : Aside0 (KeepBut w ((((w18.setCell ⟨gb287, 0, none⟩ (.bool ((rd_T60 t283 x9_1).f0))).setCell ⟨gb287, 1, none⟩ (.int .i64 ((rd_T60 t283 x9_1).f1))).setCell ⟨gb287, 2, none⟩ (.int .i64 ((rd_T60 t283 x9_1).f2))).setCell ⟨gb287, 3, none⟩ (.int .i64 ((rd_T60 t283 x9_1).f3))) g none) := ⟨by repeat (first | (with_reducible first | exact HK.out | apply KeepBut.set_ | apply keep_drewN | apply keep_drew | apply keep_alloc | refine keep_far ?_ GW287.out _) | exact HK.out)⟩
       have n5_ : Aside0 (Below w0.heap.size w0 ((((w18.setCell ⟨gb287, 0, none⟩ (.bool ((rd_T60 t283 x9_1).f0))).setCell ⟨gb287, 1, none⟩ (.int .i64 ((rd_T60 t283 x9_1).f1))).setCell ⟨gb287, 2, none⟩ (.int .i64 ((rd_T60 t283 x9_1).f2))).setCell ⟨gb287, 3, none⟩ (.int .i64 ((rd_T60 t283 x9_1).f3)))) := ⟨by repeat (first | (with_reducible first | exact HB.out | apply below_alloc | apply pw_below_drewN | apply below_drew1 | refine below_set ?_ (IsS70.ge HI0.out) | refine below_set ?_ GE287.out) | exact HB.out)⟩
       (try clear HO_3)
       (try clear HO_7)
       (try clear BK287)
       (try clear HI0)
       (try clear HK)
       (try clear HB)
       generalize ((((w18.setCell ⟨gb287, 0, none⟩ (.bool ((rd_T60 t283 x9_1).f0))).setCell ⟨gb287, 1, none⟩ (.int .i64 ((rd_T60 t283 x9_1).f1))).setCell ⟨gb287, 2, none⟩ (.int .i64 ((rd_T60 t283 x9_1).f2))).setCell ⟨gb287, 3, none⟩ (.int .i64 ((rd_T60 t283 x9_1).f3))) = w21 at n0_ n1_ n2_ n3_ n4_ n5_ ⊢
       have HO_3 := n0_
       have HO_7 := n1_
       have BK287 := n2_
       have HI0 := n3_
       have HK := n4_
       have HB := n5_
       clear n0_ n1_ n2_ n3_ n4_ n5_
       have n0_ := Aside0.mk (Kd.R_drew HO_3.out)
       have n1_ := Aside0.mk (Kd.R_drew HO_7.out)
       have n2_ := Aside0.mk (blk_drew BK287.out)
       have n3_ := Aside0.mk (IsS70.drew HI0.out)
       have n4_ := Aside0.mk (keep_drew HK.out)
       have n5_ := Aside0.mk (below_drew1 HB.out)
       clear HO_3
       clear HO_7
       clear BK287
       clear HI0
       clear HK
       clear HB
       have HO_3 := n0_
       have HO_7 := n1_
       have BK287 := n2_
       have HI0 := n3_
       have HK := n4_
       have HB := n5_
       clear n0_ n1_ n2_ n3_ n4_ n5_
       refine start_ (n := 6) (S := fun w' => w'.cell? ⟨gb287, 0, none⟩ = some (.bool ((rd_T60 t283 x9_1).f0)) ∧ w'.cell? ⟨gb287, 1, none⟩ = some (.int .i64 ((rd_T60 t283 x9_1).f1)) ∧ w'.cell? ⟨gb287, 2, none⟩ = some (.int .i64 ((rd_T60 t283 x9_1).f2)) ∧ w'.cell? ⟨gb287, 3, none⟩ = some (.int .i64 ((rd_T60 t283 x9_1).f3))) (ds := []) #[false, false, false, false, false, false] (by kernel_rfl) rfl rfl ⟨(blk_cell BK287.out 0).trans rfl, (blk_cell BK287.out 1).trans rfl, (blk_cell BK287.out 2).trans rfl, (blk_cell BK287.out 3).trans rfl⟩ (fun hHeld => ?_)
       generalize w21.drew = w22 at HO_3 HO_7 BK287 HI0 HK HB hHeld ⊢
       refine pure_ (i := 0) (N := some 14) (v := ?_) (a' := ?_) #[true, false, false, false, false, false] rfl rfl (by kernel_rfl) (fun _ _ _ h => h) (Or.inl ⟨by rfl, ?_⟩) ?_ ?_
       rotate_left
       ·intro w'
        go_simp
        with_reducible rfl
       rotate_left
       ·simp only [Act.put, List.setIfInBounds_toArray, List.set_cons_zero, List.set_cons_succ, i64_w, i32_w]
        rfl
       refine pure_ (i := 2) (N := some 16) (v := ?_) (a' := ?_) #[true, false, true, false, false, false] rfl rfl (by kernel_rfl) (fun _ _ _ h => h) (Or.inl ⟨by rfl, ?_⟩) ?_ ?_
       rotate_left
       ·intro w'
        go_simp
        with_reducible rfl
       rotate_left
       ·simp only [Act.put, List.setIfInBounds_toArray, List.set_cons_zero, List.set_cons_succ, i64_w, i32_w]
        rfl
       refine take_ (i := 1) (N := some 15) (v := ?_) (a' := ?_) #[true, true, true, false, false, false] rfl rfl (by kernel_rfl) (fun _ _ _ h => h) (Or.inl ⟨by rfl, ?_⟩) hHeld ?_ ?_
       rotate_left
       ·rintro w' ⟨s0, s1, s2, s3⟩
        go_simp
        with_reducible rfl
       rotate_left
       ·simp only [Act.put, List.setIfInBounds_toArray, List.set_cons_zero, List.set_cons_succ, i64_w, i32_w]
        rfl
       refine take_ (i := 3) (N := some 17) (v := ?_) (a' := ?_) #[true, true, true, true, false, false] rfl rfl (by kernel_rfl) (fun _ _ _ h => h) (Or.inl ⟨by rfl, ?_⟩) hHeld ?_ ?_
       rotate_left
       ·rintro w' ⟨s0, s1, s2, s3⟩
        go_simp
        with_reducible rfl
       rotate_left
       ·simp only [Act.put, List.setIfInBounds_toArray, List.set_cons_zero, List.set_cons_succ, i64_w, i32_w]
        rfl
       refine one_ (i := 4) (N := some 18) #[true, true, true, true, true, false] rfl rfl (by kernel_rfl) (by decide) (fun K hK => ?_)
       refine goes_ Try.func92 (by kernel_rfl) rfl #[.pointer (some ⟨g, 0, none⟩), .agg #[.bool ((rd_T60 t283 x9_1).f0), .int .i64 ((rd_T60 t283 x9_1).f1), .int .i64 ((rd_T60 t283 x9_1).f2), .int .i64 ((rd_T60 t283 x9_1).f3)]] (by rfl) rfl rfl (by (try simp only [List.map_toArray, List.map_cons, List.map_nil]); first | done | rfl | (simp only [List.length_drop, List.length_take]; rfl)) ?_
       with_reducible refine (impl_floor_end.calls g s0_0 s0_1 ((rd_T60 t283 x9_1).f0) ((rd_T60 t283 x9_1).f1) ((rd_T60 t283 x9_1).f2) ((rd_T60 t283 x9_1).f3) t288 w0 _ ?side1 ?side2 A8.out).mono ?_
       (case side1 => repeat (first | (with_reducible first | exact HI0.out | apply IsS70.alloc | apply IsS70.drewN | apply IsS70.drew | refine IsS70.far ?_ NB0_287.out _) | exact HI0.out))
       (case side2 => repeat (first | (with_reducible first | exact HB.out | apply below_alloc | apply pw_below_drewN | apply below_drew1 | refine below_set ?_ (IsS70.ge HI0.out) | refine below_set ?_ GE287.out) | exact HB.out))
       rintro e w23 ⟨rfl, hi, hb, hk⟩
       refine ⟨_, rfl, ?_⟩
       have n0_ := Aside0.mk (Kd.R_mono (Kd.R_keep (IsS70.apart (show IsS70 w0 _ g s0_0 s0_1 from by repeat (first | (with_reducible first | exact HI0.out | apply IsS70.alloc | apply IsS70.drewN | apply IsS70.drew | refine IsS70.far ?_ NB0_287.out _) | exact HI0.out)) (by (with_reducible repeat (first | apply Kd.R_alloc | apply Kd.R_drewN | apply Kd.R_drew)); exact HO_3.out) (by decide)) hk (fun _ h => h.2)) (fun _ h => h.1))
       have n1_ := Aside0.mk (Kd.R_mono (Kd.R_keep (IsS70.apart (show IsS70 w0 _ g s0_0 s0_1 from by repeat (first | (with_reducible first | exact HI0.out | apply IsS70.alloc | apply IsS70.drewN | apply IsS70.drew | refine IsS70.far ?_ NB0_287.out _) | exact HI0.out)) (by (with_reducible repeat (first | apply Kd.R_alloc | apply Kd.R_drewN | apply Kd.R_drew)); exact HO_7.out) (by decide)) hk (fun _ h => h.2)) (fun _ h => h.1))
       have n2_ := Aside0.mk (KeepBut.blk hk (g' := gb287) (o := .cells #[.bool ((rd_T60 t283 x9_1).f0), .int .i64 ((rd_T60 t283 x9_1).f1), .int .i64 ((rd_T60 t283 x9_1).f2), .int .i64 ((rd_T60 t283 x9_1).f3)] 60 (0, 0)) (by (with_reducible repeat (first | refine blk_drewN ?_ _ | refine blk_drew ?_ | refine blk_alloc ?_ _)); exact BK287.out) NB287_0.out (by simp))
       have n3_ := Aside0.mk (KeepBut.trans (by repeat (first | (with_reducible first | exact HK.out | apply KeepBut.set_ | apply keep_drewN | apply keep_drew | apply keep_alloc | refine keep_far ?_ GW287.out _) | exact HK.out)) hk (.inl rfl))
       have n4_ := Aside0.mk (hb)
       have n5_ := Aside0.mk (hi)
       clear HO_3
       clear HO_7
       clear BK287
       clear HK
       clear HB
       clear HI0
       have HO_3 := n0_
       have HO_7 := n1_
       have BK287 := n2_
       have HK := n3_
       have HB := n4_
       have HI0 := n5_
       clear n0_ n1_ n2_ n3_ n4_ n5_
       (try clear hb)
       (try clear hb2)
       (try clear hk)
       (try clear hi)
       refine hK.out _ _ ⟨(blk_cell BK287.out 0).trans rfl, (blk_cell BK287.out 1).trans rfl, (blk_cell BK287.out 2).trans rfl, (blk_cell BK287.out 3).trans rfl⟩ (fun hHeld => ?_)
       clear hK K
       refine norm_ (a' := ?_) ?_ ?_
       rotate_left
       ·show Act.put _ (some 18) _ = _
        simp only [Act.put, List.setIfInBounds_toArray, List.set_cons_zero, List.set_cons_succ, i64_w, i32_w]
        rfl
       refine pure_ (i := 5) (N := some 19) (v := ?_) (a' := ?_) #[true, true, true, true, true, true] rfl rfl (by kernel_rfl) (fun _ _ _ h => h) (Or.inl ⟨by rfl, ?_⟩) ?_ ?_
       rotate_left
       ·intro w'
        go_simp
        with_reducible rfl
       rotate_left
       ·simp only [Act.put, List.setIfInBounds_toArray, List.set_cons_zero, List.set_cons_succ, i64_w, i32_w]
        rfl
       refine done_ (by kernel_rfl) ?_
       try go_wp2
       go_roundg k1
       case measure => have := HK1.out; omega
       case rel => exact ⟨(x3_1), (wrap64 (x9_1 + 1)), (by first | rfl | (simp; done) | (simp [*]; done)), H', ⟨by have := HK1.out; omega⟩, ⟨by (with_reducible repeat (first | apply Kd.R_alloc | apply Kd.R_drewN | apply Kd.R_drew)); exact HO_3.out⟩, ⟨by (with_reducible repeat (first | apply Kd.R_alloc | apply Kd.R_drewN | apply Kd.R_drew)); exact Kd.R_mono HO_7.out (fun _ hk => trivial)⟩, ⟨by repeat (first | (with_reducible first | exact HI0.out | apply IsS70.alloc | apply IsS70.drewN | apply IsS70.drew | refine IsS70.far ?_ NB0_287.out _) | exact HI0.out)⟩, ⟨by repeat (first | (with_reducible first | exact HK.out | apply KeepBut.set_ | apply keep_drewN | apply keep_drew | apply keep_alloc | refine keep_far ?_ GW287.out _) | exact HK.out)⟩, ⟨by repeat (first | (with_reducible first | exact HB.out | apply below_alloc | apply pw_below_drewN | apply below_drew1 | refine below_set ?_ (IsS70.ge HI0.out) | refine below_set ?_ GE287.out) | exact HB.out)⟩⟩
     ·rw [if_neg c7] at H
      exact absurd H (by simp)
    ·rw [if_neg c6] at H
     exact absurd H (by simp)
   ·rw [if_neg c5] at H
    have c5b0 : decide (x9_1 < (t283.length : Int)) = false := decide_eq_false c5
    clear c5
    obtain rfl := Option.some.inj H
    go_wp2
    go_ret
    exact ⟨_, by first | rfl | (simp [errW_none, errW_some] <;> rfl) | (simp [*, errW_none, errW_some] <;> rfl), by (with_reducible repeat (first | apply Kd.R_alloc | apply Kd.R_drewN | apply Kd.R_drew)); exact HO_3.out, by repeat (first | (with_reducible first | exact HI0.out | apply IsS70.alloc | apply IsS70.drewN | apply IsS70.drew) | exact HI0.out), by repeat (first | (with_reducible first | exact HB.out | apply below_alloc | apply pw_below_drewN | apply below_drew1 | refine below_set ?_ (IsS70.ge HI0.out)) | exact HB.out), by repeat (first | (with_reducible first | exact HK.out | apply KeepBut.set_ | apply keep_drewN | apply keep_drew | apply keep_alloc) | exact HK.out)⟩
end Go.Proofs.Ytoijjkhdfooapaa.PB
namespace Go.Proofs.Ytoijjkhdfooapaa.Hd
open Go.RowKit Go.Proofs.YtoijjkhdfooapaaW.PrintWords Go.Proofs.YtoijjkhdfooapaaW.PrintLast Go.Proofs.YtoijjkhdfooapaaW.PrintMore Go.Proofs.Ytoijjkhdfooapaa.PB
set_option linter.unusedVariables false
set_option linter.unusedSimpArgs false
theorem rdT_wall (ws : List Wl) (i : Nat) : rd_T60 ws (i : Int) = ws.getD i zeroW := by
 unfold rd_T60
 rw [Int.toNat_natCast]
 rfl
def cutW (cs : List (List Int)) (a : Wl) : Bool := decide (a.f3 = endOf cs a.f0)
def cutP (cs : List (List Int)) (i : Nat) : List Nat := (List.range i).filter fun j => cutW cs ((wallsOf cs).getD j zeroW)
def cutN (cs : List (List Int)) : List Nat := cutP cs (wallsOf cs).length
def toI (L : List Nat) : List Int := L.map fun (n : Nat) => (n : Int)
theorem cutP_succ (cs : List (List Int)) (i : Nat) : cutP cs (i + 1) = cutP cs i ++ (if cutW cs ((wallsOf cs).getD i zeroW) = true then [i] else []) := by
 unfold cutP
 rw [List.range_succ, List.filter_append, List.filter_cons, List.filter_nil]
theorem cutP_length (cs : List (List Int)) (i : Nat) : (cutP cs i).length ≤ i := by
 unfold cutP
 have := List.length_filter_le (fun j => cutW cs ((wallsOf cs).getD j zeroW)) (List.range i)
 rw [List.length_range] at this
 exact this
theorem toI_length (L : List Nat) : (toI L).length = L.length := by simp [toI]
theorem toI_append (L M : List Nat) : toI (L ++ M) = toI L ++ toI M := by simp [toI]
theorem cutting_l0 {cs : List (List Int)} {rs : List Rc} (h : FloorOk cs rs) : ∀ m i, i + m = (wallsOf cs).length → Evs (fun k => impl_floor_cutting.l0 k (toI (cutP cs i)) (wallsOf cs) ((wallsOf cs).length : Int) (i : Int) cs rs) (toI (cutN cs)) := by
 have hb := wallsOf_bound h
 intro m
 induction m with
 | zero =>
  intro i hi
  obtain rfl : i = (wallsOf cs).length := by omega
  refine Evs.step (h := fun _ => some (toI (cutN cs))) (fun k => ?_) (Evs.const _)
  conv => lhs; unfold impl_floor_cutting.l0
  rw [if_neg (by omega)]
  rfl
 | succ m ih =>
  intro i hi
  have hnx := ih (i + 1) (by omega)
  have hl := cutP_length cs i
  rw [cutP_succ, toI_append] at hnx
  refine Evs.step (fun k => ?_) hnx
  conv => lhs; unfold impl_floor_cutting.l0
  rw [if_pos (by omega), if_pos (by omega), if_pos (by omega), rdT_wall, end_f h, Option.bind_some, wrap_succ (by omega)]
  by_cases hc : ((wallsOf cs).getD i zeroW).f3 = endOf cs ((wallsOf cs).getD i zeroW).f0
  ·rw [if_pos hc, if_pos (by rw [toI_length]; omega), if_pos (show cutW cs ((wallsOf cs).getD i zeroW) = true from decide_eq_true hc)]
   rfl
  ·rw [if_neg hc, if_neg (show ¬ cutW cs ((wallsOf cs).getD i zeroW) = true by unfold cutW; rw [decide_eq_false hc]; simp)]
   rw [show toI [] = [] from rfl, List.append_nil]
theorem cutting_ev {cs : List (List Int)} {rs : List Rc} (h : FloorOk cs rs) : Evs (fun k => impl_floor_cutting.f k cs rs) (toI (cutN cs)) :=
 Evs.bind (walls_ev h) (cutting_l0 h (wallsOf cs).length 0 (by omega))
def fourW (a : Wl) : List Int := [if a.f0 = true then 1 else 0, a.f1, a.f2, a.f3]
theorem walls4_eq (cs : List (List Int)) : walls4 cs = (wallsOf cs).map fourW := by
 unfold walls4
 rw [wallsOf_eq, List.map_append, List.map_map, List.map_map]
 rfl
theorem walls4_len (cs : List (List Int)) : (walls4 cs).length = (wallsOf cs).length := by rw [walls4_eq, List.length_map]
theorem walls4_at (cs : List (List Int)) (i : Nat) (hi : i < (wallsOf cs).length) : rd_L3 (walls4 cs) (i : Int) = fourW ((wallsOf cs).getD i zeroW) := by
 unfold rd_L3
 rw [walls4_eq, Int.toNat_natCast, List.getD_eq_getElem?_getD, List.getElem?_map, List.getElem?_eq_getElem hi, List.getD_eq_getElem?_getD, List.getElem?_eq_getElem hi]
 rfl
theorem size0 {p : List ByteArray} {cs : List (List Int)} {rs : List Rc} (F : PlanFacts p cs rs) : ((rdOf ByteArray.empty p 0).size : Int) = (wideOf cs : Int) := by
 rw [← F.wide, wideOf_numsOf]
 rfl
theorem l3Long_f {p : List ByteArray} {cs : List (List Int)} {rs : List Rc} (F : PlanFacts p cs rs) (a : Wl) : spec_l3Long.f p (fourW a) = some (cutW cs a) := by
 obtain ⟨lv, a1, a2, a3⟩ := a
 have o1 := F.ok.h1
 have l1 := F.len
 have s0 := size0 F
 cases lv with
 | false =>
  have t0 : rd (fourW ⟨false, a1, a2, a3⟩) 0 = 0 := rfl
  have t3 : rd (fourW ⟨false, a1, a2, a3⟩) 3 = a3 := rfl
  have tl : ((fourW ⟨false, a1, a2, a3⟩).length : Int) = 4 := rfl
  unfold spec_l3Long.f
  rw [tl, t0, t3, if_pos (by omega), if_pos rfl, if_pos (by omega)]
  by_cases hc : a3 = (p.length : Int)
  ·rw [if_pos hc]
   unfold cutW endOf
   rw [if_neg (by simp), decide_eq_true (by dsimp only; omega)]
  ·rw [if_neg hc, if_neg (by omega)]
   unfold cutW endOf
   rw [if_neg (by simp), decide_eq_false (by dsimp only; omega)]
 | true =>
  have t0 : rd (fourW ⟨true, a1, a2, a3⟩) 0 = 1 := rfl
  have t3 : rd (fourW ⟨true, a1, a2, a3⟩) 3 = a3 := rfl
  have tl : ((fourW ⟨true, a1, a2, a3⟩).length : Int) = 4 := rfl
  unfold spec_l3Long.f
  rw [tl, t0, t3, if_pos (by omega), if_neg (by omega), if_pos rfl, if_pos (by omega), if_pos (by omega), s0]
  unfold cutW endOf
  rw [if_pos rfl]
  rfl
def headF : List Nat → Int × Bool
 | [] => (0, false)
 | i :: _ => ((i : Int), true)
def cutFirstF (p : List ByteArray) : Int × Bool := match floorF p with
 | none => (0, false)
 | some (cs, _) => headF (cutN cs)
theorem cutFirst_l0 {p : List ByteArray} {cs : List (List Int)} {rs : List Rc} (F : PlanFacts p cs rs) : ∀ m i, i + m = (wallsOf cs).length → Evs (fun k => spec_CutFirst.l0 k p (walls4 cs) (i : Int)) (headF ((List.range' i m).filter fun j => cutW cs ((wallsOf cs).getD j zeroW))) := by
 have hb := wallsOf_bound F.ok
 intro m
 induction m with
 | zero =>
  intro i hi
  refine Evs.step (h := fun _ => some (0, false)) (fun k => ?_) (Evs.const _)
  conv => lhs; unfold spec_CutFirst.l0
  rw [if_neg (by rw [walls4_len]; omega)]
 | succ m ih =>
  intro i hi
  have hnx := ih (i + 1) (by omega)
  rw [List.range'_succ, List.filter_cons]
  cases hc : cutW cs ((wallsOf cs).getD i zeroW) with
  | true =>
   rw [if_pos rfl]
   refine Evs.step (h := fun _ => some ((i : Int), true)) (fun k => ?_) (Evs.const _)
   conv => lhs; unfold spec_CutFirst.l0
   rw [if_pos (by rw [walls4_len]; omega), if_pos (by omega), walls4_at cs i (by omega), l3Long_f F, Option.bind_some, hc, if_pos rfl]
  | false =>
   rw [if_neg (by simp)]
   refine Evs.step (fun k => ?_) hnx
   conv => lhs; unfold spec_CutFirst.l0
   rw [if_pos (by rw [walls4_len]; omega), if_pos (by omega), walls4_at cs i (by omega), l3Long_f F, Option.bind_some, hc, if_neg (by simp), wrap_succ (by omega)]
theorem CutFirst_ev (p : List ByteArray) (hp : smallP p) : Evs (fun k => spec_CutFirst.f k p) (cutFirstF p) := by
 have h1 := PlanIn_ev p hp
 rcases planB_cases p with ⟨e1, f1⟩ | ⟨e1, cs, rs, f1⟩
 ·rw [e1] at h1
  have : cutFirstF p = (0, false) := by unfold cutFirstF; rw [f1]
  rw [this]
  refine Evs.bind h1 ?_
  exact Evs.neg (by simp) (Evs.const _)
 ·rw [e1] at h1
  have F := floor_facts f1
  have : cutFirstF p = headF (cutN cs) := by unfold cutFirstF; rw [f1]
  rw [this]
  have hz := cutFirst_l0 F (wallsOf cs).length 0 (by omega)
  rw [← List.range_eq_range'] at hz
  exact Evs.bind h1 (Evs.pos rfl (Evs.bind (l2Walls_ev F) hz))
end Go.Proofs.Ytoijjkhdfooapaa.Hd
namespace Go.Proofs.Ytoijjkhdfooapaa.Hd
open Go.RowKit Go.Proofs.YtoijjkhdfooapaaW.PrintWords Go.Proofs.YtoijjkhdfooapaaW.PrintLast Go.Proofs.YtoijjkhdfooapaaW.PrintMore Go.Proofs.Ytoijjkhdfooapaa.PB
set_option linter.unusedVariables false
set_option linter.unusedSimpArgs false
set_option maxHeartbeats 4000000 in
set_option maxRecDepth 100000 in
theorem CutFirst_calls (A0 : Option Addr) (c0 : Nat) (l0 : List ByteArray) (w : World) (hr0 : Kd.C Kd.string w A0 l0.length l0) (hc0 : l0.length ≤ c0) (hp : smallP l0) :
  Calls Try.prog 18 #[.slice A0 l0.length c0] w fun e w' => e = .returned (.tuple #[.int .i64 (cutFirstF l0).1, .bool (cutFirstF l0).2]) ∧ Below w.heap.size w w' := by
 have HR := Aside0.mk hr0
 have HC := Aside0.mk hc0
 have HP := Aside0.mk hp
 clear hr0 hc0 hp
 generalize hM : cutFirstF l0 = res
 have HM := Aside0.mk hM
 clear hM
 generalize hF : floorF l0 = t
 have HF := Aside0.mk hF
 clear hF
 rcases t with _ | ⟨cs, rs⟩
 ·have e : res = (0, false) := by rw [← HM.out]; unfold cutFirstF; rw [HF.out]
  subst e
  go_enter Try.func18, Try.ntmps18
  go_wp2_with (first
   | (go_at_call 55; refine (floorOf_calls A0 c0 l0 _ HR.out HC.out HP.out).mono ?_; rw [HF.out]; rintro e w8 ⟨hb8, v8, b8, rfl, rfl⟩; have HB8 := Aside0.mk hb8; clear hb8))
  go_ret2
  exact ⟨rfl, HB8.out⟩
 ·have e : res = headF (cutN cs) := by rw [← HM.out]; unfold cutFirstF; rw [HF.out]
  have hok := floorF_ok HF.out
  obtain ⟨K, hK⟩ := cutting_ev hok
  have HW := Aside0.mk (hK K (Nat.le_refl K))
  have hle : (cutN cs).length ≤ 72 := by
   have := cutP_length cs (wallsOf cs).length
   have := wallsOf_bound hok
   unfold cutN
   omega
  clear hK hok
  generalize cutN cs = cn at *
  rcases cn with _ | ⟨i, cn⟩
  ·have HE := Aside0.mk (show res = (0, false) from e)
   clear e hle
   go_enter Try.func18, Try.ntmps18
   go_wp2_with (first
    | (go_at_call 55; refine (floorOf_calls A0 c0 l0 _ HR.out HC.out HP.out).mono ?_; rw [HF.out]; rintro e w8 ⟨hb8, v8, b8, rfl, rfl, g, rfl, hfl⟩; have HB8 := Aside0.mk hb8; have HFl8 := Aside0.mk hfl; clear hb8 hfl)
    | (go_at_call 56; refine (impl_floor_cutting.calls K g cs rs (toI []) _ _ HFl8.out (Below.refl _ _) HW.out).mono ?_; rintro e w9 ⟨v9, rfl, hr9, -, hb9, -⟩; obtain ⟨A9, c9, e9⟩ := Kd.R_slice hr9; subst e9; rw [show (toI []).length = 0 from rfl]; have HB9 := Aside0.mk (below_step HB8.out hb9); clear hb9 hr9))
   go_ret2
   rw [HE.out]
   exact ⟨rfl, HB9.out⟩
  ·have HE := Aside0.mk (show res = ((i : Int), true) from e)
   have hl : (toI (i :: cn)).length = cn.length + 1 := by rw [toI_length]; rfl
   have h0 : rd (toI (i :: cn)) 0 = (i : Int) := rfl
   have HL := Aside0.mk hl
   have H0 := Aside0.mk h0
   rw [List.length_cons] at hle
   clear e hl h0
   generalize toI (i :: cn) = cl at *
   have d0 : (((cn.length + 1 : Nat) : Int) == 0) = false := by rw [beq_eq_false_iff_ne]; omega
   have d1 : (0 : Int) < ((cn.length + 1 : Nat) : Int) := by omega
   go_enter Try.func18, Try.ntmps18
   go_wp2_with (first
    | (go_at_call 55; refine (floorOf_calls A0 c0 l0 _ HR.out HC.out HP.out).mono ?_; rw [HF.out]; rintro e w8 ⟨hb8, v8, b8, rfl, rfl, g, rfl, hfl⟩; have HB8 := Aside0.mk hb8; have HFl8 := Aside0.mk hfl; clear hb8 hfl)
    | (go_at_call 56; refine (impl_floor_cutting.calls K g cs rs cl _ _ HFl8.out (Below.refl _ _) HW.out).mono ?_; rintro e w9 ⟨v9, rfl, hr9, -, hb9, -⟩; obtain ⟨A8, c8, e8⟩ := Kd.R_slice hr9; subst e8; rw [HL.out]; have HB9 := Aside0.mk (below_step HB8.out hb9); have HF9 := Aside0.mk (HFl8.out.below hb9); clear hb9 hr9)
    | (go_at_call 56; refine (impl_floor_cutting.calls K g cs rs cl _ _ HF9.out (Below.refl _ _) HW.out).mono ?_; rintro e w10 ⟨v10, rfl, hr10, -, hb10, -⟩; obtain ⟨g9, c9, e9, -, -, -, -⟩ := Kd.R_form hr10 (by rw [HL.out]; omega); subst e9; have hx10 := (Kd.R_celln (0 : Int) hr10 0 (by omega) (by rw [HL.out]; omega)).1; rw [show rdOf (0 : Int) cl 0 = (i : Int) from H0.out] at hx10; replace hx10 : w10.cell? ⟨g9, 0, none⟩ = some (.int .i64 (i : Int)) := hx10; rw [HL.out]; have HB10 := Aside0.mk (below_step HB9.out hb10); clear hb10 hr10))
   go_ret2
   rw [HE.out]
   exact ⟨rfl, HB10.out⟩
end Go.Proofs.Ytoijjkhdfooapaa.Hd
namespace Go.Proofs.Ytoijjkhdfooapaa.Hd
open Go.RowKit Go.Proofs.YtoijjkhdfooapaaW.PrintWords Go.Proofs.YtoijjkhdfooapaaW.PrintLast Go.Proofs.YtoijjkhdfooapaaW.PrintMore Go.Proofs.Ytoijjkhdfooapaa.PB
set_option linter.unusedVariables false
set_option linter.unusedSimpArgs false
def impl_CutFirst.f (l0 : List ByteArray) : Option (Int × Bool) := if smallB l0 = true then some (cutFirstF l0) else none
theorem impl_CutFirst.calls (A0 : Option Addr) (c0 : Nat) (l0 : List ByteArray) (r1 : Int) (r2 : Bool) (w : World) (hr0 : Kd.C Kd.string w A0 l0.length l0) (hc0 : l0.length ≤ c0) (h : impl_CutFirst.f l0 = some (r1, r2)) :
  Calls Try.prog 18 #[.slice A0 l0.length c0] w fun e w' => e = .returned (.tuple #[.int .i64 r1, .bool r2]) ∧ Below w.heap.size w w' := by
 unfold impl_CutFirst.f at h
 split at h
 ·rename_i hs
  have e := Option.some.inj h
  have := CutFirst_calls A0 c0 l0 w hr0 hc0 ((smallB_iff _).1 hs)
  rw [e] at this
  exact this
 ·cases h
end Go.Proofs.Ytoijjkhdfooapaa.Hd
namespace Go.Proofs.Ytoijjkhdfooapaa.CF
open Go.Proofs.Ytoijjkhdfooapaa.PB Go.Proofs.Ytoijjkhdfooapaa.Hd
open Go.RowKit Go.Proofs.YtoijjkhdfooapaaW.PrintWords Go.Proofs.YtoijjkhdfooapaaW.PrintLast Go.Proofs.YtoijjkhdfooapaaW.PrintMore
attribute [local go_sem] max2_int min2_int max_two min_two max_three min_three max_four min_four   -- for this text's walks alone
set_option linter.unusedVariables false
set_option linter.unusedSimpArgs false
def errW : Option Int → Value
 | none => .nilIface
 | some c => .iface 0 (.int .i64 c)
theorem errW_none : errW none = .nilIface := rfl
theorem errW_some (c : Int) : errW (some c) = .iface 0 (.int .i64 c) := rfl
theorem info3 : (Try.prog.info? 3).map (fun i => (i.zero, i.size, i.bytes)) = some (some (.int .i64 0), 1, 8) := by kernel_rfl
theorem info5 : (Try.prog.info? 5).map (fun i => (i.zero, i.size, i.bytes)) = some (some (.int .u8 0), 1, 1) := by kernel_rfl
theorem info9 : (Try.prog.info? 9).map (fun i => (i.zero, i.size, i.bytes)) = some (some (.string ⟨#[]⟩), 1, 16) := by kernel_rfl
theorem info34 : (Try.prog.info? 34).map (fun i => (i.zero, i.size, i.bytes)) = some (some (.slice none 0 0), 1, 24) := by kernel_rfl
theorem info60 : (Try.prog.info? 60).map (fun i => (i.zero, i.size, i.bytes)) = some (some (.agg #[(.bool false), (.int .i64 0), (.int .i64 0), (.int .i64 0)]), 4, 32) := by kernel_rfl
def rd_L3 (xs : List (List Int)) (i : Int) : (List Int) := xs.getD i.toNat ([] : List Int)
theorem at_L3 {w : World} {A : Option Addr} {n : Nat} {xs : List (List Int)} (h : Kd.C (Kd.slice 3 (Kd.int .i64)) w A n xs) (i : Int) (h0 : 0 ≤ i) (h1 : i < n) : ∃ ad A0 c0, A = some ad ∧ w.cell? (ad.add i.toNat) = some (.slice A0 (rd_L3 xs i).length c0) ∧ (rd_L3 xs i).length ≤ c0 ∧ (Kd.int .i64).C w A0 (rd_L3 xs i).length (rd_L3 xs i) := by
 obtain ⟨ad, c, e, _, hK, hc0⟩ := Kd.C_get h ([] : List Int) i h0 h1
 have hc : ∀ j u, c[j]? = some u → w.cell? (ad.add (i.toNat * 1 + j)) = some u := hc0
 obtain ⟨A0, c0, rfl, l0, g0⟩ := hK
 exact ⟨ad, A0, c0, e, by have hq := hc 0 _ rfl; rwa [Nat.mul_one, Nat.add_zero] at hq, l0, g0⟩
structure S87 where
 f0 : Int
 f1 : Int
 f2 : Int
 f3 : Int
def z87 : S87 := ⟨(0 : Int), (0 : Int), (0 : Int), (0 : Int)⟩
def k87 : Kd S87 := Kd.iso (Kd.pair (Kd.int .i64) (Kd.pair (Kd.int .i64) (Kd.pair (Kd.int .i64) (Kd.int .i64)))) (fun x : S87 => (x.f0, x.f1, x.f2, x.f3))
theorem k87_open {w : World} {x : S87} {cs : List Value} (h : k87.K w x cs) : cs = [.int .i64 x.f0, .int .i64 x.f1, .int .i64 x.f2, .int .i64 x.f3] := by
 obtain ⟨_, _, rfl, rfl, ⟨_, _, rfl, rfl, ⟨_, _, rfl, rfl, rfl⟩⟩⟩ := h
 exact rfl
theorem k87_mkM (w : World) (base : Nat) (ok : Nat → Prop) (x : S87)  : k87.M w base ok x [.int .i64 x.f0, .int .i64 x.f1, .int .i64 x.f2, .int .i64 x.f3] := ⟨[.int .i64 x.f0], [.int .i64 x.f1, .int .i64 x.f2, .int .i64 x.f3], rfl, rfl, ⟨[.int .i64 x.f1], [.int .i64 x.f2, .int .i64 x.f3], rfl, rfl, ⟨[.int .i64 x.f2], [.int .i64 x.f3], rfl, rfl, rfl⟩⟩⟩
def rd_T87 (xs : List S87) (i : Int) : S87 := xs.getD i.toNat z87
theorem at_T87 {w : World} {A : Option Addr} {n : Nat} {xs : List S87} (h : Kd.C k87 w A n xs) (i : Int) (h0 : 0 ≤ i) (h1 : i < n) : ∃ ad , A = some ad ∧ w.cell? (ad.add (i.toNat * 4)) = some (.int .i64 (rd_T87 xs i).f0) ∧ w.cell? ⟨(ad.add (i.toNat * 4)).block, (ad.add (i.toNat * 4)).off + 1, none⟩ = some (.int .i64 (rd_T87 xs i).f1) ∧ w.cell? ⟨(ad.add (i.toNat * 4)).block, (ad.add (i.toNat * 4)).off + 2, none⟩ = some (.int .i64 (rd_T87 xs i).f2) ∧ w.cell? ⟨(ad.add (i.toNat * 4)).block, (ad.add (i.toNat * 4)).off + 3, none⟩ = some (.int .i64 (rd_T87 xs i).f3) := by
 obtain ⟨ad, c, e, _, hK, hc0⟩ := Kd.C_get h z87 i h0 h1
 have hc : ∀ j u, c[j]? = some u → w.cell? (ad.add (i.toNat * 4 + j)) = some u := hc0
 obtain rfl := k87_open hK
 exact ⟨ad, e, hc 0 _ rfl, by rw [← add_field _ _ 1 (by omega)]; exact hc 1 _ rfl, by rw [← add_field _ _ 2 (by omega)]; exact hc 2 _ rfl, by rw [← add_field _ _ 3 (by omega)]; exact hc 3 _ rfl⟩
structure S60 where
 f0 : Bool
 f1 : Int
 f2 : Int
 f3 : Int
def z60 : S60 := ⟨false, (0 : Int), (0 : Int), (0 : Int)⟩
def k60 : Kd S60 := Kd.iso (Kd.pair Kd.bool (Kd.pair (Kd.int .i64) (Kd.pair (Kd.int .i64) (Kd.int .i64)))) (fun x : S60 => (x.f0, x.f1, x.f2, x.f3))
theorem k60_open {w : World} {x : S60} {cs : List Value} (h : k60.K w x cs) : cs = [.bool x.f0, .int .i64 x.f1, .int .i64 x.f2, .int .i64 x.f3] := by
 obtain ⟨_, _, rfl, rfl, ⟨_, _, rfl, rfl, ⟨_, _, rfl, rfl, rfl⟩⟩⟩ := h
 exact rfl
theorem k60_openM {w : World} {base : Nat} {ok : Nat → Prop} {x : S60} {cs : List Value} (h : k60.M w base ok x cs) : cs = [.bool x.f0, .int .i64 x.f1, .int .i64 x.f2, .int .i64 x.f3] := by
 obtain ⟨_, _, rfl, rfl, ⟨_, _, rfl, rfl, ⟨_, _, rfl, rfl, rfl⟩⟩⟩ := h
 exact rfl
theorem k60_mkM (w : World) (base : Nat) (ok : Nat → Prop) (x : S60)  : k60.M w base ok x [.bool x.f0, .int .i64 x.f1, .int .i64 x.f2, .int .i64 x.f3] := ⟨[.bool x.f0], [.int .i64 x.f1, .int .i64 x.f2, .int .i64 x.f3], rfl, rfl, ⟨[.int .i64 x.f1], [.int .i64 x.f2, .int .i64 x.f3], rfl, rfl, ⟨[.int .i64 x.f2], [.int .i64 x.f3], rfl, rfl, rfl⟩⟩⟩
def rd_T60 (xs : List S60) (i : Int) : S60 := xs.getD i.toNat z60
theorem at_T60 {w : World} {A : Option Addr} {n : Nat} {xs : List S60} (h : Kd.C k60 w A n xs) (i : Int) (h0 : 0 ≤ i) (h1 : i < n) : ∃ ad , A = some ad ∧ w.cell? (ad.add (i.toNat * 4)) = some (.bool (rd_T60 xs i).f0) ∧ w.cell? ⟨(ad.add (i.toNat * 4)).block, (ad.add (i.toNat * 4)).off + 1, none⟩ = some (.int .i64 (rd_T60 xs i).f1) ∧ w.cell? ⟨(ad.add (i.toNat * 4)).block, (ad.add (i.toNat * 4)).off + 2, none⟩ = some (.int .i64 (rd_T60 xs i).f2) ∧ w.cell? ⟨(ad.add (i.toNat * 4)).block, (ad.add (i.toNat * 4)).off + 3, none⟩ = some (.int .i64 (rd_T60 xs i).f3) := by
 obtain ⟨ad, c, e, _, hK, hc0⟩ := Kd.C_get h z60 i h0 h1
 have hc : ∀ j u, c[j]? = some u → w.cell? (ad.add (i.toNat * 4 + j)) = some u := hc0
 obtain rfl := k60_open hK
 exact ⟨ad, e, hc 0 _ rfl, by rw [← add_field _ _ 1 (by omega)]; exact hc 1 _ rfl, by rw [← add_field _ _ 2 (by omega)]; exact hc 2 _ rfl, by rw [← add_field _ _ 3 (by omega)]; exact hc 3 _ rfl⟩
end Go.Proofs.Ytoijjkhdfooapaa.CF
namespace Go.Proofs.Ytoijjkhdfooapaa.CF
open Go.Proofs.Ytoijjkhdfooapaa.PB Go.Proofs.Ytoijjkhdfooapaa.Hd
open Go.RowKit Go.Proofs.YtoijjkhdfooapaaW.PrintWords Go.Proofs.YtoijjkhdfooapaaW.PrintLast Go.Proofs.YtoijjkhdfooapaaW.PrintMore
attribute [local go_sem] max2_int min2_int max_two min_two max_three min_three max_four min_four   -- for this text's walks alone
set_option linter.unusedVariables false
set_option linter.unusedSimpArgs false
def laws_FnExactCutFirst.j0 : Nat → List ByteArray → List ByteArray → Bool → Option (Bool)
 | 0, _, _, _ => none
 | k + 1, x0, x6, x34 => if x34 = true then (some false) else ((laws_toStringS.f k x0).bind fun t305 => ((laws_eqStringS.f k x6 t305).bind fun t308 => (if t308 = true then (some true) else (some false))))
def laws_FnExactCutFirst.f (k : Nat) (l0 : List ByteArray) : Option (Bool) := (laws_szStringS.f k l0 1048576).bind fun t294 => (if t294 < 0 then (some true) else ((laws_toStringS.f k l0).bind fun t295 => ((spec_CutFirst.f k t295).bind fun bt298 => ((laws_toStringS.f k l0).bind fun t300 => ((impl_CutFirst.f t300).bind fun bt303 => (if bt303.1 = bt298.1 then (laws_FnExactCutFirst.j0 k l0 t300 (bt303.2 != bt298.2)) else (laws_FnExactCutFirst.j0 k l0 t300 true)))))))
set_option maxHeartbeats 8000000 in
set_option maxRecDepth 100000 in
theorem laws_FnExactCutFirst.calls (k : Nat) (A0 : Option Addr) (c0 : Nat) (l0 : List ByteArray) (r : Bool) (w : World) (hr0 : Kd.C Kd.string w A0 l0.length l0) (hc0 : l0.length ≤ c0) (h : laws_FnExactCutFirst.f k l0 = some r) :
  Calls Try.prog 3 #[.slice A0 l0.length c0] w fun e w' => e = .returned (.bool r) ∧ Below w.heap.size w w' := by
 have HR0 := Aside0.mk hr0
 have HC0 := Aside0.mk hc0
 clear hr0 hc0
 have HB := Aside0.mk (Below.refl w.heap.size w)
 have H : ((laws_szStringS.f k l0 1048576).bind fun t294 => (if t294 < 0 then (some true) else ((laws_toStringS.f k l0).bind fun t295 => ((spec_CutFirst.f k t295).bind fun bt298 => ((laws_toStringS.f k l0).bind fun t300 => ((impl_CutFirst.f t300).bind fun bt303 => (if bt303.1 = bt298.1 then (laws_FnExactCutFirst.j0 k l0 t300 (bt303.2 != bt298.2)) else (laws_FnExactCutFirst.j0 k l0 t300 true)))))))) = some r := h
 clear h
 replace H := Option.bind_eq_some_iff.mp H
 obtain ⟨t294, A20, H⟩ := H
 replace H : (if t294 < 0 then (some true) else ((laws_toStringS.f k l0).bind fun t295 => ((spec_CutFirst.f k t295).bind fun bt298 => ((laws_toStringS.f k l0).bind fun t300 => ((impl_CutFirst.f t300).bind fun bt303 => (if bt303.1 = bt298.1 then (laws_FnExactCutFirst.j0 k l0 t300 (bt303.2 != bt298.2)) else (laws_FnExactCutFirst.j0 k l0 t300 true))))))) = some r := H
 have A2 := Aside0.mk A20
 clear A20
 by_cases c3 : t294 < 0
 ·rw [if_pos c3] at H
  have c3b0 : decide (t294 < 0) = true := decide_eq_true c3
  clear c3
  obtain rfl := Option.some.inj H
  go_enter Try.func3, Try.ntmps3
  go_wp2_with (first | ((with_reducible refine gate_callee (f := 15) rfl ?_); refine goesL_ (some 11) rfl rfl Try.func15 (by kernel_rfl) rfl #[.slice A0 l0.length c0, .int .i64 1048576] rfl (by (try simp only [List.map_toArray, List.map_cons, List.map_nil]); first | done | rfl | (simp only [List.length_drop, List.length_take]; rfl)) ?_; (with_reducible refine (laws_szStringS.calls k _ _ l0 1048576 t294 _ ?side1 ?side2 A2.out).mono ?_); (case side1 => repeat (first | exact HR0.out | (with_reducible refine Kd.C_alloc ?_ _) | (with_reducible refine Kd.C_drewN ?_ _) | (with_reducible refine Kd.C_drew ?_))); (case side2 => exact HC0.out); rintro e w' ⟨rfl, ⟨nd, rfl⟩⟩; refine ⟨_, rfl, ?_⟩))
  go_ret
  exact ⟨by first | rfl | (simp [errW_none, errW_some] <;> rfl) | (simp [*, errW_none, errW_some] <;> rfl), by repeat (first | (with_reducible first | exact HB.out | apply below_alloc | apply pw_below_drewN | apply below_drew1) | exact HB.out)⟩
 ·rw [if_neg c3] at H
  have c3b0 : decide (t294 < 0) = false := decide_eq_false c3
  clear c3
  replace H := Option.bind_eq_some_iff.mp H
  obtain ⟨t295, A40, H⟩ := H
  replace H : ((spec_CutFirst.f k t295).bind fun bt298 => ((laws_toStringS.f k l0).bind fun t300 => ((impl_CutFirst.f t300).bind fun bt303 => (if bt303.1 = bt298.1 then (laws_FnExactCutFirst.j0 k l0 t300 (bt303.2 != bt298.2)) else (laws_FnExactCutFirst.j0 k l0 t300 true))))) = some r := H
  have A4 := Aside0.mk A40
  clear A40
  replace H := Option.bind_eq_some_iff.mp H
  obtain ⟨⟨t298, t299⟩, A50, H⟩ := H
  replace H : ((laws_toStringS.f k l0).bind fun t300 => ((impl_CutFirst.f t300).bind fun bt303 => (if bt303.1 = t298 then (laws_FnExactCutFirst.j0 k l0 t300 (bt303.2 != t299)) else (laws_FnExactCutFirst.j0 k l0 t300 true)))) = some r := H
  have A5 := Aside0.mk A50
  clear A50
  replace H := Option.bind_eq_some_iff.mp H
  obtain ⟨t300, A60, H⟩ := H
  replace H : ((impl_CutFirst.f t300).bind fun bt303 => (if bt303.1 = t298 then (laws_FnExactCutFirst.j0 k l0 t300 (bt303.2 != t299)) else (laws_FnExactCutFirst.j0 k l0 t300 true))) = some r := H
  have A6 := Aside0.mk A60
  clear A60
  replace H := Option.bind_eq_some_iff.mp H
  obtain ⟨⟨t303, t304⟩, A70, H⟩ := H
  replace H : (if t303 = t298 then (laws_FnExactCutFirst.j0 k l0 t300 (t304 != t299)) else (laws_FnExactCutFirst.j0 k l0 t300 true)) = some r := H
  have A7 := Aside0.mk A70
  clear A70
  have HC8 := Aside0.mk H
  clear H
  go_enter Try.func3, Try.ntmps3
  go_upto_region 8 with (first | ((with_reducible refine gate_callee (f := 15) rfl ?_); refine goesL_ (some 11) rfl rfl Try.func15 (by kernel_rfl) rfl #[.slice A0 l0.length c0, .int .i64 1048576] rfl (by (try simp only [List.map_toArray, List.map_cons, List.map_nil]); first | done | rfl | (simp only [List.length_drop, List.length_take]; rfl)) ?_; (with_reducible refine (laws_szStringS.calls k _ _ l0 1048576 t294 _ ?side1 ?side2 A2.out).mono ?_); (case side1 => repeat (first | exact HR0.out | (with_reducible refine Kd.C_alloc ?_ _) | (with_reducible refine Kd.C_drewN ?_ _) | (with_reducible refine Kd.C_drew ?_))); (case side2 => exact HC0.out); rintro e w' ⟨rfl, ⟨nd, rfl⟩⟩; refine ⟨_, rfl, ?_⟩) | ((with_reducible refine gate_callee (f := 17) rfl ?_); refine goesL_ (some 16) rfl rfl Try.func17 (by kernel_rfl) rfl #[.slice A0 l0.length c0] rfl (by (try simp only [List.map_toArray, List.map_cons, List.map_nil]); first | done | rfl | (simp only [List.length_drop, List.length_take]; rfl)) ?_; (with_reducible refine (laws_toStringS.calls k _ _ l0 t295 _ ?side1 ?side2 A4.out).mono ?_); (case side1 => repeat (first | exact HR0.out | (with_reducible refine Kd.C_alloc ?_ _) | (with_reducible refine Kd.C_drewN ?_ _) | (with_reducible refine Kd.C_drew ?_))); (case side2 => exact HC0.out); rintro e w9 ⟨v296, rfl, ho0, hb⟩; refine ⟨_, rfl, ?_⟩; have n0_ := Aside0.mk (Kd.R_lower ho0 (below_size (by repeat (first | (with_reducible first | exact HB.out | apply below_alloc | apply pw_below_drewN | apply below_drew1) | exact HB.out)))); have n1_ := Aside0.mk (below_step (by repeat (first | (with_reducible first | exact HB.out | apply below_alloc | apply pw_below_drewN | apply below_drew1) | exact HB.out)) hb); clear HB; have HO297 := n0_; have HB := n1_; clear n0_ n1_; (try clear hb); (try clear hb2); (try clear hk); (try clear hi); (try clear ho0); obtain ⟨Ao10, co10, eo10⟩ := Kd.R_slice HO297.out; subst eo10) | ((with_reducible refine gate_callee (f := 16) rfl ?_); refine goesL_ (some 17) rfl rfl Try.func16 (by kernel_rfl) rfl #[.slice Ao10 t295.length co10] rfl (by (try simp only [List.map_toArray, List.map_cons, List.map_nil]); first | done | rfl | (simp only [List.length_drop, List.length_take]; rfl)) ?_; (with_reducible refine (spec_CutFirst.calls k _ _ t295 t298 t299 _ ?side1 ?side2 A5.out).mono ?_); (case side1 => repeat (first | exact (Kd.R_reads' HO297.out).2.2 | (with_reducible refine Kd.C_alloc ?_ _) | (with_reducible refine Kd.C_drewN ?_ _) | (with_reducible refine Kd.C_drew ?_))); (case side2 => exact (Kd.R_reads' HO297.out).2.1); rintro e w11 ⟨rfl, hb⟩; refine ⟨_, rfl, ?_⟩; have n0_ := Aside0.mk (Kd.R_below (by (with_reducible repeat (first | apply Kd.R_alloc | apply Kd.R_drewN | apply Kd.R_drew)); exact HO297.out) hb); have n1_ := Aside0.mk (below_step (by repeat (first | (with_reducible first | exact HB.out | apply below_alloc | apply pw_below_drewN | apply below_drew1) | exact HB.out)) hb); clear HO297; clear HB; have HO297 := n0_; have HB := n1_; clear n0_ n1_; (try clear hb); (try clear hb2); (try clear hk); (try clear hi)) | ((with_reducible refine gate_callee (f := 17) rfl ?_); refine goesL_ (some 21) rfl rfl Try.func17 (by kernel_rfl) rfl #[.slice A0 l0.length c0] rfl (by (try simp only [List.map_toArray, List.map_cons, List.map_nil]); first | done | rfl | (simp only [List.length_drop, List.length_take]; rfl)) ?_; (with_reducible refine (laws_toStringS.calls k _ _ l0 t300 _ ?side1 ?side2 A6.out).mono ?_); (case side1 => repeat (first | exact (Kd.C_below HR0.out HB.out) | (with_reducible refine Kd.C_alloc ?_ _) | (with_reducible refine Kd.C_drewN ?_ _) | (with_reducible refine Kd.C_drew ?_))); (case side2 => exact HC0.out); rintro e w12 ⟨v301, rfl, ho0, hb⟩; refine ⟨_, rfl, ?_⟩; have n0_ := Aside0.mk (Kd.R_elder' (by (with_reducible repeat (first | apply Kd.R_alloc | apply Kd.R_drewN | apply Kd.R_drew)); exact HO297.out) (Kd.R_base ho0) hb); have n1_ := Aside0.mk (Kd.R_lower (Kd.R_new' ho0 (Kd.R_lt (by (with_reducible repeat (first | apply Kd.R_alloc | apply Kd.R_drewN | apply Kd.R_drew)); exact HO297.out))) (below_size (by repeat (first | (with_reducible first | exact HB.out | apply below_alloc | apply pw_below_drewN | apply below_drew1) | exact HB.out)))); have n2_ := Aside0.mk (below_step (by repeat (first | (with_reducible first | exact HB.out | apply below_alloc | apply pw_below_drewN | apply below_drew1) | exact HB.out)) hb); clear HO297; clear HB; have HO297 := n0_; have HO302 := n1_; have HB := n2_; clear n0_ n1_ n2_; (try clear hb); (try clear hb2); (try clear hk); (try clear hi); (try clear ho0); obtain ⟨Ao13, co13, eo13⟩ := Kd.R_slice HO302.out; subst eo13) | ((with_reducible refine gate_callee (f := 18) rfl ?_); refine goesL_ (some 24) rfl rfl Try.func18 (by kernel_rfl) rfl #[.slice Ao13 t300.length co13] rfl (by (try simp only [List.map_toArray, List.map_cons, List.map_nil]); first | done | rfl | (simp only [List.length_drop, List.length_take]; rfl)) ?_; (with_reducible refine (impl_CutFirst.calls _ _ t300 t303 t304 _ ?side1 ?side2 A7.out).mono ?_); (case side1 => repeat (first | exact (Kd.R_reads' HO302.out).2.2 | (with_reducible refine Kd.C_alloc ?_ _) | (with_reducible refine Kd.C_drewN ?_ _) | (with_reducible refine Kd.C_drew ?_))); (case side2 => exact (Kd.R_reads' HO302.out).2.1); rintro e w14 ⟨rfl, hb⟩; refine ⟨_, rfl, ?_⟩; have n0_ := Aside0.mk (Kd.R_below (by (with_reducible repeat (first | apply Kd.R_alloc | apply Kd.R_drewN | apply Kd.R_drew)); exact HO297.out) hb); have n1_ := Aside0.mk (Kd.R_below (by (with_reducible repeat (first | apply Kd.R_alloc | apply Kd.R_drewN | apply Kd.R_drew)); exact HO302.out) hb); have n2_ := Aside0.mk (below_step (by repeat (first | (with_reducible first | exact HB.out | apply below_alloc | apply pw_below_drewN | apply below_drew1) | exact HB.out)) hb); clear HO297; clear HO302; clear HB; have HO297 := n0_; have HO302 := n1_; have HB := n2_; clear n0_ n1_ n2_; (try clear hb); (try clear hb2); (try clear hk); (try clear hi)))
  (try simp only [Act.put, List.setIfInBounds_toArray, List.set_cons_zero, List.set_cons_succ])
  go_cut [34] (fun v34 wc => ∃ (kq : Nat) (x34_7 : Bool), v34 = .bool x34_7 ∧ Aside0 (laws_FnExactCutFirst.j0 kq l0 t300 x34_7 = some r) ∧ Aside0 (kq ≤ k) ∧ Aside0 (Kd.R Kd.string 9 wc w.heap.size (fun _ => True) (.slice Ao13 t300.length co13) t300) ∧ Aside0 (Below w.heap.size w wc))
  case first =>
   have H := HC8.out
   clear HC8
   by_cases c15 : t303 = t298
   ·rw [if_pos c15] at H
    have c15b0 : (t303 == t298) = true := beq_iff_eq.mpr c15
    have c15b1 : (t303 != t298) = false := bne_eq_false_iff_eq.mpr c15
    clear c15
    (first | rw [c15b0] | (simp only [i64_w, i32_w]; rw [c15b0]) | skip)
    have H' := Aside0.mk H
    clear H
    go_wp2
    go_meet
    case rel => exact ⟨_, ((t304 != t299)), (by first | rfl | (simp; done) | (simp [*]; done)), H', ⟨by first | omega | exact Nat.le_refl _⟩, ⟨by (with_reducible repeat (first | apply Kd.R_alloc | apply Kd.R_drewN | apply Kd.R_drew)); exact Kd.R_mono HO302.out (fun _ hk => trivial)⟩, ⟨by repeat (first | (with_reducible first | exact HB.out | apply below_alloc | apply pw_below_drewN | apply below_drew1) | exact HB.out)⟩⟩
   ·rw [if_neg c15] at H
    have c15b0 : (t303 == t298) = false := beq_eq_false_iff_ne.mpr c15
    have c15b1 : (t303 != t298) = true := bne_iff_ne.mpr c15
    (first | rw [c15b0] | (simp only [i64_w, i32_w]; rw [c15b0]) | skip)
    have H' := Aside0.mk H
    clear H
    go_wp2
    go_meet
    case rel => exact ⟨_, (true), (by first | rfl | (simp; done) | (simp [*]; done)), H', ⟨by first | omega | exact Nat.le_refl _⟩, ⟨by (with_reducible repeat (first | apply Kd.R_alloc | apply Kd.R_drewN | apply Kd.R_drew)); exact Kd.R_mono HO302.out (fun _ hk => trivial)⟩, ⟨by repeat (first | (with_reducible first | exact HB.out | apply below_alloc | apply pw_below_drewN | apply below_drew1) | exact HB.out)⟩⟩
  case rest =>
   clear HC8
   try clear c1
   try clear p2
   try clear c3
   try clear c3b0
   try clear c15
   try clear c15b0
   try clear c15b1
   obtain ⟨kq, x34_7, rfl, HA, HJ7, HO_6, HB⟩ := hcut
   cases kq with
   | zero => exact absurd HA.out (by simp [laws_FnExactCutFirst.j0])
   | succ kj7 =>
    have H := HA.out
    clear HA
    simp only [laws_FnExactCutFirst.j0] at H
    by_cases c16 : x34_7 = true
    ·subst c16
     have H1 : (some false) = some r := by rw [if_pos rfl] at H; exact H
     clear H
     have H := H1
     clear H1
     obtain rfl := Option.some.inj H
     go_wp2
     go_ret
     exact ⟨by first | rfl | (simp [errW_none, errW_some] <;> rfl) | (simp [*, errW_none, errW_some] <;> rfl), by repeat (first | (with_reducible first | exact HB.out | apply below_alloc | apply pw_below_drewN | apply below_drew1) | exact HB.out)⟩
    ·replace c16 := Bool.eq_false_iff.mpr c16
     subst c16
     have H1 : ((laws_toStringS.f kj7 l0).bind fun t305 => ((laws_eqStringS.f kj7 t300 t305).bind fun t308 => (if t308 = true then (some true) else (some false)))) = some r := by rw [if_neg (show ¬ (false = true) by decide)] at H; exact H
     clear H
     have H := H1
     clear H1
     replace H := Option.bind_eq_some_iff.mp H
     obtain ⟨t305, A170, H⟩ := H
     replace H : ((laws_eqStringS.f kj7 t300 t305).bind fun t308 => (if t308 = true then (some true) else (some false))) = some r := H
     have A17 := Aside0.mk A170
     clear A170
     replace H := Option.bind_eq_some_iff.mp H
     obtain ⟨t308, A180, H⟩ := H
     replace H : (if t308 = true then (some true) else (some false)) = some r := H
     have A18 := Aside0.mk A180
     clear A180
     by_cases c19 : t308 = true
     ·subst c19
      have H1 : (some true) = some r := by rw [if_pos rfl] at H; exact H
      clear H
      have H := H1
      clear H1
      obtain rfl := Option.some.inj H
      go_wp2_with (first | ((with_reducible refine gate_callee (f := 17) rfl ?_); refine goesL_ (some 37) rfl rfl Try.func17 (by kernel_rfl) rfl #[.slice A0 l0.length c0] rfl (by (try simp only [List.map_toArray, List.map_cons, List.map_nil]); first | done | rfl | (simp only [List.length_drop, List.length_take]; rfl)) ?_; (with_reducible refine (laws_toStringS.calls kj7 _ _ l0 t305 _ ?side1 ?side2 A17.out).mono ?_); (case side1 => repeat (first | exact (Kd.C_below HR0.out HB.out) | (with_reducible refine Kd.C_alloc ?_ _) | (with_reducible refine Kd.C_drewN ?_ _) | (with_reducible refine Kd.C_drew ?_))); (case side2 => exact HC0.out); rintro e w20 ⟨v306, rfl, ho0, hb⟩; refine ⟨_, rfl, ?_⟩; have n0_ := Aside0.mk (Kd.R_elder' (by (with_reducible repeat (first | apply Kd.R_alloc | apply Kd.R_drewN | apply Kd.R_drew)); exact HO_6.out) (Kd.R_base ho0) hb); have n1_ := Aside0.mk (Kd.R_lower (Kd.R_new' ho0 (Kd.R_lt (by (with_reducible repeat (first | apply Kd.R_alloc | apply Kd.R_drewN | apply Kd.R_drew)); exact HO_6.out))) (below_size (by repeat (first | (with_reducible first | exact HB.out | apply below_alloc | apply pw_below_drewN | apply below_drew1) | exact HB.out)))); have n2_ := Aside0.mk (below_step (by repeat (first | (with_reducible first | exact HB.out | apply below_alloc | apply pw_below_drewN | apply below_drew1) | exact HB.out)) hb); clear HO_6; clear HB; have HO_6 := n0_; have HO307 := n1_; have HB := n2_; clear n0_ n1_ n2_; (try clear hb); (try clear hb2); (try clear hk); (try clear hi); (try clear ho0); obtain ⟨Ao21, co21, eo21⟩ := Kd.R_slice HO307.out; subst eo21) | ((with_reducible refine gate_callee (f := 19) rfl ?_); refine goesL_ (some 38) rfl rfl Try.func19 (by kernel_rfl) rfl #[.slice Ao13 t300.length co13, .slice Ao21 t305.length co21] rfl (by (try simp only [List.map_toArray, List.map_cons, List.map_nil]); first | done | rfl | (simp only [List.length_drop, List.length_take]; rfl)) ?_; (with_reducible refine (laws_eqStringS.calls kj7 _ _ t300 _ _ t305 true _ ?side1 ?side2 ?side3 ?side4 A18.out).mono ?_); (case side1 => repeat (first | exact (Kd.R_reads' HO_6.out).2.2 | (with_reducible refine Kd.C_alloc ?_ _) | (with_reducible refine Kd.C_drewN ?_ _) | (with_reducible refine Kd.C_drew ?_))); (case side2 => exact (Kd.R_reads' HO_6.out).2.1); (case side3 => repeat (first | exact (Kd.R_reads' HO307.out).2.2 | (with_reducible refine Kd.C_alloc ?_ _) | (with_reducible refine Kd.C_drewN ?_ _) | (with_reducible refine Kd.C_drew ?_))); (case side4 => exact (Kd.R_reads' HO307.out).2.1); rintro e w' ⟨rfl, ⟨nd, rfl⟩⟩; refine ⟨_, rfl, ?_⟩))
      go_ret
      exact ⟨by first | rfl | (simp [errW_none, errW_some] <;> rfl) | (simp [*, errW_none, errW_some] <;> rfl), by repeat (first | (with_reducible first | exact HB.out | apply below_alloc | apply pw_below_drewN | apply below_drew1) | exact HB.out)⟩
     ·replace c19 := Bool.eq_false_iff.mpr c19
      subst c19
      have H1 : (some false) = some r := by rw [if_neg (show ¬ (false = true) by decide)] at H; exact H
      clear H
      have H := H1
      clear H1
      obtain rfl := Option.some.inj H
      go_wp2_with (first | ((with_reducible refine gate_callee (f := 17) rfl ?_); refine goesL_ (some 37) rfl rfl Try.func17 (by kernel_rfl) rfl #[.slice A0 l0.length c0] rfl (by (try simp only [List.map_toArray, List.map_cons, List.map_nil]); first | done | rfl | (simp only [List.length_drop, List.length_take]; rfl)) ?_; (with_reducible refine (laws_toStringS.calls kj7 _ _ l0 t305 _ ?side1 ?side2 A17.out).mono ?_); (case side1 => repeat (first | exact (Kd.C_below HR0.out HB.out) | (with_reducible refine Kd.C_alloc ?_ _) | (with_reducible refine Kd.C_drewN ?_ _) | (with_reducible refine Kd.C_drew ?_))); (case side2 => exact HC0.out); rintro e w22 ⟨v306, rfl, ho0, hb⟩; refine ⟨_, rfl, ?_⟩; have n0_ := Aside0.mk (Kd.R_elder' (by (with_reducible repeat (first | apply Kd.R_alloc | apply Kd.R_drewN | apply Kd.R_drew)); exact HO_6.out) (Kd.R_base ho0) hb); have n1_ := Aside0.mk (Kd.R_lower (Kd.R_new' ho0 (Kd.R_lt (by (with_reducible repeat (first | apply Kd.R_alloc | apply Kd.R_drewN | apply Kd.R_drew)); exact HO_6.out))) (below_size (by repeat (first | (with_reducible first | exact HB.out | apply below_alloc | apply pw_below_drewN | apply below_drew1) | exact HB.out)))); have n2_ := Aside0.mk (below_step (by repeat (first | (with_reducible first | exact HB.out | apply below_alloc | apply pw_below_drewN | apply below_drew1) | exact HB.out)) hb); clear HO_6; clear HB; have HO_6 := n0_; have HO307 := n1_; have HB := n2_; clear n0_ n1_ n2_; (try clear hb); (try clear hb2); (try clear hk); (try clear hi); (try clear ho0); obtain ⟨Ao23, co23, eo23⟩ := Kd.R_slice HO307.out; subst eo23) | ((with_reducible refine gate_callee (f := 19) rfl ?_); refine goesL_ (some 38) rfl rfl Try.func19 (by kernel_rfl) rfl #[.slice Ao13 t300.length co13, .slice Ao23 t305.length co23] rfl (by (try simp only [List.map_toArray, List.map_cons, List.map_nil]); first | done | rfl | (simp only [List.length_drop, List.length_take]; rfl)) ?_; (with_reducible refine (laws_eqStringS.calls kj7 _ _ t300 _ _ t305 false _ ?side1 ?side2 ?side3 ?side4 A18.out).mono ?_); (case side1 => repeat (first | exact (Kd.R_reads' HO_6.out).2.2 | (with_reducible refine Kd.C_alloc ?_ _) | (with_reducible refine Kd.C_drewN ?_ _) | (with_reducible refine Kd.C_drew ?_))); (case side2 => exact (Kd.R_reads' HO_6.out).2.1); (case side3 => repeat (first | exact (Kd.R_reads' HO307.out).2.2 | (with_reducible refine Kd.C_alloc ?_ _) | (with_reducible refine Kd.C_drewN ?_ _) | (with_reducible refine Kd.C_drew ?_))); (case side4 => exact (Kd.R_reads' HO307.out).2.1); rintro e w' ⟨rfl, ⟨nd, rfl⟩⟩; refine ⟨_, rfl, ?_⟩))
      go_ret
      exact ⟨by first | rfl | (simp [errW_none, errW_some] <;> rfl) | (simp [*, errW_none, errW_some] <;> rfl), by repeat (first | (with_reducible first | exact HB.out | apply below_alloc | apply pw_below_drewN | apply below_drew1) | exact HB.out)⟩
end Go.Proofs.Ytoijjkhdfooapaa.CF
namespace Go.Proofs.Ytoijjkhdfooapaa.Hd
open Go.RowKit Go.Proofs.YtoijjkhdfooapaaW.PrintWords Go.Proofs.YtoijjkhdfooapaaW.PrintLast Go.Proofs.YtoijjkhdfooapaaW.PrintMore Go.Proofs.Ytoijjkhdfooapaa.PB
set_option linter.unusedVariables false
set_option linter.unusedSimpArgs false
theorem sz_loop (l : List ByteArray) (hl : l.length ≤ 1048576) (hs : ∀ s ∈ l, s.size ≤ 9223372036854775807) : ∀ m i (a : Int), i + m = l.length → 0 ≤ a → a ≤ 1048576 → (∀ j, j < i → ∀ s, l[j]? = some s → s.size ≤ 1048576) → ∃ v, Evs (fun k => laws_szStringS.l0 k l a (i : Int)) v ∧ (v < 0 ∨ (smallP l ∧ 0 ≤ v ∧ v ≤ a)) := by
 intro m
 induction m with
 | zero =>
  intro i a hi h0 h1 hj
  refine ⟨a, Evs.step (h := fun _ => some a) (fun k => ?_) (Evs.const _), .inr ⟨⟨hl, fun s hs => ?_⟩, h0, Int.le_refl _⟩⟩
  ·conv => lhs; unfold laws_szStringS.l0
   rw [if_neg (by omega)]
  ·obtain ⟨j, hj2, e⟩ := List.mem_iff_getElem.1 hs
   exact hj j (by omega) s (by rw [List.getElem?_eq_getElem hj2, e])
 | succ m ih =>
  intro i a hi h0 h1 hj
  obtain ⟨s, hsi⟩ : ∃ s, l[i]? = some s := ⟨_, List.getElem?_eq_getElem (by omega)⟩
  have hsz := hs s (List.mem_of_getElem? hsi)
  by_cases hneg : a - (s.size : Int) < 0
  ·refine ⟨-1, Evs.step (h := fun _ => some (-1)) (fun k => ?_) (Evs.const _), .inl (by omega)⟩
   conv => lhs; unfold laws_szStringS.l0
   rw [if_pos (by omega), if_pos (by omega), rdOf_at hsi, wrap64_small (by omega) (by omega), if_pos hneg]
  ·obtain ⟨v, hv, hor⟩ := ih (i + 1) (a - (s.size : Int)) (by omega) (by omega) (by omega) (fun j hj1 s1 h1 => by
    rcases Nat.lt_or_eq_of_le (Nat.lt_succ_iff.1 hj1) with h2 | h2
    ·exact hj j h2 s1 h1
    ·subst h2
     rw [hsi] at h1
     have := Option.some.inj h1
     subst this
     omega)
   refine ⟨v, Evs.step (h := fun k => laws_szStringS.l0 k l (a - (s.size : Int)) ((i + 1 : Nat) : Int)) (fun k => ?_) hv, ?_⟩
   ·conv => lhs; unfold laws_szStringS.l0
    rw [if_pos (by omega), if_pos (by omega), rdOf_at hsi, wrap64_small (x := a - (s.size : Int)) (by omega) (by omega), if_neg hneg, wrap_succ (by omega)]
   ·rcases hor with h | ⟨h2, h3, h4⟩
    ·exact .inl h
    ·exact .inr ⟨h2, h3, by omega⟩
theorem sz_ev (l : List ByteArray) (hf : fits l) (a : Int) (h0 : 0 ≤ a) (h1 : a ≤ 1048576) : ∃ v, Evs (fun k => laws_szStringS.f k l a) v ∧ (v < 0 ∨ (smallP l ∧ 0 ≤ v ∧ v ≤ a)) := by
 have hl := hf.1
 by_cases hneg : a - (l.length : Int) < 0
 ·refine ⟨-1, Evs.congr (h := fun _ => some (-1)) (fun k => ?_) (Evs.const _), .inl (by omega)⟩
  unfold laws_szStringS.f
  rw [wrap64_small (by omega) (by omega), if_pos hneg]
 ·obtain ⟨v, hv, hor⟩ := sz_loop l (by omega) hf.2 l.length 0 (a - (l.length : Int)) (by omega) (by omega) (by omega) (fun j hj => by omega)
  refine ⟨v, Evs.congr (fun k => ?_) hv, ?_⟩
  ·unfold laws_szStringS.f
   rw [wrap64_small (by omega) (by omega), if_neg hneg]
   rfl
  ·rcases hor with h | ⟨h2, h3, h4⟩
   ·exact .inl h
   ·exact .inr ⟨h2, h3, by omega⟩
theorem to_loop (l : List ByteArray) (hl : l.length ≤ 1048576) : ∀ m i, i + m = l.length → Evs (fun k => laws_toStringS.l0 k l (l.take i ++ List.replicate m (⟨#[]⟩ : ByteArray)) (i : Int)) l := by
 intro m
 induction m with
 | zero =>
  intro i hi
  refine Evs.step (h := fun _ => some l) (fun k => ?_) (Evs.const _)
  conv => lhs; unfold laws_toStringS.l0
  rw [if_neg (by omega), List.take_of_length_le (by omega)]
  simp
 | succ m ih =>
  intro i hi
  obtain ⟨s, hsi⟩ : ∃ s, l[i]? = some s := ⟨_, List.getElem?_eq_getElem (by omega)⟩
  refine Evs.step (h := fun k => laws_toStringS.l0 k l (l.take (i + 1) ++ List.replicate m (⟨#[]⟩ : ByteArray)) ((i + 1 : Nat) : Int)) (fun k => ?_) (ih (i + 1) (by omega))
  conv => lhs; unfold laws_toStringS.l0
  have hset : (l.take i ++ List.replicate (m + 1) (⟨#[]⟩ : ByteArray)).set i s = l.take (i + 1) ++ List.replicate m (⟨#[]⟩ : ByteArray) := by
   rw [List.set_append_right _ _ (by simp; omega), show i - (l.take i).length = 0 by simp; omega, List.replicate_succ, List.set_cons_zero, List.take_add_one, hsi]
   simp
  rw [if_pos (by omega), if_pos (by omega), if_pos (by simp; omega), rdOf_at hsi, Int.toNat_natCast, hset, wrap_succ (by omega)]
theorem toS_ev (l : List ByteArray) (hl : l.length ≤ 1048576) : Evs (fun k => laws_toStringS.f k l) l := by
 refine Evs.congr (fun k => ?_) (to_loop l hl l.length 0 (by omega))
 unfold laws_toStringS.f
 rw [if_pos (by omega), if_pos (by omega), Int.toNat_natCast]
 simp
theorem eq_loop (p q : List ByteArray) (hl : p.length = q.length) (hb : p.length ≤ 1048576) : ∀ m i, i + m = p.length → p.take i = q.take i → Evs (fun k => laws_eqStringS.l0 k p q (i : Int)) (decide (p = q)) := by
 intro m
 induction m with
 | zero =>
  intro i hi ht
  have e : p = q := by
   rw [show i = p.length by omega, List.take_length, hl, List.take_length] at ht
   exact ht
  refine Evs.step (h := fun _ => some (decide (p = q))) (fun k => ?_) (Evs.const _)
  conv => lhs; unfold laws_eqStringS.l0
  rw [if_neg (by omega), decide_eq_true e]
 | succ m ih =>
  intro i hi ht
  by_cases he : p[i] = q[i]
  ·refine Evs.step (h := fun k => laws_eqStringS.l0 k p q ((i + 1 : Nat) : Int)) (fun k => ?_) (ih (i + 1) (by omega) (by
    rw [List.take_add_one, List.take_add_one, ht, List.getElem?_eq_getElem (by omega), List.getElem?_eq_getElem (by omega), he]))
   conv => lhs; unfold laws_eqStringS.l0
   rw [if_pos (by omega), if_pos (by omega), if_pos (by omega), rdOf_get p i (by omega), rdOf_get q i (by omega), if_pos (toList_inj.2 he), wrap_succ (by omega)]
  ·have hne : p ≠ q := by rintro rfl; exact he rfl
   refine Evs.step (h := fun _ => some (decide (p = q))) (fun k => ?_) (Evs.const _)
   conv => lhs; unfold laws_eqStringS.l0
   rw [if_pos (by omega), if_pos (by omega), if_pos (by omega), rdOf_get p i (by omega), rdOf_get q i (by omega), if_neg (fun h => he (toList_inj.1 h)), decide_eq_false hne]
theorem eqS_ev (p q : List ByteArray) (hb : p.length ≤ 1048576) : Evs (fun k => laws_eqStringS.f k p q) (decide (p = q)) := by
 by_cases h : p.length = q.length
 ·refine Evs.congr (fun k => ?_) (eq_loop p q h hb p.length 0 (by omega) (by simp))
  unfold laws_eqStringS.f
  rw [if_pos (by omega)]
  rfl
 ·have hne : p ≠ q := by rintro rfl; exact h rfl
  refine Evs.congr (h := fun _ => some (decide (p = q))) (fun k => ?_) (Evs.const _)
  unfold laws_eqStringS.f
  rw [if_neg (by omega), decide_eq_false hne]
theorem eqS_same (p : List ByteArray) (hb : p.length ≤ 1048576) : Evs (fun k => laws_eqStringS.f k p p) true := by
 have := eqS_ev p p hb
 rwa [decide_eq_true rfl] at this
end Go.Proofs.Ytoijjkhdfooapaa.Hd
namespace Go.Proofs.Ytoijjkhdfooapaa.CF
open Go.RowKit Go.Proofs.YtoijjkhdfooapaaW.PrintWords Go.Proofs.YtoijjkhdfooapaaW.PrintLast Go.Proofs.YtoijjkhdfooapaaW.PrintMore Go.Proofs.Ytoijjkhdfooapaa.PB Go.Proofs.Ytoijjkhdfooapaa.Hd
set_option linter.unusedVariables false
set_option linter.unusedSimpArgs false
theorem laws_FnExactCutFirst.j0_eq (k : Nat) (x0 : List ByteArray) (x6 : List ByteArray) (x34 : Bool) : laws_FnExactCutFirst.j0 (k + 1) x0 x6 x34 = (if x34 = true then (some false) else ((laws_toStringS.f k x0).bind fun t305 => ((laws_eqStringS.f k x6 t305).bind fun t308 => (if t308 = true then (some true) else (some false))))) := by simp only [laws_FnExactCutFirst.j0]
theorem impl_res (l0 : List ByteArray) (hs_l0 : smallP l0) : impl_CutFirst.f l0 = some (cutFirstF l0) := by
 unfold impl_CutFirst.f
 rw [if_pos ((smallB_iff _).2 hs_l0)]
theorem law_ev (l0 : List ByteArray) (hf_l0 : fits l0) : Evs (fun k => laws_FnExactCutFirst.f k l0) true := by
 unfold laws_FnExactCutFirst.f
 obtain ⟨v0, e0, h0⟩ := sz_ev l0 hf_l0 1048576 (by omega) (by omega)
 refine Evs.bind e0 ?_
 rcases h0 with h0 | ⟨hs_l0, g0, k0⟩
 ·exact Evs.pos h0 (Evs.const _)
 refine Evs.neg (by omega) ?_
 have hi := impl_res l0 hs_l0
 refine Evs.bind (toS_ev l0 hs_l0.1) (Evs.bind (CutFirst_ev l0 hs_l0) (Evs.bind (toS_ev l0 hs_l0.1) (Evs.bindS hi ?_)))
 try dsimp only
 try simp only [if_true, bne_self_eq_false, eq_self_iff_true]
 refine Evs.step (fun k => laws_FnExactCutFirst.j0_eq k _ _ _) ?_
 refine Evs.neg (by simp) ?_
 exact Evs.bind (toS_ev l0 hs_l0.1) (Evs.bind (eqS_same l0 hs_l0.1) (Evs.pos rfl (Evs.const _)))
end Go.Proofs.Ytoijjkhdfooapaa.CF
