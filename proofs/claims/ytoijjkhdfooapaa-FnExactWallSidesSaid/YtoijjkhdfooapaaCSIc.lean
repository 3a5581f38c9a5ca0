/- Part 3 of the proof of FnExactWallSides: what the program's functions and the reference's compute. -/
import Derived.Maps.OwnSet
import Derived.Maps.Views
import Derived.Test.YtoijjkhdfooapaaProg
import Derived.Below
import Derived.Deep.Draws
import Derived.Deep.AppendLies
import Derived.Maps.AppendAt
import Derived.OwnWalk
import Derived.Laws.BytesArg
import Derived.Laws.MakeOwn
import Derived.Laws.OwnMore
import Derived.Deep.OwnRows
import Derived.Tactics
import Derived.Lib.ConvBytes
import Derived.Laws.Slices
import Derived.WalkKit
import Derived.KernelRfl
import Derived.RowKit3
import Derived.Deep.LoopGhost
import Derived.Deep.QuietTactic
import Derived.BigQuiet
import Derived.WideLaws
import Derived.Deep.DeepCutAuto
import Derived.Deep.CutBlock
import Derived.Deep.RegionHeld3
import Derived.Laws.Rows
import Derived.Lib.AppendStr
import Derived.ArgAppend
import Derived.Laws.IdiomCopy
import Derived.OrdersHeld
import Derived.Laws.BitsLemmas
import Derived.RowKit
import Derived.Test.YtoijjkhdfooapaaCSIb
set_option linter.unusedSimpArgs false
set_option linter.unusedVariables false
namespace Go.Proofs.Ytoijjkhdfooapaa.PB
open Go.RowKit Go.PW.PrintWords Go.PW.PrintLast Go.PW.PrintMore
attribute [local go_sem] zbu zbs zcf zce zbm zbl zbt zbr   -- for this text's walks alone
mutual
def spec_l2Walls.l0 : Nat → List ByteArray → List (List Int) → List (List Int) → Int → Option ((List (List Int)))
 | 0, _, _, _, _ => none
 | k + 1, x0, x3, x4, x5 => if x5 < (x4.length : Int) then ((some (([0] : List Int) : List Int)).bind fun y204 => (if 0 ≤ x5 then (if y204.length + (zbi x4 x5).length < 17592186044416 then (if x3.length < 5864062014805 then (spec_l2Walls.l0 k x0 (x3 ++ [(y204 ++ (zbi x4 x5))]) x4 (wrap64 (x5 + 1))) else (none)) else (none)) else (none))) else ((spec_l1Trans.f k x0).bind fun t214 => ((spec_l2Upright.f k t214).bind fun t217 => (spec_l2Walls.l1 k x3 t217 0)))
def spec_l2Walls.l1 : Nat → List (List Int) → List (List Int) → Int → Option ((List (List Int)))
 | 0, _, _, _ => none
 | k + 1, x3, x6, x7 => if x7 < (x6.length : Int) then ((some (([1] : List Int) : List Int)).bind fun y220 => (if 0 ≤ x7 then (if y220.length + (zbi x6 x7).length < 17592186044416 then (if x3.length < 5864062014805 then (spec_l2Walls.l1 k (x3 ++ [(y220 ++ (zbi x6 x7))]) x6 (wrap64 (x7 + 1))) else (none)) else (none)) else (none))) else (some x3)
end
def spec_l2Walls.f (k : Nat) (l0 : List ByteArray) : Option ((List (List Int))) := (spec_l2Upright.f k l0).bind fun t201 => (spec_l2Walls.l0 k l0 (([] : List (List Int))) t201 0)
set_option maxHeartbeats 8000000 in
set_option maxRecDepth 100000 in
theorem spec_l2Walls.calls (k : Nat) (A0 : Option Addr) (c0 : Nat) (l0 : List ByteArray) (r : List (List Int)) (w : World) (hr0 : Kd.C Kd.string w A0 l0.length l0) (hc0 : l0.length ≤ c0) (h : spec_l2Walls.f k l0 = some r) :
  Calls Try.prog 53 #[.slice A0 l0.length c0] w fun e w' => ∃ v0_ : Value, e = .returned (v0_) ∧ Kd.S (Kd.slice 3 (Kd.int .i64)) 34 w' w.heap.size (fun _ => True) v0_ r ∧ Below w.heap.size w w' := by
 have HR0 := zaa.mk hr0
 have HC0 := zaa.mk hc0
 clear hr0 hc0
 have HB := zaa.mk (Below.refl w.heap.size w)
 have H : ((spec_l2Upright.f k l0).bind fun t201 => (spec_l2Walls.l0 k l0 (([] : List (List Int))) t201 0)) = some r := h
 clear h
 obtain ⟨y198, hy198⟩ : ∃ y_ : List (List Int), y_ = (([] : List (List Int))) := ⟨_, rfl⟩
 replace H : ((spec_l2Upright.f k l0).bind fun t201 => (spec_l2Walls.l0 k l0 y198 t201 0)) = some r := by first | (rw [hy198]; with_reducible exact H) | (have H2_ := (Option.bind_some _ _).symm.trans H; rw [hy198]; with_reducible exact H2_) | (have H2_ := (Option.bind_some _ _).symm.trans H; with_reducible exact H2_) | with_reducible exact H | (rw [hy198]; exact H) | exact H
 have Ny198 := zaa.mk hy198
 clear hy198
 replace H := Option.bind_eq_some_iff.mp H
 obtain ⟨t201, A20, H⟩ := H
 replace H : (spec_l2Walls.l0 k l0 y198 t201 0) = some r := H
 have A2 := zaa.mk A20
 clear A20
 have H' := zaa.mk H
 clear H
 go_enter Try.func53, Try.ntmps53
 go_wp2_with (first | ((with_reducible refine zaw (N := 8) rfl ?_); refine Kd.S_lit (Kd.slice 3 (Kd.int .i64)) _ 34 ?hg (N := 8) ?hd (xs := ([] : List (List Int))) (inner := []) (ok := fun _ => True) (okp := fun _ => True) ?hr ?hp (fun _ hk => hk) trivial (Below.refl _ _) (Nat.le_refl _) (by simp) ?_; (case hd => rfl); (case hg => rfl); (case hr => first | (go_simp; done) | (go_simp; rfl)); (case hp => exact (Reps.none _ _)); intro v199 w3 ho4 hb hg_ hnew_; clear hg_ hnew_; (first | rw [← Ny198.out] at ho4 | (simp only [Int.reduceToNat] at ho4; rw [← Ny198.out] at ho4)); have n0_ := zaa.mk (Kd.S_lower ho4 (zae (by repeat (first | (with_reducible first | exact HB.out | apply zac | apply zab | apply zad) | exact HB.out)))); have n1_ := zaa.mk (zag (by repeat (first | (with_reducible first | exact HB.out | apply zac | apply zab | apply zad) | exact HB.out)) hb); clear HB; have HO200 := n0_; have HB := n1_; clear n0_ n1_; clear hb ho4) | ((with_reducible refine zai (f := 88) rfl ?_); refine zbc (some 10) rfl rfl Try.func88 (by kernel_rfl) rfl #[.slice A0 l0.length c0] rfl (by (try simp only [List.map_toArray, List.map_cons, List.map_nil]); first | done | rfl | (simp only [List.length_drop, List.length_take]; rfl)) ?_; (with_reducible refine (spec_l2Upright.calls k _ _ l0 t201 _ ?side1 ?side2 A2.out).mono ?_); (case side1 => repeat (first | exact (Kd.C_below HR0.out HB.out) | (with_reducible refine Kd.C_alloc ?_ _) | (with_reducible refine Kd.C_drewN ?_ _) | (with_reducible refine Kd.C_drew ?_))); (case side2 => exact HC0.out); rintro e w5 ⟨v202, rfl, ho0, hb⟩; refine ⟨_, rfl, ?_⟩; have n0_ := zaa.mk (Kd.S_elder' (by (with_reducible repeat (first | apply Kd.S_alloc | apply Kd.S_drewN | apply Kd.S_drew)); exact HO200.out) (Kd.S_base ho0) hb); have n1_ := zaa.mk (Kd.S_lower (Kd.S_new' ho0 (Kd.S_lt (by (with_reducible repeat (first | apply Kd.S_alloc | apply Kd.S_drewN | apply Kd.S_drew)); exact HO200.out))) (zae (by repeat (first | (with_reducible first | exact HB.out | apply zac | apply zab | apply zad) | exact HB.out)))); have n2_ := zaa.mk (zag (by repeat (first | (with_reducible first | exact HB.out | apply zac | apply zab | apply zad) | exact HB.out)) hb); clear HO200; clear HB; have HO200 := n0_; have HO203 := n1_; have HB := n2_; clear n0_ n1_ n2_; (try clear hb); (try clear hb2); (try clear hk); (try clear hi); (try clear ho0)))
 go_loopg [3, 5] k (fun kq v3 v5 w' => ∃ (x3_1 : List (List Int)) (x5_1 : Int), v5 = .int .i64 x5_1 ∧ zaa (spec_l2Walls.l0 kq l0 x3_1 t201 x5_1 = some r) ∧ zaa (kq ≤ k) ∧ zaa (Kd.S (Kd.slice 3 (Kd.int .i64)) 34 w' w.heap.size (fun k_ => some k_ ≠ (v202 : Value).ownBlock) v3 x3_1) ∧ zaa (Kd.S (Kd.slice 3 (Kd.int .i64)) 34 w' w.heap.size (fun k_ => some k_ ≠ (v3 : Value).ownBlock) v202 t201) ∧ zaa (Below w.heap.size w w'))
 case atStart => exact ⟨(y198), (0), (by first | rfl | (simp; done) | (simp [*]; done)), H', ⟨Nat.le_refl _⟩, ⟨by (with_reducible repeat (first | apply Kd.S_alloc | apply Kd.S_drewN | apply Kd.S_drew)); exact Kd.S_mono HO200.out (fun _ hk => hk.2)⟩, ⟨by (with_reducible repeat (first | apply Kd.S_alloc | apply Kd.S_drewN | apply Kd.S_drew)); exact Kd.S_mono HO203.out (fun _ hk => hk.2)⟩, ⟨by repeat (first | (with_reducible first | exact HB.out | apply zac | apply zab | apply zad) | exact HB.out)⟩⟩
 case round =>
  clear H'
  try clear p2
  try clear c5
  obtain ⟨x3_1, x5_1, rfl, HA, HK1, HO_3, HO_4, HB⟩ := hrel
  cases gk with
  | zero => exact absurd HA.out (by simp [spec_l2Walls.l0])
  | succ k1 =>
   have H := HA.out
   clear HA
   simp only [spec_l2Walls.l0] at H
   by_cases c6 : x5_1 < (t201.length : Int)
   ·rw [if_pos c6] at H
    have c6b0 : decide (x5_1 < (t201.length : Int)) = true := decide_eq_true c6
    clear c6
    obtain ⟨y204, hy204⟩ : ∃ y_ : List Int, y_ = (([0] : List Int)) := ⟨_, rfl⟩
    replace H : (if 0 ≤ x5_1 then (if y204.length + (zbi t201 x5_1).length < 17592186044416 then (if x3_1.length < 5864062014805 then (spec_l2Walls.l0 k1 l0 (x3_1 ++ [(y204 ++ (zbi t201 x5_1))]) t201 (wrap64 (x5_1 + 1))) else (none)) else (none)) else (none)) = some r := by first | (rw [hy204]; with_reducible exact H) | (have H2_ := (Option.bind_some _ _).symm.trans H; rw [hy204]; with_reducible exact H2_) | (have H2_ := (Option.bind_some _ _).symm.trans H; with_reducible exact H2_) | with_reducible exact H | (rw [hy204]; exact H) | exact H
    have Ny204 := zaa.mk hy204
    clear hy204
    by_cases c7 : 0 ≤ x5_1
    ·rw [if_pos c7] at H
     have c7b0 : decide (0 ≤ x5_1) = true := decide_eq_true c7
     clear c7
     by_cases c8 : y204.length + (zbi t201 x5_1).length < 17592186044416
     ·rw [if_pos c8] at H
      have LMc8 := zaa.mk c8
      clear c8
      obtain ⟨y208, hy208⟩ : ∃ y_ : List Int, y_ = (y204 ++ (zbi t201 x5_1)) := ⟨_, rfl⟩
      replace H : (if x3_1.length < 5864062014805 then (spec_l2Walls.l0 k1 l0 (x3_1 ++ [y208]) t201 (wrap64 (x5_1 + 1))) else (none)) = some r := by first | (rw [hy208]; with_reducible exact H) | (have H2_ := (Option.bind_some _ _).symm.trans H; rw [hy208]; with_reducible exact H2_) | (have H2_ := (Option.bind_some _ _).symm.trans H; with_reducible exact H2_) | with_reducible exact H | (rw [hy208]; exact H) | exact H
      have Ny208 := zaa.mk hy208
      clear hy208
      by_cases c9 : x3_1.length < 5864062014805
      ·rw [if_pos c9] at H
       have LMc9 := zaa.mk c9
       clear c9
       obtain ⟨y211, hy211⟩ : ∃ y_ : List (List Int), y_ = (x3_1 ++ [y208]) := ⟨_, rfl⟩
       replace H : (spec_l2Walls.l0 k1 l0 y211 t201 (wrap64 (x5_1 + 1))) = some r := by first | (rw [hy211]; with_reducible exact H) | (have H2_ := (Option.bind_some _ _).symm.trans H; rw [hy211]; with_reducible exact H2_) | (have H2_ := (Option.bind_some _ _).symm.trans H; with_reducible exact H2_) | with_reducible exact H | (rw [hy211]; exact H) | exact H
       have Ny211 := zaa.mk hy211
       clear hy211
       have H' := zaa.mk H
       clear H
       obtain ⟨Ao10, co10, eo10⟩ := Kd.S_slice HO_4.out
       subst eo10
       go_wp2_with (first | ((with_reducible refine zaw (N := 18) rfl ?_); refine Kd.R_lit (Kd.int .i64) _ 3 ?hg (N := 18) ?hd (xs := ([0] : List Int)) (inner := [.int .i64 0]) (ok := fun _ => True) (okp := fun _ => True) ?hr ?hp (fun _ hk => hk) trivial (Below.refl _ _) (Nat.le_refl _) (by simp) ?_; (case hd => rfl); (case hg => rfl); (case hr => first | (go_simp; done) | (go_simp; rfl)); (case hp => exact (Reps.one (show Kd.M (Kd.int .i64) _ _ _ 0 [.int .i64 0] from rfl) (Reps.none _ _))); intro v205 w11 ho12 hb hg_ hnew_; clear hg_ hnew_; (first | rw [← Ny204.out] at ho12 | (simp only [Int.reduceToNat] at ho12; rw [← Ny204.out] at ho12)); have n0_ := zaa.mk (Kd.S_elder' (by (with_reducible repeat (first | apply Kd.S_alloc | apply Kd.S_drewN | apply Kd.S_drew)); exact HO_3.out) (Kd.R_base ho12) hb); have n1_ := zaa.mk (Kd.S_elder' (by (with_reducible repeat (first | apply Kd.S_alloc | apply Kd.S_drewN | apply Kd.S_drew)); exact HO_4.out) (Kd.R_base ho12) hb); have n2_ := zaa.mk (Kd.R_lower ho12 (zae (by repeat (first | (with_reducible first | exact HB.out | apply zac | apply zab | apply zad) | exact HB.out)))); have n3_ := zaa.mk (zag (by repeat (first | (with_reducible first | exact HB.out | apply zac | apply zab | apply zad) | exact HB.out)) hb); clear HO_3; clear HO_4; clear HB; have HO_3 := n0_; have HO_4 := n1_; have HO206 := n2_; have HB := n3_; clear n0_ n1_ n2_ n3_; clear hb ho12; have p207 : 0 ≤ (x5_1 : Int) := of_decide_eq_true (by first | (with_reducible assumption) | assumption); have q207 : x5_1 < (t201.length : Int) := of_decide_eq_true (by first | (with_reducible assumption) | assumption); obtain ⟨ad207, A207_0, c207_0, e207, hx207_0, hl207_0, hi207_0⟩ := at_L3 (Kd.S_reads' HO_4.out).2.2 x5_1 p207 q207; cases e207; obtain ⟨ce207, hce207, hMe207, hcc207⟩ := Kd.S_get HO_4.out [] x5_1 p207 (by first | exact q207 | exact of_decide_eq_true (by first | (with_reducible assumption) | assumption) | (have e_ := (Kd.S_reads' HO_4.out).1; omega)); obtain ⟨ve207_0, rfl, ge207_0⟩ := hMe207; have hv207_0 := hcc207 0 _ rfl; rw [Nat.add_zero, show ((Kd.slice 3 (Kd.int .i64))).sz = 1 from rfl, Nat.mul_one] at hv207_0; replace hv207_0 := Option.some.inj (hv207_0.symm.trans hx207_0); rw [hv207_0] at ge207_0; have HL207_0 := zaa.mk (show Kd.R (Kd.int .i64) 3 _ _ _ _ (zbi t201 x5_1) from ge207_0); clear hv207_0 ge207_0; clear hcc207 hce207; have HR207_0 := zaa.mk hi207_0; have HC207_0 := zaa.mk hl207_0; clear hi207_0 hl207_0; replace p207 := eq_true p207; replace q207 := eq_true q207) | ((with_reducible refine zaq (b := .append) (xs := #[.tmp 18, .tmp 22]) rfl ?_); at_builtin; refine Kd.R_append_rows (Kd.int .i64) (w0 := w) w.heap.size rfl (.tmp 18) (.tmp 22) 34 3 (.int .i64 0) 8 rfl Try.underlying34 info3 rfl (by decide) (by omega) v205 y204 (zbi t201 x5_1) _ _ _ (fun _ => True) (fun _ => False) rfl rfl ?aO ?aR (fun _ _ h => h) (fun _ h => h.elim) ?aF ?aB ?aS ?aL ?_; (case aR => repeat (first | exact (by repeat (first | (with_reducible exact HR207_0.out) | (with_reducible refine Kd.C_alloc ?_ _) | (with_reducible refine Kd.C_drewN ?_ _) | (with_reducible refine Kd.C_drew ?_) | exact HR207_0.out)) | (with_reducible refine Kd.C_alloc ?_ _) | (with_reducible refine Kd.C_drewN ?_ _) | (with_reducible refine Kd.C_drew ?_))); (case aB => exact (by repeat (first | (with_reducible first | exact HB.out | apply zac | apply zab | apply zad) | exact HB.out))); (case aF => exact (fun _ _ => trivial)); (case aO => exact (by (with_reducible repeat (first | apply Kd.R_alloc | apply Kd.R_drewN | apply Kd.R_drew)); exact HO206.out)); (case aS => exact (zae (by repeat (first | (with_reducible first | exact HB.out | apply zac | apply zab | apply zad) | exact HB.out)))); (case aL => have := LMc8.out; omega); intro v209 w13 ho hb hg hat; rw [← Ny208.out] at ho; have n0_ := zaa.mk (Kd.S_after (ok := (fun k_ => some k_ ≠ (.slice (some ad207) t201.length co10 : Value).ownBlock)) (by (with_reducible repeat (first | apply Kd.S_alloc | apply Kd.S_drewN | apply Kd.S_drew)); exact HO_3.out) hg hat); have n1_ := zaa.mk (Kd.S_after (ok := (fun k_ => some k_ ≠ (u3 : Value).ownBlock)) (by (with_reducible repeat (first | apply Kd.S_alloc | apply Kd.S_drewN | apply Kd.S_drew)); exact HO_4.out) hg hat); have n2_ := zaa.mk (Kd.R_after (ok := (fun k_ => some k_ ≠ (u3 : Value).ownBlock ∧ some k_ ≠ (.slice (some ad207) t201.length co10 : Value).ownBlock)) (by (with_reducible repeat (first | apply Kd.R_alloc | apply Kd.R_drewN | apply Kd.R_drew)); exact Kd.R_mono HL207_0.out (fun _ hk => ⟨⟨hk.1.1, hk.2⟩, hk.1.2⟩)) hg hat); have n3_ := zaa.mk (hb); have n4_ := zaa.mk (ho); clear HO_3; clear HO_4; clear HL207_0; clear HB; clear HO206; have HO_3 := n0_; have HO_4 := n1_; have HL207_0 := n2_; have HB := n3_; have HO210 := n4_; clear n0_ n1_ n2_ n3_ n4_; clear ho hb hg hat; obtain ⟨Ao15, co15, eo15⟩ := Kd.R_slice HO210.out; subst eo15) | ((with_reducible refine zaq (b := .append) (xs := #[.tmp 17, .tmp 24]) rfl ?_); at_builtin; refine Kd.S_append (Kd.slice 3 (Kd.int .i64)) (w0 := w) w.heap.size rfl (.tmp 17) (.tmp 24) 29 34 (.slice none 0 0) 24 rfl Try.underlying29 info34 rfl (by decide) (by omega) u3 x3_1 y208 [.slice Ao15 y208.length co15] (fun k_ => some k_ ≠ (.slice (some ad207) t201.length co10 : Value).ownBlock) (fun k_ => some k_ = (.slice Ao15 y208.length co15 : Value).ownBlock) rfl rfl ?aP (fun k_ hk_ => ((Kd.R_mono (ok' := fun k_ => ((fun k_ => some k_ ≠ (.slice (some ad207) t201.length co10 : Value).ownBlock)) k_ ∧ some k_ ≠ (u3 : Value).ownBlock) (Kd.R_apart' (Kd.R_apart' (HO210.out) (Kd.S_typed HO_4.out) (by decide)) (Kd.S_typed HO_3.out) (by decide)) (fun k_ hk => ⟨hk.1.2, hk.2⟩))).1 k_ hk_.symm) ?aF ?aO ?aB ?aS ?aL ?_; (case aP => exact Kd.M_row (Kd.R_mono (Kd.R_tight rfl (Kd.R_mono (ok' := fun k_ => ((fun k_ => some k_ ≠ (.slice (some ad207) t201.length co10 : Value).ownBlock)) k_ ∧ some k_ ≠ (u3 : Value).ownBlock) (Kd.R_apart' (Kd.R_apart' (HO210.out) (Kd.S_typed HO_4.out) (by decide)) (Kd.S_typed HO_3.out) (by decide)) (fun k_ hk => ⟨hk.1.2, hk.2⟩))) (fun _ h_ => h_))); (case aB => exact (by repeat (first | (with_reducible first | exact HB.out | apply zac | apply zab | apply zad) | exact HB.out))); (case aF => exact (fun k_ hk => Kd.fresh' (Kd.S_lt (by (with_reducible repeat (first | apply Kd.S_alloc | apply Kd.S_drewN | apply Kd.S_drew)); exact HO_4.out)) k_ hk)); (case aO => exact (by (with_reducible repeat (first | apply Kd.S_alloc | apply Kd.S_drewN | apply Kd.S_drew)); exact Kd.S_mono HO_3.out (fun k_ hk => ⟨hk.1, fun e_ => hk.2 e_⟩))); (case aS => exact (zae (by repeat (first | (with_reducible first | exact HB.out | apply zac | apply zab | apply zad) | exact HB.out)))); (case aL => have := LMc9.out; omega); intro v212 w14 ho hb hg hat; rw [← Ny211.out] at ho; have n0_ := zaa.mk (Kd.S_after (ok := (fun k_ => some k_ ≠ (.slice Ao15 y208.length co15 : Value).ownBlock)) (by (with_reducible repeat (first | apply Kd.S_alloc | apply Kd.S_drewN | apply Kd.S_drew)); exact Kd.S_mono HO_4.out (fun _ hk => ⟨hk.2, hk.1⟩)) hg hat); have n1_ := zaa.mk (Kd.R_after (ok := (fun k_ => some k_ ≠ (.slice (some ad207) t201.length co10 : Value).ownBlock ∧ some k_ ≠ (.slice Ao15 y208.length co15 : Value).ownBlock)) (by (with_reducible repeat (first | apply Kd.R_alloc | apply Kd.R_drewN | apply Kd.R_drew)); exact Kd.R_mono HL207_0.out (fun _ hk => ⟨⟨hk.1.2, hk.2⟩, hk.1.1⟩)) hg hat); have n2_ := zaa.mk (hb); have n3_ := zaa.mk (ho); clear HO_4; clear HL207_0; clear HB; clear HO_3; clear HO210; have HO_4 := n0_; have HL207_0 := n1_; have HB := n2_; have HO213 := n3_; clear n0_ n1_ n2_ n3_; clear ho hb hg hat))
       go_roundg k1
       case measure => have := HK1.out; omega
       case rel => exact ⟨(y211), (wrap64 (x5_1 + 1)), (by first | rfl | (simp; done) | (simp [*]; done)), H', ⟨by have := HK1.out; omega⟩, ⟨by (with_reducible repeat (first | apply Kd.S_alloc | apply Kd.S_drewN | apply Kd.S_drew)); exact HO213.out⟩, ⟨by (with_reducible repeat (first | apply Kd.S_alloc | apply Kd.S_drewN | apply Kd.S_drew)); exact Kd.S_mono HO_4.out (fun _ hk => hk.2)⟩, ⟨by repeat (first | (with_reducible first | exact HB.out | apply zac | apply zab | apply zad) | exact HB.out)⟩⟩
      ·rw [if_neg c9] at H
       exact absurd H (by simp)
     ·rw [if_neg c8] at H
      exact absurd H (by simp)
    ·rw [if_neg c7] at H
     exact absurd H (by simp)
   ·rw [if_neg c6] at H
    have c6b0 : decide (x5_1 < (t201.length : Int)) = false := decide_eq_false c6
    clear c6
    replace H := Option.bind_eq_some_iff.mp H
    obtain ⟨t214, A160, H⟩ := H
    replace H : ((spec_l2Upright.f k1 t214).bind fun t217 => (spec_l2Walls.l1 k1 x3_1 t217 0)) = some r := H
    have A16 := zaa.mk A160
    clear A160
    replace H := Option.bind_eq_some_iff.mp H
    obtain ⟨t217, A170, H⟩ := H
    replace H : (spec_l2Walls.l1 k1 x3_1 t217 0) = some r := H
    have A17 := zaa.mk A170
    clear A170
    have H' := zaa.mk H
    clear H
    obtain ⟨Ao18, co18, eo18⟩ := Kd.S_slice HO_4.out
    subst eo18
    go_wp2_with (first | ((with_reducible refine zai (f := 62) rfl ?_); refine zbc (some 27) rfl rfl Try.func62 (by kernel_rfl) rfl #[.slice A0 l0.length c0] rfl (by (try simp only [List.map_toArray, List.map_cons, List.map_nil]); first | done | rfl | (simp only [List.length_drop, List.length_take]; rfl)) ?_; (with_reducible refine (spec_l1Trans.calls k1 _ _ l0 t214 _ ?side1 ?side2 A16.out).mono ?_); (case side1 => repeat (first | exact (Kd.C_below HR0.out HB.out) | (with_reducible refine Kd.C_alloc ?_ _) | (with_reducible refine Kd.C_drewN ?_ _) | (with_reducible refine Kd.C_drew ?_))); (case side2 => exact HC0.out); rintro e w19 ⟨v215, rfl, ho0, hb⟩; refine ⟨_, rfl, ?_⟩; have n0_ := zaa.mk (Kd.S_below (by (with_reducible repeat (first | apply Kd.S_alloc | apply Kd.S_drewN | apply Kd.S_drew)); exact HO_3.out) hb); have n1_ := zaa.mk (Kd.S_below (by (with_reducible repeat (first | apply Kd.S_alloc | apply Kd.S_drewN | apply Kd.S_drew)); exact HO_4.out) hb); have n2_ := zaa.mk (Kd.R_lower ho0 (zae (by repeat (first | (with_reducible first | exact HB.out | apply zac | apply zab | apply zad) | exact HB.out)))); have n3_ := zaa.mk (zag (by repeat (first | (with_reducible first | exact HB.out | apply zac | apply zab | apply zad) | exact HB.out)) hb); clear HO_3; clear HO_4; clear HB; have HO_3 := n0_; have HO_4 := n1_; have HO216 := n2_; have HB := n3_; clear n0_ n1_ n2_ n3_; (try clear hb); (try clear hb2); (try clear hk); (try clear hi); (try clear ho0); obtain ⟨Ao20, co20, eo20⟩ := Kd.R_slice HO216.out; subst eo20) | ((with_reducible refine zai (f := 88) rfl ?_); refine zbc (some 28) rfl rfl Try.func88 (by kernel_rfl) rfl #[.slice Ao20 t214.length co20] rfl (by (try simp only [List.map_toArray, List.map_cons, List.map_nil]); first | done | rfl | (simp only [List.length_drop, List.length_take]; rfl)) ?_; (with_reducible refine (spec_l2Upright.calls k1 _ _ t214 t217 _ ?side1 ?side2 A17.out).mono ?_); (case side1 => repeat (first | exact (Kd.R_reads' HO216.out).2.2 | (with_reducible refine Kd.C_alloc ?_ _) | (with_reducible refine Kd.C_drewN ?_ _) | (with_reducible refine Kd.C_drew ?_))); (case side2 => exact (Kd.R_reads' HO216.out).2.1); rintro e w21 ⟨v218, rfl, ho0, hb⟩; refine ⟨_, rfl, ?_⟩; have n0_ := zaa.mk (Kd.S_elder' (by (with_reducible repeat (first | apply Kd.S_alloc | apply Kd.S_drewN | apply Kd.S_drew)); exact HO_3.out) (Kd.S_base ho0) hb); have n1_ := zaa.mk (Kd.S_elder' (by (with_reducible repeat (first | apply Kd.S_alloc | apply Kd.S_drewN | apply Kd.S_drew)); exact HO_4.out) (Kd.S_base ho0) hb); have n2_ := zaa.mk (Kd.R_below (by (with_reducible repeat (first | apply Kd.R_alloc | apply Kd.R_drewN | apply Kd.R_drew)); exact HO216.out) hb); have n3_ := zaa.mk (Kd.S_lower (Kd.S_new' (Kd.S_new' ho0 (Kd.S_lt (by (with_reducible repeat (first | apply Kd.S_alloc | apply Kd.S_drewN | apply Kd.S_drew)); exact HO_3.out))) (Kd.S_lt (by (with_reducible repeat (first | apply Kd.S_alloc | apply Kd.S_drewN | apply Kd.S_drew)); exact HO_4.out))) (zae (by repeat (first | (with_reducible first | exact HB.out | apply zac | apply zab | apply zad) | exact HB.out)))); have n4_ := zaa.mk (zag (by repeat (first | (with_reducible first | exact HB.out | apply zac | apply zab | apply zad) | exact HB.out)) hb); clear HO_3; clear HO_4; clear HO216; clear HB; have HO_3 := n0_; have HO_4 := n1_; have HO216 := n2_; have HO219 := n3_; have HB := n4_; clear n0_ n1_ n2_ n3_ n4_; (try clear hb); (try clear hb2); (try clear hk); (try clear hi); (try clear ho0)))
    go_loopg [3, 7] k1 (fun kq v3 v7 w' => ∃ (x3_2 : List (List Int)) (x7_2 : Int), v7 = .int .i64 x7_2 ∧ zaa (spec_l2Walls.l1 kq x3_2 t217 x7_2 = some r) ∧ zaa (kq ≤ k1) ∧ zaa (Kd.S (Kd.slice 3 (Kd.int .i64)) 34 w' w.heap.size (fun k_ => some k_ ≠ (v218 : Value).ownBlock) v3 x3_2) ∧ zaa (Kd.S (Kd.slice 3 (Kd.int .i64)) 34 w' w.heap.size (fun k_ => some k_ ≠ (v3 : Value).ownBlock) v218 t217) ∧ zaa (Below w.heap.size w w'))
    case atStart => exact ⟨(x3_1), (0), (by first | rfl | (simp; done) | (simp [*]; done)), H', ⟨Nat.le_refl _⟩, ⟨by (with_reducible repeat (first | apply Kd.S_alloc | apply Kd.S_drewN | apply Kd.S_drew)); exact Kd.S_mono HO_3.out (fun _ hk => hk.2)⟩, ⟨by (with_reducible repeat (first | apply Kd.S_alloc | apply Kd.S_drewN | apply Kd.S_drew)); exact Kd.S_mono HO219.out (fun _ hk => hk.1.2)⟩, ⟨by repeat (first | (with_reducible first | exact HB.out | apply zac | apply zab | apply zad) | exact HB.out)⟩⟩
    case round =>
     clear H'
     try clear c2
     try clear p2
     try clear q2
     try clear hx2
     try clear c5
     try clear c6
     try clear c6b0
     try clear p6
     try clear c7
     try clear c7b0
     try clear c8
     try clear c9
     try clear c20
     try clear p20
     try clear q20
     try clear hx20
     try clear hx207_0
     try clear p2
     try clear p207
     try clear q207
     obtain ⟨x3_2, x7_2, rfl, HA, HK2, HO_3, HO_6, HB⟩ := hrel
     cases gk with
     | zero => exact absurd HA.out (by simp [spec_l2Walls.l1])
     | succ k2 =>
      have H := HA.out
      clear HA
      simp only [spec_l2Walls.l1] at H
      by_cases c22 : x7_2 < (t217.length : Int)
      ·rw [if_pos c22] at H
       have c22b0 : decide (x7_2 < (t217.length : Int)) = true := decide_eq_true c22
       clear c22
       obtain ⟨y220, hy220⟩ : ∃ y_ : List Int, y_ = (([1] : List Int)) := ⟨_, rfl⟩
       replace H : (if 0 ≤ x7_2 then (if y220.length + (zbi t217 x7_2).length < 17592186044416 then (if x3_2.length < 5864062014805 then (spec_l2Walls.l1 k2 (x3_2 ++ [(y220 ++ (zbi t217 x7_2))]) t217 (wrap64 (x7_2 + 1))) else (none)) else (none)) else (none)) = some r := by first | (rw [hy220]; with_reducible exact H) | (have H2_ := (Option.bind_some _ _).symm.trans H; rw [hy220]; with_reducible exact H2_) | (have H2_ := (Option.bind_some _ _).symm.trans H; with_reducible exact H2_) | with_reducible exact H | (rw [hy220]; exact H) | exact H
       have Ny220 := zaa.mk hy220
       clear hy220
       by_cases c23 : 0 ≤ x7_2
       ·rw [if_pos c23] at H
        have c23b0 : decide (0 ≤ x7_2) = true := decide_eq_true c23
        clear c23
        by_cases c24 : y220.length + (zbi t217 x7_2).length < 17592186044416
        ·rw [if_pos c24] at H
         have LMc24 := zaa.mk c24
         clear c24
         obtain ⟨y224, hy224⟩ : ∃ y_ : List Int, y_ = (y220 ++ (zbi t217 x7_2)) := ⟨_, rfl⟩
         replace H : (if x3_2.length < 5864062014805 then (spec_l2Walls.l1 k2 (x3_2 ++ [y224]) t217 (wrap64 (x7_2 + 1))) else (none)) = some r := by first | (rw [hy224]; with_reducible exact H) | (have H2_ := (Option.bind_some _ _).symm.trans H; rw [hy224]; with_reducible exact H2_) | (have H2_ := (Option.bind_some _ _).symm.trans H; with_reducible exact H2_) | with_reducible exact H | (rw [hy224]; exact H) | exact H
         have Ny224 := zaa.mk hy224
         clear hy224
         by_cases c25 : x3_2.length < 5864062014805
         ·rw [if_pos c25] at H
          have LMc25 := zaa.mk c25
          clear c25
          obtain ⟨y227, hy227⟩ : ∃ y_ : List (List Int), y_ = (x3_2 ++ [y224]) := ⟨_, rfl⟩
          replace H : (spec_l2Walls.l1 k2 y227 t217 (wrap64 (x7_2 + 1))) = some r := by first | (rw [hy227]; with_reducible exact H) | (have H2_ := (Option.bind_some _ _).symm.trans H; rw [hy227]; with_reducible exact H2_) | (have H2_ := (Option.bind_some _ _).symm.trans H; with_reducible exact H2_) | with_reducible exact H | (rw [hy227]; exact H) | exact H
          have Ny227 := zaa.mk hy227
          clear hy227
          have H' := zaa.mk H
          clear H
          obtain ⟨Ao26, co26, eo26⟩ := Kd.S_slice HO_6.out
          subst eo26
          go_wp2_with (first | ((with_reducible refine zaw (N := 36) rfl ?_); refine Kd.R_lit (Kd.int .i64) _ 3 ?hg (N := 36) ?hd (xs := ([1] : List Int)) (inner := [.int .i64 1]) (ok := fun _ => True) (okp := fun _ => True) ?hr ?hp (fun _ hk => hk) trivial (Below.refl _ _) (Nat.le_refl _) (by simp) ?_; (case hd => rfl); (case hg => rfl); (case hr => first | (go_simp; done) | (go_simp; rfl)); (case hp => exact (Reps.one (show Kd.M (Kd.int .i64) _ _ _ 1 [.int .i64 1] from rfl) (Reps.none _ _))); intro v221 w27 ho28 hb hg_ hnew_; clear hg_ hnew_; (first | rw [← Ny220.out] at ho28 | (simp only [Int.reduceToNat] at ho28; rw [← Ny220.out] at ho28)); have n0_ := zaa.mk (Kd.S_elder' (by (with_reducible repeat (first | apply Kd.S_alloc | apply Kd.S_drewN | apply Kd.S_drew)); exact HO_3.out) (Kd.R_base ho28) hb); have n1_ := zaa.mk (Kd.S_elder' (by (with_reducible repeat (first | apply Kd.S_alloc | apply Kd.S_drewN | apply Kd.S_drew)); exact HO_6.out) (Kd.R_base ho28) hb); have n2_ := zaa.mk (Kd.R_lower ho28 (zae (by repeat (first | (with_reducible first | exact HB.out | apply zac | apply zab | apply zad) | exact HB.out)))); have n3_ := zaa.mk (zag (by repeat (first | (with_reducible first | exact HB.out | apply zac | apply zab | apply zad) | exact HB.out)) hb); clear HO_3; clear HO_6; clear HB; have HO_3 := n0_; have HO_6 := n1_; have HO222 := n2_; have HB := n3_; clear n0_ n1_ n2_ n3_; clear hb ho28; have p223 : 0 ≤ (x7_2 : Int) := of_decide_eq_true (by first | (with_reducible assumption) | assumption); have q223 : x7_2 < (t217.length : Int) := of_decide_eq_true (by first | (with_reducible assumption) | assumption); obtain ⟨ad223, A223_0, c223_0, e223, hx223_0, hl223_0, hi223_0⟩ := at_L3 (Kd.S_reads' HO_6.out).2.2 x7_2 p223 q223; cases e223; obtain ⟨ce223, hce223, hMe223, hcc223⟩ := Kd.S_get HO_6.out [] x7_2 p223 (by first | exact q223 | exact of_decide_eq_true (by first | (with_reducible assumption) | assumption) | (have e_ := (Kd.S_reads' HO_6.out).1; omega)); obtain ⟨ve223_0, rfl, ge223_0⟩ := hMe223; have hv223_0 := hcc223 0 _ rfl; rw [Nat.add_zero, show ((Kd.slice 3 (Kd.int .i64))).sz = 1 from rfl, Nat.mul_one] at hv223_0; replace hv223_0 := Option.some.inj (hv223_0.symm.trans hx223_0); rw [hv223_0] at ge223_0; have HL223_0 := zaa.mk (show Kd.R (Kd.int .i64) 3 _ _ _ _ (zbi t217 x7_2) from ge223_0); clear hv223_0 ge223_0; clear hcc223 hce223; have HR223_0 := zaa.mk hi223_0; have HC223_0 := zaa.mk hl223_0; clear hi223_0 hl223_0; replace p223 := eq_true p223; replace q223 := eq_true q223) | ((with_reducible refine zaq (b := .append) (xs := #[.tmp 36, .tmp 40]) rfl ?_); at_builtin; refine Kd.R_append_rows (Kd.int .i64) (w0 := w) w.heap.size rfl (.tmp 36) (.tmp 40) 34 3 (.int .i64 0) 8 rfl Try.underlying34 info3 rfl (by decide) (by omega) v221 y220 (zbi t217 x7_2) _ _ _ (fun _ => True) (fun _ => False) rfl rfl ?aO ?aR (fun _ _ h => h) (fun _ h => h.elim) ?aF ?aB ?aS ?aL ?_; (case aR => repeat (first | exact (by repeat (first | (with_reducible exact HR223_0.out) | (with_reducible refine Kd.C_alloc ?_ _) | (with_reducible refine Kd.C_drewN ?_ _) | (with_reducible refine Kd.C_drew ?_) | exact HR223_0.out)) | (with_reducible refine Kd.C_alloc ?_ _) | (with_reducible refine Kd.C_drewN ?_ _) | (with_reducible refine Kd.C_drew ?_))); (case aB => exact (by repeat (first | (with_reducible first | exact HB.out | apply zac | apply zab | apply zad) | exact HB.out))); (case aF => exact (fun _ _ => trivial)); (case aO => exact (by (with_reducible repeat (first | apply Kd.R_alloc | apply Kd.R_drewN | apply Kd.R_drew)); exact HO222.out)); (case aS => exact (zae (by repeat (first | (with_reducible first | exact HB.out | apply zac | apply zab | apply zad) | exact HB.out)))); (case aL => have := LMc24.out; omega); intro v225 w29 ho hb hg hat; rw [← Ny224.out] at ho; have n0_ := zaa.mk (Kd.S_after (ok := (fun k_ => some k_ ≠ (.slice (some ad223) t217.length co26 : Value).ownBlock)) (by (with_reducible repeat (first | apply Kd.S_alloc | apply Kd.S_drewN | apply Kd.S_drew)); exact HO_3.out) hg hat); have n1_ := zaa.mk (Kd.S_after (ok := (fun k_ => some k_ ≠ (u3 : Value).ownBlock)) (by (with_reducible repeat (first | apply Kd.S_alloc | apply Kd.S_drewN | apply Kd.S_drew)); exact HO_6.out) hg hat); have n2_ := zaa.mk (Kd.R_after (ok := (fun k_ => some k_ ≠ (u3 : Value).ownBlock ∧ some k_ ≠ (.slice (some ad223) t217.length co26 : Value).ownBlock)) (by (with_reducible repeat (first | apply Kd.R_alloc | apply Kd.R_drewN | apply Kd.R_drew)); exact Kd.R_mono HL223_0.out (fun _ hk => ⟨⟨hk.1.1, hk.2⟩, hk.1.2⟩)) hg hat); have n3_ := zaa.mk (hb); have n4_ := zaa.mk (ho); clear HO_3; clear HO_6; clear HL223_0; clear HB; clear HO222; have HO_3 := n0_; have HO_6 := n1_; have HL223_0 := n2_; have HB := n3_; have HO226 := n4_; clear n0_ n1_ n2_ n3_ n4_; clear ho hb hg hat; obtain ⟨Ao31, co31, eo31⟩ := Kd.R_slice HO226.out; subst eo31) | ((with_reducible refine zaq (b := .append) (xs := #[.tmp 35, .tmp 42]) rfl ?_); at_builtin; refine Kd.S_append (Kd.slice 3 (Kd.int .i64)) (w0 := w) w.heap.size rfl (.tmp 35) (.tmp 42) 29 34 (.slice none 0 0) 24 rfl Try.underlying29 info34 rfl (by decide) (by omega) u3 x3_2 y224 [.slice Ao31 y224.length co31] (fun k_ => some k_ ≠ (.slice (some ad223) t217.length co26 : Value).ownBlock) (fun k_ => some k_ = (.slice Ao31 y224.length co31 : Value).ownBlock) rfl rfl ?aP (fun k_ hk_ => ((Kd.R_mono (ok' := fun k_ => ((fun k_ => some k_ ≠ (.slice (some ad223) t217.length co26 : Value).ownBlock)) k_ ∧ some k_ ≠ (u3 : Value).ownBlock) (Kd.R_apart' (Kd.R_apart' (HO226.out) (Kd.S_typed HO_6.out) (by decide)) (Kd.S_typed HO_3.out) (by decide)) (fun k_ hk => ⟨hk.1.2, hk.2⟩))).1 k_ hk_.symm) ?aF ?aO ?aB ?aS ?aL ?_; (case aP => exact Kd.M_row (Kd.R_mono (Kd.R_tight rfl (Kd.R_mono (ok' := fun k_ => ((fun k_ => some k_ ≠ (.slice (some ad223) t217.length co26 : Value).ownBlock)) k_ ∧ some k_ ≠ (u3 : Value).ownBlock) (Kd.R_apart' (Kd.R_apart' (HO226.out) (Kd.S_typed HO_6.out) (by decide)) (Kd.S_typed HO_3.out) (by decide)) (fun k_ hk => ⟨hk.1.2, hk.2⟩))) (fun _ h_ => h_))); (case aB => exact (by repeat (first | (with_reducible first | exact HB.out | apply zac | apply zab | apply zad) | exact HB.out))); (case aF => exact (fun k_ hk => Kd.fresh' (Kd.S_lt (by (with_reducible repeat (first | apply Kd.S_alloc | apply Kd.S_drewN | apply Kd.S_drew)); exact HO_6.out)) k_ hk)); (case aO => exact (by (with_reducible repeat (first | apply Kd.S_alloc | apply Kd.S_drewN | apply Kd.S_drew)); exact Kd.S_mono HO_3.out (fun k_ hk => ⟨hk.1, fun e_ => hk.2 e_⟩))); (case aS => exact (zae (by repeat (first | (with_reducible first | exact HB.out | apply zac | apply zab | apply zad) | exact HB.out)))); (case aL => have := LMc25.out; omega); intro v228 w30 ho hb hg hat; rw [← Ny227.out] at ho; have n0_ := zaa.mk (Kd.S_after (ok := (fun k_ => some k_ ≠ (.slice Ao31 y224.length co31 : Value).ownBlock)) (by (with_reducible repeat (first | apply Kd.S_alloc | apply Kd.S_drewN | apply Kd.S_drew)); exact Kd.S_mono HO_6.out (fun _ hk => ⟨hk.2, hk.1⟩)) hg hat); have n1_ := zaa.mk (Kd.R_after (ok := (fun k_ => some k_ ≠ (.slice (some ad223) t217.length co26 : Value).ownBlock ∧ some k_ ≠ (.slice Ao31 y224.length co31 : Value).ownBlock)) (by (with_reducible repeat (first | apply Kd.R_alloc | apply Kd.R_drewN | apply Kd.R_drew)); exact Kd.R_mono HL223_0.out (fun _ hk => ⟨⟨hk.1.2, hk.2⟩, hk.1.1⟩)) hg hat); have n2_ := zaa.mk (hb); have n3_ := zaa.mk (ho); clear HO_6; clear HL223_0; clear HB; clear HO_3; clear HO226; have HO_6 := n0_; have HL223_0 := n1_; have HB := n2_; have HO229 := n3_; clear n0_ n1_ n2_ n3_; clear ho hb hg hat))
          go_roundg k2
          case measure => have := HK1.out; have := HK2.out; omega
          case rel => exact ⟨(y227), (wrap64 (x7_2 + 1)), (by first | rfl | (simp; done) | (simp [*]; done)), H', ⟨by have := HK1.out; have := HK2.out; omega⟩, ⟨by (with_reducible repeat (first | apply Kd.S_alloc | apply Kd.S_drewN | apply Kd.S_drew)); exact HO229.out⟩, ⟨by (with_reducible repeat (first | apply Kd.S_alloc | apply Kd.S_drewN | apply Kd.S_drew)); exact Kd.S_mono HO_6.out (fun _ hk => hk.2)⟩, ⟨by repeat (first | (with_reducible first | exact HB.out | apply zac | apply zab | apply zad) | exact HB.out)⟩⟩
         ·rw [if_neg c25] at H
          exact absurd H (by simp)
        ·rw [if_neg c24] at H
         exact absurd H (by simp)
       ·rw [if_neg c23] at H
        exact absurd H (by simp)
      ·rw [if_neg c22] at H
       have c22b0 : decide (x7_2 < (t217.length : Int)) = false := decide_eq_false c22
       clear c22
       obtain rfl := Option.some.inj H
       obtain ⟨Ao32, co32, eo32⟩ := Kd.S_slice HO_6.out
       subst eo32
       go_wp2
       go_ret
       exact ⟨_, by first | rfl | (simp [zak, zaj] <;> rfl) | (simp [*, zak, zaj] <;> rfl), by (with_reducible repeat (first | apply Kd.S_alloc | apply Kd.S_drewN | apply Kd.S_drew)); exact Kd.S_mono HO_3.out (fun _ hk => trivial), by repeat (first | (with_reducible first | exact HB.out | apply zac | apply zab | apply zad) | exact HB.out)⟩
end Go.Proofs.Ytoijjkhdfooapaa.PB
namespace Go.Proofs.Ytoijjkhdfooapaa.PB
open Go.RowKit Go.PW.PrintWords Go.PW.PrintLast Go.PW.PrintMore
attribute [local go_sem] zbu zbs zcf zce zbm zbl zbt zbr   -- for this text's walks alone
def laws_toStringS.l0 : Nat → List ByteArray → List ByteArray → Int → Option (List ByteArray)
 | 0, _, _, _ => none
 | k + 1, x0, x3, x4 => if x4 < (x0.length : Int) then (if 0 ≤ x4 then (if x4 < (x3.length : Int) then (laws_toStringS.l0 k x0 (x3.set (x4 : Int).toNat (rdOf ByteArray.empty x0 x4)) (wrap64 (x4 + 1))) else (none)) else (none)) else (some x3)
def laws_toStringS.f (k : Nat) (l0 : List ByteArray) : Option (List ByteArray) := if 0 ≤ (l0.length : Int) then (if ((l0.length : Int) : Int).toNat ≤ 17592186044416 then (laws_toStringS.l0 k l0 (List.replicate ((l0.length : Int) : Int).toNat (⟨#[]⟩ : ByteArray)) 0) else (none)) else (none)
set_option maxHeartbeats 8000000 in
set_option maxRecDepth 100000 in
theorem laws_toStringS.calls (k : Nat) (A0 : Option Addr) (c0 : Nat) (l0 : List ByteArray) (r : List ByteArray) (w : World) (hr0 : Kd.C Kd.string w A0 l0.length l0) (hc0 : l0.length ≤ c0) (h : laws_toStringS.f k l0 = some r) :
  Calls Try.prog 17 #[.slice A0 l0.length c0] w fun e w' => ∃ v0_ : Value, e = .returned (v0_) ∧ Kd.R Kd.string 9 w' w.heap.size (fun _ => True) v0_ r ∧ Below w.heap.size w w' := by
 have HR0 := zaa.mk hr0
 have HC0 := zaa.mk hc0
 clear hr0 hc0
 have HB := zaa.mk (Below.refl w.heap.size w)
 have H : (if 0 ≤ (l0.length : Int) then (if ((l0.length : Int) : Int).toNat ≤ 17592186044416 then (laws_toStringS.l0 k l0 (List.replicate ((l0.length : Int) : Int).toNat (⟨#[]⟩ : ByteArray)) 0) else (none)) else (none)) = some r := h
 clear h
 by_cases c2 : 0 ≤ (l0.length : Int)
 ·rw [if_pos c2] at H
  have c2b0 := eq_true c2
  have c2b1 : decide (0 ≤ (l0.length : Int)) = true := decide_eq_true c2
  clear c2
  by_cases c3 : ((l0.length : Int) : Int).toNat ≤ 17592186044416
  ·rw [if_pos c3] at H
   have c3b0 := eq_true c3
   have c3b1 : decide (((l0.length : Int) : Int).toNat ≤ 17592186044416) = true := decide_eq_true c3
   clear c3
   obtain ⟨y244, hy244⟩ : ∃ y_ : List ByteArray, y_ = (List.replicate ((l0.length : Int) : Int).toNat (⟨#[]⟩ : ByteArray)) := ⟨_, rfl⟩
   replace H : (laws_toStringS.l0 k l0 y244 0) = some r := by first | (rw [hy244]; with_reducible exact H) | (have H2_ := (Option.bind_some _ _).symm.trans H; rw [hy244]; with_reducible exact H2_) | (have H2_ := (Option.bind_some _ _).symm.trans H; with_reducible exact H2_) | with_reducible exact H | (rw [hy244]; exact H) | exact H
   have Ny244 := zaa.mk hy244
   clear hy244
   have H' := zaa.mk H
   clear H
   go_enter Try.func17, Try.ntmps17
   go_wp2_with (first | ((with_reducible refine zaw (N := 7) rfl ?_); refine Kd.R_make Kd.string _ 9 rfl (N := 7) rfl 22 _ _ rfl (l0.length : Int) rfl rfl Try.underlying22 (.string ⟨#[]⟩) 16 info9 rfl (by decide) (by omega) (⟨#[]⟩ : ByteArray) (ok := fun _ => True) (okp := fun _ => True) rfl (fun _ hk => hk) trivial (of_decide_eq_true (by first | (with_reducible assumption) | assumption)) (Nat.le_trans (Nat.mul_le_mul_right _ (of_decide_eq_true (by first | (with_reducible assumption) | assumption) : (l0.length : Int).toNat ≤ 17592186044416)) (by omega)) (Below.refl _ _) (Nat.le_refl _) ?_; intro v245 w4 ho5 hb hg_ hnew_; clear hg_ hnew_; (first | rw [← Ny244.out] at ho5 | (simp only [Int.reduceToNat] at ho5; rw [← Ny244.out] at ho5)); have n0_ := zaa.mk (Kd.R_lower ho5 (zae (by repeat (first | (with_reducible first | exact HB.out | apply zac | apply zab | apply zad) | exact HB.out)))); have n1_ := zaa.mk (zag (by repeat (first | (with_reducible first | exact HB.out | apply zac | apply zab | apply zad) | exact HB.out)) hb); clear HB; have HO246 := n0_; have HB := n1_; clear n0_ n1_; clear hb ho5))
   go_loopg [4] k (fun kq v4 w' => ∃ (x3_1 : List ByteArray) (x4_1 : Int), v4 = .int .i64 x4_1 ∧ zaa (laws_toStringS.l0 kq l0 x3_1 x4_1 = some r) ∧ zaa (kq ≤ k) ∧ zaa (Kd.R Kd.string 9 w' w.heap.size (fun _ => True) v245 x3_1) ∧ zaa (Below w.heap.size w w'))
   case atStart => exact ⟨(y244), (0), (by first | rfl | (simp; done) | (simp [*]; done)), H', ⟨Nat.le_refl _⟩, ⟨by (with_reducible repeat (first | apply Kd.R_alloc | apply Kd.R_drewN | apply Kd.R_drew)); exact HO246.out⟩, ⟨by repeat (first | (with_reducible first | exact HB.out | apply zac | apply zab | apply zad) | exact HB.out)⟩⟩
   case round =>
    clear H'
    try clear c1
    try clear c2
    try clear c2b0
    try clear c2b1
    try clear p2
    try clear c3
    try clear c3b0
    try clear c3b1
    obtain ⟨x3_1, x4_1, rfl, HA, HK1, HO_3, HB⟩ := hrel
    cases gk with
    | zero => exact absurd HA.out (by simp [laws_toStringS.l0])
    | succ k1 =>
     have H := HA.out
     clear HA
     simp only [laws_toStringS.l0] at H
     by_cases c6 : x4_1 < (l0.length : Int)
     ·rw [if_pos c6] at H
      have c6b0 : decide (x4_1 < (l0.length : Int)) = true := decide_eq_true c6
      clear c6
      by_cases c7 : 0 ≤ x4_1
      ·rw [if_pos c7] at H
       have c7b0 : decide (0 ≤ x4_1) = true := decide_eq_true c7
       clear c7
       by_cases c8 : x4_1 < (x3_1.length : Int)
       ·rw [if_pos c8] at H
        have c8b0 : decide (x4_1 < (x3_1.length : Int)) = true := decide_eq_true c8
        clear c8
        obtain ⟨y248, hy248⟩ : ∃ y_ : List ByteArray, y_ = (x3_1.set (x4_1 : Int).toNat (rdOf ByteArray.empty l0 x4_1)) := ⟨_, rfl⟩
        replace H : (laws_toStringS.l0 k1 l0 y248 (wrap64 (x4_1 + 1))) = some r := by first | (rw [hy248]; with_reducible exact H) | (have H2_ := (Option.bind_some _ _).symm.trans H; rw [hy248]; with_reducible exact H2_) | (have H2_ := (Option.bind_some _ _).symm.trans H; with_reducible exact H2_) | with_reducible exact H | (rw [hy248]; exact H) | exact H
        have Ny248 := zaa.mk hy248
        clear hy248
        have H' := zaa.mk H
        clear H
        have p247 : 0 ≤ (x4_1 : Int) := of_decide_eq_true (by first | (with_reducible assumption) | assumption)
        have q247 : x4_1 < (l0.length : Int) := of_decide_eq_true (by first | (with_reducible assumption) | assumption)
        obtain ⟨ad247, e247, hx247_0⟩ := Kd.at_string HR0.out x4_1 p247 q247
        cases e247
        replace hx247_0 := (HB.out.cell (World.block_lt_of_cell? w _ hx247_0)).trans hx247_0
        replace p247 := eq_true p247
        replace q247 := eq_true q247
        have p9 : 0 ≤ (x4_1 : Int) := of_decide_eq_true (by first | (with_reducible assumption) | assumption)
        have q9 : (x4_1 : Int) < ((x3_1.length : Int) : Int) := of_decide_eq_true (by first | (with_reducible assumption) | assumption)
        obtain ⟨go9, co9, eo9, gb9, gl9, cl9, HG9⟩ := Kd.R_form HO_3.out (by omega)
        (first | cases eo9 | (injection eo9 with ea_ en_ ec_; (first | subst ea_ | (injection ea_ with ea_; subst ea_)); subst ec_; clear en_))
        have GB9 := zaa.mk gb9
        have GG9 := zaa.mk HG9
        clear gb9 gl9 HG9
        obtain ⟨hx9_0, hf9_0⟩ := Kd.R_celln (⟨#[]⟩ : ByteArray) HO_3.out (x4_1 : Int) p9 q9
        replace p9 := eq_true p9
        replace q9 := eq_true q9
        have HP10 := Kd.R_putg HO_3.out (x4_1 : Int) (rdOf ByteArray.empty l0 x4_1)
        go_wp2_with (first | ((with_reducible refine gate_store (t := 9) (p := 20) rfl ?_); refine store_event (t := 9) (p := 20) (v := ?vo_w11) (w1 := (wr.setCell ⟨go9, (x4_1 : Int).toNat, none⟩ (.string (rdOf ByteArray.empty l0 x4_1)))) ?hg ?ho ?hn ?hr ?_; (case ho => rfl); (case hg => rfl); (case hn => rfl); (case hr => first | (go_simp; done) | (go_simp; rfl)); intro w11 hw; have hg : wr.grownBy w11 (some go9) := (by rw [hw]; exact HP10.2); have hp_ : Kd.R Kd.string 9 w11 w.heap.size (fun _ => True) (.slice (some ⟨go9, 0, none⟩) x3_1.length co9) y248 := (by rw [hw, Ny248.out]; exact HP10.1); clear HP10; have n0_ := zaa.mk (hp_); have n1_ := zaa.mk ((by rw [hw]; exact zao (HB.out) GB9.out : Below w.heap.size w w11)); clear HO_3; clear HB; have HO_3 := n0_; have HB := n1_; clear n0_ n1_; clear hg hw hp_))
        go_roundg k1
        case measure => have := HK1.out; omega
        case rel => exact ⟨(y248), (wrap64 (x4_1 + 1)), (by first | rfl | (simp; done) | (simp [*]; done)), H', ⟨by have := HK1.out; omega⟩, ⟨by (with_reducible repeat (first | apply Kd.R_alloc | apply Kd.R_drewN | apply Kd.R_drew)); exact HO_3.out⟩, ⟨by repeat (first | (with_reducible first | exact HB.out | apply zac | apply zab | apply zad) | exact HB.out)⟩⟩
       ·rw [if_neg c8] at H
        exact absurd H (by simp)
      ·rw [if_neg c7] at H
       exact absurd H (by simp)
     ·rw [if_neg c6] at H
      have c6b0 : decide (x4_1 < (l0.length : Int)) = false := decide_eq_false c6
      clear c6
      obtain rfl := Option.some.inj H
      go_wp2
      go_ret
      exact ⟨_, by first | rfl | (simp [zak, zaj] <;> rfl) | (simp [*, zak, zaj] <;> rfl), by (with_reducible repeat (first | apply Kd.R_alloc | apply Kd.R_drewN | apply Kd.R_drew)); exact HO_3.out, by repeat (first | (with_reducible first | exact HB.out | apply zac | apply zab | apply zad) | exact HB.out)⟩
  ·rw [if_neg c3] at H
   exact absurd H (by simp)
 ·rw [if_neg c2] at H
  exact absurd H (by simp)
end Go.Proofs.Ytoijjkhdfooapaa.PB
namespace Go.Proofs.Ytoijjkhdfooapaa.PB
open Go.RowKit Go.PW.PrintWords Go.PW.PrintLast Go.PW.PrintMore
attribute [local go_sem] zbu zbs zcf zce zbm zbl zbt zbr   -- for this text's walks alone
def laws_eqStringS.l0 : Nat → List ByteArray → List ByteArray → Int → Option (Bool)
 | 0, _, _, _ => none
 | k + 1, x0, x1, x5 => if x5 < (x0.length : Int) then (if 0 ≤ x5 then (if x5 < (x1.length : Int) then (if (rdOf ByteArray.empty x0 x5).toList = (rdOf ByteArray.empty x1 x5).toList then (laws_eqStringS.l0 k x0 x1 (wrap64 (x5 + 1))) else (some false)) else (none)) else (none)) else (some true)
def laws_eqStringS.f (k : Nat) (l0 : List ByteArray) (l1 : List ByteArray) : Option (Bool) := if (l0.length : Int) = (l1.length : Int) then (laws_eqStringS.l0 k l0 l1 0) else (some false)
set_option maxHeartbeats 8000000 in
set_option maxRecDepth 100000 in
theorem laws_eqStringS.calls (k : Nat) (A0 : Option Addr) (c0 : Nat) (l0 : List ByteArray) (A1 : Option Addr) (c1 : Nat) (l1 : List ByteArray) (r : Bool) (w : World) (hr0 : Kd.C Kd.string w A0 l0.length l0) (hc0 : l0.length ≤ c0) (hr1 : Kd.C Kd.string w A1 l1.length l1) (hc1 : l1.length ≤ c1) (h : laws_eqStringS.f k l0 l1 = some r) :
  Calls Try.prog 19 #[.slice A0 l0.length c0, .slice A1 l1.length c1] w fun e w' => e = .returned (.bool r) ∧ zap w w' := by
 have HR0 := zaa.mk hr0
 have HC0 := zaa.mk hc0
 clear hr0 hc0
 have HR1 := zaa.mk hr1
 have HC1 := zaa.mk hc1
 clear hr1 hc1
 have H : (if (l0.length : Int) = (l1.length : Int) then (laws_eqStringS.l0 k l0 l1 0) else (some false)) = some r := h
 clear h
 by_cases c3 : (l0.length : Int) = (l1.length : Int)
 ·rw [if_pos c3] at H
  have c3b0 : ((l0.length : Int) == (l1.length : Int)) = true := beq_iff_eq.mpr c3
  have c3b1 : ((l0.length : Int) != (l1.length : Int)) = false := bne_eq_false_iff_eq.mpr c3
  have c3b2 : (l0.length == l1.length) = true := by first | simpa using c3 | (simp at c3 ⊢; omega)
  clear c3
  have H' := zaa.mk H
  clear H
  go_enter Try.func19, Try.ntmps19
  go_wp2
  repeat (go_quiet (fail); try go_wp2)
  go_loopg [5] k (fun kq v5 w' => ∃ (x5_1 : Int), v5 = .int .i64 x5_1 ∧ zaa (laws_eqStringS.l0 kq l0 l1 x5_1 = some r) ∧ zaa (kq ≤ k) ∧ zap w w')
  case atStart => exact ⟨(0), (by first | rfl | (simp; done) | (simp [*]; done)), H', ⟨Nat.le_refl _⟩, by repeat (first | exact zap.refl _ | apply zap.step)⟩
  case round =>
   clear H'
   try clear c1
   try clear p2
   try clear c3
   try clear c3b0
   try clear c3b1
   try clear c3b2
   obtain ⟨x5_1, rfl, HA, HK1, ⟨m1, rfl⟩⟩ := hrel
   cases gk with
   | zero => exact absurd HA.out (by simp [laws_eqStringS.l0])
   | succ k1 =>
    have H := HA.out
    clear HA
    simp only [laws_eqStringS.l0] at H
    by_cases c4 : x5_1 < (l0.length : Int)
    ·rw [if_pos c4] at H
     have c4b0 : decide (x5_1 < (l0.length : Int)) = true := decide_eq_true c4
     clear c4
     by_cases c5 : 0 ≤ x5_1
     ·rw [if_pos c5] at H
      have c5b0 : decide (0 ≤ x5_1) = true := decide_eq_true c5
      clear c5
      by_cases c6 : x5_1 < (l1.length : Int)
      ·rw [if_pos c6] at H
       have c6b0 : decide (x5_1 < (l1.length : Int)) = true := decide_eq_true c6
       clear c6
       by_cases c7 : (rdOf ByteArray.empty l0 x5_1).toList = (rdOf ByteArray.empty l1 x5_1).toList
       ·rw [if_pos c7] at H
        have c7b0 : ((rdOf ByteArray.empty l0 x5_1).toList == (rdOf ByteArray.empty l1 x5_1).toList) = true := beq_iff_eq.mpr c7
        have c7b1 : ((rdOf ByteArray.empty l0 x5_1).toList != (rdOf ByteArray.empty l1 x5_1).toList) = false := bne_eq_false_iff_eq.mpr c7
        clear c7
        have H' := zaa.mk H
        clear H
        have p292 : 0 ≤ (x5_1 : Int) := of_decide_eq_true (by first | (with_reducible assumption) | assumption)
        have q292 : x5_1 < (l0.length : Int) := of_decide_eq_true (by first | (with_reducible assumption) | assumption)
        obtain ⟨ad292, e292, hx292_0⟩ := Kd.at_string HR0.out x5_1 p292 q292
        cases e292
        replace p292 := eq_true p292
        replace q292 := eq_true q292
        have p293 : 0 ≤ (x5_1 : Int) := of_decide_eq_true (by first | (with_reducible assumption) | assumption)
        have q293 : x5_1 < (l1.length : Int) := of_decide_eq_true (by first | (with_reducible assumption) | assumption)
        obtain ⟨ad293, e293, hx293_0⟩ := Kd.at_string HR1.out x5_1 p293 q293
        cases e293
        replace p293 := eq_true p293
        replace q293 := eq_true q293
        go_wp2
        repeat (go_quiet (fail); try go_wp2)
        go_roundg k1
        case measure => have := HK1.out; omega
        case rel => exact ⟨(wrap64 (x5_1 + 1)), (by first | rfl | (simp; done) | (simp [*]; done)), H', ⟨by have := HK1.out; omega⟩, by repeat (first | exact zap.refl _ | apply zap.step)⟩
       ·rw [if_neg c7] at H
        have c7b0 : ((rdOf ByteArray.empty l0 x5_1).toList == (rdOf ByteArray.empty l1 x5_1).toList) = false := beq_eq_false_iff_ne.mpr c7
        have c7b1 : ((rdOf ByteArray.empty l0 x5_1).toList != (rdOf ByteArray.empty l1 x5_1).toList) = true := bne_iff_ne.mpr c7
        obtain rfl := Option.some.inj H
        have p292 : 0 ≤ (x5_1 : Int) := of_decide_eq_true (by first | (with_reducible assumption) | assumption)
        have q292 : x5_1 < (l0.length : Int) := of_decide_eq_true (by first | (with_reducible assumption) | assumption)
        obtain ⟨ad292, e292, hx292_0⟩ := Kd.at_string HR0.out x5_1 p292 q292
        cases e292
        replace p292 := eq_true p292
        replace q292 := eq_true q292
        have p293 : 0 ≤ (x5_1 : Int) := of_decide_eq_true (by first | (with_reducible assumption) | assumption)
        have q293 : x5_1 < (l1.length : Int) := of_decide_eq_true (by first | (with_reducible assumption) | assumption)
        obtain ⟨ad293, e293, hx293_0⟩ := Kd.at_string HR1.out x5_1 p293 q293
        cases e293
        replace p293 := eq_true p293
        replace q293 := eq_true q293
        go_wp2
        repeat (go_quiet (fail); try go_wp2)
        go_ret
        exact ⟨by first | rfl | (simp; done) | (simp [*]; done), by repeat (first | exact zap.refl _ | apply zap.step)⟩
      ·rw [if_neg c6] at H
       exact absurd H (by simp)
     ·rw [if_neg c5] at H
      exact absurd H (by simp)
    ·rw [if_neg c4] at H
     have c4b0 : decide (x5_1 < (l0.length : Int)) = false := decide_eq_false c4
     clear c4
     obtain rfl := Option.some.inj H
     go_wp2
     repeat (go_quiet (fail); try go_wp2)
     go_ret
     exact ⟨by first | rfl | (simp; done) | (simp [*]; done), by repeat (first | exact zap.refl _ | apply zap.step)⟩
 ·rw [if_neg c3] at H
  have c3b0 : ((l0.length : Int) == (l1.length : Int)) = false := beq_eq_false_iff_ne.mpr c3
  have c3b1 : ((l0.length : Int) != (l1.length : Int)) = true := bne_iff_ne.mpr c3
  have c3b2 : (l0.length == l1.length) = false := by first | simpa using c3 | (simp at c3 ⊢; omega)
  obtain rfl := Option.some.inj H
  go_enter Try.func19, Try.ntmps19
  go_wp2
  repeat (go_quiet (fail); try go_wp2)
  go_ret
  exact ⟨by first | rfl | (simp; done) | (simp [*]; done), by repeat (first | exact zap.refl _ | apply zap.step)⟩
end Go.Proofs.Ytoijjkhdfooapaa.PB
namespace Go.Proofs.Ytoijjkhdfooapaa.PB
open Go.RowKit Go.PW.PrintWords Go.PW.PrintLast Go.PW.PrintMore
attribute [local go_sem] zbu zbs zcf zce zbm zbl zbt zbr   -- for this text's walks alone
def laws_eqIntS.l0 : Nat → List Int → List Int → Int → Option (Bool)
 | 0, _, _, _ => none
 | k + 1, x0, x1, x5 => if x5 < (x0.length : Int) then (if 0 ≤ x5 then (if x5 < (x1.length : Int) then (if (rd x0 x5) = (rd x1 x5) then (laws_eqIntS.l0 k x0 x1 (wrap64 (x5 + 1))) else (some false)) else (none)) else (none)) else (some true)
def laws_eqIntS.f (k : Nat) (l0 : List Int) (l1 : List Int) : Option (Bool) := if (l0.length : Int) = (l1.length : Int) then (laws_eqIntS.l0 k l0 l1 0) else (some false)
set_option maxHeartbeats 8000000 in
set_option maxRecDepth 100000 in
theorem laws_eqIntS.calls (k : Nat) (A0 : Option Addr) (c0 : Nat) (l0 : List Int) (A1 : Option Addr) (c1 : Nat) (l1 : List Int) (r : Bool) (w : World) (hr0 : Kd.C (Kd.int .i64) w A0 l0.length l0) (hc0 : l0.length ≤ c0) (hr1 : Kd.C (Kd.int .i64) w A1 l1.length l1) (hc1 : l1.length ≤ c1) (h : laws_eqIntS.f k l0 l1 = some r) :
  Calls Try.prog 30 #[.slice A0 l0.length c0, .slice A1 l1.length c1] w fun e w' => e = .returned (.bool r) ∧ zap w w' := by
 have HR0 := zaa.mk hr0
 have HC0 := zaa.mk hc0
 clear hr0 hc0
 have HR1 := zaa.mk hr1
 have HC1 := zaa.mk hc1
 clear hr1 hc1
 have H : (if (l0.length : Int) = (l1.length : Int) then (laws_eqIntS.l0 k l0 l1 0) else (some false)) = some r := h
 clear h
 by_cases c3 : (l0.length : Int) = (l1.length : Int)
 ·rw [if_pos c3] at H
  have c3b0 : ((l0.length : Int) == (l1.length : Int)) = true := beq_iff_eq.mpr c3
  have c3b1 : ((l0.length : Int) != (l1.length : Int)) = false := bne_eq_false_iff_eq.mpr c3
  have c3b2 : (l0.length == l1.length) = true := by first | simpa using c3 | (simp at c3 ⊢; omega)
  clear c3
  have H' := zaa.mk H
  clear H
  go_enter Try.func30, Try.ntmps30
  go_wp2
  repeat (go_quiet (fail); try go_wp2)
  go_loopg [5] k (fun kq v5 w' => ∃ (x5_1 : Int), v5 = .int .i64 x5_1 ∧ zaa (laws_eqIntS.l0 kq l0 l1 x5_1 = some r) ∧ zaa (kq ≤ k) ∧ zap w w')
  case atStart => exact ⟨(0), (by first | rfl | (simp; done) | (simp [*]; done)), H', ⟨Nat.le_refl _⟩, by repeat (first | exact zap.refl _ | apply zap.step)⟩
  case round =>
   clear H'
   try clear c1
   try clear p2
   try clear c3
   try clear c3b0
   try clear c3b1
   try clear c3b2
   obtain ⟨x5_1, rfl, HA, HK1, ⟨m1, rfl⟩⟩ := hrel
   cases gk with
   | zero => exact absurd HA.out (by simp [laws_eqIntS.l0])
   | succ k1 =>
    have H := HA.out
    clear HA
    simp only [laws_eqIntS.l0] at H
    by_cases c4 : x5_1 < (l0.length : Int)
    ·rw [if_pos c4] at H
     have c4b0 : decide (x5_1 < (l0.length : Int)) = true := decide_eq_true c4
     clear c4
     by_cases c5 : 0 ≤ x5_1
     ·rw [if_pos c5] at H
      have c5b0 : decide (0 ≤ x5_1) = true := decide_eq_true c5
      clear c5
      by_cases c6 : x5_1 < (l1.length : Int)
      ·rw [if_pos c6] at H
       have c6b0 : decide (x5_1 < (l1.length : Int)) = true := decide_eq_true c6
       clear c6
       by_cases c7 : (rd l0 x5_1) = (rd l1 x5_1)
       ·rw [if_pos c7] at H
        have c7b0 : ((rd l0 x5_1) == (rd l1 x5_1)) = true := beq_iff_eq.mpr c7
        have c7b1 : ((rd l0 x5_1) != (rd l1 x5_1)) = false := bne_eq_false_iff_eq.mpr c7
        clear c7
        have H' := zaa.mk H
        clear H
        have p325 : 0 ≤ (x5_1 : Int) := of_decide_eq_true (by first | (with_reducible assumption) | assumption)
        have q325 : x5_1 < (l0.length : Int) := of_decide_eq_true (by first | (with_reducible assumption) | assumption)
        obtain ⟨ad325, e325, hx325_0⟩ := Kd.at_int HR0.out x5_1 p325 q325
        cases e325
        replace p325 := eq_true p325
        replace q325 := eq_true q325
        have p326 : 0 ≤ (x5_1 : Int) := of_decide_eq_true (by first | (with_reducible assumption) | assumption)
        have q326 : x5_1 < (l1.length : Int) := of_decide_eq_true (by first | (with_reducible assumption) | assumption)
        obtain ⟨ad326, e326, hx326_0⟩ := Kd.at_int HR1.out x5_1 p326 q326
        cases e326
        replace p326 := eq_true p326
        replace q326 := eq_true q326
        go_wp2
        repeat (go_quiet (fail); try go_wp2)
        go_roundg k1
        case measure => have := HK1.out; omega
        case rel => exact ⟨(wrap64 (x5_1 + 1)), (by first | rfl | (simp; done) | (simp [*]; done)), H', ⟨by have := HK1.out; omega⟩, by repeat (first | exact zap.refl _ | apply zap.step)⟩
       ·rw [if_neg c7] at H
        have c7b0 : ((rd l0 x5_1) == (rd l1 x5_1)) = false := beq_eq_false_iff_ne.mpr c7
        have c7b1 : ((rd l0 x5_1) != (rd l1 x5_1)) = true := bne_iff_ne.mpr c7
        obtain rfl := Option.some.inj H
        have p325 : 0 ≤ (x5_1 : Int) := of_decide_eq_true (by first | (with_reducible assumption) | assumption)
        have q325 : x5_1 < (l0.length : Int) := of_decide_eq_true (by first | (with_reducible assumption) | assumption)
        obtain ⟨ad325, e325, hx325_0⟩ := Kd.at_int HR0.out x5_1 p325 q325
        cases e325
        replace p325 := eq_true p325
        replace q325 := eq_true q325
        have p326 : 0 ≤ (x5_1 : Int) := of_decide_eq_true (by first | (with_reducible assumption) | assumption)
        have q326 : x5_1 < (l1.length : Int) := of_decide_eq_true (by first | (with_reducible assumption) | assumption)
        obtain ⟨ad326, e326, hx326_0⟩ := Kd.at_int HR1.out x5_1 p326 q326
        cases e326
        replace p326 := eq_true p326
        replace q326 := eq_true q326
        go_wp2
        repeat (go_quiet (fail); try go_wp2)
        go_ret
        exact ⟨by first | rfl | (simp; done) | (simp [*]; done), by repeat (first | exact zap.refl _ | apply zap.step)⟩
      ·rw [if_neg c6] at H
       exact absurd H (by simp)
     ·rw [if_neg c5] at H
      exact absurd H (by simp)
    ·rw [if_neg c4] at H
     have c4b0 : decide (x5_1 < (l0.length : Int)) = false := decide_eq_false c4
     clear c4
     obtain rfl := Option.some.inj H
     go_wp2
     repeat (go_quiet (fail); try go_wp2)
     go_ret
     exact ⟨by first | rfl | (simp; done) | (simp [*]; done), by repeat (first | exact zap.refl _ | apply zap.step)⟩
 ·rw [if_neg c3] at H
  have c3b0 : ((l0.length : Int) == (l1.length : Int)) = false := beq_eq_false_iff_ne.mpr c3
  have c3b1 : ((l0.length : Int) != (l1.length : Int)) = true := bne_iff_ne.mpr c3
  have c3b2 : (l0.length == l1.length) = false := by first | simpa using c3 | (simp at c3 ⊢; omega)
  obtain rfl := Option.some.inj H
  go_enter Try.func30, Try.ntmps30
  go_wp2
  repeat (go_quiet (fail); try go_wp2)
  go_ret
  exact ⟨by first | rfl | (simp; done) | (simp [*]; done), by repeat (first | exact zap.refl _ | apply zap.step)⟩
end Go.Proofs.Ytoijjkhdfooapaa.PB
namespace Go.Proofs.Ytoijjkhdfooapaa.PB
open Go.RowKit Go.PW.PrintWords Go.PW.PrintLast Go.PW.PrintMore
attribute [local go_sem] zbu zbs zcf zce zbm zbl zbt zbr   -- for this text's walks alone
def laws_markText.l0 : Nat → Int → ByteArray → Option (ByteArray)
 | 0, _, _ => none
 | k + 1, x0, x3 => if x0 > 0 then ((some (([(wrap64 (48 + (Int.tmod x0 10))) % 256] : List Int) : List Int)).bind fun y330 => (if (strOfNums y330).size + x3.size ≤ 9223372036854775807 then (laws_markText.l0 k (wrap64 (Int.tdiv x0 10)) ((strOfNums y330) ++ x3)) else (none))) else (if 1 + x3.size ≤ 9223372036854775807 then (some ((⟨#[109]⟩ : ByteArray) ++ x3)) else (none))
def laws_markText.f (k : Nat) (a0 : Int) : Option (ByteArray) := if a0 ≤ 0 then (some (⟨#[109, 48]⟩ : ByteArray)) else (laws_markText.l0 k a0 (⟨#[]⟩ : ByteArray))
set_option maxHeartbeats 8000000 in
set_option maxRecDepth 100000 in
theorem laws_markText.calls (k : Nat) (a0 : Int) (r : ByteArray) (w : World) (h : laws_markText.f k a0 = some r) :
  Calls Try.prog 58 #[.int .i64 a0] w fun e w' => e = .returned (.string r) ∧ Below w.heap.size w w' := by
 have HB := zaa.mk (Below.refl w.heap.size w)
 have H : (if a0 ≤ 0 then (some (⟨#[109, 48]⟩ : ByteArray)) else (laws_markText.l0 k a0 (⟨#[]⟩ : ByteArray))) = some r := h
 clear h
 by_cases c2 : a0 ≤ 0
 ·rw [if_pos c2] at H
  have c2b0 : decide (a0 ≤ 0) = true := decide_eq_true c2
  clear c2
  obtain rfl := Option.some.inj H
  go_enter Try.func58, Try.ntmps58
  go_wp2
  go_ret
  exact ⟨by first | rfl | (simp [zak, zaj] <;> rfl) | (simp [*, zak, zaj] <;> rfl), by repeat (first | (with_reducible first | exact HB.out | apply zac | apply zab | apply zad) | exact HB.out)⟩
 ·rw [if_neg c2] at H
  have c2b0 : decide (a0 ≤ 0) = false := decide_eq_false c2
  clear c2
  have H' := zaa.mk H
  clear H
  go_enter Try.func58, Try.ntmps58
  go_wp2
  go_loopg [0, 3] k (fun kq v0 v3 w' => ∃ (x0_1 : Int) (x3_1 : ByteArray), v0 = .int .i64 x0_1 ∧ v3 = .string x3_1 ∧ zaa (laws_markText.l0 kq x0_1 x3_1 = some r) ∧ zaa (kq ≤ k) ∧ zaa (Below w.heap.size w w'))
  case atStart => exact ⟨(a0), ((⟨#[]⟩ : ByteArray)), (by first | rfl | (simp; done) | (simp [*]; done)), (by first | rfl | (simp; done) | (simp [*]; done)), H', ⟨Nat.le_refl _⟩, ⟨by repeat (first | (with_reducible first | exact HB.out | apply zac | apply zab | apply zad) | exact HB.out)⟩⟩
  case round =>
   clear H'
   try clear c2
   try clear c2b0
   try clear p2
   obtain ⟨x0_1, x3_1, rfl, rfl, HA, HK1, HB⟩ := hrel
   cases gk with
   | zero => exact absurd HA.out (by simp [laws_markText.l0])
   | succ k1 =>
    have H := HA.out
    clear HA
    simp only [laws_markText.l0] at H
    by_cases c3 : x0_1 > 0
    ·rw [if_pos c3] at H
     have c3b0 : decide (0 < x0_1) = true := decide_eq_true c3
     clear c3
     obtain ⟨y330, hy330⟩ : ∃ y_ : List Int, y_ = (([(wrap64 (48 + (Int.tmod x0_1 10))) % 256] : List Int)) := ⟨_, rfl⟩
     replace H : (if (strOfNums y330).size + x3_1.size ≤ 9223372036854775807 then (laws_markText.l0 k1 (wrap64 (Int.tdiv x0_1 10)) ((strOfNums y330) ++ x3_1)) else (none)) = some r := by first | (rw [hy330]; with_reducible exact H) | (have H2_ := (Option.bind_some _ _).symm.trans H; rw [hy330]; with_reducible exact H2_) | (have H2_ := (Option.bind_some _ _).symm.trans H; with_reducible exact H2_) | with_reducible exact H | (rw [hy330]; exact H) | exact H
     have Ny330 := zaa.mk hy330
     clear hy330
     by_cases c4 : (strOfNums y330).size + x3_1.size ≤ 9223372036854775807
     ·rw [if_pos c4] at H
      have c4b0 := eq_true c4
      have c4b1 : decide ((strOfNums y330).size + x3_1.size ≤ 9223372036854775807) = true := decide_eq_true c4
      try have c4b2 : (9223372036854775807 < (strOfNums y330).size + x3_1.size) = False := eq_false (Nat.not_lt.2 c4)
      have H' := zaa.mk H
      clear H
      go_wp2_with (first | ((with_reducible refine zaw (N := 12) rfl ?_); refine Kd.R_lit (Kd.int .u8) _ 5 ?hg (N := 12) ?hd (xs := ([(wrap64 (48 + (Int.tmod x0_1 10))) % 256] : List Int)) (inner := [.int .u8 ((wrap64 (48 + (Int.tmod x0_1 10))) % 256)]) (ok := fun _ => True) (okp := fun _ => True) ?hr ?hp (fun _ hk => hk) trivial (Below.refl _ _) (Nat.le_refl _) (by simp) ?_; (case hd => rfl); (case hg => rfl); (case hr => first | (go_simp; done) | (go_simp; rfl)); (case hp => exact (Reps.one (show Kd.M (Kd.int .u8) _ _ _ ((wrap64 (48 + (Int.tmod x0_1 10))) % 256) [.int .u8 ((wrap64 (48 + (Int.tmod x0_1 10))) % 256)] from rfl) (Reps.none _ _))); intro v331 w5 ho6 hb hg_ hnew_; clear hg_ hnew_; (first | rw [← Ny330.out] at ho6 | (simp only [Int.reduceToNat] at ho6; rw [← Ny330.out] at ho6)); have n0_ := zaa.mk (Kd.R_lower ho6 (zae (by repeat (first | (with_reducible first | exact HB.out | apply zac | apply zab | apply zad) | exact HB.out)))); have n1_ := zaa.mk (zag (by repeat (first | (with_reducible first | exact HB.out | apply zac | apply zab | apply zad) | exact HB.out)) hb); clear HB; have HO332 := n0_; have HB := n1_; clear n0_ n1_; clear hb ho6; have hcv7 := own_string (P := Try.prog) Try.underlying45 Try.underlying5 Try.underlying9 (Kd.own_of_R HO332.out)))
      go_roundg k1
      case measure => have := HK1.out; omega
      case rel => exact ⟨(wrap64 (Int.tdiv x0_1 10)), ((strOfNums y330) ++ x3_1), (by first | rfl | (simp; done) | (simp [*]; done)), (by first | rfl | (simp; done) | (simp [*]; done)), H', ⟨by have := HK1.out; omega⟩, ⟨by repeat (first | (with_reducible first | exact HB.out | apply zac | apply zab | apply zad) | exact HB.out)⟩⟩
     ·rw [if_neg c4] at H
      exact absurd H (by simp)
    ·rw [if_neg c3] at H
     have c3b0 : decide (0 < x0_1) = false := decide_eq_false c3
     clear c3
     by_cases c8 : 1 + x3_1.size ≤ 9223372036854775807
     ·rw [if_pos c8] at H
      have c8b0 := eq_true c8
      have c8b1 : decide (1 + x3_1.size ≤ 9223372036854775807) = true := decide_eq_true c8
      try have c8b2 : (9223372036854775807 < 1 + x3_1.size) = False := eq_false (Nat.not_lt.2 c8)
      obtain rfl := Option.some.inj H
      go_wp2
      go_ret
      exact ⟨by first | rfl | (simp [zak, zaj] <;> rfl) | (simp [*, zak, zaj] <;> rfl), by repeat (first | (with_reducible first | exact HB.out | apply zac | apply zab | apply zad) | exact HB.out)⟩
     ·rw [if_neg c8] at H
      exact absurd H (by simp)
def laws_markStringS.l0 : Nat → List ByteArray → Int → Int → Option (Int × List ByteArray)
 | 0, _, _, _ => none
 | k + 1, x0, x1, x5 => if x5 < (x0.length : Int) then ((laws_markText.f k x1).bind fun t333 => (if 0 ≤ x5 then (laws_markStringS.l0 k (x0.set (x5 : Int).toNat t333) (wrap64 (x1 + 1)) (wrap64 (x5 + 1))) else (none))) else (some (x1, x0))
def laws_markStringS.f (k : Nat) (l0 : List ByteArray) (a1 : Int) : Option (Int × List ByteArray) := laws_markStringS.l0 k l0 a1 0
set_option maxHeartbeats 8000000 in
set_option maxRecDepth 100000 in
theorem laws_markStringS.calls (k : Nat) (P0_ : Nat → Prop) (u9000_ : Value) (l0 : List ByteArray) (a1 : Int) (r1 : Int) (r2 : List ByteArray) (w0 w : World) (hB : Below w0.heap.size w0 w) (ho0 : Kd.R Kd.string 9 w w0.heap.size P0_ u9000_ l0) (h : laws_markStringS.f k l0 a1 = some (r1, r2)) :
  Calls Try.prog 25 #[u9000_, .int .i64 a1] w fun e w' => e = .returned (.int .i64 r1) ∧ Kd.R Kd.string 9 w' w0.heap.size (fun k_ => (P0_ k_ ∨ w.heap.size ≤ k_)) u9000_ r2 ∧ Below w0.heap.size w0 w' ∧ Kept w w' (fun k_ => P0_ k_) := by
 have HO0 := zaa.mk (show Kd.R Kd.string 9 w w0.heap.size (fun k_ => (P0_ k_ ∨ w.heap.size ≤ k_)) u9000_ l0 from Kd.R_mono ho0 (fun k_ hk => (.inl hk)))
 have HK := zaa.mk (Kept.refl w (fun k_ => P0_ k_))
 have HW0 := zaa.mk hB.size
 have HB := zaa.mk hB
 clear hB
 have H : (laws_markStringS.l0 k l0 a1 0) = some (r1, r2) := h
 clear h
 have H' := zaa.mk H
 clear H
 go_enter Try.func25, Try.ntmps25
 go_wp2
 go_loopg [1, 5] k (fun kq v1 v5 w' => ∃ (x0_1 : List ByteArray) (x1_1 : Int) (x5_1 : Int), v1 = .int .i64 x1_1 ∧ v5 = .int .i64 x5_1 ∧ zaa (laws_markStringS.l0 kq x0_1 x1_1 x5_1 = some (r1, r2)) ∧ zaa (kq ≤ k) ∧ zaa (Kd.R Kd.string 9 w' w0.heap.size (fun k_ => (P0_ k_ ∨ w.heap.size ≤ k_)) u9000_ x0_1) ∧ zaa (Kept w w' (fun k_ => P0_ k_)) ∧ zaa (Below w0.heap.size w0 w'))
 case atStart => exact ⟨(l0), (a1), (0), (by first | rfl | (simp; done) | (simp [*]; done)), (by first | rfl | (simp; done) | (simp [*]; done)), H', ⟨Nat.le_refl _⟩, ⟨by (with_reducible repeat (first | apply Kd.R_alloc | apply Kd.R_drewN | apply Kd.R_drew)); exact HO0.out⟩, ⟨by repeat (first | (with_reducible first | exact HK.out | apply Kept.alloc | apply Kept.drewN | apply Kept.drew) | exact HK.out)⟩, ⟨by repeat (first | (with_reducible first | exact HB.out | apply zac | apply zab | apply zad) | exact HB.out)⟩⟩
 case round =>
  clear H'
  try clear c2
  try clear p2
  obtain ⟨x0_1, x1_1, x5_1, rfl, rfl, HA, HK1, HO_0, HK, HB⟩ := hrel
  cases gk with
  | zero => exact absurd HA.out (by simp [laws_markStringS.l0])
  | succ k1 =>
   have H := HA.out
   clear HA
   simp only [laws_markStringS.l0] at H
   by_cases c3 : x5_1 < (x0_1.length : Int)
   ·rw [if_pos c3] at H
    have c3b0 : decide (x5_1 < (x0_1.length : Int)) = true := decide_eq_true c3
    clear c3
    replace H := Option.bind_eq_some_iff.mp H
    obtain ⟨t333, A40, H⟩ := H
    replace H : (if 0 ≤ x5_1 then (laws_markStringS.l0 k1 (x0_1.set (x5_1 : Int).toNat t333) (wrap64 (x1_1 + 1)) (wrap64 (x5_1 + 1))) else (none)) = some (r1, r2) := H
    have A4 := zaa.mk A40
    clear A40
    by_cases c5 : 0 ≤ x5_1
    ·rw [if_pos c5] at H
     have c5b0 : decide (0 ≤ x5_1) = true := decide_eq_true c5
     clear c5
     obtain ⟨y334, hy334⟩ : ∃ y_ : List ByteArray, y_ = (x0_1.set (x5_1 : Int).toNat t333) := ⟨_, rfl⟩
     replace H : (laws_markStringS.l0 k1 y334 (wrap64 (x1_1 + 1)) (wrap64 (x5_1 + 1))) = some (r1, r2) := by first | (rw [hy334]; with_reducible exact H) | (have H2_ := (Option.bind_some _ _).symm.trans H; rw [hy334]; with_reducible exact H2_) | (have H2_ := (Option.bind_some _ _).symm.trans H; with_reducible exact H2_) | with_reducible exact H | (rw [hy334]; exact H) | exact H
     have Ny334 := zaa.mk hy334
     clear hy334
     have H' := zaa.mk H
     clear H
     obtain ⟨Ao7, co7, eo7⟩ := Kd.R_slice HO_0.out
     subst eo7
     go_wp2_with (first | ((with_reducible refine zai (f := 58) rfl ?_); refine zbc (some 15) rfl rfl Try.func58 (by kernel_rfl) rfl #[.int .i64 x1_1] rfl (by (try simp only [List.map_toArray, List.map_cons, List.map_nil]); first | done | rfl | (simp only [List.length_drop, List.length_take]; rfl)) ?_; (with_reducible refine (laws_markText.calls k1 x1_1 t333 _ A4.out).mono ?_); rintro e w8 ⟨rfl, hb⟩; refine ⟨_, rfl, ?_⟩; have n0_ := zaa.mk (Kd.R_below (by (with_reducible repeat (first | apply Kd.R_alloc | apply Kd.R_drewN | apply Kd.R_drew)); exact HO_0.out) hb); have n1_ := zaa.mk (Kept.below (S := (fun k_ => P0_ k_)) (by repeat (first | (with_reducible first | exact HK.out | apply Kept.alloc | apply Kept.drewN | apply Kept.drew) | exact HK.out)) hb); have n2_ := zaa.mk (zag (by repeat (first | (with_reducible first | exact HB.out | apply zac | apply zab | apply zad) | exact HB.out)) hb); clear HO_0; clear HK; clear HB; have HO_0 := n0_; have HK := n1_; have HB := n2_; clear n0_ n1_ n2_; (try clear hb); (try clear hb2); (try clear hk); (try clear hi); have p6 : 0 ≤ (x5_1 : Int) := of_decide_eq_true (by first | (with_reducible assumption) | assumption); have q6 : (x5_1 : Int) < ((x0_1.length : Int) : Int) := of_decide_eq_true (by first | (with_reducible assumption) | assumption); obtain ⟨go6, co6, eo6, gb6, gl6, cl6, HG6⟩ := Kd.R_form HO_0.out (by omega); (first | cases eo6 | (injection eo6 with ea_ en_ ec_; (first | subst ea_ | (injection ea_ with ea_; subst ea_)); subst ec_; clear en_)); have GB6 := zaa.mk gb6; have GG6 := zaa.mk HG6; clear gb6 gl6 HG6; have HMgo6 := zaa.mk (show (P0_ go6 ∨ w.heap.size ≤ go6) from (HO_0.out.1 _ rfl)); obtain ⟨hx6_0, hf6_0⟩ := Kd.R_celln (⟨#[]⟩ : ByteArray) HO_0.out (x5_1 : Int) p6 q6; replace p6 := eq_true p6; replace q6 := eq_true q6; obtain ⟨hy9_, hz9_⟩ := Kd.R_celln (⟨#[]⟩ : ByteArray) HO_0.out (x5_1 : Int) (of_decide_eq_true (by first | (with_reducible assumption) | assumption)) (of_decide_eq_true (by first | (with_reducible assumption) | assumption)); have HP9 := Kd.R_putg HO_0.out (x5_1 : Int) t333) | ((with_reducible refine gate_store (t := 9) (p := 16) rfl ?_); refine store_event (t := 9) (p := 16) (v := ?vo_w10) (w1 := (w8.setCell ⟨go6, (x5_1 : Int).toNat, none⟩ (.string t333))) ?hg ?ho ?hn ?hr ?_; (case ho => rfl); (case hg => rfl); (case hn => rfl); (case hr => first | (go_simp; done) | (go_simp; rfl)); intro w10 hw; have hg : w8.grownBy w10 (some go6) := (by rw [hw]; exact HP9.2); have hp_ : Kd.R Kd.string 9 w10 w0.heap.size (fun k_ => (P0_ k_ ∨ w.heap.size ≤ k_)) (.slice (some ⟨go6, 0, none⟩) x0_1.length co7) y334 := (by rw [hw, Ny334.out]; exact HP9.1); clear HP9; have n0_ := zaa.mk (hp_); have n1_ := zaa.mk ((by rw [hw]; exact zao (HB.out) GB6.out : Below w0.heap.size w0 w10)); have n2_ := zaa.mk (Kept.of_grown (S := (fun k_ => P0_ k_)) hg (by repeat (first | (with_reducible first | exact HK.out | apply Kept.alloc | apply Kept.drewN | apply Kept.drew) | exact HK.out)) (fun k_ e_ => (HO_0.out.1 k_ e_))); clear HO_0; clear HB; clear HK; have HO_0 := n0_; have HB := n1_; have HK := n2_; clear n0_ n1_ n2_; clear hg hw hp_))
     go_roundg k1
     case measure => have := HK1.out; omega
     case rel => exact ⟨(y334), (wrap64 (x1_1 + 1)), (wrap64 (x5_1 + 1)), (by first | rfl | (simp; done) | (simp [*]; done)), (by first | rfl | (simp; done) | (simp [*]; done)), H', ⟨by have := HK1.out; omega⟩, ⟨by (with_reducible repeat (first | apply Kd.R_alloc | apply Kd.R_drewN | apply Kd.R_drew)); exact HO_0.out⟩, ⟨by repeat (first | (with_reducible first | exact HK.out | apply Kept.alloc | apply Kept.drewN | apply Kept.drew) | exact HK.out)⟩, ⟨by repeat (first | (with_reducible first | exact HB.out | apply zac | apply zab | apply zad) | exact HB.out)⟩⟩
    ·rw [if_neg c5] at H
     exact absurd H (by simp)
   ·rw [if_neg c3] at H
    have c3b0 : decide (x5_1 < (x0_1.length : Int)) = false := decide_eq_false c3
    clear c3
    simp only [Option.some.injEq, Prod.mk.injEq] at H
    obtain ⟨rfl, rfl⟩ := H
    obtain ⟨Ao11, co11, eo11⟩ := Kd.R_slice HO_0.out
    subst eo11
    go_wp2
    go_ret
    exact ⟨by first | rfl | (simp [zak, zaj] <;> rfl) | (simp [*, zak, zaj] <;> rfl), by (with_reducible repeat (first | apply Kd.R_alloc | apply Kd.R_drewN | apply Kd.R_drew)); exact HO_0.out, by repeat (first | (with_reducible first | exact HB.out | apply zac | apply zab | apply zad) | exact HB.out), by repeat (first | (with_reducible first | exact HK.out | apply Kept.alloc | apply Kept.drewN | apply Kept.drew) | exact HK.out)⟩
def laws_markIntS.l0 : Nat → List Int → Int → Int → Option (Int × List Int)
 | 0, _, _, _ => none
 | k + 1, x0, x1, x5 => if x5 < (x0.length : Int) then (if 0 ≤ x5 then (laws_markIntS.l0 k (x0.set (x5 : Int).toNat x1) (wrap64 (x1 + 1)) (wrap64 (x5 + 1))) else (none)) else (some (x1, x0))
def laws_markIntS.f (k : Nat) (l0 : List Int) (a1 : Int) : Option (Int × List Int) := laws_markIntS.l0 k l0 a1 0
set_option maxHeartbeats 8000000 in
set_option maxRecDepth 100000 in
theorem laws_markIntS.calls (k : Nat) (P0_ : Nat → Prop) (u9000_ : Value) (l0 : List Int) (a1 : Int) (r1 : Int) (r2 : List Int) (w0 w : World) (hB : Below w0.heap.size w0 w) (ho0 : Kd.R (Kd.int .i64) 3 w w0.heap.size P0_ u9000_ l0) (h : laws_markIntS.f k l0 a1 = some (r1, r2)) :
  Calls Try.prog 31 #[u9000_, .int .i64 a1] w fun e w' => e = .returned (.int .i64 r1) ∧ Kd.R (Kd.int .i64) 3 w' w0.heap.size (fun k_ => (P0_ k_ ∨ w.heap.size ≤ k_)) u9000_ r2 ∧ Below w0.heap.size w0 w' ∧ Kept w w' (fun k_ => P0_ k_) := by
 have HO0 := zaa.mk (show Kd.R (Kd.int .i64) 3 w w0.heap.size (fun k_ => (P0_ k_ ∨ w.heap.size ≤ k_)) u9000_ l0 from Kd.R_mono ho0 (fun k_ hk => (.inl hk)))
 have HK := zaa.mk (Kept.refl w (fun k_ => P0_ k_))
 have HW0 := zaa.mk hB.size
 have HB := zaa.mk hB
 clear hB
 have H : (laws_markIntS.l0 k l0 a1 0) = some (r1, r2) := h
 clear h
 have H' := zaa.mk H
 clear H
 go_enter Try.func31, Try.ntmps31
 go_wp2
 go_loopg [1, 5] k (fun kq v1 v5 w' => ∃ (x0_1 : List Int) (x1_1 : Int) (x5_1 : Int), v1 = .int .i64 x1_1 ∧ v5 = .int .i64 x5_1 ∧ zaa (laws_markIntS.l0 kq x0_1 x1_1 x5_1 = some (r1, r2)) ∧ zaa (kq ≤ k) ∧ zaa (Kd.R (Kd.int .i64) 3 w' w0.heap.size (fun k_ => (P0_ k_ ∨ w.heap.size ≤ k_)) u9000_ x0_1) ∧ zaa (Kept w w' (fun k_ => P0_ k_)) ∧ zaa (Below w0.heap.size w0 w'))
 case atStart => exact ⟨(l0), (a1), (0), (by first | rfl | (simp; done) | (simp [*]; done)), (by first | rfl | (simp; done) | (simp [*]; done)), H', ⟨Nat.le_refl _⟩, ⟨by (with_reducible repeat (first | apply Kd.R_alloc | apply Kd.R_drewN | apply Kd.R_drew)); exact HO0.out⟩, ⟨by repeat (first | (with_reducible first | exact HK.out | apply Kept.alloc | apply Kept.drewN | apply Kept.drew) | exact HK.out)⟩, ⟨by repeat (first | (with_reducible first | exact HB.out | apply zac | apply zab | apply zad) | exact HB.out)⟩⟩
 case round =>
  clear H'
  try clear p2
  obtain ⟨x0_1, x1_1, x5_1, rfl, rfl, HA, HK1, HO_0, HK, HB⟩ := hrel
  cases gk with
  | zero => exact absurd HA.out (by simp [laws_markIntS.l0])
  | succ k1 =>
   have H := HA.out
   clear HA
   simp only [laws_markIntS.l0] at H
   by_cases c3 : x5_1 < (x0_1.length : Int)
   ·rw [if_pos c3] at H
    have c3b0 : decide (x5_1 < (x0_1.length : Int)) = true := decide_eq_true c3
    clear c3
    by_cases c4 : 0 ≤ x5_1
    ·rw [if_pos c4] at H
     have c4b0 : decide (0 ≤ x5_1) = true := decide_eq_true c4
     clear c4
     obtain ⟨y335, hy335⟩ : ∃ y_ : List Int, y_ = (x0_1.set (x5_1 : Int).toNat x1_1) := ⟨_, rfl⟩
     replace H : (laws_markIntS.l0 k1 y335 (wrap64 (x1_1 + 1)) (wrap64 (x5_1 + 1))) = some (r1, r2) := by first | (rw [hy335]; with_reducible exact H) | (have H2_ := (Option.bind_some _ _).symm.trans H; rw [hy335]; with_reducible exact H2_) | (have H2_ := (Option.bind_some _ _).symm.trans H; with_reducible exact H2_) | with_reducible exact H | (rw [hy335]; exact H) | exact H
     have Ny335 := zaa.mk hy335
     clear hy335
     have H' := zaa.mk H
     clear H
     obtain ⟨Ao6, co6, eo6⟩ := Kd.R_slice HO_0.out
     subst eo6
     have p5 : 0 ≤ (x5_1 : Int) := of_decide_eq_true (by first | (with_reducible assumption) | assumption)
     have q5 : (x5_1 : Int) < ((x0_1.length : Int) : Int) := of_decide_eq_true (by first | (with_reducible assumption) | assumption)
     obtain ⟨go5, co5, eo5, gb5, gl5, cl5, HG5⟩ := Kd.R_form HO_0.out (by omega)
     (first | cases eo5 | (injection eo5 with ea_ en_ ec_; (first | subst ea_ | (injection ea_ with ea_; subst ea_)); subst ec_; clear en_))
     have GB5 := zaa.mk gb5
     have GG5 := zaa.mk HG5
     clear gb5 gl5 HG5
     have HMgo5 := zaa.mk (show (P0_ go5 ∨ w.heap.size ≤ go5) from (HO_0.out.1 _ rfl))
     obtain ⟨hx5_0, hf5_0⟩ := Kd.R_celln 0 HO_0.out (x5_1 : Int) p5 q5
     replace p5 := eq_true p5
     replace q5 := eq_true q5
     have HP7 := Kd.R_putg HO_0.out (x5_1 : Int) x1_1
     go_wp2_with (first | ((with_reducible refine gate_store (t := 3) (p := 15) rfl ?_); refine store_event (t := 3) (p := 15) (v := ?vo_w8) (w1 := (wr.setCell ⟨go5, (x5_1 : Int).toNat, none⟩ (.int .i64 x1_1))) ?hg ?ho ?hn ?hr ?_; (case ho => rfl); (case hg => rfl); (case hn => rfl); (case hr => first | (go_simp; done) | (go_simp; rfl)); intro w8 hw; have hg : wr.grownBy w8 (some go5) := (by rw [hw]; exact HP7.2); have hp_ : Kd.R (Kd.int .i64) 3 w8 w0.heap.size (fun k_ => (P0_ k_ ∨ w.heap.size ≤ k_)) (.slice (some ⟨go5, 0, none⟩) x0_1.length co6) y335 := (by rw [hw, Ny335.out]; exact HP7.1); clear HP7; have n0_ := zaa.mk (hp_); have n1_ := zaa.mk ((by rw [hw]; exact zao (HB.out) GB5.out : Below w0.heap.size w0 w8)); have n2_ := zaa.mk (Kept.of_grown (S := (fun k_ => P0_ k_)) hg (by repeat (first | (with_reducible first | exact HK.out | apply Kept.alloc | apply Kept.drewN | apply Kept.drew) | exact HK.out)) (fun k_ e_ => (HO_0.out.1 k_ e_))); clear HO_0; clear HB; clear HK; have HO_0 := n0_; have HB := n1_; have HK := n2_; clear n0_ n1_ n2_; clear hg hw hp_))
     go_roundg k1
     case measure => have := HK1.out; omega
     case rel => exact ⟨(y335), (wrap64 (x1_1 + 1)), (wrap64 (x5_1 + 1)), (by first | rfl | (simp; done) | (simp [*]; done)), (by first | rfl | (simp; done) | (simp [*]; done)), H', ⟨by have := HK1.out; omega⟩, ⟨by (with_reducible repeat (first | apply Kd.R_alloc | apply Kd.R_drewN | apply Kd.R_drew)); exact HO_0.out⟩, ⟨by repeat (first | (with_reducible first | exact HK.out | apply Kept.alloc | apply Kept.drewN | apply Kept.drew) | exact HK.out)⟩, ⟨by repeat (first | (with_reducible first | exact HB.out | apply zac | apply zab | apply zad) | exact HB.out)⟩⟩
    ·rw [if_neg c4] at H
     exact absurd H (by simp)
   ·rw [if_neg c3] at H
    have c3b0 : decide (x5_1 < (x0_1.length : Int)) = false := decide_eq_false c3
    clear c3
    simp only [Option.some.injEq, Prod.mk.injEq] at H
    obtain ⟨rfl, rfl⟩ := H
    obtain ⟨Ao9, co9, eo9⟩ := Kd.R_slice HO_0.out
    subst eo9
    go_wp2
    go_ret
    exact ⟨by first | rfl | (simp [zak, zaj] <;> rfl) | (simp [*, zak, zaj] <;> rfl), by (with_reducible repeat (first | apply Kd.R_alloc | apply Kd.R_drewN | apply Kd.R_drew)); exact HO_0.out, by repeat (first | (with_reducible first | exact HB.out | apply zac | apply zab | apply zad) | exact HB.out), by repeat (first | (with_reducible first | exact HK.out | apply Kept.alloc | apply Kept.drewN | apply Kept.drew) | exact HK.out)⟩
end Go.Proofs.Ytoijjkhdfooapaa.PB
namespace Go.Proofs.Ytoijjkhdfooapaa.PB
open Go.RowKit Go.PW.PrintWords Go.PW.PrintLast Go.PW.PrintMore
attribute [local go_sem] zbu zbs zcf zce zbm zbl zbt zbr   -- for this text's walks alone
def laws_heldIntS.l0 : Nat → List Int → Int → Int → Option (Int)
 | 0, _, _, _ => none
 | k + 1, x0, x1, x5 => if x5 < (x0.length : Int) then (if 0 ≤ x5 then (if (rd x0 x5) = x1 then (laws_heldIntS.l0 k x0 (wrap64 (x1 + 1)) (wrap64 (x5 + 1))) else (some (-1))) else (none)) else (some x1)
def laws_heldIntS.f (k : Nat) (l0 : List Int) (a1 : Int) : Option (Int) := laws_heldIntS.l0 k l0 a1 0
set_option maxHeartbeats 8000000 in
set_option maxRecDepth 100000 in
theorem laws_heldIntS.calls (k : Nat) (A0 : Option Addr) (c0 : Nat) (l0 : List Int) (a1 : Int) (r : Int) (w : World) (hr0 : Kd.C (Kd.int .i64) w A0 l0.length l0) (hc0 : l0.length ≤ c0) (h : laws_heldIntS.f k l0 a1 = some r) :
  Calls Try.prog 32 #[.slice A0 l0.length c0, .int .i64 a1] w fun e w' => e = .returned (.int .i64 r) ∧ zap w w' := by
 have HR0 := zaa.mk hr0
 have HC0 := zaa.mk hc0
 clear hr0 hc0
 have H : (laws_heldIntS.l0 k l0 a1 0) = some r := h
 clear h
 have H' := zaa.mk H
 clear H
 go_enter Try.func32, Try.ntmps32
 go_wp2
 go_loopg [1, 5] k (fun kq v1 v5 w' => ∃ (x1_1 : Int) (x5_1 : Int), v1 = .int .i64 x1_1 ∧ v5 = .int .i64 x5_1 ∧ zaa (laws_heldIntS.l0 kq l0 x1_1 x5_1 = some r) ∧ zaa (kq ≤ k) ∧ zap w w')
 case atStart => exact ⟨(a1), (0), (by first | rfl | (simp; done) | (simp [*]; done)), (by first | rfl | (simp; done) | (simp [*]; done)), H', ⟨Nat.le_refl _⟩, by repeat (first | exact zap.refl _ | apply zap.step)⟩
 case round =>
  clear H'
  try clear p2
  obtain ⟨x1_1, x5_1, rfl, rfl, HA, HK1, ⟨m1, rfl⟩⟩ := hrel
  cases gk with
  | zero => exact absurd HA.out (by simp [laws_heldIntS.l0])
  | succ k1 =>
   have H := HA.out
   clear HA
   simp only [laws_heldIntS.l0] at H
   by_cases c3 : x5_1 < (l0.length : Int)
   ·rw [if_pos c3] at H
    have c3b0 : decide (x5_1 < (l0.length : Int)) = true := decide_eq_true c3
    clear c3
    by_cases c4 : 0 ≤ x5_1
    ·rw [if_pos c4] at H
     have c4b0 : decide (0 ≤ x5_1) = true := decide_eq_true c4
     clear c4
     by_cases c5 : (rd l0 x5_1) = x1_1
     ·rw [if_pos c5] at H
      have c5b0 : ((rd l0 x5_1) == x1_1) = true := beq_iff_eq.mpr c5
      have c5b1 : ((rd l0 x5_1) != x1_1) = false := bne_eq_false_iff_eq.mpr c5
      clear c5
      have H' := zaa.mk H
      clear H
      have p337 : 0 ≤ (x5_1 : Int) := of_decide_eq_true (by first | (with_reducible assumption) | assumption)
      have q337 : x5_1 < (l0.length : Int) := of_decide_eq_true (by first | (with_reducible assumption) | assumption)
      obtain ⟨ad337, e337, hx337_0⟩ := Kd.at_int HR0.out x5_1 p337 q337
      cases e337
      replace p337 := eq_true p337
      replace q337 := eq_true q337
      go_wp2
      go_roundg k1
      case measure => have := HK1.out; omega
      case rel => exact ⟨(wrap64 (x1_1 + 1)), (wrap64 (x5_1 + 1)), (by first | rfl | (simp; done) | (simp [*]; done)), (by first | rfl | (simp; done) | (simp [*]; done)), H', ⟨by have := HK1.out; omega⟩, by repeat (first | exact zap.refl _ | apply zap.step)⟩
     ·rw [if_neg c5] at H
      have c5b0 : ((rd l0 x5_1) == x1_1) = false := beq_eq_false_iff_ne.mpr c5
      have c5b1 : ((rd l0 x5_1) != x1_1) = true := bne_iff_ne.mpr c5
      obtain rfl := Option.some.inj H
      have p337 : 0 ≤ (x5_1 : Int) := of_decide_eq_true (by first | (with_reducible assumption) | assumption)
      have q337 : x5_1 < (l0.length : Int) := of_decide_eq_true (by first | (with_reducible assumption) | assumption)
      obtain ⟨ad337, e337, hx337_0⟩ := Kd.at_int HR0.out x5_1 p337 q337
      cases e337
      replace p337 := eq_true p337
      replace q337 := eq_true q337
      go_wp2
      go_ret
      exact ⟨by first | rfl | (simp; done) | (simp [*]; done), by repeat (first | exact zap.refl _ | apply zap.step)⟩
    ·rw [if_neg c4] at H
     exact absurd H (by simp)
   ·rw [if_neg c3] at H
    have c3b0 : decide (x5_1 < (l0.length : Int)) = false := decide_eq_false c3
    clear c3
    obtain rfl := Option.some.inj H
    go_wp2
    go_ret
    exact ⟨by first | rfl | (simp; done) | (simp [*]; done), by repeat (first | exact zap.refl _ | apply zap.step)⟩
def spec_l2Put.f (l0 : List Int) (a1 : Int) : Option (List Int) := if (l0.length : Int) > 0 then (if 0 ≤ (wrap64 ((l0.length : Int) - 1)) then (if (wrap64 ((l0.length : Int) - 1)) < (l0.length : Int) then (if (rd l0 (wrap64 ((l0.length : Int) - 1))) = a1 then (some l0) else (if l0.length < 17592186044416 then (some (l0 ++ [a1])) else (none))) else (none)) else (none)) else (if l0.length < 17592186044416 then (some (l0 ++ [a1])) else (none))
set_option maxHeartbeats 8000000 in
set_option maxRecDepth 100000 in
theorem spec_l2Put.calls (P0_ : Nat → Prop) (u9000_ : Value) (l0 : List Int) (a1 : Int) (r : List Int) (w0 w : World) (hB : Below w0.heap.size w0 w) (ho0 : Kd.R (Kd.int .i64) 3 w w0.heap.size P0_ u9000_ l0) (h : spec_l2Put.f l0 a1 = some r) :
  Calls Try.prog 63 #[u9000_, .int .i64 a1] w fun e w' => ∃ v0_ : Value, e = .returned (v0_) ∧ Kd.R (Kd.int .i64) 3 w' w0.heap.size (fun k_ => (P0_ k_ ∨ w.heap.size ≤ k_)) v0_ r ∧ Below w0.heap.size w0 w' ∧ Kept w w' (fun k_ => P0_ k_) := by
 have HO0 := zaa.mk (show Kd.R (Kd.int .i64) 3 w w0.heap.size (fun k_ => (P0_ k_ ∨ w.heap.size ≤ k_)) u9000_ l0 from Kd.R_mono ho0 (fun k_ hk => (.inl hk)))
 have HK := zaa.mk (Kept.refl w (fun k_ => P0_ k_))
 have HW0 := zaa.mk hB.size
 have HB := zaa.mk hB
 clear hB
 have H : (if (l0.length : Int) > 0 then (if 0 ≤ (wrap64 ((l0.length : Int) - 1)) then (if (wrap64 ((l0.length : Int) - 1)) < (l0.length : Int) then (if (rd l0 (wrap64 ((l0.length : Int) - 1))) = a1 then (some l0) else (if l0.length < 17592186044416 then (some (l0 ++ [a1])) else (none))) else (none)) else (none)) else (if l0.length < 17592186044416 then (some (l0 ++ [a1])) else (none))) = some r := h
 clear h
 by_cases c3 : (l0.length : Int) > 0
 ·rw [if_pos c3] at H
  have c3b0 : decide (0 < (l0.length : Int)) = true := decide_eq_true c3
  have c3b1 : decide (0 < l0.length) = true := decide_eq_true (by omega)
  clear c3
  obtain ⟨ji4, hji4⟩ : ∃ j_ : Int, (wrap64 ((l0.length : Int) - 1)) = j_ := ⟨_, rfl⟩
  replace H : (if 0 ≤ (ji4) then (if (ji4) < (l0.length : Int) then (if (rd l0 (ji4)) = a1 then (some l0) else (if l0.length < 17592186044416 then (some (l0 ++ [a1])) else (none))) else (none)) else (none)) = some r := by first | (rw [hji4] at H; exact H) | (simp only [hji4] at H ⊢; exact H)
  have hji4w : (IntKind.i64.wrap ((l0.length : Int) - 1)) = ji4 := (zas _).trans hji4
  by_cases c5 : 0 ≤ (ji4)
  ·rw [if_pos c5] at H
   have c5b0 : decide (0 ≤ (ji4)) = true := decide_eq_true c5
   clear c5
   by_cases c6 : (ji4) < (l0.length : Int)
   ·rw [if_pos c6] at H
    have c6b0 : decide ((ji4) < (l0.length : Int)) = true := decide_eq_true c6
    clear c6
    by_cases c7 : (rd l0 (ji4)) = a1
    ·rw [if_pos c7] at H
     have c7b0 : ((rd l0 (ji4)) == a1) = true := beq_iff_eq.mpr c7
     have c7b1 : ((rd l0 (ji4)) != a1) = false := bne_eq_false_iff_eq.mpr c7
     clear c7
     obtain rfl := Option.some.inj H
     obtain ⟨Ao8, co8, eo8⟩ := Kd.R_slice HO0.out
     subst eo8
     have p351 : 0 ≤ ((ji4) : Int) := of_decide_eq_true (by first | (with_reducible assumption) | assumption)
     have q351 : (ji4) < (l0.length : Int) := of_decide_eq_true (by first | (with_reducible assumption) | assumption)
     obtain ⟨ad351, e351, hx351_0⟩ := Kd.at_int (Kd.R_reads' HO0.out).2.2 (ji4) p351 q351
     cases e351
     replace p351 := eq_true p351
     replace q351 := eq_true q351
     go_enter Try.func63, Try.ntmps63
     go_wp2
     go_ret
     exact ⟨_, by first | rfl | (simp [zak, zaj] <;> rfl) | (simp only [← hji4]; first | rfl | (simp [zak, zaj] <;> rfl)) | (simp [*, zak, zaj] <;> rfl), by (with_reducible repeat (first | apply Kd.R_alloc | apply Kd.R_drewN | apply Kd.R_drew)); exact HO0.out, by repeat (first | (with_reducible first | exact HB.out | apply zac | apply zab | apply zad) | exact HB.out), by repeat (first | (with_reducible first | exact HK.out | apply Kept.alloc | apply Kept.drewN | apply Kept.drew) | exact HK.out)⟩
    ·rw [if_neg c7] at H
     have c7b0 : ((rd l0 (ji4)) == a1) = false := beq_eq_false_iff_ne.mpr c7
     have c7b1 : ((rd l0 (ji4)) != a1) = true := bne_iff_ne.mpr c7
     by_cases c9 : l0.length < 17592186044416
     ·rw [if_pos c9] at H
      have LMc9 := zaa.mk c9
      clear c9
      obtain ⟨y352, hy352⟩ : ∃ y_ : List Int, y_ = (l0 ++ [a1]) := ⟨_, rfl⟩
      replace H : (some y352) = some r := by first | (rw [hy352]; with_reducible exact H) | (have H2_ := (Option.bind_some _ _).symm.trans H; rw [hy352]; with_reducible exact H2_) | (have H2_ := (Option.bind_some _ _).symm.trans H; with_reducible exact H2_) | with_reducible exact H | (rw [hy352]; exact H) | exact H
      have Ny352 := zaa.mk hy352
      clear hy352
      obtain rfl := Option.some.inj H
      obtain ⟨Ao10, co10, eo10⟩ := Kd.R_slice HO0.out
      subst eo10
      have p351 : 0 ≤ ((ji4) : Int) := of_decide_eq_true (by first | (with_reducible assumption) | assumption)
      have q351 : (ji4) < (l0.length : Int) := of_decide_eq_true (by first | (with_reducible assumption) | assumption)
      obtain ⟨ad351, e351, hx351_0⟩ := Kd.at_int (Kd.R_reads' HO0.out).2.2 (ji4) p351 q351
      cases e351
      replace p351 := eq_true p351
      replace q351 := eq_true q351
      go_enter Try.func63, Try.ntmps63
      go_wp2_with (first | ((with_reducible refine zaq (b := .append) (xs := #[.tmp 19, .tmp 21]) rfl ?_); (try (refine gate_guard (by rfl) ?_; dsimp only)); at_builtin; refine Kd.R_append (Kd.int .i64) (w0 := w0) w0.heap.size rfl (.tmp 19) (.tmp 21) 34 3 (.int .i64 0) 8 rfl Try.underlying34 info3 rfl (by decide) (by omega) (.slice (some ad351) l0.length co10) l0 a1 [.int .i64 a1] (fun k_ => (P0_ k_ ∨ w.heap.size ≤ k_)) (fun _ => False) rfl rfl ?aP (fun _ hk => hk.elim) ?aF ?aO ?aB ?aS ?aL ?_; (case aP => exact rfl); (case aB => exact (by repeat (first | (with_reducible first | exact HB.out | apply zac | apply zab | apply zad) | exact HB.out))); (case aF => exact (fun k_ hk => (.inr (Nat.le_trans (by first | exact HK.out.1 | exact (show Kept w _ (fun k_ => P0_ k_) from by repeat (first | (with_reducible first | exact HK.out | apply Kept.alloc | apply Kept.drewN | apply Kept.drew) | exact HK.out)).1) hk)))); (case aO => exact (by (with_reducible repeat (first | apply Kd.R_alloc | apply Kd.R_drewN | apply Kd.R_drew)); exact HO0.out)); (case aS => exact (zae (by repeat (first | (with_reducible first | exact HB.out | apply zac | apply zab | apply zad) | exact HB.out)))); (case aL => have := LMc9.out; omega); intro v353 w11 ho hb hg hat; rw [← Ny352.out] at ho; have n0_ := zaa.mk (hb); have n1_ := zaa.mk (Kept.of_grown (S := (fun k_ => P0_ k_)) hg (by repeat (first | (with_reducible first | exact HK.out | apply Kept.alloc | apply Kept.drewN | apply Kept.drew) | exact HK.out)) (fun k_ e_ => (HO0.out.1 k_ e_))); have n2_ := zaa.mk (ho); clear HB; clear HK; clear HO0; have HB := n0_; have HK := n1_; have HO354 := n2_; clear n0_ n1_ n2_; clear ho hb hg hat))
      go_ret
      exact ⟨_, by first | rfl | (simp [zak, zaj] <;> rfl) | (simp only [← hji4]; first | rfl | (simp [zak, zaj] <;> rfl)) | (simp [*, zak, zaj] <;> rfl), by (with_reducible repeat (first | apply Kd.R_alloc | apply Kd.R_drewN | apply Kd.R_drew)); exact HO354.out, by repeat (first | (with_reducible first | exact HB.out | apply zac | apply zab | apply zad) | exact HB.out), by repeat (first | (with_reducible first | exact HK.out | apply Kept.alloc | apply Kept.drewN | apply Kept.drew) | exact HK.out)⟩
     ·rw [if_neg c9] at H
      exact absurd H (by simp)
   ·rw [if_neg c6] at H
    exact absurd H (by simp)
  ·rw [if_neg c5] at H
   exact absurd H (by simp)
 ·rw [if_neg c3] at H
  have c3b0 : decide (0 < (l0.length : Int)) = false := decide_eq_false c3
  have c3b1 : decide (0 < l0.length) = false := decide_eq_false (by omega)
  clear c3
  by_cases c12 : l0.length < 17592186044416
  ·rw [if_pos c12] at H
   have LMc12 := zaa.mk c12
   clear c12
   obtain ⟨y355, hy355⟩ : ∃ y_ : List Int, y_ = (l0 ++ [a1]) := ⟨_, rfl⟩
   replace H : (some y355) = some r := by first | (rw [hy355]; with_reducible exact H) | (have H2_ := (Option.bind_some _ _).symm.trans H; rw [hy355]; with_reducible exact H2_) | (have H2_ := (Option.bind_some _ _).symm.trans H; with_reducible exact H2_) | with_reducible exact H | (rw [hy355]; exact H) | exact H
   have Ny355 := zaa.mk hy355
   clear hy355
   obtain rfl := Option.some.inj H
   obtain ⟨Ao13, co13, eo13⟩ := Kd.R_slice HO0.out
   subst eo13
   go_enter Try.func63, Try.ntmps63
   go_wp2_with (first | ((with_reducible refine zaq (b := .append) (xs := #[.tmp 19, .tmp 21]) rfl ?_); (try (refine gate_guard (by rfl) ?_; dsimp only)); at_builtin; refine Kd.R_append (Kd.int .i64) (w0 := w0) w0.heap.size rfl (.tmp 19) (.tmp 21) 34 3 (.int .i64 0) 8 rfl Try.underlying34 info3 rfl (by decide) (by omega) (.slice Ao13 l0.length co13) l0 a1 [.int .i64 a1] (fun k_ => (P0_ k_ ∨ w.heap.size ≤ k_)) (fun _ => False) rfl rfl ?aP (fun _ hk => hk.elim) ?aF ?aO ?aB ?aS ?aL ?_; (case aP => exact rfl); (case aB => exact (by repeat (first | (with_reducible first | exact HB.out | apply zac | apply zab | apply zad) | exact HB.out))); (case aF => exact (fun k_ hk => (.inr (Nat.le_trans (by first | exact HK.out.1 | exact (show Kept w _ (fun k_ => P0_ k_) from by repeat (first | (with_reducible first | exact HK.out | apply Kept.alloc | apply Kept.drewN | apply Kept.drew) | exact HK.out)).1) hk)))); (case aO => exact (by (with_reducible repeat (first | apply Kd.R_alloc | apply Kd.R_drewN | apply Kd.R_drew)); exact HO0.out)); (case aS => exact (zae (by repeat (first | (with_reducible first | exact HB.out | apply zac | apply zab | apply zad) | exact HB.out)))); (case aL => have := LMc12.out; omega); intro v356 w14 ho hb hg hat; rw [← Ny355.out] at ho; have n0_ := zaa.mk (hb); have n1_ := zaa.mk (Kept.of_grown (S := (fun k_ => P0_ k_)) hg (by repeat (first | (with_reducible first | exact HK.out | apply Kept.alloc | apply Kept.drewN | apply Kept.drew) | exact HK.out)) (fun k_ e_ => (HO0.out.1 k_ e_))); have n2_ := zaa.mk (ho); clear HB; clear HK; clear HO0; have HB := n0_; have HK := n1_; have HO357 := n2_; clear n0_ n1_ n2_; clear ho hb hg hat))
   go_ret
   exact ⟨_, by first | rfl | (simp [zak, zaj] <;> rfl) | (simp [*, zak, zaj] <;> rfl), by (with_reducible repeat (first | apply Kd.R_alloc | apply Kd.R_drewN | apply Kd.R_drew)); exact HO357.out, by repeat (first | (with_reducible first | exact HB.out | apply zac | apply zab | apply zad) | exact HB.out), by repeat (first | (with_reducible first | exact HK.out | apply Kept.alloc | apply Kept.drewN | apply Kept.drew) | exact HK.out)⟩
  ·rw [if_neg c12] at H
   exact absurd H (by simp)
end Go.Proofs.Ytoijjkhdfooapaa.PB
namespace Go.Proofs.Ytoijjkhdfooapaa.PB
open Go.RowKit Go.PW.PrintWords Go.PW.PrintLast Go.PW.PrintMore
attribute [local go_sem] zbu zbs zcf zce zbm zbl zbt zbr   -- for this text's walks alone
def spec_l2Sides.l0 : Nat → List ByteArray → List Int → List Int → List Int → Int → Option (List Int × List Int)
 | 0, _, _, _, _, _ => none
 | k + 1, x0, x1, x6, x7, x8 => if 2 < (x1.length : Int) then (if 3 < (x1.length : Int) then (if x8 < (wrap64 ((rd x1 2) + (rd x1 3))) then (if 0 < (x1.length : Int) then (if (rd x1 0) = 0 then (if 0 ≤ x8 then (if x8 < (x0.length : Int) then (if 1 < (x1.length : Int) then (if 0 ≤ (wrap64 ((rd x1 1) - 1)) then (if (wrap64 ((rd x1 1) - 1)) < ((rdOf ByteArray.empty x0 x8).size : Int) then ((spec_l2Put.f x6 (wrap64 ((wrap64 (bt (rdOf ByteArray.empty x0 x8) (wrap64 ((rd x1 1) - 1)))) - 97))).bind fun t370 => (if 0 ≤ (rd x1 1) then (if (rd x1 1) < ((rdOf ByteArray.empty x0 x8).size : Int) then ((spec_l2Put.f x7 (wrap64 ((wrap64 (bt (rdOf ByteArray.empty x0 x8) (rd x1 1))) - 97))).bind fun t375 => (spec_l2Sides.l0 k x0 x1 t370 t375 (wrap64 (x8 + 1)))) else (none)) else (none))) else (none)) else (none)) else (none)) else (none)) else (none)) else (if 1 < (x1.length : Int) then (if 0 ≤ (wrap64 ((rd x1 1) - 1)) then (if (wrap64 ((rd x1 1) - 1)) < (x0.length : Int) then (if 0 ≤ x8 then (if x8 < ((rdOf ByteArray.empty x0 (wrap64 ((rd x1 1) - 1))).size : Int) then ((spec_l2Put.f x6 (wrap64 ((wrap64 (bt (rdOf ByteArray.empty x0 (wrap64 ((rd x1 1) - 1))) x8)) - 97))).bind fun t380 => (if 0 ≤ (rd x1 1) then (if (rd x1 1) < (x0.length : Int) then (if x8 < ((rdOf ByteArray.empty x0 (rd x1 1)).size : Int) then ((spec_l2Put.f x7 (wrap64 ((wrap64 (bt (rdOf ByteArray.empty x0 (rd x1 1)) x8)) - 97))).bind fun t385 => (spec_l2Sides.l0 k x0 x1 t380 t385 (wrap64 (x8 + 1)))) else (none)) else (none)) else (none))) else (none)) else (none)) else (none)) else (none)) else (none))) else (none)) else (some (x6, x7))) else (none)) else (none)
def spec_l2Sides.f (k : Nat) (l0 : List ByteArray) (l1 : List Int) : Option (List Int × List Int) := if 2 < (l1.length : Int) then (spec_l2Sides.l0 k l0 l1 (([] : List Int)) (([] : List Int)) (rd l1 2)) else (none)
def spec_l2Sides.T4 : Bool × List (List Nat × List Nat) := (true, [([], []), ([], []), ([1], [1]), ([2], [2]), ([], []), ([4], [4]), ([5], [5]), ([3, 6], [3, 6]), ([0, 7], [0, 7])])
def spec_l2Sides.B4 : List Nat := [0, 0, 2, 6, 0, 16, 48, 126, 255]
theorem spec_l2Sides.tab4 : rtab .any (opsOf Try.f60 4) = spec_l2Sides.T4 := by kernel_rfl
theorem spec_l2Sides.bits4 : waitsOk spec_l2Sides.T4.2 spec_l2Sides.B4 = true := by kernel_rfl
def spec_l2Sides.T7 : Bool × List (List Nat × List Nat) := (true, [([], []), ([], []), ([], []), ([1, 2], [1, 2]), ([3], [3]), ([], []), ([5], [5]), ([6], [6]), ([7], [7]), ([4, 8], [4, 8]), ([9], [9]), ([10], [10]), ([0, 11], [0, 11]), ([12, 12, 0, 1, 2, 3, 4, 5, 6, 7, 8, 9, 10, 11, 12], [0, 12])])
def spec_l2Sides.B7 : List Nat := [0, 0, 0, 6, 14, 0, 32, 96, 224, 510, 1022, 2046, 4095, 8191]
theorem spec_l2Sides.tab7 : rtab .any (opsOf Try.f60 7) = spec_l2Sides.T7 := by kernel_rfl
theorem spec_l2Sides.bits7 : waitsOk spec_l2Sides.T7.2 spec_l2Sides.B7 = true := by kernel_rfl
def spec_l2Sides.T8 : Bool × List (List Nat × List Nat) := (true, [([], []), ([], []), ([], []), ([1, 2], [1, 2]), ([3], [3]), ([], []), ([5], [5]), ([6], [6]), ([4, 7], [4, 7]), ([8], [8]), ([9], [9]), ([0, 10], [0, 10]), ([11, 11, 0, 1, 2, 3, 4, 5, 6, 7, 8, 9, 10, 11], [0, 11])])
def spec_l2Sides.B8 : List Nat := [0, 0, 0, 6, 14, 0, 32, 96, 254, 510, 1022, 2047, 4095]
theorem spec_l2Sides.tab8 : rtab .any (opsOf Try.f60 8) = spec_l2Sides.T8 := by kernel_rfl
theorem spec_l2Sides.bits8 : waitsOk spec_l2Sides.T8.2 spec_l2Sides.B8 = true := by kernel_rfl
set_option maxHeartbeats 8000000 in
set_option maxRecDepth 100000 in
theorem spec_l2Sides.calls (k : Nat) (A0 : Option Addr) (c0 : Nat) (l0 : List ByteArray) (A1 : Option Addr) (c1 : Nat) (l1 : List Int) (r1 : List Int) (r2 : List Int) (w : World) (hr0 : Kd.C Kd.string w A0 l0.length l0) (hc0 : l0.length ≤ c0) (hr1 : Kd.C (Kd.int .i64) w A1 l1.length l1) (hc1 : l1.length ≤ c1) (h : spec_l2Sides.f k l0 l1 = some (r1, r2)) :
  Calls Try.prog 60 #[.slice A0 l0.length c0, .slice A1 l1.length c1] w fun e w' => ∃ v0_ v1_ : Value, e = .returned (.tuple #[v0_, v1_]) ∧ Kd.R (Kd.int .i64) 3 w' w.heap.size (fun k_ => some k_ ≠ (v1_ : Value).ownBlock) v0_ r1 ∧ Kd.R (Kd.int .i64) 3 w' w.heap.size (fun k_ => some k_ ≠ (v0_ : Value).ownBlock) v1_ r2 ∧ Below w.heap.size w w' := by
 have HR0 := zaa.mk hr0
 have HC0 := zaa.mk hc0
 clear hr0 hc0
 have HR1 := zaa.mk hr1
 have HC1 := zaa.mk hc1
 clear hr1 hc1
 have HB := zaa.mk (Below.refl w.heap.size w)
 have H : (if 2 < (l1.length : Int) then (spec_l2Sides.l0 k l0 l1 (([] : List Int)) (([] : List Int)) (rd l1 2)) else (none)) = some (r1, r2) := h
 clear h
 obtain ⟨y358, hy358⟩ : ∃ y_ : List Int, y_ = (([] : List Int)) := ⟨_, rfl⟩
 replace H : (if 2 < (l1.length : Int) then (spec_l2Sides.l0 k l0 l1 y358 (([] : List Int)) (rd l1 2)) else (none)) = some (r1, r2) := by first | (rw [hy358]; with_reducible exact H) | (have H2_ := (Option.bind_some _ _).symm.trans H; rw [hy358]; with_reducible exact H2_) | (have H2_ := (Option.bind_some _ _).symm.trans H; with_reducible exact H2_) | with_reducible exact H | (rw [hy358]; exact H) | exact H
 have Ny358 := zaa.mk hy358
 clear hy358
 obtain ⟨y361, hy361⟩ : ∃ y_ : List Int, y_ = (([] : List Int)) := ⟨_, rfl⟩
 replace H : (if 2 < (l1.length : Int) then (spec_l2Sides.l0 k l0 l1 y358 y361 (rd l1 2)) else (none)) = some (r1, r2) := by first | (rw [hy361]; with_reducible exact H) | (have H2_ := (Option.bind_some _ _).symm.trans H; rw [hy361]; with_reducible exact H2_) | (have H2_ := (Option.bind_some _ _).symm.trans H; with_reducible exact H2_) | with_reducible exact H | (rw [hy361]; exact H) | exact H
 have Ny361 := zaa.mk hy361
 clear hy361
 by_cases c3 : 2 < (l1.length : Int)
 ·rw [if_pos c3] at H
  have c3b0 : decide (2 < (l1.length : Int)) = true := decide_eq_true c3
  have c3b1 : decide (2 < l1.length) = true := decide_eq_true (by omega)
  clear c3
  have H' := zaa.mk H
  clear H
  go_enter Try.func60, Try.ntmps60
  go_wp2_with (first | ((with_reducible refine zaw (N := 9) rfl ?_); refine Kd.R_lit (Kd.int .i64) _ 3 ?hg (N := 9) ?hd (xs := ([] : List Int)) (inner := []) (ok := fun _ => True) (okp := fun _ => True) ?hr ?hp (fun _ hk => hk) trivial (Below.refl _ _) (Nat.le_refl _) (by simp) ?_; (case hd => rfl); (case hg => rfl); (case hr => first | (go_simp; done) | (go_simp; rfl)); (case hp => exact (Reps.none _ _)); intro v359 w4 ho5 hb hg_ hnew_; clear hg_ hnew_; (first | rw [← Ny358.out] at ho5 | (simp only [Int.reduceToNat] at ho5; rw [← Ny358.out] at ho5)); have n0_ := zaa.mk (Kd.R_lower ho5 (zae (by repeat (first | (with_reducible first | exact HB.out | apply zac | apply zab | apply zad) | exact HB.out)))); have n1_ := zaa.mk (zag (by repeat (first | (with_reducible first | exact HB.out | apply zac | apply zab | apply zad) | exact HB.out)) hb); clear HB; have HO360 := n0_; have HB := n1_; clear n0_ n1_; clear hb ho5) | ((with_reducible refine zaw (N := 10) rfl ?_); refine Kd.R_lit (Kd.int .i64) _ 3 ?hg (N := 10) ?hd (xs := ([] : List Int)) (inner := []) (ok := fun _ => True) (okp := fun _ => True) ?hr ?hp (fun _ hk => hk) trivial (Below.refl _ _) (Nat.le_refl _) (by simp) ?_; (case hd => rfl); (case hg => rfl); (case hr => first | (go_simp; done) | (go_simp; rfl)); (case hp => exact (Reps.none _ _)); intro v362 w6 ho7 hb hg_ hnew_; clear hg_ hnew_; (first | rw [← Ny361.out] at ho7 | (simp only [Int.reduceToNat] at ho7; rw [← Ny361.out] at ho7)); have n0_ := zaa.mk (Kd.R_elder' (by (with_reducible repeat (first | apply Kd.R_alloc | apply Kd.R_drewN | apply Kd.R_drew)); exact HO360.out) (Kd.R_base ho7) hb); have n1_ := zaa.mk (Kd.R_lower (Kd.R_new' ho7 (Kd.R_lt (by (with_reducible repeat (first | apply Kd.R_alloc | apply Kd.R_drewN | apply Kd.R_drew)); exact HO360.out))) (zae (by repeat (first | (with_reducible first | exact HB.out | apply zac | apply zab | apply zad) | exact HB.out)))); have n2_ := zaa.mk (zag (by repeat (first | (with_reducible first | exact HB.out | apply zac | apply zab | apply zad) | exact HB.out)) hb); clear HO360; clear HB; have HO360 := n0_; have HO363 := n1_; have HB := n2_; clear n0_ n1_ n2_; clear hb ho7; have p364 : 0 ≤ (2 : Int) := (by omega); have q364 : 2 < (l1.length : Int) := of_decide_eq_true (by first | (with_reducible assumption) | assumption); obtain ⟨ad364, e364, hx364_0⟩ := Kd.at_int HR1.out 2 p364 q364; cases e364; (try simp only [show (2 : Int).toNat = 2 from rfl, Nat.reduceMul, Nat.reduceEqDiff, Go.Addr.add, ↓reduceIte] at hx364_0); have qi364 : (2 < l1.length) = True := eq_true (by omega); (try rw [show ((2 : Int)).toNat = 2 from rfl] at hx364_0); replace hx364_0 := (HB.out.cell (World.block_lt_of_cell? w _ hx364_0)).trans hx364_0; replace p364 := eq_true p364; replace q364 := eq_true q364))
  go_loopg [6, 7, 8] k (fun kq v6 v7 v8 w' => ∃ (x6_1 : List Int) (x7_1 : List Int) (x8_1 : Int), v8 = .int .i64 x8_1 ∧ zaa (spec_l2Sides.l0 kq l0 l1 x6_1 x7_1 x8_1 = some (r1, r2)) ∧ zaa (kq ≤ k) ∧ zaa (Kd.R (Kd.int .i64) 3 w' w.heap.size (fun k_ => some k_ ≠ (v7 : Value).ownBlock) v6 x6_1) ∧ zaa (Kd.R (Kd.int .i64) 3 w' w.heap.size (fun k_ => some k_ ≠ (v6 : Value).ownBlock) v7 x7_1) ∧ zaa (Below w.heap.size w w'))
  case atStart => exact ⟨(y358), (y361), (rd l1 2), (by first | rfl | (simp; done) | (simp [*]; done)), H', ⟨Nat.le_refl _⟩, ⟨by (with_reducible repeat (first | apply Kd.R_alloc | apply Kd.R_drewN | apply Kd.R_drew)); exact Kd.R_mono HO360.out (fun _ hk => hk.2)⟩, ⟨by (with_reducible repeat (first | apply Kd.R_alloc | apply Kd.R_drewN | apply Kd.R_drew)); exact Kd.R_mono HO363.out (fun _ hk => hk.2)⟩, ⟨by repeat (first | (with_reducible first | exact HB.out | apply zac | apply zab | apply zad) | exact HB.out)⟩⟩
  case round =>
   clear H'
   try clear c1
   try clear p2
   try clear c3
   try clear c3b0
   try clear c3b1
   try clear p3
   try clear q3
   try clear hx3
   try clear qi3
   try clear c6
   try clear hx364_0
   try clear p364
   try clear q364
   obtain ⟨x6_1, x7_1, x8_1, rfl, HA, HK1, HO_6, HO_7, HB⟩ := hrel
   cases gk with
   | zero => exact absurd HA.out (by simp [spec_l2Sides.l0])
   | succ k1 =>
    have H := HA.out
    clear HA
    simp only [spec_l2Sides.l0] at H
    by_cases c8 : 2 < (l1.length : Int)
    ·rw [if_pos c8] at H
     have c8b0 : decide (2 < (l1.length : Int)) = true := decide_eq_true c8
     have c8b1 : decide (2 < l1.length) = true := decide_eq_true (by omega)
     clear c8
     by_cases c9 : 3 < (l1.length : Int)
     ·rw [if_pos c9] at H
      have c9b0 : decide (3 < (l1.length : Int)) = true := decide_eq_true c9
      have c9b1 : decide (3 < l1.length) = true := decide_eq_true (by omega)
      clear c9
      by_cases c10 : x8_1 < (wrap64 ((rd l1 2) + (rd l1 3)))
      ·rw [if_pos c10] at H
       have c10b0 : decide (x8_1 < (wrap64 ((rd l1 2) + (rd l1 3)))) = true := decide_eq_true c10
       clear c10
       by_cases c11 : 0 < (l1.length : Int)
       ·rw [if_pos c11] at H
        have c11b0 : decide (0 < (l1.length : Int)) = true := decide_eq_true c11
        have c11b1 : decide (0 < l1.length) = true := decide_eq_true (by omega)
        clear c11
        by_cases c12 : (rd l1 0) = 0
        ·rw [if_pos c12] at H
         have c12b0 : ((rd l1 0) == 0) = true := beq_iff_eq.mpr c12
         have c12b1 : ((rd l1 0) != 0) = false := bne_eq_false_iff_eq.mpr c12
         clear c12
         by_cases c13 : 0 ≤ x8_1
         ·rw [if_pos c13] at H
          have c13b0 : decide (0 ≤ x8_1) = true := decide_eq_true c13
          clear c13
          by_cases c14 : x8_1 < (l0.length : Int)
          ·rw [if_pos c14] at H
           have c14b0 : decide (x8_1 < (l0.length : Int)) = true := decide_eq_true c14
           clear c14
           by_cases c15 : 1 < (l1.length : Int)
           ·rw [if_pos c15] at H
            have c15b0 : decide (1 < (l1.length : Int)) = true := decide_eq_true c15
            have c15b1 : decide (1 < l1.length) = true := decide_eq_true (by omega)
            clear c15
            obtain ⟨ji16, hji16⟩ : ∃ j_ : Int, (wrap64 ((rd l1 1) - 1)) = j_ := ⟨_, rfl⟩
            replace H : (if 0 ≤ (ji16) then (if (ji16) < ((rdOf ByteArray.empty l0 x8_1).size : Int) then ((spec_l2Put.f x6_1 (wrap64 ((wrap64 (bt (rdOf ByteArray.empty l0 x8_1) (ji16))) - 97))).bind fun t370 => (if 0 ≤ (rd l1 1) then (if (rd l1 1) < ((rdOf ByteArray.empty l0 x8_1).size : Int) then ((spec_l2Put.f x7_1 (wrap64 ((wrap64 (bt (rdOf ByteArray.empty l0 x8_1) (rd l1 1))) - 97))).bind fun t375 => (spec_l2Sides.l0 k1 l0 l1 t370 t375 (wrap64 (x8_1 + 1)))) else (none)) else (none))) else (none)) else (none)) = some (r1, r2) := by first | (rw [hji16] at H; exact H) | (simp only [hji16] at H ⊢; exact H)
            have hji16w : (IntKind.i64.wrap ((rd l1 1) - 1)) = ji16 := (zas _).trans hji16
            by_cases c17 : 0 ≤ (ji16)
            ·rw [if_pos c17] at H
             have c17b0 : decide (0 ≤ (ji16)) = true := decide_eq_true c17
             clear c17
             by_cases c18 : (ji16) < ((rdOf ByteArray.empty l0 x8_1).size : Int)
             ·rw [if_pos c18] at H
              have c18b0 : decide ((ji16) < ((rdOf ByteArray.empty l0 x8_1).size : Int)) = true := decide_eq_true c18
              clear c18
              replace H := Option.bind_eq_some_iff.mp H
              obtain ⟨t370, A200, H⟩ := H
              replace H : (if 0 ≤ (rd l1 1) then (if (rd l1 1) < ((rdOf ByteArray.empty l0 x8_1).size : Int) then ((spec_l2Put.f x7_1 (wrap64 ((wrap64 (bt (rdOf ByteArray.empty l0 x8_1) (rd l1 1))) - 97))).bind fun t375 => (spec_l2Sides.l0 k1 l0 l1 t370 t375 (wrap64 (x8_1 + 1)))) else (none)) else (none)) = some (r1, r2) := H
              have A20 := zaa.mk A200
              clear A200
              by_cases c21 : 0 ≤ (rd l1 1)
              ·rw [if_pos c21] at H
               have c21b0 : decide (0 ≤ (rd l1 1)) = true := decide_eq_true c21
               clear c21
               by_cases c22 : (rd l1 1) < ((rdOf ByteArray.empty l0 x8_1).size : Int)
               ·rw [if_pos c22] at H
                have c22b0 : decide ((rd l1 1) < ((rdOf ByteArray.empty l0 x8_1).size : Int)) = true := decide_eq_true c22
                clear c22
                replace H := Option.bind_eq_some_iff.mp H
                obtain ⟨t375, A240, H⟩ := H
                replace H : (spec_l2Sides.l0 k1 l0 l1 t370 t375 (wrap64 (x8_1 + 1))) = some (r1, r2) := H
                have A24 := zaa.mk A240
                clear A240
                have H' := zaa.mk H
                clear H
                try go_wp2
                have n0_ := zaa.mk (Kd.R_drew HO_6.out)
                have n1_ := zaa.mk (Kd.R_drew HO_7.out)
                have n2_ := zaa.mk (zad HB.out)
                clear HO_6
                clear HO_7
                clear HB
                have HO_6 := n0_
                have HO_7 := n1_
                have HB := n2_
                clear n0_ n1_ n2_
                have p365 : 0 ≤ (2 : Int) := (by omega)
                have q365 : 2 < (l1.length : Int) := of_decide_eq_true (by first | (with_reducible assumption) | assumption)
                obtain ⟨ad365, e365, hx365_0⟩ := Kd.at_int HR1.out 2 p365 q365
                have hw365_0 := hx365_0
                (try rw [show ((2 : Int)).toNat = 2 from rfl] at hw365_0)
                (try rw [show 2 * 1 = 2 from rfl] at hw365_0)
                (try simp only [Nat.reduceMul, Nat.reduceEqDiff, Go.Addr.add, ↓reduceIte] at hw365_0)
                obtain rfl : ad364 = ad365 := (by injection e365)
                (try simp only [show (2 : Int).toNat = 2 from rfl, Nat.reduceMul, Nat.reduceEqDiff, Go.Addr.add, ↓reduceIte] at hx365_0)
                have qi365 : (2 < l1.length) = True := eq_true (by omega)
                (try rw [show ((2 : Int)).toNat = 2 from rfl] at hx365_0)
                replace hx365_0 := (HB.out.cell (World.block_lt_of_cell? w _ hx365_0)).trans hx365_0
                replace p365 := eq_true p365
                replace q365 := eq_true q365
                have p366 : 0 ≤ (3 : Int) := (by omega)
                have q366 : 3 < (l1.length : Int) := of_decide_eq_true (by first | (with_reducible assumption) | assumption)
                obtain ⟨ad366, e366, hx366_0⟩ := Kd.at_int HR1.out 3 p366 q366
                have hw366_0 := hx366_0
                (try rw [show ((3 : Int)).toNat = 3 from rfl] at hw366_0)
                (try rw [show 3 * 1 = 3 from rfl] at hw366_0)
                (try simp only [Nat.reduceMul, Nat.reduceEqDiff, Go.Addr.add, ↓reduceIte] at hw366_0)
                obtain rfl : ad364 = ad366 := (by injection e366)
                (try simp only [show (3 : Int).toNat = 3 from rfl, Nat.reduceMul, Nat.reduceEqDiff, Go.Addr.add, ↓reduceIte] at hx366_0)
                have qi366 : (3 < l1.length) = True := eq_true (by omega)
                (try rw [show ((3 : Int)).toNat = 3 from rfl] at hx366_0)
                replace hx366_0 := (HB.out.cell (World.block_lt_of_cell? w _ hx366_0)).trans hx366_0
                replace p366 := eq_true p366
                replace q366 := eq_true q366
                refine start_ (n := 9) (S := fun w' => w'.cell? ⟨ad364.block, ad364.off + 2, none⟩ = some (.int .i64 (rd l1 2)) ∧ w'.cell? ⟨ad364.block, ad364.off + 3, none⟩ = some (.int .i64 (rd l1 3))) (ds := []) #[false, false, false, false, false, false, false, false, false] (by kernel_rfl) rfl rfl ⟨((HB.out.cell (World.block_lt_of_cell? w _ hw365_0)).trans hw365_0), ((HB.out.cell (World.block_lt_of_cell? w _ hw366_0)).trans hw366_0)⟩ (fun hHeld => ?_); refine with_tabW spec_l2Sides.tab4 spec_l2Sides.bits4 (fun HT_ HW_ => ?_)
                generalize wr.drew = w25 at HO_6 HO_7 HB hx365_0 hx366_0 hHeld ⊢
                refine zbb (i := 0) (N := some 14) (v := ?_) (a' := ?_) #[true, false, false, false, false, false, false, false, false] rfl rfl (zbz HT_.out (by kernel_rfl)) (fun _ _ _ h => h) (Or.inl ⟨by rfl, ?_⟩) ?_ ?_
                rotate_left
                ·intro w'
                 go_simp
                 with_reducible rfl
                rotate_left
                ·simp only [Act.put, List.setIfInBounds_toArray, List.set_cons_zero, List.set_cons_succ, zas, zat]
                 rfl
                refine zbb (i := 1) (N := some 15) (v := ?_) (a' := ?_) #[true, true, false, false, false, false, false, false, false] rfl rfl (zbz HT_.out (by kernel_rfl)) (fun _ _ _ h => h) (Or.inl ⟨by rfl, ?_⟩) ?_ ?_
                rotate_left
                ·intro w'
                 go_simp
                 with_reducible rfl
                rotate_left
                ·simp only [Act.put, List.setIfInBounds_toArray, List.set_cons_zero, List.set_cons_succ, zas, zat]
                 rfl
                refine zbb (i := 2) (N := some 16) (v := ?_) (a' := ?_) #[true, true, true, false, false, false, false, false, false] rfl rfl (zbz HT_.out (by kernel_rfl)) (fun _ _ _ h => h) (Or.inl ⟨by rfl, ?_⟩) ?_ ?_
                rotate_left
                ·intro w'
                 go_simp
                 with_reducible rfl
                rotate_left
                ·simp only [Act.put, List.setIfInBounds_toArray, List.set_cons_zero, List.set_cons_succ, zas, zat]
                 rfl
                refine zbb (i := 4) (N := some 18) (v := ?_) (a' := ?_) #[true, true, true, false, true, false, false, false, false] rfl rfl (zbz HT_.out (by kernel_rfl)) (fun _ _ _ h => h) (Or.inl ⟨by rfl, ?_⟩) ?_ ?_
                rotate_left
                ·intro w'
                 go_simp
                 with_reducible rfl
                rotate_left
                ·simp only [Act.put, List.setIfInBounds_toArray, List.set_cons_zero, List.set_cons_succ, zas, zat]
                 rfl
                refine zbb (i := 5) (N := some 19) (v := ?_) (a' := ?_) #[true, true, true, false, true, true, false, false, false] rfl rfl (zbz HT_.out (by kernel_rfl)) (fun _ _ _ h => h) (Or.inl ⟨by rfl, ?_⟩) ?_ ?_
                rotate_left
                ·intro w'
                 go_simp
                 with_reducible rfl
                rotate_left
                ·simp only [Act.put, List.setIfInBounds_toArray, List.set_cons_zero, List.set_cons_succ, zas, zat]
                 rfl
                refine zcr (i := 3) (N := some 17) (v := ?_) (a' := ?_) #[true, true, true, true, true, true, false, false, false] rfl rfl (take_ofW HT_.out HW_.out (by kernel_rfl)) (fun _ _ _ h => h) (Or.inl ⟨by rfl, ?_⟩) hHeld ?_ ?_
                rotate_left
                ·rintro w' ⟨s0, s1⟩
                 go_simp
                 with_reducible rfl
                rotate_left
                ·simp only [Act.put, List.setIfInBounds_toArray, List.set_cons_zero, List.set_cons_succ, zas, zat]
                 rfl
                refine zcr (i := 6) (N := some 20) (v := ?_) (a' := ?_) #[true, true, true, true, true, true, true, false, false] rfl rfl (take_ofW HT_.out HW_.out (by kernel_rfl)) (fun _ _ _ h => h) (Or.inl ⟨by rfl, ?_⟩) hHeld ?_ ?_
                rotate_left
                ·rintro w' ⟨s0, s1⟩
                 go_simp
                 with_reducible rfl
                rotate_left
                ·simp only [Act.put, List.setIfInBounds_toArray, List.set_cons_zero, List.set_cons_succ, zas, zat]
                 rfl
                refine zbb (i := 7) (N := some 21) (v := ?_) (a' := ?_) #[true, true, true, true, true, true, true, true, false] rfl rfl (zbz HT_.out (by kernel_rfl)) (fun _ _ _ h => h) (Or.inl ⟨by rfl, ?_⟩) ?_ ?_
                rotate_left
                ·intro w'
                 go_simp
                 with_reducible rfl
                rotate_left
                ·simp only [Act.put, List.setIfInBounds_toArray, List.set_cons_zero, List.set_cons_succ, zas, zat]
                 rfl
                refine zbb (i := 8) (N := some 22) (v := ?_) (a' := ?_) #[true, true, true, true, true, true, true, true, true] rfl rfl (zbz HT_.out (by kernel_rfl)) (fun _ _ _ h => h) (Or.inl ⟨by rfl, ?_⟩) ?_ ?_
                rotate_left
                ·intro w'
                 go_simp
                 with_reducible rfl
                rotate_left
                ·simp only [Act.put, List.setIfInBounds_toArray, List.set_cons_zero, List.set_cons_succ, zas, zat]
                 rfl
                refine done_ (done_of HT_.out (by kernel_rfl)) ?_
                have p367 : 0 ≤ (0 : Int) := (by omega)
                have q367 : 0 < (l1.length : Int) := of_decide_eq_true (by first | (with_reducible assumption) | assumption)
                obtain ⟨ad367, e367, hx367_0⟩ := Kd.at_int HR1.out 0 p367 q367
                obtain rfl : ad364 = ad367 := (by injection e367)
                have qi367 : (0 < l1.length) = True := eq_true (by omega)
                (try rw [show ((0 : Int)).toNat = 0 from rfl] at hx367_0)
                (try rw [Addr.add_zero'] at hx367_0)
                replace hx367_0 := (HB.out.cell (World.block_lt_of_cell? w _ hx367_0)).trans hx367_0
                replace p367 := eq_true p367
                replace q367 := eq_true q367
                try go_wp2
                have n0_ := zaa.mk (Kd.R_drew HO_6.out)
                have n1_ := zaa.mk (Kd.R_drew HO_7.out)
                have n2_ := zaa.mk (zad HB.out)
                clear HO_6
                clear HO_7
                clear HB
                have HO_6 := n0_
                have HO_7 := n1_
                have HB := n2_
                clear n0_ n1_ n2_
                have p368 : 0 ≤ (x8_1 : Int) := of_decide_eq_true (by first | (with_reducible assumption) | assumption)
                have q368 : x8_1 < (l0.length : Int) := of_decide_eq_true (by first | (with_reducible assumption) | assumption)
                obtain ⟨ad368, e368, hx368_0⟩ := Kd.at_string HR0.out x8_1 p368 q368
                have hw368_0 := hx368_0
                cases e368
                replace hx368_0 := (HB.out.cell (World.block_lt_of_cell? w _ hx368_0)).trans hx368_0
                replace p368 := eq_true p368
                replace q368 := eq_true q368
                have p369 : 0 ≤ (1 : Int) := (by omega)
                have q369 : 1 < (l1.length : Int) := of_decide_eq_true (by first | (with_reducible assumption) | assumption)
                obtain ⟨ad369, e369, hx369_0⟩ := Kd.at_int HR1.out 1 p369 q369
                have hw369_0 := hx369_0
                (try rw [show ((1 : Int)).toNat = 1 from rfl] at hw369_0)
                (try rw [show 1 * 1 = 1 from rfl] at hw369_0)
                (try simp only [Nat.reduceMul, Nat.reduceEqDiff, Go.Addr.add, ↓reduceIte] at hw369_0)
                obtain rfl : ad364 = ad369 := (by injection e369)
                (try simp only [show (1 : Int).toNat = 1 from rfl, Nat.reduceMul, Nat.reduceEqDiff, Go.Addr.add, ↓reduceIte] at hx369_0)
                have qi369 : (1 < l1.length) = True := eq_true (by omega)
                (try rw [show ((1 : Int)).toNat = 1 from rfl] at hx369_0)
                replace hx369_0 := (HB.out.cell (World.block_lt_of_cell? w _ hx369_0)).trans hx369_0
                replace p369 := eq_true p369
                replace q369 := eq_true q369
                have p19 : 0 ≤ ((ji16) : Int) := of_decide_eq_true (by first | (with_reducible assumption) | assumption)
                have q19 : (ji16) < ((rdOf ByteArray.empty l0 x8_1).size : Int) := of_decide_eq_true (by first | (with_reducible assumption) | assumption)
                have hx19 := bt_at (rdOf ByteArray.empty l0 x8_1) (ji16)
                replace p19 := eq_true p19
                replace q19 := eq_true q19
                obtain ⟨Ao27, co27, eo27⟩ := Kd.R_slice HO_6.out
                (first | subst eo27 | (injection eo27 with f1_ f2_ f3_; have f4_ := f1_.symm; have f5_ := f3_.symm; clear f1_ f2_ f3_; subst f4_; subst f5_))
                refine start_ (n := 14) (S := fun w' => w'.cell? (ad368.add (x8_1).toNat) = some (.string (rdOf ByteArray.empty l0 x8_1)) ∧ w'.cell? ⟨ad364.block, ad364.off + 1, none⟩ = some (.int .i64 (rd l1 1))) (ds := []) #[false, false, false, false, false, false, false, false, false, false, false, false, false, false] (by kernel_rfl) rfl rfl ⟨((HB.out.cell (World.block_lt_of_cell? w _ hw368_0)).trans hw368_0), ((HB.out.cell (World.block_lt_of_cell? w _ hw369_0)).trans hw369_0)⟩ (fun hHeld => ?_); refine with_tabW spec_l2Sides.tab7 spec_l2Sides.bits7 (fun HT_ HW_ => ?_)
                generalize w25.drew = w26 at HO_6 HO_7 HB hx368_0 hx369_0 hHeld ⊢
                refine zbb (i := 0) (N := some 29) (v := ?_) (a' := ?_) #[true, false, false, false, false, false, false, false, false, false, false, false, false, false] rfl rfl (zbz HT_.out (by kernel_rfl)) (fun _ _ _ h => h) (Or.inl ⟨by rfl, ?_⟩) ?_ ?_
                rotate_left
                ·intro w'
                 go_simp
                 with_reducible rfl
                rotate_left
                ·simp only [Act.put, List.setIfInBounds_toArray, List.set_cons_zero, List.set_cons_succ, zas, zat]
                 rfl
                refine zbb (i := 1) (N := some 30) (v := ?_) (a' := ?_) #[true, true, false, false, false, false, false, false, false, false, false, false, false, false] rfl rfl (zbz HT_.out (by kernel_rfl)) (fun _ _ _ h => h) (Or.inl ⟨by rfl, ?_⟩) ?_ ?_
                rotate_left
                ·intro w'
                 go_simp
                 with_reducible rfl
                rotate_left
                ·simp only [Act.put, List.setIfInBounds_toArray, List.set_cons_zero, List.set_cons_succ, zas, zat]
                 rfl
                refine zbb (i := 2) (N := some 31) (v := ?_) (a' := ?_) #[true, true, true, false, false, false, false, false, false, false, false, false, false, false] rfl rfl (zbz HT_.out (by kernel_rfl)) (fun _ _ _ h => h) (Or.inl ⟨by rfl, ?_⟩) ?_ ?_
                rotate_left
                ·intro w'
                 go_simp
                 with_reducible rfl
                rotate_left
                ·simp only [Act.put, List.setIfInBounds_toArray, List.set_cons_zero, List.set_cons_succ, zas, zat]
                 rfl
                refine zbb (i := 3) (N := some 32) (v := ?_) (a' := ?_) #[true, true, true, true, false, false, false, false, false, false, false, false, false, false] rfl rfl (zbz HT_.out (by kernel_rfl)) (fun _ _ _ h => h) (Or.inl ⟨by rfl, ?_⟩) ?_ ?_
                rotate_left
                ·intro w'
                 go_simp
                 with_reducible rfl
                rotate_left
                ·simp only [Act.put, List.setIfInBounds_toArray, List.set_cons_zero, List.set_cons_succ, zas, zat]
                 rfl
                refine zbb (i := 5) (N := some 34) (v := ?_) (a' := ?_) #[true, true, true, true, false, true, false, false, false, false, false, false, false, false] rfl rfl (zbz HT_.out (by kernel_rfl)) (fun _ _ _ h => h) (Or.inl ⟨by rfl, ?_⟩) ?_ ?_
                rotate_left
                ·intro w'
                 go_simp
                 with_reducible rfl
                rotate_left
                ·simp only [Act.put, List.setIfInBounds_toArray, List.set_cons_zero, List.set_cons_succ, zas, zat]
                 rfl
                refine zbb (i := 6) (N := some 35) (v := ?_) (a' := ?_) #[true, true, true, true, false, true, true, false, false, false, false, false, false, false] rfl rfl (zbz HT_.out (by kernel_rfl)) (fun _ _ _ h => h) (Or.inl ⟨by rfl, ?_⟩) ?_ ?_
                rotate_left
                ·intro w'
                 go_simp
                 with_reducible rfl
                rotate_left
                ·simp only [Act.put, List.setIfInBounds_toArray, List.set_cons_zero, List.set_cons_succ, zas, zat]
                 rfl
                refine zcr (i := 4) (N := some 33) (v := ?_) (a' := ?_) #[true, true, true, true, true, true, true, false, false, false, false, false, false, false] rfl rfl (take_ofW HT_.out HW_.out (by kernel_rfl)) (fun _ _ _ h => h) (Or.inl ⟨by rfl, ?_⟩) hHeld ?_ ?_
                rotate_left
                ·rintro w' ⟨s0, s1⟩
                 go_simp
                 with_reducible rfl
                rotate_left
                ·simp only [Act.put, List.setIfInBounds_toArray, List.set_cons_zero, List.set_cons_succ, zas, zat]
                 rfl
                refine zcr (i := 7) (N := some 36) (v := ?_) (a' := ?_) #[true, true, true, true, true, true, true, true, false, false, false, false, false, false] rfl rfl (take_ofW HT_.out HW_.out (by kernel_rfl)) (fun _ _ _ h => h) (Or.inl ⟨by rfl, ?_⟩) hHeld ?_ ?_
                rotate_left
                ·rintro w' ⟨s0, s1⟩
                 go_simp
                 with_reducible rfl
                rotate_left
                ·simp only [Act.put, List.setIfInBounds_toArray, List.set_cons_zero, List.set_cons_succ, zas, zat]
                 rfl
                refine zbb (i := 8) (N := some 37) (v := ?_) (a' := ?_) #[true, true, true, true, true, true, true, true, true, false, false, false, false, false] rfl rfl (zbz HT_.out (by kernel_rfl)) (fun _ _ _ h => h) (Or.inl ⟨by rfl, ?_⟩) ?_ ?_
                rotate_left
                ·intro w'
                 go_simp
                 with_reducible rfl
                rotate_left
                ·simp only [Act.put, List.setIfInBounds_toArray, List.set_cons_zero, List.set_cons_succ, zas, zat]
                 rfl
                refine zcr (i := 9) (N := some 38) (v := ?_) (a' := ?_) #[true, true, true, true, true, true, true, true, true, true, false, false, false, false] rfl rfl (take_ofW HT_.out HW_.out (by kernel_rfl)) (fun _ _ _ h => h) (Or.inl ⟨by rfl, ?_⟩) hHeld ?_ ?_
                rotate_left
                ·rintro w' ⟨s0, s1⟩
                 go_simp
                 with_reducible rfl
                rotate_left
                ·simp only [Act.put, List.setIfInBounds_toArray, List.set_cons_zero, List.set_cons_succ, zas, zat]
                 rfl
                refine zbb (i := 10) (N := some 39) (v := ?_) (a' := ?_) #[true, true, true, true, true, true, true, true, true, true, true, false, false, false] rfl rfl (zbz HT_.out (by kernel_rfl)) (fun _ _ _ h => h) (Or.inl ⟨by rfl, ?_⟩) ?_ ?_
                rotate_left
                ·intro w'
                 go_simp
                 with_reducible rfl
                rotate_left
                ·simp only [Act.put, List.setIfInBounds_toArray, List.set_cons_zero, List.set_cons_succ, zas, zat]
                 rfl
                refine zbb (i := 11) (N := some 40) (v := ?_) (a' := ?_) #[true, true, true, true, true, true, true, true, true, true, true, true, false, false] rfl rfl (zbz HT_.out (by kernel_rfl)) (fun _ _ _ h => h) (Or.inl ⟨by rfl, ?_⟩) ?_ ?_
                rotate_left
                ·intro w'
                 go_simp
                 with_reducible rfl
                rotate_left
                ·simp only [Act.put, List.setIfInBounds_toArray, List.set_cons_zero, List.set_cons_succ, zas, zat]
                 rfl
                refine one_ (i := 12) (N := some 41) #[true, true, true, true, true, true, true, true, true, true, true, true, true, false] rfl rfl (one_of HT_.out (by kernel_rfl)) (by decide) (fun K hK => ?_)
                refine goes_ Try.func63 (by kernel_rfl) rfl #[.slice Ao27 x6_1.length co27, .int .i64 (wrap64 ((wrap64 (bt (rdOf ByteArray.empty l0 x8_1) (ji16))) - 97))] (by rfl) rfl rfl (by (try simp only [List.map_toArray, List.map_cons, List.map_nil]); first | done | (simp only [hji16]; rfl) | rfl | (simp only [List.length_drop, List.length_take]; rfl)) ?_
                with_reducible refine (spec_l2Put.calls (fun k_ => some k_ = (.slice Ao27 x6_1.length co27 : Value).ownBlock) (.slice Ao27 x6_1.length co27) x6_1 (wrap64 ((wrap64 (bt (rdOf ByteArray.empty l0 x8_1) (ji16))) - 97)) t370 w _ ?side1 ?side2 A20.out).mono ?_
                (case side1 => repeat (first | (with_reducible first | exact HB.out | apply zac | apply zab | apply zad) | exact HB.out))
                (case side2 => exact Kd.R_tight rfl HO_6.out)
                rintro e w28 ⟨v371, rfl, ho0, hb, hkp⟩
                refine ⟨_, rfl, ?_⟩
                have n0_ := zaa.mk (Kd.R_mono (ok' := fun k_ => some k_ ≠ (v371 : Value).ownBlock) (Kd.R_keptB (HO_7.out) hkp (fun k_ hk_ hs_ => (hk_) hs_)) (fun k_ hk_ => fun e_ => Or.elim (ho0.1 k_ e_.symm) (fun hs_ => hk_.2.1 hs_) (fun hn_ => Nat.not_le.2 hk_.2.2 hn_)))
                have n1_ := zaa.mk (Kd.R_mono (ok' := fun k_ => some k_ ≠ (u7 : Value).ownBlock) ho0 (fun k_ hk_ => Or.elim hk_ (fun hs_ => fun e_ => (((HO_7.out).1 k_ e_.symm)) hs_) (fun hn_ => (Kd.fresh' (Kd.R_lt (by (with_reducible repeat (first | apply Kd.R_alloc | apply Kd.R_drewN | apply Kd.R_drew)); exact HO_7.out)) k_ hn_))))
                have n2_ := zaa.mk (hb)
                clear HO_7
                clear HB
                clear HO_6
                have HO_7 := n0_
                have HO372 := n1_
                have HB := n2_
                clear n0_ n1_ n2_
                (try clear hb)
                (try clear hkp)
                (try clear ho0)
                refine hK.out _ _ ⟨((HB.out.cell (World.block_lt_of_cell? w _ hw368_0)).trans hw368_0), ((HB.out.cell (World.block_lt_of_cell? w _ hw369_0)).trans hw369_0)⟩ (fun hHeld => ?_)
                clear hK K
                refine norm_ (a' := ?_) ?_ ?_
                rotate_left
                ·show Act.put _ (some 41) _ = _
                 simp only [Act.put, List.setIfInBounds_toArray, List.set_cons_zero, List.set_cons_succ, zas, zat]
                 rfl
                refine zbb (i := 13) (N := some 6) (v := ?_) (a' := ?_) #[true, true, true, true, true, true, true, true, true, true, true, true, true, true] rfl rfl (zbz HT_.out (by kernel_rfl)) (fun _ _ _ h => h) (Or.inl ⟨by rfl, ?_⟩) ?_ ?_
                rotate_left
                ·intro w'
                 go_simp
                 with_reducible rfl
                rotate_left
                ·simp only [Act.put, List.setIfInBounds_toArray, List.set_cons_zero, List.set_cons_succ, zas, zat]
                 rfl
                refine done_ (done_of HT_.out (by kernel_rfl)) ?_
                try go_wp2
                have n0_ := zaa.mk (Kd.R_drew HO_7.out)
                have n1_ := zaa.mk (Kd.R_drew HO372.out)
                have n2_ := zaa.mk (zad HB.out)
                clear HO_7
                clear HO372
                clear HB
                have HO_7 := n0_
                have HO372 := n1_
                have HB := n2_
                clear n0_ n1_ n2_
                have p373 : 0 ≤ (x8_1 : Int) := of_decide_eq_true (by first | (with_reducible assumption) | assumption)
                have q373 : x8_1 < (l0.length : Int) := of_decide_eq_true (by first | (with_reducible assumption) | assumption)
                obtain ⟨ad373, e373, hx373_0⟩ := Kd.at_string HR0.out x8_1 p373 q373
                have hw373_0 := hx373_0
                obtain rfl : ad368 = ad373 := (by injection e373)
                replace hx373_0 := (HB.out.cell (World.block_lt_of_cell? w _ hx373_0)).trans hx373_0
                replace p373 := eq_true p373
                replace q373 := eq_true q373
                have p374 : 0 ≤ (1 : Int) := (by omega)
                have q374 : 1 < (l1.length : Int) := of_decide_eq_true (by first | (with_reducible assumption) | assumption)
                obtain ⟨ad374, e374, hx374_0⟩ := Kd.at_int HR1.out 1 p374 q374
                have hw374_0 := hx374_0
                (try rw [show ((1 : Int)).toNat = 1 from rfl] at hw374_0)
                (try rw [show 1 * 1 = 1 from rfl] at hw374_0)
                (try simp only [Nat.reduceMul, Nat.reduceEqDiff, Go.Addr.add, ↓reduceIte] at hw374_0)
                obtain rfl : ad364 = ad374 := (by injection e374)
                (try simp only [show (1 : Int).toNat = 1 from rfl, Nat.reduceMul, Nat.reduceEqDiff, Go.Addr.add, ↓reduceIte] at hx374_0)
                have qi374 : (1 < l1.length) = True := eq_true (by omega)
                (try rw [show ((1 : Int)).toNat = 1 from rfl] at hx374_0)
                replace hx374_0 := (HB.out.cell (World.block_lt_of_cell? w _ hx374_0)).trans hx374_0
                replace p374 := eq_true p374
                replace q374 := eq_true q374
                have p23 : 0 ≤ ((rd l1 1) : Int) := of_decide_eq_true (by first | (with_reducible assumption) | assumption)
                have q23 : (rd l1 1) < ((rdOf ByteArray.empty l0 x8_1).size : Int) := of_decide_eq_true (by first | (with_reducible assumption) | assumption)
                have hx23 := bt_at (rdOf ByteArray.empty l0 x8_1) (rd l1 1)
                replace p23 := eq_true p23
                replace q23 := eq_true q23
                obtain ⟨Ao30, co30, eo30⟩ := Kd.R_slice HO_7.out
                (first | subst eo30 | (injection eo30 with f1_ f2_ f3_; have f4_ := f1_.symm; have f5_ := f3_.symm; clear f1_ f2_ f3_; subst f4_; subst f5_))
                refine start_ (n := 13) (S := fun w' => w'.cell? (ad368.add (x8_1).toNat) = some (.string (rdOf ByteArray.empty l0 x8_1)) ∧ w'.cell? ⟨ad364.block, ad364.off + 1, none⟩ = some (.int .i64 (rd l1 1))) (ds := []) #[false, false, false, false, false, false, false, false, false, false, false, false, false] (by kernel_rfl) rfl rfl ⟨((HB.out.cell (World.block_lt_of_cell? w _ hw373_0)).trans hw373_0), ((HB.out.cell (World.block_lt_of_cell? w _ hw374_0)).trans hw374_0)⟩ (fun hHeld => ?_); refine with_tabW spec_l2Sides.tab8 spec_l2Sides.bits8 (fun HT_ HW_ => ?_)
                generalize w28.drew = w29 at HO_7 HO372 HB hx373_0 hx374_0 hHeld ⊢
                refine zbb (i := 0) (N := some 42) (v := ?_) (a' := ?_) #[true, false, false, false, false, false, false, false, false, false, false, false, false] rfl rfl (zbz HT_.out (by kernel_rfl)) (fun _ _ _ h => h) (Or.inl ⟨by rfl, ?_⟩) ?_ ?_
                rotate_left
                ·intro w'
                 go_simp
                 with_reducible rfl
                rotate_left
                ·simp only [Act.put, List.setIfInBounds_toArray, List.set_cons_zero, List.set_cons_succ, zas, zat]
                 rfl
                refine zbb (i := 1) (N := some 43) (v := ?_) (a' := ?_) #[true, true, false, false, false, false, false, false, false, false, false, false, false] rfl rfl (zbz HT_.out (by kernel_rfl)) (fun _ _ _ h => h) (Or.inl ⟨by rfl, ?_⟩) ?_ ?_
                rotate_left
                ·intro w'
                 go_simp
                 with_reducible rfl
                rotate_left
                ·simp only [Act.put, List.setIfInBounds_toArray, List.set_cons_zero, List.set_cons_succ, zas, zat]
                 rfl
                refine zbb (i := 2) (N := some 44) (v := ?_) (a' := ?_) #[true, true, true, false, false, false, false, false, false, false, false, false, false] rfl rfl (zbz HT_.out (by kernel_rfl)) (fun _ _ _ h => h) (Or.inl ⟨by rfl, ?_⟩) ?_ ?_
                rotate_left
                ·intro w'
                 go_simp
                 with_reducible rfl
                rotate_left
                ·simp only [Act.put, List.setIfInBounds_toArray, List.set_cons_zero, List.set_cons_succ, zas, zat]
                 rfl
                refine zbb (i := 3) (N := some 45) (v := ?_) (a' := ?_) #[true, true, true, true, false, false, false, false, false, false, false, false, false] rfl rfl (zbz HT_.out (by kernel_rfl)) (fun _ _ _ h => h) (Or.inl ⟨by rfl, ?_⟩) ?_ ?_
                rotate_left
                ·intro w'
                 go_simp
                 with_reducible rfl
                rotate_left
                ·simp only [Act.put, List.setIfInBounds_toArray, List.set_cons_zero, List.set_cons_succ, zas, zat]
                 rfl
                refine zbb (i := 5) (N := some 47) (v := ?_) (a' := ?_) #[true, true, true, true, false, true, false, false, false, false, false, false, false] rfl rfl (zbz HT_.out (by kernel_rfl)) (fun _ _ _ h => h) (Or.inl ⟨by rfl, ?_⟩) ?_ ?_
                rotate_left
                ·intro w'
                 go_simp
                 with_reducible rfl
                rotate_left
                ·simp only [Act.put, List.setIfInBounds_toArray, List.set_cons_zero, List.set_cons_succ, zas, zat]
                 rfl
                refine zbb (i := 6) (N := some 48) (v := ?_) (a' := ?_) #[true, true, true, true, false, true, true, false, false, false, false, false, false] rfl rfl (zbz HT_.out (by kernel_rfl)) (fun _ _ _ h => h) (Or.inl ⟨by rfl, ?_⟩) ?_ ?_
                rotate_left
                ·intro w'
                 go_simp
                 with_reducible rfl
                rotate_left
                ·simp only [Act.put, List.setIfInBounds_toArray, List.set_cons_zero, List.set_cons_succ, zas, zat]
                 rfl
                refine zcr (i := 4) (N := some 46) (v := ?_) (a' := ?_) #[true, true, true, true, true, true, true, false, false, false, false, false, false] rfl rfl (take_ofW HT_.out HW_.out (by kernel_rfl)) (fun _ _ _ h => h) (Or.inl ⟨by rfl, ?_⟩) hHeld ?_ ?_
                rotate_left
                ·rintro w' ⟨s0, s1⟩
                 go_simp
                 with_reducible rfl
                rotate_left
                ·simp only [Act.put, List.setIfInBounds_toArray, List.set_cons_zero, List.set_cons_succ, zas, zat]
                 rfl
                refine zcr (i := 7) (N := some 49) (v := ?_) (a' := ?_) #[true, true, true, true, true, true, true, true, false, false, false, false, false] rfl rfl (take_ofW HT_.out HW_.out (by kernel_rfl)) (fun _ _ _ h => h) (Or.inl ⟨by rfl, ?_⟩) hHeld ?_ ?_
                rotate_left
                ·rintro w' ⟨s0, s1⟩
                 go_simp
                 with_reducible rfl
                rotate_left
                ·simp only [Act.put, List.setIfInBounds_toArray, List.set_cons_zero, List.set_cons_succ, zas, zat]
                 rfl
                refine zcr (i := 8) (N := some 50) (v := ?_) (a' := ?_) #[true, true, true, true, true, true, true, true, true, false, false, false, false] rfl rfl (take_ofW HT_.out HW_.out (by kernel_rfl)) (fun _ _ _ h => h) (Or.inl ⟨by rfl, ?_⟩) hHeld ?_ ?_
                rotate_left
                ·rintro w' ⟨s0, s1⟩
                 go_simp
                 with_reducible rfl
                rotate_left
                ·simp only [Act.put, List.setIfInBounds_toArray, List.set_cons_zero, List.set_cons_succ, zas, zat]
                 rfl
                refine zbb (i := 9) (N := some 51) (v := ?_) (a' := ?_) #[true, true, true, true, true, true, true, true, true, true, false, false, false] rfl rfl (zbz HT_.out (by kernel_rfl)) (fun _ _ _ h => h) (Or.inl ⟨by rfl, ?_⟩) ?_ ?_
                rotate_left
                ·intro w'
                 go_simp
                 with_reducible rfl
                rotate_left
                ·simp only [Act.put, List.setIfInBounds_toArray, List.set_cons_zero, List.set_cons_succ, zas, zat]
                 rfl
                refine zbb (i := 10) (N := some 52) (v := ?_) (a' := ?_) #[true, true, true, true, true, true, true, true, true, true, true, false, false] rfl rfl (zbz HT_.out (by kernel_rfl)) (fun _ _ _ h => h) (Or.inl ⟨by rfl, ?_⟩) ?_ ?_
                rotate_left
                ·intro w'
                 go_simp
                 with_reducible rfl
                rotate_left
                ·simp only [Act.put, List.setIfInBounds_toArray, List.set_cons_zero, List.set_cons_succ, zas, zat]
                 rfl
                refine one_ (i := 11) (N := some 53) #[true, true, true, true, true, true, true, true, true, true, true, true, false] rfl rfl (one_of HT_.out (by kernel_rfl)) (by decide) (fun K hK => ?_)
                refine goes_ Try.func63 (by kernel_rfl) rfl #[.slice Ao30 x7_1.length co30, .int .i64 (wrap64 ((wrap64 (bt (rdOf ByteArray.empty l0 x8_1) (rd l1 1))) - 97))] (by rfl) rfl rfl (by (try simp only [List.map_toArray, List.map_cons, List.map_nil]); first | done | rfl | (simp only [List.length_drop, List.length_take]; rfl)) ?_
                with_reducible refine (spec_l2Put.calls (fun k_ => some k_ = (.slice Ao30 x7_1.length co30 : Value).ownBlock) (.slice Ao30 x7_1.length co30) x7_1 (wrap64 ((wrap64 (bt (rdOf ByteArray.empty l0 x8_1) (rd l1 1))) - 97)) t375 w _ ?side1 ?side2 A24.out).mono ?_
                (case side1 => repeat (first | (with_reducible first | exact HB.out | apply zac | apply zab | apply zad) | exact HB.out))
                (case side2 => exact Kd.R_tight rfl HO_7.out)
                rintro e w31 ⟨v376, rfl, ho0, hb, hkp⟩
                refine ⟨_, rfl, ?_⟩
                have n0_ := zaa.mk (Kd.R_mono (ok' := fun k_ => some k_ ≠ (v376 : Value).ownBlock) (Kd.R_keptB (HO372.out) hkp (fun k_ hk_ hs_ => (hk_) hs_)) (fun k_ hk_ => fun e_ => Or.elim (ho0.1 k_ e_.symm) (fun hs_ => hk_.2.1 hs_) (fun hn_ => Nat.not_le.2 hk_.2.2 hn_)))
                have n1_ := zaa.mk (Kd.R_mono (ok' := fun k_ => some k_ ≠ (v371 : Value).ownBlock) ho0 (fun k_ hk_ => Or.elim hk_ (fun hs_ => fun e_ => (((HO372.out).1 k_ e_.symm)) hs_) (fun hn_ => (Kd.fresh' (Kd.R_lt (by (with_reducible repeat (first | apply Kd.R_alloc | apply Kd.R_drewN | apply Kd.R_drew)); exact HO372.out)) k_ hn_))))
                have n2_ := zaa.mk (hb)
                clear HO372
                clear HB
                clear HO_7
                have HO372 := n0_
                have HO377 := n1_
                have HB := n2_
                clear n0_ n1_ n2_
                (try clear hb)
                (try clear hkp)
                (try clear ho0)
                refine hK.out _ _ ⟨((HB.out.cell (World.block_lt_of_cell? w _ hw373_0)).trans hw373_0), ((HB.out.cell (World.block_lt_of_cell? w _ hw374_0)).trans hw374_0)⟩ (fun hHeld => ?_)
                clear hK K
                refine norm_ (a' := ?_) ?_ ?_
                rotate_left
                ·show Act.put _ (some 53) _ = _
                 simp only [Act.put, List.setIfInBounds_toArray, List.set_cons_zero, List.set_cons_succ, zas, zat]
                 rfl
                refine zbb (i := 12) (N := some 7) (v := ?_) (a' := ?_) #[true, true, true, true, true, true, true, true, true, true, true, true, true] rfl rfl (zbz HT_.out (by kernel_rfl)) (fun _ _ _ h => h) (Or.inl ⟨by rfl, ?_⟩) ?_ ?_
                rotate_left
                ·intro w'
                 go_simp
                 with_reducible rfl
                rotate_left
                ·simp only [Act.put, List.setIfInBounds_toArray, List.set_cons_zero, List.set_cons_succ, zas, zat]
                 rfl
                refine done_ (done_of HT_.out (by kernel_rfl)) ?_
                try go_wp2
                go_roundg k1
                case measure => have := HK1.out; omega
                case rel => exact ⟨(t370), (t375), (wrap64 (x8_1 + 1)), (by first | rfl | (simp; done) | (simp [*]; done)), H', ⟨by have := HK1.out; omega⟩, ⟨by (with_reducible repeat (first | apply Kd.R_alloc | apply Kd.R_drewN | apply Kd.R_drew)); exact HO372.out⟩, ⟨by (with_reducible repeat (first | apply Kd.R_alloc | apply Kd.R_drewN | apply Kd.R_drew)); exact HO377.out⟩, ⟨by repeat (first | (with_reducible first | exact HB.out | apply zac | apply zab | apply zad) | exact HB.out)⟩⟩
               ·rw [if_neg c22] at H
                exact absurd H (by simp)
              ·rw [if_neg c21] at H
               exact absurd H (by simp)
             ·rw [if_neg c18] at H
              exact absurd H (by simp)
            ·rw [if_neg c17] at H
             exact absurd H (by simp)
           ·rw [if_neg c15] at H
            exact absurd H (by simp)
          ·rw [if_neg c14] at H
           exact absurd H (by simp)
         ·rw [if_neg c13] at H
          exact absurd H (by simp)
        ·rw [if_neg c12] at H
         have c12b0 : ((rd l1 0) == 0) = false := beq_eq_false_iff_ne.mpr c12
         have c12b1 : ((rd l1 0) != 0) = true := bne_iff_ne.mpr c12
         by_cases c32 : 1 < (l1.length : Int)
         ·rw [if_pos c32] at H
          have c32b0 : decide (1 < (l1.length : Int)) = true := decide_eq_true c32
          have c32b1 : decide (1 < l1.length) = true := decide_eq_true (by omega)
          clear c32
          obtain ⟨ji33, hji33⟩ : ∃ j_ : Int, (wrap64 ((rd l1 1) - 1)) = j_ := ⟨_, rfl⟩
          replace H : (if 0 ≤ (ji33) then (if (ji33) < (l0.length : Int) then (if 0 ≤ x8_1 then (if x8_1 < ((rdOf ByteArray.empty l0 (ji33)).size : Int) then ((spec_l2Put.f x6_1 (wrap64 ((wrap64 (bt (rdOf ByteArray.empty l0 (ji33)) x8_1)) - 97))).bind fun t380 => (if 0 ≤ (rd l1 1) then (if (rd l1 1) < (l0.length : Int) then (if x8_1 < ((rdOf ByteArray.empty l0 (rd l1 1)).size : Int) then ((spec_l2Put.f x7_1 (wrap64 ((wrap64 (bt (rdOf ByteArray.empty l0 (rd l1 1)) x8_1)) - 97))).bind fun t385 => (spec_l2Sides.l0 k1 l0 l1 t380 t385 (wrap64 (x8_1 + 1)))) else (none)) else (none)) else (none))) else (none)) else (none)) else (none)) else (none)) = some (r1, r2) := by first | (rw [hji33] at H; exact H) | (simp only [hji33] at H ⊢; exact H)
          have hji33w : (IntKind.i64.wrap ((rd l1 1) - 1)) = ji33 := (zas _).trans hji33
          by_cases c34 : 0 ≤ (ji33)
          ·rw [if_pos c34] at H
           have c34b0 : decide (0 ≤ (ji33)) = true := decide_eq_true c34
           clear c34
           by_cases c35 : (ji33) < (l0.length : Int)
           ·rw [if_pos c35] at H
            have c35b0 : decide ((ji33) < (l0.length : Int)) = true := decide_eq_true c35
            clear c35
            by_cases c36 : 0 ≤ x8_1
            ·rw [if_pos c36] at H
             have c36b0 : decide (0 ≤ x8_1) = true := decide_eq_true c36
             clear c36
             by_cases c37 : x8_1 < ((rdOf ByteArray.empty l0 (ji33)).size : Int)
             ·rw [if_pos c37] at H
              have c37b0 : decide (x8_1 < ((rdOf ByteArray.empty l0 (ji33)).size : Int)) = true := decide_eq_true c37
              clear c37
              replace H := Option.bind_eq_some_iff.mp H
              obtain ⟨t380, A390, H⟩ := H
              replace H : (if 0 ≤ (rd l1 1) then (if (rd l1 1) < (l0.length : Int) then (if x8_1 < ((rdOf ByteArray.empty l0 (rd l1 1)).size : Int) then ((spec_l2Put.f x7_1 (wrap64 ((wrap64 (bt (rdOf ByteArray.empty l0 (rd l1 1)) x8_1)) - 97))).bind fun t385 => (spec_l2Sides.l0 k1 l0 l1 t380 t385 (wrap64 (x8_1 + 1)))) else (none)) else (none)) else (none)) = some (r1, r2) := H
              have A39 := zaa.mk A390
              clear A390
              by_cases c40 : 0 ≤ (rd l1 1)
              ·rw [if_pos c40] at H
               have c40b0 : decide (0 ≤ (rd l1 1)) = true := decide_eq_true c40
               clear c40
               by_cases c41 : (rd l1 1) < (l0.length : Int)
               ·rw [if_pos c41] at H
                have c41b0 : decide ((rd l1 1) < (l0.length : Int)) = true := decide_eq_true c41
                clear c41
                by_cases c42 : x8_1 < ((rdOf ByteArray.empty l0 (rd l1 1)).size : Int)
                ·rw [if_pos c42] at H
                 have c42b0 : decide (x8_1 < ((rdOf ByteArray.empty l0 (rd l1 1)).size : Int)) = true := decide_eq_true c42
                 clear c42
                 replace H := Option.bind_eq_some_iff.mp H
                 obtain ⟨t385, A440, H⟩ := H
                 replace H : (spec_l2Sides.l0 k1 l0 l1 t380 t385 (wrap64 (x8_1 + 1))) = some (r1, r2) := H
                 have A44 := zaa.mk A440
                 clear A440
                 have H' := zaa.mk H
                 clear H
                 try go_wp2
                 have n0_ := zaa.mk (Kd.R_drew HO_6.out)
                 have n1_ := zaa.mk (Kd.R_drew HO_7.out)
                 have n2_ := zaa.mk (zad HB.out)
                 clear HO_6
                 clear HO_7
                 clear HB
                 have HO_6 := n0_
                 have HO_7 := n1_
                 have HB := n2_
                 clear n0_ n1_ n2_
                 have p365 : 0 ≤ (2 : Int) := (by omega)
                 have q365 : 2 < (l1.length : Int) := of_decide_eq_true (by first | (with_reducible assumption) | assumption)
                 obtain ⟨ad365, e365, hx365_0⟩ := Kd.at_int HR1.out 2 p365 q365
                 have hw365_0 := hx365_0
                 (try rw [show ((2 : Int)).toNat = 2 from rfl] at hw365_0)
                 (try rw [show 2 * 1 = 2 from rfl] at hw365_0)
                 (try simp only [Nat.reduceMul, Nat.reduceEqDiff, Go.Addr.add, ↓reduceIte] at hw365_0)
                 obtain rfl : ad364 = ad365 := (by injection e365)
                 (try simp only [show (2 : Int).toNat = 2 from rfl, Nat.reduceMul, Nat.reduceEqDiff, Go.Addr.add, ↓reduceIte] at hx365_0)
                 have qi365 : (2 < l1.length) = True := eq_true (by omega)
                 (try rw [show ((2 : Int)).toNat = 2 from rfl] at hx365_0)
                 replace hx365_0 := (HB.out.cell (World.block_lt_of_cell? w _ hx365_0)).trans hx365_0
                 replace p365 := eq_true p365
                 replace q365 := eq_true q365
                 have p366 : 0 ≤ (3 : Int) := (by omega)
                 have q366 : 3 < (l1.length : Int) := of_decide_eq_true (by first | (with_reducible assumption) | assumption)
                 obtain ⟨ad366, e366, hx366_0⟩ := Kd.at_int HR1.out 3 p366 q366
                 have hw366_0 := hx366_0
                 (try rw [show ((3 : Int)).toNat = 3 from rfl] at hw366_0)
                 (try rw [show 3 * 1 = 3 from rfl] at hw366_0)
                 (try simp only [Nat.reduceMul, Nat.reduceEqDiff, Go.Addr.add, ↓reduceIte] at hw366_0)
                 obtain rfl : ad364 = ad366 := (by injection e366)
                 (try simp only [show (3 : Int).toNat = 3 from rfl, Nat.reduceMul, Nat.reduceEqDiff, Go.Addr.add, ↓reduceIte] at hx366_0)
                 have qi366 : (3 < l1.length) = True := eq_true (by omega)
                 (try rw [show ((3 : Int)).toNat = 3 from rfl] at hx366_0)
                 replace hx366_0 := (HB.out.cell (World.block_lt_of_cell? w _ hx366_0)).trans hx366_0
                 replace p366 := eq_true p366
                 replace q366 := eq_true q366
                 refine start_ (n := 9) (S := fun w' => w'.cell? ⟨ad364.block, ad364.off + 2, none⟩ = some (.int .i64 (rd l1 2)) ∧ w'.cell? ⟨ad364.block, ad364.off + 3, none⟩ = some (.int .i64 (rd l1 3))) (ds := []) #[false, false, false, false, false, false, false, false, false] (by kernel_rfl) rfl rfl ⟨((HB.out.cell (World.block_lt_of_cell? w _ hw365_0)).trans hw365_0), ((HB.out.cell (World.block_lt_of_cell? w _ hw366_0)).trans hw366_0)⟩ (fun hHeld => ?_); refine with_tabW spec_l2Sides.tab4 spec_l2Sides.bits4 (fun HT_ HW_ => ?_)
                 generalize wr.drew = w45 at HO_6 HO_7 HB hx365_0 hx366_0 hHeld ⊢
                 refine zbb (i := 0) (N := some 14) (v := ?_) (a' := ?_) #[true, false, false, false, false, false, false, false, false] rfl rfl (zbz HT_.out (by kernel_rfl)) (fun _ _ _ h => h) (Or.inl ⟨by rfl, ?_⟩) ?_ ?_
                 rotate_left
                 ·intro w'
                  go_simp
                  with_reducible rfl
                 rotate_left
                 ·simp only [Act.put, List.setIfInBounds_toArray, List.set_cons_zero, List.set_cons_succ, zas, zat]
                  rfl
                 refine zbb (i := 1) (N := some 15) (v := ?_) (a' := ?_) #[true, true, false, false, false, false, false, false, false] rfl rfl (zbz HT_.out (by kernel_rfl)) (fun _ _ _ h => h) (Or.inl ⟨by rfl, ?_⟩) ?_ ?_
                 rotate_left
                 ·intro w'
                  go_simp
                  with_reducible rfl
                 rotate_left
                 ·simp only [Act.put, List.setIfInBounds_toArray, List.set_cons_zero, List.set_cons_succ, zas, zat]
                  rfl
                 refine zbb (i := 2) (N := some 16) (v := ?_) (a' := ?_) #[true, true, true, false, false, false, false, false, false] rfl rfl (zbz HT_.out (by kernel_rfl)) (fun _ _ _ h => h) (Or.inl ⟨by rfl, ?_⟩) ?_ ?_
                 rotate_left
                 ·intro w'
                  go_simp
                  with_reducible rfl
                 rotate_left
                 ·simp only [Act.put, List.setIfInBounds_toArray, List.set_cons_zero, List.set_cons_succ, zas, zat]
                  rfl
                 refine zbb (i := 4) (N := some 18) (v := ?_) (a' := ?_) #[true, true, true, false, true, false, false, false, false] rfl rfl (zbz HT_.out (by kernel_rfl)) (fun _ _ _ h => h) (Or.inl ⟨by rfl, ?_⟩) ?_ ?_
                 rotate_left
                 ·intro w'
                  go_simp
                  with_reducible rfl
                 rotate_left
                 ·simp only [Act.put, List.setIfInBounds_toArray, List.set_cons_zero, List.set_cons_succ, zas, zat]
                  rfl
                 refine zbb (i := 5) (N := some 19) (v := ?_) (a' := ?_) #[true, true, true, false, true, true, false, false, false] rfl rfl (zbz HT_.out (by kernel_rfl)) (fun _ _ _ h => h) (Or.inl ⟨by rfl, ?_⟩) ?_ ?_
                 rotate_left
                 ·intro w'
                  go_simp
                  with_reducible rfl
                 rotate_left
                 ·simp only [Act.put, List.setIfInBounds_toArray, List.set_cons_zero, List.set_cons_succ, zas, zat]
                  rfl
                 refine zcr (i := 3) (N := some 17) (v := ?_) (a' := ?_) #[true, true, true, true, true, true, false, false, false] rfl rfl (take_ofW HT_.out HW_.out (by kernel_rfl)) (fun _ _ _ h => h) (Or.inl ⟨by rfl, ?_⟩) hHeld ?_ ?_
                 rotate_left
                 ·rintro w' ⟨s0, s1⟩
                  go_simp
                  with_reducible rfl
                 rotate_left
                 ·simp only [Act.put, List.setIfInBounds_toArray, List.set_cons_zero, List.set_cons_succ, zas, zat]
                  rfl
                 refine zcr (i := 6) (N := some 20) (v := ?_) (a' := ?_) #[true, true, true, true, true, true, true, false, false] rfl rfl (take_ofW HT_.out HW_.out (by kernel_rfl)) (fun _ _ _ h => h) (Or.inl ⟨by rfl, ?_⟩) hHeld ?_ ?_
                 rotate_left
                 ·rintro w' ⟨s0, s1⟩
                  go_simp
                  with_reducible rfl
                 rotate_left
                 ·simp only [Act.put, List.setIfInBounds_toArray, List.set_cons_zero, List.set_cons_succ, zas, zat]
                  rfl
                 refine zbb (i := 7) (N := some 21) (v := ?_) (a' := ?_) #[true, true, true, true, true, true, true, true, false] rfl rfl (zbz HT_.out (by kernel_rfl)) (fun _ _ _ h => h) (Or.inl ⟨by rfl, ?_⟩) ?_ ?_
                 rotate_left
                 ·intro w'
                  go_simp
                  with_reducible rfl
                 rotate_left
                 ·simp only [Act.put, List.setIfInBounds_toArray, List.set_cons_zero, List.set_cons_succ, zas, zat]
                  rfl
                 refine zbb (i := 8) (N := some 22) (v := ?_) (a' := ?_) #[true, true, true, true, true, true, true, true, true] rfl rfl (zbz HT_.out (by kernel_rfl)) (fun _ _ _ h => h) (Or.inl ⟨by rfl, ?_⟩) ?_ ?_
                 rotate_left
                 ·intro w'
                  go_simp
                  with_reducible rfl
                 rotate_left
                 ·simp only [Act.put, List.setIfInBounds_toArray, List.set_cons_zero, List.set_cons_succ, zas, zat]
                  rfl
                 refine done_ (done_of HT_.out (by kernel_rfl)) ?_
                 have p367 : 0 ≤ (0 : Int) := (by omega)
                 have q367 : 0 < (l1.length : Int) := of_decide_eq_true (by first | (with_reducible assumption) | assumption)
                 obtain ⟨ad367, e367, hx367_0⟩ := Kd.at_int HR1.out 0 p367 q367
                 obtain rfl : ad364 = ad367 := (by injection e367)
                 have qi367 : (0 < l1.length) = True := eq_true (by omega)
                 (try rw [show ((0 : Int)).toNat = 0 from rfl] at hx367_0)
                 (try rw [Addr.add_zero'] at hx367_0)
                 replace hx367_0 := (HB.out.cell (World.block_lt_of_cell? w _ hx367_0)).trans hx367_0
                 replace p367 := eq_true p367
                 replace q367 := eq_true q367
                 have p378 : 0 ≤ (1 : Int) := (by omega)
                 have q378 : 1 < (l1.length : Int) := of_decide_eq_true (by first | (with_reducible assumption) | assumption)
                 obtain ⟨ad378, e378, hx378_0⟩ := Kd.at_int HR1.out 1 p378 q378
                 obtain rfl : ad364 = ad378 := (by injection e378)
                 (try simp only [show (1 : Int).toNat = 1 from rfl, Nat.reduceMul, Nat.reduceEqDiff, Go.Addr.add, ↓reduceIte] at hx378_0)
                 have qi378 : (1 < l1.length) = True := eq_true (by omega)
                 (try rw [show ((1 : Int)).toNat = 1 from rfl] at hx378_0)
                 replace hx378_0 := (HB.out.cell (World.block_lt_of_cell? w _ hx378_0)).trans hx378_0
                 replace p378 := eq_true p378
                 replace q378 := eq_true q378
                 have p379 : 0 ≤ ((ji33) : Int) := of_decide_eq_true (by first | (with_reducible assumption) | assumption)
                 have q379 : (ji33) < (l0.length : Int) := of_decide_eq_true (by first | (with_reducible assumption) | assumption)
                 obtain ⟨ad379, e379, hx379_0⟩ := Kd.at_string HR0.out (ji33) p379 q379
                 cases e379
                 replace hx379_0 := (HB.out.cell (World.block_lt_of_cell? w _ hx379_0)).trans hx379_0
                 replace p379 := eq_true p379
                 replace q379 := eq_true q379
                 have p38 : 0 ≤ (x8_1 : Int) := of_decide_eq_true (by first | (with_reducible assumption) | assumption)
                 have q38 : x8_1 < ((rdOf ByteArray.empty l0 (ji33)).size : Int) := of_decide_eq_true (by first | (with_reducible assumption) | assumption)
                 have hx38 := bt_at (rdOf ByteArray.empty l0 (ji33)) x8_1
                 replace p38 := eq_true p38
                 replace q38 := eq_true q38
                 obtain ⟨Ao46, co46, eo46⟩ := Kd.R_slice HO_6.out
                 subst eo46
                 try go_wp2_with (first | ((with_reducible refine zai (f := 63) rfl ?_); refine zbc (some 66) rfl rfl Try.func63 (by kernel_rfl) rfl #[.slice Ao46 x6_1.length co46, .int .i64 (wrap64 ((wrap64 (bt (rdOf ByteArray.empty l0 (ji33)) x8_1)) - 97))] rfl (by (try simp only [List.map_toArray, List.map_cons, List.map_nil]); first | done | (simp only [hji33]; rfl) | rfl | (simp only [List.length_drop, List.length_take]; rfl)) ?_; (with_reducible refine (spec_l2Put.calls (fun k_ => some k_ = (.slice Ao46 x6_1.length co46 : Value).ownBlock) (.slice Ao46 x6_1.length co46) x6_1 (wrap64 ((wrap64 (bt (rdOf ByteArray.empty l0 (ji33)) x8_1)) - 97)) t380 w _ ?side1 ?side2 A39.out).mono ?_); (case side1 => repeat (first | (with_reducible first | exact HB.out | apply zac | apply zab | apply zad) | exact HB.out)); (case side2 => exact Kd.R_tight rfl HO_6.out); rintro e w47 ⟨v381, rfl, ho0, hb, hkp⟩; refine ⟨_, rfl, ?_⟩; have n0_ := zaa.mk (Kd.R_mono (ok' := fun k_ => some k_ ≠ (v381 : Value).ownBlock) (Kd.R_keptB (HO_7.out) hkp (fun k_ hk_ hs_ => (hk_) hs_)) (fun k_ hk_ => fun e_ => Or.elim (ho0.1 k_ e_.symm) (fun hs_ => hk_.2.1 hs_) (fun hn_ => Nat.not_le.2 hk_.2.2 hn_))); have n1_ := zaa.mk (Kd.R_mono (ok' := fun k_ => some k_ ≠ (u7 : Value).ownBlock) ho0 (fun k_ hk_ => Or.elim hk_ (fun hs_ => fun e_ => (((HO_7.out).1 k_ e_.symm)) hs_) (fun hn_ => (Kd.fresh' (Kd.R_lt (by (with_reducible repeat (first | apply Kd.R_alloc | apply Kd.R_drewN | apply Kd.R_drew)); exact HO_7.out)) k_ hn_)))); have n2_ := zaa.mk (hb); clear HO_7; clear HB; clear HO_6; have HO_7 := n0_; have HO382 := n1_; have HB := n2_; clear n0_ n1_ n2_; (try clear hb); (try clear hkp); (try clear ho0); have p383 : 0 ≤ (1 : Int) := (by omega); have q383 : 1 < (l1.length : Int) := of_decide_eq_true (by first | (with_reducible assumption) | assumption); obtain ⟨ad383, e383, hx383_0⟩ := Kd.at_int HR1.out 1 p383 q383; obtain rfl : ad364 = ad383 := (by injection e383); (try simp only [show (1 : Int).toNat = 1 from rfl, Nat.reduceMul, Nat.reduceEqDiff, Go.Addr.add, ↓reduceIte] at hx383_0); have qi383 : (1 < l1.length) = True := eq_true (by omega); (try rw [show ((1 : Int)).toNat = 1 from rfl] at hx383_0); replace hx383_0 := (HB.out.cell (World.block_lt_of_cell? w _ hx383_0)).trans hx383_0; replace p383 := eq_true p383; replace q383 := eq_true q383; have p384 : 0 ≤ ((rd l1 1) : Int) := of_decide_eq_true (by first | (with_reducible assumption) | assumption); have q384 : (rd l1 1) < (l0.length : Int) := of_decide_eq_true (by first | (with_reducible assumption) | assumption); obtain ⟨ad384, e384, hx384_0⟩ := Kd.at_string HR0.out (rd l1 1) p384 q384; obtain rfl : ad379 = ad384 := (by injection e384); replace hx384_0 := (HB.out.cell (World.block_lt_of_cell? w _ hx384_0)).trans hx384_0; replace p384 := eq_true p384; replace q384 := eq_true q384; have p43 : 0 ≤ (x8_1 : Int) := of_decide_eq_true (by first | (with_reducible assumption) | assumption); have q43 : x8_1 < ((rdOf ByteArray.empty l0 (rd l1 1)).size : Int) := of_decide_eq_true (by first | (with_reducible assumption) | assumption); have hx43 := bt_at (rdOf ByteArray.empty l0 (rd l1 1)) x8_1; replace p43 := eq_true p43; replace q43 := eq_true q43; obtain ⟨Ao48, co48, eo48⟩ := Kd.R_slice HO_7.out; subst eo48) | ((with_reducible refine zai (f := 63) rfl ?_); refine zbc (some 78) rfl rfl Try.func63 (by kernel_rfl) rfl #[.slice Ao48 x7_1.length co48, .int .i64 (wrap64 ((wrap64 (bt (rdOf ByteArray.empty l0 (rd l1 1)) x8_1)) - 97))] rfl (by (try simp only [List.map_toArray, List.map_cons, List.map_nil]); first | done | rfl | (simp only [List.length_drop, List.length_take]; rfl)) ?_; (with_reducible refine (spec_l2Put.calls (fun k_ => some k_ = (.slice Ao48 x7_1.length co48 : Value).ownBlock) (.slice Ao48 x7_1.length co48) x7_1 (wrap64 ((wrap64 (bt (rdOf ByteArray.empty l0 (rd l1 1)) x8_1)) - 97)) t385 w _ ?side1 ?side2 A44.out).mono ?_); (case side1 => repeat (first | (with_reducible first | exact HB.out | apply zac | apply zab | apply zad) | exact HB.out)); (case side2 => exact Kd.R_tight rfl HO_7.out); rintro e w49 ⟨v386, rfl, ho0, hb, hkp⟩; refine ⟨_, rfl, ?_⟩; have n0_ := zaa.mk (Kd.R_mono (ok' := fun k_ => some k_ ≠ (v386 : Value).ownBlock) (Kd.R_keptB (HO382.out) hkp (fun k_ hk_ hs_ => (hk_) hs_)) (fun k_ hk_ => fun e_ => Or.elim (ho0.1 k_ e_.symm) (fun hs_ => hk_.2.1 hs_) (fun hn_ => Nat.not_le.2 hk_.2.2 hn_))); have n1_ := zaa.mk (Kd.R_mono (ok' := fun k_ => some k_ ≠ (v381 : Value).ownBlock) ho0 (fun k_ hk_ => Or.elim hk_ (fun hs_ => fun e_ => (((HO382.out).1 k_ e_.symm)) hs_) (fun hn_ => (Kd.fresh' (Kd.R_lt (by (with_reducible repeat (first | apply Kd.R_alloc | apply Kd.R_drewN | apply Kd.R_drew)); exact HO382.out)) k_ hn_)))); have n2_ := zaa.mk (hb); clear HO382; clear HB; clear HO_7; have HO382 := n0_; have HO387 := n1_; have HB := n2_; clear n0_ n1_ n2_; (try clear hb); (try clear hkp); (try clear ho0)))
                 go_roundg k1
                 case measure => have := HK1.out; omega
                 case rel => exact ⟨(t380), (t385), (wrap64 (x8_1 + 1)), (by first | rfl | (simp; done) | (simp [*]; done)), H', ⟨by have := HK1.out; omega⟩, ⟨by (with_reducible repeat (first | apply Kd.R_alloc | apply Kd.R_drewN | apply Kd.R_drew)); exact HO382.out⟩, ⟨by (with_reducible repeat (first | apply Kd.R_alloc | apply Kd.R_drewN | apply Kd.R_drew)); exact HO387.out⟩, ⟨by repeat (first | (with_reducible first | exact HB.out | apply zac | apply zab | apply zad) | exact HB.out)⟩⟩
                ·rw [if_neg c42] at H
                 exact absurd H (by simp)
               ·rw [if_neg c41] at H
                exact absurd H (by simp)
              ·rw [if_neg c40] at H
               exact absurd H (by simp)
             ·rw [if_neg c37] at H
              exact absurd H (by simp)
            ·rw [if_neg c36] at H
             exact absurd H (by simp)
           ·rw [if_neg c35] at H
            exact absurd H (by simp)
          ·rw [if_neg c34] at H
           exact absurd H (by simp)
         ·rw [if_neg c32] at H
          exact absurd H (by simp)
       ·rw [if_neg c11] at H
        exact absurd H (by simp)
      ·rw [if_neg c10] at H
       have c10b0 : decide (x8_1 < (wrap64 ((rd l1 2) + (rd l1 3)))) = false := decide_eq_false c10
       clear c10
       simp only [Option.some.injEq, Prod.mk.injEq] at H
       obtain ⟨rfl, rfl⟩ := H
       try go_wp2
       have n0_ := zaa.mk (Kd.R_drew HO_6.out)
       have n1_ := zaa.mk (Kd.R_drew HO_7.out)
       have n2_ := zaa.mk (zad HB.out)
       clear HO_6
       clear HO_7
       clear HB
       have HO_6 := n0_
       have HO_7 := n1_
       have HB := n2_
       clear n0_ n1_ n2_
       have p365 : 0 ≤ (2 : Int) := (by omega)
       have q365 : 2 < (l1.length : Int) := of_decide_eq_true (by first | (with_reducible assumption) | assumption)
       obtain ⟨ad365, e365, hx365_0⟩ := Kd.at_int HR1.out 2 p365 q365
       have hw365_0 := hx365_0
       (try rw [show ((2 : Int)).toNat = 2 from rfl] at hw365_0)
       (try rw [show 2 * 1 = 2 from rfl] at hw365_0)
       (try simp only [Nat.reduceMul, Nat.reduceEqDiff, Go.Addr.add, ↓reduceIte] at hw365_0)
       obtain rfl : ad364 = ad365 := (by injection e365)
       (try simp only [show (2 : Int).toNat = 2 from rfl, Nat.reduceMul, Nat.reduceEqDiff, Go.Addr.add, ↓reduceIte] at hx365_0)
       have qi365 : (2 < l1.length) = True := eq_true (by omega)
       (try rw [show ((2 : Int)).toNat = 2 from rfl] at hx365_0)
       replace hx365_0 := (HB.out.cell (World.block_lt_of_cell? w _ hx365_0)).trans hx365_0
       replace p365 := eq_true p365
       replace q365 := eq_true q365
       have p366 : 0 ≤ (3 : Int) := (by omega)
       have q366 : 3 < (l1.length : Int) := of_decide_eq_true (by first | (with_reducible assumption) | assumption)
       obtain ⟨ad366, e366, hx366_0⟩ := Kd.at_int HR1.out 3 p366 q366
       have hw366_0 := hx366_0
       (try rw [show ((3 : Int)).toNat = 3 from rfl] at hw366_0)
       (try rw [show 3 * 1 = 3 from rfl] at hw366_0)
       (try simp only [Nat.reduceMul, Nat.reduceEqDiff, Go.Addr.add, ↓reduceIte] at hw366_0)
       obtain rfl : ad364 = ad366 := (by injection e366)
       (try simp only [show (3 : Int).toNat = 3 from rfl, Nat.reduceMul, Nat.reduceEqDiff, Go.Addr.add, ↓reduceIte] at hx366_0)
       have qi366 : (3 < l1.length) = True := eq_true (by omega)
       (try rw [show ((3 : Int)).toNat = 3 from rfl] at hx366_0)
       replace hx366_0 := (HB.out.cell (World.block_lt_of_cell? w _ hx366_0)).trans hx366_0
       replace p366 := eq_true p366
       replace q366 := eq_true q366
       refine start_ (n := 9) (S := fun w' => w'.cell? ⟨ad364.block, ad364.off + 2, none⟩ = some (.int .i64 (rd l1 2)) ∧ w'.cell? ⟨ad364.block, ad364.off + 3, none⟩ = some (.int .i64 (rd l1 3))) (ds := []) #[false, false, false, false, false, false, false, false, false] (by kernel_rfl) rfl rfl ⟨((HB.out.cell (World.block_lt_of_cell? w _ hw365_0)).trans hw365_0), ((HB.out.cell (World.block_lt_of_cell? w _ hw366_0)).trans hw366_0)⟩ (fun hHeld => ?_); refine with_tabW spec_l2Sides.tab4 spec_l2Sides.bits4 (fun HT_ HW_ => ?_)
       generalize wr.drew = w50 at HO_6 HO_7 HB hx365_0 hx366_0 hHeld ⊢
       refine zbb (i := 0) (N := some 14) (v := ?_) (a' := ?_) #[true, false, false, false, false, false, false, false, false] rfl rfl (zbz HT_.out (by kernel_rfl)) (fun _ _ _ h => h) (Or.inl ⟨by rfl, ?_⟩) ?_ ?_
       rotate_left
       ·intro w'
        go_simp
        with_reducible rfl
       rotate_left
       ·simp only [Act.put, List.setIfInBounds_toArray, List.set_cons_zero, List.set_cons_succ, zas, zat]
        rfl
       refine zbb (i := 1) (N := some 15) (v := ?_) (a' := ?_) #[true, true, false, false, false, false, false, false, false] rfl rfl (zbz HT_.out (by kernel_rfl)) (fun _ _ _ h => h) (Or.inl ⟨by rfl, ?_⟩) ?_ ?_
       rotate_left
       ·intro w'
        go_simp
        with_reducible rfl
       rotate_left
       ·simp only [Act.put, List.setIfInBounds_toArray, List.set_cons_zero, List.set_cons_succ, zas, zat]
        rfl
       refine zbb (i := 2) (N := some 16) (v := ?_) (a' := ?_) #[true, true, true, false, false, false, false, false, false] rfl rfl (zbz HT_.out (by kernel_rfl)) (fun _ _ _ h => h) (Or.inl ⟨by rfl, ?_⟩) ?_ ?_
       rotate_left
       ·intro w'
        go_simp
        with_reducible rfl
       rotate_left
       ·simp only [Act.put, List.setIfInBounds_toArray, List.set_cons_zero, List.set_cons_succ, zas, zat]
        rfl
       refine zbb (i := 4) (N := some 18) (v := ?_) (a' := ?_) #[true, true, true, false, true, false, false, false, false] rfl rfl (zbz HT_.out (by kernel_rfl)) (fun _ _ _ h => h) (Or.inl ⟨by rfl, ?_⟩) ?_ ?_
       rotate_left
       ·intro w'
        go_simp
        with_reducible rfl
       rotate_left
       ·simp only [Act.put, List.setIfInBounds_toArray, List.set_cons_zero, List.set_cons_succ, zas, zat]
        rfl
       refine zbb (i := 5) (N := some 19) (v := ?_) (a' := ?_) #[true, true, true, false, true, true, false, false, false] rfl rfl (zbz HT_.out (by kernel_rfl)) (fun _ _ _ h => h) (Or.inl ⟨by rfl, ?_⟩) ?_ ?_
       rotate_left
       ·intro w'
        go_simp
        with_reducible rfl
       rotate_left
       ·simp only [Act.put, List.setIfInBounds_toArray, List.set_cons_zero, List.set_cons_succ, zas, zat]
        rfl
       refine zcr (i := 3) (N := some 17) (v := ?_) (a' := ?_) #[true, true, true, true, true, true, false, false, false] rfl rfl (take_ofW HT_.out HW_.out (by kernel_rfl)) (fun _ _ _ h => h) (Or.inl ⟨by rfl, ?_⟩) hHeld ?_ ?_
       rotate_left
       ·rintro w' ⟨s0, s1⟩
        go_simp
        with_reducible rfl
       rotate_left
       ·simp only [Act.put, List.setIfInBounds_toArray, List.set_cons_zero, List.set_cons_succ, zas, zat]
        rfl
       refine zcr (i := 6) (N := some 20) (v := ?_) (a' := ?_) #[true, true, true, true, true, true, true, false, false] rfl rfl (take_ofW HT_.out HW_.out (by kernel_rfl)) (fun _ _ _ h => h) (Or.inl ⟨by rfl, ?_⟩) hHeld ?_ ?_
       rotate_left
       ·rintro w' ⟨s0, s1⟩
        go_simp
        with_reducible rfl
       rotate_left
       ·simp only [Act.put, List.setIfInBounds_toArray, List.set_cons_zero, List.set_cons_succ, zas, zat]
        rfl
       refine zbb (i := 7) (N := some 21) (v := ?_) (a' := ?_) #[true, true, true, true, true, true, true, true, false] rfl rfl (zbz HT_.out (by kernel_rfl)) (fun _ _ _ h => h) (Or.inl ⟨by rfl, ?_⟩) ?_ ?_
       rotate_left
       ·intro w'
        go_simp
        with_reducible rfl
       rotate_left
       ·simp only [Act.put, List.setIfInBounds_toArray, List.set_cons_zero, List.set_cons_succ, zas, zat]
        rfl
       refine zbb (i := 8) (N := some 22) (v := ?_) (a' := ?_) #[true, true, true, true, true, true, true, true, true] rfl rfl (zbz HT_.out (by kernel_rfl)) (fun _ _ _ h => h) (Or.inl ⟨by rfl, ?_⟩) ?_ ?_
       rotate_left
       ·intro w'
        go_simp
        with_reducible rfl
       rotate_left
       ·simp only [Act.put, List.setIfInBounds_toArray, List.set_cons_zero, List.set_cons_succ, zas, zat]
        rfl
       refine done_ (done_of HT_.out (by kernel_rfl)) ?_
       try go_wp2
       go_ret2
       exact ⟨_, _, by first | rfl | (simp [zak, zaj] <;> rfl) | (simp [*, zak, zaj] <;> rfl), by (with_reducible repeat (first | apply Kd.R_alloc | apply Kd.R_drewN | apply Kd.R_drew)); exact HO_6.out, by (with_reducible repeat (first | apply Kd.R_alloc | apply Kd.R_drewN | apply Kd.R_drew)); exact HO_7.out, by repeat (first | (with_reducible first | exact HB.out | apply zac | apply zab | apply zad) | exact HB.out)⟩
     ·rw [if_neg c9] at H
      exact absurd H (by simp)
    ·rw [if_neg c8] at H
     exact absurd H (by simp)
 ·rw [if_neg c3] at H
  exact absurd H (by simp)
end Go.Proofs.Ytoijjkhdfooapaa.PB
namespace Go.Proofs.Ytoijjkhdfooapaa.PB
open Go.RowKit Go.PW.PrintWords Go.PW.PrintLast Go.PW.PrintMore
attribute [local go_sem] zbu zbs zcf zce zbm zbl zbt zbr   -- for this text's walks alone
def spec_WallSides.j0 : Nat → List ByteArray → Int → Bool → Option (List Int × List Int × Bool)
 | 0, _, _, _ => none
 | k + 1, x0, x1, x20 => if x20 = true then (some ((([] : List Int)), (([] : List Int)), false)) else ((spec_l2Walls.f k x0).bind fun t399 => (if 0 ≤ x1 then (if x1 < (t399.length : Int) then ((spec_l2Sides.f k x0 (zbi t399 x1)).bind fun bt403 => (some (bt403.1, bt403.2, true))) else (none)) else (none)))
def spec_WallSides.f (k : Nat) (l0 : List ByteArray) (a1 : Int) : Option (List Int × List Int × Bool) := (spec_PlanIn.f k l0).bind fun t388 => (if t388 = true then ((spec_l2Walls.f k l0).bind fun t389 => ((spec_l6In.f a1 0 (wrap64 ((t389.length : Int) - 1))).bind fun t392 => (spec_WallSides.j0 k l0 a1 (!t392)))) else (spec_WallSides.j0 k l0 a1 true))
set_option maxHeartbeats 8000000 in
set_option maxRecDepth 100000 in
theorem spec_WallSides.calls (k : Nat) (A0 : Option Addr) (c0 : Nat) (l0 : List ByteArray) (a1 : Int) (r1 : List Int) (r2 : List Int) (r3 : Bool) (w : World) (hr0 : Kd.C Kd.string w A0 l0.length l0) (hc0 : l0.length ≤ c0) (h : spec_WallSides.f k l0 a1 = some (r1, r2, r3)) :
  Calls Try.prog 28 #[.slice A0 l0.length c0, .int .i64 a1] w fun e w' => ∃ v0_ v1_ : Value, e = .returned (.tuple #[v0_, v1_, .bool r3]) ∧ Kd.R (Kd.int .i64) 3 w' w.heap.size (fun k_ => some k_ ≠ (v1_ : Value).ownBlock) v0_ r1 ∧ Kd.R (Kd.int .i64) 3 w' w.heap.size (fun k_ => some k_ ≠ (v0_ : Value).ownBlock) v1_ r2 ∧ Below w.heap.size w w' := by
 have HR0 := zaa.mk hr0
 have HC0 := zaa.mk hc0
 clear hr0 hc0
 have HB := zaa.mk (Below.refl w.heap.size w)
 have H : ((spec_PlanIn.f k l0).bind fun t388 => (if t388 = true then ((spec_l2Walls.f k l0).bind fun t389 => ((spec_l6In.f a1 0 (wrap64 ((t389.length : Int) - 1))).bind fun t392 => (spec_WallSides.j0 k l0 a1 (!t392)))) else (spec_WallSides.j0 k l0 a1 true))) = some (r1, r2, r3) := h
 clear h
 have HC3 := zaa.mk H
 clear H
 go_enter Try.func28, Try.ntmps28
 go_upto_region 1 with (fail)
 go_cut [20] (fun v20 wc => ∃ (kq : Nat) (x20_2 : Bool), v20 = .bool x20_2 ∧ zaa (spec_WallSides.j0 kq l0 a1 x20_2 = some (r1, r2, r3)) ∧ zaa (kq ≤ k) ∧ zaa (Below w.heap.size w wc))
 case first =>
  have H := HC3.out
  clear HC3
  replace H := Option.bind_eq_some_iff.mp H
  obtain ⟨t388, A40, H⟩ := H
  replace H : (if t388 = true then ((spec_l2Walls.f k l0).bind fun t389 => ((spec_l6In.f a1 0 (wrap64 ((t389.length : Int) - 1))).bind fun t392 => (spec_WallSides.j0 k l0 a1 (!t392)))) else (spec_WallSides.j0 k l0 a1 true)) = some (r1, r2, r3) := H
  have A4 := zaa.mk A40
  clear A40
  by_cases c5 : t388 = true
  ·subst c5
   have H1 : ((spec_l2Walls.f k l0).bind fun t389 => ((spec_l6In.f a1 0 (wrap64 ((t389.length : Int) - 1))).bind fun t392 => (spec_WallSides.j0 k l0 a1 (!t392)))) = some (r1, r2, r3) := by rw [if_pos rfl] at H; exact H
   clear H
   have H := H1
   clear H1
   replace H := Option.bind_eq_some_iff.mp H
   obtain ⟨t389, A60, H⟩ := H
   replace H : ((spec_l6In.f a1 0 (wrap64 ((t389.length : Int) - 1))).bind fun t392 => (spec_WallSides.j0 k l0 a1 (!t392))) = some (r1, r2, r3) := H
   have A6 := zaa.mk A60
   clear A60
   replace H := Option.bind_eq_some_iff.mp H
   obtain ⟨t392, A70, H⟩ := H
   replace H : (spec_WallSides.j0 k l0 a1 (!t392)) = some (r1, r2, r3) := H
   have A7 := zaa.mk A70
   clear A70
   have H' := zaa.mk H
   clear H
   go_wp2_with (first | ((with_reducible refine zai (f := 52) rfl ?_); refine zbc (some 10) rfl rfl Try.func52 (by kernel_rfl) rfl #[.slice A0 l0.length c0] rfl (by (try simp only [List.map_toArray, List.map_cons, List.map_nil]); first | done | rfl | (simp only [List.length_drop, List.length_take]; rfl)) ?_; (with_reducible refine (spec_PlanIn.calls k _ _ l0 true _ ?side1 ?side2 A4.out).mono ?_); (case side1 => repeat (first | exact (Kd.C_below HR0.out HB.out) | (with_reducible refine Kd.C_alloc ?_ _) | (with_reducible refine Kd.C_drewN ?_ _) | (with_reducible refine Kd.C_drew ?_))); (case side2 => exact HC0.out); rintro e w8 ⟨rfl, hb⟩; refine ⟨_, rfl, ?_⟩; have n0_ := zaa.mk (zag (by repeat (first | (with_reducible first | exact HB.out | apply zac | apply zab | apply zad) | exact HB.out)) hb); clear HB; have HB := n0_; clear n0_; (try clear hb); (try clear hb2); (try clear hk); (try clear hi)) | (go_at_call 53; (with_reducible refine (spec_l2Walls.calls k _ _ l0 t389 _ ?side1 ?side2 A6.out).mono ?_); (case side1 => repeat (first | exact (Kd.C_below HR0.out HB.out) | (with_reducible refine Kd.C_alloc ?_ _) | (with_reducible refine Kd.C_drewN ?_ _) | (with_reducible refine Kd.C_drew ?_))); (case side2 => exact HC0.out); rintro e w9 ⟨v390, rfl, ho0, hb⟩; have n0_ := zaa.mk (Kd.S_lower ho0 (zae (by repeat (first | (with_reducible first | exact HB.out | apply zac | apply zab | apply zad) | exact HB.out)))); have n1_ := zaa.mk (zag (by repeat (first | (with_reducible first | exact HB.out | apply zac | apply zab | apply zad) | exact HB.out)) hb); clear HB; have HO391 := n0_; have HB := n1_; clear n0_ n1_; (try clear hb); (try clear hb2); (try clear hk); (try clear hi); (try clear ho0); obtain ⟨Ao10, co10, eo10⟩ := Kd.S_slice HO391.out; subst eo10) | (go_at_call 59; (with_reducible refine (spec_l6In.calls a1 0 (wrap64 ((t389.length : Int) - 1)) t392 _ A7.out).mono ?_); rintro e w' ⟨rfl, ⟨nd, rfl⟩⟩))
   go_meet
   case rel => exact ⟨_, (!t392), (by first | rfl | (simp; done) | (simp [*]; done)), H', ⟨by first | omega | exact Nat.le_refl _⟩, ⟨by repeat (first | (with_reducible first | exact HB.out | apply zac | apply zab | apply zad) | exact HB.out)⟩⟩
  ·replace c5 := Bool.eq_false_iff.mpr c5
   subst c5
   have H1 : (spec_WallSides.j0 k l0 a1 true) = some (r1, r2, r3) := by rw [if_neg (show ¬ (false = true) by decide)] at H; exact H
   clear H
   have H := H1
   clear H1
   have H' := zaa.mk H
   clear H
   go_wp2_with (first | ((with_reducible refine zai (f := 52) rfl ?_); refine zbc (some 10) rfl rfl Try.func52 (by kernel_rfl) rfl #[.slice A0 l0.length c0] rfl (by (try simp only [List.map_toArray, List.map_cons, List.map_nil]); first | done | rfl | (simp only [List.length_drop, List.length_take]; rfl)) ?_; (with_reducible refine (spec_PlanIn.calls k _ _ l0 false _ ?side1 ?side2 A4.out).mono ?_); (case side1 => repeat (first | exact (Kd.C_below HR0.out HB.out) | (with_reducible refine Kd.C_alloc ?_ _) | (with_reducible refine Kd.C_drewN ?_ _) | (with_reducible refine Kd.C_drew ?_))); (case side2 => exact HC0.out); rintro e w11 ⟨rfl, hb⟩; refine ⟨_, rfl, ?_⟩; have n0_ := zaa.mk (zag (by repeat (first | (with_reducible first | exact HB.out | apply zac | apply zab | apply zad) | exact HB.out)) hb); clear HB; have HB := n0_; clear n0_; (try clear hb); (try clear hb2); (try clear hk); (try clear hi)))
   go_meet
   case rel => exact ⟨_, (true), (by first | rfl | (simp; done) | (simp [*]; done)), H', ⟨by first | omega | exact Nat.le_refl _⟩, ⟨by repeat (first | (with_reducible first | exact HB.out | apply zac | apply zab | apply zad) | exact HB.out)⟩⟩
 case rest =>
  clear HC3
  try clear c2
  try clear p2
  try clear c5
  try clear p6
  obtain ⟨kq, x20_2, rfl, HA, HJ2, HB⟩ := hcut
  cases kq with
  | zero => exact absurd HA.out (by simp [spec_WallSides.j0])
  | succ kj2 =>
   have H := HA.out
   clear HA
   simp only [spec_WallSides.j0] at H
   by_cases c12 : x20_2 = true
   ·subst c12
    have H1 : (some ((([] : List Int)), (([] : List Int)), false)) = some (r1, r2, r3) := by rw [if_pos rfl] at H; exact H
    clear H
    have H := H1
    clear H1
    obtain ⟨y393, hy393⟩ : ∃ y_ : List Int, y_ = (([] : List Int)) := ⟨_, rfl⟩
    replace H : (some (y393, (([] : List Int)), false)) = some (r1, r2, r3) := by first | (rw [hy393]; with_reducible exact H) | (have H2_ := (Option.bind_some _ _).symm.trans H; rw [hy393]; with_reducible exact H2_) | (have H2_ := (Option.bind_some _ _).symm.trans H; with_reducible exact H2_) | with_reducible exact H | (rw [hy393]; exact H) | exact H
    have Ny393 := zaa.mk hy393
    clear hy393
    obtain ⟨y396, hy396⟩ : ∃ y_ : List Int, y_ = (([] : List Int)) := ⟨_, rfl⟩
    replace H : (some (y393, y396, false)) = some (r1, r2, r3) := by first | (rw [hy396]; with_reducible exact H) | (have H2_ := (Option.bind_some _ _).symm.trans H; rw [hy396]; with_reducible exact H2_) | (have H2_ := (Option.bind_some _ _).symm.trans H; with_reducible exact H2_) | with_reducible exact H | (rw [hy396]; exact H) | exact H
    have Ny396 := zaa.mk hy396
    clear hy396
    simp only [Option.some.injEq, Prod.mk.injEq] at H
    obtain ⟨rfl, rfl, rfl⟩ := H
    go_wp2_with (first | ((with_reducible refine zaw (N := 21) rfl ?_); (try (refine gate_guard (by rfl) ?_; dsimp only)); refine Kd.R_lit (Kd.int .i64) _ 3 ?hg (N := 21) ?hd (xs := ([] : List Int)) (inner := []) (ok := fun _ => True) (okp := fun _ => True) ?hr ?hp (fun _ hk => hk) trivial (Below.refl _ _) (Nat.le_refl _) (by simp) ?_; (case hd => rfl); (case hg => rfl); (case hr => first | (go_simp; done) | (go_simp; rfl)); (case hp => exact (Reps.none _ _)); intro v394 w13 ho14 hb hg_ hnew_; clear hg_ hnew_; (first | rw [← Ny393.out] at ho14 | (simp only [Int.reduceToNat] at ho14; rw [← Ny393.out] at ho14)); have n0_ := zaa.mk (Kd.R_lower ho14 (zae (by repeat (first | (with_reducible first | exact HB.out | apply zac | apply zab | apply zad) | exact HB.out)))); have n1_ := zaa.mk (zag (by repeat (first | (with_reducible first | exact HB.out | apply zac | apply zab | apply zad) | exact HB.out)) hb); clear HB; have HO395 := n0_; have HB := n1_; clear n0_ n1_; clear hb ho14) | ((with_reducible refine zaw (N := 22) rfl ?_); (try (refine gate_guard (by rfl) ?_; dsimp only)); refine Kd.R_lit (Kd.int .i64) _ 3 ?hg (N := 22) ?hd (xs := ([] : List Int)) (inner := []) (ok := fun _ => True) (okp := fun _ => True) ?hr ?hp (fun _ hk => hk) trivial (Below.refl _ _) (Nat.le_refl _) (by simp) ?_; (case hd => rfl); (case hg => rfl); (case hr => first | (go_simp; done) | (go_simp; rfl)); (case hp => exact (Reps.none _ _)); intro v397 w15 ho16 hb hg_ hnew_; clear hg_ hnew_; (first | rw [← Ny396.out] at ho16 | (simp only [Int.reduceToNat] at ho16; rw [← Ny396.out] at ho16)); have n0_ := zaa.mk (Kd.R_elder' (by (with_reducible repeat (first | apply Kd.R_alloc | apply Kd.R_drewN | apply Kd.R_drew)); exact HO395.out) (Kd.R_base ho16) hb); have n1_ := zaa.mk (Kd.R_lower (Kd.R_new' ho16 (Kd.R_lt (by (with_reducible repeat (first | apply Kd.R_alloc | apply Kd.R_drewN | apply Kd.R_drew)); exact HO395.out))) (zae (by repeat (first | (with_reducible first | exact HB.out | apply zac | apply zab | apply zad) | exact HB.out)))); have n2_ := zaa.mk (zag (by repeat (first | (with_reducible first | exact HB.out | apply zac | apply zab | apply zad) | exact HB.out)) hb); clear HO395; clear HB; have HO395 := n0_; have HO398 := n1_; have HB := n2_; clear n0_ n1_ n2_; clear hb ho16))
    go_ret3
    exact ⟨_, _, by first | rfl | (simp [zak, zaj] <;> rfl) | (simp [*, zak, zaj] <;> rfl), by (with_reducible repeat (first | apply Kd.R_alloc | apply Kd.R_drewN | apply Kd.R_drew)); exact Kd.R_mono HO395.out (fun _ hk => hk.2), by (with_reducible repeat (first | apply Kd.R_alloc | apply Kd.R_drewN | apply Kd.R_drew)); exact Kd.R_mono HO398.out (fun _ hk => hk.2), by repeat (first | (with_reducible first | exact HB.out | apply zac | apply zab | apply zad) | exact HB.out)⟩
   ·replace c12 := Bool.eq_false_iff.mpr c12
    subst c12
    have H1 : ((spec_l2Walls.f kj2 l0).bind fun t399 => (if 0 ≤ a1 then (if a1 < (t399.length : Int) then ((spec_l2Sides.f kj2 l0 (zbi t399 a1)).bind fun bt403 => (some (bt403.1, bt403.2, true))) else (none)) else (none))) = some (r1, r2, r3) := by rw [if_neg (show ¬ (false = true) by decide)] at H; exact H
    clear H
    have H := H1
    clear H1
    replace H := Option.bind_eq_some_iff.mp H
    obtain ⟨t399, A170, H⟩ := H
    replace H : (if 0 ≤ a1 then (if a1 < (t399.length : Int) then ((spec_l2Sides.f kj2 l0 (zbi t399 a1)).bind fun bt403 => (some (bt403.1, bt403.2, true))) else (none)) else (none)) = some (r1, r2, r3) := H
    have A17 := zaa.mk A170
    clear A170
    by_cases c18 : 0 ≤ a1
    ·rw [if_pos c18] at H
     have c18b0 : decide (0 ≤ a1) = true := decide_eq_true c18
     clear c18
     by_cases c19 : a1 < (t399.length : Int)
     ·rw [if_pos c19] at H
      have c19b0 : decide (a1 < (t399.length : Int)) = true := decide_eq_true c19
      clear c19
      replace H := Option.bind_eq_some_iff.mp H
      obtain ⟨⟨t403, t404⟩, A200, H⟩ := H
      replace H : (some (t403, t404, true)) = some (r1, r2, r3) := H
      have A20 := zaa.mk A200
      clear A200
      simp only [Option.some.injEq, Prod.mk.injEq] at H
      obtain ⟨rfl, rfl, rfl⟩ := H
      go_wp2_with (first | ((with_reducible refine zai (f := 53) rfl ?_); refine zbc (some 26) rfl rfl Try.func53 (by kernel_rfl) rfl #[.slice A0 l0.length c0] rfl (by (try simp only [List.map_toArray, List.map_cons, List.map_nil]); first | done | rfl | (simp only [List.length_drop, List.length_take]; rfl)) ?_; (with_reducible refine (spec_l2Walls.calls kj2 _ _ l0 t399 _ ?side1 ?side2 A17.out).mono ?_); (case side1 => repeat (first | exact (Kd.C_below HR0.out HB.out) | (with_reducible refine Kd.C_alloc ?_ _) | (with_reducible refine Kd.C_drewN ?_ _) | (with_reducible refine Kd.C_drew ?_))); (case side2 => exact HC0.out); rintro e w21 ⟨v400, rfl, ho0, hb⟩; refine ⟨_, rfl, ?_⟩; have n0_ := zaa.mk (Kd.S_lower ho0 (zae (by repeat (first | (with_reducible first | exact HB.out | apply zac | apply zab | apply zad) | exact HB.out)))); have n1_ := zaa.mk (zag (by repeat (first | (with_reducible first | exact HB.out | apply zac | apply zab | apply zad) | exact HB.out)) hb); clear HB; have HO401 := n0_; have HB := n1_; clear n0_ n1_; (try clear hb); (try clear hb2); (try clear hk); (try clear hi); (try clear ho0); obtain ⟨Ao22, co22, eo22⟩ := Kd.S_slice HO401.out; subst eo22; have p402 : 0 ≤ (a1 : Int) := of_decide_eq_true (by first | (with_reducible assumption) | assumption); have q402 : a1 < (t399.length : Int) := of_decide_eq_true (by first | (with_reducible assumption) | assumption); obtain ⟨ad402, A402_0, c402_0, e402, hx402_0, hl402_0, hi402_0⟩ := at_L3 (Kd.S_reads' HO401.out).2.2 a1 p402 q402; cases e402; obtain ⟨ce402, hce402, hMe402, hcc402⟩ := Kd.S_get HO401.out [] a1 p402 (by first | exact q402 | exact of_decide_eq_true (by first | (with_reducible assumption) | assumption) | (have e_ := (Kd.S_reads' HO401.out).1; omega)); obtain ⟨ve402_0, rfl, ge402_0⟩ := hMe402; have hv402_0 := hcc402 0 _ rfl; rw [Nat.add_zero, show ((Kd.slice 3 (Kd.int .i64))).sz = 1 from rfl, Nat.mul_one] at hv402_0; replace hv402_0 := Option.some.inj (hv402_0.symm.trans hx402_0); rw [hv402_0] at ge402_0; have HL402_0 := zaa.mk (show Kd.R (Kd.int .i64) 3 _ _ _ _ (zbi t399 a1) from ge402_0); clear hv402_0 ge402_0; clear hcc402 hce402; have HR402_0 := zaa.mk hi402_0; have HC402_0 := zaa.mk hl402_0; clear hi402_0 hl402_0; replace p402 := eq_true p402; replace q402 := eq_true q402) | ((with_reducible refine zai (f := 60) rfl ?_); refine zbc (some 30) rfl rfl Try.func60 (by kernel_rfl) rfl #[.slice A0 l0.length c0, .slice A402_0 (zbi t399 a1).length c402_0] rfl (by (try simp only [List.map_toArray, List.map_cons, List.map_nil]); first | done | rfl | (simp only [List.length_drop, List.length_take]; rfl)) ?_; (with_reducible refine (spec_l2Sides.calls kj2 _ _ l0 _ _ (zbi t399 a1) t403 t404 _ ?side1 ?side2 ?side3 ?side4 A20.out).mono ?_); (case side1 => repeat (first | exact (Kd.C_below HR0.out HB.out) | (with_reducible refine Kd.C_alloc ?_ _) | (with_reducible refine Kd.C_drewN ?_ _) | (with_reducible refine Kd.C_drew ?_))); (case side2 => exact HC0.out); (case side3 => repeat (first | exact (by repeat (first | (with_reducible exact HR402_0.out) | (with_reducible refine Kd.C_alloc ?_ _) | (with_reducible refine Kd.C_drewN ?_ _) | (with_reducible refine Kd.C_drew ?_) | exact HR402_0.out)) | (with_reducible refine Kd.C_alloc ?_ _) | (with_reducible refine Kd.C_drewN ?_ _) | (with_reducible refine Kd.C_drew ?_))); (case side4 => exact HC402_0.out); rintro e w23 ⟨v405, v407, rfl, ho0, ho1, hb⟩; refine ⟨_, rfl, ?_⟩; have n0_ := zaa.mk (Kd.S_mono (Kd.S_told (Kd.S_told (Kd.S_old (by (with_reducible repeat (first | apply Kd.S_alloc | apply Kd.S_drewN | apply Kd.S_drew)); exact HO401.out) hb) (Kd.R_base ho0)) (Kd.R_base ho1)) (fun _ h_ => h_.1)); have n1_ := zaa.mk (Kd.R_mono (Kd.R_told (Kd.R_told (Kd.R_old (by (with_reducible repeat (first | apply Kd.R_alloc | apply Kd.R_drewN | apply Kd.R_drew)); exact HL402_0.out) hb) (Kd.R_base ho0)) (Kd.R_base ho1)) (fun _ h_ => h_.1)); have n2_ := zaa.mk (Kd.R_lower (Kd.R_new' ho0 (Kd.R_lt (by (with_reducible repeat (first | apply Kd.R_alloc | apply Kd.R_drewN | apply Kd.R_drew)); exact HL402_0.out))) (zae (by repeat (first | (with_reducible first | exact HB.out | apply zac | apply zab | apply zad) | exact HB.out)))); have n3_ := zaa.mk (Kd.R_lower (Kd.R_new' ho1 (Kd.R_lt (by (with_reducible repeat (first | apply Kd.R_alloc | apply Kd.R_drewN | apply Kd.R_drew)); exact HL402_0.out))) (zae (by repeat (first | (with_reducible first | exact HB.out | apply zac | apply zab | apply zad) | exact HB.out)))); have n4_ := zaa.mk (Kd.C_below (by repeat (first | (with_reducible exact HR402_0.out) | (with_reducible refine Kd.C_alloc ?_ _) | (with_reducible refine Kd.C_drewN ?_ _) | (with_reducible refine Kd.C_drew ?_) | exact HR402_0.out)) hb); have n5_ := zaa.mk (zag (by repeat (first | (with_reducible first | exact HB.out | apply zac | apply zab | apply zad) | exact HB.out)) hb); clear HO401; clear HL402_0; clear HR402_0; clear HB; have HO401 := n0_; have HL402_0 := n1_; have HO406 := n2_; have HO408 := n3_; have HR402_0 := n4_; have HB := n5_; clear n0_ n1_ n2_ n3_ n4_ n5_; (try clear hb); (try clear hb2); (try clear hk); (try clear hi); (try clear ho0); (try clear ho1)))
      go_ret3
      exact ⟨_, _, by first | rfl | (simp [zak, zaj] <;> rfl) | (simp [*, zak, zaj] <;> rfl), by (with_reducible repeat (first | apply Kd.R_alloc | apply Kd.R_drewN | apply Kd.R_drew)); exact Kd.R_mono HO406.out (fun _ hk => hk.1), by (with_reducible repeat (first | apply Kd.R_alloc | apply Kd.R_drewN | apply Kd.R_drew)); exact Kd.R_mono HO408.out (fun _ hk => hk.1), by repeat (first | (with_reducible first | exact HB.out | apply zac | apply zab | apply zad) | exact HB.out)⟩
     ·rw [if_neg c19] at H
      exact absurd H (by simp)
    ·rw [if_neg c18] at H
     exact absurd H (by simp)
end Go.Proofs.Ytoijjkhdfooapaa.PB
namespace Go.Proofs.Ytoijjkhdfooapaa.Hd
open Go.RowKit Go.PW.PrintWords Go.PW.PrintLast Go.PW.PrintMore
def BRow (W : World) (base : Nat) (g : Nat) (cap : Nat) (e : TypeId) (xs : List Int) : Prop :=
 ∃ (cur : Array Value), base ≤ g ∧ W.heap[g]? = some (.cells cur e (cur.size, cur.size + 1)) ∧ xs.length ≤ cur.size ∧ cur.toList.take xs.length = nums .u8 xs
section
variable {W : World} {base g cap : Nat} {e : TypeId} {xs : List Int}
theorem BRow.cell (h : BRow W base g cap e xs) (i : Nat) (hi : i < xs.length) : W.cell? ⟨g, i, none⟩ = some (.int .u8 (xs.getD i 0)) ∧ W.frozen? ⟨g, i, none⟩ = false := by
 obtain ⟨cur, hb, hg, hl, ht⟩ := h
 have h1 : cur.toList[i]? = some (.int .u8 (xs.getD i 0)) := by
  have h2 : (cur.toList.take xs.length)[i]? = some (.int .u8 (xs.getD i 0)) := by
   rw [ht]; simp [nums, List.getD_eq_getElem?_getD, hi]
  rw [List.getElem?_take] at h2
  simpa [hi] using h2
 constructor
 ·simp only [World.cell?, hg]
  simpa using h1
 ·have : ¬ cur.size ≤ i := by omega
  simp [World.frozen?, hg, this]
theorem BRow.set (h : BRow W base g cap e xs) (i : Nat) (x : Int) : BRow (W.setCell ⟨g, i, none⟩ (.int .u8 x)) base g cap e (xs.set i x) := by
 obtain ⟨cur, hb, hg, hl, ht⟩ := h
 refine ⟨cur.setIfInBounds i (.int .u8 x), hb, ?_, ?_, ?_⟩
 ·simp [World.setCell, Array.getElem?_modify, hg]
 ·simpa using hl
 ·rw [Array.toList_setIfInBounds, List.length_set, List.take_set, ht]
  simp [nums]
theorem BRow.lt (h : BRow W base g cap e xs) : g < W.heap.size := by
 obtain ⟨cur, hb, hg, hl, ht⟩ := h
 exact (Array.getElem?_eq_some_iff.1 hg).1
theorem BRow.move (h : BRow W base g cap e xs) {W1 : World} (hm : W1.heap[g]? = W.heap[g]?) : BRow W1 base g cap e xs := by
 obtain ⟨cur, hb, hg, hl, ht⟩ := h
 exact ⟨cur, hb, hm.trans hg, hl, ht⟩
theorem BRow.reads (h : BRow W base g cap e xs) (hm : xs.length ≤ 9223372036854775807) : (Kd.int .u8).C W (some ⟨g, 0, none⟩) xs.length xs := by
 refine ⟨rfl, hm, fun _ => ⟨_, rfl, fun j p hj => ?_⟩⟩
 have hjl := (List.getElem?_eq_some_iff.1 hj).1
 refine ⟨[.int .u8 p], rfl, rfl, fun i u hu => ?_⟩
 have hi : i = 0 := by
  rcases Nat.eq_zero_or_pos i with h0 | h0
  ·exact h0
  ·rw [List.getElem?_eq_none (by simp; omega)] at hu; cases hu
 subst hi
 have hu' : Value.int .u8 p = u := by simpa using hu
 subst hu'
 have h1 := (h.cell j hjl).1
 rw [List.getD_eq_getElem?_getD, hj] at h1
 show W.cell? ((⟨g, 0, none⟩ : Addr).add (j * 1 + 0)) = _
 rw [Nat.mul_one, Nat.add_zero, add_plain]
 exact h1
end
theorem R_typesF {α : Type} {d : Kd α} {e : Nat} {w : World} {base : Nat} {ok : Nat → Prop} {v : Value} {xs : List α} (h : d.R e w base ok v xs) {g t : Nat} {cells : Array Value} {fz : Nat × Nat} (hb : w.heap[g]? = some (.cells cells t fz)) (ht : ∀ q, q ∈ e :: d.E → q ≠ t) : d.R e w base (fun k => ok k ∧ k ≠ g) v xs :=
 Kd.R_mono (Kd.R_bound h) (fun k hk => ⟨hk.1, by
  obtain ⟨_, _, _, q, hq, cells', hc⟩ := hk
  rintro rfl
  rw [hc] at hb
  injection hb with hb
  injection hb with _ hb
  exact ht q hq hb⟩)
theorem R_setF {α : Type} {d : Kd α} {e : Nat} {w : World} {base : Nat} {ok : Nat → Prop} {v : Value} {xs : List α} (h : d.R e w base ok v xs) {g t : Nat} {cells : Array Value} {fz : Nat × Nat} (hb : w.heap[g]? = some (.cells cells t fz)) (ht : ∀ q, q ∈ e :: d.E → q ≠ t) (j : Nat) (u : Value) : d.R e (w.setCell ⟨g, j, none⟩ u) base ok v xs :=
 Kd.R_mono (Kd.R_far (p := ⟨g, j, none⟩) (R_typesF h hb ht) (fun _ hk => hk.2) u) (fun _ hk => hk.1)
section
variable {P : Program} {ops : Array Oper} {rest : List Oper} {o : Oper} {a : Act} {Q : Exit → Act → World → Prop}
theorem conv_event {W : World} (hgd : o.guard = none) {N : Tmp} (_hd : o.dst = some N) {src dst e : TypeId} {x : Operand} {s : ByteArray} {u : TypeDesc} (ho : o.op = .convert src dst x) (hx : a.eval x = .string s)
  (hs : P.underlying src = some u) (hdst : P.underlying dst = some (.slice e)) (he : P.underlying e = some (.int .u8))
  (h : ∀ g cap w1, g = W.heap.size → BRow w1 W.heap.size g cap e (zaz s) → Below W.heap.size W w1 → wpList P ops Q rest (a.put o.dst (.slice (some ⟨g, 0, none⟩) s.size cap)) w1) : wpList P ops Q (o :: rest) a W := by
 refine Kd.event_run hgd (w1 := Lib.bytesWorld W e s) ?_ (h W.heap.size (grownCap W s.size 0 e) _ rfl ?_ ?_)
 ·simp only [execOp, ho, hx]
  have := Lib.run_convert_string_bytes (P := P) W src dst e s hs hdst he
  simp [this]
 ·refine ⟨Lib.bytesCells W e s, Nat.le_refl _, Lib.bytesWorld_at_new W e s, ?_, ?_⟩
  ·simp [Lib.bytesCells, zaz]
  ·simp [Lib.bytesCells, zaz, nums]
 ·refine ⟨?_, ?_, ?_, ?_, fun k hk => Lib.bytesWorld_at_old W e s k hk⟩
  ·simp [Lib.bytesWorld, World.freeze, World.alloc, World.drew, -World.alloc_eq, -World.drew_eq]
  ·simp [Lib.bytesWorld, World.freeze, World.alloc, World.drew, -World.alloc_eq, -World.drew_eq]
  ·simp [Lib.bytesWorld, World.freeze, World.alloc, World.drew, -World.alloc_eq, -World.drew_eq]
  ·rw [Lib.bytesWorld_size]; omega
end
end Go.Proofs.Ytoijjkhdfooapaa.Hd
namespace Go.Proofs.Ytoijjkhdfooapaa.Hd
open Go.RowKit Go.PW.PrintWords Go.PW.PrintLast Go.PW.PrintMore Go.Proofs.Ytoijjkhdfooapaa.PB
section
variable {P : Program} {ops : Array Oper} {Q : Exit → Act → World → Prop}
theorem goesv_ {oi : Oper} {N : Option Tmp} {a : Act} {w : World} {K : Act → World → Prop} {f : FuncId} {fn : Func} {x : Operand} {captured : Array Value} {xs_ : Array Operand} {ts : Array TypeId} (hf : P.funcs[f]? = some fn) (hname : (fn.name == "runtime.NumGoroutine") = false) (hb : fn.body.isSome = true) (args : Array Value)
  (hw : Region.wanted oi (yielded ops a.tmps) = true) (hN : oi.dst = N) (hop : oi.op = .call { callee := .value x, args := xs_, argTypes := ts }) (hx : a.eval x = .func (.func f) #[] captured) (hargs : xs_.map a.eval = args)
  (h : Calls P f (args ++ captured) w fun e w' => ∃ v, e = .returned v ∧ K (a.put N v) w') : if Region.wanted oi (yielded ops a.tmps) = true then Oper.wp P oi a w K Q else K (a.put N undef) w := by
 refine call_ f (args ++ captured) hw hN ?_ h
 have he := enters_ hf hname hb (args ++ captured) w
 unfold execOp
 simp [hop, resolve, Deferred.ofValue, invoke, hx, hargs, he]
theorem goesvL_ {rest : List Oper} {oi : Oper} {a : Act} {w : World} (N : Option Tmp) (hd : oi.dst = N) (hg : oi.guard = none) {f : FuncId} {fn : Func} {x : Operand} {captured : Array Value} {xs_ : Array Operand} {ts : Array TypeId} (hf : P.funcs[f]? = some fn) (hname : (fn.name == "runtime.NumGoroutine") = false) (hb : fn.body.isSome = true) (args : Array Value)
  (hop : oi.op = .call { callee := .value x, args := xs_, argTypes := ts }) (hx : a.eval x = .func (.func f) #[] captured) (hargs : xs_.map a.eval = args)
  (h : Calls P f (args ++ captured) w fun e w' => ∃ v, e = .returned v ∧ wpList P ops Q rest (a.put N v) w') : wpList P ops Q (oi :: rest) a w := by
 refine wpList_plain hg fun K hK => ?_
 have he := enters_ hf hname hb (args ++ captured) w
 have hrun : (execOp a.eval oi).run P w = .ok (.enter f (args ++ captured)) w := by
  unfold execOp
  simp [hop, resolve, Deferred.ofValue, invoke, hx, hargs, he]
 unfold Oper.wp
 rw [hrun, Oper.upon_enter]
 refine h.mono fun e w'' hh => ?_
 obtain ⟨v, rfl, hk⟩ := hh
 subst hd
 exact hK _ _ hk
end
theorem zip_at {α β : Type} {xs : List α} {ys : List β} {i : Nat} {x : α} {y : β} (hx : xs[i]? = some x) (hy : ys[i]? = some y) : (xs.zip ys)[i]? = some (x, y) := by
 simp [List.zip, List.getElem?_zipWith, hx, hy]
theorem nodup_at {xs : List Nat} (h : xs.Nodup) {i k x : Nat} (hi : xs[i]? = some x) (hk : xs[k]? = some x) : i = k := by
 induction xs generalizing i k with
 | nil => simp at hi
 | cons a r ih =>
  rw [List.nodup_cons] at h
  cases i with
  | zero =>
   cases k with
   | zero => rfl
   | succ k =>
    simp at hi hk
    subst hi
    exact absurd (List.mem_of_getElem? hk) h.1
  | succ i =>
   cases k with
   | zero =>
    simp at hi hk
    subst hk
    exact absurd (List.mem_of_getElem? hi) h.1
   | succ k =>
    simp at hi hk
    rw [ih h.2 hi hk]
def rowV (p : Nat × List Int) : Value := .slice (some ⟨p.1, 0, none⟩) p.2.length p.2.length
structure MatAt (W : World) (g n : Nat) (bs : List Nat) (rows : List (List Int)) : Prop where
 len : bs.length = rows.length
 top : W.heap[g]? = some (.cells ((bs.zip rows).map rowV ++ List.replicate (n - rows.length) (Value.slice none 0 0)).toArray 34 (0, 0))
 row : ∀ (i : Nat) (b : Nat) (r : List Int), bs[i]? = some b → rows[i]? = some r → W.heap[b]? = some (.cells (r.map (Value.int .i64)).toArray 3 (0, 0))
 nodup : (g :: bs).Nodup
theorem MatAt.move {W W1 : World} {g n : Nat} {bs : List Nat} {rows : List (List Int)} (h : MatAt W g n bs rows) (hm : ∀ k, k ∈ g :: bs → W1.heap[k]? = W.heap[k]?) : MatAt W1 g n bs rows :=
 ⟨h.len, (hm g List.mem_cons_self).trans h.top, fun i b r hb hr => (hm b (List.mem_cons_of_mem _ (List.mem_of_getElem? hb))).trans (h.row i b r hb hr), h.nodup⟩
theorem MatAt.lt {W : World} {g n : Nat} {bs : List Nat} {rows : List (List Int)} (h : MatAt W g n bs rows) : ∀ k, k ∈ g :: bs → k < W.heap.size := by
 intro k hk
 rcases List.mem_cons.1 hk with rfl | hk
 ·exact (Array.getElem?_eq_some_iff.1 h.top).1
 ·obtain ⟨i, hi, rfl⟩ := List.getElem_of_mem hk
  have hr : i < rows.length := by rw [← h.len]; exact hi
  exact (Array.getElem?_eq_some_iff.1 (h.row i _ _ (List.getElem?_eq_getElem hi) (List.getElem?_eq_getElem hr))).1
theorem MatAt.topCell {W : World} {g n : Nat} {bs : List Nat} {rows : List (List Int)} (h : MatAt W g n bs rows) (i : Nat) (b : Nat) (r : List Int) (hb : bs[i]? = some b) (hr : rows[i]? = some r) : W.cell? ⟨g, i, none⟩ = some (.slice (some ⟨b, 0, none⟩) r.length r.length) := by
 simp only [World.cell?, h.top]
 have h1 : ((bs.zip rows).map rowV)[i]? = some (rowV (b, r)) := by
  rw [List.getElem?_map, zip_at hb hr]; rfl
 have h2 := (List.getElem?_eq_some_iff.1 h1).1
 simp only [Option.isSome_none, Bool.false_eq_true, if_false]
 rw [List.getElem?_toArray, List.getElem?_append_left h2, h1]
 rfl
theorem MatAt.rowCell {W : World} {g n : Nat} {bs : List Nat} {rows : List (List Int)} (h : MatAt W g n bs rows) (i j : Nat) (b : Nat) (r : List Int) (x : Int) (hb : bs[i]? = some b) (hr : rows[i]? = some r) (hx : r[j]? = some x) : W.cell? ⟨b, j, none⟩ = some (.int .i64 x) ∧ W.frozen? ⟨b, j, none⟩ = false := by
 have h1 := h.row i b r hb hr
 refine ⟨?_, by simp [World.frozen?, h1]⟩
 simp only [World.cell?, h1]
 simp [hx]
theorem MatAt.reads {W : World} {g n : Nat} {bs : List Nat} {rows : List (List Int)} (h : MatAt W g n bs rows) (hn : rows.length ≤ 1048576) (hm : ∀ r ∈ rows, r.length ≤ 1048576) : (Kd.slice 3 (Kd.int .i64)).C W (some ⟨g, 0, none⟩) rows.length rows := by
 refine ⟨rfl, by omega, fun _ => ⟨_, rfl, fun i r hr => ?_⟩⟩
 have hi := (List.getElem?_eq_some_iff.1 hr).1
 obtain ⟨b, hb⟩ : ∃ b, bs[i]? = some b := ⟨_, List.getElem?_eq_getElem (by rw [h.len]; exact hi)⟩
 have hrl := hm r (List.mem_of_getElem? hr)
 refine ⟨[.slice (some ⟨b, 0, none⟩) r.length r.length], rfl, ⟨_, _, rfl, Nat.le_refl _, rfl, by omega, fun _ => ⟨_, rfl, fun j x hx => ?_⟩⟩, fun k u hu => ?_⟩
 ·refine ⟨[.int .i64 x], rfl, rfl, fun k u hu => ?_⟩
  have hk : k = 0 := by
   rcases Nat.eq_zero_or_pos k with h0 | h0
   ·exact h0
   ·rw [List.getElem?_eq_none (by simp; omega)] at hu; cases hu
  subst hk
  have hu' : Value.int .i64 x = u := by simpa using hu
  subst hu'
  show W.cell? ((⟨b, 0, none⟩ : Addr).add (j * 1 + 0)) = _
  rw [Nat.mul_one, Nat.add_zero, add_plain]
  exact (h.rowCell i j b r x hb hr hx).1
 ·have hk : k = 0 := by
   rcases Nat.eq_zero_or_pos k with h0 | h0
   ·exact h0
   ·rw [List.getElem?_eq_none (by simp; omega)] at hu; cases hu
  subst hk
  have hu' : Value.slice (some ⟨b, 0, none⟩) r.length r.length = u := by simpa using hu
  subst hu'
  show W.cell? ((⟨g, 0, none⟩ : Addr).add (i * 1 + 0)) = _
  rw [Nat.mul_one, Nat.add_zero, add_plain]
  exact h.topCell i b r hb hr
theorem MatAt.set {W : World} {g n : Nat} {bs : List Nat} {rows : List (List Int)} (h : MatAt W g n bs rows) (i j : Nat) (b : Nat) (r : List Int) (x : Int) (hb : bs[i]? = some b) (hr : rows[i]? = some r) : MatAt (W.setCell ⟨b, j, none⟩ (.int .i64 x)) g n bs (rows.set i (r.set j x)) := by
 have hbm : b ∈ bs := List.mem_of_getElem? hb
 have hgb : g ≠ b := fun e => (List.nodup_cons.1 h.nodup).1 (e ▸ hbm)
 have hil := (List.getElem?_eq_some_iff.1 hb).1
 have hrl := (List.getElem?_eq_some_iff.1 hr).1
 refine ⟨by rw [List.length_set]; exact h.len, ?_, fun k b' r' hb' hr' => ?_, h.nodup⟩
 ·rw [Below.heap_setCell _ _ _ _ hgb, h.top, List.length_set]
  have h1 : (bs.zip (rows.set i (r.set j x))).map rowV = (bs.zip rows).map rowV := by
   apply List.ext_getElem?
   intro k
   simp only [List.getElem?_map]
   by_cases hk : i = k
   ·subst hk
    rw [zip_at hb hr, zip_at hb (List.getElem?_set_self hrl)]
    simp [rowV]
   ·congr 1
    simp only [List.zip, List.getElem?_zipWith, List.getElem?_set_ne hk]
  rw [h1]
 ·by_cases hk : i = k
  ·subst hk
   rw [hb] at hb'
   obtain rfl := Option.some.inj hb'
   rw [List.getElem?_set_self hrl] at hr'
   obtain rfl := Option.some.inj hr'
   have h1 := h.row i b r hb hr
   simp only [World.setCell, Array.getElem?_modify, if_true]
   rw [h1]
   simp [List.map_set]
  ·have hne : b' ≠ b := fun e => by
    subst e
    exact hk (nodup_at (List.nodup_cons.1 h.nodup).2 hb hb')
   rw [Below.heap_setCell _ _ _ _ hne]
   rw [List.getElem?_set_ne hk] at hr'
   exact h.row k b' r' hb' hr'
theorem MatAt.push {W W1 : World} {g n b : Nat} {bs : List Nat} {rows : List (List Int)} {r : List Int} (h : MatAt W g n bs rows) (hk : rows.length < n) (hb : ∀ k, k ∈ g :: bs → k ≠ b)
  (htop : W1.heap[g]? = some (.cells ((((bs.zip rows).map rowV ++ List.replicate (n - rows.length) (Value.slice none 0 0)).set rows.length (rowV (b, r))).toArray) 34 (0, 0)))
  (hrow : W1.heap[b]? = some (.cells (r.map (Value.int .i64)).toArray 3 (0, 0))) (hm : ∀ k, k ∈ bs → W1.heap[k]? = W.heap[k]?) : MatAt W1 g n (bs ++ [b]) (rows ++ [r]) := by
 refine ⟨by simp [h.len], ?_, fun i b' r' hb' hr' => ?_, ?_⟩
 ·rw [htop]
  congr 3
  have h1 : ((bs.zip rows).map rowV).length = rows.length := by simp [h.len]
  rw [List.set_append_right _ _ (by omega), h1, Nat.sub_self, List.zip_append h.len, List.map_append, List.append_assoc]
  congr 1
  obtain ⟨m, hm⟩ : ∃ m, n - rows.length = m + 1 := ⟨n - rows.length - 1, by omega⟩
  rw [hm, List.replicate_succ, List.set_cons_zero, List.length_append, List.length_singleton, show n - (rows.length + 1) = m by omega]
  rfl
 ·rcases Nat.lt_or_ge i rows.length with hi | hi
  ·rw [List.getElem?_append_left (by rw [h.len]; exact hi)] at hb'
   rw [List.getElem?_append_left hi] at hr'
   rw [hm b' (List.mem_of_getElem? hb')]
   exact h.row i b' r' hb' hr'
  ·have : i = rows.length := by
    have := (List.getElem?_eq_some_iff.1 hr').1
    simp at this
    omega
   subst this
   rw [← h.len] at hb'
   simp at hb' hr'
   subst hb'; subst hr'
   exact hrow
 ·have h0 := h.nodup
  rw [← List.cons_append, List.nodup_append]
  exact ⟨h0, by simp, fun a ha c hc => by
   simp at hc
   subst hc
   exact hb a ha⟩
end Go.Proofs.Ytoijjkhdfooapaa.Hd
namespace Go.Proofs.Ytoijjkhdfooapaa.Hd
open Go.RowKit Go.PW.PrintWords Go.PW.PrintLast Go.PW.PrintMore Go.Proofs.Ytoijjkhdfooapaa.PB
theorem C_row {α : Type} {d : Kd α} {e : Nat} {w : World} {A : Option Addr} {n : Nat} {xs : List (List α)} (h : (Kd.slice e d).C w A n xs) (i : Nat) (x : List α) (hx : xs[i]? = some x) :
  ∃ ad Ai ci, A = some ad ∧ w.cell? (ad.add i) = some (.slice Ai x.length ci) ∧ x.length ≤ ci ∧ d.C w Ai x.length x := by
 have hi := (List.getElem?_eq_some_iff.1 hx).1
 obtain ⟨ad, e1, hc⟩ := h.2.2 (by have := h.1; omega)
 obtain ⟨c, hs, ⟨Ai, ci, rfl, hl, hr⟩, hcell⟩ := hc i x hx
 refine ⟨ad, Ai, ci, e1, ?_, hl, hr⟩
 have := hcell 0 (.slice Ai x.length ci) rfl
 simpa [Kd.slice] using this
theorem C_len {α : Type} {d : Kd α} {w : World} {A : Option Addr} {n : Nat} {xs : List α} (h : d.C w A n xs) : xs.length = n ∧ n ≤ 9223372036854775807 := ⟨h.1, h.2.1⟩
def PredFn (P : Program) (f : FuncId) (caps : Array Value) (w : World) (p : List Int → Bool) : Prop :=
 ∀ (W : World) (row : List Int) (A : Option Addr) (c : Nat), Below w.heap.size w W → (Kd.int .i64).C W A row.length row → row.length ≤ c → Calls P f (#[.slice A row.length c] ++ caps) W fun e W' => e = .returned (.bool (p row)) ∧ Below W.heap.size W W'
def IndexPost (w : World) (rows : List (List Int)) (p : List Int → Bool) (e : Ending) (w' : World) : Prop := ∃ i : Int, e = .returned (.int .i64 i) ∧ decide (0 ≤ i) = rows.any p ∧ Below w.heap.size w w'
set_option maxHeartbeats 4000000 in
set_option maxRecDepth 100000 in
theorem index_calls (f : FuncId) (fn : Func) (hf : Try.prog.funcs[f]? = some fn) (hname : (fn.name == "runtime.NumGoroutine") = false) (hb : fn.body.isSome = true) (caps : Array Value) (p : List Int → Bool) (A0 : Option Addr) (c0 : Nat) (rows : List (List Int)) (w : World)
  (hr0 : (Kd.slice 3 (Kd.int .i64)).C w A0 rows.length rows) (hp : PredFn Try.prog f caps w p) :
  Calls Try.prog 123 #[.slice A0 rows.length c0, .func (.func f) #[] caps] w (IndexPost w rows p) := by
 have hn := (C_len hr0).2
 have HR0 := zaa.mk hr0
 have HP := zaa.mk hp
 have HF := zaa.mk hf
 have HN := zaa.mk hname
 have HBd := zaa.mk hb
 clear hr0 hp hf hname hb
 have b1 : (rows.length : Int) ≤ 9223372036854775807 := by omega
 go_enter Try.func123, Try.ntmps123
 go_wp2
 go_loopg [8] rows.length (fun kq v8 w' => ∃ i : Nat, v8 = .int .i64 (i : Int) ∧ zaa (i + kq = rows.length) ∧ zaa ((rows.take i).any p = false) ∧ zaa (Below w.heap.size w w'))
 case atStart => exact ⟨0, rfl, ⟨by omega⟩, ⟨by simp⟩, ⟨Below.refl _ _⟩⟩
 case round =>
  obtain ⟨i, rfl, HK, HA, HB⟩ := hrel
  by_cases hi : i < rows.length
  ·have hlt : (i : Int) < rows.length := by omega
   have hi0 : (0 : Int) ≤ i := by omega
   obtain ⟨row, hrow⟩ : ∃ row, rows[i]? = some row := ⟨_, List.getElem?_eq_getElem hi⟩
   obtain ⟨ad, Ai, ci, e1, hx, hl, hr⟩ := C_row HR0.out i row hrow
   cases e1
   replace hx := zal HB.out hx
   have HRi := zaa.mk (Kd.C_below hr HB.out)
   have HLi := zaa.mk hl
   have HRow := zaa.mk hrow
   have HT := zaa.mk (show (rows.take (i + 1)).any p = p row by
    rw [List.take_add_one, hrow, List.any_append, HA.out]; simp)
   clear hr hl hrow
   generalize hpv : p row = b at HT
   have HPV := zaa.mk hpv
   clear hpv
   cases b
   ·go_wp2_with (first | ((with_reducible refine zaw (N := 16) rfl ?_); refine goesvL_ (some 16) rfl rfl HF.out HN.out HBd.out #[.slice Ai row.length ci] rfl rfl (by (try simp only [List.map_toArray, List.map_cons, List.map_nil]); first | done | rfl) ?_; refine (HP.out _ row Ai ci HB.out HRi.out HLi.out).mono ?_; rintro e w8 ⟨rfl, hb8⟩; rw [HPV.out]; refine ⟨_, rfl, ?_⟩; have HB8 := zaa.mk (zag HB.out hb8); clear hb8))
    go_roundg (rows.length - (i + 1))
    case measure => have := HK.out; omega
    case rel => exact ⟨i + 1, by first | rfl | (congr 1; omega), ⟨by have := HK.out; omega⟩, HT, HB8⟩
   ·go_wp2_with (first | ((with_reducible refine zaw (N := 16) rfl ?_); refine goesvL_ (some 16) rfl rfl HF.out HN.out HBd.out #[.slice Ai row.length ci] rfl rfl (by (try simp only [List.map_toArray, List.map_cons, List.map_nil]); first | done | rfl) ?_; refine (HP.out _ row Ai ci HB.out HRi.out HLi.out).mono ?_; rintro e w8 ⟨rfl, hb8⟩; rw [HPV.out]; refine ⟨_, rfl, ?_⟩; have HB8 := zaa.mk (zag HB.out hb8); clear hb8))
    go_ret
    refine ⟨i, rfl, ?_, HB8.out⟩
    rw [decide_eq_true (by omega), ← List.take_append_drop (i + 1) rows, List.any_append, HT.out]
    rfl
  ·have hge : ¬ (i : Int) < rows.length := by omega
   obtain rfl : i = rows.length := by have := HK.out; omega
   go_wp2
   go_ret
   refine ⟨-1, rfl, ?_, HB.out⟩
   have := HA.out
   rw [List.take_length] at this
   rw [this]
   rfl
set_option maxHeartbeats 4000000 in
set_option maxRecDepth 100000 in
theorem contains_calls (f : FuncId) (fn : Func) (hf : Try.prog.funcs[f]? = some fn) (hname : (fn.name == "runtime.NumGoroutine") = false) (hb : fn.body.isSome = true) (caps : Array Value) (p : List Int → Bool) (A0 : Option Addr) (c0 : Nat) (rows : List (List Int)) (w : World)
  (hr0 : (Kd.slice 3 (Kd.int .i64)).C w A0 rows.length rows) (hp : PredFn Try.prog f caps w p) :
  Calls Try.prog 113 #[.slice A0 rows.length c0, .func (.func f) #[] caps] w fun e w' => e = .returned (.bool (rows.any p)) ∧ Below w.heap.size w w' := by
 have H := zaa.mk (index_calls f fn hf hname hb caps p A0 c0 rows w hr0 hp)
 clear hr0 hp hf hname hb
 generalize hv : rows.any p = v
 have HV := zaa.mk hv
 clear hv
 go_enter Try.func113, Try.ntmps113
 go_wp2_with (first | (go_at_call 123; refine H.out.mono ?_; rintro e w8 ⟨i, rfl, hi, hb8⟩; rw [HV.out] at hi; have HB8 := zaa.mk hb8; clear hb8))
 go_ret
 exact ⟨by rw [← hi]; rfl, HB8.out⟩
set_option maxHeartbeats 4000000 in
set_option maxRecDepth 100000 in
theorem settled1_pred (w : World) (gw wide : Nat) (hw : w.cell? ⟨gw, 0, none⟩ = some (.int .i64 (wide : Int))) (hwl : wide ≤ 1048576) : PredFn Try.prog 114 #[.pointer (some ⟨gw, 0, none⟩)] w (fun row => row.length != wide) := by
 intro W row A c hb hr hc
 have hx := zal hb hw
 have HB := zaa.mk hb
 have hrl := (C_len hr).2
 clear hb hw hr hc
 by_cases h : row.length = wide
 ·subst h
  show Calls _ _ #[.slice A row.length c, .pointer (some ⟨gw, 0, none⟩)] W _
  go_enter Try.func114, Try.ntmps114
  go_wp2
  go_ret
  exact ⟨by simp, Below.refl _ _⟩
 ·have hne : ((row.length : Int) != (wide : Int)) = true := by rw [bne_iff_ne]; omega
  have hne2 : (row.length != wide) = true := by rw [bne_iff_ne]; exact h
  rw [show (fun row : List Int => row.length != wide) row = true from hne2]
  show Calls _ _ #[.slice A row.length c, .pointer (some ⟨gw, 0, none⟩)] W _
  go_enter Try.func114, Try.ntmps114
  go_wp2
  go_ret
  exact ⟨by simp, Below.refl _ _⟩
open Go.Maps Go.WideMaps
def putPlace (D : DataW Unit) (p : Int × Nat) : DataW Unit := D.put (.int .i64 p.1) (.lit (.int .i64 (p.2 : Int)))
def mapD (ks : List Int) : DataW Unit := ks.zipIdx.foldl putPlace (.map [])
theorem mapD_snoc (ks : List Int) (x : Int) : mapD (ks ++ [x]) = (mapD ks).put (.int .i64 x) (.lit (.int .i64 (ks.length : Int))) := by
 simp [mapD, List.zipIdx_append, putPlace]
theorem list_snoc_ind {α : Type} {p : List α → Prop} (h0 : p []) (h1 : ∀ xs x, p xs → p (xs ++ [x])) : ∀ xs, p xs := by
 intro xs
 have : ∀ n (xs : List α), xs.length = n → p xs := by
  intro n
  induction n with
  | zero => intro xs h; rw [List.eq_nil_of_length_eq_zero h]; exact h0
  | succ n ih =>
   intro xs h
   have hne : xs ≠ [] := by intro e; rw [e] at h; simp at h
   rw [← List.dropLast_concat_getLast hne]
   exact h1 _ _ (ih _ (by simp [h]))
 exact this _ xs rfl
theorem mapD_isMap (ks : List Int) : IsMap (mapD ks) := by
 refine list_snoc_ind (p := fun ks => IsMap (mapD ks)) isMap_empty (fun xs x ih => ?_) ks
 rw [mapD_snoc]
 exact ih.put _ _
theorem key_ne {x y : Int} (h : x ≠ y) : (Lit.int .i64 x) ≠ Lit.int .i64 y := by
 intro e
 injection e with _ e
 exact h e
theorem mapD_has (ks : List Int) (x : Int) : has (mapD ks) (.int .i64 x) = decide (x ∈ ks) := by
 refine list_snoc_ind (p := fun ks => has (mapD ks) (.int .i64 x) = decide (x ∈ ks)) (by simp [mapD, has]) (fun xs y ih => ?_) ks
 rw [mapD_snoc]
 by_cases h : x = y
 ·subst h
  rw [has_put_same (mapD_isMap _) (show WideAt.IsKeyLit (.int .i64 _) from trivial)]
  simp
 ·rw [has_put_other (key_ne h), ih]
  simp [h]
theorem mapD_at (ks : List Int) (x : Int) (hn : ks.Nodup) : (mapD ks).atKey (.int .i64 x) (.lit (.int .i64 0)) = .lit (.int .i64 (if x ∈ ks then (ks.idxOf x : Int) else 0)) := by
 revert hn
 refine list_snoc_ind (p := fun ks => ks.Nodup → (mapD ks).atKey (.int .i64 x) (.lit (.int .i64 0)) = .lit (.int .i64 (if x ∈ ks then (ks.idxOf x : Int) else 0))) (fun _ => by simp [mapD, DataW.atKey]) (fun xs y ih hn => ?_) ks
 rw [mapD_snoc]
 have hn2 := List.nodup_append.1 hn
 by_cases h : x = y
 ·subst h
  rw [atKey_put_same (mapD_isMap _) (show WideAt.IsKeyLit (.int .i64 _) from trivial)]
  have hx : x ∉ xs := fun hx => hn2.2.2 x hx x (by simp) rfl
  rw [if_pos (by simp), List.idxOf_append, if_neg hx]
  simp
 ·rw [atKey_put_other (key_ne h), ih hn2.1]
  by_cases hx : x ∈ xs
  ·rw [if_pos hx, if_pos (by simp [hx]), List.idxOf_append, if_pos hx]
  ·rw [if_neg hx, if_neg (by simp [hx, h])]
structure IMap (W : World) (b : Nat) (ks : List Int) : Prop where
 own : W.ownsMap Try.prog 3 (plainElem (H := Unit) Try.prog 3) b ks.length (mapD ks)
 nodup : ks.Nodup
theorem keyed : Keyed Try.prog 3 := int_keyed Try.underlying3
theorem zeroI (w : World) : (zeroValue 3).run Try.prog w = .ok (.int .i64 0) w := by kernel_rfl
theorem wf_of {x : Int} (h0 : -9223372036854775808 ≤ x) (h1 : x ≤ 9223372036854775807) : (Lit.int .i64 x).wf = true := by
 simp only [Lit.wf, IntKind.min, IntKind.max, IntKind.signed, IntKind.bits, Bool.and_eq_true, decide_eq_true_eq, if_true]
 omega
theorem IMap.made (W : World) : IMap (W.alloc (.map #[] 0)) W.heap.size [] := ⟨World.ownsMap_made _ _ _ _, List.nodup_nil⟩
theorem IMap.move {W W' : World} {b : Nat} {ks : List Int} (h : IMap W b ks) (hm : W'.heap[b]? = W.heap[b]?) : IMap W' b ks := by
 obtain ⟨⟨es, clock, hb, F, hs, hD⟩, hn⟩ := h
 exact ⟨⟨es, clock, hm.trans hb, F, hs, hD⟩, hn⟩
theorem IMap.lt {W : World} {b : Nat} {ks : List Int} (h : IMap W b ks) : b < W.heap.size := h.own.lt
theorem IMap.notCells {W : World} {b : Nat} {ks : List Int} (h : IMap W b ks) {cs : Array Value} {t : TypeId} {fz : Nat × Nat} {g : Nat} (hg : W.heap[g]? = some (.cells cs t fz)) : b ≠ g := by
 obtain ⟨⟨es, clock, hb, F, hs, hD⟩, hn⟩ := h
 rintro rfl
 rw [hb] at hg
 cases hg
theorem IMap.look {W : World} {b : Nat} {ks : List Int} (h : IMap W b ks) (x : Int) (h0 : -9223372036854775808 ≤ x) (h1 : x ≤ 9223372036854775807) :
  (Instr.lookup 121 (.map (some b)) (.int .i64 x) true).run Try.prog W = .ok (.tuple #[.int .i64 (if x ∈ ks then (ks.idxOf x : Int) else 0), .bool (decide (x ∈ ks))]) W := by
 obtain ⟨v, ps, hrun, hv⟩ := h.own.look_ok keyed Try.underlying121 (zeroI W) (plainElem_int Try.underlying3 (by decide)) (keyOf_int_mk Try.underlying3 (wf_of h0 h1))
 rw [hrun, mapD_has]
 obtain ⟨c, rfl, hc, hwc⟩ := plainElem_int_inv Try.underlying3 hv
 rw [mapD_at _ _ h.nodup] at hc
 simp only [Prod.mk.injEq] at hc
 have h2 : (if x ∈ ks then (ks.idxOf x : Int) else 0) = c := by
  exact (Lit.int.inj (DataW.lit.inj hc.1)).2
 rw [h2]
theorem mapD_size {W : World} {b : Nat} {ks : List Int} (h : IMap W b ks) : size (mapD ks) = ks.length := by
 have hn := h.nodup
 clear h
 revert hn
 have hT : ∀ ks, Tidy (mapD ks) := fun ks => by
  refine list_snoc_ind (p := fun ks => Tidy (mapD ks)) tidy_empty (fun xs x ih => ?_) ks
  rw [mapD_snoc]
  exact ih.put (show WideAt.IsKeyLit (.int .i64 x) from trivial) _
 refine list_snoc_ind (p := fun ks => ks.Nodup → size (mapD ks) = ks.length) (fun _ => rfl) (fun xs y ih hn => ?_) ks
 have hn2 := List.nodup_append.1 hn
 have hy : y ∉ xs := fun hx => hn2.2.2 y hx y (by simp) rfl
 rw [mapD_snoc, size_put (hT _), mapD_has, ih hn2.1]
 simp [hy]
theorem IMap.len {W : World} {b : Nat} {ks : List Int} (h : IMap W b ks) (ty : TypeId) : (Builtin.len_ #[121] ty #[.map (some b)]).run Try.prog W = .ok (.int .i64 (ks.length : Int)) W := by
 have := h.own.len (t := 121) Try.underlying121 ty
 rw [mapD_size h] at this
 exact this
theorem IMap.put {W : World} {b : Nat} {ks : List Int} (h : IMap W b ks) (x : Int) (h0 : -9223372036854775808 ≤ x) (h1 : x ≤ 9223372036854775807) (hx : x ∉ ks) (hl : ks.length ≤ 1048576) :
  ∃ w', (Instr.mapUpdate 121 (.map (some b)) (.int .i64 x) (.int .i64 (ks.length : Int))).run Try.prog W = .ok () w' ∧ IMap w' b (ks ++ [x]) ∧ W.grownBy w' (some b) := by
 obtain ⟨w', hrun, hown, hgr⟩ := h.own.update keyed (t := 121) Try.underlying121 (by unfold maxLen; omega) (keyOf_int_mk Try.underlying3 (wf_of h0 h1)) (plainElem_int Try.underlying3 (wf_of (x := (ks.length : Int)) (by omega) (by omega)))
 refine ⟨w', hrun, ⟨?_, ?_⟩, hgr⟩
 ·rw [mapD_snoc, List.length_append]
  exact hown
 ·rw [List.nodup_append]
  exact ⟨h.nodup, by simp, fun a ha c hc => by
   simp at hc
   subst hc
   exact fun e => hx (e ▸ ha)⟩
end Go.Proofs.Ytoijjkhdfooapaa.Hd
namespace Go.Proofs.Ytoijjkhdfooapaa.Hd
open Go.RowKit Go.PW.PrintWords Go.PW.PrintLast Go.PW.PrintMore Go.Proofs.Ytoijjkhdfooapaa.PB
structure Other (F : Nat → Prop) (w w' : World) : Prop where
 os : w'.os = w.os
 tape : w'.tape = w.tape
 output : w'.output = w.output
 size : w.heap.size ≤ w'.heap.size
 block : ∀ k, k < w.heap.size → ¬ F k → w'.heap[k]? = w.heap[k]?
theorem Other.refl (F : Nat → Prop) (w : World) : Other F w w := ⟨rfl, rfl, rfl, Nat.le_refl _, fun _ _ _ => rfl⟩
theorem Other.trans {F F' : Nat → Prop} {a b c : World} (h : Other F a b) (k : Other F' b c) (hF : ∀ i, F' i → F i ∨ a.heap.size ≤ i) : Other F a c :=
 ⟨k.os.trans h.os, k.tape.trans h.tape, k.output.trans h.output, Nat.le_trans h.size k.size, fun i hi hn => (k.block i (Nat.lt_of_lt_of_le hi h.size) (fun hf => by
  rcases hF i hf with h1 | h1
  ·exact hn h1
  ·omega)).trans (h.block i hi hn)⟩
theorem Other.of_below {F : Nat → Prop} {w w' : World} (h : Below w.heap.size w w') : Other F w w' := ⟨h.os, h.tape, h.output, h.size, fun k hk _ => h.block k hk⟩
theorem Other.below {w w' : World} (h : Other (fun _ => False) w w') : Below w.heap.size w w' := ⟨h.os, h.tape, h.output, h.size, fun k hk => h.block k hk (fun h => h)⟩
theorem Other.below_ {F : Nat → Prop} {a b c : World} (h : Other F a b) (k : Below b.heap.size b c) : Other F a c :=
 h.trans (F' := fun _ => False) (Other.of_below k) (fun _ hf => hf.elim)
theorem Other.set_ {F : Nat → Prop} {a b : World} (h : Other F a b) {p : Addr} (hp : a.heap.size ≤ p.block) (u : Value) : Other F a (b.setCell p u) :=
 ⟨h.os, h.tape, h.output, by simpa [World.setCell] using h.size, fun i hi hn => (Below.heap_setCell _ _ _ _ (by omega)).trans (h.block i hi hn)⟩
theorem Other.drew {F : Nat → Prop} {a b : World} (h : Other F a b) : Other F a b.drew := ⟨h.os, h.tape, h.output, h.size, h.block⟩
section
variable {P : Program} {ops : Array Oper} {rest : List Oper} {o : Oper} {a : Act} {Q : Exit → Act → World → Prop}
theorem make_event {W : World} (hgd : o.guard = none) {N : Tmp} (hd : o.dst = some N) (t e : TypeId) (x y : Operand) (ho : o.op = .makeSlice t x y) (n : Nat) (hx : a.eval x = .int .i64 n) (hy : a.eval y = .int .i64 n)
  (ht : P.underlying t = some (.slice e)) (z : Value) (bytes : Nat) (hinfo : (P.info? e).map (fun i => (i.zero, i.size, i.bytes)) = some (some z, 1, bytes)) (hz : z.cells = #[z]) (hb0 : 0 < bytes) (hl : n * bytes ≤ 281474976710656)
  (h : ∀ g w1, g = W.heap.size → w1.heap[g]? = some (.cells (List.replicate n z).toArray e (0, 0)) → Below W.heap.size W w1 → w1.heap.size = g + 1 → wpList P ops Q rest (a.put o.dst (.slice (some ⟨g, 0, none⟩) n n)) w1) : wpList P ops Q (o :: rest) a W := by
 obtain ⟨i0, hi, hzz⟩ := Option.map_eq_some_iff.1 hinfo
 simp only [Prod.mk.injEq] at hzz
 obtain ⟨hz0, hz1, hz2⟩ := hzz
 have hm : n ≤ 281474976710656 := Nat.le_trans (Nat.le_mul_of_pos_right _ hb0) hl
 have hr := run_make (P := P) W t e i0 z ht hi hz0 .i64 .i64 (n : Int) (n : Int) (by omega) (by omega)
  (by
   have h3 : ((i0.bytes * n : Nat) : Int) ≤ 281474976710656 := by rw [hz2, Nat.mul_comm]; omega
   rwa [Int.natCast_mul] at h3) (by omega)
 simp only [Int.toNat_natCast] at hr
 rw [hz1] at hr
 refine Kd.event_run hgd (w1 := W.alloc (.cells (madeCells z.cells (n * 1)) e)) (by simp [execOp, ho, hx, hy, hr]) (h W.heap.size _ rfl ?_ (zac (Below.refl _ _) _) (by simp))
 rw [heap_alloc_new]
 congr 2
 apply Array.ext
 ·simp [size_madeCells]
 ·intro i h1 h2
  have hi1 : i < n := by simpa using h2
  simp [madeCells, hz, Nat.mod_one]
end
theorem skip_step {P : Program} {ops : Array Oper} {o : Oper} {a : Act} {Q : Exit → Act → World → Prop} {Kc : Act → World → Prop} {N : Option Tmp} {W w1 : World} (hw : Region.wanted o (yielded ops a.tmps) = true) (hN : o.dst = none) (hrun : (execOp a.eval o).run P W = .ok .skip w1) (h : Kc a w1) : if Region.wanted o (yielded ops a.tmps) = true then Oper.wp P o a W Kc Q else Kc (a.put N undef) W := by
 rw [if_pos hw]
 unfold Oper.wp
 rw [hrun, Oper.upon_skip, hN]
 exact h
def zcc (hi wi : Nat) (g : Nat → Nat → Int) : List (List Int) := (List.range hi).map fun r => (List.range wi).map fun c => g r c
def partRow (wi c : Nat) (g : Nat → Int) : List Int := (List.range c).map g ++ List.replicate (wi - c) 0
theorem partRow_length (wi c : Nat) (g : Nat → Int) (h : c ≤ wi) : (partRow wi c g).length = wi := by simp [partRow]; omega
theorem partRow_zero (wi : Nat) (g : Nat → Int) : partRow wi 0 g = List.replicate wi 0 := by simp [partRow]
theorem partRow_all (wi : Nat) (g : Nat → Int) : partRow wi wi g = (List.range wi).map g := by simp [partRow]
theorem partRow_succ (wi c : Nat) (g : Nat → Int) (h : c < wi) : (partRow wi c g).set c (g c) = partRow wi (c + 1) g := by
 unfold partRow
 have h1 : ((List.range c).map g).length = c := by simp
 rw [List.set_append_right _ _ (by omega), h1, Nat.sub_self, List.range_succ, List.map_append, List.append_assoc]
 congr 1
 obtain ⟨m, hm⟩ : ∃ m, wi - c = m + 1 := ⟨wi - c - 1, by omega⟩
 rw [hm, List.replicate_succ, List.set_cons_zero, show wi - (c + 1) = m by omega]
 rfl
theorem partRow_at (wi c : Nat) (g : Nat → Int) (h : c < wi) : (partRow wi c g)[c]? = some 0 := by
 unfold partRow
 have h1 : ((List.range c).map g).length = c := by simp
 rw [List.getElem?_append_right (by omega), h1, Nat.sub_self, List.getElem?_replicate, if_pos (by omega)]
theorem zca (hi wi : Nat) (g : Nat → Nat → Int) : (zcc hi wi g).length = hi := by simp [zcc]
theorem gridOf_succ (r wi : Nat) (g : Nat → Nat → Int) : zcc (r + 1) wi g = zcc r wi g ++ [(List.range wi).map (g r)] := by
 simp [zcc, List.range_succ]
structure CellFn (P : Program) (f : FuncId) (caps : Array Value) (hi wi : Nat) (g : Nat → Nat → Int) (Inv : Nat → (Nat → Prop) → World → Prop) : Prop where
 move : ∀ n F W W', Inv n F W → W.heap.size ≤ W'.heap.size → (∀ k, F k → W'.heap[k]? = W.heap[k]?) → Inv n F W'
 lt : ∀ n F W k, Inv n F W → F k → k < W.heap.size
 calls : ∀ n F W (r c : Nat), r < hi → c < wi → n = r * wi + c → Inv n F W → Calls P f (#[.int .i64 r, .int .i64 c] ++ caps) W fun e W' => e = .returned (.int .i64 (g r c)) ∧ ∃ F', Inv (n + 1) F' W' ∧ (∀ k, F' k → F k ∨ W.heap.size ≤ k) ∧ Other F W W'
theorem blank_push {wr w2 : World} {g0 hi wi r b : Nat} {bs : List Nat} {g : Nat → Nat → Int} (HM : MatAt wr g0 hi bs (zcc r wi g)) (hr : r < hi) (hb : b = wr.heap.size) (HB : Below wr.heap.size wr w2) (HW : w2.heap[b]? = some (.cells (List.replicate wi (Value.int .i64 0)).toArray 3 (0, 0))) :
  MatAt (w2.setCell ⟨g0, r, none⟩ (.slice (some ⟨b, 0, none⟩) wi wi)) g0 hi (bs ++ [b]) (zcc r wi g ++ [partRow wi 0 (g r)]) := by
 have hlt := HM.lt
 have hg0 := hlt g0 List.mem_cons_self
 refine HM.push (by rw [zca]; exact hr) (fun k hk => by have := hlt k hk; omega) ?_ ?_ (fun k hk => ?_)
 ·have h1 := (HB.block g0 hg0).trans HM.top
  simp only [World.setCell, Array.getElem?_modify, if_true]
  rw [h1, zca]
  simp [rowV, partRow_length wi 0 (g r) (Nat.zero_le _)]
 ·rw [Below.heap_setCell _ _ _ _ (by show b ≠ g0; omega), HW, partRow_zero]
  simp
 ·have hk2 := hlt k (List.mem_cons_of_mem _ hk)
  rw [Below.heap_setCell _ _ _ _ (fun e => (List.nodup_cons.1 HM.nodup).1 (by rw [← show k = g0 from e]; exact hk)), HB.block k hk2]
def BlankPost (w : World) (hi wi : Nat) (g : Nat → Nat → Int) (Inv : Nat → (Nat → Prop) → World → Prop) (F0 : Nat → Prop) (e : Ending) (w' : World) : Prop := ∃ g0 bs F', e = .returned (.slice (some ⟨g0, 0, none⟩) hi hi) ∧ MatAt w' g0 hi bs (zcc hi wi g) ∧ (∀ k, k ∈ g0 :: bs → w.heap.size ≤ k ∧ ¬ F' k) ∧ Inv (hi * wi) F' w' ∧ (∀ k, F' k → F0 k ∨ w.heap.size ≤ k) ∧ Other F0 w w'
set_option maxHeartbeats 4000000 in
set_option maxRecDepth 100000 in
theorem blank_calls (f : FuncId) (fn : Func) (hf : Try.prog.funcs[f]? = some fn) (hname : (fn.name == "runtime.NumGoroutine") = false) (hb : fn.body.isSome = true) (caps : Array Value) (hi wi : Nat) (g : Nat → Nat → Int) (Inv : Nat → (Nat → Prop) → World → Prop)
  (hC : CellFn Try.prog f caps hi wi g Inv) (F0 : Nat → Prop) (w : World) (h0 : Inv 0 F0 w) (hhi : hi ≤ 1048576) (hwi : wi ≤ 1048576) :
  Calls Try.prog 95 #[.int .i64 hi, .int .i64 wi, .func (.func f) #[] caps] w (BlankPost w hi wi g Inv F0) := by
 have H0 := zaa.mk h0
 have HC := zaa.mk hC
 have HF := zaa.mk hf
 have HN := zaa.mk hname
 have HBd := zaa.mk hb
 clear h0 hC hf hname hb
 have i53 : (Try.prog.info? 34).map (fun i => (i.zero, i.size, i.bytes)) = some (some (.slice none 0 0), 1, 24) := by kernel_rfl
 have i3 : (Try.prog.info? 3).map (fun i => (i.zero, i.size, i.bytes)) = some (some (.int .i64 0), 1, 8) := by kernel_rfl
 have I53 := zaa.mk i53
 have I3 := zaa.mk i3
 clear i53 i3
 have b0 : (0 : Int) ≤ hi := by omega
 have b1 : (hi : Int) ≤ 1048576 := by omega
 have b2 : (0 : Int) ≤ wi := by omega
 have b3 : (wi : Int) ≤ 1048576 := by omega
 go_enter Try.func95, Try.ntmps95
 go_wp2_with (first | ((with_reducible refine zaw (N := 11) rfl ?_); refine make_event rfl (N := 11) rfl _ 34 _ _ rfl hi rfl rfl Try.underlying67 _ _ I53.out rfl (by decide) (by omega) ?_; intro g0 w1 hg hw1 hb1 hs1; have HG := zaa.mk hg; have HW1 := zaa.mk hw1; have HB1 := zaa.mk hb1; have HS1 := zaa.mk hs1; clear hg hw1 hb1 hs1))
 have hM0 : MatAt w1 g0 hi [] (zcc 0 wi g) := ⟨rfl, by simpa [zcc] using HW1.out, fun i b r hb hr => by simp at hb, by simp⟩
 have hI0 : Inv 0 F0 w1 := HC.out.move _ _ _ _ H0.out HB1.out.size (fun k hk => HB1.out.block k (HC.out.lt _ _ _ _ H0.out hk))
 have HM0 := zaa.mk hM0
 have HI0 := zaa.mk hI0
 have HO0 := zaa.mk (Other.of_below (F := F0) HB1.out)
 clear hM0 hI0
 go_loopg [14] hi (fun kq v14 w' => ∃ (r : Nat) (bs : List Nat) (F : Nat → Prop), v14 = .int .i64 (r : Int) ∧ zaa (r + kq = hi) ∧ zaa (MatAt w' g0 hi bs (zcc r wi g)) ∧ zaa (∀ k, k ∈ g0 :: bs → w.heap.size ≤ k ∧ ¬ F k) ∧ zaa (Inv (r * wi) F w') ∧ zaa (∀ k, F k → F0 k ∨ w.heap.size ≤ k) ∧ zaa (Other F0 w w'))
 case atStart => exact ⟨0, [], F0, rfl, ⟨by omega⟩, HM0, ⟨by
  intro k hk
  simp at hk
  subst hk
  exact ⟨by rw [HG.out]; exact Nat.le_refl _, fun hf => by have := HC.out.lt _ _ _ _ H0.out hf; have := HG.out; omega⟩⟩, ⟨by simpa using HI0.out⟩, ⟨fun k hk => .inl hk⟩, HO0⟩
 case round =>
  clear HM0 HI0 HO0
  obtain ⟨r, bs, F, rfl, HK, HM, HS, HI, HFs, HO⟩ := hrel
  by_cases hr : r < hi
  ·have hlt : (r : Int) < hi := by omega
   have hr0 : (0 : Int) ≤ r := by omega
   have hr1 : (r : Int) ≤ 1048576 := by omega
   have hlen := zca r wi g
   have hx0 : wr.cell? ⟨g0, r, none⟩ = some (.slice none 0 0) ∧ wr.frozen? ⟨g0, r, none⟩ = false := by
    have h1 := HM.out.top
    rw [hlen] at h1
    have h2 : ((bs.zip (zcc r wi g)).map rowV).length = r := by simp [HM.out.len, hlen]
    refine ⟨?_, by simp [World.frozen?, h1]⟩
    simp only [World.cell?, h1]
    simp only [Option.isSome_none, Bool.false_eq_true, if_false]
    rw [List.getElem?_toArray, List.getElem?_append_right (by omega), h2, Nat.sub_self, List.getElem?_replicate, if_pos (by omega)]
   obtain ⟨hx1, hf1⟩ := hx0
   clear hlen
   go_wp2_with (first | ((with_reducible refine zaw (N := 20) rfl ?_); refine make_event rfl (N := 20) rfl _ 3 _ _ rfl wi rfl rfl Try.underlying34 _ _ I3.out rfl (by decide) (by omega) ?_; intro b w2 hg hw1 hb1 hs1; have HGb := zaa.mk hg; have HW2 := zaa.mk hw1; have HB2 := zaa.mk hb1; have HS2 := zaa.mk hs1; have hx2 : w2.cell? ⟨g0, r, none⟩ = some (.slice none 0 0) := zal hb1 hx1; have hf2 : w2.frozen? ⟨g0, r, none⟩ = false := ((hb1.frozen (p := ⟨g0, r, none⟩) (World.block_lt_of_cell? wr _ hx1)).trans hf1); clear hg hw1 hb1 hs1 hx1 hf1))
   have HM3 := zaa.mk (blank_push HM.out hr HGb.out HB2.out HW2.out)
   have hg0lt := HM.out.lt g0 List.mem_cons_self
   have HS3 := zaa.mk (show ∀ k, k ∈ g0 :: (bs ++ [b]) → w.heap.size ≤ k ∧ ¬ F k from fun k hk => by
    rw [← List.cons_append, List.mem_append] at hk
    rcases hk with hk | hk
    ·exact HS.out k hk
    ·simp at hk
     subst hk
     exact ⟨by rw [HGb.out]; exact HO.out.size, fun hf => by have := HC.out.lt _ _ _ _ HI.out hf; have := HGb.out; omega⟩)
   have HI3 := zaa.mk (show Inv (r * wi) F (w2.setCell ⟨g0, r, none⟩ (.slice (some ⟨b, 0, none⟩) wi wi)) from HC.out.move _ _ _ _ HI.out (by simpa [World.setCell] using HB2.out.size) (fun k hk => by
    have h1 := HC.out.lt _ _ _ _ HI.out hk
    rw [Below.heap_setCell _ _ _ _ (fun e => (HS.out g0 List.mem_cons_self).2 (by rw [← show k = g0 from e]; exact hk)), HB2.out.block k h1]))
   have HO3 := zaa.mk ((HO.out.below_ HB2.out).set_ (p := ⟨g0, r, none⟩) (HS.out g0 List.mem_cons_self).1 (.slice (some ⟨b, 0, none⟩) wi wi))
   clear HM HS HI HO HW2 HB2 HS2 hx2 hf2 hg0lt
   go_loopg [27] wi (fun kq v27 w' => ∃ (c : Nat) (F1 : Nat → Prop), v27 = .int .i64 (c : Int) ∧ zaa (c + kq = wi) ∧ zaa (MatAt w' g0 hi (bs ++ [b]) (zcc r wi g ++ [partRow wi c (g r)])) ∧ zaa (∀ k, k ∈ g0 :: (bs ++ [b]) → w.heap.size ≤ k ∧ ¬ F1 k) ∧ zaa (Inv (r * wi + c) F1 w') ∧ zaa (∀ k, F1 k → F0 k ∨ w.heap.size ≤ k) ∧ zaa (Other F0 w w'))
   case atStart => exact ⟨0, F, rfl, ⟨by omega⟩, HM3, HS3, ⟨by simpa using HI3.out⟩, HFs, HO3⟩
   case round =>
    clear HM3 HS3 HI3 HO3 HFs F
    obtain ⟨c, F, rfl, HK2, HM, HS, HI, HFs, HO⟩ := hrel
    by_cases hc : c < wi
    ·have hlt2 : (c : Int) < wi := by omega
     have hc0 : (0 : Int) ≤ c := by omega
     have hc1 : (c : Int) ≤ 1048576 := by omega
     have hbl : bs.length = r := by have := HM.out.len; rw [List.length_append, List.length_append, zca] at this; simpa using this
     have hbr : (bs ++ [b])[r]? = some b := by rw [List.getElem?_append_right (by omega), hbl]; simp
     have hrr : (zcc r wi g ++ [partRow wi c (g r)])[r]? = some (partRow wi c (g r)) := by rw [List.getElem?_append_right (by rw [zca]; omega), zca]; simp
     have hpl := partRow_length wi c (g r) (by omega)
     have HBR := zaa.mk hbr
     have HRR := zaa.mk hrr
     have hxt := HM.out.topCell r b _ hbr hrr
     rw [hpl] at hxt
     have HXT := zaa.mk hxt
     clear hbr hrr hbl hpl
     go_wp2
     refine start_ (n := 11) (S := fun w' => w'.cell? ⟨g0, r, none⟩ = some (.slice (some ⟨b, 0, none⟩) wi wi)) (ds := []) #[false, false, false, false, false, false, false, false, false, false, false] (by kernel_rfl) rfl rfl (hxt) (fun hHeld => ?_)
     clear hxt
     have HM := zaa.mk (show MatAt wr.drew g0 hi (bs ++ [b]) (zcc r wi g ++ [partRow wi c (g r)]) from HM.out.move (fun _ _ => rfl))
     have HI := zaa.mk (show Inv (r * wi + c) F wr.drew from HC.out.move _ _ _ _ HI.out (Nat.le_refl _) (fun _ _ => rfl))
     have HO := zaa.mk (HO.out.drew)
     generalize wr.drew = w7 at HM HI HO hHeld ⊢
     refine zbb (i := 0) (N := some 30) (v := ?_) (a' := ?_) #[true, false, false, false, false, false, false, false, false, false, false] rfl rfl (by kernel_rfl) (fun _ _ _ h => h) (Or.inl ⟨by rfl, ?_⟩) ?_ ?_
     rotate_left
     ·intro w'
      go_simp
      with_reducible rfl
     rotate_left
     ·simp only [Act.put, List.setIfInBounds_toArray, List.set_cons_zero, List.set_cons_succ, zas, zat]
      rfl
     refine zbb (i := 1) (N := some 31) (v := ?_) (a' := ?_) #[true, true, false, false, false, false, false, false, false, false, false] rfl rfl (by kernel_rfl) (fun _ _ _ h => h) (Or.inl ⟨by rfl, ?_⟩) ?_ ?_
     rotate_left
     ·intro w'
      go_simp
      with_reducible rfl
     rotate_left
     ·simp only [Act.put, List.setIfInBounds_toArray, List.set_cons_zero, List.set_cons_succ, zas, zat]
      rfl
     refine zbb (i := 4) (N := some 34) (v := ?_) (a' := ?_) #[true, true, false, false, true, false, false, false, false, false, false] rfl rfl (by kernel_rfl) (fun _ _ _ h => h) (Or.inl ⟨by rfl, ?_⟩) ?_ ?_
     rotate_left
     ·intro w'
      go_simp
      with_reducible rfl
     rotate_left
     ·simp only [Act.put, List.setIfInBounds_toArray, List.set_cons_zero, List.set_cons_succ, zas, zat]
      rfl
     refine zbb (i := 5) (N := some 35) (v := ?_) (a' := ?_) #[true, true, false, false, true, true, false, false, false, false, false] rfl rfl (by kernel_rfl) (fun _ _ _ h => h) (Or.inl ⟨by rfl, ?_⟩) ?_ ?_
     rotate_left
     ·intro w'
      go_simp
      with_reducible rfl
     rotate_left
     ·simp only [Act.put, List.setIfInBounds_toArray, List.set_cons_zero, List.set_cons_succ, zas, zat]
      rfl
     refine zbb (i := 6) (N := some 36) (v := ?_) (a' := ?_) #[true, true, false, false, true, true, true, false, false, false, false] rfl rfl (by kernel_rfl) (fun _ _ _ h => h) (Or.inl ⟨by rfl, ?_⟩) ?_ ?_
     rotate_left
     ·intro w'
      go_simp
      with_reducible rfl
     rotate_left
     ·simp only [Act.put, List.setIfInBounds_toArray, List.set_cons_zero, List.set_cons_succ, zas, zat]
      rfl
     refine zbb (i := 7) (N := some 37) (v := ?_) (a' := ?_) #[true, true, false, false, true, true, true, true, false, false, false] rfl rfl (by kernel_rfl) (fun _ _ _ h => h) (Or.inl ⟨by rfl, ?_⟩) ?_ ?_
     rotate_left
     ·intro w'
      go_simp
      with_reducible rfl
     rotate_left
     ·simp only [Act.put, List.setIfInBounds_toArray, List.set_cons_zero, List.set_cons_succ, zas, zat]
      rfl
     refine zbb (i := 2) (N := some 32) (v := ?_) (a' := ?_) #[true, true, true, false, true, true, true, true, false, false, false] rfl rfl (by kernel_rfl) (fun _ _ _ h => h) (Or.inl ⟨by rfl, ?_⟩) ?_ ?_
     rotate_left
     ·intro w'
      go_simp
      with_reducible rfl
     rotate_left
     ·simp only [Act.put, List.setIfInBounds_toArray, List.set_cons_zero, List.set_cons_succ, zas, zat]
      rfl
     refine zcr (i := 3) (N := some 33) (v := ?_) (a' := ?_) #[true, true, true, true, true, true, true, true, false, false, false] rfl rfl (by kernel_rfl) (fun _ _ _ h => h) (Or.inl ⟨by rfl, ?_⟩) hHeld ?_ ?_
     rotate_left
     ·rintro w' s0
      go_simp
      with_reducible rfl
     rotate_left
     ·simp only [Act.put, List.setIfInBounds_toArray, List.set_cons_zero, List.set_cons_succ, zas, zat]
      rfl
     refine one_ (i := 8) (N := some 38) #[true, true, true, true, true, true, true, true, true, false, false] rfl rfl (by kernel_rfl) (by decide) (fun K hK => ?_)
     refine goesv_ HF.out HN.out HBd.out #[.int .i64 (r : Int), .int .i64 (c : Int)] (by rfl) rfl rfl rfl (by (try simp only [List.map_toArray, List.map_cons, List.map_nil]); first | done | rfl) ?_
     refine (HC.out.calls (r * wi + c) F w7 r c hr hc rfl HI.out).mono ?_
     rintro e w8 ⟨rfl, F1, hI1, hF1, hO1⟩
     refine ⟨_, rfl, ?_⟩
     have hlt7 := HM.out.lt
     have hkeep : ∀ k, k ∈ g0 :: (bs ++ [b]) → w8.heap[k]? = w7.heap[k]? := fun k hk => hO1.block k (hlt7 k hk) (HS.out k hk).2
     have HM1 := zaa.mk (HM.out.move hkeep)
     have HS1_ := zaa.mk (show ∀ k, k ∈ g0 :: (bs ++ [b]) → w.heap.size ≤ k ∧ ¬ F1 k from fun k hk => ⟨(HS.out k hk).1, fun hf => by
      rcases hF1 k hf with h1 | h1
      ·exact (HS.out k hk).2 h1
      ·have := hlt7 k hk; omega⟩)
     have HFs1 := zaa.mk (show ∀ k, F1 k → F0 k ∨ w.heap.size ≤ k from fun k hf => by
      rcases hF1 k hf with h1 | h1
      ·exact HFs.out k h1
      ·exact .inr (Nat.le_trans HO.out.size h1))
     have HO1 := zaa.mk (HO.out.trans hO1 HFs.out)
     have HI1 := zaa.mk hI1
     refine hK.out _ _ ((World.cell?_of_block (w := w7) (hkeep g0 List.mem_cons_self)).trans hHeld) (fun hHeld => ?_)
     clear hK K HM HS HI HFs HO hlt7 hkeep hI1 hF1 hO1
     refine norm_ (a' := ?_) ?_ ?_
     rotate_left
     ·show Act.put _ (some 38) _ = _
      simp only [Act.put, List.setIfInBounds_toArray, List.set_cons_zero, List.set_cons_succ, zas, zat]
      rfl
     refine zbb (i := 9) (N := some 39) (v := ?_) (a' := ?_) #[true, true, true, true, true, true, true, true, true, true, false] rfl rfl (by kernel_rfl) (fun _ _ _ h => h) (Or.inl ⟨by rfl, ?_⟩) ?_ ?_
     rotate_left
     ·intro w'
      go_simp
      with_reducible rfl
     rotate_left
     ·simp only [Act.put, List.setIfInBounds_toArray, List.set_cons_zero, List.set_cons_succ, zas, zat]
      rfl
     obtain ⟨hx9, hf9⟩ := HM1.out.rowCell r c b _ 0 HBR.out HRR.out (partRow_at wi c (g r) hc)
     refine one_ (i := 10) (N := none) #[true, true, true, true, true, true, true, true, true, true, true] rfl rfl (by kernel_rfl) (by decide) (fun K hK => ?_)
     refine skip_step (by rfl) rfl (w1 := w8.setCell ⟨b, c, none⟩ (.int .i64 (g r c))) (by go_simp; done) ?_
     have hb0 : w.heap.size ≤ b := (HS1_.out b (by simp)).1
     have hgb : g0 ≠ b := fun e => (List.nodup_cons.1 HM1.out.nodup).1 (by rw [e]; simp)
     have HM2 := zaa.mk (show MatAt (w8.setCell ⟨b, c, none⟩ (.int .i64 (g r c))) g0 hi (bs ++ [b]) (zcc r wi g ++ [partRow wi (c + 1) (g r)]) by
      have z := HM1.out.set r c b _ (g r c) HBR.out HRR.out
      rw [partRow_succ wi c (g r) hc, List.set_append_right _ _ (by rw [zca]; exact Nat.le_refl _), zca, Nat.sub_self, List.set_cons_zero] at z
      exact z)
     have HI2 := zaa.mk (show Inv (r * wi + (c + 1)) F1 (w8.setCell ⟨b, c, none⟩ (.int .i64 (g r c))) from HC.out.move _ _ _ _ HI1.out (by simp [World.setCell]) (fun k hk => Below.heap_setCell _ _ _ _ (fun e => (HS1_.out b (by simp)).2 (by rw [← show k = b from e]; exact hk))))
     have HO2 := zaa.mk (HO1.out.set_ (p := ⟨b, c, none⟩) hb0 (.int .i64 (g r c)))
     refine hK.out _ _ (by rw [← hHeld]; exact World.cell?_of_block (Below.heap_setCell _ _ _ _ hgb)) (fun hHeld => ?_)
     clear hK K HM1 HI1 HO1 hb0 hx9 hf9 hgb
     generalize w8.setCell ⟨b, c, none⟩ (.int .i64 (g r c)) = w9 at HM2 HI2 HO2 hHeld ⊢
     refine done_ (by kernel_rfl) ?_
     clear hHeld
     go_wp2
     go_roundg (wi - (c + 1))
     case measure => have := HK2.out; omega
     case rel => exact ⟨c + 1, F1, by first | rfl | (congr 1; omega), ⟨by have := HK2.out; omega⟩, HM2, HS1_, HI2, HFs1, HO2⟩
    ·have hge : ¬ (c : Int) < wi := by omega
     obtain rfl : c = wi := by have := HK2.out; omega
     go_wp2
     go_roundg (hi - (r + 1))
     case measure => have := HK.out; omega
     case rel => exact ⟨r + 1, bs ++ [b], F, by first | rfl | (congr 1; omega), ⟨by have := HK.out; omega⟩, ⟨by rw [gridOf_succ, ← partRow_all]; exact HM.out⟩, HS, ⟨by rw [Nat.succ_mul]; exact HI.out⟩, HFs, HO⟩
  ·have hge : ¬ (r : Int) < hi := by omega
   obtain rfl : r = hi := by have := HK.out; omega
   go_wp2
   go_ret
   exact ⟨g0, bs, F, rfl, HM.out, HS.out, HI.out, HFs.out, HO.out⟩
end Go.Proofs.Ytoijjkhdfooapaa.Hd
namespace Go.Proofs.Ytoijjkhdfooapaa.PC
open Go.RowKit Go.PW.PrintWords Go.PW.PrintLast Go.PW.PrintMore
attribute [local go_sem] zbu zbs zcf zce zbm zbl zbt zbr   -- for this text's walks alone
def errW : Option Int → Value
 | none => .nilIface
 | some c => .iface 0 (.int .i64 c)
theorem zak : errW none = .nilIface := rfl
theorem zaj (c : Int) : errW (some c) = .iface 0 (.int .i64 c) := rfl
end Go.Proofs.Ytoijjkhdfooapaa.PC
namespace Go.Proofs.Ytoijjkhdfooapaa.PC
open Go.RowKit Go.PW.PrintWords Go.PW.PrintLast Go.PW.PrintMore
attribute [local go_sem] zbu zbs zcf zce zbm zbl zbt zbr   -- for this text's walks alone
def impl_rect_both.f (a0_0 : Int) (a0_1 : Int) (a0_2 : Int) (a0_3 : Int) (a1_0 : Int) (a1_1 : Int) (a1_2 : Int) (a1_3 : Int) : Option (Int × Int × Int × Int) := some (mn a0_0 a1_0, mn a0_1 a1_1, wrap64 ((mx (wrap64 (a0_0 + a0_2)) (wrap64 (a1_0 + a1_2))) - (mn a0_0 a1_0)), wrap64 ((mx (wrap64 (a0_1 + a0_3)) (wrap64 (a1_1 + a1_3))) - (mn a0_1 a1_1)))
set_option maxHeartbeats 8000000 in
set_option maxRecDepth 100000 in
theorem impl_rect_both.calls (a0_0 : Int) (a0_1 : Int) (a0_2 : Int) (a0_3 : Int) (a1_0 : Int) (a1_1 : Int) (a1_2 : Int) (a1_3 : Int) (r1 : Int) (r2 : Int) (r3 : Int) (r4 : Int) (w : World) (h : impl_rect_both.f a0_0 a0_1 a0_2 a0_3 a1_0 a1_1 a1_2 a1_3 = some (r1, r2, r3, r4)) :
  Calls Try.prog 116 #[.agg #[.int .i64 a0_0, .int .i64 a0_1, .int .i64 a0_2, .int .i64 a0_3], .agg #[.int .i64 a1_0, .int .i64 a1_1, .int .i64 a1_2, .int .i64 a1_3]] w fun e w' => e = .returned (.agg #[.int .i64 r1, .int .i64 r2, .int .i64 r3, .int .i64 r4]) ∧ Below w.heap.size w w' := by
 have hu87 := Try.underlying87
 have HB := zaa.mk (Below.refl w.heap.size w)
 have H : (some (mn a0_0 a1_0, mn a0_1 a1_1, wrap64 ((mx (wrap64 (a0_0 + a0_2)) (wrap64 (a1_0 + a1_2))) - (mn a0_0 a1_0)), wrap64 ((mx (wrap64 (a0_1 + a0_3)) (wrap64 (a1_1 + a1_3))) - (mn a0_1 a1_1)))) = some (r1, r2, r3, r4) := h
 clear h
 obtain ⟨ji3, hji3⟩ : ∃ j_ : Int, (mn a0_0 a1_0) = j_ := ⟨_, rfl⟩
 replace H : (some (ji3, mn a0_1 a1_1, wrap64 ((mx (wrap64 (a0_0 + a0_2)) (wrap64 (a1_0 + a1_2))) - (ji3)), wrap64 ((mx (wrap64 (a0_1 + a0_3)) (wrap64 (a1_1 + a1_3))) - (mn a0_1 a1_1)))) = some (r1, r2, r3, r4) := by first | (rw [hji3] at H; exact H) | (simp only [hji3] at H ⊢; exact H)
 have hji3_ : (if a1_0 < a0_0 then a1_0 else a0_0) = ji3 := hji3
 obtain ⟨ji4, hji4⟩ : ∃ j_ : Int, (mn a0_1 a1_1) = j_ := ⟨_, rfl⟩
 replace H : (some (ji3, ji4, wrap64 ((mx (wrap64 (a0_0 + a0_2)) (wrap64 (a1_0 + a1_2))) - (ji3)), wrap64 ((mx (wrap64 (a0_1 + a0_3)) (wrap64 (a1_1 + a1_3))) - (ji4)))) = some (r1, r2, r3, r4) := by first | (rw [hji4] at H; exact H) | (simp only [hji4] at H ⊢; exact H)
 have hji4_ : (if a1_1 < a0_1 then a1_1 else a0_1) = ji4 := hji4
 obtain ⟨ji5, hji5⟩ : ∃ j_ : Int, (mx (wrap64 (a0_0 + a0_2)) (wrap64 (a1_0 + a1_2))) = j_ := ⟨_, rfl⟩
 replace H : (some (ji3, ji4, wrap64 ((ji5) - (ji3)), wrap64 ((mx (wrap64 (a0_1 + a0_3)) (wrap64 (a1_1 + a1_3))) - (ji4)))) = some (r1, r2, r3, r4) := by first | (rw [hji5] at H; exact H) | (simp only [hji5] at H ⊢; exact H)
 have hji5_ : (if (wrap64 (a0_0 + a0_2)) < (wrap64 (a1_0 + a1_2)) then (wrap64 (a1_0 + a1_2)) else (wrap64 (a0_0 + a0_2))) = ji5 := hji5
 obtain ⟨ji6, hji6⟩ : ∃ j_ : Int, (mx (wrap64 (a0_1 + a0_3)) (wrap64 (a1_1 + a1_3))) = j_ := ⟨_, rfl⟩
 replace H : (some (ji3, ji4, wrap64 ((ji5) - (ji3)), wrap64 ((ji6) - (ji4)))) = some (r1, r2, r3, r4) := by first | (rw [hji6] at H; exact H) | (simp only [hji6] at H ⊢; exact H)
 have hji6_ : (if (wrap64 (a0_1 + a0_3)) < (wrap64 (a1_1 + a1_3)) then (wrap64 (a1_1 + a1_3)) else (wrap64 (a0_1 + a0_3))) = ji6 := hji6
 simp only [Option.some.injEq, Prod.mk.injEq] at H
 obtain ⟨rfl, rfl, rfl, rfl⟩ := H
 go_enter Try.func116, Try.ntmps116
 go_wp2_with (first | ((with_reducible refine zaw (N := 2) rfl ?_); refine zch ?hg (N := 2) ?hd (cs := #[.int .i64 a0_0, .int .i64 a0_1, .int .i64 a0_2, .int .i64 a0_3]) (t := 87) ?hr ?_; (case hd => rfl); (case hg => rfl); (case hr => first | (go_simp; done) | (go_simp; rfl)); intro gb101 hg w7 hbox hb; have n0_ := zaa.mk (zag (by repeat (first | (with_reducible first | exact HB.out | apply zac | apply zab | apply zad) | exact HB.out)) hb); have n1_ := zaa.mk (hbox); have n2_ := zaa.mk ((by rw [hg]; exact (zae (by repeat (first | (with_reducible first | exact HB.out | apply zac | apply zab | apply zad) | exact HB.out))) : w.heap.size ≤ gb101)); have n3_ := zaa.mk ((by rw [hg]; exact (zae (by repeat (first | (with_reducible first | exact HB.out | apply zac | apply zab | apply zad) | exact HB.out))) : w.heap.size ≤ gb101)); clear HB; have HB := n0_; have BK101 := n1_; have GW101 := n2_; have GE101 := n3_; clear n0_ n1_ n2_ n3_; clear hb hbox hg) | ((with_reducible refine zaw (N := 3) rfl ?_); refine zch ?hg (N := 3) ?hd (cs := #[.int .i64 a1_0, .int .i64 a1_1, .int .i64 a1_2, .int .i64 a1_3]) (t := 87) ?hr ?_; (case hd => rfl); (case hg => rfl); (case hr => first | (go_simp; done) | (go_simp; rfl)); intro gb102 hg w8 hbox hb; have n0_ := zaa.mk (blk_below (g := gb101) (o := .cells #[.int .i64 a0_0, .int .i64 a0_1, .int .i64 a0_2, .int .i64 a0_3] 87 (0, 0)) (by (with_reducible repeat (first | refine zbd ?_ _ | refine zbk ?_ | refine zbe ?_ _)); exact BK101.out) hb); have n1_ := zaa.mk (zag (by repeat (first | (with_reducible first | exact HB.out | apply zac | apply zab | apply zad | refine zao ?_ GE101.out) | exact HB.out)) hb); have n2_ := zaa.mk (hbox); have n3_ := zaa.mk ((by rw [hg]; exact (zae (by repeat (first | (with_reducible first | exact HB.out | apply zac | apply zab | apply zad | refine zao ?_ GE101.out) | exact HB.out))) : w.heap.size ≤ gb102)); have n4_ := zaa.mk ((by rw [hg]; exact (zae (by repeat (first | (with_reducible first | exact HB.out | apply zac | apply zab | apply zad | refine zao ?_ GE101.out) | exact HB.out))) : w.heap.size ≤ gb102)); have n5_ := zaa.mk ((by rw [hg]; exact Nat.ne_of_lt (blk_lt (g := gb101) (o := .cells #[.int .i64 a0_0, .int .i64 a0_1, .int .i64 a0_2, .int .i64 a0_3] 87 (0, 0)) (by (with_reducible repeat (first | refine zbd ?_ _ | refine zbk ?_ | refine zbe ?_ _)); exact BK101.out)) : gb101 ≠ gb102)); have n6_ := zaa.mk ((by rw [hg]; exact Nat.ne_of_gt (blk_lt (g := gb101) (o := .cells #[.int .i64 a0_0, .int .i64 a0_1, .int .i64 a0_2, .int .i64 a0_3] 87 (0, 0)) (by (with_reducible repeat (first | refine zbd ?_ _ | refine zbk ?_ | refine zbe ?_ _)); exact BK101.out)) : gb102 ≠ gb101)); clear BK101; clear HB; have BK101 := n0_; have HB := n1_; have BK102 := n2_; have GW102 := n3_; have GE102 := n4_; have NB101_102 := n5_; have NB102_101 := n6_; clear n0_ n1_ n2_ n3_ n4_ n5_ n6_; clear hb hbox hg) | ((with_reducible refine zaw (N := 4) rfl ?_); refine zch ?hg (N := 4) ?hd (cs := #[.int .i64 0, .int .i64 0, .int .i64 0, .int .i64 0]) (t := 87) ?hr ?_; (case hd => rfl); (case hg => rfl); (case hr => first | (go_simp; done) | (go_simp; rfl)); intro gb103 hg w9 hbox hb; have n0_ := zaa.mk (blk_below (g := gb101) (o := .cells #[.int .i64 a0_0, .int .i64 a0_1, .int .i64 a0_2, .int .i64 a0_3] 87 (0, 0)) (by (with_reducible repeat (first | refine zbd ?_ _ | refine zbk ?_ | refine zbe ?_ _)); exact BK101.out) hb); have n1_ := zaa.mk (blk_below (g := gb102) (o := .cells #[.int .i64 a1_0, .int .i64 a1_1, .int .i64 a1_2, .int .i64 a1_3] 87 (0, 0)) (by (with_reducible repeat (first | refine zbd ?_ _ | refine zbk ?_ | refine zbe ?_ _)); exact BK102.out) hb); have n2_ := zaa.mk (zag (by repeat (first | (with_reducible first | exact HB.out | apply zac | apply zab | apply zad | refine zao ?_ GE101.out | refine zao ?_ GE102.out) | exact HB.out)) hb); have n3_ := zaa.mk (hbox); have n4_ := zaa.mk ((by rw [hg]; exact (zae (by repeat (first | (with_reducible first | exact HB.out | apply zac | apply zab | apply zad | refine zao ?_ GE101.out | refine zao ?_ GE102.out) | exact HB.out))) : w.heap.size ≤ gb103)); have n5_ := zaa.mk ((by rw [hg]; exact (zae (by repeat (first | (with_reducible first | exact HB.out | apply zac | apply zab | apply zad | refine zao ?_ GE101.out | refine zao ?_ GE102.out) | exact HB.out))) : w.heap.size ≤ gb103)); have n6_ := zaa.mk ((by rw [hg]; exact Nat.ne_of_lt (blk_lt (g := gb101) (o := .cells #[.int .i64 a0_0, .int .i64 a0_1, .int .i64 a0_2, .int .i64 a0_3] 87 (0, 0)) (by (with_reducible repeat (first | refine zbd ?_ _ | refine zbk ?_ | refine zbe ?_ _)); exact BK101.out)) : gb101 ≠ gb103)); have n7_ := zaa.mk ((by rw [hg]; exact Nat.ne_of_gt (blk_lt (g := gb101) (o := .cells #[.int .i64 a0_0, .int .i64 a0_1, .int .i64 a0_2, .int .i64 a0_3] 87 (0, 0)) (by (with_reducible repeat (first | refine zbd ?_ _ | refine zbk ?_ | refine zbe ?_ _)); exact BK101.out)) : gb103 ≠ gb101)); have n8_ := zaa.mk ((by rw [hg]; exact Nat.ne_of_lt (blk_lt (g := gb102) (o := .cells #[.int .i64 a1_0, .int .i64 a1_1, .int .i64 a1_2, .int .i64 a1_3] 87 (0, 0)) (by (with_reducible repeat (first | refine zbd ?_ _ | refine zbk ?_ | refine zbe ?_ _)); exact BK102.out)) : gb102 ≠ gb103)); have n9_ := zaa.mk ((by rw [hg]; exact Nat.ne_of_gt (blk_lt (g := gb102) (o := .cells #[.int .i64 a1_0, .int .i64 a1_1, .int .i64 a1_2, .int .i64 a1_3] 87 (0, 0)) (by (with_reducible repeat (first | refine zbd ?_ _ | refine zbk ?_ | refine zbe ?_ _)); exact BK102.out)) : gb103 ≠ gb102)); clear BK101; clear BK102; clear HB; have BK101 := n0_; have BK102 := n1_; have HB := n2_; have BK103 := n3_; have GW103 := n4_; have GE103 := n5_; have NB101_103 := n6_; have NB103_101 := n7_; have NB102_103 := n8_; have NB103_102 := n9_; clear n0_ n1_ n2_ n3_ n4_ n5_ n6_ n7_ n8_ n9_; clear hb hbox hg; have hnb10 := NB101_102.out; have hnc10 := NB102_101.out; have hnb11 := NB101_103.out; have hnc11 := NB103_101.out; have hcz12_0 : w9.cell? ⟨gb101, 0, none⟩ = some (.int .i64 a0_0) := (zam BK101.out 0).trans rfl; have hcz12_1 : w9.cell? ⟨gb101, 1, none⟩ = some (.int .i64 a0_1) := (zam BK101.out 1).trans rfl; have hcz12_2 : w9.cell? ⟨gb101, 2, none⟩ = some (.int .i64 a0_2) := (zam BK101.out 2).trans rfl; have hcz12_3 : w9.cell? ⟨gb101, 3, none⟩ = some (.int .i64 a0_3) := (zam BK101.out 3).trans rfl; have hfz12_0 := zav BK101.out 0; have hfz12_1 := zav BK101.out 1; have hfz12_2 := zav BK101.out 2; have hfz12_3 := zav BK101.out 3; have hnb13 := NB102_103.out; have hnc13 := NB103_102.out; have hcz14_0 : w9.cell? ⟨gb102, 0, none⟩ = some (.int .i64 a1_0) := (zam BK102.out 0).trans rfl; have hcz14_1 : w9.cell? ⟨gb102, 1, none⟩ = some (.int .i64 a1_1) := (zam BK102.out 1).trans rfl; have hcz14_2 : w9.cell? ⟨gb102, 2, none⟩ = some (.int .i64 a1_2) := (zam BK102.out 2).trans rfl; have hcz14_3 : w9.cell? ⟨gb102, 3, none⟩ = some (.int .i64 a1_3) := (zam BK102.out 3).trans rfl; have hfz14_0 := zav BK102.out 0; have hfz14_1 := zav BK102.out 1; have hfz14_2 := zav BK102.out 2; have hfz14_3 := zav BK102.out 3; have hcz15_0 : w9.cell? ⟨gb103, 0, none⟩ = some (.int .i64 0) := (zam BK103.out 0).trans rfl; have hcz15_1 : w9.cell? ⟨gb103, 1, none⟩ = some (.int .i64 0) := (zam BK103.out 1).trans rfl; have hcz15_2 : w9.cell? ⟨gb103, 2, none⟩ = some (.int .i64 0) := (zam BK103.out 2).trans rfl; have hcz15_3 : w9.cell? ⟨gb103, 3, none⟩ = some (.int .i64 0) := (zam BK103.out 3).trans rfl; have hfz15_0 := zav BK103.out 0; have hfz15_1 := zav BK103.out 1; have hfz15_2 := zav BK103.out 2; have hfz15_3 := zav BK103.out 3))
 repeat (go_quiet (first | ((with_reducible refine zaw (N := 2) rfl ?_); refine zch ?hg (N := 2) ?hd (cs := #[.int .i64 a0_0, .int .i64 a0_1, .int .i64 a0_2, .int .i64 a0_3]) (t := 87) ?hr ?_; (case hd => rfl); (case hg => rfl); (case hr => first | (go_simp; done) | (go_simp; rfl)); intro gb101 hg w7 hbox hb; have n0_ := zaa.mk (zag (by repeat (first | (with_reducible first | exact HB.out | apply zac | apply zab | apply zad) | exact HB.out)) hb); have n1_ := zaa.mk (hbox); have n2_ := zaa.mk ((by rw [hg]; exact (zae (by repeat (first | (with_reducible first | exact HB.out | apply zac | apply zab | apply zad) | exact HB.out))) : w.heap.size ≤ gb101)); have n3_ := zaa.mk ((by rw [hg]; exact (zae (by repeat (first | (with_reducible first | exact HB.out | apply zac | apply zab | apply zad) | exact HB.out))) : w.heap.size ≤ gb101)); clear HB; have HB := n0_; have BK101 := n1_; have GW101 := n2_; have GE101 := n3_; clear n0_ n1_ n2_ n3_; clear hb hbox hg) | ((with_reducible refine zaw (N := 3) rfl ?_); refine zch ?hg (N := 3) ?hd (cs := #[.int .i64 a1_0, .int .i64 a1_1, .int .i64 a1_2, .int .i64 a1_3]) (t := 87) ?hr ?_; (case hd => rfl); (case hg => rfl); (case hr => first | (go_simp; done) | (go_simp; rfl)); intro gb102 hg w8 hbox hb; have n0_ := zaa.mk (blk_below (g := gb101) (o := .cells #[.int .i64 a0_0, .int .i64 a0_1, .int .i64 a0_2, .int .i64 a0_3] 87 (0, 0)) (by (with_reducible repeat (first | refine zbd ?_ _ | refine zbk ?_ | refine zbe ?_ _)); exact BK101.out) hb); have n1_ := zaa.mk (zag (by repeat (first | (with_reducible first | exact HB.out | apply zac | apply zab | apply zad | refine zao ?_ GE101.out) | exact HB.out)) hb); have n2_ := zaa.mk (hbox); have n3_ := zaa.mk ((by rw [hg]; exact (zae (by repeat (first | (with_reducible first | exact HB.out | apply zac | apply zab | apply zad | refine zao ?_ GE101.out) | exact HB.out))) : w.heap.size ≤ gb102)); have n4_ := zaa.mk ((by rw [hg]; exact (zae (by repeat (first | (with_reducible first | exact HB.out | apply zac | apply zab | apply zad | refine zao ?_ GE101.out) | exact HB.out))) : w.heap.size ≤ gb102)); have n5_ := zaa.mk ((by rw [hg]; exact Nat.ne_of_lt (blk_lt (g := gb101) (o := .cells #[.int .i64 a0_0, .int .i64 a0_1, .int .i64 a0_2, .int .i64 a0_3] 87 (0, 0)) (by (with_reducible repeat (first | refine zbd ?_ _ | refine zbk ?_ | refine zbe ?_ _)); exact BK101.out)) : gb101 ≠ gb102)); have n6_ := zaa.mk ((by rw [hg]; exact Nat.ne_of_gt (blk_lt (g := gb101) (o := .cells #[.int .i64 a0_0, .int .i64 a0_1, .int .i64 a0_2, .int .i64 a0_3] 87 (0, 0)) (by (with_reducible repeat (first | refine zbd ?_ _ | refine zbk ?_ | refine zbe ?_ _)); exact BK101.out)) : gb102 ≠ gb101)); clear BK101; clear HB; have BK101 := n0_; have HB := n1_; have BK102 := n2_; have GW102 := n3_; have GE102 := n4_; have NB101_102 := n5_; have NB102_101 := n6_; clear n0_ n1_ n2_ n3_ n4_ n5_ n6_; clear hb hbox hg) | ((with_reducible refine zaw (N := 4) rfl ?_); refine zch ?hg (N := 4) ?hd (cs := #[.int .i64 0, .int .i64 0, .int .i64 0, .int .i64 0]) (t := 87) ?hr ?_; (case hd => rfl); (case hg => rfl); (case hr => first | (go_simp; done) | (go_simp; rfl)); intro gb103 hg w9 hbox hb; have n0_ := zaa.mk (blk_below (g := gb101) (o := .cells #[.int .i64 a0_0, .int .i64 a0_1, .int .i64 a0_2, .int .i64 a0_3] 87 (0, 0)) (by (with_reducible repeat (first | refine zbd ?_ _ | refine zbk ?_ | refine zbe ?_ _)); exact BK101.out) hb); have n1_ := zaa.mk (blk_below (g := gb102) (o := .cells #[.int .i64 a1_0, .int .i64 a1_1, .int .i64 a1_2, .int .i64 a1_3] 87 (0, 0)) (by (with_reducible repeat (first | refine zbd ?_ _ | refine zbk ?_ | refine zbe ?_ _)); exact BK102.out) hb); have n2_ := zaa.mk (zag (by repeat (first | (with_reducible first | exact HB.out | apply zac | apply zab | apply zad | refine zao ?_ GE101.out | refine zao ?_ GE102.out) | exact HB.out)) hb); have n3_ := zaa.mk (hbox); have n4_ := zaa.mk ((by rw [hg]; exact (zae (by repeat (first | (with_reducible first | exact HB.out | apply zac | apply zab | apply zad | refine zao ?_ GE101.out | refine zao ?_ GE102.out) | exact HB.out))) : w.heap.size ≤ gb103)); have n5_ := zaa.mk ((by rw [hg]; exact (zae (by repeat (first | (with_reducible first | exact HB.out | apply zac | apply zab | apply zad | refine zao ?_ GE101.out | refine zao ?_ GE102.out) | exact HB.out))) : w.heap.size ≤ gb103)); have n6_ := zaa.mk ((by rw [hg]; exact Nat.ne_of_lt (blk_lt (g := gb101) (o := .cells #[.int .i64 a0_0, .int .i64 a0_1, .int .i64 a0_2, .int .i64 a0_3] 87 (0, 0)) (by (with_reducible repeat (first | refine zbd ?_ _ | refine zbk ?_ | refine zbe ?_ _)); exact BK101.out)) : gb101 ≠ gb103)); have n7_ := zaa.mk ((by rw [hg]; exact Nat.ne_of_gt (blk_lt (g := gb101) (o := .cells #[.int .i64 a0_0, .int .i64 a0_1, .int .i64 a0_2, .int .i64 a0_3] 87 (0, 0)) (by (with_reducible repeat (first | refine zbd ?_ _ | refine zbk ?_ | refine zbe ?_ _)); exact BK101.out)) : gb103 ≠ gb101)); have n8_ := zaa.mk ((by rw [hg]; exact Nat.ne_of_lt (blk_lt (g := gb102) (o := .cells #[.int .i64 a1_0, .int .i64 a1_1, .int .i64 a1_2, .int .i64 a1_3] 87 (0, 0)) (by (with_reducible repeat (first | refine zbd ?_ _ | refine zbk ?_ | refine zbe ?_ _)); exact BK102.out)) : gb102 ≠ gb103)); have n9_ := zaa.mk ((by rw [hg]; exact Nat.ne_of_gt (blk_lt (g := gb102) (o := .cells #[.int .i64 a1_0, .int .i64 a1_1, .int .i64 a1_2, .int .i64 a1_3] 87 (0, 0)) (by (with_reducible repeat (first | refine zbd ?_ _ | refine zbk ?_ | refine zbe ?_ _)); exact BK102.out)) : gb103 ≠ gb102)); clear BK101; clear BK102; clear HB; have BK101 := n0_; have BK102 := n1_; have HB := n2_; have BK103 := n3_; have GW103 := n4_; have GE103 := n5_; have NB101_103 := n6_; have NB103_101 := n7_; have NB102_103 := n8_; have NB103_102 := n9_; clear n0_ n1_ n2_ n3_ n4_ n5_ n6_ n7_ n8_ n9_; clear hb hbox hg; have hnb10 := NB101_102.out; have hnc10 := NB102_101.out; have hnb11 := NB101_103.out; have hnc11 := NB103_101.out; have hcz12_0 : w9.cell? ⟨gb101, 0, none⟩ = some (.int .i64 a0_0) := (zam BK101.out 0).trans rfl; have hcz12_1 : w9.cell? ⟨gb101, 1, none⟩ = some (.int .i64 a0_1) := (zam BK101.out 1).trans rfl; have hcz12_2 : w9.cell? ⟨gb101, 2, none⟩ = some (.int .i64 a0_2) := (zam BK101.out 2).trans rfl; have hcz12_3 : w9.cell? ⟨gb101, 3, none⟩ = some (.int .i64 a0_3) := (zam BK101.out 3).trans rfl; have hfz12_0 := zav BK101.out 0; have hfz12_1 := zav BK101.out 1; have hfz12_2 := zav BK101.out 2; have hfz12_3 := zav BK101.out 3; have hnb13 := NB102_103.out; have hnc13 := NB103_102.out; have hcz14_0 : w9.cell? ⟨gb102, 0, none⟩ = some (.int .i64 a1_0) := (zam BK102.out 0).trans rfl; have hcz14_1 : w9.cell? ⟨gb102, 1, none⟩ = some (.int .i64 a1_1) := (zam BK102.out 1).trans rfl; have hcz14_2 : w9.cell? ⟨gb102, 2, none⟩ = some (.int .i64 a1_2) := (zam BK102.out 2).trans rfl; have hcz14_3 : w9.cell? ⟨gb102, 3, none⟩ = some (.int .i64 a1_3) := (zam BK102.out 3).trans rfl; have hfz14_0 := zav BK102.out 0; have hfz14_1 := zav BK102.out 1; have hfz14_2 := zav BK102.out 2; have hfz14_3 := zav BK102.out 3; have hcz15_0 : w9.cell? ⟨gb103, 0, none⟩ = some (.int .i64 0) := (zam BK103.out 0).trans rfl; have hcz15_1 : w9.cell? ⟨gb103, 1, none⟩ = some (.int .i64 0) := (zam BK103.out 1).trans rfl; have hcz15_2 : w9.cell? ⟨gb103, 2, none⟩ = some (.int .i64 0) := (zam BK103.out 2).trans rfl; have hcz15_3 : w9.cell? ⟨gb103, 3, none⟩ = some (.int .i64 0) := (zam BK103.out 3).trans rfl; have hfz15_0 := zav BK103.out 0; have hfz15_1 := zav BK103.out 1; have hfz15_2 := zav BK103.out 2; have hfz15_3 := zav BK103.out 3)); try go_wp2_with (first | ((with_reducible refine zaw (N := 2) rfl ?_); refine zch ?hg (N := 2) ?hd (cs := #[.int .i64 a0_0, .int .i64 a0_1, .int .i64 a0_2, .int .i64 a0_3]) (t := 87) ?hr ?_; (case hd => rfl); (case hg => rfl); (case hr => first | (go_simp; done) | (go_simp; rfl)); intro gb101 hg w7 hbox hb; have n0_ := zaa.mk (zag (by repeat (first | (with_reducible first | exact HB.out | apply zac | apply zab | apply zad) | exact HB.out)) hb); have n1_ := zaa.mk (hbox); have n2_ := zaa.mk ((by rw [hg]; exact (zae (by repeat (first | (with_reducible first | exact HB.out | apply zac | apply zab | apply zad) | exact HB.out))) : w.heap.size ≤ gb101)); have n3_ := zaa.mk ((by rw [hg]; exact (zae (by repeat (first | (with_reducible first | exact HB.out | apply zac | apply zab | apply zad) | exact HB.out))) : w.heap.size ≤ gb101)); clear HB; have HB := n0_; have BK101 := n1_; have GW101 := n2_; have GE101 := n3_; clear n0_ n1_ n2_ n3_; clear hb hbox hg) | ((with_reducible refine zaw (N := 3) rfl ?_); refine zch ?hg (N := 3) ?hd (cs := #[.int .i64 a1_0, .int .i64 a1_1, .int .i64 a1_2, .int .i64 a1_3]) (t := 87) ?hr ?_; (case hd => rfl); (case hg => rfl); (case hr => first | (go_simp; done) | (go_simp; rfl)); intro gb102 hg w8 hbox hb; have n0_ := zaa.mk (blk_below (g := gb101) (o := .cells #[.int .i64 a0_0, .int .i64 a0_1, .int .i64 a0_2, .int .i64 a0_3] 87 (0, 0)) (by (with_reducible repeat (first | refine zbd ?_ _ | refine zbk ?_ | refine zbe ?_ _)); exact BK101.out) hb); have n1_ := zaa.mk (zag (by repeat (first | (with_reducible first | exact HB.out | apply zac | apply zab | apply zad | refine zao ?_ GE101.out) | exact HB.out)) hb); have n2_ := zaa.mk (hbox); have n3_ := zaa.mk ((by rw [hg]; exact (zae (by repeat (first | (with_reducible first | exact HB.out | apply zac | apply zab | apply zad | refine zao ?_ GE101.out) | exact HB.out))) : w.heap.size ≤ gb102)); have n4_ := zaa.mk ((by rw [hg]; exact (zae (by repeat (first | (with_reducible first | exact HB.out | apply zac | apply zab | apply zad | refine zao ?_ GE101.out) | exact HB.out))) : w.heap.size ≤ gb102)); have n5_ := zaa.mk ((by rw [hg]; exact Nat.ne_of_lt (blk_lt (g := gb101) (o := .cells #[.int .i64 a0_0, .int .i64 a0_1, .int .i64 a0_2, .int .i64 a0_3] 87 (0, 0)) (by (with_reducible repeat (first | refine zbd ?_ _ | refine zbk ?_ | refine zbe ?_ _)); exact BK101.out)) : gb101 ≠ gb102)); have n6_ := zaa.mk ((by rw [hg]; exact Nat.ne_of_gt (blk_lt (g := gb101) (o := .cells #[.int .i64 a0_0, .int .i64 a0_1, .int .i64 a0_2, .int .i64 a0_3] 87 (0, 0)) (by (with_reducible repeat (first | refine zbd ?_ _ | refine zbk ?_ | refine zbe ?_ _)); exact BK101.out)) : gb102 ≠ gb101)); clear BK101; clear HB; have BK101 := n0_; have HB := n1_; have BK102 := n2_; have GW102 := n3_; have GE102 := n4_; have NB101_102 := n5_; have NB102_101 := n6_; clear n0_ n1_ n2_ n3_ n4_ n5_ n6_; clear hb hbox hg) | ((with_reducible refine zaw (N := 4) rfl ?_); refine zch ?hg (N := 4) ?hd (cs := #[.int .i64 0, .int .i64 0, .int .i64 0, .int .i64 0]) (t := 87) ?hr ?_; (case hd => rfl); (case hg => rfl); (case hr => first | (go_simp; done) | (go_simp; rfl)); intro gb103 hg w9 hbox hb; have n0_ := zaa.mk (blk_below (g := gb101) (o := .cells #[.int .i64 a0_0, .int .i64 a0_1, .int .i64 a0_2, .int .i64 a0_3] 87 (0, 0)) (by (with_reducible repeat (first | refine zbd ?_ _ | refine zbk ?_ | refine zbe ?_ _)); exact BK101.out) hb); have n1_ := zaa.mk (blk_below (g := gb102) (o := .cells #[.int .i64 a1_0, .int .i64 a1_1, .int .i64 a1_2, .int .i64 a1_3] 87 (0, 0)) (by (with_reducible repeat (first | refine zbd ?_ _ | refine zbk ?_ | refine zbe ?_ _)); exact BK102.out) hb); have n2_ := zaa.mk (zag (by repeat (first | (with_reducible first | exact HB.out | apply zac | apply zab | apply zad | refine zao ?_ GE101.out | refine zao ?_ GE102.out) | exact HB.out)) hb); have n3_ := zaa.mk (hbox); have n4_ := zaa.mk ((by rw [hg]; exact (zae (by repeat (first | (with_reducible first | exact HB.out | apply zac | apply zab | apply zad | refine zao ?_ GE101.out | refine zao ?_ GE102.out) | exact HB.out))) : w.heap.size ≤ gb103)); have n5_ := zaa.mk ((by rw [hg]; exact (zae (by repeat (first | (with_reducible first | exact HB.out | apply zac | apply zab | apply zad | refine zao ?_ GE101.out | refine zao ?_ GE102.out) | exact HB.out))) : w.heap.size ≤ gb103)); have n6_ := zaa.mk ((by rw [hg]; exact Nat.ne_of_lt (blk_lt (g := gb101) (o := .cells #[.int .i64 a0_0, .int .i64 a0_1, .int .i64 a0_2, .int .i64 a0_3] 87 (0, 0)) (by (with_reducible repeat (first | refine zbd ?_ _ | refine zbk ?_ | refine zbe ?_ _)); exact BK101.out)) : gb101 ≠ gb103)); have n7_ := zaa.mk ((by rw [hg]; exact Nat.ne_of_gt (blk_lt (g := gb101) (o := .cells #[.int .i64 a0_0, .int .i64 a0_1, .int .i64 a0_2, .int .i64 a0_3] 87 (0, 0)) (by (with_reducible repeat (first | refine zbd ?_ _ | refine zbk ?_ | refine zbe ?_ _)); exact BK101.out)) : gb103 ≠ gb101)); have n8_ := zaa.mk ((by rw [hg]; exact Nat.ne_of_lt (blk_lt (g := gb102) (o := .cells #[.int .i64 a1_0, .int .i64 a1_1, .int .i64 a1_2, .int .i64 a1_3] 87 (0, 0)) (by (with_reducible repeat (first | refine zbd ?_ _ | refine zbk ?_ | refine zbe ?_ _)); exact BK102.out)) : gb102 ≠ gb103)); have n9_ := zaa.mk ((by rw [hg]; exact Nat.ne_of_gt (blk_lt (g := gb102) (o := .cells #[.int .i64 a1_0, .int .i64 a1_1, .int .i64 a1_2, .int .i64 a1_3] 87 (0, 0)) (by (with_reducible repeat (first | refine zbd ?_ _ | refine zbk ?_ | refine zbe ?_ _)); exact BK102.out)) : gb103 ≠ gb102)); clear BK101; clear BK102; clear HB; have BK101 := n0_; have BK102 := n1_; have HB := n2_; have BK103 := n3_; have GW103 := n4_; have GE103 := n5_; have NB101_103 := n6_; have NB103_101 := n7_; have NB102_103 := n8_; have NB103_102 := n9_; clear n0_ n1_ n2_ n3_ n4_ n5_ n6_ n7_ n8_ n9_; clear hb hbox hg; have hnb10 := NB101_102.out; have hnc10 := NB102_101.out; have hnb11 := NB101_103.out; have hnc11 := NB103_101.out; have hcz12_0 : w9.cell? ⟨gb101, 0, none⟩ = some (.int .i64 a0_0) := (zam BK101.out 0).trans rfl; have hcz12_1 : w9.cell? ⟨gb101, 1, none⟩ = some (.int .i64 a0_1) := (zam BK101.out 1).trans rfl; have hcz12_2 : w9.cell? ⟨gb101, 2, none⟩ = some (.int .i64 a0_2) := (zam BK101.out 2).trans rfl; have hcz12_3 : w9.cell? ⟨gb101, 3, none⟩ = some (.int .i64 a0_3) := (zam BK101.out 3).trans rfl; have hfz12_0 := zav BK101.out 0; have hfz12_1 := zav BK101.out 1; have hfz12_2 := zav BK101.out 2; have hfz12_3 := zav BK101.out 3; have hnb13 := NB102_103.out; have hnc13 := NB103_102.out; have hcz14_0 : w9.cell? ⟨gb102, 0, none⟩ = some (.int .i64 a1_0) := (zam BK102.out 0).trans rfl; have hcz14_1 : w9.cell? ⟨gb102, 1, none⟩ = some (.int .i64 a1_1) := (zam BK102.out 1).trans rfl; have hcz14_2 : w9.cell? ⟨gb102, 2, none⟩ = some (.int .i64 a1_2) := (zam BK102.out 2).trans rfl; have hcz14_3 : w9.cell? ⟨gb102, 3, none⟩ = some (.int .i64 a1_3) := (zam BK102.out 3).trans rfl; have hfz14_0 := zav BK102.out 0; have hfz14_1 := zav BK102.out 1; have hfz14_2 := zav BK102.out 2; have hfz14_3 := zav BK102.out 3; have hcz15_0 : w9.cell? ⟨gb103, 0, none⟩ = some (.int .i64 0) := (zam BK103.out 0).trans rfl; have hcz15_1 : w9.cell? ⟨gb103, 1, none⟩ = some (.int .i64 0) := (zam BK103.out 1).trans rfl; have hcz15_2 : w9.cell? ⟨gb103, 2, none⟩ = some (.int .i64 0) := (zam BK103.out 2).trans rfl; have hcz15_3 : w9.cell? ⟨gb103, 3, none⟩ = some (.int .i64 0) := (zam BK103.out 3).trans rfl; have hfz15_0 := zav BK103.out 0; have hfz15_1 := zav BK103.out 1; have hfz15_2 := zav BK103.out 2; have hfz15_3 := zav BK103.out 3)))
 refine bodyPost_ret (results_cell_row rfl _ _ gb103 87 #[.int .i64 ji3, .int .i64 ji4, .int .i64 (wrap64 ((ji5) - (ji3))), .int .i64 (wrap64 ((ji6) - (ji4)))] (0, 0) _ rfl (by (with_reducible repeat (first | refine zbd ?_ _ | refine zbk ?_ | refine zbe ?_ _)); refine blk_put (cs := #[.int .i64 ji3, .int .i64 ji4, .int .i64 (wrap64 ((ji5) - (ji3))), .int .i64 0]) ?_ 3 _ rfl; (with_reducible repeat (first | refine zbd ?_ _ | refine zbk ?_ | refine zbe ?_ _)); refine blk_put (cs := #[.int .i64 ji3, .int .i64 ji4, .int .i64 0, .int .i64 0]) ?_ 2 _ rfl; (with_reducible repeat (first | refine zbd ?_ _ | refine zbk ?_ | refine zbe ?_ _)); refine blk_put (cs := #[.int .i64 ji3, .int .i64 0, .int .i64 0, .int .i64 0]) ?_ 1 _ rfl; (with_reducible repeat (first | refine zbd ?_ _ | refine zbk ?_ | refine zbe ?_ _)); refine blk_put (cs := #[.int .i64 0, .int .i64 0, .int .i64 0, .int .i64 0]) ?_ 0 _ rfl; (with_reducible repeat (first | refine zbd ?_ _ | refine zbk ?_ | refine zbe ?_ _)); exact BK103.out) Try.underlying87 rfl (by kernel_rfl)) rfl ?_
 exact ⟨by first | rfl | (simp [zak, zaj] <;> rfl) | (simp only [← hji3, ← hji4, ← hji5, ← hji6]; first | rfl | (simp [zak, zaj] <;> rfl)) | (simp [*, zak, zaj] <;> rfl), by repeat (first | (with_reducible first | exact HB.out | apply zac | apply zab | apply zad | refine zao ?_ GE101.out | refine zao ?_ GE102.out | refine zao ?_ GE103.out) | exact HB.out)⟩
end Go.Proofs.Ytoijjkhdfooapaa.PC
