/- Part 2 of the proof of FnExactPlanTight: what the program's functions and the reference's compute. -/
import Derived.Maps.OwnSet
import Derived.Maps.Views
import Derived.Test.YtickdcegnlldjaaProg
import Derived.Below
import Derived.Deep.Draws
import Derived.Deep.AppendLies
import Derived.Maps.AppendAt
import Derived.OwnWalk
import Derived.Laws.BytesArg
import Derived.Laws.MakeOwn
import Derived.Laws.OwnMore
import Derived.Deep.OwnRows
import Derived.Tactics
import Derived.Lib.ConvBytes
import Derived.Laws.Slices
import Derived.WalkKit
import Derived.KernelRfl
import Derived.RowKit3
import Derived.Deep.LoopGhost
import Derived.Deep.QuietTactic
import Derived.BigQuiet
import Derived.WideLaws
import Derived.Deep.DeepCutAuto
import Derived.Deep.CutBlock
import Derived.Deep.RegionHeld3
import Derived.Laws.Rows
import Derived.Lib.AppendStr
import Derived.ArgAppend
import Derived.Laws.IdiomCopy
import Derived.OrdersHeld
import Derived.Laws.BitsLemmas
import Derived.RowKit
import Derived.Test.YtickdcegnlldjaaWWords
import Derived.Test.YtickdcegnlldjaaWLast
import Derived.Test.YtickdcegnlldjaaWApart
import Derived.Test.YtickdcegnlldjaaWFoot
import Derived.Test.YtickdcegnlldjaaWKept
import Derived.Test.YtickdcegnlldjaaWShare
import Derived.Test.YtickdcegnlldjaaWN
import Derived.Test.YtickdcegnlldjaaWRepsOne
import Derived.Test.YtickdcegnlldjaaWMore
import Derived.Shelf.Strings.Builder1
import Derived.Test.YtickdcegnlldjaaCLTa
set_option linter.unusedSimpArgs false
set_option linter.unusedVariables false
namespace Go.Proofs.Ytickdcegnlldjaa.PB
open Go.RowKit Go.Proofs.YtickdcegnlldjaaW.PrintWords Go.Proofs.YtickdcegnlldjaaW.PrintLast Go.Proofs.YtickdcegnlldjaaW.PrintMore
attribute [local go_sem] max2_int min2_int max_two min_two max_three min_three max_four min_four   -- for this text's walks alone
def spec_l1Once.l0 : Nat → List ByteArray → List ByteArray → Int → Option (List ByteArray)
 | 0, _, _, _ => none
 | k + 1, x0, x3, x4 => if x4 < (x0.length : Int) then (if x4 = 0 then (if 0 ≤ x4 then (if x3.length < 8796093022208 then (spec_l1Once.l0 k x0 (x3 ++ [rdOf ByteArray.empty x0 x4]) (wrap64 (x4 + 1))) else (none)) else (none)) else (if 0 ≤ x4 then (if 0 ≤ (wrap64 (x4 - 1)) then (if (wrap64 (x4 - 1)) < (x0.length : Int) then (if (rdOf ByteArray.empty x0 x4).toList = (rdOf ByteArray.empty x0 (wrap64 (x4 - 1))).toList then (spec_l1Once.l0 k x0 x3 (wrap64 (x4 + 1))) else (if x3.length < 8796093022208 then (spec_l1Once.l0 k x0 (x3 ++ [rdOf ByteArray.empty x0 x4]) (wrap64 (x4 + 1))) else (none))) else (none)) else (none)) else (none))) else (some x3)
def spec_l1Once.f (k : Nat) (l0 : List ByteArray) : Option (List ByteArray) := spec_l1Once.l0 k l0 (([] : List ByteArray)) 0
set_option maxHeartbeats 8000000 in
set_option maxRecDepth 100000 in
theorem spec_l1Once.calls (k : Nat) (A0 : Option Addr) (c0 : Nat) (l0 : List ByteArray) (r : List ByteArray) (w : World) (hr0 : Kd.C Kd.string w A0 l0.length l0) (hc0 : l0.length ≤ c0) (h : spec_l1Once.f k l0 = some r) :
  Calls Try.prog 97 #[.slice A0 l0.length c0] w fun e w' => ∃ v0_ : Value, e = .returned (v0_) ∧ Kd.R Kd.string 9 w' w.heap.size (fun _ => True) v0_ r ∧ Below w.heap.size w w' := by
 have HR0 := Aside0.mk hr0
 have HC0 := Aside0.mk hc0
 clear hr0 hc0
 have HB := Aside0.mk (Below.refl w.heap.size w)
 have H : (spec_l1Once.l0 k l0 (([] : List ByteArray)) 0) = some r := h
 clear h
 obtain ⟨y450, hy450⟩ : ∃ y_ : List ByteArray, y_ = (([] : List ByteArray)) := ⟨_, rfl⟩
 replace H : (spec_l1Once.l0 k l0 y450 0) = some r := by first | (rw [hy450]; with_reducible exact H) | (have H2_ := (Option.bind_some _ _).symm.trans H; rw [hy450]; with_reducible exact H2_) | (have H2_ := (Option.bind_some _ _).symm.trans H; with_reducible exact H2_) | with_reducible exact H | (rw [hy450]; exact H) | exact H
 have Ny450 := Aside0.mk hy450
 clear hy450
 have H' := Aside0.mk H
 clear H
 go_enter Try.func97, Try.ntmps97
 go_wp2_with (first | ((with_reducible refine gate_dst (N := 5) rfl ?_); refine Kd.R_lit Kd.string _ 9 ?hg (N := 5) ?hd (xs := ([] : List ByteArray)) (inner := []) (ok := fun _ => True) (okp := fun _ => True) ?hr ?hp (fun _ hk => hk) trivial (Below.refl _ _) (Nat.le_refl _) (by simp) ?_; (case hd => rfl); (case hg => rfl); (case hr => first | (go_simp; done) | (go_simp; rfl)); (case hp => exact (Reps.none _ _)); intro v451 w2 ho3 hb hg_ hnew_; clear hg_ hnew_; (first | rw [← Ny450.out] at ho3 | (simp only [Int.reduceToNat] at ho3; rw [← Ny450.out] at ho3)); have n0_ := Aside0.mk (Kd.R_lower ho3 (below_size (by repeat (first | (with_reducible first | exact HB.out | apply below_alloc | apply pw_below_drewN | apply below_drew1) | exact HB.out)))); have n1_ := Aside0.mk (below_step (by repeat (first | (with_reducible first | exact HB.out | apply below_alloc | apply pw_below_drewN | apply below_drew1) | exact HB.out)) hb); clear HB; have HO452 := n0_; have HB := n1_; clear n0_ n1_; clear hb ho3))
 repeat (go_quiet (first | ((with_reducible refine gate_dst (N := 5) rfl ?_); refine Kd.R_lit Kd.string _ 9 ?hg (N := 5) ?hd (xs := ([] : List ByteArray)) (inner := []) (ok := fun _ => True) (okp := fun _ => True) ?hr ?hp (fun _ hk => hk) trivial (Below.refl _ _) (Nat.le_refl _) (by simp) ?_; (case hd => rfl); (case hg => rfl); (case hr => first | (go_simp; done) | (go_simp; rfl)); (case hp => exact (Reps.none _ _)); intro v451 w2 ho3 hb hg_ hnew_; clear hg_ hnew_; (first | rw [← Ny450.out] at ho3 | (simp only [Int.reduceToNat] at ho3; rw [← Ny450.out] at ho3)); have n0_ := Aside0.mk (Kd.R_lower ho3 (below_size (by repeat (first | (with_reducible first | exact HB.out | apply below_alloc | apply pw_below_drewN | apply below_drew1) | exact HB.out)))); have n1_ := Aside0.mk (below_step (by repeat (first | (with_reducible first | exact HB.out | apply below_alloc | apply pw_below_drewN | apply below_drew1) | exact HB.out)) hb); clear HB; have HO452 := n0_; have HB := n1_; clear n0_ n1_; clear hb ho3)); try go_wp2_with (first | ((with_reducible refine gate_dst (N := 5) rfl ?_); refine Kd.R_lit Kd.string _ 9 ?hg (N := 5) ?hd (xs := ([] : List ByteArray)) (inner := []) (ok := fun _ => True) (okp := fun _ => True) ?hr ?hp (fun _ hk => hk) trivial (Below.refl _ _) (Nat.le_refl _) (by simp) ?_; (case hd => rfl); (case hg => rfl); (case hr => first | (go_simp; done) | (go_simp; rfl)); (case hp => exact (Reps.none _ _)); intro v451 w2 ho3 hb hg_ hnew_; clear hg_ hnew_; (first | rw [← Ny450.out] at ho3 | (simp only [Int.reduceToNat] at ho3; rw [← Ny450.out] at ho3)); have n0_ := Aside0.mk (Kd.R_lower ho3 (below_size (by repeat (first | (with_reducible first | exact HB.out | apply below_alloc | apply pw_below_drewN | apply below_drew1) | exact HB.out)))); have n1_ := Aside0.mk (below_step (by repeat (first | (with_reducible first | exact HB.out | apply below_alloc | apply pw_below_drewN | apply below_drew1) | exact HB.out)) hb); clear HB; have HO452 := n0_; have HB := n1_; clear n0_ n1_; clear hb ho3)))
 go_loopg [3, 4] k (fun kq v3 v4 w' => ∃ (x3_1 : List ByteArray) (x4_1 : Int), v4 = .int .i64 x4_1 ∧ Aside0 (spec_l1Once.l0 kq l0 x3_1 x4_1 = some r) ∧ Aside0 (kq ≤ k) ∧ Aside0 (Kd.R Kd.string 9 w' w.heap.size (fun _ => True) v3 x3_1) ∧ Aside0 (Below w.heap.size w w'))
 case atStart => exact ⟨(y450), (0), (by first | rfl | (simp; done) | (simp [*]; done)), H', ⟨Nat.le_refl _⟩, ⟨by (with_reducible repeat (first | apply Kd.R_alloc | apply Kd.R_drewN | apply Kd.R_drew)); exact HO452.out⟩, ⟨by repeat (first | (with_reducible first | exact HB.out | apply below_alloc | apply pw_below_drewN | apply below_drew1) | exact HB.out)⟩⟩
 case round =>
  clear H'
  try clear p2
  obtain ⟨x3_1, x4_1, rfl, HA, HK1, HO_3, HB⟩ := hrel
  cases gk with
  | zero => exact absurd HA.out (by simp [spec_l1Once.l0])
  | succ k1 =>
   have H := HA.out
   clear HA
   simp only [spec_l1Once.l0] at H
   by_cases c4 : x4_1 < (l0.length : Int)
   ·rw [if_pos c4] at H
    have c4b0 : decide (x4_1 < (l0.length : Int)) = true := decide_eq_true c4
    clear c4
    by_cases c5 : x4_1 = 0
    ·rw [if_pos c5] at H
     have c5b0 : (x4_1 == 0) = true := beq_iff_eq.mpr c5
     have c5b1 : (x4_1 != 0) = false := bne_eq_false_iff_eq.mpr c5
     clear c5
     by_cases c6 : 0 ≤ x4_1
     ·rw [if_pos c6] at H
      have c6b0 : decide (0 ≤ x4_1) = true := decide_eq_true c6
      clear c6
      by_cases c7 : x3_1.length < 8796093022208
      ·rw [if_pos c7] at H
       have LMc7 := Aside0.mk c7
       clear c7
       obtain ⟨y454, hy454⟩ : ∃ y_ : List ByteArray, y_ = (x3_1 ++ [rdOf ByteArray.empty l0 x4_1]) := ⟨_, rfl⟩
       replace H : (spec_l1Once.l0 k1 l0 y454 (wrap64 (x4_1 + 1))) = some r := by first | (rw [hy454]; with_reducible exact H) | (have H2_ := (Option.bind_some _ _).symm.trans H; rw [hy454]; with_reducible exact H2_) | (have H2_ := (Option.bind_some _ _).symm.trans H; with_reducible exact H2_) | with_reducible exact H | (rw [hy454]; exact H) | exact H
       have Ny454 := Aside0.mk hy454
       clear hy454
       have H' := Aside0.mk H
       clear H
       have p453 : 0 ≤ (x4_1 : Int) := of_decide_eq_true (by first | (with_reducible assumption) | assumption)
       have q453 : x4_1 < (l0.length : Int) := of_decide_eq_true (by first | (with_reducible assumption) | assumption)
       obtain ⟨ad453, e453, hx453_0⟩ := Kd.at_string HR0.out x4_1 p453 q453
       cases e453
       replace hx453_0 := (HB.out.cell (World.block_lt_of_cell? w _ hx453_0)).trans hx453_0
       replace p453 := eq_true p453
       replace q453 := eq_true q453
       go_wp2_with (first | ((with_reducible refine gate_builtin (b := .append) (xs := #[.tmp 26, .tmp 31]) rfl ?_); at_builtin; refine Kd.R_append Kd.string (w0 := w) w.heap.size rfl (.tmp 26) (.tmp 31) 22 9 (.string ⟨#[]⟩) 16 rfl Try.underlying22 info9 rfl (by decide) (by omega) u3 x3_1 (rdOf ByteArray.empty l0 x4_1) [.string (rdOf ByteArray.empty l0 x4_1)] (fun _ => True) (fun _ => False) rfl rfl ?aP (fun _ hk => hk.elim) ?aF ?aO ?aB ?aS ?aL ?_; (case aP => exact rfl); (case aB => exact (by repeat (first | (with_reducible first | exact HB.out | apply below_alloc | apply pw_below_drewN | apply below_drew1) | exact HB.out))); (case aF => exact (fun _ _ => trivial)); (case aO => exact (by (with_reducible repeat (first | apply Kd.R_alloc | apply Kd.R_drewN | apply Kd.R_drew)); exact HO_3.out)); (case aS => exact (below_size (by repeat (first | (with_reducible first | exact HB.out | apply below_alloc | apply pw_below_drewN | apply below_drew1) | exact HB.out)))); (case aL => have := LMc7.out; omega); intro v455 w8 ho hb hg hat; rw [← Ny454.out] at ho; have n0_ := Aside0.mk (hb); have n1_ := Aside0.mk (ho); clear HB; clear HO_3; have HB := n0_; have HO456 := n1_; clear n0_ n1_; clear ho hb hg hat))
       repeat (go_quiet (first | ((with_reducible refine gate_builtin (b := .append) (xs := #[.tmp 26, .tmp 31]) rfl ?_); at_builtin; refine Kd.R_append Kd.string (w0 := w) w.heap.size rfl (.tmp 26) (.tmp 31) 22 9 (.string ⟨#[]⟩) 16 rfl Try.underlying22 info9 rfl (by decide) (by omega) u3 x3_1 (rdOf ByteArray.empty l0 x4_1) [.string (rdOf ByteArray.empty l0 x4_1)] (fun _ => True) (fun _ => False) rfl rfl ?aP (fun _ hk => hk.elim) ?aF ?aO ?aB ?aS ?aL ?_; (case aP => exact rfl); (case aB => exact (by repeat (first | (with_reducible first | exact HB.out | apply below_alloc | apply pw_below_drewN | apply below_drew1) | exact HB.out))); (case aF => exact (fun _ _ => trivial)); (case aO => exact (by (with_reducible repeat (first | apply Kd.R_alloc | apply Kd.R_drewN | apply Kd.R_drew)); exact HO_3.out)); (case aS => exact (below_size (by repeat (first | (with_reducible first | exact HB.out | apply below_alloc | apply pw_below_drewN | apply below_drew1) | exact HB.out)))); (case aL => have := LMc7.out; omega); intro v455 w8 ho hb hg hat; rw [← Ny454.out] at ho; have n0_ := Aside0.mk (hb); have n1_ := Aside0.mk (ho); clear HB; clear HO_3; have HB := n0_; have HO456 := n1_; clear n0_ n1_; clear ho hb hg hat)); try go_wp2_with (first | ((with_reducible refine gate_builtin (b := .append) (xs := #[.tmp 26, .tmp 31]) rfl ?_); at_builtin; refine Kd.R_append Kd.string (w0 := w) w.heap.size rfl (.tmp 26) (.tmp 31) 22 9 (.string ⟨#[]⟩) 16 rfl Try.underlying22 info9 rfl (by decide) (by omega) u3 x3_1 (rdOf ByteArray.empty l0 x4_1) [.string (rdOf ByteArray.empty l0 x4_1)] (fun _ => True) (fun _ => False) rfl rfl ?aP (fun _ hk => hk.elim) ?aF ?aO ?aB ?aS ?aL ?_; (case aP => exact rfl); (case aB => exact (by repeat (first | (with_reducible first | exact HB.out | apply below_alloc | apply pw_below_drewN | apply below_drew1) | exact HB.out))); (case aF => exact (fun _ _ => trivial)); (case aO => exact (by (with_reducible repeat (first | apply Kd.R_alloc | apply Kd.R_drewN | apply Kd.R_drew)); exact HO_3.out)); (case aS => exact (below_size (by repeat (first | (with_reducible first | exact HB.out | apply below_alloc | apply pw_below_drewN | apply below_drew1) | exact HB.out)))); (case aL => have := LMc7.out; omega); intro v455 w8 ho hb hg hat; rw [← Ny454.out] at ho; have n0_ := Aside0.mk (hb); have n1_ := Aside0.mk (ho); clear HB; clear HO_3; have HB := n0_; have HO456 := n1_; clear n0_ n1_; clear ho hb hg hat)))
       go_roundg k1
       case measure => have := HK1.out; omega
       case rel => exact ⟨(y454), (wrap64 (x4_1 + 1)), (by first | rfl | (simp; done) | (simp [*]; done)), H', ⟨by have := HK1.out; omega⟩, ⟨by (with_reducible repeat (first | apply Kd.R_alloc | apply Kd.R_drewN | apply Kd.R_drew)); exact HO456.out⟩, ⟨by repeat (first | (with_reducible first | exact HB.out | apply below_alloc | apply pw_below_drewN | apply below_drew1) | exact HB.out)⟩⟩
      ·rw [if_neg c7] at H
       exact absurd H (by simp)
     ·rw [if_neg c6] at H
      exact absurd H (by simp)
    ·rw [if_neg c5] at H
     have c5b0 : (x4_1 == 0) = false := beq_eq_false_iff_ne.mpr c5
     have c5b1 : (x4_1 != 0) = true := bne_iff_ne.mpr c5
     by_cases c9 : 0 ≤ x4_1
     ·rw [if_pos c9] at H
      have c9b0 : decide (0 ≤ x4_1) = true := decide_eq_true c9
      clear c9
      obtain ⟨ji10, hji10⟩ : ∃ j_ : Int, (wrap64 (x4_1 - 1)) = j_ := ⟨_, rfl⟩
      replace H : (if 0 ≤ (ji10) then (if (ji10) < (l0.length : Int) then (if (rdOf ByteArray.empty l0 x4_1).toList = (rdOf ByteArray.empty l0 (ji10)).toList then (spec_l1Once.l0 k1 l0 x3_1 (wrap64 (x4_1 + 1))) else (if x3_1.length < 8796093022208 then (spec_l1Once.l0 k1 l0 (x3_1 ++ [rdOf ByteArray.empty l0 x4_1]) (wrap64 (x4_1 + 1))) else (none))) else (none)) else (none)) = some r := by first | (rw [hji10] at H; exact H) | (simp only [hji10] at H ⊢; exact H)
      have hji10w : (IntKind.i64.wrap (x4_1 - 1)) = ji10 := (i64_w _).trans hji10
      by_cases c11 : 0 ≤ (ji10)
      ·rw [if_pos c11] at H
       have c11b0 : decide (0 ≤ (ji10)) = true := decide_eq_true c11
       clear c11
       by_cases c12 : (ji10) < (l0.length : Int)
       ·rw [if_pos c12] at H
        have c12b0 : decide ((ji10) < (l0.length : Int)) = true := decide_eq_true c12
        clear c12
        by_cases c13 : (rdOf ByteArray.empty l0 x4_1).toList = (rdOf ByteArray.empty l0 (ji10)).toList
        ·rw [if_pos c13] at H
         have c13b0 : ((rdOf ByteArray.empty l0 x4_1).toList == (rdOf ByteArray.empty l0 (ji10)).toList) = true := beq_iff_eq.mpr c13
         have c13b1 : ((rdOf ByteArray.empty l0 x4_1).toList != (rdOf ByteArray.empty l0 (ji10)).toList) = false := bne_eq_false_iff_eq.mpr c13
         clear c13
         have H' := Aside0.mk H
         clear H
         have p457 : 0 ≤ (x4_1 : Int) := of_decide_eq_true (by first | (with_reducible assumption) | assumption)
         have q457 : x4_1 < (l0.length : Int) := of_decide_eq_true (by first | (with_reducible assumption) | assumption)
         obtain ⟨ad457, e457, hx457_0⟩ := Kd.at_string HR0.out x4_1 p457 q457
         cases e457
         replace hx457_0 := (HB.out.cell (World.block_lt_of_cell? w _ hx457_0)).trans hx457_0
         replace p457 := eq_true p457
         replace q457 := eq_true q457
         have p458 : 0 ≤ ((ji10) : Int) := of_decide_eq_true (by first | (with_reducible assumption) | assumption)
         have q458 : (ji10) < (l0.length : Int) := of_decide_eq_true (by first | (with_reducible assumption) | assumption)
         obtain ⟨ad458, e458, hx458_0⟩ := Kd.at_string HR0.out (ji10) p458 q458
         obtain rfl : ad457 = ad458 := (by injection e458)
         replace hx458_0 := (HB.out.cell (World.block_lt_of_cell? w _ hx458_0)).trans hx458_0
         replace p458 := eq_true p458
         replace q458 := eq_true q458
         go_wp2
         repeat (go_quiet (fail); try go_wp2)
         go_roundg k1
         case measure => have := HK1.out; omega
         case rel => exact ⟨(x3_1), (wrap64 (x4_1 + 1)), (by first | rfl | (simp; done) | (simp [*]; done)), H', ⟨by have := HK1.out; omega⟩, ⟨by (with_reducible repeat (first | apply Kd.R_alloc | apply Kd.R_drewN | apply Kd.R_drew)); exact HO_3.out⟩, ⟨by repeat (first | (with_reducible first | exact HB.out | apply below_alloc | apply pw_below_drewN | apply below_drew1) | exact HB.out)⟩⟩
        ·rw [if_neg c13] at H
         have c13b0 : ((rdOf ByteArray.empty l0 x4_1).toList == (rdOf ByteArray.empty l0 (ji10)).toList) = false := beq_eq_false_iff_ne.mpr c13
         have c13b1 : ((rdOf ByteArray.empty l0 x4_1).toList != (rdOf ByteArray.empty l0 (ji10)).toList) = true := bne_iff_ne.mpr c13
         by_cases c14 : x3_1.length < 8796093022208
         ·rw [if_pos c14] at H
          have LMc14 := Aside0.mk c14
          clear c14
          obtain ⟨y460, hy460⟩ : ∃ y_ : List ByteArray, y_ = (x3_1 ++ [rdOf ByteArray.empty l0 x4_1]) := ⟨_, rfl⟩
          replace H : (spec_l1Once.l0 k1 l0 y460 (wrap64 (x4_1 + 1))) = some r := by first | (rw [hy460]; with_reducible exact H) | (have H2_ := (Option.bind_some _ _).symm.trans H; rw [hy460]; with_reducible exact H2_) | (have H2_ := (Option.bind_some _ _).symm.trans H; with_reducible exact H2_) | with_reducible exact H | (rw [hy460]; exact H) | exact H
          have Ny460 := Aside0.mk hy460
          clear hy460
          have H' := Aside0.mk H
          clear H
          have p457 : 0 ≤ (x4_1 : Int) := of_decide_eq_true (by first | (with_reducible assumption) | assumption)
          have q457 : x4_1 < (l0.length : Int) := of_decide_eq_true (by first | (with_reducible assumption) | assumption)
          obtain ⟨ad457, e457, hx457_0⟩ := Kd.at_string HR0.out x4_1 p457 q457
          cases e457
          replace hx457_0 := (HB.out.cell (World.block_lt_of_cell? w _ hx457_0)).trans hx457_0
          replace p457 := eq_true p457
          replace q457 := eq_true q457
          have p458 : 0 ≤ ((ji10) : Int) := of_decide_eq_true (by first | (with_reducible assumption) | assumption)
          have q458 : (ji10) < (l0.length : Int) := of_decide_eq_true (by first | (with_reducible assumption) | assumption)
          obtain ⟨ad458, e458, hx458_0⟩ := Kd.at_string HR0.out (ji10) p458 q458
          obtain rfl : ad457 = ad458 := (by injection e458)
          replace hx458_0 := (HB.out.cell (World.block_lt_of_cell? w _ hx458_0)).trans hx458_0
          replace p458 := eq_true p458
          replace q458 := eq_true q458
          have p459 : 0 ≤ (x4_1 : Int) := of_decide_eq_true (by first | (with_reducible assumption) | assumption)
          have q459 : x4_1 < (l0.length : Int) := of_decide_eq_true (by first | (with_reducible assumption) | assumption)
          obtain ⟨ad459, e459, hx459_0⟩ := Kd.at_string HR0.out x4_1 p459 q459
          obtain rfl : ad457 = ad459 := (by injection e459)
          replace hx459_0 := (HB.out.cell (World.block_lt_of_cell? w _ hx459_0)).trans hx459_0
          replace p459 := eq_true p459
          replace q459 := eq_true q459
          go_wp2_with (first | ((with_reducible refine gate_builtin (b := .append) (xs := #[.tmp 26, .tmp 31]) rfl ?_); at_builtin; refine Kd.R_append Kd.string (w0 := w) w.heap.size rfl (.tmp 26) (.tmp 31) 22 9 (.string ⟨#[]⟩) 16 rfl Try.underlying22 info9 rfl (by decide) (by omega) u3 x3_1 (rdOf ByteArray.empty l0 x4_1) [.string (rdOf ByteArray.empty l0 x4_1)] (fun _ => True) (fun _ => False) rfl rfl ?aP (fun _ hk => hk.elim) ?aF ?aO ?aB ?aS ?aL ?_; (case aP => exact rfl); (case aB => exact (by repeat (first | (with_reducible first | exact HB.out | apply below_alloc | apply pw_below_drewN | apply below_drew1) | exact HB.out))); (case aF => exact (fun _ _ => trivial)); (case aO => exact (by (with_reducible repeat (first | apply Kd.R_alloc | apply Kd.R_drewN | apply Kd.R_drew)); exact HO_3.out)); (case aS => exact (below_size (by repeat (first | (with_reducible first | exact HB.out | apply below_alloc | apply pw_below_drewN | apply below_drew1) | exact HB.out)))); (case aL => have := LMc14.out; omega); intro v461 w15 ho hb hg hat; rw [← Ny460.out] at ho; have n0_ := Aside0.mk (hb); have n1_ := Aside0.mk (ho); clear HB; clear HO_3; have HB := n0_; have HO462 := n1_; clear n0_ n1_; clear ho hb hg hat))
          repeat (go_quiet (first | ((with_reducible refine gate_builtin (b := .append) (xs := #[.tmp 26, .tmp 31]) rfl ?_); at_builtin; refine Kd.R_append Kd.string (w0 := w) w.heap.size rfl (.tmp 26) (.tmp 31) 22 9 (.string ⟨#[]⟩) 16 rfl Try.underlying22 info9 rfl (by decide) (by omega) u3 x3_1 (rdOf ByteArray.empty l0 x4_1) [.string (rdOf ByteArray.empty l0 x4_1)] (fun _ => True) (fun _ => False) rfl rfl ?aP (fun _ hk => hk.elim) ?aF ?aO ?aB ?aS ?aL ?_; (case aP => exact rfl); (case aB => exact (by repeat (first | (with_reducible first | exact HB.out | apply below_alloc | apply pw_below_drewN | apply below_drew1) | exact HB.out))); (case aF => exact (fun _ _ => trivial)); (case aO => exact (by (with_reducible repeat (first | apply Kd.R_alloc | apply Kd.R_drewN | apply Kd.R_drew)); exact HO_3.out)); (case aS => exact (below_size (by repeat (first | (with_reducible first | exact HB.out | apply below_alloc | apply pw_below_drewN | apply below_drew1) | exact HB.out)))); (case aL => have := LMc14.out; omega); intro v461 w15 ho hb hg hat; rw [← Ny460.out] at ho; have n0_ := Aside0.mk (hb); have n1_ := Aside0.mk (ho); clear HB; clear HO_3; have HB := n0_; have HO462 := n1_; clear n0_ n1_; clear ho hb hg hat)); try go_wp2_with (first | ((with_reducible refine gate_builtin (b := .append) (xs := #[.tmp 26, .tmp 31]) rfl ?_); at_builtin; refine Kd.R_append Kd.string (w0 := w) w.heap.size rfl (.tmp 26) (.tmp 31) 22 9 (.string ⟨#[]⟩) 16 rfl Try.underlying22 info9 rfl (by decide) (by omega) u3 x3_1 (rdOf ByteArray.empty l0 x4_1) [.string (rdOf ByteArray.empty l0 x4_1)] (fun _ => True) (fun _ => False) rfl rfl ?aP (fun _ hk => hk.elim) ?aF ?aO ?aB ?aS ?aL ?_; (case aP => exact rfl); (case aB => exact (by repeat (first | (with_reducible first | exact HB.out | apply below_alloc | apply pw_below_drewN | apply below_drew1) | exact HB.out))); (case aF => exact (fun _ _ => trivial)); (case aO => exact (by (with_reducible repeat (first | apply Kd.R_alloc | apply Kd.R_drewN | apply Kd.R_drew)); exact HO_3.out)); (case aS => exact (below_size (by repeat (first | (with_reducible first | exact HB.out | apply below_alloc | apply pw_below_drewN | apply below_drew1) | exact HB.out)))); (case aL => have := LMc14.out; omega); intro v461 w15 ho hb hg hat; rw [← Ny460.out] at ho; have n0_ := Aside0.mk (hb); have n1_ := Aside0.mk (ho); clear HB; clear HO_3; have HB := n0_; have HO462 := n1_; clear n0_ n1_; clear ho hb hg hat)))
          go_roundg k1
          case measure => have := HK1.out; omega
          case rel => exact ⟨(y460), (wrap64 (x4_1 + 1)), (by first | rfl | (simp; done) | (simp [*]; done)), H', ⟨by have := HK1.out; omega⟩, ⟨by (with_reducible repeat (first | apply Kd.R_alloc | apply Kd.R_drewN | apply Kd.R_drew)); exact HO462.out⟩, ⟨by repeat (first | (with_reducible first | exact HB.out | apply below_alloc | apply pw_below_drewN | apply below_drew1) | exact HB.out)⟩⟩
         ·rw [if_neg c14] at H
          exact absurd H (by simp)
       ·rw [if_neg c12] at H
        exact absurd H (by simp)
      ·rw [if_neg c11] at H
       exact absurd H (by simp)
     ·rw [if_neg c9] at H
      exact absurd H (by simp)
   ·rw [if_neg c4] at H
    have c4b0 : decide (x4_1 < (l0.length : Int)) = false := decide_eq_false c4
    clear c4
    obtain rfl := Option.some.inj H
    go_wp2
    repeat (go_quiet (fail); try go_wp2)
    go_ret
    exact ⟨_, by first | rfl | (simp [errW_none, errW_some] <;> rfl) | (simp [*, errW_none, errW_some] <;> rfl), by (with_reducible repeat (first | apply Kd.R_alloc | apply Kd.R_drewN | apply Kd.R_drew)); exact HO_3.out, by repeat (first | (with_reducible first | exact HB.out | apply below_alloc | apply pw_below_drewN | apply below_drew1) | exact HB.out)⟩
def spec_l1Tight.f (k : Nat) (l0 : List ByteArray) : Option (List ByteArray) := (spec_l1Once.f k l0).bind fun t463 => ((spec_l1Trans.f k t463).bind fun t466 => ((spec_l1Once.f k t466).bind fun t469 => ((spec_l1Trans.f k t469).bind fun t472 => (some t472))))
set_option maxHeartbeats 8000000 in
set_option maxRecDepth 100000 in
theorem spec_l1Tight.calls (k : Nat) (A0 : Option Addr) (c0 : Nat) (l0 : List ByteArray) (r : List ByteArray) (w : World) (hr0 : Kd.C Kd.string w A0 l0.length l0) (hc0 : l0.length ≤ c0) (h : spec_l1Tight.f k l0 = some r) :
  Calls Try.prog 67 #[.slice A0 l0.length c0] w fun e w' => ∃ v0_ : Value, e = .returned (v0_) ∧ Kd.R Kd.string 9 w' w.heap.size (fun _ => True) v0_ r ∧ Below w.heap.size w w' := by
 have HR0 := Aside0.mk hr0
 have HC0 := Aside0.mk hc0
 clear hr0 hc0
 have HB := Aside0.mk (Below.refl w.heap.size w)
 have H : ((spec_l1Once.f k l0).bind fun t463 => ((spec_l1Trans.f k t463).bind fun t466 => ((spec_l1Once.f k t466).bind fun t469 => ((spec_l1Trans.f k t469).bind fun t472 => (some t472))))) = some r := h
 clear h
 replace H := Option.bind_eq_some_iff.mp H
 obtain ⟨t463, A20, H⟩ := H
 replace H : ((spec_l1Trans.f k t463).bind fun t466 => ((spec_l1Once.f k t466).bind fun t469 => ((spec_l1Trans.f k t469).bind fun t472 => (some t472)))) = some r := H
 have A2 := Aside0.mk A20
 clear A20
 replace H := Option.bind_eq_some_iff.mp H
 obtain ⟨t466, A30, H⟩ := H
 replace H : ((spec_l1Once.f k t466).bind fun t469 => ((spec_l1Trans.f k t469).bind fun t472 => (some t472))) = some r := H
 have A3 := Aside0.mk A30
 clear A30
 replace H := Option.bind_eq_some_iff.mp H
 obtain ⟨t469, A40, H⟩ := H
 replace H : ((spec_l1Trans.f k t469).bind fun t472 => (some t472)) = some r := H
 have A4 := Aside0.mk A40
 clear A40
 replace H := Option.bind_eq_some_iff.mp H
 obtain ⟨t472, A50, H⟩ := H
 replace H : (some t472) = some r := H
 have A5 := Aside0.mk A50
 clear A50
 obtain rfl := Option.some.inj H
 go_enter Try.func67, Try.ntmps67
 go_wp2_with (first | ((with_reducible refine gate_callee (f := 97) rfl ?_); refine goesL_ (some 4) rfl rfl Try.func97 (by kernel_rfl) rfl #[.slice A0 l0.length c0] rfl (by (try simp only [List.map_toArray, List.map_cons, List.map_nil]); first | done | rfl | (simp only [List.length_drop, List.length_take]; rfl)) ?_; (with_reducible refine (spec_l1Once.calls k _ _ l0 t463 _ ?side1 ?side2 A2.out).mono ?_); (case side1 => repeat (first | exact HR0.out | (with_reducible refine Kd.C_alloc ?_ _) | (with_reducible refine Kd.C_drewN ?_ _) | (with_reducible refine Kd.C_drew ?_))); (case side2 => exact HC0.out); rintro e w6 ⟨v464, rfl, ho0, hb⟩; refine ⟨_, rfl, ?_⟩; have n0_ := Aside0.mk (Kd.R_lower ho0 (below_size (by repeat (first | (with_reducible first | exact HB.out | apply below_alloc | apply pw_below_drewN | apply below_drew1) | exact HB.out)))); have n1_ := Aside0.mk (below_step (by repeat (first | (with_reducible first | exact HB.out | apply below_alloc | apply pw_below_drewN | apply below_drew1) | exact HB.out)) hb); clear HB; have HO465 := n0_; have HB := n1_; clear n0_ n1_; (try clear hb); (try clear hb2); (try clear hk); (try clear hi); (try clear ho0); obtain ⟨Ao7, co7, eo7⟩ := Kd.R_slice HO465.out; subst eo7) | ((with_reducible refine gate_callee (f := 47) rfl ?_); refine goesL_ (some 5) rfl rfl Try.func47 (by kernel_rfl) rfl #[.slice Ao7 t463.length co7] rfl (by (try simp only [List.map_toArray, List.map_cons, List.map_nil]); first | done | rfl | (simp only [List.length_drop, List.length_take]; rfl)) ?_; (with_reducible refine (spec_l1Trans.calls k _ _ t463 t466 _ ?side1 ?side2 A3.out).mono ?_); (case side1 => repeat (first | exact (Kd.R_reads' HO465.out).2.2 | (with_reducible refine Kd.C_alloc ?_ _) | (with_reducible refine Kd.C_drewN ?_ _) | (with_reducible refine Kd.C_drew ?_))); (case side2 => exact (Kd.R_reads' HO465.out).2.1); rintro e w8 ⟨v467, rfl, ho0, hb⟩; refine ⟨_, rfl, ?_⟩; have n0_ := Aside0.mk (Kd.R_elder' (by (with_reducible repeat (first | apply Kd.R_alloc | apply Kd.R_drewN | apply Kd.R_drew)); exact HO465.out) (Kd.R_base ho0) hb); have n1_ := Aside0.mk (Kd.R_lower (Kd.R_new' ho0 (Kd.R_lt (by (with_reducible repeat (first | apply Kd.R_alloc | apply Kd.R_drewN | apply Kd.R_drew)); exact HO465.out))) (below_size (by repeat (first | (with_reducible first | exact HB.out | apply below_alloc | apply pw_below_drewN | apply below_drew1) | exact HB.out)))); have n2_ := Aside0.mk (below_step (by repeat (first | (with_reducible first | exact HB.out | apply below_alloc | apply pw_below_drewN | apply below_drew1) | exact HB.out)) hb); clear HO465; clear HB; have HO465 := n0_; have HO468 := n1_; have HB := n2_; clear n0_ n1_ n2_; (try clear hb); (try clear hb2); (try clear hk); (try clear hi); (try clear ho0); obtain ⟨Ao9, co9, eo9⟩ := Kd.R_slice HO468.out; subst eo9) | ((with_reducible refine gate_callee (f := 97) rfl ?_); refine goesL_ (some 6) rfl rfl Try.func97 (by kernel_rfl) rfl #[.slice Ao9 t466.length co9] rfl (by (try simp only [List.map_toArray, List.map_cons, List.map_nil]); first | done | rfl | (simp only [List.length_drop, List.length_take]; rfl)) ?_; (with_reducible refine (spec_l1Once.calls k _ _ t466 t469 _ ?side1 ?side2 A4.out).mono ?_); (case side1 => repeat (first | exact (Kd.R_reads' HO468.out).2.2 | (with_reducible refine Kd.C_alloc ?_ _) | (with_reducible refine Kd.C_drewN ?_ _) | (with_reducible refine Kd.C_drew ?_))); (case side2 => exact (Kd.R_reads' HO468.out).2.1); rintro e w10 ⟨v470, rfl, ho0, hb⟩; refine ⟨_, rfl, ?_⟩; have n0_ := Aside0.mk (Kd.R_elder' (by (with_reducible repeat (first | apply Kd.R_alloc | apply Kd.R_drewN | apply Kd.R_drew)); exact HO465.out) (Kd.R_base ho0) hb); have n1_ := Aside0.mk (Kd.R_elder' (by (with_reducible repeat (first | apply Kd.R_alloc | apply Kd.R_drewN | apply Kd.R_drew)); exact HO468.out) (Kd.R_base ho0) hb); have n2_ := Aside0.mk (Kd.R_lower (Kd.R_new' (Kd.R_new' ho0 (Kd.R_lt (by (with_reducible repeat (first | apply Kd.R_alloc | apply Kd.R_drewN | apply Kd.R_drew)); exact HO465.out))) (Kd.R_lt (by (with_reducible repeat (first | apply Kd.R_alloc | apply Kd.R_drewN | apply Kd.R_drew)); exact HO468.out))) (below_size (by repeat (first | (with_reducible first | exact HB.out | apply below_alloc | apply pw_below_drewN | apply below_drew1) | exact HB.out)))); have n3_ := Aside0.mk (below_step (by repeat (first | (with_reducible first | exact HB.out | apply below_alloc | apply pw_below_drewN | apply below_drew1) | exact HB.out)) hb); clear HO465; clear HO468; clear HB; have HO465 := n0_; have HO468 := n1_; have HO471 := n2_; have HB := n3_; clear n0_ n1_ n2_ n3_; (try clear hb); (try clear hb2); (try clear hk); (try clear hi); (try clear ho0); obtain ⟨Ao11, co11, eo11⟩ := Kd.R_slice HO471.out; subst eo11) | ((with_reducible refine gate_callee (f := 47) rfl ?_); refine goesL_ (some 7) rfl rfl Try.func47 (by kernel_rfl) rfl #[.slice Ao11 t469.length co11] rfl (by (try simp only [List.map_toArray, List.map_cons, List.map_nil]); first | done | rfl | (simp only [List.length_drop, List.length_take]; rfl)) ?_; (with_reducible refine (spec_l1Trans.calls k _ _ t469 t472 _ ?side1 ?side2 A5.out).mono ?_); (case side1 => repeat (first | exact (Kd.R_reads' HO471.out).2.2 | (with_reducible refine Kd.C_alloc ?_ _) | (with_reducible refine Kd.C_drewN ?_ _) | (with_reducible refine Kd.C_drew ?_))); (case side2 => exact (Kd.R_reads' HO471.out).2.1); rintro e w12 ⟨v473, rfl, ho0, hb⟩; refine ⟨_, rfl, ?_⟩; have n0_ := Aside0.mk (Kd.R_elder' (by (with_reducible repeat (first | apply Kd.R_alloc | apply Kd.R_drewN | apply Kd.R_drew)); exact HO465.out) (Kd.R_base ho0) hb); have n1_ := Aside0.mk (Kd.R_elder' (by (with_reducible repeat (first | apply Kd.R_alloc | apply Kd.R_drewN | apply Kd.R_drew)); exact HO468.out) (Kd.R_base ho0) hb); have n2_ := Aside0.mk (Kd.R_elder' (by (with_reducible repeat (first | apply Kd.R_alloc | apply Kd.R_drewN | apply Kd.R_drew)); exact HO471.out) (Kd.R_base ho0) hb); have n3_ := Aside0.mk (Kd.R_lower (Kd.R_new' (Kd.R_new' (Kd.R_new' ho0 (Kd.R_lt (by (with_reducible repeat (first | apply Kd.R_alloc | apply Kd.R_drewN | apply Kd.R_drew)); exact HO465.out))) (Kd.R_lt (by (with_reducible repeat (first | apply Kd.R_alloc | apply Kd.R_drewN | apply Kd.R_drew)); exact HO468.out))) (Kd.R_lt (by (with_reducible repeat (first | apply Kd.R_alloc | apply Kd.R_drewN | apply Kd.R_drew)); exact HO471.out))) (below_size (by repeat (first | (with_reducible first | exact HB.out | apply below_alloc | apply pw_below_drewN | apply below_drew1) | exact HB.out)))); have n4_ := Aside0.mk (below_step (by repeat (first | (with_reducible first | exact HB.out | apply below_alloc | apply pw_below_drewN | apply below_drew1) | exact HB.out)) hb); clear HO465; clear HO468; clear HO471; clear HB; have HO465 := n0_; have HO468 := n1_; have HO471 := n2_; have HO474 := n3_; have HB := n4_; clear n0_ n1_ n2_ n3_ n4_; (try clear hb); (try clear hb2); (try clear hk); (try clear hi); (try clear ho0)))
 go_ret
 exact ⟨_, by first | rfl | (simp [errW_none, errW_some] <;> rfl) | (simp [*, errW_none, errW_some] <;> rfl), by (with_reducible repeat (first | apply Kd.R_alloc | apply Kd.R_drewN | apply Kd.R_drew)); exact Kd.R_mono HO474.out (fun _ hk => trivial), by repeat (first | (with_reducible first | exact HB.out | apply below_alloc | apply pw_below_drewN | apply below_drew1) | exact HB.out)⟩
def spec_PlanTight.f (k : Nat) (l0 : List ByteArray) : Option (List ByteArray × Bool) := (spec_PlanIn.f k l0).bind fun t475 => (if t475 = true then ((spec_l1Tight.f k l0).bind fun t476 => (some (t476, true))) else ((spec_l1None.f).bind fun bt479 => (some (bt479.1, bt479.2))))
set_option maxHeartbeats 8000000 in
set_option maxRecDepth 100000 in
theorem spec_PlanTight.calls (k : Nat) (A0 : Option Addr) (c0 : Nat) (l0 : List ByteArray) (r1 : List ByteArray) (r2 : Bool) (w : World) (hr0 : Kd.C Kd.string w A0 l0.length l0) (hc0 : l0.length ≤ c0) (h : spec_PlanTight.f k l0 = some (r1, r2)) :
  Calls Try.prog 32 #[.slice A0 l0.length c0] w fun e w' => ∃ v0_ : Value, e = .returned (.tuple #[v0_, .bool r2]) ∧ Kd.R Kd.string 9 w' w.heap.size (fun _ => True) v0_ r1 ∧ Below w.heap.size w w' := by
 have HR0 := Aside0.mk hr0
 have HC0 := Aside0.mk hc0
 clear hr0 hc0
 have HB := Aside0.mk (Below.refl w.heap.size w)
 have H : ((spec_PlanIn.f k l0).bind fun t475 => (if t475 = true then ((spec_l1Tight.f k l0).bind fun t476 => (some (t476, true))) else ((spec_l1None.f).bind fun bt479 => (some (bt479.1, bt479.2))))) = some (r1, r2) := h
 clear h
 replace H := Option.bind_eq_some_iff.mp H
 obtain ⟨t475, A20, H⟩ := H
 replace H : (if t475 = true then ((spec_l1Tight.f k l0).bind fun t476 => (some (t476, true))) else ((spec_l1None.f).bind fun bt479 => (some (bt479.1, bt479.2)))) = some (r1, r2) := H
 have A2 := Aside0.mk A20
 clear A20
 by_cases c3 : t475 = true
 ·subst c3
  have H1 : ((spec_l1Tight.f k l0).bind fun t476 => (some (t476, true))) = some (r1, r2) := by rw [if_pos rfl] at H; exact H
  clear H
  have H := H1
  clear H1
  replace H := Option.bind_eq_some_iff.mp H
  obtain ⟨t476, A40, H⟩ := H
  replace H : (some (t476, true)) = some (r1, r2) := H
  have A4 := Aside0.mk A40
  clear A40
  simp only [Option.some.injEq, Prod.mk.injEq] at H
  obtain ⟨rfl, rfl⟩ := H
  go_enter Try.func32, Try.ntmps32
  go_wp2_with (first | ((with_reducible refine gate_callee (f := 45) rfl ?_); refine goesL_ (some 5) rfl rfl Try.func45 (by kernel_rfl) rfl #[.slice A0 l0.length c0] rfl (by (try simp only [List.map_toArray, List.map_cons, List.map_nil]); first | done | rfl | (simp only [List.length_drop, List.length_take]; rfl)) ?_; (with_reducible refine (spec_PlanIn.calls k _ _ l0 true _ ?side1 ?side2 A2.out).mono ?_); (case side1 => repeat (first | exact HR0.out | (with_reducible refine Kd.C_alloc ?_ _) | (with_reducible refine Kd.C_drewN ?_ _) | (with_reducible refine Kd.C_drew ?_))); (case side2 => exact HC0.out); rintro e w5 ⟨rfl, hb⟩; refine ⟨_, rfl, ?_⟩; have n0_ := Aside0.mk (below_step (by repeat (first | (with_reducible first | exact HB.out | apply below_alloc | apply pw_below_drewN | apply below_drew1) | exact HB.out)) hb); clear HB; have HB := n0_; clear n0_; (try clear hb); (try clear hb2); (try clear hk); (try clear hi)) | ((with_reducible refine gate_callee (f := 67) rfl ?_); refine goesL_ (some 11) rfl rfl Try.func67 (by kernel_rfl) rfl #[.slice A0 l0.length c0] rfl (by (try simp only [List.map_toArray, List.map_cons, List.map_nil]); first | done | rfl | (simp only [List.length_drop, List.length_take]; rfl)) ?_; (with_reducible refine (spec_l1Tight.calls k _ _ l0 t476 _ ?side1 ?side2 A4.out).mono ?_); (case side1 => repeat (first | exact (Kd.C_below HR0.out HB.out) | (with_reducible refine Kd.C_alloc ?_ _) | (with_reducible refine Kd.C_drewN ?_ _) | (with_reducible refine Kd.C_drew ?_))); (case side2 => exact HC0.out); rintro e w6 ⟨v477, rfl, ho0, hb⟩; refine ⟨_, rfl, ?_⟩; have n0_ := Aside0.mk (Kd.R_lower ho0 (below_size (by repeat (first | (with_reducible first | exact HB.out | apply below_alloc | apply pw_below_drewN | apply below_drew1) | exact HB.out)))); have n1_ := Aside0.mk (below_step (by repeat (first | (with_reducible first | exact HB.out | apply below_alloc | apply pw_below_drewN | apply below_drew1) | exact HB.out)) hb); clear HB; have HO478 := n0_; have HB := n1_; clear n0_ n1_; (try clear hb); (try clear hb2); (try clear hk); (try clear hi); (try clear ho0)))
  go_ret2
  exact ⟨_, by first | rfl | (simp [errW_none, errW_some] <;> rfl) | (simp [*, errW_none, errW_some] <;> rfl), by (with_reducible repeat (first | apply Kd.R_alloc | apply Kd.R_drewN | apply Kd.R_drew)); exact HO478.out, by repeat (first | (with_reducible first | exact HB.out | apply below_alloc | apply pw_below_drewN | apply below_drew1) | exact HB.out)⟩
 ·replace c3 := Bool.eq_false_iff.mpr c3
  subst c3
  have H1 : ((spec_l1None.f).bind fun bt479 => (some (bt479.1, bt479.2))) = some (r1, r2) := by rw [if_neg (show ¬ (false = true) by decide)] at H; exact H
  clear H
  have H := H1
  clear H1
  replace H := Option.bind_eq_some_iff.mp H
  obtain ⟨⟨t479, t480⟩, A70, H⟩ := H
  replace H : (some (t479, t480)) = some (r1, r2) := H
  have A7 := Aside0.mk A70
  clear A70
  simp only [Option.some.injEq, Prod.mk.injEq] at H
  obtain ⟨rfl, rfl⟩ := H
  go_enter Try.func32, Try.ntmps32
  go_wp2_with (first | ((with_reducible refine gate_callee (f := 45) rfl ?_); refine goesL_ (some 5) rfl rfl Try.func45 (by kernel_rfl) rfl #[.slice A0 l0.length c0] rfl (by (try simp only [List.map_toArray, List.map_cons, List.map_nil]); first | done | rfl | (simp only [List.length_drop, List.length_take]; rfl)) ?_; (with_reducible refine (spec_PlanIn.calls k _ _ l0 false _ ?side1 ?side2 A2.out).mono ?_); (case side1 => repeat (first | exact HR0.out | (with_reducible refine Kd.C_alloc ?_ _) | (with_reducible refine Kd.C_drewN ?_ _) | (with_reducible refine Kd.C_drew ?_))); (case side2 => exact HC0.out); rintro e w8 ⟨rfl, hb⟩; refine ⟨_, rfl, ?_⟩; have n0_ := Aside0.mk (below_step (by repeat (first | (with_reducible first | exact HB.out | apply below_alloc | apply pw_below_drewN | apply below_drew1) | exact HB.out)) hb); clear HB; have HB := n0_; clear n0_; (try clear hb); (try clear hb2); (try clear hk); (try clear hi)) | ((with_reducible refine gate_callee (f := 66) rfl ?_); refine goesL_ (some 7) rfl rfl Try.func66 (by kernel_rfl) rfl #[] rfl (by (try simp only [List.map_toArray, List.map_cons, List.map_nil]); first | done | rfl | (simp only [List.length_drop, List.length_take]; rfl)) ?_; (with_reducible refine (spec_l1None.calls  t479 t480 _ A7.out).mono ?_); rintro e w9 ⟨v481, rfl, ho0, hb⟩; refine ⟨_, rfl, ?_⟩; have n0_ := Aside0.mk (Kd.R_lower ho0 (below_size (by repeat (first | (with_reducible first | exact HB.out | apply below_alloc | apply pw_below_drewN | apply below_drew1) | exact HB.out)))); have n1_ := Aside0.mk (below_step (by repeat (first | (with_reducible first | exact HB.out | apply below_alloc | apply pw_below_drewN | apply below_drew1) | exact HB.out)) hb); clear HB; have HO482 := n0_; have HB := n1_; clear n0_ n1_; (try clear hb); (try clear hb2); (try clear hk); (try clear hi); (try clear ho0)))
  go_ret2
  exact ⟨_, by first | rfl | (simp [errW_none, errW_some] <;> rfl) | (simp [*, errW_none, errW_some] <;> rfl), by (with_reducible repeat (first | apply Kd.R_alloc | apply Kd.R_drewN | apply Kd.R_drew)); exact HO482.out, by repeat (first | (with_reducible first | exact HB.out | apply below_alloc | apply pw_below_drewN | apply below_drew1) | exact HB.out)⟩
end Go.Proofs.Ytickdcegnlldjaa.PB
namespace Go.Proofs.Ytickdcegnlldjaa.PB
open Go.RowKit Go.Proofs.YtickdcegnlldjaaW.PrintWords Go.Proofs.YtickdcegnlldjaaW.PrintLast Go.Proofs.YtickdcegnlldjaaW.PrintMore
attribute [local go_sem] max2_int min2_int max_two min_two max_three min_three max_four min_four   -- for this text's walks alone
def laws_heldStringS.l0 : Nat → List ByteArray → Int → Int → Option (Int)
 | 0, _, _, _ => none
 | k + 1, x0, x1, x5 => if x5 < (x0.length : Int) then (if 0 ≤ x5 then ((laws_markText.f k x1).bind fun t484 => (if (rdOf ByteArray.empty x0 x5).toList = t484.toList then (laws_heldStringS.l0 k x0 (wrap64 (x1 + 1)) (wrap64 (x5 + 1))) else (some (-1)))) else (none)) else (some x1)
def laws_heldStringS.f (k : Nat) (l0 : List ByteArray) (a1 : Int) : Option (Int) := laws_heldStringS.l0 k l0 a1 0
set_option maxHeartbeats 8000000 in
set_option maxRecDepth 100000 in
theorem laws_heldStringS.calls (k : Nat) (A0 : Option Addr) (c0 : Nat) (l0 : List ByteArray) (a1 : Int) (r : Int) (w : World) (hr0 : Kd.C Kd.string w A0 l0.length l0) (hc0 : l0.length ≤ c0) (h : laws_heldStringS.f k l0 a1 = some r) :
  Calls Try.prog 34 #[.slice A0 l0.length c0, .int .i64 a1] w fun e w' => e = .returned (.int .i64 r) ∧ Below w.heap.size w w' := by
 have HR0 := Aside0.mk hr0
 have HC0 := Aside0.mk hc0
 clear hr0 hc0
 have HB := Aside0.mk (Below.refl w.heap.size w)
 have H : (laws_heldStringS.l0 k l0 a1 0) = some r := h
 clear h
 have H' := Aside0.mk H
 clear H
 go_enter Try.func34, Try.ntmps34
 go_wp2
 go_loopg [1, 5] k (fun kq v1 v5 w' => ∃ (x1_1 : Int) (x5_1 : Int), v1 = .int .i64 x1_1 ∧ v5 = .int .i64 x5_1 ∧ Aside0 (laws_heldStringS.l0 kq l0 x1_1 x5_1 = some r) ∧ Aside0 (kq ≤ k) ∧ Aside0 (Below w.heap.size w w'))
 case atStart => exact ⟨(a1), (0), (by first | rfl | (simp; done) | (simp [*]; done)), (by first | rfl | (simp; done) | (simp [*]; done)), H', ⟨Nat.le_refl _⟩, ⟨by repeat (first | (with_reducible first | exact HB.out | apply below_alloc | apply pw_below_drewN | apply below_drew1) | exact HB.out)⟩⟩
 case round =>
  clear H'
  try clear p2
  obtain ⟨x1_1, x5_1, rfl, rfl, HA, HK1, HB⟩ := hrel
  cases gk with
  | zero => exact absurd HA.out (by simp [laws_heldStringS.l0])
  | succ k1 =>
   have H := HA.out
   clear HA
   simp only [laws_heldStringS.l0] at H
   by_cases c3 : x5_1 < (l0.length : Int)
   ·rw [if_pos c3] at H
    have c3b0 : decide (x5_1 < (l0.length : Int)) = true := decide_eq_true c3
    clear c3
    by_cases c4 : 0 ≤ x5_1
    ·rw [if_pos c4] at H
     have c4b0 : decide (0 ≤ x5_1) = true := decide_eq_true c4
     clear c4
     replace H := Option.bind_eq_some_iff.mp H
     obtain ⟨t484, A50, H⟩ := H
     replace H : (if (rdOf ByteArray.empty l0 x5_1).toList = t484.toList then (laws_heldStringS.l0 k1 l0 (wrap64 (x1_1 + 1)) (wrap64 (x5_1 + 1))) else (some (-1))) = some r := H
     have A5 := Aside0.mk A50
     clear A50
     by_cases c6 : (rdOf ByteArray.empty l0 x5_1).toList = t484.toList
     ·rw [if_pos c6] at H
      have c6b0 : ((rdOf ByteArray.empty l0 x5_1).toList == t484.toList) = true := beq_iff_eq.mpr c6
      have c6b1 : ((rdOf ByteArray.empty l0 x5_1).toList != t484.toList) = false := bne_eq_false_iff_eq.mpr c6
      clear c6
      have H' := Aside0.mk H
      clear H
      try go_wp2
      have n0_ := Aside0.mk (below_drew1 HB.out)
      clear HB
      have HB := n0_
      clear n0_
      have p483 : 0 ≤ (x5_1 : Int) := of_decide_eq_true (by first | (with_reducible assumption) | assumption)
      have q483 : x5_1 < (l0.length : Int) := of_decide_eq_true (by first | (with_reducible assumption) | assumption)
      obtain ⟨ad483, e483, hx483_0⟩ := Kd.at_string HR0.out x5_1 p483 q483
      have hw483_0 := hx483_0
      cases e483
      replace hx483_0 := (HB.out.cell (World.block_lt_of_cell? w _ hx483_0)).trans hx483_0
      replace p483 := eq_true p483
      replace q483 := eq_true q483
      refine start_ (n := 7) (S := fun w' => w'.cell? (ad483.add (x5_1).toNat) = some (.string (rdOf ByteArray.empty l0 x5_1))) (ds := []) #[false, false, false, false, false, false, false] (by kernel_rfl) rfl rfl (((HB.out.cell (World.block_lt_of_cell? w _ hw483_0)).trans hw483_0)) (fun hHeld => ?_)
      generalize wr.drew = w7 at HB hx483_0 hHeld ⊢
      refine pure_ (i := 0) (N := some 12) (v := ?_) (a' := ?_) #[true, false, false, false, false, false, false] rfl rfl (by kernel_rfl) (fun _ _ _ h => h) (Or.inl ⟨by rfl, ?_⟩) ?_ ?_
      rotate_left
      ·intro w'
       go_simp
       with_reducible rfl
      rotate_left
      ·simp only [Act.put, List.setIfInBounds_toArray, List.set_cons_zero, List.set_cons_succ, i64_w, i32_w]
       rfl
      refine pure_ (i := 1) (N := some 13) (v := ?_) (a' := ?_) #[true, true, false, false, false, false, false] rfl rfl (by kernel_rfl) (fun _ _ _ h => h) (Or.inl ⟨by rfl, ?_⟩) ?_ ?_
      rotate_left
      ·intro w'
       go_simp
       with_reducible rfl
      rotate_left
      ·simp only [Act.put, List.setIfInBounds_toArray, List.set_cons_zero, List.set_cons_succ, i64_w, i32_w]
       rfl
      refine pure_ (i := 2) (N := some 14) (v := ?_) (a' := ?_) #[true, true, true, false, false, false, false] rfl rfl (by kernel_rfl) (fun _ _ _ h => h) (Or.inl ⟨by rfl, ?_⟩) ?_ ?_
      rotate_left
      ·intro w'
       go_simp
       with_reducible rfl
      rotate_left
      ·simp only [Act.put, List.setIfInBounds_toArray, List.set_cons_zero, List.set_cons_succ, i64_w, i32_w]
       rfl
      refine pure_ (i := 4) (N := some 16) (v := ?_) (a' := ?_) #[true, true, true, false, true, false, false] rfl rfl (by kernel_rfl) (fun _ _ _ h => h) (Or.inl ⟨by rfl, ?_⟩) ?_ ?_
      rotate_left
      ·intro w'
       go_simp
       with_reducible rfl
      rotate_left
      ·simp only [Act.put, List.setIfInBounds_toArray, List.set_cons_zero, List.set_cons_succ, i64_w, i32_w]
       rfl
      refine take_ (i := 3) (N := some 15) (v := ?_) (a' := ?_) #[true, true, true, true, true, false, false] rfl rfl (by kernel_rfl) (fun _ _ _ h => h) (Or.inl ⟨by rfl, ?_⟩) hHeld ?_ ?_
      rotate_left
      ·intro w' s0
       go_simp
       with_reducible rfl
      rotate_left
      ·simp only [Act.put, List.setIfInBounds_toArray, List.set_cons_zero, List.set_cons_succ, i64_w, i32_w]
       rfl
      refine one_ (i := 5) (N := some 17) #[true, true, true, true, true, true, false] rfl rfl (by kernel_rfl) (by decide) (fun K hK => ?_)
      refine goes_ Try.func55 (by kernel_rfl) rfl #[.int .i64 x1_1] (by rfl) rfl rfl (by (try simp only [List.map_toArray, List.map_cons, List.map_nil]); first | done | rfl | (simp only [List.length_drop, List.length_take]; rfl)) ?_
      with_reducible refine (laws_markText.calls k1 x1_1 t484 _ A5.out).mono ?_
      rintro e w8 ⟨rfl, hb⟩
      refine ⟨_, rfl, ?_⟩
      have n0_ := Aside0.mk (below_step (by repeat (first | (with_reducible first | exact HB.out | apply below_alloc | apply pw_below_drewN | apply below_drew1) | exact HB.out)) hb)
      clear HB
      have HB := n0_
      clear n0_
      (try clear hb)
      (try clear hb2)
      (try clear hk)
      (try clear hi)
      refine hK.out _ _ (((HB.out.cell (World.block_lt_of_cell? w _ hw483_0)).trans hw483_0)) (fun hHeld => ?_)
      clear hK K
      refine norm_ (a' := ?_) ?_ ?_
      rotate_left
      ·show Act.put _ (some 17) _ = _
       simp only [Act.put, List.setIfInBounds_toArray, List.set_cons_zero, List.set_cons_succ, i64_w, i32_w]
       rfl
      refine pure_ (i := 6) (N := some 18) (v := ?_) (a' := ?_) #[true, true, true, true, true, true, true] rfl rfl (by kernel_rfl) (fun _ _ _ h => h) (Or.inl ⟨by rfl, ?_⟩) ?_ ?_
      rotate_left
      ·intro w'
       go_simp
       with_reducible rfl
      rotate_left
      ·simp only [Act.put, List.setIfInBounds_toArray, List.set_cons_zero, List.set_cons_succ, i64_w, i32_w]
       rfl
      refine done_ (by kernel_rfl) ?_
      try go_wp2
      go_roundg k1
      case measure => have := HK1.out; omega
      case rel => exact ⟨(wrap64 (x1_1 + 1)), (wrap64 (x5_1 + 1)), (by first | rfl | (simp; done) | (simp [*]; done)), (by first | rfl | (simp; done) | (simp [*]; done)), H', ⟨by have := HK1.out; omega⟩, ⟨by repeat (first | (with_reducible first | exact HB.out | apply below_alloc | apply pw_below_drewN | apply below_drew1) | exact HB.out)⟩⟩
     ·rw [if_neg c6] at H
      have c6b0 : ((rdOf ByteArray.empty l0 x5_1).toList == t484.toList) = false := beq_eq_false_iff_ne.mpr c6
      have c6b1 : ((rdOf ByteArray.empty l0 x5_1).toList != t484.toList) = true := bne_iff_ne.mpr c6
      obtain rfl := Option.some.inj H
      try go_wp2
      have n0_ := Aside0.mk (below_drew1 HB.out)
      clear HB
      have HB := n0_
      clear n0_
      have p483 : 0 ≤ (x5_1 : Int) := of_decide_eq_true (by first | (with_reducible assumption) | assumption)
      have q483 : x5_1 < (l0.length : Int) := of_decide_eq_true (by first | (with_reducible assumption) | assumption)
      obtain ⟨ad483, e483, hx483_0⟩ := Kd.at_string HR0.out x5_1 p483 q483
      have hw483_0 := hx483_0
      cases e483
      replace hx483_0 := (HB.out.cell (World.block_lt_of_cell? w _ hx483_0)).trans hx483_0
      replace p483 := eq_true p483
      replace q483 := eq_true q483
      refine start_ (n := 7) (S := fun w' => w'.cell? (ad483.add (x5_1).toNat) = some (.string (rdOf ByteArray.empty l0 x5_1))) (ds := []) #[false, false, false, false, false, false, false] (by kernel_rfl) rfl rfl (((HB.out.cell (World.block_lt_of_cell? w _ hw483_0)).trans hw483_0)) (fun hHeld => ?_)
      generalize wr.drew = w9 at HB hx483_0 hHeld ⊢
      refine pure_ (i := 0) (N := some 12) (v := ?_) (a' := ?_) #[true, false, false, false, false, false, false] rfl rfl (by kernel_rfl) (fun _ _ _ h => h) (Or.inl ⟨by rfl, ?_⟩) ?_ ?_
      rotate_left
      ·intro w'
       go_simp
       with_reducible rfl
      rotate_left
      ·simp only [Act.put, List.setIfInBounds_toArray, List.set_cons_zero, List.set_cons_succ, i64_w, i32_w]
       rfl
      refine pure_ (i := 1) (N := some 13) (v := ?_) (a' := ?_) #[true, true, false, false, false, false, false] rfl rfl (by kernel_rfl) (fun _ _ _ h => h) (Or.inl ⟨by rfl, ?_⟩) ?_ ?_
      rotate_left
      ·intro w'
       go_simp
       with_reducible rfl
      rotate_left
      ·simp only [Act.put, List.setIfInBounds_toArray, List.set_cons_zero, List.set_cons_succ, i64_w, i32_w]
       rfl
      refine pure_ (i := 2) (N := some 14) (v := ?_) (a' := ?_) #[true, true, true, false, false, false, false] rfl rfl (by kernel_rfl) (fun _ _ _ h => h) (Or.inl ⟨by rfl, ?_⟩) ?_ ?_
      rotate_left
      ·intro w'
       go_simp
       with_reducible rfl
      rotate_left
      ·simp only [Act.put, List.setIfInBounds_toArray, List.set_cons_zero, List.set_cons_succ, i64_w, i32_w]
       rfl
      refine pure_ (i := 4) (N := some 16) (v := ?_) (a' := ?_) #[true, true, true, false, true, false, false] rfl rfl (by kernel_rfl) (fun _ _ _ h => h) (Or.inl ⟨by rfl, ?_⟩) ?_ ?_
      rotate_left
      ·intro w'
       go_simp
       with_reducible rfl
      rotate_left
      ·simp only [Act.put, List.setIfInBounds_toArray, List.set_cons_zero, List.set_cons_succ, i64_w, i32_w]
       rfl
      refine take_ (i := 3) (N := some 15) (v := ?_) (a' := ?_) #[true, true, true, true, true, false, false] rfl rfl (by kernel_rfl) (fun _ _ _ h => h) (Or.inl ⟨by rfl, ?_⟩) hHeld ?_ ?_
      rotate_left
      ·intro w' s0
       go_simp
       with_reducible rfl
      rotate_left
      ·simp only [Act.put, List.setIfInBounds_toArray, List.set_cons_zero, List.set_cons_succ, i64_w, i32_w]
       rfl
      refine one_ (i := 5) (N := some 17) #[true, true, true, true, true, true, false] rfl rfl (by kernel_rfl) (by decide) (fun K hK => ?_)
      refine goes_ Try.func55 (by kernel_rfl) rfl #[.int .i64 x1_1] (by rfl) rfl rfl (by (try simp only [List.map_toArray, List.map_cons, List.map_nil]); first | done | rfl | (simp only [List.length_drop, List.length_take]; rfl)) ?_
      with_reducible refine (laws_markText.calls k1 x1_1 t484 _ A5.out).mono ?_
      rintro e w10 ⟨rfl, hb⟩
      refine ⟨_, rfl, ?_⟩
      have n0_ := Aside0.mk (below_step (by repeat (first | (with_reducible first | exact HB.out | apply below_alloc | apply pw_below_drewN | apply below_drew1) | exact HB.out)) hb)
      clear HB
      have HB := n0_
      clear n0_
      (try clear hb)
      (try clear hb2)
      (try clear hk)
      (try clear hi)
      refine hK.out _ _ (((HB.out.cell (World.block_lt_of_cell? w _ hw483_0)).trans hw483_0)) (fun hHeld => ?_)
      clear hK K
      refine norm_ (a' := ?_) ?_ ?_
      rotate_left
      ·show Act.put _ (some 17) _ = _
       simp only [Act.put, List.setIfInBounds_toArray, List.set_cons_zero, List.set_cons_succ, i64_w, i32_w]
       rfl
      refine pure_ (i := 6) (N := some 18) (v := ?_) (a' := ?_) #[true, true, true, true, true, true, true] rfl rfl (by kernel_rfl) (fun _ _ _ h => h) (Or.inl ⟨by rfl, ?_⟩) ?_ ?_
      rotate_left
      ·intro w'
       go_simp
       with_reducible rfl
      rotate_left
      ·simp only [Act.put, List.setIfInBounds_toArray, List.set_cons_zero, List.set_cons_succ, i64_w, i32_w]
       rfl
      refine done_ (by kernel_rfl) ?_
      try go_wp2
      go_ret
      exact ⟨by first | rfl | (simp [errW_none, errW_some] <;> rfl) | (simp [*, errW_none, errW_some] <;> rfl), by repeat (first | (with_reducible first | exact HB.out | apply below_alloc | apply pw_below_drewN | apply below_drew1) | exact HB.out)⟩
    ·rw [if_neg c4] at H
     exact absurd H (by simp)
   ·rw [if_neg c3] at H
    have c3b0 : decide (x5_1 < (l0.length : Int)) = false := decide_eq_false c3
    clear c3
    obtain rfl := Option.some.inj H
    go_wp2
    go_ret
    exact ⟨by first | rfl | (simp [errW_none, errW_some] <;> rfl) | (simp [*, errW_none, errW_some] <;> rfl), by repeat (first | (with_reducible first | exact HB.out | apply below_alloc | apply pw_below_drewN | apply below_drew1) | exact HB.out)⟩
end Go.Proofs.Ytickdcegnlldjaa.PB
namespace Go.Proofs.Ytickdcegnlldjaa.Hd
open Go.RowKit Go.Proofs.YtickdcegnlldjaaW.PrintWords Go.Proofs.YtickdcegnlldjaaW.PrintLast Go.Proofs.YtickdcegnlldjaaW.PrintMore
def BRow (W : World) (base : Nat) (g : Nat) (cap : Nat) (e : TypeId) (xs : List Int) : Prop :=
 ∃ (cur : Array Value), base ≤ g ∧ W.heap[g]? = some (.cells cur e (cur.size, cur.size + 1)) ∧ xs.length ≤ cur.size ∧ cur.toList.take xs.length = nums .u8 xs
section
variable {W : World} {base g cap : Nat} {e : TypeId} {xs : List Int}
theorem BRow.cell (h : BRow W base g cap e xs) (i : Nat) (hi : i < xs.length) : W.cell? ⟨g, i, none⟩ = some (.int .u8 (xs.getD i 0)) ∧ W.frozen? ⟨g, i, none⟩ = false := by
 obtain ⟨cur, hb, hg, hl, ht⟩ := h
 have h1 : cur.toList[i]? = some (.int .u8 (xs.getD i 0)) := by
  have h2 : (cur.toList.take xs.length)[i]? = some (.int .u8 (xs.getD i 0)) := by
   rw [ht]; simp [nums, List.getD_eq_getElem?_getD, hi]
  rw [List.getElem?_take] at h2
  simpa [hi] using h2
 constructor
 ·simp only [World.cell?, hg]
  simpa using h1
 ·have : ¬ cur.size ≤ i := by omega
  simp [World.frozen?, hg, this]
theorem BRow.set (h : BRow W base g cap e xs) (i : Nat) (x : Int) : BRow (W.setCell ⟨g, i, none⟩ (.int .u8 x)) base g cap e (xs.set i x) := by
 obtain ⟨cur, hb, hg, hl, ht⟩ := h
 refine ⟨cur.setIfInBounds i (.int .u8 x), hb, ?_, ?_, ?_⟩
 ·simp [World.setCell, Array.getElem?_modify, hg]
 ·simpa using hl
 ·rw [Array.toList_setIfInBounds, List.length_set, List.take_set, ht]
  simp [nums]
theorem BRow.lt (h : BRow W base g cap e xs) : g < W.heap.size := by
 obtain ⟨cur, hb, hg, hl, ht⟩ := h
 exact (Array.getElem?_eq_some_iff.1 hg).1
theorem BRow.move (h : BRow W base g cap e xs) {W1 : World} (hm : W1.heap[g]? = W.heap[g]?) : BRow W1 base g cap e xs := by
 obtain ⟨cur, hb, hg, hl, ht⟩ := h
 exact ⟨cur, hb, hm.trans hg, hl, ht⟩
theorem BRow.reads (h : BRow W base g cap e xs) (hm : xs.length ≤ 9223372036854775807) : (Kd.int .u8).C W (some ⟨g, 0, none⟩) xs.length xs := by
 refine ⟨rfl, hm, fun _ => ⟨_, rfl, fun j p hj => ?_⟩⟩
 have hjl := (List.getElem?_eq_some_iff.1 hj).1
 refine ⟨[.int .u8 p], rfl, rfl, fun i u hu => ?_⟩
 have hi : i = 0 := by
  rcases Nat.eq_zero_or_pos i with h0 | h0
  ·exact h0
  ·rw [List.getElem?_eq_none (by simp; omega)] at hu; cases hu
 subst hi
 have hu' : Value.int .u8 p = u := by simpa using hu
 subst hu'
 have h1 := (h.cell j hjl).1
 rw [List.getD_eq_getElem?_getD, hj] at h1
 show W.cell? ((⟨g, 0, none⟩ : Addr).add (j * 1 + 0)) = _
 rw [Nat.mul_one, Nat.add_zero, add_plain]
 exact h1
end
theorem R_typesF {α : Type} {d : Kd α} {e : Nat} {w : World} {base : Nat} {ok : Nat → Prop} {v : Value} {xs : List α} (h : d.R e w base ok v xs) {g t : Nat} {cells : Array Value} {fz : Nat × Nat} (hb : w.heap[g]? = some (.cells cells t fz)) (ht : ∀ q, q ∈ e :: d.E → q ≠ t) : d.R e w base (fun k => ok k ∧ k ≠ g) v xs :=
 Kd.R_mono (Kd.R_bound h) (fun k hk => ⟨hk.1, by
  obtain ⟨_, _, _, q, hq, cells', hc⟩ := hk
  rintro rfl
  rw [hc] at hb
  injection hb with hb
  injection hb with _ hb
  exact ht q hq hb⟩)
theorem R_setF {α : Type} {d : Kd α} {e : Nat} {w : World} {base : Nat} {ok : Nat → Prop} {v : Value} {xs : List α} (h : d.R e w base ok v xs) {g t : Nat} {cells : Array Value} {fz : Nat × Nat} (hb : w.heap[g]? = some (.cells cells t fz)) (ht : ∀ q, q ∈ e :: d.E → q ≠ t) (j : Nat) (u : Value) : d.R e (w.setCell ⟨g, j, none⟩ u) base ok v xs :=
 Kd.R_mono (Kd.R_far (p := ⟨g, j, none⟩) (R_typesF h hb ht) (fun _ hk => hk.2) u) (fun _ hk => hk.1)
section
variable {P : Program} {ops : Array Oper} {rest : List Oper} {o : Oper} {a : Act} {Q : Exit → Act → World → Prop}
theorem conv_event {W : World} (hgd : o.guard = none) {N : Tmp} (_hd : o.dst = some N) {src dst e : TypeId} {x : Operand} {s : ByteArray} {u : TypeDesc} (ho : o.op = .convert src dst x) (hx : a.eval x = .string s)
  (hs : P.underlying src = some u) (hdst : P.underlying dst = some (.slice e)) (he : P.underlying e = some (.int .u8))
  (h : ∀ g cap w1, g = W.heap.size → BRow w1 W.heap.size g cap e (bytesOf s) → Below W.heap.size W w1 → wpList P ops Q rest (a.put o.dst (.slice (some ⟨g, 0, none⟩) s.size cap)) w1) : wpList P ops Q (o :: rest) a W := by
 refine Kd.event_run hgd (w1 := Lib.bytesWorld W e s) ?_ (h W.heap.size (grownCap W s.size 0 e) _ rfl ?_ ?_)
 ·simp only [execOp, ho, hx]
  have := Lib.run_convert_string_bytes (P := P) W src dst e s hs hdst he
  simp [this]
 ·refine ⟨Lib.bytesCells W e s, Nat.le_refl _, Lib.bytesWorld_at_new W e s, ?_, ?_⟩
  ·simp [Lib.bytesCells, bytesOf]
  ·simp [Lib.bytesCells, bytesOf, nums]
 ·refine ⟨?_, ?_, ?_, ?_, fun k hk => Lib.bytesWorld_at_old W e s k hk⟩
  ·simp [Lib.bytesWorld, World.freeze, World.alloc, World.drew, -World.alloc_eq, -World.drew_eq]
  ·simp [Lib.bytesWorld, World.freeze, World.alloc, World.drew, -World.alloc_eq, -World.drew_eq]
  ·simp [Lib.bytesWorld, World.freeze, World.alloc, World.drew, -World.alloc_eq, -World.drew_eq]
  ·rw [Lib.bytesWorld_size]; omega
end
end Go.Proofs.Ytickdcegnlldjaa.Hd
namespace Go.Proofs.Ytickdcegnlldjaa.Hd
open Go.RowKit Go.Proofs.YtickdcegnlldjaaW.PrintWords Go.Proofs.YtickdcegnlldjaaW.PrintLast Go.Proofs.YtickdcegnlldjaaW.PrintMore Go.Proofs.Ytickdcegnlldjaa.PB
section
variable {P : Program} {ops : Array Oper} {Q : Exit → Act → World → Prop}
theorem goesv_ {oi : Oper} {N : Option Tmp} {a : Act} {w : World} {K : Act → World → Prop} {f : FuncId} {fn : Func} {x : Operand} {captured : Array Value} {xs_ : Array Operand} {ts : Array TypeId} (hf : P.funcs[f]? = some fn) (hname : (fn.name == "runtime.NumGoroutine") = false) (hb : fn.body.isSome = true) (args : Array Value)
  (hw : Region.wanted oi (yielded ops a.tmps) = true) (hN : oi.dst = N) (hop : oi.op = .call { callee := .value x, args := xs_, argTypes := ts }) (hx : a.eval x = .func (.func f) #[] captured) (hargs : xs_.map a.eval = args)
  (h : Calls P f (args ++ captured) w fun e w' => ∃ v, e = .returned v ∧ K (a.put N v) w') : if Region.wanted oi (yielded ops a.tmps) = true then Oper.wp P oi a w K Q else K (a.put N undef) w := by
 refine call_ f (args ++ captured) hw hN ?_ h
 have he := enters_ hf hname hb (args ++ captured) w
 unfold execOp
 simp [hop, resolve, Deferred.ofValue, invoke, hx, hargs, he]
theorem goesvL_ {rest : List Oper} {oi : Oper} {a : Act} {w : World} (N : Option Tmp) (hd : oi.dst = N) (hg : oi.guard = none) {f : FuncId} {fn : Func} {x : Operand} {captured : Array Value} {xs_ : Array Operand} {ts : Array TypeId} (hf : P.funcs[f]? = some fn) (hname : (fn.name == "runtime.NumGoroutine") = false) (hb : fn.body.isSome = true) (args : Array Value)
  (hop : oi.op = .call { callee := .value x, args := xs_, argTypes := ts }) (hx : a.eval x = .func (.func f) #[] captured) (hargs : xs_.map a.eval = args)
  (h : Calls P f (args ++ captured) w fun e w' => ∃ v, e = .returned v ∧ wpList P ops Q rest (a.put N v) w') : wpList P ops Q (oi :: rest) a w := by
 refine wpList_plain hg fun K hK => ?_
 have he := enters_ hf hname hb (args ++ captured) w
 have hrun : (execOp a.eval oi).run P w = .ok (.enter f (args ++ captured)) w := by
  unfold execOp
  simp [hop, resolve, Deferred.ofValue, invoke, hx, hargs, he]
 unfold Oper.wp
 rw [hrun, Oper.upon_enter]
 refine h.mono fun e w'' hh => ?_
 obtain ⟨v, rfl, hk⟩ := hh
 subst hd
 exact hK _ _ hk
end
theorem zip_at {α β : Type} {xs : List α} {ys : List β} {i : Nat} {x : α} {y : β} (hx : xs[i]? = some x) (hy : ys[i]? = some y) : (xs.zip ys)[i]? = some (x, y) := by
 simp [List.zip, List.getElem?_zipWith, hx, hy]
theorem nodup_at {xs : List Nat} (h : xs.Nodup) {i k x : Nat} (hi : xs[i]? = some x) (hk : xs[k]? = some x) : i = k := by
 induction xs generalizing i k with
 | nil => simp at hi
 | cons a r ih =>
  rw [List.nodup_cons] at h
  cases i with
  | zero =>
   cases k with
   | zero => rfl
   | succ k =>
    simp at hi hk
    subst hi
    exact absurd (List.mem_of_getElem? hk) h.1
  | succ i =>
   cases k with
   | zero =>
    simp at hi hk
    subst hk
    exact absurd (List.mem_of_getElem? hi) h.1
   | succ k =>
    simp at hi hk
    rw [ih h.2 hi hk]
def rowV (p : Nat × List Int) : Value := .slice (some ⟨p.1, 0, none⟩) p.2.length p.2.length
structure MatAt (W : World) (g n : Nat) (bs : List Nat) (rows : List (List Int)) : Prop where
 len : bs.length = rows.length
 top : W.heap[g]? = some (.cells ((bs.zip rows).map rowV ++ List.replicate (n - rows.length) (Value.slice none 0 0)).toArray 24 (0, 0))
 row : ∀ (i : Nat) (b : Nat) (r : List Int), bs[i]? = some b → rows[i]? = some r → W.heap[b]? = some (.cells (r.map (Value.int .i64)).toArray 3 (0, 0))
 nodup : (g :: bs).Nodup
theorem MatAt.move {W W1 : World} {g n : Nat} {bs : List Nat} {rows : List (List Int)} (h : MatAt W g n bs rows) (hm : ∀ k, k ∈ g :: bs → W1.heap[k]? = W.heap[k]?) : MatAt W1 g n bs rows :=
 ⟨h.len, (hm g List.mem_cons_self).trans h.top, fun i b r hb hr => (hm b (List.mem_cons_of_mem _ (List.mem_of_getElem? hb))).trans (h.row i b r hb hr), h.nodup⟩
theorem MatAt.lt {W : World} {g n : Nat} {bs : List Nat} {rows : List (List Int)} (h : MatAt W g n bs rows) : ∀ k, k ∈ g :: bs → k < W.heap.size := by
 intro k hk
 rcases List.mem_cons.1 hk with rfl | hk
 ·exact (Array.getElem?_eq_some_iff.1 h.top).1
 ·obtain ⟨i, hi, rfl⟩ := List.getElem_of_mem hk
  have hr : i < rows.length := by rw [← h.len]; exact hi
  exact (Array.getElem?_eq_some_iff.1 (h.row i _ _ (List.getElem?_eq_getElem hi) (List.getElem?_eq_getElem hr))).1
theorem MatAt.topCell {W : World} {g n : Nat} {bs : List Nat} {rows : List (List Int)} (h : MatAt W g n bs rows) (i : Nat) (b : Nat) (r : List Int) (hb : bs[i]? = some b) (hr : rows[i]? = some r) : W.cell? ⟨g, i, none⟩ = some (.slice (some ⟨b, 0, none⟩) r.length r.length) := by
 simp only [World.cell?, h.top]
 have h1 : ((bs.zip rows).map rowV)[i]? = some (rowV (b, r)) := by
  rw [List.getElem?_map, zip_at hb hr]; rfl
 have h2 := (List.getElem?_eq_some_iff.1 h1).1
 simp only [Option.isSome_none, Bool.false_eq_true, if_false]
 rw [List.getElem?_toArray, List.getElem?_append_left h2, h1]
 rfl
theorem MatAt.rowCell {W : World} {g n : Nat} {bs : List Nat} {rows : List (List Int)} (h : MatAt W g n bs rows) (i j : Nat) (b : Nat) (r : List Int) (x : Int) (hb : bs[i]? = some b) (hr : rows[i]? = some r) (hx : r[j]? = some x) : W.cell? ⟨b, j, none⟩ = some (.int .i64 x) ∧ W.frozen? ⟨b, j, none⟩ = false := by
 have h1 := h.row i b r hb hr
 refine ⟨?_, by simp [World.frozen?, h1]⟩
 simp only [World.cell?, h1]
 simp [hx]
theorem MatAt.reads {W : World} {g n : Nat} {bs : List Nat} {rows : List (List Int)} (h : MatAt W g n bs rows) (hn : rows.length ≤ 1048576) (hm : ∀ r ∈ rows, r.length ≤ 1048576) : (Kd.slice 3 (Kd.int .i64)).C W (some ⟨g, 0, none⟩) rows.length rows := by
 refine ⟨rfl, by omega, fun _ => ⟨_, rfl, fun i r hr => ?_⟩⟩
 have hi := (List.getElem?_eq_some_iff.1 hr).1
 obtain ⟨b, hb⟩ : ∃ b, bs[i]? = some b := ⟨_, List.getElem?_eq_getElem (by rw [h.len]; exact hi)⟩
 have hrl := hm r (List.mem_of_getElem? hr)
 refine ⟨[.slice (some ⟨b, 0, none⟩) r.length r.length], rfl, ⟨_, _, rfl, Nat.le_refl _, rfl, by omega, fun _ => ⟨_, rfl, fun j x hx => ?_⟩⟩, fun k u hu => ?_⟩
 ·refine ⟨[.int .i64 x], rfl, rfl, fun k u hu => ?_⟩
  have hk : k = 0 := by
   rcases Nat.eq_zero_or_pos k with h0 | h0
   ·exact h0
   ·rw [List.getElem?_eq_none (by simp; omega)] at hu; cases hu
  subst hk
  have hu' : Value.int .i64 x = u := by simpa using hu
  subst hu'
  show W.cell? ((⟨b, 0, none⟩ : Addr).add (j * 1 + 0)) = _
  rw [Nat.mul_one, Nat.add_zero, add_plain]
  exact (h.rowCell i j b r x hb hr hx).1
 ·have hk : k = 0 := by
   rcases Nat.eq_zero_or_pos k with h0 | h0
   ·exact h0
   ·rw [List.getElem?_eq_none (by simp; omega)] at hu; cases hu
  subst hk
  have hu' : Value.slice (some ⟨b, 0, none⟩) r.length r.length = u := by simpa using hu
  subst hu'
  show W.cell? ((⟨g, 0, none⟩ : Addr).add (i * 1 + 0)) = _
  rw [Nat.mul_one, Nat.add_zero, add_plain]
  exact h.topCell i b r hb hr
theorem MatAt.set {W : World} {g n : Nat} {bs : List Nat} {rows : List (List Int)} (h : MatAt W g n bs rows) (i j : Nat) (b : Nat) (r : List Int) (x : Int) (hb : bs[i]? = some b) (hr : rows[i]? = some r) : MatAt (W.setCell ⟨b, j, none⟩ (.int .i64 x)) g n bs (rows.set i (r.set j x)) := by
 have hbm : b ∈ bs := List.mem_of_getElem? hb
 have hgb : g ≠ b := fun e => (List.nodup_cons.1 h.nodup).1 (e ▸ hbm)
 have hil := (List.getElem?_eq_some_iff.1 hb).1
 have hrl := (List.getElem?_eq_some_iff.1 hr).1
 refine ⟨by rw [List.length_set]; exact h.len, ?_, fun k b' r' hb' hr' => ?_, h.nodup⟩
 ·rw [Below.heap_setCell _ _ _ _ hgb, h.top, List.length_set]
  have h1 : (bs.zip (rows.set i (r.set j x))).map rowV = (bs.zip rows).map rowV := by
   apply List.ext_getElem?
   intro k
   simp only [List.getElem?_map]
   by_cases hk : i = k
   ·subst hk
    rw [zip_at hb hr, zip_at hb (List.getElem?_set_self hrl)]
    simp [rowV]
   ·congr 1
    simp only [List.zip, List.getElem?_zipWith, List.getElem?_set_ne hk]
  rw [h1]
 ·by_cases hk : i = k
  ·subst hk
   rw [hb] at hb'
   obtain rfl := Option.some.inj hb'
   rw [List.getElem?_set_self hrl] at hr'
   obtain rfl := Option.some.inj hr'
   have h1 := h.row i b r hb hr
   simp only [World.setCell, Array.getElem?_modify, if_true]
   rw [h1]
   simp [List.map_set]
  ·have hne : b' ≠ b := fun e => by
    subst e
    exact hk (nodup_at (List.nodup_cons.1 h.nodup).2 hb hb')
   rw [Below.heap_setCell _ _ _ _ hne]
   rw [List.getElem?_set_ne hk] at hr'
   exact h.row k b' r' hb' hr'
theorem MatAt.push {W W1 : World} {g n b : Nat} {bs : List Nat} {rows : List (List Int)} {r : List Int} (h : MatAt W g n bs rows) (hk : rows.length < n) (hb : ∀ k, k ∈ g :: bs → k ≠ b)
  (htop : W1.heap[g]? = some (.cells ((((bs.zip rows).map rowV ++ List.replicate (n - rows.length) (Value.slice none 0 0)).set rows.length (rowV (b, r))).toArray) 24 (0, 0)))
  (hrow : W1.heap[b]? = some (.cells (r.map (Value.int .i64)).toArray 3 (0, 0))) (hm : ∀ k, k ∈ bs → W1.heap[k]? = W.heap[k]?) : MatAt W1 g n (bs ++ [b]) (rows ++ [r]) := by
 refine ⟨by simp [h.len], ?_, fun i b' r' hb' hr' => ?_, ?_⟩
 ·rw [htop]
  congr 3
  have h1 : ((bs.zip rows).map rowV).length = rows.length := by simp [h.len]
  rw [List.set_append_right _ _ (by omega), h1, Nat.sub_self, List.zip_append h.len, List.map_append, List.append_assoc]
  congr 1
  obtain ⟨m, hm⟩ : ∃ m, n - rows.length = m + 1 := ⟨n - rows.length - 1, by omega⟩
  rw [hm, List.replicate_succ, List.set_cons_zero, List.length_append, List.length_singleton, show n - (rows.length + 1) = m by omega]
  rfl
 ·rcases Nat.lt_or_ge i rows.length with hi | hi
  ·rw [List.getElem?_append_left (by rw [h.len]; exact hi)] at hb'
   rw [List.getElem?_append_left hi] at hr'
   rw [hm b' (List.mem_of_getElem? hb')]
   exact h.row i b' r' hb' hr'
  ·have : i = rows.length := by
    have := (List.getElem?_eq_some_iff.1 hr').1
    simp at this
    omega
   subst this
   rw [← h.len] at hb'
   simp at hb' hr'
   subst hb'; subst hr'
   exact hrow
 ·have h0 := h.nodup
  rw [← List.cons_append, List.nodup_append]
  exact ⟨h0, by simp, fun a ha c hc => by
   simp at hc
   subst hc
   exact hb a ha⟩
end Go.Proofs.Ytickdcegnlldjaa.Hd
namespace Go.Proofs.Ytickdcegnlldjaa.Hd
open Go.RowKit Go.Proofs.YtickdcegnlldjaaW.PrintWords Go.Proofs.YtickdcegnlldjaaW.PrintLast Go.Proofs.YtickdcegnlldjaaW.PrintMore Go.Proofs.Ytickdcegnlldjaa.PB
theorem C_row {α : Type} {d : Kd α} {e : Nat} {w : World} {A : Option Addr} {n : Nat} {xs : List (List α)} (h : (Kd.slice e d).C w A n xs) (i : Nat) (x : List α) (hx : xs[i]? = some x) :
  ∃ ad Ai ci, A = some ad ∧ w.cell? (ad.add i) = some (.slice Ai x.length ci) ∧ x.length ≤ ci ∧ d.C w Ai x.length x := by
 have hi := (List.getElem?_eq_some_iff.1 hx).1
 obtain ⟨ad, e1, hc⟩ := h.2.2 (by have := h.1; omega)
 obtain ⟨c, hs, ⟨Ai, ci, rfl, hl, hr⟩, hcell⟩ := hc i x hx
 refine ⟨ad, Ai, ci, e1, ?_, hl, hr⟩
 have := hcell 0 (.slice Ai x.length ci) rfl
 simpa [Kd.slice] using this
theorem C_len {α : Type} {d : Kd α} {w : World} {A : Option Addr} {n : Nat} {xs : List α} (h : d.C w A n xs) : xs.length = n ∧ n ≤ 9223372036854775807 := ⟨h.1, h.2.1⟩
def PredFn (P : Program) (f : FuncId) (caps : Array Value) (w : World) (p : List Int → Bool) : Prop :=
 ∀ (W : World) (row : List Int) (A : Option Addr) (c : Nat), Below w.heap.size w W → (Kd.int .i64).C W A row.length row → row.length ≤ c → Calls P f (#[.slice A row.length c] ++ caps) W fun e W' => e = .returned (.bool (p row)) ∧ Below W.heap.size W W'
def IndexPost (w : World) (rows : List (List Int)) (p : List Int → Bool) (e : Ending) (w' : World) : Prop := ∃ i : Int, e = .returned (.int .i64 i) ∧ decide (0 ≤ i) = rows.any p ∧ Below w.heap.size w w'
set_option maxHeartbeats 4000000 in
set_option maxRecDepth 100000 in
theorem index_calls (f : FuncId) (fn : Func) (hf : Try.prog.funcs[f]? = some fn) (hname : (fn.name == "runtime.NumGoroutine") = false) (hb : fn.body.isSome = true) (caps : Array Value) (p : List Int → Bool) (A0 : Option Addr) (c0 : Nat) (rows : List (List Int)) (w : World)
  (hr0 : (Kd.slice 3 (Kd.int .i64)).C w A0 rows.length rows) (hp : PredFn Try.prog f caps w p) :
  Calls Try.prog 99 #[.slice A0 rows.length c0, .func (.func f) #[] caps] w (IndexPost w rows p) := by
 have hn := (C_len hr0).2
 have HR0 := Aside0.mk hr0
 have HP := Aside0.mk hp
 have HF := Aside0.mk hf
 have HN := Aside0.mk hname
 have HBd := Aside0.mk hb
 clear hr0 hp hf hname hb
 have b1 : (rows.length : Int) ≤ 9223372036854775807 := by omega
 go_enter Try.func99, Try.ntmps99
 go_wp2
 go_loopg [8] rows.length (fun kq v8 w' => ∃ i : Nat, v8 = .int .i64 (i : Int) ∧ Aside0 (i + kq = rows.length) ∧ Aside0 ((rows.take i).any p = false) ∧ Aside0 (Below w.heap.size w w'))
 case atStart => exact ⟨0, rfl, ⟨by omega⟩, ⟨by simp⟩, ⟨Below.refl _ _⟩⟩
 case round =>
  obtain ⟨i, rfl, HK, HA, HB⟩ := hrel
  by_cases hi : i < rows.length
  ·have hlt : (i : Int) < rows.length := by omega
   have hi0 : (0 : Int) ≤ i := by omega
   obtain ⟨row, hrow⟩ : ∃ row, rows[i]? = some row := ⟨_, List.getElem?_eq_getElem hi⟩
   obtain ⟨ad, Ai, ci, e1, hx, hl, hr⟩ := C_row HR0.out i row hrow
   cases e1
   replace hx := pw_cell_below HB.out hx
   have HRi := Aside0.mk (Kd.C_below hr HB.out)
   have HLi := Aside0.mk hl
   have HRow := Aside0.mk hrow
   have HT := Aside0.mk (show (rows.take (i + 1)).any p = p row by
    rw [List.take_add_one, hrow, List.any_append, HA.out]; simp)
   clear hr hl hrow
   generalize hpv : p row = b at HT
   have HPV := Aside0.mk hpv
   clear hpv
   cases b
   ·go_wp2_with (first | ((with_reducible refine gate_dst (N := 16) rfl ?_); refine goesvL_ (some 16) rfl rfl HF.out HN.out HBd.out #[.slice Ai row.length ci] rfl rfl (by (try simp only [List.map_toArray, List.map_cons, List.map_nil]); first | done | rfl) ?_; refine (HP.out _ row Ai ci HB.out HRi.out HLi.out).mono ?_; rintro e w8 ⟨rfl, hb8⟩; rw [HPV.out]; refine ⟨_, rfl, ?_⟩; have HB8 := Aside0.mk (below_step HB.out hb8); clear hb8))
    go_roundg (rows.length - (i + 1))
    case measure => have := HK.out; omega
    case rel => exact ⟨i + 1, by first | rfl | (congr 1; omega), ⟨by have := HK.out; omega⟩, HT, HB8⟩
   ·go_wp2_with (first | ((with_reducible refine gate_dst (N := 16) rfl ?_); refine goesvL_ (some 16) rfl rfl HF.out HN.out HBd.out #[.slice Ai row.length ci] rfl rfl (by (try simp only [List.map_toArray, List.map_cons, List.map_nil]); first | done | rfl) ?_; refine (HP.out _ row Ai ci HB.out HRi.out HLi.out).mono ?_; rintro e w8 ⟨rfl, hb8⟩; rw [HPV.out]; refine ⟨_, rfl, ?_⟩; have HB8 := Aside0.mk (below_step HB.out hb8); clear hb8))
    go_ret
    refine ⟨i, rfl, ?_, HB8.out⟩
    rw [decide_eq_true (by omega), ← List.take_append_drop (i + 1) rows, List.any_append, HT.out]
    rfl
  ·have hge : ¬ (i : Int) < rows.length := by omega
   obtain rfl : i = rows.length := by have := HK.out; omega
   go_wp2
   go_ret
   refine ⟨-1, rfl, ?_, HB.out⟩
   have := HA.out
   rw [List.take_length] at this
   rw [this]
   rfl
set_option maxHeartbeats 4000000 in
set_option maxRecDepth 100000 in
theorem contains_calls (f : FuncId) (fn : Func) (hf : Try.prog.funcs[f]? = some fn) (hname : (fn.name == "runtime.NumGoroutine") = false) (hb : fn.body.isSome = true) (caps : Array Value) (p : List Int → Bool) (A0 : Option Addr) (c0 : Nat) (rows : List (List Int)) (w : World)
  (hr0 : (Kd.slice 3 (Kd.int .i64)).C w A0 rows.length rows) (hp : PredFn Try.prog f caps w p) :
  Calls Try.prog 74 #[.slice A0 rows.length c0, .func (.func f) #[] caps] w fun e w' => e = .returned (.bool (rows.any p)) ∧ Below w.heap.size w w' := by
 have H := Aside0.mk (index_calls f fn hf hname hb caps p A0 c0 rows w hr0 hp)
 clear hr0 hp hf hname hb
 generalize hv : rows.any p = v
 have HV := Aside0.mk hv
 clear hv
 go_enter Try.func74, Try.ntmps74
 go_wp2_with (first | (go_at_call 99; refine H.out.mono ?_; rintro e w8 ⟨i, rfl, hi, hb8⟩; rw [HV.out] at hi; have HB8 := Aside0.mk hb8; clear hb8))
 go_ret
 exact ⟨by rw [← hi]; rfl, HB8.out⟩
set_option maxHeartbeats 4000000 in
set_option maxRecDepth 100000 in
theorem settled1_pred (w : World) (gw wide : Nat) (hw : w.cell? ⟨gw, 0, none⟩ = some (.int .i64 (wide : Int))) (hwl : wide ≤ 1048576) : PredFn Try.prog 116 #[.pointer (some ⟨gw, 0, none⟩)] w (fun row => row.length != wide) := by
 intro W row A c hb hr hc
 have hx := pw_cell_below hb hw
 have HB := Aside0.mk hb
 have hrl := (C_len hr).2
 clear hb hw hr hc
 by_cases h : row.length = wide
 ·subst h
  show Calls _ _ #[.slice A row.length c, .pointer (some ⟨gw, 0, none⟩)] W _
  go_enter Try.func116, Try.ntmps116
  go_wp2
  go_ret
  exact ⟨by simp, Below.refl _ _⟩
 ·have hne : ((row.length : Int) != (wide : Int)) = true := by rw [bne_iff_ne]; omega
  have hne2 : (row.length != wide) = true := by rw [bne_iff_ne]; exact h
  rw [show (fun row : List Int => row.length != wide) row = true from hne2]
  show Calls _ _ #[.slice A row.length c, .pointer (some ⟨gw, 0, none⟩)] W _
  go_enter Try.func116, Try.ntmps116
  go_wp2
  go_ret
  exact ⟨by simp, Below.refl _ _⟩
open Go.Maps Go.WideMaps
def putPlace (D : DataW Unit) (p : Int × Nat) : DataW Unit := D.put (.int .i64 p.1) (.lit (.int .i64 (p.2 : Int)))
def mapD (ks : List Int) : DataW Unit := ks.zipIdx.foldl putPlace (.map [])
theorem mapD_snoc (ks : List Int) (x : Int) : mapD (ks ++ [x]) = (mapD ks).put (.int .i64 x) (.lit (.int .i64 (ks.length : Int))) := by
 simp [mapD, List.zipIdx_append, putPlace]
theorem list_snoc_ind {α : Type} {p : List α → Prop} (h0 : p []) (h1 : ∀ xs x, p xs → p (xs ++ [x])) : ∀ xs, p xs := by
 intro xs
 have : ∀ n (xs : List α), xs.length = n → p xs := by
  intro n
  induction n with
  | zero => intro xs h; rw [List.eq_nil_of_length_eq_zero h]; exact h0
  | succ n ih =>
   intro xs h
   have hne : xs ≠ [] := by intro e; rw [e] at h; simp at h
   rw [← List.dropLast_concat_getLast hne]
   exact h1 _ _ (ih _ (by simp [h]))
 exact this _ xs rfl
theorem mapD_isMap (ks : List Int) : IsMap (mapD ks) := by
 refine list_snoc_ind (p := fun ks => IsMap (mapD ks)) isMap_empty (fun xs x ih => ?_) ks
 rw [mapD_snoc]
 exact ih.put _ _
theorem key_ne {x y : Int} (h : x ≠ y) : (Lit.int .i64 x) ≠ Lit.int .i64 y := by
 intro e
 injection e with _ e
 exact h e
theorem mapD_has (ks : List Int) (x : Int) : has (mapD ks) (.int .i64 x) = decide (x ∈ ks) := by
 refine list_snoc_ind (p := fun ks => has (mapD ks) (.int .i64 x) = decide (x ∈ ks)) (by simp [mapD, has]) (fun xs y ih => ?_) ks
 rw [mapD_snoc]
 by_cases h : x = y
 ·subst h
  rw [has_put_same (mapD_isMap _) (show WideAt.IsKeyLit (.int .i64 _) from trivial)]
  simp
 ·rw [has_put_other (key_ne h), ih]
  simp [h]
theorem mapD_at (ks : List Int) (x : Int) (hn : ks.Nodup) : (mapD ks).atKey (.int .i64 x) (.lit (.int .i64 0)) = .lit (.int .i64 (if x ∈ ks then (ks.idxOf x : Int) else 0)) := by
 revert hn
 refine list_snoc_ind (p := fun ks => ks.Nodup → (mapD ks).atKey (.int .i64 x) (.lit (.int .i64 0)) = .lit (.int .i64 (if x ∈ ks then (ks.idxOf x : Int) else 0))) (fun _ => by simp [mapD, DataW.atKey]) (fun xs y ih hn => ?_) ks
 rw [mapD_snoc]
 have hn2 := List.nodup_append.1 hn
 by_cases h : x = y
 ·subst h
  rw [atKey_put_same (mapD_isMap _) (show WideAt.IsKeyLit (.int .i64 _) from trivial)]
  have hx : x ∉ xs := fun hx => hn2.2.2 x hx x (by simp) rfl
  rw [if_pos (by simp), List.idxOf_append, if_neg hx]
  simp
 ·rw [atKey_put_other (key_ne h), ih hn2.1]
  by_cases hx : x ∈ xs
  ·rw [if_pos hx, if_pos (by simp [hx]), List.idxOf_append, if_pos hx]
  ·rw [if_neg hx, if_neg (by simp [hx, h])]
structure IMap (W : World) (b : Nat) (ks : List Int) : Prop where
 own : W.ownsMap Try.prog 3 (plainElem (H := Unit) Try.prog 3) b ks.length (mapD ks)
 nodup : ks.Nodup
theorem keyed : Keyed Try.prog 3 := int_keyed Try.underlying3
theorem zeroI (w : World) : (zeroValue 3).run Try.prog w = .ok (.int .i64 0) w := by kernel_rfl
theorem wf_of {x : Int} (h0 : -9223372036854775808 ≤ x) (h1 : x ≤ 9223372036854775807) : (Lit.int .i64 x).wf = true := by
 simp only [Lit.wf, IntKind.min, IntKind.max, IntKind.signed, IntKind.bits, Bool.and_eq_true, decide_eq_true_eq, if_true]
 omega
theorem IMap.made (W : World) : IMap (W.alloc (.map #[] 0)) W.heap.size [] := ⟨World.ownsMap_made _ _ _ _, List.nodup_nil⟩
theorem IMap.move {W W' : World} {b : Nat} {ks : List Int} (h : IMap W b ks) (hm : W'.heap[b]? = W.heap[b]?) : IMap W' b ks := by
 obtain ⟨⟨es, clock, hb, F, hs, hD⟩, hn⟩ := h
 exact ⟨⟨es, clock, hm.trans hb, F, hs, hD⟩, hn⟩
theorem IMap.lt {W : World} {b : Nat} {ks : List Int} (h : IMap W b ks) : b < W.heap.size := h.own.lt
theorem IMap.notCells {W : World} {b : Nat} {ks : List Int} (h : IMap W b ks) {cs : Array Value} {t : TypeId} {fz : Nat × Nat} {g : Nat} (hg : W.heap[g]? = some (.cells cs t fz)) : b ≠ g := by
 obtain ⟨⟨es, clock, hb, F, hs, hD⟩, hn⟩ := h
 rintro rfl
 rw [hb] at hg
 cases hg
theorem IMap.look {W : World} {b : Nat} {ks : List Int} (h : IMap W b ks) (x : Int) (h0 : -9223372036854775808 ≤ x) (h1 : x ≤ 9223372036854775807) :
  (Instr.lookup 118 (.map (some b)) (.int .i64 x) true).run Try.prog W = .ok (.tuple #[.int .i64 (if x ∈ ks then (ks.idxOf x : Int) else 0), .bool (decide (x ∈ ks))]) W := by
 obtain ⟨v, ps, hrun, hv⟩ := h.own.look_ok keyed Try.underlying118 (zeroI W) (plainElem_int Try.underlying3 (by decide)) (keyOf_int_mk Try.underlying3 (wf_of h0 h1))
 rw [hrun, mapD_has]
 obtain ⟨c, rfl, hc, hwc⟩ := plainElem_int_inv Try.underlying3 hv
 rw [mapD_at _ _ h.nodup] at hc
 simp only [Prod.mk.injEq] at hc
 have h2 : (if x ∈ ks then (ks.idxOf x : Int) else 0) = c := by
  exact (Lit.int.inj (DataW.lit.inj hc.1)).2
 rw [h2]
theorem mapD_size {W : World} {b : Nat} {ks : List Int} (h : IMap W b ks) : size (mapD ks) = ks.length := by
 have hn := h.nodup
 clear h
 revert hn
 have hT : ∀ ks, Tidy (mapD ks) := fun ks => by
  refine list_snoc_ind (p := fun ks => Tidy (mapD ks)) tidy_empty (fun xs x ih => ?_) ks
  rw [mapD_snoc]
  exact ih.put (show WideAt.IsKeyLit (.int .i64 x) from trivial) _
 refine list_snoc_ind (p := fun ks => ks.Nodup → size (mapD ks) = ks.length) (fun _ => rfl) (fun xs y ih hn => ?_) ks
 have hn2 := List.nodup_append.1 hn
 have hy : y ∉ xs := fun hx => hn2.2.2 y hx y (by simp) rfl
 rw [mapD_snoc, size_put (hT _), mapD_has, ih hn2.1]
 simp [hy]
theorem IMap.len {W : World} {b : Nat} {ks : List Int} (h : IMap W b ks) (ty : TypeId) : (Builtin.len_ #[118] ty #[.map (some b)]).run Try.prog W = .ok (.int .i64 (ks.length : Int)) W := by
 have := h.own.len (t := 118) Try.underlying118 ty
 rw [mapD_size h] at this
 exact this
theorem IMap.put {W : World} {b : Nat} {ks : List Int} (h : IMap W b ks) (x : Int) (h0 : -9223372036854775808 ≤ x) (h1 : x ≤ 9223372036854775807) (hx : x ∉ ks) (hl : ks.length ≤ 1048576) :
  ∃ w', (Instr.mapUpdate 118 (.map (some b)) (.int .i64 x) (.int .i64 (ks.length : Int))).run Try.prog W = .ok () w' ∧ IMap w' b (ks ++ [x]) ∧ W.grownBy w' (some b) := by
 obtain ⟨w', hrun, hown, hgr⟩ := h.own.update keyed (t := 118) Try.underlying118 (by unfold maxLen; omega) (keyOf_int_mk Try.underlying3 (wf_of h0 h1)) (plainElem_int Try.underlying3 (wf_of (x := (ks.length : Int)) (by omega) (by omega)))
 refine ⟨w', hrun, ⟨?_, ?_⟩, hgr⟩
 ·rw [mapD_snoc, List.length_append]
  exact hown
 ·rw [List.nodup_append]
  exact ⟨h.nodup, by simp, fun a ha c hc => by
   simp at hc
   subst hc
   exact fun e => hx (e ▸ ha)⟩
end Go.Proofs.Ytickdcegnlldjaa.Hd
namespace Go.Proofs.Ytickdcegnlldjaa.Hd
open Go.RowKit Go.Proofs.YtickdcegnlldjaaW.PrintWords Go.Proofs.YtickdcegnlldjaaW.PrintLast Go.Proofs.YtickdcegnlldjaaW.PrintMore Go.Proofs.Ytickdcegnlldjaa.PB
structure Other (F : Nat → Prop) (w w' : World) : Prop where
 os : w'.os = w.os
 tape : w'.tape = w.tape
 output : w'.output = w.output
 size : w.heap.size ≤ w'.heap.size
 block : ∀ k, k < w.heap.size → ¬ F k → w'.heap[k]? = w.heap[k]?
theorem Other.refl (F : Nat → Prop) (w : World) : Other F w w := ⟨rfl, rfl, rfl, Nat.le_refl _, fun _ _ _ => rfl⟩
theorem Other.trans {F F' : Nat → Prop} {a b c : World} (h : Other F a b) (k : Other F' b c) (hF : ∀ i, F' i → F i ∨ a.heap.size ≤ i) : Other F a c :=
 ⟨k.os.trans h.os, k.tape.trans h.tape, k.output.trans h.output, Nat.le_trans h.size k.size, fun i hi hn => (k.block i (Nat.lt_of_lt_of_le hi h.size) (fun hf => by
  rcases hF i hf with h1 | h1
  ·exact hn h1
  ·omega)).trans (h.block i hi hn)⟩
theorem Other.of_below {F : Nat → Prop} {w w' : World} (h : Below w.heap.size w w') : Other F w w' := ⟨h.os, h.tape, h.output, h.size, fun k hk _ => h.block k hk⟩
theorem Other.below {w w' : World} (h : Other (fun _ => False) w w') : Below w.heap.size w w' := ⟨h.os, h.tape, h.output, h.size, fun k hk => h.block k hk (fun h => h)⟩
theorem Other.below_ {F : Nat → Prop} {a b c : World} (h : Other F a b) (k : Below b.heap.size b c) : Other F a c :=
 h.trans (F' := fun _ => False) (Other.of_below k) (fun _ hf => hf.elim)
theorem Other.set_ {F : Nat → Prop} {a b : World} (h : Other F a b) {p : Addr} (hp : a.heap.size ≤ p.block) (u : Value) : Other F a (b.setCell p u) :=
 ⟨h.os, h.tape, h.output, by simpa [World.setCell] using h.size, fun i hi hn => (Below.heap_setCell _ _ _ _ (by omega)).trans (h.block i hi hn)⟩
theorem Other.drew {F : Nat → Prop} {a b : World} (h : Other F a b) : Other F a b.drew := ⟨h.os, h.tape, h.output, h.size, h.block⟩
section
variable {P : Program} {ops : Array Oper} {rest : List Oper} {o : Oper} {a : Act} {Q : Exit → Act → World → Prop}
theorem make_event {W : World} (hgd : o.guard = none) {N : Tmp} (hd : o.dst = some N) (t e : TypeId) (x y : Operand) (ho : o.op = .makeSlice t x y) (n : Nat) (hx : a.eval x = .int .i64 n) (hy : a.eval y = .int .i64 n)
  (ht : P.underlying t = some (.slice e)) (z : Value) (bytes : Nat) (hinfo : (P.info? e).map (fun i => (i.zero, i.size, i.bytes)) = some (some z, 1, bytes)) (hz : z.cells = #[z]) (hb0 : 0 < bytes) (hl : n * bytes ≤ 281474976710656)
  (h : ∀ g w1, g = W.heap.size → w1.heap[g]? = some (.cells (List.replicate n z).toArray e (0, 0)) → Below W.heap.size W w1 → w1.heap.size = g + 1 → wpList P ops Q rest (a.put o.dst (.slice (some ⟨g, 0, none⟩) n n)) w1) : wpList P ops Q (o :: rest) a W := by
 obtain ⟨i0, hi, hzz⟩ := Option.map_eq_some_iff.1 hinfo
 simp only [Prod.mk.injEq] at hzz
 obtain ⟨hz0, hz1, hz2⟩ := hzz
 have hm : n ≤ 281474976710656 := Nat.le_trans (Nat.le_mul_of_pos_right _ hb0) hl
 have hr := run_make (P := P) W t e i0 z ht hi hz0 .i64 .i64 (n : Int) (n : Int) (by omega) (by omega)
  (by
   have h3 : ((i0.bytes * n : Nat) : Int) ≤ 281474976710656 := by rw [hz2, Nat.mul_comm]; omega
   rwa [Int.natCast_mul] at h3) (by omega)
 simp only [Int.toNat_natCast] at hr
 rw [hz1] at hr
 refine Kd.event_run hgd (w1 := W.alloc (.cells (madeCells z.cells (n * 1)) e)) (by simp [execOp, ho, hx, hy, hr]) (h W.heap.size _ rfl ?_ (below_alloc (Below.refl _ _) _) (by simp))
 rw [heap_alloc_new]
 congr 2
 apply Array.ext
 ·simp [size_madeCells]
 ·intro i h1 h2
  have hi1 : i < n := by simpa using h2
  simp [madeCells, hz, Nat.mod_one]
end
theorem skip_step {P : Program} {ops : Array Oper} {o : Oper} {a : Act} {Q : Exit → Act → World → Prop} {Kc : Act → World → Prop} {N : Option Tmp} {W w1 : World} (hw : Region.wanted o (yielded ops a.tmps) = true) (hN : o.dst = none) (hrun : (execOp a.eval o).run P W = .ok .skip w1) (h : Kc a w1) : if Region.wanted o (yielded ops a.tmps) = true then Oper.wp P o a W Kc Q else Kc (a.put N undef) W := by
 rw [if_pos hw]
 unfold Oper.wp
 rw [hrun, Oper.upon_skip, hN]
 exact h
def gridOf (hi wi : Nat) (g : Nat → Nat → Int) : List (List Int) := (List.range hi).map fun r => (List.range wi).map fun c => g r c
def partRow (wi c : Nat) (g : Nat → Int) : List Int := (List.range c).map g ++ List.replicate (wi - c) 0
theorem partRow_length (wi c : Nat) (g : Nat → Int) (h : c ≤ wi) : (partRow wi c g).length = wi := by simp [partRow]; omega
theorem partRow_zero (wi : Nat) (g : Nat → Int) : partRow wi 0 g = List.replicate wi 0 := by simp [partRow]
theorem partRow_all (wi : Nat) (g : Nat → Int) : partRow wi wi g = (List.range wi).map g := by simp [partRow]
theorem partRow_succ (wi c : Nat) (g : Nat → Int) (h : c < wi) : (partRow wi c g).set c (g c) = partRow wi (c + 1) g := by
 unfold partRow
 have h1 : ((List.range c).map g).length = c := by simp
 rw [List.set_append_right _ _ (by omega), h1, Nat.sub_self, List.range_succ, List.map_append, List.append_assoc]
 congr 1
 obtain ⟨m, hm⟩ : ∃ m, wi - c = m + 1 := ⟨wi - c - 1, by omega⟩
 rw [hm, List.replicate_succ, List.set_cons_zero, show wi - (c + 1) = m by omega]
 rfl
theorem partRow_at (wi c : Nat) (g : Nat → Int) (h : c < wi) : (partRow wi c g)[c]? = some 0 := by
 unfold partRow
 have h1 : ((List.range c).map g).length = c := by simp
 rw [List.getElem?_append_right (by omega), h1, Nat.sub_self, List.getElem?_replicate, if_pos (by omega)]
theorem gridOf_length (hi wi : Nat) (g : Nat → Nat → Int) : (gridOf hi wi g).length = hi := by simp [gridOf]
theorem gridOf_succ (r wi : Nat) (g : Nat → Nat → Int) : gridOf (r + 1) wi g = gridOf r wi g ++ [(List.range wi).map (g r)] := by
 simp [gridOf, List.range_succ]
structure CellFn (P : Program) (f : FuncId) (caps : Array Value) (hi wi : Nat) (g : Nat → Nat → Int) (Inv : Nat → (Nat → Prop) → World → Prop) : Prop where
 move : ∀ n F W W', Inv n F W → W.heap.size ≤ W'.heap.size → (∀ k, F k → W'.heap[k]? = W.heap[k]?) → Inv n F W'
 lt : ∀ n F W k, Inv n F W → F k → k < W.heap.size
 calls : ∀ n F W (r c : Nat), r < hi → c < wi → n = r * wi + c → Inv n F W → Calls P f (#[.int .i64 r, .int .i64 c] ++ caps) W fun e W' => e = .returned (.int .i64 (g r c)) ∧ ∃ F', Inv (n + 1) F' W' ∧ (∀ k, F' k → F k ∨ W.heap.size ≤ k) ∧ Other F W W'
theorem blank_push {wr w2 : World} {g0 hi wi r b : Nat} {bs : List Nat} {g : Nat → Nat → Int} (HM : MatAt wr g0 hi bs (gridOf r wi g)) (hr : r < hi) (hb : b = wr.heap.size) (HB : Below wr.heap.size wr w2) (HW : w2.heap[b]? = some (.cells (List.replicate wi (Value.int .i64 0)).toArray 3 (0, 0))) :
  MatAt (w2.setCell ⟨g0, r, none⟩ (.slice (some ⟨b, 0, none⟩) wi wi)) g0 hi (bs ++ [b]) (gridOf r wi g ++ [partRow wi 0 (g r)]) := by
 have hlt := HM.lt
 have hg0 := hlt g0 List.mem_cons_self
 refine HM.push (by rw [gridOf_length]; exact hr) (fun k hk => by have := hlt k hk; omega) ?_ ?_ (fun k hk => ?_)
 ·have h1 := (HB.block g0 hg0).trans HM.top
  simp only [World.setCell, Array.getElem?_modify, if_true]
  rw [h1, gridOf_length]
  simp [rowV, partRow_length wi 0 (g r) (Nat.zero_le _)]
 ·rw [Below.heap_setCell _ _ _ _ (by show b ≠ g0; omega), HW, partRow_zero]
  simp
 ·have hk2 := hlt k (List.mem_cons_of_mem _ hk)
  rw [Below.heap_setCell _ _ _ _ (fun e => (List.nodup_cons.1 HM.nodup).1 (by rw [← show k = g0 from e]; exact hk)), HB.block k hk2]
def BlankPost (w : World) (hi wi : Nat) (g : Nat → Nat → Int) (Inv : Nat → (Nat → Prop) → World → Prop) (F0 : Nat → Prop) (e : Ending) (w' : World) : Prop := ∃ g0 bs F', e = .returned (.slice (some ⟨g0, 0, none⟩) hi hi) ∧ MatAt w' g0 hi bs (gridOf hi wi g) ∧ (∀ k, k ∈ g0 :: bs → w.heap.size ≤ k ∧ ¬ F' k) ∧ Inv (hi * wi) F' w' ∧ (∀ k, F' k → F0 k ∨ w.heap.size ≤ k) ∧ Other F0 w w'
set_option maxHeartbeats 4000000 in
set_option maxRecDepth 100000 in
theorem blank_calls (f : FuncId) (fn : Func) (hf : Try.prog.funcs[f]? = some fn) (hname : (fn.name == "runtime.NumGoroutine") = false) (hb : fn.body.isSome = true) (caps : Array Value) (hi wi : Nat) (g : Nat → Nat → Int) (Inv : Nat → (Nat → Prop) → World → Prop)
  (hC : CellFn Try.prog f caps hi wi g Inv) (F0 : Nat → Prop) (w : World) (h0 : Inv 0 F0 w) (hhi : hi ≤ 1048576) (hwi : wi ≤ 1048576) :
  Calls Try.prog 75 #[.int .i64 hi, .int .i64 wi, .func (.func f) #[] caps] w (BlankPost w hi wi g Inv F0) := by
 have H0 := Aside0.mk h0
 have HC := Aside0.mk hC
 have HF := Aside0.mk hf
 have HN := Aside0.mk hname
 have HBd := Aside0.mk hb
 clear h0 hC hf hname hb
 have i53 : (Try.prog.info? 24).map (fun i => (i.zero, i.size, i.bytes)) = some (some (.slice none 0 0), 1, 24) := by kernel_rfl
 have i3 : (Try.prog.info? 3).map (fun i => (i.zero, i.size, i.bytes)) = some (some (.int .i64 0), 1, 8) := by kernel_rfl
 have I53 := Aside0.mk i53
 have I3 := Aside0.mk i3
 clear i53 i3
 have b0 : (0 : Int) ≤ hi := by omega
 have b1 : (hi : Int) ≤ 1048576 := by omega
 have b2 : (0 : Int) ≤ wi := by omega
 have b3 : (wi : Int) ≤ 1048576 := by omega
 go_enter Try.func75, Try.ntmps75
 go_wp2_with (first | ((with_reducible refine gate_dst (N := 11) rfl ?_); refine make_event rfl (N := 11) rfl _ 24 _ _ rfl hi rfl rfl Try.underlying55 _ _ I53.out rfl (by decide) (by omega) ?_; intro g0 w1 hg hw1 hb1 hs1; have HG := Aside0.mk hg; have HW1 := Aside0.mk hw1; have HB1 := Aside0.mk hb1; have HS1 := Aside0.mk hs1; clear hg hw1 hb1 hs1))
 have hM0 : MatAt w1 g0 hi [] (gridOf 0 wi g) := ⟨rfl, by simpa [gridOf] using HW1.out, fun i b r hb hr => by simp at hb, by simp⟩
 have hI0 : Inv 0 F0 w1 := HC.out.move _ _ _ _ H0.out HB1.out.size (fun k hk => HB1.out.block k (HC.out.lt _ _ _ _ H0.out hk))
 have HM0 := Aside0.mk hM0
 have HI0 := Aside0.mk hI0
 have HO0 := Aside0.mk (Other.of_below (F := F0) HB1.out)
 clear hM0 hI0
 go_loopg [14] hi (fun kq v14 w' => ∃ (r : Nat) (bs : List Nat) (F : Nat → Prop), v14 = .int .i64 (r : Int) ∧ Aside0 (r + kq = hi) ∧ Aside0 (MatAt w' g0 hi bs (gridOf r wi g)) ∧ Aside0 (∀ k, k ∈ g0 :: bs → w.heap.size ≤ k ∧ ¬ F k) ∧ Aside0 (Inv (r * wi) F w') ∧ Aside0 (∀ k, F k → F0 k ∨ w.heap.size ≤ k) ∧ Aside0 (Other F0 w w'))
 case atStart => exact ⟨0, [], F0, rfl, ⟨by omega⟩, HM0, ⟨by
  intro k hk
  simp at hk
  subst hk
  exact ⟨by rw [HG.out]; exact Nat.le_refl _, fun hf => by have := HC.out.lt _ _ _ _ H0.out hf; have := HG.out; omega⟩⟩, ⟨by simpa using HI0.out⟩, ⟨fun k hk => .inl hk⟩, HO0⟩
 case round =>
  clear HM0 HI0 HO0
  obtain ⟨r, bs, F, rfl, HK, HM, HS, HI, HFs, HO⟩ := hrel
  by_cases hr : r < hi
  ·have hlt : (r : Int) < hi := by omega
   have hr0 : (0 : Int) ≤ r := by omega
   have hr1 : (r : Int) ≤ 1048576 := by omega
   have hlen := gridOf_length r wi g
   have hx0 : wr.cell? ⟨g0, r, none⟩ = some (.slice none 0 0) ∧ wr.frozen? ⟨g0, r, none⟩ = false := by
    have h1 := HM.out.top
    rw [hlen] at h1
    have h2 : ((bs.zip (gridOf r wi g)).map rowV).length = r := by simp [HM.out.len, hlen]
    refine ⟨?_, by simp [World.frozen?, h1]⟩
    simp only [World.cell?, h1]
    simp only [Option.isSome_none, Bool.false_eq_true, if_false]
    rw [List.getElem?_toArray, List.getElem?_append_right (by omega), h2, Nat.sub_self, List.getElem?_replicate, if_pos (by omega)]
   obtain ⟨hx1, hf1⟩ := hx0
   clear hlen
   go_wp2_with (first | ((with_reducible refine gate_dst (N := 20) rfl ?_); refine make_event rfl (N := 20) rfl _ 3 _ _ rfl wi rfl rfl Try.underlying24 _ _ I3.out rfl (by decide) (by omega) ?_; intro b w2 hg hw1 hb1 hs1; have HGb := Aside0.mk hg; have HW2 := Aside0.mk hw1; have HB2 := Aside0.mk hb1; have HS2 := Aside0.mk hs1; have hx2 : w2.cell? ⟨g0, r, none⟩ = some (.slice none 0 0) := pw_cell_below hb1 hx1; have hf2 : w2.frozen? ⟨g0, r, none⟩ = false := ((hb1.frozen (p := ⟨g0, r, none⟩) (World.block_lt_of_cell? wr _ hx1)).trans hf1); clear hg hw1 hb1 hs1 hx1 hf1))
   have HM3 := Aside0.mk (blank_push HM.out hr HGb.out HB2.out HW2.out)
   have hg0lt := HM.out.lt g0 List.mem_cons_self
   have HS3 := Aside0.mk (show ∀ k, k ∈ g0 :: (bs ++ [b]) → w.heap.size ≤ k ∧ ¬ F k from fun k hk => by
    rw [← List.cons_append, List.mem_append] at hk
    rcases hk with hk | hk
    ·exact HS.out k hk
    ·simp at hk
     subst hk
     exact ⟨by rw [HGb.out]; exact HO.out.size, fun hf => by have := HC.out.lt _ _ _ _ HI.out hf; have := HGb.out; omega⟩)
   have HI3 := Aside0.mk (show Inv (r * wi) F (w2.setCell ⟨g0, r, none⟩ (.slice (some ⟨b, 0, none⟩) wi wi)) from HC.out.move _ _ _ _ HI.out (by simpa [World.setCell] using HB2.out.size) (fun k hk => by
    have h1 := HC.out.lt _ _ _ _ HI.out hk
    rw [Below.heap_setCell _ _ _ _ (fun e => (HS.out g0 List.mem_cons_self).2 (by rw [← show k = g0 from e]; exact hk)), HB2.out.block k h1]))
   have HO3 := Aside0.mk ((HO.out.below_ HB2.out).set_ (p := ⟨g0, r, none⟩) (HS.out g0 List.mem_cons_self).1 (.slice (some ⟨b, 0, none⟩) wi wi))
   clear HM HS HI HO HW2 HB2 HS2 hx2 hf2 hg0lt
   go_loopg [27] wi (fun kq v27 w' => ∃ (c : Nat) (F1 : Nat → Prop), v27 = .int .i64 (c : Int) ∧ Aside0 (c + kq = wi) ∧ Aside0 (MatAt w' g0 hi (bs ++ [b]) (gridOf r wi g ++ [partRow wi c (g r)])) ∧ Aside0 (∀ k, k ∈ g0 :: (bs ++ [b]) → w.heap.size ≤ k ∧ ¬ F1 k) ∧ Aside0 (Inv (r * wi + c) F1 w') ∧ Aside0 (∀ k, F1 k → F0 k ∨ w.heap.size ≤ k) ∧ Aside0 (Other F0 w w'))
   case atStart => exact ⟨0, F, rfl, ⟨by omega⟩, HM3, HS3, ⟨by simpa using HI3.out⟩, HFs, HO3⟩
   case round =>
    clear HM3 HS3 HI3 HO3 HFs F
    obtain ⟨c, F, rfl, HK2, HM, HS, HI, HFs, HO⟩ := hrel
    by_cases hc : c < wi
    ·have hlt2 : (c : Int) < wi := by omega
     have hc0 : (0 : Int) ≤ c := by omega
     have hc1 : (c : Int) ≤ 1048576 := by omega
     have hbl : bs.length = r := by have := HM.out.len; rw [List.length_append, List.length_append, gridOf_length] at this; simpa using this
     have hbr : (bs ++ [b])[r]? = some b := by rw [List.getElem?_append_right (by omega), hbl]; simp
     have hrr : (gridOf r wi g ++ [partRow wi c (g r)])[r]? = some (partRow wi c (g r)) := by rw [List.getElem?_append_right (by rw [gridOf_length]; omega), gridOf_length]; simp
     have hpl := partRow_length wi c (g r) (by omega)
     have HBR := Aside0.mk hbr
     have HRR := Aside0.mk hrr
     have hxt := HM.out.topCell r b _ hbr hrr
     rw [hpl] at hxt
     have HXT := Aside0.mk hxt
     clear hbr hrr hbl hpl
     go_wp2
     refine start_ (n := 11) (S := fun w' => w'.cell? ⟨g0, r, none⟩ = some (.slice (some ⟨b, 0, none⟩) wi wi)) (ds := []) #[false, false, false, false, false, false, false, false, false, false, false] (by kernel_rfl) rfl rfl (hxt) (fun hHeld => ?_)
     clear hxt
     have HM := Aside0.mk (show MatAt wr.drew g0 hi (bs ++ [b]) (gridOf r wi g ++ [partRow wi c (g r)]) from HM.out.move (fun _ _ => rfl))
     have HI := Aside0.mk (show Inv (r * wi + c) F wr.drew from HC.out.move _ _ _ _ HI.out (Nat.le_refl _) (fun _ _ => rfl))
     have HO := Aside0.mk (HO.out.drew)
     generalize wr.drew = w7 at HM HI HO hHeld ⊢
     refine pure_ (i := 0) (N := some 30) (v := ?_) (a' := ?_) #[true, false, false, false, false, false, false, false, false, false, false] rfl rfl (by kernel_rfl) (fun _ _ _ h => h) (Or.inl ⟨by rfl, ?_⟩) ?_ ?_
     rotate_left
     ·intro w'
      go_simp
      with_reducible rfl
     rotate_left
     ·simp only [Act.put, List.setIfInBounds_toArray, List.set_cons_zero, List.set_cons_succ, i64_w, i32_w]
      rfl
     refine pure_ (i := 1) (N := some 31) (v := ?_) (a' := ?_) #[true, true, false, false, false, false, false, false, false, false, false] rfl rfl (by kernel_rfl) (fun _ _ _ h => h) (Or.inl ⟨by rfl, ?_⟩) ?_ ?_
     rotate_left
     ·intro w'
      go_simp
      with_reducible rfl
     rotate_left
     ·simp only [Act.put, List.setIfInBounds_toArray, List.set_cons_zero, List.set_cons_succ, i64_w, i32_w]
      rfl
     refine pure_ (i := 4) (N := some 34) (v := ?_) (a' := ?_) #[true, true, false, false, true, false, false, false, false, false, false] rfl rfl (by kernel_rfl) (fun _ _ _ h => h) (Or.inl ⟨by rfl, ?_⟩) ?_ ?_
     rotate_left
     ·intro w'
      go_simp
      with_reducible rfl
     rotate_left
     ·simp only [Act.put, List.setIfInBounds_toArray, List.set_cons_zero, List.set_cons_succ, i64_w, i32_w]
      rfl
     refine pure_ (i := 5) (N := some 35) (v := ?_) (a' := ?_) #[true, true, false, false, true, true, false, false, false, false, false] rfl rfl (by kernel_rfl) (fun _ _ _ h => h) (Or.inl ⟨by rfl, ?_⟩) ?_ ?_
     rotate_left
     ·intro w'
      go_simp
      with_reducible rfl
     rotate_left
     ·simp only [Act.put, List.setIfInBounds_toArray, List.set_cons_zero, List.set_cons_succ, i64_w, i32_w]
      rfl
     refine pure_ (i := 6) (N := some 36) (v := ?_) (a' := ?_) #[true, true, false, false, true, true, true, false, false, false, false] rfl rfl (by kernel_rfl) (fun _ _ _ h => h) (Or.inl ⟨by rfl, ?_⟩) ?_ ?_
     rotate_left
     ·intro w'
      go_simp
      with_reducible rfl
     rotate_left
     ·simp only [Act.put, List.setIfInBounds_toArray, List.set_cons_zero, List.set_cons_succ, i64_w, i32_w]
      rfl
     refine pure_ (i := 7) (N := some 37) (v := ?_) (a' := ?_) #[true, true, false, false, true, true, true, true, false, false, false] rfl rfl (by kernel_rfl) (fun _ _ _ h => h) (Or.inl ⟨by rfl, ?_⟩) ?_ ?_
     rotate_left
     ·intro w'
      go_simp
      with_reducible rfl
     rotate_left
     ·simp only [Act.put, List.setIfInBounds_toArray, List.set_cons_zero, List.set_cons_succ, i64_w, i32_w]
      rfl
     refine pure_ (i := 2) (N := some 32) (v := ?_) (a' := ?_) #[true, true, true, false, true, true, true, true, false, false, false] rfl rfl (by kernel_rfl) (fun _ _ _ h => h) (Or.inl ⟨by rfl, ?_⟩) ?_ ?_
     rotate_left
     ·intro w'
      go_simp
      with_reducible rfl
     rotate_left
     ·simp only [Act.put, List.setIfInBounds_toArray, List.set_cons_zero, List.set_cons_succ, i64_w, i32_w]
      rfl
     refine take_ (i := 3) (N := some 33) (v := ?_) (a' := ?_) #[true, true, true, true, true, true, true, true, false, false, false] rfl rfl (by kernel_rfl) (fun _ _ _ h => h) (Or.inl ⟨by rfl, ?_⟩) hHeld ?_ ?_
     rotate_left
     ·rintro w' s0
      go_simp
      with_reducible rfl
     rotate_left
     ·simp only [Act.put, List.setIfInBounds_toArray, List.set_cons_zero, List.set_cons_succ, i64_w, i32_w]
      rfl
     refine one_ (i := 8) (N := some 38) #[true, true, true, true, true, true, true, true, true, false, false] rfl rfl (by kernel_rfl) (by decide) (fun K hK => ?_)
     refine goesv_ HF.out HN.out HBd.out #[.int .i64 (r : Int), .int .i64 (c : Int)] (by rfl) rfl rfl rfl (by (try simp only [List.map_toArray, List.map_cons, List.map_nil]); first | done | rfl) ?_
     refine (HC.out.calls (r * wi + c) F w7 r c hr hc rfl HI.out).mono ?_
     rintro e w8 ⟨rfl, F1, hI1, hF1, hO1⟩
     refine ⟨_, rfl, ?_⟩
     have hlt7 := HM.out.lt
     have hkeep : ∀ k, k ∈ g0 :: (bs ++ [b]) → w8.heap[k]? = w7.heap[k]? := fun k hk => hO1.block k (hlt7 k hk) (HS.out k hk).2
     have HM1 := Aside0.mk (HM.out.move hkeep)
     have HS1_ := Aside0.mk (show ∀ k, k ∈ g0 :: (bs ++ [b]) → w.heap.size ≤ k ∧ ¬ F1 k from fun k hk => ⟨(HS.out k hk).1, fun hf => by
      rcases hF1 k hf with h1 | h1
      ·exact (HS.out k hk).2 h1
      ·have := hlt7 k hk; omega⟩)
     have HFs1 := Aside0.mk (show ∀ k, F1 k → F0 k ∨ w.heap.size ≤ k from fun k hf => by
      rcases hF1 k hf with h1 | h1
      ·exact HFs.out k h1
      ·exact .inr (Nat.le_trans HO.out.size h1))
     have HO1 := Aside0.mk (HO.out.trans hO1 HFs.out)
     have HI1 := Aside0.mk hI1
     refine hK.out _ _ ((World.cell?_of_block (w := w7) (hkeep g0 List.mem_cons_self)).trans hHeld) (fun hHeld => ?_)
     clear hK K HM HS HI HFs HO hlt7 hkeep hI1 hF1 hO1
     refine norm_ (a' := ?_) ?_ ?_
     rotate_left
     ·show Act.put _ (some 38) _ = _
      simp only [Act.put, List.setIfInBounds_toArray, List.set_cons_zero, List.set_cons_succ, i64_w, i32_w]
      rfl
     refine pure_ (i := 9) (N := some 39) (v := ?_) (a' := ?_) #[true, true, true, true, true, true, true, true, true, true, false] rfl rfl (by kernel_rfl) (fun _ _ _ h => h) (Or.inl ⟨by rfl, ?_⟩) ?_ ?_
     rotate_left
     ·intro w'
      go_simp
      with_reducible rfl
     rotate_left
     ·simp only [Act.put, List.setIfInBounds_toArray, List.set_cons_zero, List.set_cons_succ, i64_w, i32_w]
      rfl
     obtain ⟨hx9, hf9⟩ := HM1.out.rowCell r c b _ 0 HBR.out HRR.out (partRow_at wi c (g r) hc)
     refine one_ (i := 10) (N := none) #[true, true, true, true, true, true, true, true, true, true, true] rfl rfl (by kernel_rfl) (by decide) (fun K hK => ?_)
     refine skip_step (by rfl) rfl (w1 := w8.setCell ⟨b, c, none⟩ (.int .i64 (g r c))) (by go_simp; done) ?_
     have hb0 : w.heap.size ≤ b := (HS1_.out b (by simp)).1
     have hgb : g0 ≠ b := fun e => (List.nodup_cons.1 HM1.out.nodup).1 (by rw [e]; simp)
     have HM2 := Aside0.mk (show MatAt (w8.setCell ⟨b, c, none⟩ (.int .i64 (g r c))) g0 hi (bs ++ [b]) (gridOf r wi g ++ [partRow wi (c + 1) (g r)]) by
      have z := HM1.out.set r c b _ (g r c) HBR.out HRR.out
      rw [partRow_succ wi c (g r) hc, List.set_append_right _ _ (by rw [gridOf_length]; exact Nat.le_refl _), gridOf_length, Nat.sub_self, List.set_cons_zero] at z
      exact z)
     have HI2 := Aside0.mk (show Inv (r * wi + (c + 1)) F1 (w8.setCell ⟨b, c, none⟩ (.int .i64 (g r c))) from HC.out.move _ _ _ _ HI1.out (by simp [World.setCell]) (fun k hk => Below.heap_setCell _ _ _ _ (fun e => (HS1_.out b (by simp)).2 (by rw [← show k = b from e]; exact hk))))
     have HO2 := Aside0.mk (HO1.out.set_ (p := ⟨b, c, none⟩) hb0 (.int .i64 (g r c)))
     refine hK.out _ _ (by rw [← hHeld]; exact World.cell?_of_block (Below.heap_setCell _ _ _ _ hgb)) (fun hHeld => ?_)
     clear hK K HM1 HI1 HO1 hb0 hx9 hf9 hgb
     generalize w8.setCell ⟨b, c, none⟩ (.int .i64 (g r c)) = w9 at HM2 HI2 HO2 hHeld ⊢
     refine done_ (by kernel_rfl) ?_
     clear hHeld
     go_wp2
     go_roundg (wi - (c + 1))
     case measure => have := HK2.out; omega
     case rel => exact ⟨c + 1, F1, by first | rfl | (congr 1; omega), ⟨by have := HK2.out; omega⟩, HM2, HS1_, HI2, HFs1, HO2⟩
    ·have hge : ¬ (c : Int) < wi := by omega
     obtain rfl : c = wi := by have := HK2.out; omega
     go_wp2
     go_roundg (hi - (r + 1))
     case measure => have := HK.out; omega
     case rel => exact ⟨r + 1, bs ++ [b], F, by first | rfl | (congr 1; omega), ⟨by have := HK.out; omega⟩, ⟨by rw [gridOf_succ, ← partRow_all]; exact HM.out⟩, HS, ⟨by rw [Nat.succ_mul]; exact HI.out⟩, HFs, HO⟩
  ·have hge : ¬ (r : Int) < hi := by omega
   obtain rfl : r = hi := by have := HK.out; omega
   go_wp2
   go_ret
   exact ⟨g0, bs, F, rfl, HM.out, HS.out, HI.out, HFs.out, HO.out⟩
end Go.Proofs.Ytickdcegnlldjaa.Hd
namespace Go.Proofs.Ytickdcegnlldjaa.PC
open Go.RowKit Go.Proofs.YtickdcegnlldjaaW.PrintWords Go.Proofs.YtickdcegnlldjaaW.PrintLast Go.Proofs.YtickdcegnlldjaaW.PrintMore
attribute [local go_sem] max2_int min2_int max_two min_two max_three min_three max_four min_four   -- for this text's walks alone
def errW : Option Int → Value
 | none => .nilIface
 | some c => .iface 0 (.int .i64 c)
theorem errW_none : errW none = .nilIface := rfl
theorem errW_some (c : Int) : errW (some c) = .iface 0 (.int .i64 c) := rfl
end Go.Proofs.Ytickdcegnlldjaa.PC
namespace Go.Proofs.Ytickdcegnlldjaa.PC
open Go.RowKit Go.Proofs.YtickdcegnlldjaaW.PrintWords Go.Proofs.YtickdcegnlldjaaW.PrintLast Go.Proofs.YtickdcegnlldjaaW.PrintMore
attribute [local go_sem] max2_int min2_int max_two min_two max_three min_three max_four min_four   -- for this text's walks alone
def impl_rect_both.f (a0_0 : Int) (a0_1 : Int) (a0_2 : Int) (a0_3 : Int) (a1_0 : Int) (a1_1 : Int) (a1_2 : Int) (a1_3 : Int) : Option (Int × Int × Int × Int) := some (mn a0_0 a1_0, mn a0_1 a1_1, wrap64 ((mx (wrap64 (a0_0 + a0_2)) (wrap64 (a1_0 + a1_2))) - (mn a0_0 a1_0)), wrap64 ((mx (wrap64 (a0_1 + a0_3)) (wrap64 (a1_1 + a1_3))) - (mn a0_1 a1_1)))
set_option maxHeartbeats 8000000 in
set_option maxRecDepth 100000 in
theorem impl_rect_both.calls (a0_0 : Int) (a0_1 : Int) (a0_2 : Int) (a0_3 : Int) (a1_0 : Int) (a1_1 : Int) (a1_2 : Int) (a1_3 : Int) (r1 : Int) (r2 : Int) (r3 : Int) (r4 : Int) (w : World) (h : impl_rect_both.f a0_0 a0_1 a0_2 a0_3 a1_0 a1_1 a1_2 a1_3 = some (r1, r2, r3, r4)) :
  Calls Try.prog 118 #[.agg #[.int .i64 a0_0, .int .i64 a0_1, .int .i64 a0_2, .int .i64 a0_3], .agg #[.int .i64 a1_0, .int .i64 a1_1, .int .i64 a1_2, .int .i64 a1_3]] w fun e w' => e = .returned (.agg #[.int .i64 r1, .int .i64 r2, .int .i64 r3, .int .i64 r4]) ∧ Below w.heap.size w w' := by
 have hu120 := Try.underlying120
 have HB := Aside0.mk (Below.refl w.heap.size w)
 have H : (some (mn a0_0 a1_0, mn a0_1 a1_1, wrap64 ((mx (wrap64 (a0_0 + a0_2)) (wrap64 (a1_0 + a1_2))) - (mn a0_0 a1_0)), wrap64 ((mx (wrap64 (a0_1 + a0_3)) (wrap64 (a1_1 + a1_3))) - (mn a0_1 a1_1)))) = some (r1, r2, r3, r4) := h
 clear h
 obtain ⟨ji3, hji3⟩ : ∃ j_ : Int, (mn a0_0 a1_0) = j_ := ⟨_, rfl⟩
 replace H : (some (ji3, mn a0_1 a1_1, wrap64 ((mx (wrap64 (a0_0 + a0_2)) (wrap64 (a1_0 + a1_2))) - (ji3)), wrap64 ((mx (wrap64 (a0_1 + a0_3)) (wrap64 (a1_1 + a1_3))) - (mn a0_1 a1_1)))) = some (r1, r2, r3, r4) := by first | (rw [hji3] at H; exact H) | (simp only [hji3] at H ⊢; exact H)
 have hji3_ : (if a1_0 < a0_0 then a1_0 else a0_0) = ji3 := hji3
 obtain ⟨ji4, hji4⟩ : ∃ j_ : Int, (mn a0_1 a1_1) = j_ := ⟨_, rfl⟩
 replace H : (some (ji3, ji4, wrap64 ((mx (wrap64 (a0_0 + a0_2)) (wrap64 (a1_0 + a1_2))) - (ji3)), wrap64 ((mx (wrap64 (a0_1 + a0_3)) (wrap64 (a1_1 + a1_3))) - (ji4)))) = some (r1, r2, r3, r4) := by first | (rw [hji4] at H; exact H) | (simp only [hji4] at H ⊢; exact H)
 have hji4_ : (if a1_1 < a0_1 then a1_1 else a0_1) = ji4 := hji4
 obtain ⟨ji5, hji5⟩ : ∃ j_ : Int, (mx (wrap64 (a0_0 + a0_2)) (wrap64 (a1_0 + a1_2))) = j_ := ⟨_, rfl⟩
 replace H : (some (ji3, ji4, wrap64 ((ji5) - (ji3)), wrap64 ((mx (wrap64 (a0_1 + a0_3)) (wrap64 (a1_1 + a1_3))) - (ji4)))) = some (r1, r2, r3, r4) := by first | (rw [hji5] at H; exact H) | (simp only [hji5] at H ⊢; exact H)
 have hji5_ : (if (wrap64 (a0_0 + a0_2)) < (wrap64 (a1_0 + a1_2)) then (wrap64 (a1_0 + a1_2)) else (wrap64 (a0_0 + a0_2))) = ji5 := hji5
 obtain ⟨ji6, hji6⟩ : ∃ j_ : Int, (mx (wrap64 (a0_1 + a0_3)) (wrap64 (a1_1 + a1_3))) = j_ := ⟨_, rfl⟩
 replace H : (some (ji3, ji4, wrap64 ((ji5) - (ji3)), wrap64 ((ji6) - (ji4)))) = some (r1, r2, r3, r4) := by first | (rw [hji6] at H; exact H) | (simp only [hji6] at H ⊢; exact H)
 have hji6_ : (if (wrap64 (a0_1 + a0_3)) < (wrap64 (a1_1 + a1_3)) then (wrap64 (a1_1 + a1_3)) else (wrap64 (a0_1 + a0_3))) = ji6 := hji6
 simp only [Option.some.injEq, Prod.mk.injEq] at H
 obtain ⟨rfl, rfl, rfl, rfl⟩ := H
 go_enter Try.func118, Try.ntmps118
 go_wp2_with (first | ((with_reducible refine gate_dst (N := 2) rfl ?_); refine box_event ?hg (N := 2) ?hd (cs := #[.int .i64 a0_0, .int .i64 a0_1, .int .i64 a0_2, .int .i64 a0_3]) (t := 120) ?hr ?_; (case hd => rfl); (case hg => rfl); (case hr => first | (go_simp; done) | (go_simp; rfl)); intro gb101 hg w7 hbox hb; have n0_ := Aside0.mk (below_step (by repeat (first | (with_reducible first | exact HB.out | apply below_alloc | apply pw_below_drewN | apply below_drew1) | exact HB.out)) hb); have n1_ := Aside0.mk (hbox); have n2_ := Aside0.mk ((by rw [hg]; exact (below_size (by repeat (first | (with_reducible first | exact HB.out | apply below_alloc | apply pw_below_drewN | apply below_drew1) | exact HB.out))) : w.heap.size ≤ gb101)); have n3_ := Aside0.mk ((by rw [hg]; exact (below_size (by repeat (first | (with_reducible first | exact HB.out | apply below_alloc | apply pw_below_drewN | apply below_drew1) | exact HB.out))) : w.heap.size ≤ gb101)); clear HB; have HB := n0_; have BK101 := n1_; have GW101 := n2_; have GE101 := n3_; clear n0_ n1_ n2_ n3_; clear hb hbox hg) | ((with_reducible refine gate_dst (N := 3) rfl ?_); refine box_event ?hg (N := 3) ?hd (cs := #[.int .i64 a1_0, .int .i64 a1_1, .int .i64 a1_2, .int .i64 a1_3]) (t := 120) ?hr ?_; (case hd => rfl); (case hg => rfl); (case hr => first | (go_simp; done) | (go_simp; rfl)); intro gb102 hg w8 hbox hb; have n0_ := Aside0.mk (blk_below (g := gb101) (o := .cells #[.int .i64 a0_0, .int .i64 a0_1, .int .i64 a0_2, .int .i64 a0_3] 120 (0, 0)) (by (with_reducible repeat (first | refine blk_drewN ?_ _ | refine blk_drew ?_ | refine blk_alloc ?_ _)); exact BK101.out) hb); have n1_ := Aside0.mk (below_step (by repeat (first | (with_reducible first | exact HB.out | apply below_alloc | apply pw_below_drewN | apply below_drew1 | refine below_set ?_ GE101.out) | exact HB.out)) hb); have n2_ := Aside0.mk (hbox); have n3_ := Aside0.mk ((by rw [hg]; exact (below_size (by repeat (first | (with_reducible first | exact HB.out | apply below_alloc | apply pw_below_drewN | apply below_drew1 | refine below_set ?_ GE101.out) | exact HB.out))) : w.heap.size ≤ gb102)); have n4_ := Aside0.mk ((by rw [hg]; exact (below_size (by repeat (first | (with_reducible first | exact HB.out | apply below_alloc | apply pw_below_drewN | apply below_drew1 | refine below_set ?_ GE101.out) | exact HB.out))) : w.heap.size ≤ gb102)); have n5_ := Aside0.mk ((by rw [hg]; exact Nat.ne_of_lt (blk_lt (g := gb101) (o := .cells #[.int .i64 a0_0, .int .i64 a0_1, .int .i64 a0_2, .int .i64 a0_3] 120 (0, 0)) (by (with_reducible repeat (first | refine blk_drewN ?_ _ | refine blk_drew ?_ | refine blk_alloc ?_ _)); exact BK101.out)) : gb101 ≠ gb102)); have n6_ := Aside0.mk ((by rw [hg]; exact Nat.ne_of_gt (blk_lt (g := gb101) (o := .cells #[.int .i64 a0_0, .int .i64 a0_1, .int .i64 a0_2, .int .i64 a0_3] 120 (0, 0)) (by (with_reducible repeat (first | refine blk_drewN ?_ _ | refine blk_drew ?_ | refine blk_alloc ?_ _)); exact BK101.out)) : gb102 ≠ gb101)); clear BK101; clear HB; have BK101 := n0_; have HB := n1_; have BK102 := n2_; have GW102 := n3_; have GE102 := n4_; have NB101_102 := n5_; have NB102_101 := n6_; clear n0_ n1_ n2_ n3_ n4_ n5_ n6_; clear hb hbox hg) | ((with_reducible refine gate_dst (N := 4) rfl ?_); refine box_event ?hg (N := 4) ?hd (cs := #[.int .i64 0, .int .i64 0, .int .i64 0, .int .i64 0]) (t := 120) ?hr ?_; (case hd => rfl); (case hg => rfl); (case hr => first | (go_simp; done) | (go_simp; rfl)); intro gb103 hg w9 hbox hb; have n0_ := Aside0.mk (blk_below (g := gb101) (o := .cells #[.int .i64 a0_0, .int .i64 a0_1, .int .i64 a0_2, .int .i64 a0_3] 120 (0, 0)) (by (with_reducible repeat (first | refine blk_drewN ?_ _ | refine blk_drew ?_ | refine blk_alloc ?_ _)); exact BK101.out) hb); have n1_ := Aside0.mk (blk_below (g := gb102) (o := .cells #[.int .i64 a1_0, .int .i64 a1_1, .int .i64 a1_2, .int .i64 a1_3] 120 (0, 0)) (by (with_reducible repeat (first | refine blk_drewN ?_ _ | refine blk_drew ?_ | refine blk_alloc ?_ _)); exact BK102.out) hb); have n2_ := Aside0.mk (below_step (by repeat (first | (with_reducible first | exact HB.out | apply below_alloc | apply pw_below_drewN | apply below_drew1 | refine below_set ?_ GE101.out | refine below_set ?_ GE102.out) | exact HB.out)) hb); have n3_ := Aside0.mk (hbox); have n4_ := Aside0.mk ((by rw [hg]; exact (below_size (by repeat (first | (with_reducible first | exact HB.out | apply below_alloc | apply pw_below_drewN | apply below_drew1 | refine below_set ?_ GE101.out | refine below_set ?_ GE102.out) | exact HB.out))) : w.heap.size ≤ gb103)); have n5_ := Aside0.mk ((by rw [hg]; exact (below_size (by repeat (first | (with_reducible first | exact HB.out | apply below_alloc | apply pw_below_drewN | apply below_drew1 | refine below_set ?_ GE101.out | refine below_set ?_ GE102.out) | exact HB.out))) : w.heap.size ≤ gb103)); have n6_ := Aside0.mk ((by rw [hg]; exact Nat.ne_of_lt (blk_lt (g := gb101) (o := .cells #[.int .i64 a0_0, .int .i64 a0_1, .int .i64 a0_2, .int .i64 a0_3] 120 (0, 0)) (by (with_reducible repeat (first | refine blk_drewN ?_ _ | refine blk_drew ?_ | refine blk_alloc ?_ _)); exact BK101.out)) : gb101 ≠ gb103)); have n7_ := Aside0.mk ((by rw [hg]; exact Nat.ne_of_gt (blk_lt (g := gb101) (o := .cells #[.int .i64 a0_0, .int .i64 a0_1, .int .i64 a0_2, .int .i64 a0_3] 120 (0, 0)) (by (with_reducible repeat (first | refine blk_drewN ?_ _ | refine blk_drew ?_ | refine blk_alloc ?_ _)); exact BK101.out)) : gb103 ≠ gb101)); have n8_ := Aside0.mk ((by rw [hg]; exact Nat.ne_of_lt (blk_lt (g := gb102) (o := .cells #[.int .i64 a1_0, .int .i64 a1_1, .int .i64 a1_2, .int .i64 a1_3] 120 (0, 0)) (by (with_reducible repeat (first | refine blk_drewN ?_ _ | refine blk_drew ?_ | refine blk_alloc ?_ _)); exact BK102.out)) : gb102 ≠ gb103)); have n9_ := Aside0.mk ((by rw [hg]; exact Nat.ne_of_gt (blk_lt (g := gb102) (o := .cells #[.int .i64 a1_0, .int .i64 a1_1, .int .i64 a1_2, .int .i64 a1_3] 120 (0, 0)) (by (with_reducible repeat (first | refine blk_drewN ?_ _ | refine blk_drew ?_ | refine blk_alloc ?_ _)); exact BK102.out)) : gb103 ≠ gb102)); clear BK101; clear BK102; clear HB; have BK101 := n0_; have BK102 := n1_; have HB := n2_; have BK103 := n3_; have GW103 := n4_; have GE103 := n5_; have NB101_103 := n6_; have NB103_101 := n7_; have NB102_103 := n8_; have NB103_102 := n9_; clear n0_ n1_ n2_ n3_ n4_ n5_ n6_ n7_ n8_ n9_; clear hb hbox hg; have hnb10 := NB101_102.out; have hnc10 := NB102_101.out; have hnb11 := NB101_103.out; have hnc11 := NB103_101.out; have hcz12_0 : w9.cell? ⟨gb101, 0, none⟩ = some (.int .i64 a0_0) := (blk_cell BK101.out 0).trans rfl; have hcz12_1 : w9.cell? ⟨gb101, 1, none⟩ = some (.int .i64 a0_1) := (blk_cell BK101.out 1).trans rfl; have hcz12_2 : w9.cell? ⟨gb101, 2, none⟩ = some (.int .i64 a0_2) := (blk_cell BK101.out 2).trans rfl; have hcz12_3 : w9.cell? ⟨gb101, 3, none⟩ = some (.int .i64 a0_3) := (blk_cell BK101.out 3).trans rfl; have hfz12_0 := blk_frozen BK101.out 0; have hfz12_1 := blk_frozen BK101.out 1; have hfz12_2 := blk_frozen BK101.out 2; have hfz12_3 := blk_frozen BK101.out 3; have hnb13 := NB102_103.out; have hnc13 := NB103_102.out; have hcz14_0 : w9.cell? ⟨gb102, 0, none⟩ = some (.int .i64 a1_0) := (blk_cell BK102.out 0).trans rfl; have hcz14_1 : w9.cell? ⟨gb102, 1, none⟩ = some (.int .i64 a1_1) := (blk_cell BK102.out 1).trans rfl; have hcz14_2 : w9.cell? ⟨gb102, 2, none⟩ = some (.int .i64 a1_2) := (blk_cell BK102.out 2).trans rfl; have hcz14_3 : w9.cell? ⟨gb102, 3, none⟩ = some (.int .i64 a1_3) := (blk_cell BK102.out 3).trans rfl; have hfz14_0 := blk_frozen BK102.out 0; have hfz14_1 := blk_frozen BK102.out 1; have hfz14_2 := blk_frozen BK102.out 2; have hfz14_3 := blk_frozen BK102.out 3; have hcz15_0 : w9.cell? ⟨gb103, 0, none⟩ = some (.int .i64 0) := (blk_cell BK103.out 0).trans rfl; have hcz15_1 : w9.cell? ⟨gb103, 1, none⟩ = some (.int .i64 0) := (blk_cell BK103.out 1).trans rfl; have hcz15_2 : w9.cell? ⟨gb103, 2, none⟩ = some (.int .i64 0) := (blk_cell BK103.out 2).trans rfl; have hcz15_3 : w9.cell? ⟨gb103, 3, none⟩ = some (.int .i64 0) := (blk_cell BK103.out 3).trans rfl; have hfz15_0 := blk_frozen BK103.out 0; have hfz15_1 := blk_frozen BK103.out 1; have hfz15_2 := blk_frozen BK103.out 2; have hfz15_3 := blk_frozen BK103.out 3))
 repeat (go_quiet (first | ((with_reducible refine gate_dst (N := 2) rfl ?_); refine box_event ?hg (N := 2) ?hd (cs := #[.int .i64 a0_0, .int .i64 a0_1, .int .i64 a0_2, .int .i64 a0_3]) (t := 120) ?hr ?_; (case hd => rfl); (case hg => rfl); (case hr => first | (go_simp; done) | (go_simp; rfl)); intro gb101 hg w7 hbox hb; have n0_ := Aside0.mk (below_step (by repeat (first | (with_reducible first | exact HB.out | apply below_alloc | apply pw_below_drewN | apply below_drew1) | exact HB.out)) hb); have n1_ := Aside0.mk (hbox); have n2_ := Aside0.mk ((by rw [hg]; exact (below_size (by repeat (first | (with_reducible first | exact HB.out | apply below_alloc | apply pw_below_drewN | apply below_drew1) | exact HB.out))) : w.heap.size ≤ gb101)); have n3_ := Aside0.mk ((by rw [hg]; exact (below_size (by repeat (first | (with_reducible first | exact HB.out | apply below_alloc | apply pw_below_drewN | apply below_drew1) | exact HB.out))) : w.heap.size ≤ gb101)); clear HB; have HB := n0_; have BK101 := n1_; have GW101 := n2_; have GE101 := n3_; clear n0_ n1_ n2_ n3_; clear hb hbox hg) | ((with_reducible refine gate_dst (N := 3) rfl ?_); refine box_event ?hg (N := 3) ?hd (cs := #[.int .i64 a1_0, .int .i64 a1_1, .int .i64 a1_2, .int .i64 a1_3]) (t := 120) ?hr ?_; (case hd => rfl); (case hg => rfl); (case hr => first | (go_simp; done) | (go_simp; rfl)); intro gb102 hg w8 hbox hb; have n0_ := Aside0.mk (blk_below (g := gb101) (o := .cells #[.int .i64 a0_0, .int .i64 a0_1, .int .i64 a0_2, .int .i64 a0_3] 120 (0, 0)) (by (with_reducible repeat (first | refine blk_drewN ?_ _ | refine blk_drew ?_ | refine blk_alloc ?_ _)); exact BK101.out) hb); have n1_ := Aside0.mk (below_step (by repeat (first | (with_reducible first | exact HB.out | apply below_alloc | apply pw_below_drewN | apply below_drew1 | refine below_set ?_ GE101.out) | exact HB.out)) hb); have n2_ := Aside0.mk (hbox); have n3_ := Aside0.mk ((by rw [hg]; exact (below_size (by repeat (first | (with_reducible first | exact HB.out | apply below_alloc | apply pw_below_drewN | apply below_drew1 | refine below_set ?_ GE101.out) | exact HB.out))) : w.heap.size ≤ gb102)); have n4_ := Aside0.mk ((by rw [hg]; exact (below_size (by repeat (first | (with_reducible first | exact HB.out | apply below_alloc | apply pw_below_drewN | apply below_drew1 | refine below_set ?_ GE101.out) | exact HB.out))) : w.heap.size ≤ gb102)); have n5_ := Aside0.mk ((by rw [hg]; exact Nat.ne_of_lt (blk_lt (g := gb101) (o := .cells #[.int .i64 a0_0, .int .i64 a0_1, .int .i64 a0_2, .int .i64 a0_3] 120 (0, 0)) (by (with_reducible repeat (first | refine blk_drewN ?_ _ | refine blk_drew ?_ | refine blk_alloc ?_ _)); exact BK101.out)) : gb101 ≠ gb102)); have n6_ := Aside0.mk ((by rw [hg]; exact Nat.ne_of_gt (blk_lt (g := gb101) (o := .cells #[.int .i64 a0_0, .int .i64 a0_1, .int .i64 a0_2, .int .i64 a0_3] 120 (0, 0)) (by (with_reducible repeat (first | refine blk_drewN ?_ _ | refine blk_drew ?_ | refine blk_alloc ?_ _)); exact BK101.out)) : gb102 ≠ gb101)); clear BK101; clear HB; have BK101 := n0_; have HB := n1_; have BK102 := n2_; have GW102 := n3_; have GE102 := n4_; have NB101_102 := n5_; have NB102_101 := n6_; clear n0_ n1_ n2_ n3_ n4_ n5_ n6_; clear hb hbox hg) | ((with_reducible refine gate_dst (N := 4) rfl ?_); refine box_event ?hg (N := 4) ?hd (cs := #[.int .i64 0, .int .i64 0, .int .i64 0, .int .i64 0]) (t := 120) ?hr ?_; (case hd => rfl); (case hg => rfl); (case hr => first | (go_simp; done) | (go_simp; rfl)); intro gb103 hg w9 hbox hb; have n0_ := Aside0.mk (blk_below (g := gb101) (o := .cells #[.int .i64 a0_0, .int .i64 a0_1, .int .i64 a0_2, .int .i64 a0_3] 120 (0, 0)) (by (with_reducible repeat (first | refine blk_drewN ?_ _ | refine blk_drew ?_ | refine blk_alloc ?_ _)); exact BK101.out) hb); have n1_ := Aside0.mk (blk_below (g := gb102) (o := .cells #[.int .i64 a1_0, .int .i64 a1_1, .int .i64 a1_2, .int .i64 a1_3] 120 (0, 0)) (by (with_reducible repeat (first | refine blk_drewN ?_ _ | refine blk_drew ?_ | refine blk_alloc ?_ _)); exact BK102.out) hb); have n2_ := Aside0.mk (below_step (by repeat (first | (with_reducible first | exact HB.out | apply below_alloc | apply pw_below_drewN | apply below_drew1 | refine below_set ?_ GE101.out | refine below_set ?_ GE102.out) | exact HB.out)) hb); have n3_ := Aside0.mk (hbox); have n4_ := Aside0.mk ((by rw [hg]; exact (below_size (by repeat (first | (with_reducible first | exact HB.out | apply below_alloc | apply pw_below_drewN | apply below_drew1 | refine below_set ?_ GE101.out | refine below_set ?_ GE102.out) | exact HB.out))) : w.heap.size ≤ gb103)); have n5_ := Aside0.mk ((by rw [hg]; exact (below_size (by repeat (first | (with_reducible first | exact HB.out | apply below_alloc | apply pw_below_drewN | apply below_drew1 | refine below_set ?_ GE101.out | refine below_set ?_ GE102.out) | exact HB.out))) : w.heap.size ≤ gb103)); have n6_ := Aside0.mk ((by rw [hg]; exact Nat.ne_of_lt (blk_lt (g := gb101) (o := .cells #[.int .i64 a0_0, .int .i64 a0_1, .int .i64 a0_2, .int .i64 a0_3] 120 (0, 0)) (by (with_reducible repeat (first | refine blk_drewN ?_ _ | refine blk_drew ?_ | refine blk_alloc ?_ _)); exact BK101.out)) : gb101 ≠ gb103)); have n7_ := Aside0.mk ((by rw [hg]; exact Nat.ne_of_gt (blk_lt (g := gb101) (o := .cells #[.int .i64 a0_0, .int .i64 a0_1, .int .i64 a0_2, .int .i64 a0_3] 120 (0, 0)) (by (with_reducible repeat (first | refine blk_drewN ?_ _ | refine blk_drew ?_ | refine blk_alloc ?_ _)); exact BK101.out)) : gb103 ≠ gb101)); have n8_ := Aside0.mk ((by rw [hg]; exact Nat.ne_of_lt (blk_lt (g := gb102) (o := .cells #[.int .i64 a1_0, .int .i64 a1_1, .int .i64 a1_2, .int .i64 a1_3] 120 (0, 0)) (by (with_reducible repeat (first | refine blk_drewN ?_ _ | refine blk_drew ?_ | refine blk_alloc ?_ _)); exact BK102.out)) : gb102 ≠ gb103)); have n9_ := Aside0.mk ((by rw [hg]; exact Nat.ne_of_gt (blk_lt (g := gb102) (o := .cells #[.int .i64 a1_0, .int .i64 a1_1, .int .i64 a1_2, .int .i64 a1_3] 120 (0, 0)) (by (with_reducible repeat (first | refine blk_drewN ?_ _ | refine blk_drew ?_ | refine blk_alloc ?_ _)); exact BK102.out)) : gb103 ≠ gb102)); clear BK101; clear BK102; clear HB; have BK101 := n0_; have BK102 := n1_; have HB := n2_; have BK103 := n3_; have GW103 := n4_; have GE103 := n5_; have NB101_103 := n6_; have NB103_101 := n7_; have NB102_103 := n8_; have NB103_102 := n9_; clear n0_ n1_ n2_ n3_ n4_ n5_ n6_ n7_ n8_ n9_; clear hb hbox hg; have hnb10 := NB101_102.out; have hnc10 := NB102_101.out; have hnb11 := NB101_103.out; have hnc11 := NB103_101.out; have hcz12_0 : w9.cell? ⟨gb101, 0, none⟩ = some (.int .i64 a0_0) := (blk_cell BK101.out 0).trans rfl; have hcz12_1 : w9.cell? ⟨gb101, 1, none⟩ = some (.int .i64 a0_1) := (blk_cell BK101.out 1).trans rfl; have hcz12_2 : w9.cell? ⟨gb101, 2, none⟩ = some (.int .i64 a0_2) := (blk_cell BK101.out 2).trans rfl; have hcz12_3 : w9.cell? ⟨gb101, 3, none⟩ = some (.int .i64 a0_3) := (blk_cell BK101.out 3).trans rfl; have hfz12_0 := blk_frozen BK101.out 0; have hfz12_1 := blk_frozen BK101.out 1; have hfz12_2 := blk_frozen BK101.out 2; have hfz12_3 := blk_frozen BK101.out 3; have hnb13 := NB102_103.out; have hnc13 := NB103_102.out; have hcz14_0 : w9.cell? ⟨gb102, 0, none⟩ = some (.int .i64 a1_0) := (blk_cell BK102.out 0).trans rfl; have hcz14_1 : w9.cell? ⟨gb102, 1, none⟩ = some (.int .i64 a1_1) := (blk_cell BK102.out 1).trans rfl; have hcz14_2 : w9.cell? ⟨gb102, 2, none⟩ = some (.int .i64 a1_2) := (blk_cell BK102.out 2).trans rfl; have hcz14_3 : w9.cell? ⟨gb102, 3, none⟩ = some (.int .i64 a1_3) := (blk_cell BK102.out 3).trans rfl; have hfz14_0 := blk_frozen BK102.out 0; have hfz14_1 := blk_frozen BK102.out 1; have hfz14_2 := blk_frozen BK102.out 2; have hfz14_3 := blk_frozen BK102.out 3; have hcz15_0 : w9.cell? ⟨gb103, 0, none⟩ = some (.int .i64 0) := (blk_cell BK103.out 0).trans rfl; have hcz15_1 : w9.cell? ⟨gb103, 1, none⟩ = some (.int .i64 0) := (blk_cell BK103.out 1).trans rfl; have hcz15_2 : w9.cell? ⟨gb103, 2, none⟩ = some (.int .i64 0) := (blk_cell BK103.out 2).trans rfl; have hcz15_3 : w9.cell? ⟨gb103, 3, none⟩ = some (.int .i64 0) := (blk_cell BK103.out 3).trans rfl; have hfz15_0 := blk_frozen BK103.out 0; have hfz15_1 := blk_frozen BK103.out 1; have hfz15_2 := blk_frozen BK103.out 2; have hfz15_3 := blk_frozen BK103.out 3)); try go_wp2_with (first | ((with_reducible refine gate_dst (N := 2) rfl ?_); refine box_event ?hg (N := 2) ?hd (cs := #[.int .i64 a0_0, .int .i64 a0_1, .int .i64 a0_2, .int .i64 a0_3]) (t := 120) ?hr ?_; (case hd => rfl); (case hg => rfl); (case hr => first | (go_simp; done) | (go_simp; rfl)); intro gb101 hg w7 hbox hb; have n0_ := Aside0.mk (below_step (by repeat (first | (with_reducible first | exact HB.out | apply below_alloc | apply pw_below_drewN | apply below_drew1) | exact HB.out)) hb); have n1_ := Aside0.mk (hbox); have n2_ := Aside0.mk ((by rw [hg]; exact (below_size (by repeat (first | (with_reducible first | exact HB.out | apply below_alloc | apply pw_below_drewN | apply below_drew1) | exact HB.out))) : w.heap.size ≤ gb101)); have n3_ := Aside0.mk ((by rw [hg]; exact (below_size (by repeat (first | (with_reducible first | exact HB.out | apply below_alloc | apply pw_below_drewN | apply below_drew1) | exact HB.out))) : w.heap.size ≤ gb101)); clear HB; have HB := n0_; have BK101 := n1_; have GW101 := n2_; have GE101 := n3_; clear n0_ n1_ n2_ n3_; clear hb hbox hg) | ((with_reducible refine gate_dst (N := 3) rfl ?_); refine box_event ?hg (N := 3) ?hd (cs := #[.int .i64 a1_0, .int .i64 a1_1, .int .i64 a1_2, .int .i64 a1_3]) (t := 120) ?hr ?_; (case hd => rfl); (case hg => rfl); (case hr => first | (go_simp; done) | (go_simp; rfl)); intro gb102 hg w8 hbox hb; have n0_ := Aside0.mk (blk_below (g := gb101) (o := .cells #[.int .i64 a0_0, .int .i64 a0_1, .int .i64 a0_2, .int .i64 a0_3] 120 (0, 0)) (by (with_reducible repeat (first | refine blk_drewN ?_ _ | refine blk_drew ?_ | refine blk_alloc ?_ _)); exact BK101.out) hb); have n1_ := Aside0.mk (below_step (by repeat (first | (with_reducible first | exact HB.out | apply below_alloc | apply pw_below_drewN | apply below_drew1 | refine below_set ?_ GE101.out) | exact HB.out)) hb); have n2_ := Aside0.mk (hbox); have n3_ := Aside0.mk ((by rw [hg]; exact (below_size (by repeat (first | (with_reducible first | exact HB.out | apply below_alloc | apply pw_below_drewN | apply below_drew1 | refine below_set ?_ GE101.out) | exact HB.out))) : w.heap.size ≤ gb102)); have n4_ := Aside0.mk ((by rw [hg]; exact (below_size (by repeat (first | (with_reducible first | exact HB.out | apply below_alloc | apply pw_below_drewN | apply below_drew1 | refine below_set ?_ GE101.out) | exact HB.out))) : w.heap.size ≤ gb102)); have n5_ := Aside0.mk ((by rw [hg]; exact Nat.ne_of_lt (blk_lt (g := gb101) (o := .cells #[.int .i64 a0_0, .int .i64 a0_1, .int .i64 a0_2, .int .i64 a0_3] 120 (0, 0)) (by (with_reducible repeat (first | refine blk_drewN ?_ _ | refine blk_drew ?_ | refine blk_alloc ?_ _)); exact BK101.out)) : gb101 ≠ gb102)); have n6_ := Aside0.mk ((by rw [hg]; exact Nat.ne_of_gt (blk_lt (g := gb101) (o := .cells #[.int .i64 a0_0, .int .i64 a0_1, .int .i64 a0_2, .int .i64 a0_3] 120 (0, 0)) (by (with_reducible repeat (first | refine blk_drewN ?_ _ | refine blk_drew ?_ | refine blk_alloc ?_ _)); exact BK101.out)) : gb102 ≠ gb101)); clear BK101; clear HB; have BK101 := n0_; have HB := n1_; have BK102 := n2_; have GW102 := n3_; have GE102 := n4_; have NB101_102 := n5_; have NB102_101 := n6_; clear n0_ n1_ n2_ n3_ n4_ n5_ n6_; clear hb hbox hg) | ((with_reducible refine gate_dst (N := 4) rfl ?_); refine box_event ?hg (N := 4) ?hd (cs := #[.int .i64 0, .int .i64 0, .int .i64 0, .int .i64 0]) (t := 120) ?hr ?_; (case hd => rfl); (case hg => rfl); (case hr => first | (go_simp; done) | (go_simp; rfl)); intro gb103 hg w9 hbox hb; have n0_ := Aside0.mk (blk_below (g := gb101) (o := .cells #[.int .i64 a0_0, .int .i64 a0_1, .int .i64 a0_2, .int .i64 a0_3] 120 (0, 0)) (by (with_reducible repeat (first | refine blk_drewN ?_ _ | refine blk_drew ?_ | refine blk_alloc ?_ _)); exact BK101.out) hb); have n1_ := Aside0.mk (blk_below (g := gb102) (o := .cells #[.int .i64 a1_0, .int .i64 a1_1, .int .i64 a1_2, .int .i64 a1_3] 120 (0, 0)) (by (with_reducible repeat (first | refine blk_drewN ?_ _ | refine blk_drew ?_ | refine blk_alloc ?_ _)); exact BK102.out) hb); have n2_ := Aside0.mk (below_step (by repeat (first | (with_reducible first | exact HB.out | apply below_alloc | apply pw_below_drewN | apply below_drew1 | refine below_set ?_ GE101.out | refine below_set ?_ GE102.out) | exact HB.out)) hb); have n3_ := Aside0.mk (hbox); have n4_ := Aside0.mk ((by rw [hg]; exact (below_size (by repeat (first | (with_reducible first | exact HB.out | apply below_alloc | apply pw_below_drewN | apply below_drew1 | refine below_set ?_ GE101.out | refine below_set ?_ GE102.out) | exact HB.out))) : w.heap.size ≤ gb103)); have n5_ := Aside0.mk ((by rw [hg]; exact (below_size (by repeat (first | (with_reducible first | exact HB.out | apply below_alloc | apply pw_below_drewN | apply below_drew1 | refine below_set ?_ GE101.out | refine below_set ?_ GE102.out) | exact HB.out))) : w.heap.size ≤ gb103)); have n6_ := Aside0.mk ((by rw [hg]; exact Nat.ne_of_lt (blk_lt (g := gb101) (o := .cells #[.int .i64 a0_0, .int .i64 a0_1, .int .i64 a0_2, .int .i64 a0_3] 120 (0, 0)) (by (with_reducible repeat (first | refine blk_drewN ?_ _ | refine blk_drew ?_ | refine blk_alloc ?_ _)); exact BK101.out)) : gb101 ≠ gb103)); have n7_ := Aside0.mk ((by rw [hg]; exact Nat.ne_of_gt (blk_lt (g := gb101) (o := .cells #[.int .i64 a0_0, .int .i64 a0_1, .int .i64 a0_2, .int .i64 a0_3] 120 (0, 0)) (by (with_reducible repeat (first | refine blk_drewN ?_ _ | refine blk_drew ?_ | refine blk_alloc ?_ _)); exact BK101.out)) : gb103 ≠ gb101)); have n8_ := Aside0.mk ((by rw [hg]; exact Nat.ne_of_lt (blk_lt (g := gb102) (o := .cells #[.int .i64 a1_0, .int .i64 a1_1, .int .i64 a1_2, .int .i64 a1_3] 120 (0, 0)) (by (with_reducible repeat (first | refine blk_drewN ?_ _ | refine blk_drew ?_ | refine blk_alloc ?_ _)); exact BK102.out)) : gb102 ≠ gb103)); have n9_ := Aside0.mk ((by rw [hg]; exact Nat.ne_of_gt (blk_lt (g := gb102) (o := .cells #[.int .i64 a1_0, .int .i64 a1_1, .int .i64 a1_2, .int .i64 a1_3] 120 (0, 0)) (by (with_reducible repeat (first | refine blk_drewN ?_ _ | refine blk_drew ?_ | refine blk_alloc ?_ _)); exact BK102.out)) : gb103 ≠ gb102)); clear BK101; clear BK102; clear HB; have BK101 := n0_; have BK102 := n1_; have HB := n2_; have BK103 := n3_; have GW103 := n4_; have GE103 := n5_; have NB101_103 := n6_; have NB103_101 := n7_; have NB102_103 := n8_; have NB103_102 := n9_; clear n0_ n1_ n2_ n3_ n4_ n5_ n6_ n7_ n8_ n9_; clear hb hbox hg; have hnb10 := NB101_102.out; have hnc10 := NB102_101.out; have hnb11 := NB101_103.out; have hnc11 := NB103_101.out; have hcz12_0 : w9.cell? ⟨gb101, 0, none⟩ = some (.int .i64 a0_0) := (blk_cell BK101.out 0).trans rfl; have hcz12_1 : w9.cell? ⟨gb101, 1, none⟩ = some (.int .i64 a0_1) := (blk_cell BK101.out 1).trans rfl; have hcz12_2 : w9.cell? ⟨gb101, 2, none⟩ = some (.int .i64 a0_2) := (blk_cell BK101.out 2).trans rfl; have hcz12_3 : w9.cell? ⟨gb101, 3, none⟩ = some (.int .i64 a0_3) := (blk_cell BK101.out 3).trans rfl; have hfz12_0 := blk_frozen BK101.out 0; have hfz12_1 := blk_frozen BK101.out 1; have hfz12_2 := blk_frozen BK101.out 2; have hfz12_3 := blk_frozen BK101.out 3; have hnb13 := NB102_103.out; have hnc13 := NB103_102.out; have hcz14_0 : w9.cell? ⟨gb102, 0, none⟩ = some (.int .i64 a1_0) := (blk_cell BK102.out 0).trans rfl; have hcz14_1 : w9.cell? ⟨gb102, 1, none⟩ = some (.int .i64 a1_1) := (blk_cell BK102.out 1).trans rfl; have hcz14_2 : w9.cell? ⟨gb102, 2, none⟩ = some (.int .i64 a1_2) := (blk_cell BK102.out 2).trans rfl; have hcz14_3 : w9.cell? ⟨gb102, 3, none⟩ = some (.int .i64 a1_3) := (blk_cell BK102.out 3).trans rfl; have hfz14_0 := blk_frozen BK102.out 0; have hfz14_1 := blk_frozen BK102.out 1; have hfz14_2 := blk_frozen BK102.out 2; have hfz14_3 := blk_frozen BK102.out 3; have hcz15_0 : w9.cell? ⟨gb103, 0, none⟩ = some (.int .i64 0) := (blk_cell BK103.out 0).trans rfl; have hcz15_1 : w9.cell? ⟨gb103, 1, none⟩ = some (.int .i64 0) := (blk_cell BK103.out 1).trans rfl; have hcz15_2 : w9.cell? ⟨gb103, 2, none⟩ = some (.int .i64 0) := (blk_cell BK103.out 2).trans rfl; have hcz15_3 : w9.cell? ⟨gb103, 3, none⟩ = some (.int .i64 0) := (blk_cell BK103.out 3).trans rfl; have hfz15_0 := blk_frozen BK103.out 0; have hfz15_1 := blk_frozen BK103.out 1; have hfz15_2 := blk_frozen BK103.out 2; have hfz15_3 := blk_frozen BK103.out 3)))
 refine bodyPost_ret (results_cell_row rfl _ _ gb103 120 #[.int .i64 ji3, .int .i64 ji4, .int .i64 (wrap64 ((ji5) - (ji3))), .int .i64 (wrap64 ((ji6) - (ji4)))] (0, 0) _ rfl (by (with_reducible repeat (first | refine blk_drewN ?_ _ | refine blk_drew ?_ | refine blk_alloc ?_ _)); refine blk_put (cs := #[.int .i64 ji3, .int .i64 ji4, .int .i64 (wrap64 ((ji5) - (ji3))), .int .i64 0]) ?_ 3 _ rfl; (with_reducible repeat (first | refine blk_drewN ?_ _ | refine blk_drew ?_ | refine blk_alloc ?_ _)); refine blk_put (cs := #[.int .i64 ji3, .int .i64 ji4, .int .i64 0, .int .i64 0]) ?_ 2 _ rfl; (with_reducible repeat (first | refine blk_drewN ?_ _ | refine blk_drew ?_ | refine blk_alloc ?_ _)); refine blk_put (cs := #[.int .i64 ji3, .int .i64 0, .int .i64 0, .int .i64 0]) ?_ 1 _ rfl; (with_reducible repeat (first | refine blk_drewN ?_ _ | refine blk_drew ?_ | refine blk_alloc ?_ _)); refine blk_put (cs := #[.int .i64 0, .int .i64 0, .int .i64 0, .int .i64 0]) ?_ 0 _ rfl; (with_reducible repeat (first | refine blk_drewN ?_ _ | refine blk_drew ?_ | refine blk_alloc ?_ _)); exact BK103.out) Try.underlying120 rfl (by kernel_rfl)) rfl ?_
 exact ⟨by first | rfl | (simp [errW_none, errW_some] <;> rfl) | (simp only [← hji3, ← hji4, ← hji5, ← hji6]; first | rfl | (simp [errW_none, errW_some] <;> rfl)) | (simp [*, errW_none, errW_some] <;> rfl), by repeat (first | (with_reducible first | exact HB.out | apply below_alloc | apply pw_below_drewN | apply below_drew1 | refine below_set ?_ GE101.out | refine below_set ?_ GE102.out | refine below_set ?_ GE103.out) | exact HB.out)⟩
def slices_Equal_int_int.l0 : Nat → List Int → List Int → Int → Int → Option (Bool)
 | 0, _, _, _, _ => none
 | k + 1, x0, x1, x12, x13 => if x13 < x12 then (if 0 ≤ x13 then (if x13 < (x0.length : Int) then (if x13 < (x1.length : Int) then (if (rd x0 x13) = (rd x1 x13) then (slices_Equal_int_int.l0 k x0 x1 x12 (wrap64 (x13 + 1))) else (some false)) else (none)) else (none)) else (none)) else (some true)
def slices_Equal_int_int.f (k : Nat) (l0 : List Int) (l1 : List Int) : Option (Bool) := if (l0.length : Int) = (l1.length : Int) then (slices_Equal_int_int.l0 k l0 l1 (l0.length : Int) 0) else (some false)
set_option maxHeartbeats 8000000 in
set_option maxRecDepth 100000 in
theorem slices_Equal_int_int.calls (k : Nat) (A0 : Option Addr) (c0 : Nat) (l0 : List Int) (A1 : Option Addr) (c1 : Nat) (l1 : List Int) (r : Bool) (w : World) (hr0 : Kd.C (Kd.int .i64) w A0 l0.length l0) (hc0 : l0.length ≤ c0) (hr1 : Kd.C (Kd.int .i64) w A1 l1.length l1) (hc1 : l1.length ≤ c1) (h : slices_Equal_int_int.f k l0 l1 = some r) :
  Calls Try.prog 72 #[.slice A0 l0.length c0, .slice A1 l1.length c1] w fun e w' => e = .returned (.bool r) ∧ Drawn0 w w' := by
 have HR0 := Aside0.mk hr0
 have HC0 := Aside0.mk hc0
 clear hr0 hc0
 have HR1 := Aside0.mk hr1
 have HC1 := Aside0.mk hc1
 clear hr1 hc1
 have H : (if (l0.length : Int) = (l1.length : Int) then (slices_Equal_int_int.l0 k l0 l1 (l0.length : Int) 0) else (some false)) = some r := h
 clear h
 by_cases c3 : (l0.length : Int) = (l1.length : Int)
 ·rw [if_pos c3] at H
  have c3b0 : ((l0.length : Int) == (l1.length : Int)) = true := beq_iff_eq.mpr c3
  have c3b1 : ((l0.length : Int) != (l1.length : Int)) = false := bne_eq_false_iff_eq.mpr c3
  have c3b2 : (l0.length == l1.length) = true := by first | simpa using c3 | (simp at c3 ⊢; omega)
  clear c3
  have H' := Aside0.mk H
  clear H
  go_enter Try.func72, Try.ntmps72
  go_wp2
  repeat (go_quiet (fail); try go_wp2)
  go_loopg [13] k (fun kq v13 w' => ∃ (x13_1 : Int), v13 = .int .i64 x13_1 ∧ Aside0 (slices_Equal_int_int.l0 kq l0 l1 (l0.length : Int) x13_1 = some r) ∧ Aside0 (kq ≤ k) ∧ Drawn0 w w')
  case atStart => exact ⟨(0), (by first | rfl | (simp; done) | (simp [*]; done)), H', ⟨Nat.le_refl _⟩, by repeat (first | exact Drawn0.refl _ | apply Drawn0.step)⟩
  case round =>
   clear H'
   try clear c1
   try clear p2
   try clear c3
   try clear c3b0
   try clear c3b1
   try clear c3b2
   obtain ⟨x13_1, rfl, HA, HK1, ⟨m1, rfl⟩⟩ := hrel
   cases gk with
   | zero => exact absurd HA.out (by simp [slices_Equal_int_int.l0])
   | succ k1 =>
    have H := HA.out
    clear HA
    simp only [slices_Equal_int_int.l0] at H
    by_cases c4 : x13_1 < (l0.length : Int)
    ·rw [if_pos c4] at H
     have c4b0 : decide (x13_1 < (l0.length : Int)) = true := decide_eq_true c4
     clear c4
     by_cases c5 : 0 ≤ x13_1
     ·rw [if_pos c5] at H
      have c5b0 : decide (0 ≤ x13_1) = true := decide_eq_true c5
      clear c5
      by_cases c6 : x13_1 < (l0.length : Int)
      ·rw [if_pos c6] at H
       have c6b0 : decide (x13_1 < (l0.length : Int)) = true := decide_eq_true c6
       clear c6
       by_cases c7 : x13_1 < (l1.length : Int)
       ·rw [if_pos c7] at H
        have c7b0 : decide (x13_1 < (l1.length : Int)) = true := decide_eq_true c7
        clear c7
        by_cases c8 : (rd l0 x13_1) = (rd l1 x13_1)
        ·rw [if_pos c8] at H
         have c8b0 : ((rd l0 x13_1) == (rd l1 x13_1)) = true := beq_iff_eq.mpr c8
         have c8b1 : ((rd l0 x13_1) != (rd l1 x13_1)) = false := bne_eq_false_iff_eq.mpr c8
         clear c8
         have H' := Aside0.mk H
         clear H
         have p104 : 0 ≤ (x13_1 : Int) := of_decide_eq_true (by first | (with_reducible assumption) | assumption)
         have q104 : x13_1 < (l0.length : Int) := of_decide_eq_true (by first | (with_reducible assumption) | assumption)
         obtain ⟨ad104, e104, hx104_0⟩ := Kd.at_int HR0.out x13_1 p104 q104
         cases e104
         replace p104 := eq_true p104
         replace q104 := eq_true q104
         have p105 : 0 ≤ (x13_1 : Int) := of_decide_eq_true (by first | (with_reducible assumption) | assumption)
         have q105 : x13_1 < (l1.length : Int) := of_decide_eq_true (by first | (with_reducible assumption) | assumption)
         obtain ⟨ad105, e105, hx105_0⟩ := Kd.at_int HR1.out x13_1 p105 q105
         cases e105
         replace p105 := eq_true p105
         replace q105 := eq_true q105
         go_wp2
         repeat (go_quiet (fail); try go_wp2)
         go_roundg k1
         case measure => have := HK1.out; omega
         case rel => exact ⟨(wrap64 (x13_1 + 1)), (by first | rfl | (simp; done) | (simp [*]; done)), H', ⟨by have := HK1.out; omega⟩, by repeat (first | exact Drawn0.refl _ | apply Drawn0.step)⟩
        ·rw [if_neg c8] at H
         have c8b0 : ((rd l0 x13_1) == (rd l1 x13_1)) = false := beq_eq_false_iff_ne.mpr c8
         have c8b1 : ((rd l0 x13_1) != (rd l1 x13_1)) = true := bne_iff_ne.mpr c8
         obtain rfl := Option.some.inj H
         have p104 : 0 ≤ (x13_1 : Int) := of_decide_eq_true (by first | (with_reducible assumption) | assumption)
         have q104 : x13_1 < (l0.length : Int) := of_decide_eq_true (by first | (with_reducible assumption) | assumption)
         obtain ⟨ad104, e104, hx104_0⟩ := Kd.at_int HR0.out x13_1 p104 q104
         cases e104
         replace p104 := eq_true p104
         replace q104 := eq_true q104
         have p105 : 0 ≤ (x13_1 : Int) := of_decide_eq_true (by first | (with_reducible assumption) | assumption)
         have q105 : x13_1 < (l1.length : Int) := of_decide_eq_true (by first | (with_reducible assumption) | assumption)
         obtain ⟨ad105, e105, hx105_0⟩ := Kd.at_int HR1.out x13_1 p105 q105
         cases e105
         replace p105 := eq_true p105
         replace q105 := eq_true q105
         go_wp2
         repeat (go_quiet (fail); try go_wp2)
         go_ret
         exact ⟨by first | rfl | (simp; done) | (simp [*]; done), by repeat (first | exact Drawn0.refl _ | apply Drawn0.step)⟩
       ·rw [if_neg c7] at H
        exact absurd H (by simp)
      ·rw [if_neg c6] at H
       exact absurd H (by simp)
     ·rw [if_neg c5] at H
      exact absurd H (by simp)
    ·rw [if_neg c4] at H
     have c4b0 : decide (x13_1 < (l0.length : Int)) = false := decide_eq_false c4
     clear c4
     obtain rfl := Option.some.inj H
     go_wp2
     repeat (go_quiet (fail); try go_wp2)
     go_ret
     exact ⟨by first | rfl | (simp; done) | (simp [*]; done), by repeat (first | exact Drawn0.refl _ | apply Drawn0.step)⟩
 ·rw [if_neg c3] at H
  have c3b0 : ((l0.length : Int) == (l1.length : Int)) = false := beq_eq_false_iff_ne.mpr c3
  have c3b1 : ((l0.length : Int) != (l1.length : Int)) = true := bne_iff_ne.mpr c3
  have c3b2 : (l0.length == l1.length) = false := by first | simpa using c3 | (simp at c3 ⊢; omega)
  obtain rfl := Option.some.inj H
  go_enter Try.func72, Try.ntmps72
  go_wp2
  repeat (go_quiet (fail); try go_wp2)
  go_ret
  exact ⟨by first | rfl | (simp; done) | (simp [*]; done), by repeat (first | exact Drawn0.refl _ | apply Drawn0.step)⟩
end Go.Proofs.Ytickdcegnlldjaa.PC
namespace Go.Proofs.Ytickdcegnlldjaa.Hd
open Go.RowKit Go.Proofs.YtickdcegnlldjaaW.PrintWords Go.Proofs.YtickdcegnlldjaaW.PrintLast Go.Proofs.YtickdcegnlldjaaW.PrintMore Go.Proofs.Ytickdcegnlldjaa.PB
abbrev Rc := S120
abbrev kRc := k120
def oneR (r c : Nat) : Rc := ⟨r, c, 1, 1⟩
def bothR (a b : Rc) : Rc := ⟨min a.f0 b.f0, min a.f1 b.f1, max (a.f0 + a.f2) (b.f0 + b.f2) - min a.f0 b.f0, max (a.f1 + a.f3) (b.f1 + b.f3) - min a.f1 b.f1⟩
def zeroR : Rc := ⟨0, 0, 0, 0⟩
def stepS (st : List Int × List Rc) (r c : Nat) (x : Int) : List Int × List Rc :=
 if x ∈ st.1 then (st.1, st.2.set (st.1.idxOf x) (bothR (st.2.getD (st.1.idxOf x) zeroR) (oneR r c)))
 else (st.1 ++ [x], st.2 ++ [bothR (oneR r c) (oneR r c)])
def valAt (rows : List (List Int)) (r c : Nat) : Int := (rows.getD r []).getD c 0
def stAt (rows : List (List Int)) (wi : Nat) : Nat → List Int × List Rc
 | 0 => ([], [])
 | n + 1 => stepS (stAt rows wi n) (n / wi) (n % wi) (valAt rows (n / wi) (n % wi))
def numAt (rows : List (List Int)) (wi : Nat) (r c : Nat) : Int := ((stAt rows wi (r * wi + c + 1)).1.idxOf (valAt rows r c) : Int)
def boundR (a : Rc) (hi wi : Nat) : Prop := 0 ≤ a.f0 ∧ 0 ≤ a.f1 ∧ 1 ≤ a.f2 ∧ 1 ≤ a.f3 ∧ a.f0 + a.f2 ≤ hi ∧ a.f1 + a.f3 ≤ wi
theorem oneR_bound {r c hi wi : Nat} (hr : r < hi) (hc : c < wi) : boundR (oneR r c) hi wi := by
 simp only [boundR, oneR]
 omega
theorem bothR_bound {a b : Rc} {hi wi : Nat} (ha : boundR a hi wi) (hb : boundR b hi wi) : boundR (bothR a b) hi wi := by
 simp only [boundR, bothR] at *
 omega
theorem stAt_inv (rows : List (List Int)) (hi wi : Nat) : ∀ n, n ≤ hi * wi → (stAt rows wi n).1.length = (stAt rows wi n).2.length ∧ (stAt rows wi n).1.Nodup ∧ (stAt rows wi n).1.length ≤ n ∧ ∀ a ∈ (stAt rows wi n).2, boundR a hi wi
 | 0, _ => by simp [stAt]
 | n + 1, h => by
  obtain ⟨h1, h2, h3, h4⟩ := stAt_inv rows hi wi n (by omega)
  have hwi : 0 < wi := by
   rcases Nat.eq_zero_or_pos wi with h0 | h0
   ·subst h0; simp at h
   ·exact h0
  have hr : n / wi < hi := by
   rw [Nat.div_lt_iff_lt_mul hwi]
   omega
  have hc : n % wi < wi := Nat.mod_lt _ hwi
  have ho := oneR_bound hr hc
  simp only [stAt, stepS]
  split
  ·rename_i hx
   refine ⟨by simpa using h1, h2, Nat.le_succ_of_le h3, fun a ha => ?_⟩
   rcases List.mem_or_eq_of_mem_set ha with ha | ha
   ·exact h4 a ha
   ·subst ha
    refine bothR_bound (h4 _ ?_) ho
    have hi2 : (stAt rows wi n).1.idxOf (valAt rows (n / wi) (n % wi)) < (stAt rows wi n).2.length := by rw [← h1]; exact List.idxOf_lt_length_of_mem hx
    rw [List.getD_eq_getElem?_getD, List.getElem?_eq_getElem hi2]
    exact List.getElem_mem hi2
  ·rename_i hx
   refine ⟨by simp [h1], ?_, by simp; omega, fun a ha => ?_⟩
   ·rw [List.nodup_append]
    exact ⟨h2, by simp, fun a ha b hb => by
     simp at hb
     subst hb
     exact fun e => hx (e ▸ ha)⟩
   ·rcases List.mem_append.1 ha with ha | ha
    ·exact h4 a ha
    ·simp at ha
     subst ha
     exact bothR_bound ho ho
theorem both_f (a b : Rc) (hi wi : Nat) (ha : boundR a hi wi) (hb : boundR b hi wi) (hh : hi ≤ 1048576) (hw : wi ≤ 1048576) : PC.impl_rect_both.f a.f0 a.f1 a.f2 a.f3 b.f0 b.f1 b.f2 b.f3 = some ((bothR a b).f0, (bothR a b).f1, (bothR a b).f2, (bothR a b).f3) := by
 obtain ⟨a1, a2, a3, a4, a5, a6⟩ := ha
 obtain ⟨b1, b2, b3, b4, b5, b6⟩ := hb
 have e1 : ∀ x : Int, -9223372036854775808 ≤ x → x ≤ 9223372036854775807 → wrap64 x = x := fun x h0 h1 => by unfold wrap64; omega
 have m1 : ∀ x y : Int, mn x y = min x y := fun x y => by unfold mn; omega
 have m2 : ∀ x y : Int, mx x y = max x y := fun x y => by unfold mx; omega
 simp only [PC.impl_rect_both.f, bothR, m1, m2]
 rw [e1 (a.f0 + a.f2) (by omega) (by omega), e1 (b.f0 + b.f2) (by omega) (by omega), e1 (a.f1 + a.f3) (by omega) (by omega), e1 (b.f1 + b.f3) (by omega) (by omega)]
 rw [e1 (max (a.f0 + a.f2) (b.f0 + b.f2) - min a.f0 b.f0) (by omega) (by omega), e1 (max (a.f1 + a.f3) (b.f1 + b.f3) - min a.f1 b.f1) (by omega) (by omega)]
section
variable {P : Program} {ops : Array Oper} {o : Oper} {a : Act} {Q : Exit → Act → World → Prop} {Kc : Act → World → Prop} {W : World}
theorem cells_step {N : Option Tmp} (hw : Region.wanted o (yielded ops a.tmps) = true) (hN : o.dst = none) {t e : TypeId} {p x : Operand} (ho : o.op = .store t p x) {g off : Nat} {cur : Array Value} (haddr : a.eval p = .pointer (some ⟨g, off, none⟩)) (u : Value) (hx : a.eval x = u) (seg : List Value) (hu : u.cells.toList = seg) (ht : (P.info? t).map (·.size) = some seg.length)
  (hh : W.heap[g]? = some (.cells cur e (0, 0))) (hfit : off + seg.length ≤ cur.size) (h1 : ∀ q ∈ seg, q.oneCell' = true) (h : Kc a (W.setCells g off seg)) : if Region.wanted o (yielded ops a.tmps) = true then Oper.wp P o a W Kc Q else Kc (a.put N undef) W := by
 refine skip_step hw hN (w1 := W.setCells g off seg) ?_ h
 have hr := run_store_run (P := P) t u seg hh hu ht hfit h1
 simp [execOp, ho, haddr, hx, hr]
theorem map_step {N : Option Tmp} {w1 : World} (hw : Region.wanted o (yielded ops a.tmps) = true) (hN : o.dst = none) {t : TypeId} {m k v : Operand} (ho : o.op = .mapUpdate t m k v) (hrun : (Instr.mapUpdate t (a.eval m) (a.eval k) (a.eval v)).run P W = .ok () w1) (h : Kc a w1) : if Region.wanted o (yielded ops a.tmps) = true then Oper.wp P o a W Kc Q else Kc (a.put N undef) W := by
 refine skip_step hw hN (w1 := w1) ?_ h
 simp [execOp, ho, hrun]
end
structure SInv (w0 : World) (gn gc gv gf bm : Nat) (A : Option Addr) (cap : Nat) (rows : List (List Int)) (wi : Nat) (v : Value) (n : Nat) (F : Nat → Prop) (W : World) : Prop where
 old : ∀ k, k < w0.heap.size → W.heap[k]? = w0.heap[k]?
 size : w0.heap.size ≤ W.heap.size
 num : W.heap[gn]? = some (.cells #[.map (some bm)] 118 (0, 0))
 cel : W.heap[gc]? = some (.cells #[.slice A rows.length cap] 55 (0, 0))
 flo : W.heap[gv]? = some (.cells #[.pointer (some ⟨gf, 0, none⟩)] 52 (0, 0))
 str : W.heap[gf]? = some (.cells #[.slice none 0 0, v] 58 (0, 0))
 map : IMap W bm (stAt rows wi n).1
 row : Kd.R kRc 120 W w0.heap.size (fun k => some k = v.ownBlock) v (stAt rows wi n).2
 base : w0.heap.size ≤ gn ∧ w0.heap.size ≤ gc ∧ w0.heap.size ≤ gv ∧ w0.heap.size ≤ gf ∧ w0.heap.size ≤ bm
 foot : ∀ k, F k ↔ (k < w0.heap.size ∨ k = gn ∨ k = gc ∨ k = gv ∨ k = gf ∨ k = bm ∨ some k = v.ownBlock)
section
variable {w0 W W' : World} {gn gc gv gf bm cap wi n : Nat} {A : Option Addr} {rows : List (List Int)} {v : Value} {F : Nat → Prop}
theorem SInv.move (h : SInv w0 gn gc gv gf bm A cap rows wi v n F W) (hs : W.heap.size ≤ W'.heap.size) (hm : ∀ k, F k → W'.heap[k]? = W.heap[k]?) : SInv w0 gn gc gv gf bm A cap rows wi v n F W' := by
 have hm' : ∀ k, (k < w0.heap.size ∨ k = gn ∨ k = gc ∨ k = gv ∨ k = gf ∨ k = bm ∨ some k = v.ownBlock) → W'.heap[k]? = W.heap[k]? := fun k hk => hm k ((h.foot k).2 hk)
 exact ⟨fun k hk => (hm' k (.inl hk)).trans (h.old k hk), Nat.le_trans h.size hs, (hm' gn (by simp)).trans h.num, (hm' gc (by simp)).trans h.cel, (hm' gv (by simp)).trans h.flo, (hm' gf (by simp)).trans h.str, h.map.move (hm' bm (by simp)), Kd.R_move h.row (fun k hk => hm' k (by simp [hk])), h.base, h.foot⟩
theorem SInv.lt (h : SInv w0 gn gc gv gf bm A cap rows wi v n F W) : ∀ k, F k → k < W.heap.size := by
 intro k hk
 have hlt : ∀ {g : Nat} {o : Obj}, W.heap[g]? = some o → g < W.heap.size := fun h => (Array.getElem?_eq_some_iff.1 h).1
 rcases (h.foot k).1 hk with h1 | rfl | rfl | rfl | rfl | rfl | h1
 ·exact Nat.lt_of_lt_of_le h1 h.size
 ·exact hlt h.num
 ·exact hlt h.cel
 ·exact hlt h.flo
 ·exact hlt h.str
 ·exact h.map.lt
 ·exact Kd.R_lt h.row k h1.symm
end
structure GridIn (w0 : World) (A : Option Addr) (rows : List (List Int)) (hi wi : Nat) : Prop where
 reads : (Kd.slice 3 (Kd.int .i64)).C w0 A rows.length rows
 high : rows.length = hi
 wide : ∀ r ∈ rows, r.length = wi
 hi_le : hi ≤ 1048576
 wi_le : wi ≤ 1048576
 many : hi * wi ≤ 1048576
 vals : ∀ r ∈ rows, ∀ x ∈ r, 0 ≤ x ∧ x ≤ 1048576
theorem GridIn.cell {w0 : World} {A : Option Addr} {rows : List (List Int)} {hi wi : Nat} (h : GridIn w0 A rows hi wi) (r c : Nat) (hr : r < hi) (hc : c < wi) :
  ∃ (ad ad2 : Addr) (ci : Nat) (row : List Int), A = some ad ∧ w0.cell? (ad.add r) = some (.slice (some ad2) row.length ci) ∧ row.length = wi ∧ w0.cell? (ad2.add c) = some (.int .i64 (valAt rows r c)) ∧ 0 ≤ valAt rows r c ∧ valAt rows r c ≤ 1048576 := by
 have hrl : r < rows.length := by rw [h.high]; exact hr
 have hrow := List.getElem?_eq_getElem hrl
 have hmem := List.getElem_mem hrl
 obtain ⟨ad, Ai, ci, e1, hx, hl, hrr⟩ := C_row h.reads r _ hrow
 have hw := h.wide _ hmem
 obtain ⟨ad2, e2, hx2⟩ := Kd.at_int hrr (c : Int) (by omega) (by omega)
 subst e2
 have hv : rd rows[r] (c : Int) = valAt rows r c := by
  unfold rd valAt
  rw [List.getD_eq_getElem?_getD (l := rows), hrow]
  simp
 have hcl : c < rows[r].length := by omega
 have hb := h.vals _ hmem (rows[r][c]) (List.getElem_mem hcl)
 have hv2 : valAt rows r c = rows[r][c] := by
  unfold valAt
  rw [List.getD_eq_getElem?_getD (l := rows), hrow, Option.getD_some, List.getD_eq_getElem?_getD, List.getElem?_eq_getElem hcl]
  rfl
 rw [hv, show ((c : Int).toNat) = c by omega] at hx2
 exact ⟨ad, ad2, ci, _, e1, hx, hw, hx2, by rw [hv2]; exact hb.1, by rw [hv2]; exact hb.2⟩
theorem rc_cells {W : World} {B g n cap : Nat} {ok : Nat → Prop} {rs : List Rc} (h : Kd.R kRc 120 W B ok (.slice (some ⟨g, 0, none⟩) n cap) rs) (k : Nat) (hk : k < rs.length) :
  W.cell? ⟨g, k * 4, none⟩ = some (.int .i64 (rs.getD k zeroR).f0) ∧ W.cell? ⟨g, k * 4 + 1, none⟩ = some (.int .i64 (rs.getD k zeroR).f1) ∧ W.cell? ⟨g, k * 4 + 2, none⟩ = some (.int .i64 (rs.getD k zeroR).f2) ∧ W.cell? ⟨g, k * 4 + 3, none⟩ = some (.int .i64 (rs.getD k zeroR).f3) := by
 obtain ⟨A, c, e, hl, hC⟩ := Kd.R_reads h
 injection e with e1 e2 e3
 subst e1; subst e2
 obtain ⟨ad, e4, h0, h1, h2, h3⟩ := at_T120 hC (k : Int) (by omega) (by omega)
 injection e4 with e4
 subst e4
 have e5 : rd_T120 rs (k : Int) = rs.getD k zeroR := by
  unfold rd_T120
  rw [show ((k : Int).toNat) = k by omega]
  rfl
 rw [show ((k : Int).toNat) = k by omega, add_plain, e5] at h0 h1 h2 h3
 exact ⟨h0, h1, h2, h3⟩
theorem rc_block {W : World} {B g n cap : Nat} {ok : Nat → Prop} {rs : List Rc} (h : Kd.R kRc 120 W B ok (.slice (some ⟨g, 0, none⟩) n cap) rs) : ∃ cur, W.heap[g]? = some (.cells cur 120 (0, 0)) ∧ rs.length * 4 ≤ cur.size := by
 obtain ⟨h0, inner, ho, hr⟩ := h
 rcases ho.2 with ⟨e, _⟩ | ⟨g', cap', cur, e, hb, hg, hn, hm, hs, ht⟩
 ·cases e
 ·injection e with e1 e2 e3
  injection e1 with e1
  injection e1 with e1
  subst e1
  refine ⟨cur, hg, ?_⟩
  rw [hs]
  exact Nat.mul_le_mul_right _ hn
theorem rc_put {W : World} {B g n cap : Nat} {ok : Nat → Prop} {rs : List Rc} (h : Kd.R kRc 120 W B ok (.slice (some ⟨g, 0, none⟩) n cap) rs) (k : Nat) (hk : k < rs.length) (x : Rc) :
  Kd.R kRc 120 (W.setCells g (k * 4) [.int .i64 x.f0, .int .i64 x.f1, .int .i64 x.f2, .int .i64 x.f3]) B ok (.slice (some ⟨g, 0, none⟩) n cap) (rs.set k x) ∧ W.grownBy (W.setCells g (k * 4) [.int .i64 x.f0, .int .i64 x.f1, .int .i64 x.f2, .int .i64 x.f3]) (some g) := by
 obtain ⟨y0, y1, y2, y3⟩ := rc_cells h k hk
 have hn := (Kd.R_reads' h).1
 have z := Kd.R_seg h (k : Int) (by omega) (by omega) (c := [.int .i64 (rs.getD k zeroR).f0, .int .i64 (rs.getD k zeroR).f1, .int .i64 (rs.getD k zeroR).f2, .int .i64 (rs.getD k zeroR).f3]) (seg := [.int .i64 x.f0, .int .i64 x.f1, .int .i64 x.f2, .int .i64 x.f3]) (j := 0) rfl (fun j u hu => by
   rw [show ((k : Int).toNat) = k by omega]
   show W.cell? ⟨g, k * 4 + j, none⟩ = some u
   match j, hu with
   | 0, hu => rw [Nat.add_zero, y0]; exact hu
   | 1, hu => rw [y1]; exact hu
   | 2, hu => rw [y2]; exact hu
   | 3, hu => rw [y3]; exact hu
   | j + 4, hu => rw [List.getElem?_eq_none (by simp)] at hu; cases hu) (Nat.le_refl 4) (x' := x) (okp := fun _ => False) (k120_mkM W B _ x) (fun k hk => hk.elim)
 rw [show ((k : Int).toNat) = k by omega] at z
 exact z
def FoundPost (W : World) (B : Nat) (v : Value) (rs : List Rc) (k r c : Nat) (e : Ending) (W' : World) : Prop :=
 e = .returned (.int .i64 (k : Int)) ∧ Kd.R kRc 120 W' B (fun k => some k = v.ownBlock) v (rs.set k (bothR (rs.getD k zeroR) (oneR r c))) ∧ W.grownBy W' v.ownBlock
set_option maxHeartbeats 4000000 in
set_option maxRecDepth 100000 in
theorem found_walk (W : World) (B gn gc gv gf bm : Nat) (ad ad2 : Addr) (nr cap nc ci : Nat) (x : Int) (k : Nat) (rs : List Rc) (v : Value) (r c hi wi : Nat) (hr : r < hi) (hc : c < wi) (hhi : hi ≤ 1048576) (hwi : wi ≤ 1048576) (hrn : r < nr) (hcn : c < nc) (hnr : nr ≤ 1048576) (hnc : nc ≤ 1048576)
  (hx1 : W.cell? ⟨gn, 0, none⟩ = some (.map (some bm))) (hx2 : W.cell? ⟨gc, 0, none⟩ = some (.slice (some ad) nr cap)) (hx3 : W.cell? (ad.add r) = some (.slice (some ad2) nc ci)) (hx4 : W.cell? (ad2.add c) = some (.int .i64 x))
  (hlook : ∀ W' : World, W'.heap[bm]? = W.heap[bm]? → (Instr.lookup 118 (.map (some bm)) (.int .i64 x) true).run Try.prog W' = .ok (.tuple #[.int .i64 (k : Int), .bool true]) W')
  (hx5 : W.cell? ⟨gv, 0, none⟩ = some (.pointer (some ⟨gf, 0, none⟩))) (hx6 : W.heap[gf]? = some (.cells #[.slice none 0 0, v] 58 (0, 0)))
  (hrow : Kd.R kRc 120 W B (fun k => some k = v.ownBlock) v rs) (hk : k < rs.length) (hrl : rs.length ≤ 1048576) (hbd : ∀ a ∈ rs, boundR a hi wi) :
  Calls Try.prog 117 #[.int .i64 r, .int .i64 c, .pointer (some ⟨gn, 0, none⟩), .pointer (some ⟨gc, 0, none⟩), .pointer (some ⟨gv, 0, none⟩)] W (FoundPost W B v rs k r c) := by
 have hL := hlook W.drew rfl
 have HRow := Aside0.mk hrow
 have HBd := Aside0.mk hbd
 have H5 := Aside0.mk hx5
 have H6 := Aside0.mk hx6
 clear hlook hrow hbd hx5 hx6
 have r0 : (0 : Int) ≤ r := by omega
 have r1 : (r : Int) < nr := by omega
 have r2 : (r : Int) ≤ 1048576 := by omega
 have c0 : (0 : Int) ≤ c := by omega
 have c1 : (c : Int) < nc := by omega
 have c2 : (c : Int) ≤ 1048576 := by omega
 go_enter Try.func117, Try.ntmps117
 go_wp2
 refine start_ (n := 14) (S := fun w' => w'.cell? ⟨gn, 0, none⟩ = some (.map (some bm)) ∧ w'.cell? ⟨gc, 0, none⟩ = some (.slice (some ad) nr cap) ∧ w'.cell? (ad.add r) = some (.slice (some ad2) nc ci) ∧ w'.cell? (ad2.add c) = some (.int .i64 x) ∧ (Instr.lookup 118 (.map (some bm)) (.int .i64 x) true).run Try.prog w' = .ok (.tuple #[.int .i64 (k : Int), .bool true]) w') (ds := []) #[false, false, false, false, false, false, false, false, false, false, false, false, false, false] (by kernel_rfl) rfl rfl (⟨hx1, hx2, hx3, hx4, hL⟩) (fun hHeld => ?_)
 refine take_ (i := 0) (N := some 11) (v := ?_) (a' := ?_) #[true, false, false, false, false, false, false, false, false, false, false, false, false, false] rfl rfl (by kernel_rfl) (fun _ _ _ h => h) (Or.inl ⟨by rfl, ?_⟩) hHeld ?_ ?_
 rotate_left
 ·rintro w' ⟨s0, s1, s2, s3, s4⟩
  go_simp
  with_reducible rfl
 rotate_left
 ·simp only [Act.put, List.setIfInBounds_toArray, List.set_cons_zero, List.set_cons_succ, i64_w, i32_w]
  rfl
 refine take_ (i := 1) (N := some 12) (v := ?_) (a' := ?_) #[true, true, false, false, false, false, false, false, false, false, false, false, false, false] rfl rfl (by kernel_rfl) (fun _ _ _ h => h) (Or.inl ⟨by rfl, ?_⟩) hHeld ?_ ?_
 rotate_left
 ·rintro w' ⟨s0, s1, s2, s3, s4⟩
  go_simp
  with_reducible rfl
 rotate_left
 ·simp only [Act.put, List.setIfInBounds_toArray, List.set_cons_zero, List.set_cons_succ, i64_w, i32_w]
  rfl
 refine pure_ (i := 2) (N := some 13) (v := ?_) (a' := ?_) #[true, true, true, false, false, false, false, false, false, false, false, false, false, false] rfl rfl (by kernel_rfl) (fun _ _ _ h => h) (Or.inl ⟨by rfl, ?_⟩) ?_ ?_
 rotate_left
 ·intro w'
  go_simp
  with_reducible rfl
 rotate_left
 ·simp only [Act.put, List.setIfInBounds_toArray, List.set_cons_zero, List.set_cons_succ, i64_w, i32_w]
  rfl
 refine pure_ (i := 3) (N := some 14) (v := ?_) (a' := ?_) #[true, true, true, true, false, false, false, false, false, false, false, false, false, false] rfl rfl (by kernel_rfl) (fun _ _ _ h => h) (Or.inl ⟨by rfl, ?_⟩) ?_ ?_
 rotate_left
 ·intro w'
  go_simp
  with_reducible rfl
 rotate_left
 ·simp only [Act.put, List.setIfInBounds_toArray, List.set_cons_zero, List.set_cons_succ, i64_w, i32_w]
  rfl
 refine take_ (i := 4) (N := some 15) (v := ?_) (a' := ?_) #[true, true, true, true, true, false, false, false, false, false, false, false, false, false] rfl rfl (by kernel_rfl) (fun _ _ _ h => h) (Or.inl ⟨by rfl, ?_⟩) hHeld ?_ ?_
 rotate_left
 ·rintro w' ⟨s0, s1, s2, s3, s4⟩
  go_simp
  with_reducible rfl
 rotate_left
 ·simp only [Act.put, List.setIfInBounds_toArray, List.set_cons_zero, List.set_cons_succ, i64_w, i32_w]
  rfl
 refine pure_ (i := 5) (N := some 16) (v := ?_) (a' := ?_) #[true, true, true, true, true, true, false, false, false, false, false, false, false, false] rfl rfl (by kernel_rfl) (fun _ _ _ h => h) (Or.inl ⟨by rfl, ?_⟩) ?_ ?_
 rotate_left
 ·intro w'
  go_simp
  with_reducible rfl
 rotate_left
 ·simp only [Act.put, List.setIfInBounds_toArray, List.set_cons_zero, List.set_cons_succ, i64_w, i32_w]
  rfl
 refine pure_ (i := 6) (N := some 17) (v := ?_) (a' := ?_) #[true, true, true, true, true, true, true, false, false, false, false, false, false, false] rfl rfl (by kernel_rfl) (fun _ _ _ h => h) (Or.inl ⟨by rfl, ?_⟩) ?_ ?_
 rotate_left
 ·intro w'
  go_simp
  with_reducible rfl
 rotate_left
 ·simp only [Act.put, List.setIfInBounds_toArray, List.set_cons_zero, List.set_cons_succ, i64_w, i32_w]
  rfl
 refine take_ (i := 7) (N := some 18) (v := ?_) (a' := ?_) #[true, true, true, true, true, true, true, true, false, false, false, false, false, false] rfl rfl (by kernel_rfl) (fun _ _ _ h => h) (Or.inl ⟨by rfl, ?_⟩) hHeld ?_ ?_
 rotate_left
 ·rintro w' ⟨s0, s1, s2, s3, s4⟩
  go_simp
  with_reducible rfl
 rotate_left
 ·simp only [Act.put, List.setIfInBounds_toArray, List.set_cons_zero, List.set_cons_succ, i64_w, i32_w]
  rfl
 refine take_ (i := 8) (N := some 19) (v := ?_) (a' := ?_) #[true, true, true, true, true, true, true, true, true, false, false, false, false, false] rfl rfl (by kernel_rfl) (fun _ _ _ h => h) (Or.inl ⟨by rfl, ?_⟩) hHeld ?_ ?_
 rotate_left
 ·rintro w' ⟨s0, s1, s2, s3, s4⟩
  go_simp
  with_reducible rfl
 rotate_left
 ·simp only [Act.put, List.setIfInBounds_toArray, List.set_cons_zero, List.set_cons_succ, i64_w, i32_w]
  rfl
 refine pure_ (i := 9) (N := some 10) (v := ?_) (a' := ?_) #[true, true, true, true, true, true, true, true, true, true, false, false, false, false] rfl rfl (by kernel_rfl) (fun _ _ _ h => h) (Or.inl ⟨by rfl, ?_⟩) ?_ ?_
 rotate_left
 ·intro w'
  go_simp
  with_reducible rfl
 rotate_left
 ·simp only [Act.put, List.setIfInBounds_toArray, List.set_cons_zero, List.set_cons_succ, i64_w, i32_w]
  rfl
 refine pure_ (i := 10) (N := some 20) (v := ?_) (a' := ?_) #[true, true, true, true, true, true, true, true, true, true, true, false, false, false] rfl rfl (by kernel_rfl) (fun _ _ _ h => h) (Or.inl ⟨by rfl, ?_⟩) ?_ ?_
 rotate_left
 ·intro w'
  go_simp
  with_reducible rfl
 rotate_left
 ·simp only [Act.put, List.setIfInBounds_toArray, List.set_cons_zero, List.set_cons_succ, i64_w, i32_w]
  rfl
 refine pure_ (i := 11) (N := some 21) (v := ?_) (a' := ?_) #[true, true, true, true, true, true, true, true, true, true, true, true, false, false] rfl rfl (by kernel_rfl) (fun _ _ _ h => h) (Or.inl ⟨by rfl, ?_⟩) ?_ ?_
 rotate_left
 ·intro w'
  go_simp
  with_reducible rfl
 rotate_left
 ·simp only [Act.put, List.setIfInBounds_toArray, List.set_cons_zero, List.set_cons_succ, i64_w, i32_w]
  rfl
 refine pure_ (i := 12) (N := some 8) (v := ?_) (a' := ?_) #[true, true, true, true, true, true, true, true, true, true, true, true, true, false] rfl rfl (by kernel_rfl) (fun _ _ _ h => h) (Or.inl ⟨by rfl, ?_⟩) ?_ ?_
 rotate_left
 ·intro w'
  go_simp
  with_reducible rfl
 rotate_left
 ·simp only [Act.put, List.setIfInBounds_toArray, List.set_cons_zero, List.set_cons_succ, i64_w, i32_w]
  rfl
 refine pure_ (i := 13) (N := some 9) (v := ?_) (a' := ?_) #[true, true, true, true, true, true, true, true, true, true, true, true, true, true] rfl rfl (by kernel_rfl) (fun _ _ _ h => h) (Or.inl ⟨by rfl, ?_⟩) ?_ ?_
 rotate_left
 ·intro w'
  go_simp
  with_reducible rfl
 rotate_left
 ·simp only [Act.put, List.setIfInBounds_toArray, List.set_cons_zero, List.set_cons_succ, i64_w, i32_w]
  rfl
 refine done_ (by kernel_rfl) ?_
 clear hHeld hx1 hx2 hx3 hx4 hL
 have HRow := Aside0.mk (show Kd.R kRc 120 W.drew B (fun k => some k = v.ownBlock) v rs from Kd.R_drew HRow.out)
 have hpos : 0 < rs.length := by omega
 obtain ⟨gr, cp, rfl, hgr, hlt, cells, hcells⟩ := Kd.R_form HRow.out hpos
 obtain ⟨y0, y1, y2, y3⟩ := rc_cells HRow.out k hk
 have hgrf : gr ≠ gf := by
  rintro rfl
  have z := H6.out
  rw [show W.drew.heap = W.heap from rfl] at hcells
  rw [hcells] at z
  injection z with z
  injection z with _ z
  cases z
 have x5 : W.drew.cell? ⟨gv, 0, none⟩ = some (.pointer (some ⟨gf, 0, none⟩)) := H5.out
 have x6 : W.drew.cell? ⟨gf, 1, none⟩ = some (.slice (some ⟨gr, 0, none⟩) rs.length cp) := (blk_cell (w := W.drew) H6.out 1).trans rfl
 have k0 : (0 : Int) ≤ k := by omega
 have k1 : (k : Int) < rs.length := by omega
 have k2 : (rs.length : Int) ≤ 1048576 := by omega
 have hmem : rs.getD k zeroR ∈ rs := by rw [List.getD_eq_getElem?_getD, List.getElem?_eq_getElem hk]; exact List.getElem_mem hk
 have hb1 := HBd.out _ hmem
 generalize hold : rs.getD k zeroR = old at y0 y1 y2 y3 hb1
 have HOLD := Aside0.mk hold
 have HB1 := Aside0.mk hb1
 have HNE := Aside0.mk hgrf
 have HC := Aside0.mk hcells
 clear hold hb1 hmem hcells hlt hgrf
 go_wp2
 refine start_ (n := 18) (S := fun w' => w'.cell? ⟨gv, 0, none⟩ = some (.pointer (some ⟨gf, 0, none⟩)) ∧ w'.cell? ⟨gf, 1, none⟩ = some (.slice (some ⟨gr, 0, none⟩) rs.length cp) ∧ w'.cell? ⟨gr, k * 4, none⟩ = some (.int .i64 old.f0) ∧ w'.cell? ⟨gr, k * 4 + 1, none⟩ = some (.int .i64 old.f1) ∧ w'.cell? ⟨gr, k * 4 + 2, none⟩ = some (.int .i64 old.f2) ∧ w'.cell? ⟨gr, k * 4 + 3, none⟩ = some (.int .i64 old.f3)) (ds := [17]) #[false, false, false, false, false, false, false, false, false, false, false, false, false, false, false, false, false, false] (by kernel_rfl) rfl rfl (⟨x5, x6, y0, y1, y2, y3⟩) (fun hHeld => ?_)
 refine take_ (i := 0) (N := some 47) (v := ?_) (a' := ?_) #[true, false, false, false, false, false, false, false, false, false, false, false, false, false, false, false, false, false] rfl rfl (by kernel_rfl) (fun _ _ _ h => h) (Or.inl ⟨by rfl, ?_⟩) hHeld ?_ ?_
 rotate_left
 ·rintro w' ⟨s0, s1, s2, s3, s4, s5⟩
  go_simp
  with_reducible rfl
 rotate_left
 ·simp only [Act.put, List.setIfInBounds_toArray, List.set_cons_zero, List.set_cons_succ, i64_w, i32_w]
  rfl
 refine pure_ (i := 1) (N := some 48) (v := ?_) (a' := ?_) #[true, true, false, false, false, false, false, false, false, false, false, false, false, false, false, false, false, false] rfl rfl (by kernel_rfl) (fun _ _ _ h => h) (Or.inl ⟨by rfl, ?_⟩) ?_ ?_
 rotate_left
 ·intro w'
  go_simp
  with_reducible rfl
 rotate_left
 ·simp only [Act.put, List.setIfInBounds_toArray, List.set_cons_zero, List.set_cons_succ, i64_w, i32_w]
  rfl
 refine pure_ (i := 2) (N := some 49) (v := ?_) (a' := ?_) #[true, true, true, false, false, false, false, false, false, false, false, false, false, false, false, false, false, false] rfl rfl (by kernel_rfl) (fun _ _ _ h => h) (Or.inl ⟨by rfl, ?_⟩) ?_ ?_
 rotate_left
 ·intro w'
  go_simp
  with_reducible rfl
 rotate_left
 ·simp only [Act.put, List.setIfInBounds_toArray, List.set_cons_zero, List.set_cons_succ, i64_w, i32_w]
  rfl
 refine take_ (i := 3) (N := some 50) (v := ?_) (a' := ?_) #[true, true, true, true, false, false, false, false, false, false, false, false, false, false, false, false, false, false] rfl rfl (by kernel_rfl) (fun _ _ _ h => h) (Or.inl ⟨by rfl, ?_⟩) hHeld ?_ ?_
 rotate_left
 ·rintro w' ⟨s0, s1, s2, s3, s4, s5⟩
  go_simp
  with_reducible rfl
 rotate_left
 ·simp only [Act.put, List.setIfInBounds_toArray, List.set_cons_zero, List.set_cons_succ, i64_w, i32_w]
  rfl
 refine pure_ (i := 4) (N := some 51) (v := ?_) (a' := ?_) #[true, true, true, true, true, false, false, false, false, false, false, false, false, false, false, false, false, false] rfl rfl (by kernel_rfl) (fun _ _ _ h => h) (Or.inl ⟨by rfl, ?_⟩) ?_ ?_
 rotate_left
 ·intro w'
  go_simp
  with_reducible rfl
 rotate_left
 ·simp only [Act.put, List.setIfInBounds_toArray, List.set_cons_zero, List.set_cons_succ, i64_w, i32_w]
  rfl
 refine take_ (i := 5) (N := some 52) (v := ?_) (a' := ?_) #[true, true, true, true, true, true, false, false, false, false, false, false, false, false, false, false, false, false] rfl rfl (by kernel_rfl) (fun _ _ _ h => h) (Or.inl ⟨by rfl, ?_⟩) hHeld ?_ ?_
 rotate_left
 ·rintro w' ⟨s0, s1, s2, s3, s4, s5⟩
  go_simp
  with_reducible rfl
 rotate_left
 ·simp only [Act.put, List.setIfInBounds_toArray, List.set_cons_zero, List.set_cons_succ, i64_w, i32_w]
  rfl
 refine pure_ (i := 6) (N := some 53) (v := ?_) (a' := ?_) #[true, true, true, true, true, true, true, false, false, false, false, false, false, false, false, false, false, false] rfl rfl (by kernel_rfl) (fun _ _ _ h => h) (Or.inl ⟨by rfl, ?_⟩) ?_ ?_
 rotate_left
 ·intro w'
  go_simp
  with_reducible rfl
 rotate_left
 ·simp only [Act.put, List.setIfInBounds_toArray, List.set_cons_zero, List.set_cons_succ, i64_w, i32_w]
  rfl
 refine pure_ (i := 7) (N := some 54) (v := ?_) (a' := ?_) #[true, true, true, true, true, true, true, true, false, false, false, false, false, false, false, false, false, false] rfl rfl (by kernel_rfl) (fun _ _ _ h => h) (Or.inl ⟨by rfl, ?_⟩) ?_ ?_
 rotate_left
 ·intro w'
  go_simp
  with_reducible rfl
 rotate_left
 ·simp only [Act.put, List.setIfInBounds_toArray, List.set_cons_zero, List.set_cons_succ, i64_w, i32_w]
  rfl
 refine take_ (i := 8) (N := some 55) (v := ?_) (a' := ?_) #[true, true, true, true, true, true, true, true, true, false, false, false, false, false, false, false, false, false] rfl rfl (by kernel_rfl) (fun _ _ _ h => h) (Or.inl ⟨by rfl, ?_⟩) hHeld ?_ ?_
 rotate_left
 ·rintro w' ⟨s0, s1, s2, s3, s4, s5⟩
  go_simp
  with_reducible rfl
 rotate_left
 ·simp only [Act.put, List.setIfInBounds_toArray, List.set_cons_zero, List.set_cons_succ, i64_w, i32_w]
  rfl
 refine pure_ (i := 9) (N := some 56) (v := ?_) (a' := ?_) #[true, true, true, true, true, true, true, true, true, true, false, false, false, false, false, false, false, false] rfl rfl (by kernel_rfl) (fun _ _ _ h => h) (Or.inl ⟨by rfl, ?_⟩) ?_ ?_
 rotate_left
 ·intro w'
  go_simp
  with_reducible rfl
 rotate_left
 ·simp only [Act.put, List.setIfInBounds_toArray, List.set_cons_zero, List.set_cons_succ, i64_w, i32_w]
  rfl
 refine pure_ (i := 10) (N := some 57) (v := ?_) (a' := ?_) #[true, true, true, true, true, true, true, true, true, true, true, false, false, false, false, false, false, false] rfl rfl (by kernel_rfl) (fun _ _ _ h => h) (Or.inl ⟨by rfl, ?_⟩) ?_ ?_
 rotate_left
 ·intro w'
  go_simp
  with_reducible rfl
 rotate_left
 ·simp only [Act.put, List.setIfInBounds_toArray, List.set_cons_zero, List.set_cons_succ, i64_w, i32_w]
  rfl
 refine take_ (i := 11) (N := some 58) (v := ?_) (a' := ?_) #[true, true, true, true, true, true, true, true, true, true, true, true, false, false, false, false, false, false] rfl rfl (by kernel_rfl) (fun _ _ _ h => h) (Or.inl ⟨by rfl, ?_⟩) hHeld ?_ ?_
 rotate_left
 ·rintro w' ⟨s0, s1, s2, s3, s4, s5⟩
  go_simp
  with_reducible rfl
 rotate_left
 ·simp only [Act.put, List.setIfInBounds_toArray, List.set_cons_zero, List.set_cons_succ, i64_w, i32_w]
  rfl
 refine pure_ (i := 12) (N := some 59) (v := ?_) (a' := ?_) #[true, true, true, true, true, true, true, true, true, true, true, true, true, false, false, false, false, false] rfl rfl (by kernel_rfl) (fun _ _ _ h => h) (Or.inl ⟨by rfl, ?_⟩) ?_ ?_
 rotate_left
 ·intro w'
  go_simp
  with_reducible rfl
 rotate_left
 ·simp only [Act.put, List.setIfInBounds_toArray, List.set_cons_zero, List.set_cons_succ, i64_w, i32_w]
  rfl
 refine pure_ (i := 13) (N := some 60) (v := ?_) (a' := ?_) #[true, true, true, true, true, true, true, true, true, true, true, true, true, true, false, false, false, false] rfl rfl (by kernel_rfl) (fun _ _ _ h => h) (Or.inl ⟨by rfl, ?_⟩) ?_ ?_
 rotate_left
 ·intro w'
  go_simp
  with_reducible rfl
 rotate_left
 ·simp only [Act.put, List.setIfInBounds_toArray, List.set_cons_zero, List.set_cons_succ, i64_w, i32_w]
  rfl
 refine pure_ (i := 14) (N := some 61) (v := ?_) (a' := ?_) #[true, true, true, true, true, true, true, true, true, true, true, true, true, true, true, false, false, false] rfl rfl (by kernel_rfl) (fun _ _ _ h => h) (Or.inl ⟨by rfl, ?_⟩) ?_ ?_
 rotate_left
 ·intro w'
  go_simp
  with_reducible rfl
 rotate_left
 ·simp only [Act.put, List.setIfInBounds_toArray, List.set_cons_zero, List.set_cons_succ, i64_w, i32_w]
  rfl
 refine one_ (i := 15) (N := some 62) #[true, true, true, true, true, true, true, true, true, true, true, true, true, true, true, true, false, false] rfl rfl (by kernel_rfl) (by decide) (fun K hK => ?_)
 refine goes_ Try.func118 (by kernel_rfl) rfl #[.agg #[.int .i64 old.f0, .int .i64 old.f1, .int .i64 old.f2, .int .i64 old.f3], .agg #[.int .i64 (r : Int), .int .i64 (c : Int), .int .i64 1, .int .i64 1]] (by rfl) rfl rfl (by (try simp only [List.map_toArray, List.map_cons, List.map_nil]); first | done | rfl) ?_
 refine (PC.impl_rect_both.calls old.f0 old.f1 old.f2 old.f3 r c 1 1 _ _ _ _ _ (both_f old (oneR r c) hi wi HB1.out (oneR_bound hr hc) hhi hwi)).mono ?_
 rintro e w8 ⟨rfl, hb8⟩
 refine ⟨_, rfl, ?_⟩
 have HB8 := Aside0.mk (show Below W.heap.size W w8 from ⟨hb8.os, hb8.tape, hb8.output, hb8.size, hb8.block⟩)
 refine hK.out _ _ ⟨pw_cell_below hb8 hHeld.1, pw_cell_below hb8 hHeld.2.1, pw_cell_below hb8 hHeld.2.2.1, pw_cell_below hb8 hHeld.2.2.2.1, pw_cell_below hb8 hHeld.2.2.2.2.1, pw_cell_below hb8 hHeld.2.2.2.2.2⟩ (fun hHeld => ?_)
 clear hK K hb8
 refine norm_ (a' := ?_) ?_ ?_
 rotate_left
 ·show Act.put _ (some 62) _ = _
  simp only [Act.put, List.setIfInBounds_toArray, List.set_cons_zero, List.set_cons_succ, i64_w, i32_w]
  rfl
 generalize hnew : bothR old (oneR r c) = nw
 have HNEW := Aside0.mk hnew
 clear hnew
 refine pure_ (i := 16) (N := some 63) (v := ?_) (a' := ?_) #[true, true, true, true, true, true, true, true, true, true, true, true, true, true, true, true, true, false] rfl rfl (by kernel_rfl) (fun _ _ _ h => h) (Or.inl ⟨by rfl, ?_⟩) ?_ ?_
 rotate_left
 ·intro w'
  go_simp
  with_reducible rfl
 rotate_left
 ·simp only [Act.put, List.setIfInBounds_toArray, List.set_cons_zero, List.set_cons_succ, i64_w, i32_w]
  rfl
 have hrow8 := Kd.R_below HRow.out (show Below W.drew.heap.size W.drew w8 from ⟨HB8.out.os, HB8.out.tape, HB8.out.output, HB8.out.size, HB8.out.block⟩)
 obtain ⟨cur8, hc8, hs8⟩ := rc_block hrow8
 refine last_ (i := 17) (N := none) #[true, true, true, true, true, true, true, true, true, true, true, true, true, true, true, true, true, true] rfl rfl (by kernel_rfl) (by decide) (fun K hK => ?_)
 refine cells_step (W := w8) (by rfl) rfl (t := 120) (e := 120) rfl (g := gr) (off := k * 4) (cur := cur8) rfl (.agg #[.int .i64 nw.f0, .int .i64 nw.f1, .int .i64 nw.f2, .int .i64 nw.f3]) rfl [.int .i64 nw.f0, .int .i64 nw.f1, .int .i64 nw.f2, .int .i64 nw.f3] rfl (by kernel_rfl) hc8 (by simp; omega) (by simp; exact ⟨rfl, rfl, rfl, rfl⟩) ?_
 refine hK.out _ _ ?_
 clear hK K hHeld
 have hput := rc_put hrow8 k hk nw
 have HPUT := Aside0.mk hput
 clear hput hrow8 hc8
 generalize w8.setCells gr (k * 4) [.int .i64 nw.f0, .int .i64 nw.f1, .int .i64 nw.f2, .int .i64 nw.f3] = w9 at HPUT ⊢
 refine done_ (by kernel_rfl) ?_
 go_wp2
 go_ret
 refine ⟨rfl, ?_, ?_⟩
 ·rw [HOLD.out, HNEW.out]
  exact HPUT.out.1
 ·have hg := HPUT.out.2
  exact ⟨hg.os.trans HB8.out.os, hg.tape.trans HB8.out.tape, hg.output.trans HB8.out.output, Nat.le_trans HB8.out.size hg.size, fun i hi hne => (hg.block i (Nat.lt_of_lt_of_le hi HB8.out.size) hne).trans (HB8.out.block i hi)⟩
end Go.Proofs.Ytickdcegnlldjaa.Hd
namespace Go.Proofs.Ytickdcegnlldjaa.Hd
open Go.RowKit Go.Proofs.YtickdcegnlldjaaW.PrintWords Go.Proofs.YtickdcegnlldjaaW.PrintLast Go.Proofs.YtickdcegnlldjaaW.PrintMore Go.Proofs.Ytickdcegnlldjaa.PB
def NewPost (W : World) (B gf bm : Nat) (v : Value) (ks : List Int) (rs : List Rc) (x : Int) (r c : Nat) (e : Ending) (W' : World) : Prop :=
 e = .returned (.int .i64 (ks.length : Int)) ∧ ∃ v', Kd.R kRc 120 W' B (fun k => some k = v'.ownBlock) v' (rs ++ [bothR (oneR r c) (oneR r c)]) ∧ IMap W' bm (ks ++ [x]) ∧ W'.heap[gf]? = some (.cells #[.slice none 0 0, v'] 58 (0, 0)) ∧
  (∀ k, v'.ownBlock = some k → v.ownBlock = some k ∨ W.heap.size ≤ k) ∧ Other (fun k => k = bm ∨ k = gf ∨ some k = v.ownBlock) W W'
set_option maxHeartbeats 8000000 in
set_option maxRecDepth 100000 in
theorem new_walk (W : World) (B gn gc gv gf bm : Nat) (ad ad2 : Addr) (nr cap nc ci : Nat) (x : Int) (ks : List Int) (rs : List Rc) (v : Value) (r c hi wi : Nat) (hr : r < hi) (hc : c < wi) (hhi : hi ≤ 1048576) (hwi : wi ≤ 1048576) (hrn : r < nr) (hcn : c < nc) (hnr : nr ≤ 1048576) (hnc : nc ≤ 1048576)
  (hx1 : W.heap[gn]? = some (.cells #[.map (some bm)] 118 (0, 0))) (hx2 : W.heap[gc]? = some (.cells #[.slice (some ad) nr cap] 55 (0, 0))) (hx3 : W.cell? (ad.add r) = some (.slice (some ad2) nc ci)) (hx4 : W.cell? (ad2.add c) = some (.int .i64 x)) (hold : ad.block < B ∧ ad2.block < B)
  (hmap : IMap W bm ks) (hxn : x ∉ ks) (hxb : 0 ≤ x ∧ x ≤ 1048576) (hkl : ks.length = rs.length)
  (hx5 : W.heap[gv]? = some (.cells #[.pointer (some ⟨gf, 0, none⟩)] 52 (0, 0))) (hx6 : W.heap[gf]? = some (.cells #[.slice none 0 0, v] 58 (0, 0)))
  (hrow : Kd.R kRc 120 W B (fun k => some k = v.ownBlock) v rs) (hrl : rs.length ≤ 1048576) (hBW : B ≤ W.heap.size) (hbd : ∀ a ∈ rs, boundR a hi wi) :
  Calls Try.prog 117 #[.int .i64 r, .int .i64 c, .pointer (some ⟨gn, 0, none⟩), .pointer (some ⟨gc, 0, none⟩), .pointer (some ⟨gv, 0, none⟩)] W (NewPost W B gf bm v ks rs x r c) := by
 have hlook := hmap.look x (by omega) (by omega)
 rw [if_neg hxn, decide_eq_false hxn] at hlook
 have y1 : W.cell? ⟨gn, 0, none⟩ = some (.map (some bm)) := (blk_cell hx1 0).trans rfl
 have y2 : W.cell? ⟨gc, 0, none⟩ = some (.slice (some ad) nr cap) := (blk_cell hx2 0).trans rfl
 have HRow := Aside0.mk hrow
 have HBd := Aside0.mk hbd
 have HMap := Aside0.mk hmap
 have X1 := Aside0.mk hx1
 have X2 := Aside0.mk hx2
 have X5 := Aside0.mk hx5
 have X6 := Aside0.mk hx6
 have HXN := Aside0.mk hxn
 have HKL := Aside0.mk hkl
 clear hrow hbd hmap hx1 hx2 hx5 hx6 hxn hkl
 have hL : (Instr.lookup 118 (.map (some bm)) (.int .i64 x) true).run Try.prog W.drew = .ok (.tuple #[.int .i64 0, .bool false]) W.drew := by
  have := (HMap.out.move (W' := W.drew) rfl).look x (by omega) (by omega)
  rw [if_neg HXN.out, decide_eq_false HXN.out] at this
  exact this
 clear hlook
 have r0 : (0 : Int) ≤ r := by omega
 have r1 : (r : Int) < nr := by omega
 have r2 : (r : Int) ≤ 1048576 := by omega
 have c0 : (0 : Int) ≤ c := by omega
 have c1 : (c : Int) < nc := by omega
 have c2 : (c : Int) ≤ 1048576 := by omega
 go_enter Try.func117, Try.ntmps117
 go_wp2
 refine start_ (n := 14) (S := fun w' => w'.cell? ⟨gn, 0, none⟩ = some (.map (some bm)) ∧ w'.cell? ⟨gc, 0, none⟩ = some (.slice (some ad) nr cap) ∧ w'.cell? (ad.add r) = some (.slice (some ad2) nc ci) ∧ w'.cell? (ad2.add c) = some (.int .i64 x) ∧ (Instr.lookup 118 (.map (some bm)) (.int .i64 x) true).run Try.prog w' = .ok (.tuple #[.int .i64 0, .bool false]) w') (ds := []) #[false, false, false, false, false, false, false, false, false, false, false, false, false, false] (by kernel_rfl) rfl rfl (⟨y1, y2, hx3, hx4, hL⟩) (fun hHeld => ?_)
 refine take_ (i := 0) (N := some 11) (v := ?_) (a' := ?_) #[true, false, false, false, false, false, false, false, false, false, false, false, false, false] rfl rfl (by kernel_rfl) (fun _ _ _ h => h) (Or.inl ⟨by rfl, ?_⟩) hHeld ?_ ?_
 rotate_left
 ·rintro w' ⟨s0, s1, s2, s3, s4⟩
  go_simp
  with_reducible rfl
 rotate_left
 ·simp only [Act.put, List.setIfInBounds_toArray, List.set_cons_zero, List.set_cons_succ, i64_w, i32_w]
  rfl
 refine take_ (i := 1) (N := some 12) (v := ?_) (a' := ?_) #[true, true, false, false, false, false, false, false, false, false, false, false, false, false] rfl rfl (by kernel_rfl) (fun _ _ _ h => h) (Or.inl ⟨by rfl, ?_⟩) hHeld ?_ ?_
 rotate_left
 ·rintro w' ⟨s0, s1, s2, s3, s4⟩
  go_simp
  with_reducible rfl
 rotate_left
 ·simp only [Act.put, List.setIfInBounds_toArray, List.set_cons_zero, List.set_cons_succ, i64_w, i32_w]
  rfl
 refine pure_ (i := 2) (N := some 13) (v := ?_) (a' := ?_) #[true, true, true, false, false, false, false, false, false, false, false, false, false, false] rfl rfl (by kernel_rfl) (fun _ _ _ h => h) (Or.inl ⟨by rfl, ?_⟩) ?_ ?_
 rotate_left
 ·intro w'
  go_simp
  with_reducible rfl
 rotate_left
 ·simp only [Act.put, List.setIfInBounds_toArray, List.set_cons_zero, List.set_cons_succ, i64_w, i32_w]
  rfl
 refine pure_ (i := 3) (N := some 14) (v := ?_) (a' := ?_) #[true, true, true, true, false, false, false, false, false, false, false, false, false, false] rfl rfl (by kernel_rfl) (fun _ _ _ h => h) (Or.inl ⟨by rfl, ?_⟩) ?_ ?_
 rotate_left
 ·intro w'
  go_simp
  with_reducible rfl
 rotate_left
 ·simp only [Act.put, List.setIfInBounds_toArray, List.set_cons_zero, List.set_cons_succ, i64_w, i32_w]
  rfl
 refine take_ (i := 4) (N := some 15) (v := ?_) (a' := ?_) #[true, true, true, true, true, false, false, false, false, false, false, false, false, false] rfl rfl (by kernel_rfl) (fun _ _ _ h => h) (Or.inl ⟨by rfl, ?_⟩) hHeld ?_ ?_
 rotate_left
 ·rintro w' ⟨s0, s1, s2, s3, s4⟩
  go_simp
  with_reducible rfl
 rotate_left
 ·simp only [Act.put, List.setIfInBounds_toArray, List.set_cons_zero, List.set_cons_succ, i64_w, i32_w]
  rfl
 refine pure_ (i := 5) (N := some 16) (v := ?_) (a' := ?_) #[true, true, true, true, true, true, false, false, false, false, false, false, false, false] rfl rfl (by kernel_rfl) (fun _ _ _ h => h) (Or.inl ⟨by rfl, ?_⟩) ?_ ?_
 rotate_left
 ·intro w'
  go_simp
  with_reducible rfl
 rotate_left
 ·simp only [Act.put, List.setIfInBounds_toArray, List.set_cons_zero, List.set_cons_succ, i64_w, i32_w]
  rfl
 refine pure_ (i := 6) (N := some 17) (v := ?_) (a' := ?_) #[true, true, true, true, true, true, true, false, false, false, false, false, false, false] rfl rfl (by kernel_rfl) (fun _ _ _ h => h) (Or.inl ⟨by rfl, ?_⟩) ?_ ?_
 rotate_left
 ·intro w'
  go_simp
  with_reducible rfl
 rotate_left
 ·simp only [Act.put, List.setIfInBounds_toArray, List.set_cons_zero, List.set_cons_succ, i64_w, i32_w]
  rfl
 refine take_ (i := 7) (N := some 18) (v := ?_) (a' := ?_) #[true, true, true, true, true, true, true, true, false, false, false, false, false, false] rfl rfl (by kernel_rfl) (fun _ _ _ h => h) (Or.inl ⟨by rfl, ?_⟩) hHeld ?_ ?_
 rotate_left
 ·rintro w' ⟨s0, s1, s2, s3, s4⟩
  go_simp
  with_reducible rfl
 rotate_left
 ·simp only [Act.put, List.setIfInBounds_toArray, List.set_cons_zero, List.set_cons_succ, i64_w, i32_w]
  rfl
 refine take_ (i := 8) (N := some 19) (v := ?_) (a' := ?_) #[true, true, true, true, true, true, true, true, true, false, false, false, false, false] rfl rfl (by kernel_rfl) (fun _ _ _ h => h) (Or.inl ⟨by rfl, ?_⟩) hHeld ?_ ?_
 rotate_left
 ·rintro w' ⟨s0, s1, s2, s3, s4⟩
  go_simp
  with_reducible rfl
 rotate_left
 ·simp only [Act.put, List.setIfInBounds_toArray, List.set_cons_zero, List.set_cons_succ, i64_w, i32_w]
  rfl
 refine pure_ (i := 9) (N := some 10) (v := ?_) (a' := ?_) #[true, true, true, true, true, true, true, true, true, true, false, false, false, false] rfl rfl (by kernel_rfl) (fun _ _ _ h => h) (Or.inl ⟨by rfl, ?_⟩) ?_ ?_
 rotate_left
 ·intro w'
  go_simp
  with_reducible rfl
 rotate_left
 ·simp only [Act.put, List.setIfInBounds_toArray, List.set_cons_zero, List.set_cons_succ, i64_w, i32_w]
  rfl
 refine pure_ (i := 10) (N := some 20) (v := ?_) (a' := ?_) #[true, true, true, true, true, true, true, true, true, true, true, false, false, false] rfl rfl (by kernel_rfl) (fun _ _ _ h => h) (Or.inl ⟨by rfl, ?_⟩) ?_ ?_
 rotate_left
 ·intro w'
  go_simp
  with_reducible rfl
 rotate_left
 ·simp only [Act.put, List.setIfInBounds_toArray, List.set_cons_zero, List.set_cons_succ, i64_w, i32_w]
  rfl
 refine pure_ (i := 11) (N := some 21) (v := ?_) (a' := ?_) #[true, true, true, true, true, true, true, true, true, true, true, true, false, false] rfl rfl (by kernel_rfl) (fun _ _ _ h => h) (Or.inl ⟨by rfl, ?_⟩) ?_ ?_
 rotate_left
 ·intro w'
  go_simp
  with_reducible rfl
 rotate_left
 ·simp only [Act.put, List.setIfInBounds_toArray, List.set_cons_zero, List.set_cons_succ, i64_w, i32_w]
  rfl
 refine pure_ (i := 12) (N := some 8) (v := ?_) (a' := ?_) #[true, true, true, true, true, true, true, true, true, true, true, true, true, false] rfl rfl (by kernel_rfl) (fun _ _ _ h => h) (Or.inl ⟨by rfl, ?_⟩) ?_ ?_
 rotate_left
 ·intro w'
  go_simp
  with_reducible rfl
 rotate_left
 ·simp only [Act.put, List.setIfInBounds_toArray, List.set_cons_zero, List.set_cons_succ, i64_w, i32_w]
  rfl
 refine pure_ (i := 13) (N := some 9) (v := ?_) (a' := ?_) #[true, true, true, true, true, true, true, true, true, true, true, true, true, true] rfl rfl (by kernel_rfl) (fun _ _ _ h => h) (Or.inl ⟨by rfl, ?_⟩) ?_ ?_
 rotate_left
 ·intro w'
  go_simp
  with_reducible rfl
 rotate_left
 ·simp only [Act.put, List.setIfInBounds_toArray, List.set_cons_zero, List.set_cons_succ, i64_w, i32_w]
  rfl
 refine done_ (by kernel_rfl) ?_
 clear hHeld hL
 have hlen := (HMap.out.move (W' := W.drew) rfl).len 3
 have y1d : W.drew.cell? ⟨gn, 0, none⟩ = some (.map (some bm)) := y1
 have y2d : W.drew.drew.cell? ⟨gc, 0, none⟩ = some (.slice (some ad) nr cap) := y2
 have y1e : W.drew.drew.cell? ⟨gn, 0, none⟩ = some (.map (some bm)) := y1
 have y3e : W.drew.drew.cell? (ad.add r) = some (.slice (some ad2) nc ci) := hx3
 have y4e : W.drew.drew.cell? (ad2.add c) = some (.int .i64 x) := hx4
 clear hx3 hx4 y1 y2
 go_wp2
 clear hlen y1d
 refine start_ (n := 10) (S := fun w' => w'.cell? ⟨gn, 0, none⟩ = some (.map (some bm)) ∧ w'.cell? ⟨gc, 0, none⟩ = some (.slice (some ad) nr cap) ∧ w'.cell? (ad.add r) = some (.slice (some ad2) nc ci) ∧ w'.cell? (ad2.add c) = some (.int .i64 x)) (ds := []) #[false, false, false, false, false, false, false, false, false, false] (by kernel_rfl) rfl rfl (⟨y1e, y2d, y3e, y4e⟩) (fun hHeld => ?_)
 refine take_ (i := 0) (N := some 26) (v := ?_) (a' := ?_) #[true, false, false, false, false, false, false, false, false, false] rfl rfl (by kernel_rfl) (fun _ _ _ h => h) (Or.inl ⟨by rfl, ?_⟩) hHeld ?_ ?_
 rotate_left
 ·rintro w' ⟨s0, s1, s2, s3⟩
  go_simp
  with_reducible rfl
 rotate_left
 ·simp only [Act.put, List.setIfInBounds_toArray, List.set_cons_zero, List.set_cons_succ, i64_w, i32_w]
  rfl
 refine take_ (i := 1) (N := some 27) (v := ?_) (a' := ?_) #[true, true, false, false, false, false, false, false, false, false] rfl rfl (by kernel_rfl) (fun _ _ _ h => h) (Or.inl ⟨by rfl, ?_⟩) hHeld ?_ ?_
 rotate_left
 ·rintro w' ⟨s0, s1, s2, s3⟩
  go_simp
  with_reducible rfl
 rotate_left
 ·simp only [Act.put, List.setIfInBounds_toArray, List.set_cons_zero, List.set_cons_succ, i64_w, i32_w]
  rfl
 refine pure_ (i := 2) (N := some 28) (v := ?_) (a' := ?_) #[true, true, true, false, false, false, false, false, false, false] rfl rfl (by kernel_rfl) (fun _ _ _ h => h) (Or.inl ⟨by rfl, ?_⟩) ?_ ?_
 rotate_left
 ·intro w'
  go_simp
  with_reducible rfl
 rotate_left
 ·simp only [Act.put, List.setIfInBounds_toArray, List.set_cons_zero, List.set_cons_succ, i64_w, i32_w]
  rfl
 refine pure_ (i := 3) (N := some 29) (v := ?_) (a' := ?_) #[true, true, true, true, false, false, false, false, false, false] rfl rfl (by kernel_rfl) (fun _ _ _ h => h) (Or.inl ⟨by rfl, ?_⟩) ?_ ?_
 rotate_left
 ·intro w'
  go_simp
  with_reducible rfl
 rotate_left
 ·simp only [Act.put, List.setIfInBounds_toArray, List.set_cons_zero, List.set_cons_succ, i64_w, i32_w]
  rfl
 refine take_ (i := 4) (N := some 30) (v := ?_) (a' := ?_) #[true, true, true, true, true, false, false, false, false, false] rfl rfl (by kernel_rfl) (fun _ _ _ h => h) (Or.inl ⟨by rfl, ?_⟩) hHeld ?_ ?_
 rotate_left
 ·rintro w' ⟨s0, s1, s2, s3⟩
  go_simp
  with_reducible rfl
 rotate_left
 ·simp only [Act.put, List.setIfInBounds_toArray, List.set_cons_zero, List.set_cons_succ, i64_w, i32_w]
  rfl
 refine pure_ (i := 5) (N := some 31) (v := ?_) (a' := ?_) #[true, true, true, true, true, true, false, false, false, false] rfl rfl (by kernel_rfl) (fun _ _ _ h => h) (Or.inl ⟨by rfl, ?_⟩) ?_ ?_
 rotate_left
 ·intro w'
  go_simp
  with_reducible rfl
 rotate_left
 ·simp only [Act.put, List.setIfInBounds_toArray, List.set_cons_zero, List.set_cons_succ, i64_w, i32_w]
  rfl
 refine pure_ (i := 6) (N := some 32) (v := ?_) (a' := ?_) #[true, true, true, true, true, true, true, false, false, false] rfl rfl (by kernel_rfl) (fun _ _ _ h => h) (Or.inl ⟨by rfl, ?_⟩) ?_ ?_
 rotate_left
 ·intro w'
  go_simp
  with_reducible rfl
 rotate_left
 ·simp only [Act.put, List.setIfInBounds_toArray, List.set_cons_zero, List.set_cons_succ, i64_w, i32_w]
  rfl
 refine take_ (i := 7) (N := some 33) (v := ?_) (a' := ?_) #[true, true, true, true, true, true, true, true, false, false] rfl rfl (by kernel_rfl) (fun _ _ _ h => h) (Or.inl ⟨by rfl, ?_⟩) hHeld ?_ ?_
 rotate_left
 ·rintro w' ⟨s0, s1, s2, s3⟩
  go_simp
  with_reducible rfl
 rotate_left
 ·simp only [Act.put, List.setIfInBounds_toArray, List.set_cons_zero, List.set_cons_succ, i64_w, i32_w]
  rfl
 refine pure_ (i := 8) (N := some 34) (v := ?_) (a' := ?_) #[true, true, true, true, true, true, true, true, true, false] rfl rfl (by kernel_rfl) (fun _ _ _ h => h) (Or.inl ⟨by rfl, ?_⟩) ?_ ?_
 rotate_left
 ·intro w'
  go_simp
  with_reducible rfl
 rotate_left
 ·simp only [Act.put, List.setIfInBounds_toArray, List.set_cons_zero, List.set_cons_succ, i64_w, i32_w]
  rfl
 refine one_ (i := 9) (N := none) #[true, true, true, true, true, true, true, true, true, true] rfl rfl (by kernel_rfl) (by decide) (fun K hK => ?_)
 obtain ⟨w3, hrun, hmap3, hg3⟩ := (HMap.out.move (W' := W.drew.drew) rfl).put x (by omega) (by omega) HXN.out (by have := HKL.out; omega)
 refine map_step (by rfl) rfl (w1 := w3) rfl hrun ?_
 have hne : ∀ {a : Addr} {u : Value}, W.drew.drew.cell? a = some u → some a.block ≠ some bm := fun {a u} ha e => by
  injection e with e
  have := HMap.out.own
  obtain ⟨es, clock, hb, _⟩ := this
  unfold World.cell? at ha
  rw [show W.drew.drew.heap = W.heap from rfl, e, hb] at ha
  cases ha
 have hcell : ∀ {a : Addr} {u : Value}, W.drew.drew.cell? a = some u → w3.cell? a = some u := fun {a u} ha => hg3.cell ha (hne ha)
 refine hK.out _ _ ⟨hcell hHeld.1, hcell hHeld.2.1, hcell hHeld.2.2.1, hcell hHeld.2.2.2⟩ (fun hHeld => ?_)
 have hblk : ∀ {g : Nat} {o : Obj}, W.heap[g]? = some o → bm ≠ g → w3.heap[g]? = some o := fun {g o} h hn => (hg3.block g (Array.getElem?_eq_some_iff.1 h).1 (fun e => hn (by injection e with e; exact e.symm))).trans h
 have Z5 := Aside0.mk (hblk X5.out (HMap.out.notCells X5.out))
 have Z6 := Aside0.mk (hblk X6.out (HMap.out.notCells X6.out))
 have Map3 := Aside0.mk hmap3
 have G3 := Aside0.mk hg3
 have hrow3 : Kd.R kRc 120 w3 B (fun k => some k = v.ownBlock) v rs := by
  refine Kd.R_grown (w := W.drew.drew) (Kd.R_drew (Kd.R_drew HRow.out)) hg3 (fun k hk e => ?_)
  obtain ⟨inner, ho⟩ := Kd.R_own HRow.out
  obtain ⟨cells, hc2⟩ := own_typed ho k hk.symm
  have := HMap.out.notCells hc2
  injection e with e
  exact this e.symm
 have Row3 := Aside0.mk hrow3
 clear hK K hrun hmap3 hg3 hne hcell hblk hrow3
 refine done_ (by kernel_rfl) ?_
 clear hHeld y2d y1e y3e y4e
 go_wp2
 have z5 : w3.drew.cell? ⟨gv, 0, none⟩ = some (.pointer (some ⟨gf, 0, none⟩)) := (blk_cell (w := w3.drew) Z5.out 0).trans rfl
 have z6 : w3.drew.cell? ⟨gf, 1, none⟩ = some v := (blk_cell (w := w3.drew) Z6.out 1).trans rfl
 refine start_ (n := 13) (S := fun w' => w'.cell? ⟨gv, 0, none⟩ = some (.pointer (some ⟨gf, 0, none⟩)) ∧ w'.cell? ⟨gf, 1, none⟩ = some v) (ds := [12]) #[false, false, false, false, false, false, false, false, false, false, false, false, false] (by kernel_rfl) rfl rfl (⟨z5, z6⟩) (fun hHeld => ?_)
 refine take_ (i := 0) (N := some 35) (v := ?_) (a' := ?_) #[true, false, false, false, false, false, false, false, false, false, false, false, false] rfl rfl (by kernel_rfl) (fun _ _ _ h => h) (Or.inl ⟨by rfl, ?_⟩) hHeld ?_ ?_
 rotate_left
 ·rintro w' ⟨s0, s1⟩
  go_simp
  with_reducible rfl
 rotate_left
 ·simp only [Act.put, List.setIfInBounds_toArray, List.set_cons_zero, List.set_cons_succ, i64_w, i32_w]
  rfl
 refine take_ (i := 1) (N := some 36) (v := ?_) (a' := ?_) #[true, true, false, false, false, false, false, false, false, false, false, false, false] rfl rfl (by kernel_rfl) (fun _ _ _ h => h) (Or.inl ⟨by rfl, ?_⟩) hHeld ?_ ?_
 rotate_left
 ·rintro w' ⟨s0, s1⟩
  go_simp
  with_reducible rfl
 rotate_left
 ·simp only [Act.put, List.setIfInBounds_toArray, List.set_cons_zero, List.set_cons_succ, i64_w, i32_w]
  rfl
 refine pure_ (i := 2) (N := some 37) (v := ?_) (a' := ?_) #[true, true, true, false, false, false, false, false, false, false, false, false, false] rfl rfl (by kernel_rfl) (fun _ _ _ h => h) (Or.inl ⟨by rfl, ?_⟩) ?_ ?_
 rotate_left
 ·intro w'
  go_simp
  with_reducible rfl
 rotate_left
 ·simp only [Act.put, List.setIfInBounds_toArray, List.set_cons_zero, List.set_cons_succ, i64_w, i32_w]
  rfl
 refine pure_ (i := 3) (N := some 38) (v := ?_) (a' := ?_) #[true, true, true, true, false, false, false, false, false, false, false, false, false] rfl rfl (by kernel_rfl) (fun _ _ _ h => h) (Or.inl ⟨by rfl, ?_⟩) ?_ ?_
 rotate_left
 ·intro w'
  go_simp
  with_reducible rfl
 rotate_left
 ·simp only [Act.put, List.setIfInBounds_toArray, List.set_cons_zero, List.set_cons_succ, i64_w, i32_w]
  rfl
 refine take_ (i := 4) (N := some 39) (v := ?_) (a' := ?_) #[true, true, true, true, true, false, false, false, false, false, false, false, false] rfl rfl (by kernel_rfl) (fun _ _ _ h => h) (Or.inl ⟨by rfl, ?_⟩) hHeld ?_ ?_
 rotate_left
 ·rintro w' ⟨s0, s1⟩
  go_simp
  with_reducible rfl
 rotate_left
 ·simp only [Act.put, List.setIfInBounds_toArray, List.set_cons_zero, List.set_cons_succ, i64_w, i32_w]
  rfl
 refine pure_ (i := 5) (N := some 40) (v := ?_) (a' := ?_) #[true, true, true, true, true, true, false, false, false, false, false, false, false] rfl rfl (by kernel_rfl) (fun _ _ _ h => h) (Or.inl ⟨by rfl, ?_⟩) ?_ ?_
 rotate_left
 ·intro w'
  go_simp
  with_reducible rfl
 rotate_left
 ·simp only [Act.put, List.setIfInBounds_toArray, List.set_cons_zero, List.set_cons_succ, i64_w, i32_w]
  rfl
 refine pure_ (i := 6) (N := some 41) (v := ?_) (a' := ?_) #[true, true, true, true, true, true, true, false, false, false, false, false, false] rfl rfl (by kernel_rfl) (fun _ _ _ h => h) (Or.inl ⟨by rfl, ?_⟩) ?_ ?_
 rotate_left
 ·intro w'
  go_simp
  with_reducible rfl
 rotate_left
 ·simp only [Act.put, List.setIfInBounds_toArray, List.set_cons_zero, List.set_cons_succ, i64_w, i32_w]
  rfl
 refine pure_ (i := 7) (N := some 42) (v := ?_) (a' := ?_) #[true, true, true, true, true, true, true, true, false, false, false, false, false] rfl rfl (by kernel_rfl) (fun _ _ _ h => h) (Or.inl ⟨by rfl, ?_⟩) ?_ ?_
 rotate_left
 ·intro w'
  go_simp
  with_reducible rfl
 rotate_left
 ·simp only [Act.put, List.setIfInBounds_toArray, List.set_cons_zero, List.set_cons_succ, i64_w, i32_w]
  rfl
 refine one_ (i := 8) (N := some 43) #[true, true, true, true, true, true, true, true, true, false, false, false, false] rfl rfl (by kernel_rfl) (by decide) (fun K hK => ?_)
 refine event_step (by rfl) (v := .slice (some ⟨w3.drew.heap.size, 0, none⟩) 1 1) (w1 := w3.drew.alloc (.cells #[.int .i64 (r : Int), .int .i64 (c : Int), .int .i64 1, .int .i64 1] 120)) (by first | (go_simp; done) | (go_simp; rfl)) ?_
 refine hK.out _ _ ⟨pw_cell_below (below_alloc (Below.refl _ _) _) hHeld.1, pw_cell_below (below_alloc (Below.refl _ _) _) hHeld.2⟩ (fun hHeld => ?_)
 clear hK K
 refine norm_ (a' := ?_) ?_ ?_
 rotate_left
 ·show Act.put _ (some 43) _ = _
  simp only [Act.put, List.setIfInBounds_toArray, List.set_cons_zero, List.set_cons_succ, i64_w, i32_w]
  rfl
 have i73 : (Try.prog.info? 120).map (fun i => (i.zero, i.size, i.bytes)) = some (some (.agg #[.int .i64 0, .int .i64 0, .int .i64 0, .int .i64 0]), 4, 32) := by kernel_rfl
 have hr4 : Kd.R kRc 120 w3.drew B (fun _ => True) v rs := Kd.R_mono (Kd.R_drew Row3.out) (fun _ _ => trivial)
 refine one_ (i := 9) (N := some 44) #[true, true, true, true, true, true, true, true, true, true, false, false, false] rfl rfl (by kernel_rfl) (by decide) (fun K hK => ?_)
 refine Kd.R_append_step kRc (w0 := w3.drew) B (by rfl) (.tmp 39) (.tmp 43) 56 120 (.agg #[.int .i64 0, .int .i64 0, .int .i64 0, .int .i64 0]) 32 rfl Try.underlying56 i73 rfl (by decide) (by omega) v rs (oneR r c) [.int .i64 (r : Int), .int .i64 (c : Int), .int .i64 1, .int .i64 1] (fun _ => True) (fun _ => False) rfl rfl (k120_mkM _ _ _ (oneR r c)) (fun _ h => h.elim) (fun _ _ => trivial) hr4 (Below.refl _ _) (Nat.le_trans hBW G3.out.size) (by omega) ?_
 intro v5 w5 ho5 hb5 hg5 hat5
 obtain ⟨A5, c5, ev5⟩ := Kd.R_slice ho5
 have hne5 : ∀ {g t : Nat} {cells : Array Value}, w3.heap[g]? = some (.cells cells t (0, 0)) → t ≠ 120 → some g ≠ v.ownBlock := fun {g t cells} h ht => Kd.R_ne Row3.out h (Ne.symm ht)
 have hkeep5 : ∀ {g t : Nat} {cells : Array Value}, w3.heap[g]? = some (.cells cells t (0, 0)) → t ≠ 120 → w5.heap[g]? = some (.cells cells t (0, 0)) := fun {g t cells} h ht => (hg5.block g (Array.getElem?_eq_some_iff.1 h).1 (hne5 h ht)).trans h
 have Y5 := Aside0.mk (hkeep5 Z5.out (by decide))
 have Y6 := Aside0.mk (hkeep5 Z6.out (by decide))
 have hbmv : some bm ≠ v.ownBlock := fun e => by
  obtain ⟨inner, ho⟩ := Kd.R_own Row3.out
  obtain ⟨cells, hc2⟩ := own_typed ho bm e.symm
  exact Map3.out.notCells hc2 rfl
 have Map5 := Aside0.mk (Map3.out.move (W' := w5) (hg5.block bm Map3.out.lt hbmv))
 have Row5 := Aside0.mk (Kd.R_tight rfl ho5)
 have G5 := Aside0.mk hg5
 have AT5 := Aside0.mk hat5
 subst ev5
 refine hK.out _ _ ⟨(blk_cell Y5.out 0).trans rfl, (blk_cell Y6.out 1).trans rfl⟩ (fun hHeld => ?_)
 clear hK K ho5 hb5 hg5 hat5 hne5 hkeep5 hbmv hr4 i73
 refine norm_ (a' := ?_) ?_ ?_
 rotate_left
 ·show Act.put _ (some 44) _ = _
  simp only [Act.put, List.setIfInBounds_toArray, List.set_cons_zero, List.set_cons_succ, i64_w, i32_w]
  rfl
 refine pure_ (i := 10) (N := some 45) (v := ?_) (a' := ?_) #[true, true, true, true, true, true, true, true, true, true, true, false, false] rfl rfl (by kernel_rfl) (fun _ _ _ h => h) (Or.inl ⟨by rfl, ?_⟩) ?_ ?_
 rotate_left
 ·intro w'
  go_simp
  with_reducible rfl
 rotate_left
 ·simp only [Act.put, List.setIfInBounds_toArray, List.set_cons_zero, List.set_cons_succ, i64_w, i32_w]
  rfl
 refine pure_ (i := 11) (N := some 46) (v := ?_) (a' := ?_) #[true, true, true, true, true, true, true, true, true, true, true, true, false] rfl rfl (by kernel_rfl) (fun _ _ _ h => h) (Or.inl ⟨by rfl, ?_⟩) ?_ ?_
 rotate_left
 ·intro w'
  go_simp
  with_reducible rfl
 rotate_left
 ·simp only [Act.put, List.setIfInBounds_toArray, List.set_cons_zero, List.set_cons_succ, i64_w, i32_w]
  rfl
 have hq1 := hHeld.2
 have hq2 : w5.frozen? ⟨gf, 1, none⟩ = false := blk_frozen Y6.out 1
 refine last_ (i := 12) (N := none) #[true, true, true, true, true, true, true, true, true, true, true, true, true] rfl rfl (by kernel_rfl) (by decide) (fun K hK => ?_)
 refine skip_step (by rfl) rfl (w1 := w5.setCell ⟨gf, 1, none⟩ (.slice A5 (rs ++ [oneR r c]).length c5)) (by first | (go_simp; done) | (go_simp; rfl)) ?_
 refine hK.out _ _ ?_
 clear hK K hHeld hq1 hq2
 have hgf5 : gf < w5.heap.size := (Array.getElem?_eq_some_iff.1 Y6.out).1
 have hgv : gv ≠ gf := by
  rintro rfl
  have z := Y5.out
  rw [Y6.out] at z
  injection z with z
  injection z with _ z
  cases z
 have Q5 := Aside0.mk (show (w5.setCell ⟨gf, 1, none⟩ (.slice A5 (rs ++ [oneR r c]).length c5)).heap[gv]? = some (.cells #[.pointer (some ⟨gf, 0, none⟩)] 52 (0, 0)) from (Below.heap_setCell _ _ _ _ hgv).trans Y5.out)
 have Q6 := Aside0.mk (show (w5.setCell ⟨gf, 1, none⟩ (.slice A5 (rs ++ [oneR r c]).length c5)).heap[gf]? = some (.cells #[.slice none 0 0, .slice A5 (rs ++ [oneR r c]).length c5] 58 (0, 0)) from by
  simp only [World.setCell, Array.getElem?_modify, if_true]
  rw [Y6.out]
  simp)
 have QM := Aside0.mk (Map5.out.move (W' := w5.setCell ⟨gf, 1, none⟩ (.slice A5 (rs ++ [oneR r c]).length c5)) (Below.heap_setCell _ _ _ _ (Map5.out.notCells Y6.out)))
 have QR := Aside0.mk (R_setF Row5.out Y6.out (by decide) 1 (.slice A5 (rs ++ [oneR r c]).length c5))
 have QO := Aside0.mk (show Other (fun k => k = bm ∨ k = gf ∨ some k = v.ownBlock) W (w5.setCell ⟨gf, 1, none⟩ (.slice A5 (rs ++ [oneR r c]).length c5)) from by
  have g3 := G3.out
  have g5 := G5.out
  refine ⟨g5.os.trans g3.os, g5.tape.trans g3.tape, g5.output.trans g3.output, ?_, fun k hk hn => ?_⟩
  ·have h1 : W.heap.size ≤ w3.heap.size := g3.size
   have h2 : w3.heap.size ≤ w5.heap.size := g5.size
   simpa [World.setCell] using Nat.le_trans h1 h2
  ·rw [Below.heap_setCell _ _ _ _ (fun e => hn (.inr (.inl e))), g5.block k (Nat.lt_of_lt_of_le hk g3.size) (fun e => hn (.inr (.inr e)))]
   exact g3.block k hk (fun e => hn (.inl (by injection e))))
 have ATW : ∀ k, (Value.slice A5 (rs ++ [oneR r c]).length c5).ownBlock = some k → v.ownBlock = some k ∨ W.heap.size ≤ k := fun k hk => by
  rcases AT5.out with h1 | ⟨b, h1, h2⟩
  ·exact .inl (by rw [← h1]; exact hk)
  ·rw [h1] at hk
   injection hk with hk
   subst hk
   exact .inr (Nat.le_trans G3.out.size h2)
 have AW := Aside0.mk ATW
 have SZ := Aside0.mk (show W.heap.size ≤ (w5.setCell ⟨gf, 1, none⟩ (.slice A5 (rs ++ [oneR r c]).length c5)).heap.size from QO.out.size)
 clear Y5 Y6 Map5 Row5 G5 AT5 ATW Z5 Z6 Map3 G3 Row3 hgf5 hgv
 obtain ⟨rs1, hrs1⟩ : ∃ rs1, rs1 = rs ++ [oneR r c] := ⟨_, rfl⟩
 rw [← hrs1] at Q5 Q6 QM QR QO AW SZ ⊢
 have RS1 := Aside0.mk hrs1
 clear hrs1
 obtain ⟨k, hkk⟩ : ∃ k, k = ks.length := ⟨_, rfl⟩
 rw [← hkk]
 have KK := Aside0.mk hkk
 clear hkk
 generalize w5.setCell ⟨gf, 1, none⟩ (.slice A5 rs1.length c5) = wx at Q5 Q6 QM QR QO SZ ⊢
 refine done_ (by kernel_rfl) ?_
 have hkr : k < rs1.length := by rw [RS1.out, KK.out, HKL.out]; simp
 have hrl1 : rs1.length ≤ 1048577 := by rw [RS1.out]; simp; omega
 have HBd1 := Aside0.mk (show ∀ a ∈ rs1, boundR a hi wi from fun a ha => by
  rw [RS1.out] at ha
  rcases List.mem_append.1 ha with ha | ha
  ·exact HBd.out a ha
  ·simp at ha
   subst ha
   exact oneR_bound hr hc)
 have hpos : 0 < rs1.length := by omega
 obtain ⟨gr, cp, ev, hgr, hlt, cells, hcells⟩ := Kd.R_form QR.out hpos
 injection ev with ea en ec
 subst ea
 subst ec
 clear en
 obtain ⟨y0, y1, y2, y3⟩ := rc_cells QR.out k hkr
 have hgrf : gr ≠ gf := by
  rintro rfl
  have z := Q6.out
  rw [hcells] at z
  injection z with z
  injection z with _ z
  cases z
 have x5 : wx.cell? ⟨gv, 0, none⟩ = some (.pointer (some ⟨gf, 0, none⟩)) := (blk_cell (w := wx) Q5.out 0).trans rfl
 have x6 : wx.cell? ⟨gf, 1, none⟩ = some (.slice (some ⟨gr, 0, none⟩) rs1.length c5) := (blk_cell (w := wx) Q6.out 1).trans rfl
 have k0 : (0 : Int) ≤ k := by omega
 have k1 : (k : Int) < rs1.length := by omega
 have k2 : (rs1.length : Int) ≤ 1048577 := by omega
 have hmem : rs1.getD k zeroR ∈ rs1 := by rw [List.getD_eq_getElem?_getD, List.getElem?_eq_getElem hkr]; exact List.getElem_mem hkr
 have hb1 := HBd1.out _ hmem
 generalize hold : rs1.getD k zeroR = old at y0 y1 y2 y3 hb1
 have HOLD := Aside0.mk hold
 have HB1 := Aside0.mk hb1
 have HNE := Aside0.mk hgrf
 have HC := Aside0.mk hcells
 clear hold hb1 hmem hcells hlt hgrf
 go_wp2
 refine start_ (n := 18) (S := fun w' => w'.cell? ⟨gv, 0, none⟩ = some (.pointer (some ⟨gf, 0, none⟩)) ∧ w'.cell? ⟨gf, 1, none⟩ = some (.slice (some ⟨gr, 0, none⟩) rs1.length c5) ∧ w'.cell? ⟨gr, k * 4, none⟩ = some (.int .i64 old.f0) ∧ w'.cell? ⟨gr, k * 4 + 1, none⟩ = some (.int .i64 old.f1) ∧ w'.cell? ⟨gr, k * 4 + 2, none⟩ = some (.int .i64 old.f2) ∧ w'.cell? ⟨gr, k * 4 + 3, none⟩ = some (.int .i64 old.f3)) (ds := [17]) #[false, false, false, false, false, false, false, false, false, false, false, false, false, false, false, false, false, false] (by kernel_rfl) rfl rfl (⟨x5, x6, y0, y1, y2, y3⟩) (fun hHeld => ?_)
 refine take_ (i := 0) (N := some 47) (v := ?_) (a' := ?_) #[true, false, false, false, false, false, false, false, false, false, false, false, false, false, false, false, false, false] rfl rfl (by kernel_rfl) (fun _ _ _ h => h) (Or.inl ⟨by rfl, ?_⟩) hHeld ?_ ?_
 rotate_left
 ·rintro w' ⟨s0, s1, s2, s3, s4, s5⟩
  go_simp
  with_reducible rfl
 rotate_left
 ·simp only [Act.put, List.setIfInBounds_toArray, List.set_cons_zero, List.set_cons_succ, i64_w, i32_w]
  rfl
 refine pure_ (i := 1) (N := some 48) (v := ?_) (a' := ?_) #[true, true, false, false, false, false, false, false, false, false, false, false, false, false, false, false, false, false] rfl rfl (by kernel_rfl) (fun _ _ _ h => h) (Or.inl ⟨by rfl, ?_⟩) ?_ ?_
 rotate_left
 ·intro w'
  go_simp
  with_reducible rfl
 rotate_left
 ·simp only [Act.put, List.setIfInBounds_toArray, List.set_cons_zero, List.set_cons_succ, i64_w, i32_w]
  rfl
 refine pure_ (i := 2) (N := some 49) (v := ?_) (a' := ?_) #[true, true, true, false, false, false, false, false, false, false, false, false, false, false, false, false, false, false] rfl rfl (by kernel_rfl) (fun _ _ _ h => h) (Or.inl ⟨by rfl, ?_⟩) ?_ ?_
 rotate_left
 ·intro w'
  go_simp
  with_reducible rfl
 rotate_left
 ·simp only [Act.put, List.setIfInBounds_toArray, List.set_cons_zero, List.set_cons_succ, i64_w, i32_w]
  rfl
 refine take_ (i := 3) (N := some 50) (v := ?_) (a' := ?_) #[true, true, true, true, false, false, false, false, false, false, false, false, false, false, false, false, false, false] rfl rfl (by kernel_rfl) (fun _ _ _ h => h) (Or.inl ⟨by rfl, ?_⟩) hHeld ?_ ?_
 rotate_left
 ·rintro w' ⟨s0, s1, s2, s3, s4, s5⟩
  go_simp
  with_reducible rfl
 rotate_left
 ·simp only [Act.put, List.setIfInBounds_toArray, List.set_cons_zero, List.set_cons_succ, i64_w, i32_w]
  rfl
 refine pure_ (i := 4) (N := some 51) (v := ?_) (a' := ?_) #[true, true, true, true, true, false, false, false, false, false, false, false, false, false, false, false, false, false] rfl rfl (by kernel_rfl) (fun _ _ _ h => h) (Or.inl ⟨by rfl, ?_⟩) ?_ ?_
 rotate_left
 ·intro w'
  go_simp
  with_reducible rfl
 rotate_left
 ·simp only [Act.put, List.setIfInBounds_toArray, List.set_cons_zero, List.set_cons_succ, i64_w, i32_w]
  rfl
 refine take_ (i := 5) (N := some 52) (v := ?_) (a' := ?_) #[true, true, true, true, true, true, false, false, false, false, false, false, false, false, false, false, false, false] rfl rfl (by kernel_rfl) (fun _ _ _ h => h) (Or.inl ⟨by rfl, ?_⟩) hHeld ?_ ?_
 rotate_left
 ·rintro w' ⟨s0, s1, s2, s3, s4, s5⟩
  go_simp
  with_reducible rfl
 rotate_left
 ·simp only [Act.put, List.setIfInBounds_toArray, List.set_cons_zero, List.set_cons_succ, i64_w, i32_w]
  rfl
 refine pure_ (i := 6) (N := some 53) (v := ?_) (a' := ?_) #[true, true, true, true, true, true, true, false, false, false, false, false, false, false, false, false, false, false] rfl rfl (by kernel_rfl) (fun _ _ _ h => h) (Or.inl ⟨by rfl, ?_⟩) ?_ ?_
 rotate_left
 ·intro w'
  go_simp
  with_reducible rfl
 rotate_left
 ·simp only [Act.put, List.setIfInBounds_toArray, List.set_cons_zero, List.set_cons_succ, i64_w, i32_w]
  rfl
 refine pure_ (i := 7) (N := some 54) (v := ?_) (a' := ?_) #[true, true, true, true, true, true, true, true, false, false, false, false, false, false, false, false, false, false] rfl rfl (by kernel_rfl) (fun _ _ _ h => h) (Or.inl ⟨by rfl, ?_⟩) ?_ ?_
 rotate_left
 ·intro w'
  go_simp
  with_reducible rfl
 rotate_left
 ·simp only [Act.put, List.setIfInBounds_toArray, List.set_cons_zero, List.set_cons_succ, i64_w, i32_w]
  rfl
 refine take_ (i := 8) (N := some 55) (v := ?_) (a' := ?_) #[true, true, true, true, true, true, true, true, true, false, false, false, false, false, false, false, false, false] rfl rfl (by kernel_rfl) (fun _ _ _ h => h) (Or.inl ⟨by rfl, ?_⟩) hHeld ?_ ?_
 rotate_left
 ·rintro w' ⟨s0, s1, s2, s3, s4, s5⟩
  go_simp
  with_reducible rfl
 rotate_left
 ·simp only [Act.put, List.setIfInBounds_toArray, List.set_cons_zero, List.set_cons_succ, i64_w, i32_w]
  rfl
 refine pure_ (i := 9) (N := some 56) (v := ?_) (a' := ?_) #[true, true, true, true, true, true, true, true, true, true, false, false, false, false, false, false, false, false] rfl rfl (by kernel_rfl) (fun _ _ _ h => h) (Or.inl ⟨by rfl, ?_⟩) ?_ ?_
 rotate_left
 ·intro w'
  go_simp
  with_reducible rfl
 rotate_left
 ·simp only [Act.put, List.setIfInBounds_toArray, List.set_cons_zero, List.set_cons_succ, i64_w, i32_w]
  rfl
 refine pure_ (i := 10) (N := some 57) (v := ?_) (a' := ?_) #[true, true, true, true, true, true, true, true, true, true, true, false, false, false, false, false, false, false] rfl rfl (by kernel_rfl) (fun _ _ _ h => h) (Or.inl ⟨by rfl, ?_⟩) ?_ ?_
 rotate_left
 ·intro w'
  go_simp
  with_reducible rfl
 rotate_left
 ·simp only [Act.put, List.setIfInBounds_toArray, List.set_cons_zero, List.set_cons_succ, i64_w, i32_w]
  rfl
 refine take_ (i := 11) (N := some 58) (v := ?_) (a' := ?_) #[true, true, true, true, true, true, true, true, true, true, true, true, false, false, false, false, false, false] rfl rfl (by kernel_rfl) (fun _ _ _ h => h) (Or.inl ⟨by rfl, ?_⟩) hHeld ?_ ?_
 rotate_left
 ·rintro w' ⟨s0, s1, s2, s3, s4, s5⟩
  go_simp
  with_reducible rfl
 rotate_left
 ·simp only [Act.put, List.setIfInBounds_toArray, List.set_cons_zero, List.set_cons_succ, i64_w, i32_w]
  rfl
 refine pure_ (i := 12) (N := some 59) (v := ?_) (a' := ?_) #[true, true, true, true, true, true, true, true, true, true, true, true, true, false, false, false, false, false] rfl rfl (by kernel_rfl) (fun _ _ _ h => h) (Or.inl ⟨by rfl, ?_⟩) ?_ ?_
 rotate_left
 ·intro w'
  go_simp
  with_reducible rfl
 rotate_left
 ·simp only [Act.put, List.setIfInBounds_toArray, List.set_cons_zero, List.set_cons_succ, i64_w, i32_w]
  rfl
 refine pure_ (i := 13) (N := some 60) (v := ?_) (a' := ?_) #[true, true, true, true, true, true, true, true, true, true, true, true, true, true, false, false, false, false] rfl rfl (by kernel_rfl) (fun _ _ _ h => h) (Or.inl ⟨by rfl, ?_⟩) ?_ ?_
 rotate_left
 ·intro w'
  go_simp
  with_reducible rfl
 rotate_left
 ·simp only [Act.put, List.setIfInBounds_toArray, List.set_cons_zero, List.set_cons_succ, i64_w, i32_w]
  rfl
 refine pure_ (i := 14) (N := some 61) (v := ?_) (a' := ?_) #[true, true, true, true, true, true, true, true, true, true, true, true, true, true, true, false, false, false] rfl rfl (by kernel_rfl) (fun _ _ _ h => h) (Or.inl ⟨by rfl, ?_⟩) ?_ ?_
 rotate_left
 ·intro w'
  go_simp
  with_reducible rfl
 rotate_left
 ·simp only [Act.put, List.setIfInBounds_toArray, List.set_cons_zero, List.set_cons_succ, i64_w, i32_w]
  rfl
 refine one_ (i := 15) (N := some 62) #[true, true, true, true, true, true, true, true, true, true, true, true, true, true, true, true, false, false] rfl rfl (by kernel_rfl) (by decide) (fun K hK => ?_)
 refine goes_ Try.func118 (by kernel_rfl) rfl #[.agg #[.int .i64 old.f0, .int .i64 old.f1, .int .i64 old.f2, .int .i64 old.f3], .agg #[.int .i64 (r : Int), .int .i64 (c : Int), .int .i64 1, .int .i64 1]] (by rfl) rfl rfl (by (try simp only [List.map_toArray, List.map_cons, List.map_nil]); first | done | rfl) ?_
 refine (PC.impl_rect_both.calls old.f0 old.f1 old.f2 old.f3 r c 1 1 _ _ _ _ _ (both_f old (oneR r c) hi wi HB1.out (oneR_bound hr hc) hhi hwi)).mono ?_
 rintro e w8 ⟨rfl, hb8⟩
 refine ⟨_, rfl, ?_⟩
 have HB8 := Aside0.mk (show Below wx.heap.size wx w8 from ⟨hb8.os, hb8.tape, hb8.output, hb8.size, hb8.block⟩)
 refine hK.out _ _ ⟨pw_cell_below hb8 hHeld.1, pw_cell_below hb8 hHeld.2.1, pw_cell_below hb8 hHeld.2.2.1, pw_cell_below hb8 hHeld.2.2.2.1, pw_cell_below hb8 hHeld.2.2.2.2.1, pw_cell_below hb8 hHeld.2.2.2.2.2⟩ (fun hHeld => ?_)
 clear hK K hb8
 refine norm_ (a' := ?_) ?_ ?_
 rotate_left
 ·show Act.put _ (some 62) _ = _
  simp only [Act.put, List.setIfInBounds_toArray, List.set_cons_zero, List.set_cons_succ, i64_w, i32_w]
  rfl
 generalize hnew : bothR old (oneR r c) = nw
 have HNEW := Aside0.mk hnew
 clear hnew
 refine pure_ (i := 16) (N := some 63) (v := ?_) (a' := ?_) #[true, true, true, true, true, true, true, true, true, true, true, true, true, true, true, true, true, false] rfl rfl (by kernel_rfl) (fun _ _ _ h => h) (Or.inl ⟨by rfl, ?_⟩) ?_ ?_
 rotate_left
 ·intro w'
  go_simp
  with_reducible rfl
 rotate_left
 ·simp only [Act.put, List.setIfInBounds_toArray, List.set_cons_zero, List.set_cons_succ, i64_w, i32_w]
  rfl
 have hrow8 := Kd.R_below QR.out HB8.out
 obtain ⟨cur8, hc8, hs8⟩ := rc_block hrow8
 refine last_ (i := 17) (N := none) #[true, true, true, true, true, true, true, true, true, true, true, true, true, true, true, true, true, true] rfl rfl (by kernel_rfl) (by decide) (fun K hK => ?_)
 refine cells_step (W := w8) (by rfl) rfl (t := 120) (e := 120) rfl (g := gr) (off := k * 4) (cur := cur8) rfl (.agg #[.int .i64 nw.f0, .int .i64 nw.f1, .int .i64 nw.f2, .int .i64 nw.f3]) rfl [.int .i64 nw.f0, .int .i64 nw.f1, .int .i64 nw.f2, .int .i64 nw.f3] rfl (by kernel_rfl) hc8 (by simp; omega) (by simp; exact ⟨rfl, rfl, rfl, rfl⟩) ?_
 refine hK.out _ _ ?_
 clear hK K hHeld
 have hput := rc_put hrow8 k hkr nw
 have HPUT := Aside0.mk hput
 clear hput hrow8 hc8
 generalize w8.setCells gr (k * 4) [.int .i64 nw.f0, .int .i64 nw.f1, .int .i64 nw.f2, .int .i64 nw.f3] = w9 at HPUT ⊢
 refine done_ (by kernel_rfl) ?_
 go_wp2
 go_ret
 have hset : rs1.set k nw = rs ++ [bothR (oneR r c) (oneR r c)] := by
  have hkk : k = rs.length := by rw [KK.out, HKL.out]
  rw [← HNEW.out, ← HOLD.out, RS1.out, hkk]
  simp [List.getD_eq_getElem?_getD]
 have hg := HPUT.out.2
 have hmne : bm ≠ gr := QM.out.notCells HC.out
 have hin : ∀ {g : Nat} {o : Obj}, wx.heap[g]? = some o → g ≠ gr → w9.heap[g]? = some o := fun {g o} h hn => by
  have hl := (Array.getElem?_eq_some_iff.1 h).1
  rw [hg.block g (Nat.lt_of_lt_of_le hl HB8.out.size) (fun e => hn (by injection e)), HB8.out.block g hl]
  exact h
 refine ⟨by rw [KK.out]; rfl, .slice (some ⟨gr, 0, none⟩) rs1.length c5, ?_, ?_, ?_, AW.out, ?_⟩
 ·rw [← hset]
  exact HPUT.out.1
 ·refine QM.out.move ?_
  rw [hg.block bm (Nat.lt_of_lt_of_le QM.out.lt HB8.out.size) (fun e => hmne (by injection e)), HB8.out.block bm QM.out.lt]
 ·exact hin Q6.out (Ne.symm HNE.out)
 ·have o := QO.out
  refine ⟨hg.os.trans (HB8.out.os.trans o.os), hg.tape.trans (HB8.out.tape.trans o.tape), hg.output.trans (HB8.out.output.trans o.output), Nat.le_trans o.size (Nat.le_trans HB8.out.size hg.size), fun i hi hn => ?_⟩
  have hi2 := Nat.lt_of_lt_of_le hi o.size
  rw [hg.block i (Nat.lt_of_lt_of_le hi2 HB8.out.size) (fun e => ?_), HB8.out.block i hi2, o.block i hi hn]
  injection e with e
  rcases AW.out gr rfl with h1 | h1
  ·exact hn (.inr (.inr (by rw [e, h1])))
  ·omega
theorem divmod_of {r c wi : Nat} (hc : c < wi) : (r * wi + c) / wi = r ∧ (r * wi + c) % wi = c :=
 ⟨by rw [Nat.add_comm, Nat.add_mul_div_right _ _ (by omega), Nat.div_eq_of_lt hc, Nat.zero_add], by rw [Nat.add_comm, Nat.add_mul_mod_self_right, Nat.mod_eq_of_lt hc]⟩
theorem stAt_step (rows : List (List Int)) {r c wi : Nat} (hc : c < wi) : stAt rows wi (r * wi + c + 1) = stepS (stAt rows wi (r * wi + c)) r c (valAt rows r c) := by
 obtain ⟨h1, h2⟩ := divmod_of (r := r) hc
 show stepS (stAt rows wi (r * wi + c)) ((r * wi + c) / wi) ((r * wi + c) % wi) (valAt rows ((r * wi + c) / wi) ((r * wi + c) % wi)) = _
 rw [h1, h2]
theorem settled2_cell (w0 : World) (gn gc gv gf bm : Nat) (A : Option Addr) (cap : Nat) (rows : List (List Int)) (hi wi : Nat) (hG : GridIn w0 A rows hi wi) :
  CellFn Try.prog 117 #[.pointer (some ⟨gn, 0, none⟩), .pointer (some ⟨gc, 0, none⟩), .pointer (some ⟨gv, 0, none⟩)] hi wi (numAt rows wi) (fun n F W => ∃ v, SInv w0 gn gc gv gf bm A cap rows wi v n F W) := by
 refine ⟨fun n F W W' ⟨v, h⟩ hs hm => ⟨v, h.move hs hm⟩, fun n F W k ⟨v, h⟩ hk => h.lt k hk, fun n F W r c hr hc hn ⟨v, hI⟩ => ?_⟩
 subst hn
 obtain ⟨ad, ad2, ci, row, rfl, hx3, hwl, hx4, hv0, hv1⟩ := hG.cell r c hr hc
 have hi1 := hG.hi_le
 have wi1 := hG.wi_le
 have hmany := hG.many
 have hrl : r < rows.length := by rw [hG.high]; exact hr
 have hcl : c < row.length := by omega
 have o3 := World.block_lt_of_cell? w0 _ hx3
 have o4 := World.block_lt_of_cell? w0 _ hx4
 replace hx3 := (World.cell?_of_block (w := w0) (hI.old _ o3)).trans hx3
 replace hx4 := (World.cell?_of_block (w := w0) (hI.old _ o4)).trans hx4
 rw [add_block] at o3 o4
 have hle : r * wi + c ≤ hi * wi := by
  have : (r + 1) * wi ≤ hi * wi := Nat.mul_le_mul_right _ hr
  rw [Nat.succ_mul] at this
  omega
 obtain ⟨hlen, hnd, hln, hbd⟩ := stAt_inv rows hi wi (r * wi + c) hle
 have hst := stAt_step rows (r := r) hc
 obtain ⟨b1, b2, b3, b4, b5⟩ := hI.base
 by_cases hx : valAt rows r c ∈ (stAt rows wi (r * wi + c)).1
 ·have hkl : (stAt rows wi (r * wi + c)).1.idxOf (valAt rows r c) < (stAt rows wi (r * wi + c)).2.length := by rw [← hlen]; exact List.idxOf_lt_length_of_mem hx
  refine (found_walk W w0.heap.size gn gc gv gf bm ad ad2 rows.length cap row.length ci (valAt rows r c) _ (stAt rows wi (r * wi + c)).2 v r c hi wi hr hc hi1 wi1 hrl hcl (by have := hG.high; omega) (by omega)
   ((blk_cell hI.num 0).trans rfl) ((blk_cell hI.cel 0).trans rfl) hx3 hx4 (fun W' hW' => ?_) ((blk_cell hI.flo 0).trans rfl) hI.str hI.row hkl (by omega) hbd).mono ?_
  ·have := (hI.map.move hW').look (valAt rows r c) (by omega) (by omega)
   rw [if_pos hx, decide_eq_true hx] at this
   exact this
  ·rintro e W' ⟨rfl, hrow, hg⟩
   have hst2 : stAt rows wi (r * wi + c + 1) = ((stAt rows wi (r * wi + c)).1, (stAt rows wi (r * wi + c)).2.set ((stAt rows wi (r * wi + c)).1.idxOf (valAt rows r c)) (bothR ((stAt rows wi (r * wi + c)).2.getD ((stAt rows wi (r * wi + c)).1.idxOf (valAt rows r c)) zeroR) (oneR r c))) := by rw [hst, stepS, if_pos hx]
   have hne : ∀ {g t : Nat} {cells : Array Value}, W.heap[g]? = some (.cells cells t (0, 0)) → t ≠ 120 → W'.heap[g]? = some (.cells cells t (0, 0)) := fun {g t cells} h ht => (hg.block g (Array.getElem?_eq_some_iff.1 h).1 (Kd.R_ne hI.row h (Ne.symm ht))).trans h
   have hbase : ∀ k, some k = v.ownBlock → w0.heap.size ≤ k := fun k hk => Kd.R_base hI.row k hk.symm
   refine ⟨?_, F, ⟨v, ⟨fun k hk => (hg.block k (Nat.lt_of_lt_of_le hk hI.size) (fun e => by have := hbase k e; omega)).trans (hI.old k hk), Nat.le_trans hI.size hg.size, hne hI.num (by decide), hne hI.cel (by decide), hne hI.flo (by decide), hne hI.str (by decide), ?_, ?_, hI.base, hI.foot⟩⟩, fun k hk => .inl hk, ⟨hg.os, hg.tape, hg.output, hg.size, fun k hk hn => hg.block k hk (fun e => hn ((hI.foot k).2 (by simp [e])))⟩⟩
   ·unfold numAt
    rw [hst2]
   ·rw [hst2]
    refine hI.map.move (hg.block bm hI.map.lt (fun e => ?_))
    obtain ⟨inner, ho⟩ := Kd.R_own hI.row
    obtain ⟨cells, hc2⟩ := own_typed ho bm e.symm
    exact hI.map.notCells hc2 rfl
   ·rw [hst2]
    exact hrow
 ·refine (new_walk W w0.heap.size gn gc gv gf bm ad ad2 rows.length cap row.length ci (valAt rows r c) (stAt rows wi (r * wi + c)).1 (stAt rows wi (r * wi + c)).2 v r c hi wi hr hc hi1 wi1 hrl hcl (by have := hG.high; omega) (by omega)
   hI.num hI.cel hx3 hx4 ⟨o3, o4⟩ hI.map hx ⟨hv0, hv1⟩ hlen hI.flo hI.str hI.row (by omega) hI.size hbd).mono ?_
  rintro e W' ⟨rfl, v', hrow, hmap, hstr, hat, hO⟩
  have hst2 : stAt rows wi (r * wi + c + 1) = ((stAt rows wi (r * wi + c)).1 ++ [valAt rows r c], (stAt rows wi (r * wi + c)).2 ++ [bothR (oneR r c) (oneR r c)]) := by rw [hst, stepS, if_neg hx]
  have hbase : ∀ k, some k = v.ownBlock → w0.heap.size ≤ k := fun k hk => Kd.R_base hI.row k hk.symm
  have hnotF : ∀ {g t : Nat} {cells : Array Value}, W.heap[g]? = some (.cells cells t (0, 0)) → t ≠ 120 → t ≠ 58 → W'.heap[g]? = some (.cells cells t (0, 0)) := fun {g t cells} h ht ht2 => (hO.block g (Array.getElem?_eq_some_iff.1 h).1 (fun e => by
   rcases e with rfl | rfl | e
   ·exact hI.map.notCells h rfl
   ·have z := hI.str
    rw [h] at z
    injection z with z
    injection z with _ z
    exact ht2 z
   ·exact Kd.R_ne hI.row h (Ne.symm ht) e)).trans h
  refine ⟨?_, (fun k => k < w0.heap.size ∨ k = gn ∨ k = gc ∨ k = gv ∨ k = gf ∨ k = bm ∨ some k = v'.ownBlock), ⟨v', ⟨fun k hk => (hO.block k (Nat.lt_of_lt_of_le hk hI.size) (fun e => ?_)).trans (hI.old k hk), Nat.le_trans hI.size hO.size, hnotF hI.num (by decide) (by decide), hnotF hI.cel (by decide) (by decide), hnotF hI.flo (by decide) (by decide), hstr, ?_, ?_, hI.base, fun k => Iff.rfl⟩⟩, fun k hk => ?_, ⟨hO.os, hO.tape, hO.output, hO.size, fun k hk hn => hO.block k hk (fun e => hn ((hI.foot k).2 ?_))⟩⟩
  ·unfold numAt
   rw [hst2]
   simp only
   rw [List.idxOf_append, if_neg hx]
   simp
  ·rcases e with rfl | rfl | e
   ·omega
   ·omega
   ·have := hbase k e; omega
  ·rw [hst2]
   exact hmap
  ·rw [hst2]
   exact hrow
  ·rcases hk with h1 | h1 | h1 | h1 | h1 | h1 | h1
   ·exact .inl ((hI.foot k).2 (by simp [h1]))
   ·exact .inl ((hI.foot k).2 (by simp [h1]))
   ·exact .inl ((hI.foot k).2 (by simp [h1]))
   ·exact .inl ((hI.foot k).2 (by simp [h1]))
   ·exact .inl ((hI.foot k).2 (by simp [h1]))
   ·exact .inl ((hI.foot k).2 (by simp [h1]))
   ·rcases hat k h1.symm with h2 | h2
    ·exact .inl ((hI.foot k).2 (by simp [h2]))
    ·exact .inr h2
  ·rcases e with h1 | h1 | h1
   ·simp [h1]
   ·simp [h1]
   ·simp [h1]
def FloorAt (w : World) (g : Nat) (cs : List (List Int)) (rs : List Rc) : Prop := IsS58 w w g cs rs
theorem FloorAt.below {w w' : World} {g : Nat} {cs : List (List Int)} {rs : List Rc} (h : FloorAt w g cs rs) (hb : Below w.heap.size w w') : FloorAt w' g cs rs := by
  obtain ⟨A0, c0, A1, c1, h1, h2, h3, h4⟩ := h
  have hlt := (Array.getElem?_eq_some_iff.1 h1).1
  have e := (hb.block g hlt).trans h1
  exact ⟨A0, c0, A1, c1, e, e, Kd.C_below h3 hb, Kd.C_below h4 hb⟩
def wideOf (rows : List (List Int)) : Nat := (rows.getD 0 []).length
def shapeOk (rows : List (List Int)) : Bool := decide (1 ≤ rows.length) && decide (rows.length ≤ 6) && decide (1 ≤ wideOf rows) && decide (wideOf rows ≤ 6) && !(rows.any fun r => r.length != wideOf rows)
def areaR (a : Rc) : Int := a.f2 * a.f3
def sumArea (rs : List Rc) : Int := (rs.map areaR).foldl (· + ·) 0
def roomsOf (rows : List (List Int)) : List Rc := (stAt rows (wideOf rows) (rows.length * wideOf rows)).2
def cellsOf (rows : List (List Int)) : List (List Int) := gridOf rows.length (wideOf rows) (numAt rows (wideOf rows))
def settledF (rows : List (List Int)) : Option (List (List Int) × List Rc × Bool) :=
  if shapeOk rows = true then if (roomsOf rows).length ≤ 9 then some (cellsOf rows, roomsOf rows, decide (sumArea (roomsOf rows) = (rows.length : Int) * (wideOf rows : Int))) else none else none
theorem area_bound {a : Rc} {hi wi : Nat} (h : boundR a hi wi) (h1 : hi ≤ 6) (h2 : wi ≤ 6) : 0 ≤ areaR a ∧ areaR a ≤ 36 := by
  obtain ⟨a1, a2, a3, a4, a5, a6⟩ := h
  unfold areaR
  refine ⟨Int.mul_nonneg (by omega) (by omega), ?_⟩
  have := Int.mul_le_mul (show a.f2 ≤ 6 by omega) (show a.f3 ≤ 6 by omega) (by omega) (by omega)
  omega
theorem sum_snoc (xs : List Rc) (a : Rc) : sumArea (xs ++ [a]) = sumArea xs + areaR a := by
  simp [sumArea, List.foldl_append]
theorem sum_take (rs : List Rc) (i : Nat) (hi : i < rs.length) : sumArea (rs.take (i + 1)) = sumArea (rs.take i) + areaR (rs.getD i zeroR) := by
  rw [List.take_add_one, List.getElem?_eq_getElem hi, Option.toList_some, sum_snoc, List.getD_eq_getElem?_getD, List.getElem?_eq_getElem hi]
  rfl
theorem sum_bound (rs : List Rc) {hi wi : Nat} (h : ∀ a ∈ rs, boundR a hi wi) (h1 : hi ≤ 6) (h2 : wi ≤ 6) : ∀ i, i ≤ rs.length → 0 ≤ sumArea (rs.take i) ∧ sumArea (rs.take i) ≤ 36 * i
  | 0, _ => by simp [sumArea]
  | i + 1, hi => by
    have ih := sum_bound rs h h1 h2 i (by omega)
    have hmem : rs.getD i zeroR ∈ rs := by rw [List.getD_eq_getElem?_getD, List.getElem?_eq_getElem (by omega)]; exact List.getElem_mem _
    have hb := area_bound (h _ hmem) h1 h2
    rw [sum_take rs i (by omega)]
    omega
theorem cellsOf_length (rows : List (List Int)) : (cellsOf rows).length = rows.length := gridOf_length _ _ _
theorem cellsOf_wide (rows : List (List Int)) (h : 1 ≤ rows.length) : (rd_L3 (cellsOf rows) 0).length = wideOf rows := by
  unfold rd_L3 cellsOf gridOf
  obtain ⟨n, hn⟩ : ∃ n, rows.length = n + 1 := ⟨rows.length - 1, by omega⟩
  rw [hn, List.range_succ_eq_map]
  simp
def FloorRes (w : World) (r : Option (List (List Int) × List Rc × Bool)) (e : Ending) (w' : World) : Prop :=
  Below w.heap.size w w' ∧ match r with
    | none => e = .returned (.tuple #[.pointer none, .bool false])
    | some (cs, rs, b) => ∃ g, e = .returned (.tuple #[.pointer (some ⟨g, 0, none⟩), .bool b]) ∧ FloorAt w' g cs rs
set_option maxHeartbeats 4000000 in
set_option maxRecDepth 100000 in
theorem settled_bad (A : Option Addr) (cap : Nat) (rows : List (List Int)) (w : World) (hr : (Kd.slice 3 (Kd.int .i64)).C w A rows.length rows) (hbad : rows.length < 1 ∨ 6 < rows.length ∨ (1 ≤ rows.length ∧ wideOf rows < 1) ∨ (1 ≤ rows.length ∧ 6 < wideOf rows)) :
    Calls Try.prog 108 #[.slice A rows.length cap] w (FloorRes w none) := by
  have hn := (C_len hr).2
  have HR := Aside0.mk hr
  clear hr
  have b1 : (rows.length : Int) ≤ 9223372036854775807 := by omega
  rcases hbad with h | h | ⟨h0, h⟩ | ⟨h0, h⟩
  · have d1 : decide ((rows.length : Int) < 1) = true := decide_eq_true (by omega)
    go_enter Try.func108, Try.ntmps108
    go_wp2_with (first | ((with_reducible refine gate_dst (N := 1) rfl ?_); refine box_event ?hg (N := 1) ?hd (cs := #[.slice A rows.length cap]) (t := 55) ?hr ?_; (case hd => rfl); (case hg => rfl); (case hr => first | (go_simp; done) | (go_simp; rfl)); intro gc hgc w1 hbox hb; have HGC := Aside0.mk hgc; have HBX := Aside0.mk hbox; have HB := Aside0.mk hb; have hc1 : w1.cell? ⟨gc, 0, none⟩ = some (.slice A rows.length cap) := (blk_cell hbox 0).trans rfl; clear hgc hbox; clear hb))
    go_ret2
    exact ⟨HB.out, rfl⟩
  · have d1 : decide ((rows.length : Int) < 1) = false := decide_eq_false (by omega)
    have d2 : decide ((6 : Int) < (rows.length : Int)) = true := decide_eq_true (by omega)
    go_enter Try.func108, Try.ntmps108
    go_wp2_with (first | ((with_reducible refine gate_dst (N := 1) rfl ?_); refine box_event ?hg (N := 1) ?hd (cs := #[.slice A rows.length cap]) (t := 55) ?hr ?_; (case hd => rfl); (case hg => rfl); (case hr => first | (go_simp; done) | (go_simp; rfl)); intro gc hgc w1 hbox hb; have HGC := Aside0.mk hgc; have HBX := Aside0.mk hbox; have HB := Aside0.mk hb; have hc1 : w1.cell? ⟨gc, 0, none⟩ = some (.slice A rows.length cap) := (blk_cell hbox 0).trans rfl; clear hgc hbox; clear hb))
    go_ret2
    exact ⟨HB.out, rfl⟩
  all_goals
    obtain ⟨row, hrow⟩ : ∃ row, rows[0]? = some row := ⟨_, List.getElem?_eq_getElem (by omega)⟩
    obtain ⟨ad, Ai, ci, e1, hx, hl, hrr⟩ := C_row HR.out 0 row hrow
    have hwide : wideOf rows = row.length := by unfold wideOf; rw [List.getD_eq_getElem?_getD, hrow]; rfl
    rw [hwide] at h
    subst e1
    rw [Addr.add_zero'] at hx
    have hrl := (C_len hrr).2
    have b2 : (row.length : Int) ≤ 9223372036854775807 := by omega
    clear hrow hwide hrr hl
    have d1 : decide ((rows.length : Int) < 1) = false := decide_eq_false (by omega)
    have hpos : (0 : Int) < (rows.length : Int) := by omega
    by_cases h6 : 6 < rows.length
    · have d2 : decide ((6 : Int) < (rows.length : Int)) = true := decide_eq_true (by omega)
      clear h6 h
      go_enter Try.func108, Try.ntmps108
      go_wp2_with (first | ((with_reducible refine gate_dst (N := 1) rfl ?_); refine box_event ?hg (N := 1) ?hd (cs := #[.slice (some ad) rows.length cap]) (t := 55) ?hr ?_; (case hd => rfl); (case hg => rfl); (case hr => first | (go_simp; done) | (go_simp; rfl)); intro gc hgc w1 hbox hb; have HGC := Aside0.mk hgc; have HBX := Aside0.mk hbox; have HB := Aside0.mk hb; have hc1 : w1.cell? ⟨gc, 0, none⟩ = some (.slice (some ad) rows.length cap) := (blk_cell hbox 0).trans rfl; clear hgc hbox; clear hb))
      go_ret2
      exact ⟨HB.out, rfl⟩
    · have d2 : decide ((6 : Int) < (rows.length : Int)) = false := decide_eq_false (by omega)
      first
        | (have d3 : decide ((row.length : Int) < 1) = true := decide_eq_true (by omega)
           clear h6 h
           go_enter Try.func108, Try.ntmps108
           go_wp2_with (first | ((with_reducible refine gate_dst (N := 1) rfl ?_); refine box_event ?hg (N := 1) ?hd (cs := #[.slice (some ad) rows.length cap]) (t := 55) ?hr ?_; (case hd => rfl); (case hg => rfl); (case hr => first | (go_simp; done) | (go_simp; rfl)); intro gc hgc w1 hbox hb; have HGC := Aside0.mk hgc; have HBX := Aside0.mk hbox; have HB := Aside0.mk hb; have hc1 : w1.cell? ⟨gc, 0, none⟩ = some (.slice (some ad) rows.length cap) := (blk_cell hbox 0).trans rfl; clear hgc hbox; replace hx := pw_cell_below hb hx; clear hb))
           go_ret2
           exact ⟨HB.out, rfl⟩)
        | (have d3 : decide ((row.length : Int) < 1) = false := decide_eq_false (by omega)
           have d4 : decide ((6 : Int) < (row.length : Int)) = true := decide_eq_true (by omega)
           clear h6 h
           go_enter Try.func108, Try.ntmps108
           go_wp2_with (first | ((with_reducible refine gate_dst (N := 1) rfl ?_); refine box_event ?hg (N := 1) ?hd (cs := #[.slice (some ad) rows.length cap]) (t := 55) ?hr ?_; (case hd => rfl); (case hg => rfl); (case hr => first | (go_simp; done) | (go_simp; rfl)); intro gc hgc w1 hbox hb; have HGC := Aside0.mk hgc; have HBX := Aside0.mk hbox; have HB := Aside0.mk hb; have hc1 : w1.cell? ⟨gc, 0, none⟩ = some (.slice (some ad) rows.length cap) := (blk_cell hbox 0).trans rfl; clear hgc hbox; replace hx := pw_cell_below hb hx; clear hb))
           go_ret2
           exact ⟨HB.out, rfl⟩)
set_option maxHeartbeats 4000000 in
set_option maxRecDepth 100000 in
theorem settled_good (A : Option Addr) (cap : Nat) (rows : List (List Int)) (w : World) (hr : (Kd.slice 3 (Kd.int .i64)).C w A rows.length rows) (hv : ∀ r ∈ rows, ∀ x ∈ r, 0 ≤ x ∧ x ≤ 1048576) (h1 : 1 ≤ rows.length) (h6 : rows.length ≤ 6) (wd1 : 1 ≤ wideOf rows) (wd6 : wideOf rows ≤ 6) :
    Calls Try.prog 108 #[.slice A rows.length cap] w (FloorRes w (settledF rows)) := by
  have HR := Aside0.mk hr
  have HV := Aside0.mk hv
  clear hr hv
  obtain ⟨row, hrow⟩ : ∃ row, rows[0]? = some row := ⟨_, List.getElem?_eq_getElem (by omega)⟩
  obtain ⟨ad, Ai, ci, e1, hx, hl, hrr⟩ := C_row HR.out 0 row hrow
  have hwide : wideOf rows = row.length := by unfold wideOf; rw [List.getD_eq_getElem?_getD, hrow]; rfl
  rw [hwide] at wd1 wd6
  subst e1
  rw [Addr.add_zero'] at hx
  have HW := Aside0.mk hwide
  clear hrow hwide hrr hl
  generalize hres : settledF rows = res
  have HRes := Aside0.mk hres
  clear hres
  have d1 : decide ((rows.length : Int) < 1) = false := decide_eq_false (by omega)
  have d2 : decide ((6 : Int) < (rows.length : Int)) = false := decide_eq_false (by omega)
  have d3 : decide ((row.length : Int) < 1) = false := decide_eq_false (by omega)
  have d4 : decide ((6 : Int) < (row.length : Int)) = false := decide_eq_false (by omega)
  have hpos : (0 : Int) < (rows.length : Int) := by omega
  go_enter Try.func108, Try.ntmps108
  go_upto_region 4 with (first | ((with_reducible refine gate_dst (N := 1) rfl ?_); refine box_event ?hg (N := 1) ?hd (cs := #[.slice (some ad) rows.length cap]) (t := 55) ?hr ?_; (case hd => rfl); (case hg => rfl); (case hr => first | (go_simp; done) | (go_simp; rfl)); intro gc hgc w1 hbox hb; have HGC := Aside0.mk hgc; have HBX := Aside0.mk hbox; have HB := Aside0.mk hb; have hc1 : w1.cell? ⟨gc, 0, none⟩ = some (.slice (some ad) rows.length cap) := (blk_cell hbox 0).trans rfl; clear hgc hbox; replace hx := pw_cell_below hb hx; clear hb))
  have hg2 := heap_alloc_new w1 (.cells #[.int .i64 (row.length : Int)] 3)
  have hgc2 : (w1.alloc (.cells #[.int .i64 (row.length : Int)] 3)).heap[gc]? = some (.cells #[.slice (some ad) rows.length cap] 55 (0, 0)) := (Below.heap_alloc w1 _ gc (Array.getElem?_eq_some_iff.1 HBX.out).1).trans HBX.out
  have HB2 := Aside0.mk (below_alloc HB.out (.cells #[.int .i64 (row.length : Int)] 3))
  have HGE := Aside0.mk (show w.heap.size ≤ w1.heap.size from HB.out.size)
  have HGCE := Aside0.mk (show w.heap.size ≤ gc by rw [HGC.out]; exact Nat.le_refl _)
  clear hc1 HBX HB hx
  generalize w1.heap.size = gw at *
  generalize w1.alloc (.cells #[.int .i64 (row.length : Int)] 3) = w2 at *
  have hc2 : w2.cell? ⟨gc, 0, none⟩ = some (.slice (some ad) rows.length cap) := (blk_cell hgc2 0).trans rfl
  have HR2 := Aside0.mk (Kd.C_below HR.out HB2.out)
  have HP := Aside0.mk (settled1_pred w2 gw row.length ((blk_cell hg2 0).trans rfl) (by omega))
  have HGW2 := Aside0.mk hg2
  have HGC2 := Aside0.mk hgc2
  clear hg2 hgc2
  generalize hany : (rows.any fun r => r.length != row.length) = anyb
  have HA := Aside0.mk hany
  clear hany
  cases anyb
  · have hmm := @run_makeMap Try.prog
    go_upto_region 8 with (first | (go_at_call 74; refine (contains_calls 116 Try.f116 Try.func116 (by kernel_rfl) rfl #[.pointer (some ⟨gw, 0, none⟩)] (fun r => r.length != row.length) (some ad) cap rows w2 HR2.out HP.out).mono ?_; rintro e w3 ⟨rfl, hb3⟩; rw [HA.out]; have HB3 := Aside0.mk hb3; clear hb3))
    clear hmm
    -- the world behind what was made
    have hgf := heap_alloc_new w3 (.cells #[.slice none 0 0, .slice none 0 0] 58)
    have e1 : (w3.alloc (.cells #[.slice none 0 0, .slice none 0 0] 58)).heap.size = w3.heap.size + 1 := by simp
    have hgv := heap_alloc_new (w3.alloc (.cells #[.slice none 0 0, .slice none 0 0] 58)) (.cells #[.pointer (some ⟨w3.heap.size, 0, none⟩)] 52)
    rw [e1] at hgv
    have hbf := below_alloc (Below.refl w3.heap.size w3) (.cells #[.slice none 0 0, .slice none 0 0] 58)
    generalize w3.alloc (.cells #[.slice none 0 0, .slice none 0 0] 58) = wa at *
    have e2 : (wa.alloc (.cells #[.pointer (some ⟨w3.heap.size, 0, none⟩)] 52)).heap.size = w3.heap.size + 1 + 1 := by simp [e1]
    replace hgf := (Below.heap_alloc wa (.cells #[.pointer (some ⟨w3.heap.size, 0, none⟩)] 52) w3.heap.size (by omega)).trans hgf
    replace hbf := below_alloc hbf (.cells #[.pointer (some ⟨w3.heap.size, 0, none⟩)] 52)
    generalize wa.alloc (.cells #[.pointer (some ⟨w3.heap.size, 0, none⟩)] 52) = wb at *
    have hbm := IMap.made wb
    have e3 : (wb.alloc (.map #[] 0)).heap.size = w3.heap.size + 1 + 1 + 1 := by simp [e2]
    replace hgf := (Below.heap_alloc wb (.map #[] 0) w3.heap.size (by omega)).trans hgf
    replace hgv := (Below.heap_alloc wb (.map #[] 0) (w3.heap.size + 1) (by omega)).trans hgv
    replace hbf := below_alloc hbf (.map #[] 0)
    rw [e2] at hbm
    generalize wb.alloc (.map #[] 0) = wc at *
    have hgn := heap_alloc_new wc (.cells #[.map (some (w3.heap.size + 1 + 1))] 118)
    rw [e3] at hgn
    replace hgf := (Below.heap_alloc wc (.cells #[.map (some (w3.heap.size + 1 + 1))] 118) w3.heap.size (by omega)).trans hgf
    replace hgv := (Below.heap_alloc wc (.cells #[.map (some (w3.heap.size + 1 + 1))] 118) (w3.heap.size + 1) (by omega)).trans hgv
    replace hbm := hbm.move (W' := wc.alloc (.cells #[.map (some (w3.heap.size + 1 + 1))] 118)) (Below.heap_alloc wc _ _ (by omega))
    replace hbf := below_alloc hbf (.cells #[.map (some (w3.heap.size + 1 + 1))] 118)
    generalize wc.alloc (.cells #[.map (some (w3.heap.size + 1 + 1))] 118) = wz at *
    clear e1 e2 e3 wa wb wc
    have hs3 : w.heap.size ≤ w3.heap.size := Nat.le_trans HB2.out.size HB3.out.size
    have hgc3 := (hbf.block gc (Nat.lt_of_lt_of_le (Array.getElem?_eq_some_iff.1 HGC2.out).1 HB3.out.size)).trans ((HB3.out.block gc (Array.getElem?_eq_some_iff.1 HGC2.out).1).trans HGC2.out)
    have hgw3 := (hbf.block gw (Nat.lt_of_lt_of_le (Array.getElem?_eq_some_iff.1 HGW2.out).1 HB3.out.size)).trans ((HB3.out.block gw (Array.getElem?_eq_some_iff.1 HGW2.out).1).trans HGW2.out)
    have hgcl : gc < w3.heap.size := Nat.lt_of_lt_of_le (Array.getElem?_eq_some_iff.1 HGC2.out).1 HB3.out.size
    have hgwl : gw < w3.heap.size := Nat.lt_of_lt_of_le (Array.getElem?_eq_some_iff.1 HGW2.out).1 HB3.out.size
    have hgcw : gc ≠ gw := by
      rintro rfl
      have z := HGC2.out
      rw [HGW2.out] at z
      injection z with z
      injection z with _ z
      cases z
    have HBz := Aside0.mk (below_step (below_step HB2.out HB3.out) hbf)
    generalize w3.heap.size = gf at *
    have hgwE := HGE.out
    clear HB2 HB3 hbf HGC2 HGW2 HR2 HP hc2 w2 HGC w1
    have hG : GridIn w (some ad) rows rows.length row.length := ⟨HR.out, rfl, fun r hr => by
      have := HA.out
      rw [List.any_eq_false] at this
      have := this r hr
      simpa using this, by omega, by omega, by have : rows.length * row.length ≤ 6 * 6 := Nat.mul_le_mul h6 wd6; omega, HV.out⟩
    have hI0 : SInv w (gf + 1 + 1 + 1) gc (gf + 1) gf (gf + 1 + 1) (some ad) cap rows row.length (.slice none 0 0) 0 (fun k => k < w.heap.size ∨ k = gf + 1 + 1 + 1 ∨ k = gc ∨ k = gf + 1 ∨ k = gf ∨ k = gf + 1 + 1 ∨ some k = (Value.slice none 0 0).ownBlock) wz :=
      ⟨fun k hk => HBz.out.block k hk, HBz.out.size, hgn, hgc3, hgv, hgf, hbm, Kd.R_nil _ _ _ _ _, ⟨by omega, HGCE.out, by omega, hs3, by omega⟩, fun k => Iff.rfl⟩
    have HG := Aside0.mk hG
    have HI0 := Aside0.mk hI0
    have HGW := Aside0.mk hgw3
    have x1 : wz.drew.cell? ⟨gf + 1, 0, none⟩ = some (.pointer (some ⟨gf, 0, none⟩)) := (blk_cell (w := wz.drew) hgv 0).trans rfl
    have x2 : wz.drew.cell? ⟨gc, 0, none⟩ = some (.slice (some ad) rows.length cap) := (blk_cell (w := wz.drew) hgc3 0).trans rfl
    have x3 : wz.drew.cell? ⟨gw, 0, none⟩ = some (.int .i64 (row.length : Int)) := (blk_cell (w := wz.drew) hgw3 0).trans rfl
    clear hG hI0 hgf hgv hbm hgn hgc3 hgw3
    refine start_ (n := 9) (S := fun w' => w'.cell? ⟨gf + 1, 0, none⟩ = some (.pointer (some ⟨gf, 0, none⟩)) ∧ w'.cell? ⟨gc, 0, none⟩ = some (.slice (some ad) rows.length cap) ∧ w'.cell? ⟨gw, 0, none⟩ = some (.int .i64 (row.length : Int))) (ds := [8]) #[false, false, false, false, false, false, false, false, false] (by kernel_rfl) rfl rfl (⟨x1, x2, x3⟩) (fun hHeld => ?_)
    refine take_ (i := 0) (N := some 42) (v := ?_) (a' := ?_) #[true, false, false, false, false, false, false, false, false] rfl rfl (by kernel_rfl) (fun _ _ _ h => h) (Or.inl ⟨by rfl, ?_⟩) hHeld ?_ ?_
    rotate_left
    · rintro w' ⟨s0, s1, s2⟩
      go_simp
      with_reducible rfl
    rotate_left
    · simp only [Act.put, List.setIfInBounds_toArray, List.set_cons_zero, List.set_cons_succ, i64_w, i32_w]
      rfl
    refine take_ (i := 1) (N := some 43) (v := ?_) (a' := ?_) #[true, true, false, false, false, false, false, false, false] rfl rfl (by kernel_rfl) (fun _ _ _ h => h) (Or.inl ⟨by rfl, ?_⟩) hHeld ?_ ?_
    rotate_left
    · rintro w' ⟨s0, s1, s2⟩
      go_simp
      with_reducible rfl
    rotate_left
    · simp only [Act.put, List.setIfInBounds_toArray, List.set_cons_zero, List.set_cons_succ, i64_w, i32_w]
      rfl
    refine pure_ (i := 2) (N := some 44) (v := ?_) (a' := ?_) #[true, true, true, false, false, false, false, false, false] rfl rfl (by kernel_rfl) (fun _ _ _ h => h) (Or.inl ⟨by rfl, ?_⟩) ?_ ?_
    rotate_left
    · intro w'
      go_simp
      with_reducible rfl
    rotate_left
    · simp only [Act.put, List.setIfInBounds_toArray, List.set_cons_zero, List.set_cons_succ, i64_w, i32_w]
      rfl
    refine take_ (i := 3) (N := some 45) (v := ?_) (a' := ?_) #[true, true, true, true, false, false, false, false, false] rfl rfl (by kernel_rfl) (fun _ _ _ h => h) (Or.inl ⟨by rfl, ?_⟩) hHeld ?_ ?_
    rotate_left
    · rintro w' ⟨s0, s1, s2⟩
      go_simp
      with_reducible rfl
    rotate_left
    · simp only [Act.put, List.setIfInBounds_toArray, List.set_cons_zero, List.set_cons_succ, i64_w, i32_w]
      rfl
    refine pure_ (i := 4) (N := some 46) (v := ?_) (a' := ?_) #[true, true, true, true, true, false, false, false, false] rfl rfl (by kernel_rfl) (fun _ _ _ h => h) (Or.inl ⟨by rfl, ?_⟩) ?_ ?_
    rotate_left
    · intro w'
      go_simp
      with_reducible rfl
    rotate_left
    · simp only [Act.put, List.setIfInBounds_toArray, List.set_cons_zero, List.set_cons_succ, i64_w, i32_w]
      rfl
    refine one_ (i := 5) (N := some 47) #[true, true, true, true, true, true, false, false, false] rfl rfl (by kernel_rfl) (by decide) (fun K hK => ?_)
    refine goes_ Try.func75 (by kernel_rfl) rfl #[.int .i64 (rows.length : Int), .int .i64 (row.length : Int), .func (.func 117) #[] #[.pointer (some ⟨gf + 1 + 1 + 1, 0, none⟩), .pointer (some ⟨gc, 0, none⟩), .pointer (some ⟨gf + 1, 0, none⟩)]] (by rfl) rfl rfl (by (try simp only [List.map_toArray, List.map_cons, List.map_nil]); first | done | rfl) ?_
    refine (blank_calls 117 Try.f117 Try.func117 (by kernel_rfl) rfl _ rows.length row.length _ _ (settled2_cell w (gf + 1 + 1 + 1) gc (gf + 1) gf (gf + 1 + 1) (some ad) cap rows rows.length row.length HG.out) (fun k => k < w.heap.size ∨ k = gf + 1 + 1 + 1 ∨ k = gc ∨ k = gf + 1 ∨ k = gf ∨ k = gf + 1 + 1 ∨ some k = (Value.slice none 0 0).ownBlock) wz.drew ⟨_, HI0.out.move (Nat.le_refl _) (fun _ _ => rfl)⟩ (by omega) (by omega)).mono ?_
    rintro e w5 ⟨g0, bs, F5, rfl, hM, hfar, ⟨v5, hI5⟩, hF5, hO5⟩
    refine ⟨_, rfl, ?_⟩
    have hgwF : ¬ (gw < w.heap.size ∨ gw = gf + 1 + 1 + 1 ∨ gw = gc ∨ gw = gf + 1 ∨ gw = gf ∨ gw = gf + 1 + 1 ∨ some gw = (Value.slice none 0 0).ownBlock) := by
      have : (Value.slice none 0 0).ownBlock = none := rfl
      rw [this]
      simp only [reduceCtorEq, or_false]
      omega
    have hgw5 : w5.heap[gw]? = some (.cells #[.int .i64 (row.length : Int)] 3 (0, 0)) := (hO5.block gw (Array.getElem?_eq_some_iff.1 HGW.out).1 hgwF).trans HGW.out
    refine hK.out _ _ ⟨(blk_cell hI5.flo 0).trans rfl, (blk_cell hI5.cel 0).trans rfl, (blk_cell hgw5 0).trans rfl⟩ (fun hHeld => ?_)
    clear hK K hgwF hgw5
    refine norm_ (a' := ?_) ?_ ?_
    rotate_left
    · show Act.put _ (some 47) _ = _
      simp only [Act.put, List.setIfInBounds_toArray, List.set_cons_zero, List.set_cons_succ, i64_w, i32_w]
      rfl
    refine pure_ (i := 6) (N := some 48) (v := ?_) (a' := ?_) #[true, true, true, true, true, true, true, false, false] rfl rfl (by kernel_rfl) (fun _ _ _ h => h) (Or.inl ⟨by rfl, ?_⟩) ?_ ?_
    rotate_left
    · intro w'
      go_simp
      with_reducible rfl
    rotate_left
    · simp only [Act.put, List.setIfInBounds_toArray, List.set_cons_zero, List.set_cons_succ, i64_w, i32_w]
      rfl
    refine pure_ (i := 7) (N := some 49) (v := ?_) (a' := ?_) #[true, true, true, true, true, true, true, true, false] rfl rfl (by kernel_rfl) (fun _ _ _ h => h) (Or.inl ⟨by rfl, ?_⟩) ?_ ?_
    rotate_left
    · intro w'
      go_simp
      with_reducible rfl
    rotate_left
    · simp only [Act.put, List.setIfInBounds_toArray, List.set_cons_zero, List.set_cons_succ, i64_w, i32_w]
      rfl
    obtain ⟨A5, c5, ev5⟩ := Kd.R_slice hI5.row
    subst ev5
    have hq1 : w5.cell? ⟨gf, 0, none⟩ = some (.slice none 0 0) := (blk_cell hI5.str 0).trans rfl
    have hq2 : w5.frozen? ⟨gf, 0, none⟩ = false := blk_frozen hI5.str 0
    refine last_ (i := 8) (N := none) #[true, true, true, true, true, true, true, true, true] rfl rfl (by kernel_rfl) (by decide) (fun K hK => ?_)
    refine skip_step (by rfl) rfl (w1 := w5.setCell ⟨gf, 0, none⟩ (.slice (some ⟨g0, 0, none⟩) rows.length rows.length)) (by first | (go_simp; done) | (go_simp; rfl)) ?_
    refine hK.out _ _ ?_
    clear hK K hHeld hq1 hq2
    obtain ⟨B1, B2, B3, B4, B5⟩ := hI5.base
    have hFgf : F5 gf := (hI5.foot gf).2 (by simp)
    have hmat : ∀ k, k ∈ g0 :: bs → k ≠ gf := fun k hk e => (hfar k hk).2 (e ▸ hFgf)
    have hM6 := hM.move (W1 := w5.setCell ⟨gf, 0, none⟩ (.slice (some ⟨g0, 0, none⟩) rows.length rows.length)) (fun k hk => Below.heap_setCell _ _ _ _ (hmat k hk))
    have hR6 := R_setF hI5.row hI5.str (by decide) 0 (.slice (some ⟨g0, 0, none⟩) rows.length rows.length)
    have hstr6 : (w5.setCell ⟨gf, 0, none⟩ (.slice (some ⟨g0, 0, none⟩) rows.length rows.length)).heap[gf]? = some (.cells #[.slice (some ⟨g0, 0, none⟩) rows.length rows.length, .slice A5 (stAt rows row.length (rows.length * row.length)).2.length c5] 58 (0, 0)) := by
      simp only [World.setCell, Array.getElem?_modify, if_true]
      rw [hI5.str]
      simp
    have hflo6 : (w5.setCell ⟨gf, 0, none⟩ (.slice (some ⟨g0, 0, none⟩) rows.length rows.length)).heap[gf + 1]? = some (.cells #[.pointer (some ⟨gf, 0, none⟩)] 52 (0, 0)) := (Below.heap_setCell _ _ _ _ (show gf + 1 ≠ gf by omega)).trans hI5.flo
    have hB6 : Below w.heap.size w (w5.setCell ⟨gf, 0, none⟩ (.slice (some ⟨g0, 0, none⟩) rows.length rows.length)) := by
      refine below_set ⟨hO5.os.trans HBz.out.os, hO5.tape.trans HBz.out.tape, hO5.output.trans HBz.out.output, hI5.size, hI5.old⟩ ?_
      omega
    have hlenG := gridOf_length rows.length row.length (numAt rows row.length)
    have hcells : gridOf rows.length row.length (numAt rows row.length) = cellsOf rows := by unfold cellsOf; rw [HW.out]
    have hrooms : (stAt rows row.length (rows.length * row.length)).2 = roomsOf rows := by unfold roomsOf; rw [HW.out]
    rw [hcells] at hM6 hlenG
    rw [hrooms] at hR6 hstr6
    have hinv := stAt_inv rows rows.length row.length (rows.length * row.length) (Nat.le_refl _)
    rw [hrooms] at hinv
    have hbd := hinv.2.2.2
    have hcl : (Kd.slice 3 (Kd.int .i64)).C _ _ _ _ := hM6.reads (by rw [hlenG]; omega) (fun r hr => by
      unfold cellsOf gridOf at hr
      simp at hr
      obtain ⟨a, _, rfl⟩ := hr
      simp
      rw [HW.out]
      omega)
    generalize w5.setCell ⟨gf, 0, none⟩ (.slice (some ⟨g0, 0, none⟩) rows.length rows.length) = w6 at *
    have hfl : FloorAt w6 gf (cellsOf rows) (roomsOf rows) := ⟨some ⟨g0, 0, none⟩, rows.length, A5, c5, by rw [hlenG]; exact hstr6, by rw [hlenG]; exact hstr6, hcl, by
      obtain ⟨A', c', e', hl', hC'⟩ := Kd.R_reads hR6
      injection e' with e1 e2 e3
      subst e1
      exact hC'⟩
    have hrl : (roomsOf rows).length ≤ c5 := by
      obtain ⟨A', c', e', hl', hC'⟩ := Kd.R_reads hR6
      injection e' with e1 e2 e3
      subst e3
      exact hl'
    have HFl := Aside0.mk hfl
    have HR6 := Aside0.mk hR6
    have HB6 := Aside0.mk hB6
    have HBd := Aside0.mk hbd
    have HStr := Aside0.mk hstr6
    have HFlo := Aside0.mk hflo6
    have HGF := Aside0.mk (show w.heap.size ≤ gf from B4)
    clear hgwE HGE hI5 hO5 hM hM6 hR6 hF5 hfar hmat hFgf B1 B2 B3 B4 B5 hB6 hlenG hcells hrooms hinv hbd hcl hfl hstr6 hflo6 HI0 HGW HBz x1 x2 x3 hs3 hgcl hgwl hgcw HG HGCE
    generalize hRM : roomsOf rows = rms at *
    generalize hCM : cellsOf rows = cms at *
    have HRM := Aside0.mk hRM
    have HCM := Aside0.mk hCM
    clear hRM hCM
    have y1 : w6.cell? ⟨gf + 1, 0, none⟩ = some (.pointer (some ⟨gf, 0, none⟩)) := (blk_cell HFlo.out 0).trans rfl
    have y2 : w6.cell? ⟨gf, 1, none⟩ = some (.slice A5 rms.length c5) := (blk_cell HStr.out 1).trans rfl
    refine done_ (by kernel_rfl) ?_
    by_cases h9 : 9 < rms.length
    · have hnone : res = none := by
        rw [← HRes.out]
        unfold settledF
        split
        · rw [HRM.out, if_neg (by omega)]
        · rfl
      subst hnone
      have d9 : decide ((9 : Int) < (rms.length : Int)) = true := decide_eq_true (by omega)
      go_wp2
      go_ret2
      exact ⟨HB6.out, rfl⟩
    · have d9 : decide ((9 : Int) < (rms.length : Int)) = false := decide_eq_false (by omega)
      go_wp2
      have r1 : (rms.length : Int) ≤ 9 := by omega
      go_loopg [7, 61] rms.length (fun kq v7 v61 w' => ∃ i : Nat, v7 = .int .i64 (sumArea (rms.take i)) ∧ v61 = .int .i64 (i : Int) ∧ Aside0 (i + kq = rms.length) ∧ Aside0 (Below w6.heap.size w6 w'))
      case atStart => exact ⟨0, by simp [sumArea], rfl, ⟨by omega⟩, ⟨Below.refl _ _⟩⟩
      case round =>
        obtain ⟨i, rfl, rfl, HK, HB⟩ := hrel
        have hsb := sum_bound rms HBd.out h6 wd6 i (by have := HK.out; omega)
        by_cases hi : i < rms.length
        · obtain ⟨gr, cp, ev, hgr, hlt, cells, hcells⟩ := Kd.R_form HR6.out (by omega)
          injection ev with ea en ec
          subst ea
          clear en ec hcells hlt hgr
          obtain ⟨z0, z1, z2, z3⟩ := rc_cells HR6.out i hi
          replace z0 := pw_cell_below HB.out z0
          replace z1 := pw_cell_below HB.out z1
          replace z2 := pw_cell_below HB.out z2
          replace z3 := pw_cell_below HB.out z3
          have hmem : rms.getD i zeroR ∈ rms := by rw [List.getD_eq_getElem?_getD, List.getElem?_eq_getElem hi]; exact List.getElem_mem _
          have hab := area_bound (HBd.out _ hmem) h6 wd6
          have HS := Aside0.mk (sum_take rms i hi)
          have hlt : (i : Int) < (rms.length : Int) := by omega
          have hi0 : (0 : Int) ≤ i := by omega
          clear hmem
          generalize rms.getD i zeroR = a at *
          have harea : impl_rect_area.f a.f0 a.f1 a.f2 a.f3 = some (areaR a) := by
            unfold impl_rect_area.f areaR
            have : wrap64 (a.f2 * a.f3) = a.f2 * a.f3 := by
              have h3 := hab
              unfold areaR at h3
              unfold wrap64
              omega
            rw [this]
          have HAr := Aside0.mk harea
          clear harea
          generalize har : areaR a = ar at *
          have HARR := Aside0.mk har
          clear har
          generalize hsm : sumArea (rms.take i) = sm at *
          clear hsm
          go_wp2_with (first | (go_at_call 119; refine (impl_rect_area.calls a.f0 a.f1 a.f2 a.f3 ar _ HAr.out).mono ?_; rintro e w8 ⟨rfl, hb8⟩; have HB8 := Aside0.mk (below_step (below_alloc HB.out _) hb8); clear hb8))
          go_roundg (rms.length - (i + 1))
          case measure => have := HK.out; omega
          case rel => exact ⟨i + 1, by rw [HS.out], by first | rfl | (congr 1; omega), ⟨by have := HK.out; omega⟩, HB8⟩
        · have hge : ¬ (i : Int) < (rms.length : Int) := by omega
          obtain rfl : i = rms.length := by have := HK.out; omega
          have HB8 := Aside0.mk (below_step HB6.out HB.out)
          have hh : impl_floor_high.f cms rms = some (rows.length : Int) := by
            unfold impl_floor_high.f
            rw [← HCM.out, cellsOf_length]
          have hw : impl_floor_wide.f cms rms = some (row.length : Int) := by
            unfold impl_floor_wide.f
            rw [← HCM.out, cellsOf_length, cellsOf_wide rows h1, HW.out, if_pos (by omega)]
          have HH := Aside0.mk hh
          have HWd := Aside0.mk hw
          have HX := Aside0.mk (pw_cell_below HB.out y1)
          have HFl8 := Aside0.mk (HFl.out.below HB.out)
          rw [List.take_length]
          have hsum0 := sum_bound rms HBd.out h6 wd6 rms.length (Nat.le_refl _)
          rw [List.take_length] at hsum0
          have hmul : 0 ≤ (rows.length : Int) * (row.length : Int) ∧ (rows.length : Int) * (row.length : Int) ≤ 36 := by
            refine ⟨Int.mul_nonneg (by omega) (by omega), ?_⟩
            have := Int.mul_le_mul (show (rows.length : Int) ≤ 6 by omega) (show (row.length : Int) ≤ 6 by omega) (by omega) (by omega)
            omega
          have hwr : wrap64 ((rows.length : Int) * (row.length : Int)) = (rows.length : Int) * (row.length : Int) := by
            obtain ⟨q1, q2⟩ := hmul
            generalize (rows.length : Int) * (row.length : Int) = z at *
            unfold wrap64
            omega
          have hres : res = some (cms, rms, decide (sumArea rms = (rows.length : Int) * (row.length : Int))) := by
            rw [← HRes.out]
            unfold settledF
            rw [HRM.out, HCM.out, HW.out, if_pos, if_pos (by omega)]
            unfold shapeOk
            rw [HW.out, HA.out]
            simp [h1, h6, wd1, wd6]
          subst hres
          go_wp2
          refine start_ (n := 10) (S := fun w' => w'.cell? ⟨gf + 1, 0, none⟩ = some (.pointer (some ⟨gf, 0, none⟩)) ∧ FloorAt w' gf cms rms ∧ Below w.heap.size w w') (ds := []) #[false, false, false, false, false, false, false, false, false, false] (by kernel_rfl) rfl rfl (⟨HX.out, HFl8.out, ⟨HB8.out.os, HB8.out.tape, HB8.out.output, HB8.out.size, HB8.out.block⟩⟩) (fun hHeld => ?_)
          refine take_ (i := 0) (N := some 70) (v := ?_) (a' := ?_) #[true, false, false, false, false, false, false, false, false, false] rfl rfl (by kernel_rfl) (fun _ _ _ h => h) (Or.inl ⟨by rfl, ?_⟩) hHeld ?_ ?_
          rotate_left
          · rintro w' ⟨s0, s1, s2⟩
            go_simp
            with_reducible rfl
          rotate_left
          · simp only [Act.put, List.setIfInBounds_toArray, List.set_cons_zero, List.set_cons_succ, i64_w, i32_w]
            rfl
          refine pure_ (i := 1) (N := some 71) (v := ?_) (a' := ?_) #[true, true, false, false, false, false, false, false, false, false] rfl rfl (by kernel_rfl) (fun _ _ _ h => h) (Or.inl ⟨by rfl, ?_⟩) ?_ ?_
          rotate_left
          · intro w'
            go_simp
            with_reducible rfl
          rotate_left
          · simp only [Act.put, List.setIfInBounds_toArray, List.set_cons_zero, List.set_cons_succ, i64_w, i32_w]
            rfl
          refine take_ (i := 2) (N := some 72) (v := ?_) (a' := ?_) #[true, true, true, false, false, false, false, false, false, false] rfl rfl (by kernel_rfl) (fun _ _ _ h => h) (Or.inl ⟨by rfl, ?_⟩) hHeld ?_ ?_
          rotate_left
          · rintro w' ⟨s0, s1, s2⟩
            go_simp
            with_reducible rfl
          rotate_left
          · simp only [Act.put, List.setIfInBounds_toArray, List.set_cons_zero, List.set_cons_succ, i64_w, i32_w]
            rfl
          refine take_ (i := 4) (N := some 74) (v := ?_) (a' := ?_) #[true, true, true, false, true, false, false, false, false, false] rfl rfl (by kernel_rfl) (fun _ _ _ h => h) (Or.inl ⟨by rfl, ?_⟩) hHeld ?_ ?_
          rotate_left
          · rintro w' ⟨s0, s1, s2⟩
            go_simp
            with_reducible rfl
          rotate_left
          · simp only [Act.put, List.setIfInBounds_toArray, List.set_cons_zero, List.set_cons_succ, i64_w, i32_w]
            rfl
          refine one_ (i := 3) (N := some 73) #[true, true, true, true, true, false, false, false, false, false] rfl rfl (by kernel_rfl) (by decide) (fun K hK => ?_)
          refine goes_ Try.func52 (by kernel_rfl) rfl #[.pointer (some ⟨gf, 0, none⟩)] (by rfl) rfl rfl (by (try simp only [List.map_toArray, List.map_cons, List.map_nil]); first | done | rfl) ?_
          refine (impl_floor_high.calls gf cms rms _ wr.drew wr.drew HFl8.out (Below.refl _ _) HH.out).mono ?_
          rintro e w8 ⟨rfl, -, hb8, -⟩
          refine ⟨_, rfl, ?_⟩
          have HB9 := Aside0.mk (below_step (show Below w.heap.size w wr.drew from ⟨HB8.out.os, HB8.out.tape, HB8.out.output, HB8.out.size, HB8.out.block⟩) hb8)
          have HX9 := Aside0.mk (pw_cell_below hb8 (show wr.drew.cell? ⟨gf + 1, 0, none⟩ = _ from HX.out))
          have HFl9 := Aside0.mk (FloorAt.below (w := wr.drew) HFl8.out hb8)
          refine hK.out _ _ ⟨HX9.out, HFl9.out, HB9.out⟩ (fun hHeld => ?_)
          clear hK K
          refine norm_ (a' := ?_) ?_ ?_
          rotate_left
          · show Act.put _ (some 73) _ = _
            simp only [Act.put, List.setIfInBounds_toArray, List.set_cons_zero, List.set_cons_succ, i64_w, i32_w]
            rfl
          refine one_ (i := 5) (N := some 75) #[true, true, true, true, true, true, false, false, false, false] rfl rfl (by kernel_rfl) (by decide) (fun K hK => ?_)
          refine goes_ Try.func51 (by kernel_rfl) rfl #[.pointer (some ⟨gf, 0, none⟩)] (by rfl) rfl rfl (by (try simp only [List.map_toArray, List.map_cons, List.map_nil]); first | done | rfl) ?_
          refine (impl_floor_wide.calls gf cms rms _ w8 w8 HFl9.out (Below.refl _ _) HWd.out).mono ?_
          rintro e w10 ⟨rfl, -, hb10, -⟩
          refine ⟨_, rfl, ?_⟩
          have HB11 := Aside0.mk (below_step HB9.out hb10)
          have HX11 := Aside0.mk (pw_cell_below hb10 HX9.out)
          have HFl11 := Aside0.mk (HFl9.out.below hb10)
          refine hK.out _ _ ⟨HX11.out, HFl11.out, HB11.out⟩ (fun hHeld => ?_)
          clear hK K
          refine norm_ (a' := ?_) ?_ ?_
          rotate_left
          · show Act.put _ (some 75) _ = _
            simp only [Act.put, List.setIfInBounds_toArray, List.set_cons_zero, List.set_cons_succ, i64_w, i32_w]
            rfl
          refine pure_ (i := 6) (N := some 76) (v := ?_) (a' := ?_) #[true, true, true, true, true, true, true, false, false, false] rfl rfl (by kernel_rfl) (fun _ _ _ h => h) (Or.inl ⟨by rfl, ?_⟩) ?_ ?_
          rotate_left
          · intro w'
            go_simp
            with_reducible rfl
          rotate_left
          · simp only [Act.put, List.setIfInBounds_toArray, List.set_cons_zero, List.set_cons_succ, i64_w, i32_w]
            rfl
          refine pure_ (i := 7) (N := some 77) (v := ?_) (a' := ?_) #[true, true, true, true, true, true, true, true, false, false] rfl rfl (by kernel_rfl) (fun _ _ _ h => h) (Or.inl ⟨by rfl, ?_⟩) ?_ ?_
          rotate_left
          · intro w'
            go_simp
            with_reducible rfl
          rotate_left
          · simp only [Act.put, List.setIfInBounds_toArray, List.set_cons_zero, List.set_cons_succ, i64_w, i32_w]
            rfl
          refine pure_ (i := 8) (N := some 2) (v := ?_) (a' := ?_) #[true, true, true, true, true, true, true, true, true, false] rfl rfl (by kernel_rfl) (fun _ _ _ h => h) (Or.inl ⟨by rfl, ?_⟩) ?_ ?_
          rotate_left
          · intro w'
            go_simp
            with_reducible rfl
          rotate_left
          · simp only [Act.put, List.setIfInBounds_toArray, List.set_cons_zero, List.set_cons_succ, i64_w, i32_w]
            rfl
          refine pure_ (i := 9) (N := some 3) (v := ?_) (a' := ?_) #[true, true, true, true, true, true, true, true, true, true] rfl rfl (by kernel_rfl) (fun _ _ _ h => h) (Or.inl ⟨by rfl, ?_⟩) ?_ ?_
          rotate_left
          · intro w'
            go_simp
            with_reducible rfl
          rotate_left
          · simp only [Act.put, List.setIfInBounds_toArray, List.set_cons_zero, List.set_cons_succ, i64_w, i32_w]
            rfl
          refine done_ (by kernel_rfl) ?_
          go_wp2
          go_ret2
          refine ⟨HB11.out, gf, ?_, HFl11.out⟩
          refine congrArg (fun z => Ending.returned (Value.tuple #[Value.pointer (some ⟨gf, 0, none⟩), z])) ?_
          show Value.bool _ = Value.bool _
          refine congrArg Value.bool ?_
          rw [← hwr]
          first | rfl | (unfold wrap64; rfl)
  · have hnone : res = none := by
      rw [← HRes.out]
      unfold settledF
      rw [if_neg]
      unfold shapeOk
      rw [HW.out, HA.out]
      simp
    subst hnone
    go_wp2_with (first | (go_at_call 74; refine (contains_calls 116 Try.f116 Try.func116 (by kernel_rfl) rfl #[.pointer (some ⟨gw, 0, none⟩)] (fun r => r.length != row.length) (some ad) cap rows w2 HR2.out HP.out).mono ?_; rintro e w3 ⟨rfl, hb3⟩; rw [HA.out]; have HB3 := Aside0.mk hb3; clear hb3))
    go_ret2
    exact ⟨below_step HB2.out HB3.out, rfl⟩
theorem settled_calls (A : Option Addr) (cap : Nat) (rows : List (List Int)) (w : World) (hr : (Kd.slice 3 (Kd.int .i64)).C w A rows.length rows) (hv : ∀ r ∈ rows, ∀ x ∈ r, 0 ≤ x ∧ x ≤ 1048576) :
    Calls Try.prog 108 #[.slice A rows.length cap] w (FloorRes w (settledF rows)) := by
  by_cases hbad : rows.length < 1 ∨ 6 < rows.length ∨ (1 ≤ rows.length ∧ wideOf rows < 1) ∨ (1 ≤ rows.length ∧ 6 < wideOf rows)
  · have hn : settledF rows = none := by
      unfold settledF
      rw [if_neg]
      unfold shapeOk
      simp only [Bool.and_eq_true, decide_eq_true_eq]
      omega
    rw [hn]
    exact settled_bad A cap rows w hr hbad
  · exact settled_good A cap rows w hr hv (by omega) (by omega) (by omega) (by omega)
end Go.Proofs.Ytickdcegnlldjaa.Hd
namespace Go.Proofs.Ytickdcegnlldjaa.Hd
open Go.RowKit Go.Shelf Go.Proofs.YtickdcegnlldjaaW.PrintWords Go.Proofs.Ytickdcegnlldjaa.PB
def renB : Go.Shelf.Ren := ⟨fun | 167 => 109 | 240 => 120 | 276 => 124 | 169 => 110 | n => n, fun | 0 => 0 | 3 => 3 | 4 => 4 | 5 => 5 | 9 => 9 | 20 => 20 | 37 => 32 | 70 => 107 | 72 => 109 | 75 => 111 | 80 => 113 | 127 => 122 | 164 => 125 | n => n, fun n => n⟩
theorem lays167 : Lays.n167 Try.prog renB := { mixed := by kernel_rfl, f167 := Try.func109.trans (congrArg some (by kernel_rfl)), f240 := Try.func120.trans (congrArg some (by kernel_rfl)), f276 := Try.func124.trans (congrArg some (by kernel_rfl)), t0 := Try.underlying0, a0 := Try.isAgg0, z0 := Try.sizeOf0, v0 := Try.zeroValue0, t4 := Try.underlying4, a4 := Try.isAgg4, z4 := Try.sizeOf4, v4 := Try.zeroValue4, t5 := Try.underlying5, a5 := Try.isAgg5, z5 := Try.sizeOf5, v5 := Try.zeroValue5, t9 := Try.underlying9, a9 := Try.isAgg9, z9 := Try.sizeOf9, v9 := Try.zeroValue9, t20 := Try.underlying20, a20 := Try.isAgg20, z20 := Try.sizeOf20, v20 := Try.zeroValue20, t37 := Try.underlying32, a37 := Try.isAgg32, z37 := Try.sizeOf32, v37 := Try.zeroValue32, t70 := Try.underlying107, a70 := Try.isAgg107, z70 := Try.sizeOf107, v70 := Try.zeroValue107, t72 := Try.underlying109, a72 := Try.isAgg109, z72 := Try.sizeOf109, v72 := Try.zeroValue109, t75 := Try.underlying111, a75 := Try.isAgg111, z75 := Try.sizeOf111, v75 := Try.zeroValue111, t164 := Try.underlying125, a164 := Try.isAgg125, z164 := Try.sizeOf125, v164 := Try.zeroValue125 }
theorem lays169 : Lays.n169 Try.prog renB := { mixed := by kernel_rfl, f169 := Try.func110.trans (congrArg some (by kernel_rfl)), t0 := Try.underlying0, a0 := Try.isAgg0, z0 := Try.sizeOf0, v0 := Try.zeroValue0, t3 := Try.underlying3, a3 := Try.isAgg3, z3 := Try.sizeOf3, v3 := Try.zeroValue3, t9 := Try.underlying9, a9 := Try.isAgg9, z9 := Try.sizeOf9, v9 := Try.zeroValue9, t37 := Try.underlying32, a37 := Try.isAgg32, z37 := Try.sizeOf32, v37 := Try.zeroValue32, t70 := Try.underlying107, a70 := Try.isAgg107, z70 := Try.sizeOf107, v70 := Try.zeroValue107, t72 := Try.underlying109, a72 := Try.isAgg109, z72 := Try.sizeOf109, v72 := Try.zeroValue109, t127 := Try.underlying122, a127 := Try.isAgg122, z127 := Try.sizeOf122, v127 := Try.zeroValue122 }
theorem extraB : Builder.Extra Try.prog renB := { sizeBuilder := by kernel_rfl, liesBuilder := by kernel_rfl, t5 := Try.underlying5, a5 := Try.isAgg5, z5 := Try.sizeOf5, v5 := Try.zeroValue5, infoByte := by kernel_rfl, cellsByte := by kernel_rfl, sizeByte := by kernel_rfl, neB5 := by decide }
def Bd (b : Nat) (l : List UInt8) (w : World) : Prop := Lib.IsBuilder 109 5 b b (Lib.byteCells l) w
theorem writeByte_calls (b : Nat) (l : List UInt8) (c : UInt8) (w : World) (h : Bd b l w) (hlen : l.length + 1 ≤ 140737488355328) (hBw : b ≤ w.heap.size) :
  Calls Try.prog 109 #[.pointer (some ⟨b, 0, none⟩), .int .u8 c.toNat] w fun e w' => e = .returned .nilIface ∧ Bd b (l ++ [c]) w' ∧ Below b w w' := by
 refine (Any.Builder_WriteByte lays167 extraB b b (Lib.byteCells l) c.toNat w h (by simpa [Lib.byteCells] using hlen) hBw).mono ?_
 rintro e w' ⟨rfl, h1, h2⟩
 refine ⟨rfl, Or.inr ?_, h2⟩
 show Lib.BuilderAt (renB.t 72) (renB.t 5) b b (.pointer (some ⟨b, 0, none⟩)) (Lib.byteCells (l ++ [c])) w'
 simpa [Lib.byteCells] using h1
theorem bString_calls (b : Nat) (l : List UInt8) (w : World) (h : Bd b l w) (hBw : b ≤ w.heap.size) :
  Calls Try.prog 110 #[.pointer (some ⟨b, 0, none⟩)] w fun e w' => e = .returned (.string ⟨l.toArray⟩) ∧ Below b w w' :=
 Any.Builder_String_any lays169 extraB b b l w h hBw
end Go.Proofs.Ytickdcegnlldjaa.Hd
namespace Go.Proofs.Ytickdcegnlldjaa.Hd
open Go.RowKit Go.Proofs.YtickdcegnlldjaaW.PrintWords Go.Proofs.YtickdcegnlldjaaW.PrintLast Go.Proofs.YtickdcegnlldjaaW.PrintMore Go.Proofs.Ytickdcegnlldjaa.PB
def letterOf (k : Int) : UInt8 := UInt8.ofNat (97 + k).toNat
def rowBytes (row : List Int) : List UInt8 := row.map letterOf
def rowText (row : List Int) : ByteArray := ⟨(rowBytes row).toArray⟩
def textOf (cs : List (List Int)) : List ByteArray := cs.map rowText
def textPart (cs : List (List Int)) (i : Nat) : List ByteArray := (textOf cs).take i ++ List.replicate (cs.length - i) (⟨#[]⟩ : ByteArray)
theorem textPart_length (cs : List (List Int)) (i : Nat) (h : i ≤ cs.length) : (textPart cs i).length = cs.length := by
 simp [textPart, textOf]; omega
theorem textPart_all (cs : List (List Int)) : textPart cs cs.length = textOf cs := by
 simp [textPart, textOf, List.take_of_length_le]
theorem textPart_set (cs : List (List Int)) (i : Nat) (row : List Int) (h : cs[i]? = some row) : (textPart cs i).set i (rowText row) = textPart cs (i + 1) := by
 have hlt := (List.getElem?_eq_some_iff.1 h).1
 unfold textPart
 rw [List.set_append_right _ _ (by simp [textOf]; omega)]
 rw [show i - ((textOf cs).take i).length = 0 by simp [textOf]; omega]
 obtain ⟨m, hm⟩ : ∃ m, cs.length - i = m + 1 := ⟨cs.length - i - 1, by omega⟩
 rw [hm, List.replicate_succ, List.set_cons_zero, List.take_add_one, show cs.length - (i + 1) = m by omega]
 simp [textOf, h]
theorem letterOf_val (k : Int) (h0 : 0 ≤ k) (h1 : k ≤ 25) : ((letterOf k).toNat : Int) = 97 + k := by
 unfold letterOf
 rw [UInt8.toNat_ofNat']
 omega
theorem rowBytes_snoc (row : List Int) (i : Nat) (h : i < row.length) : rowBytes (row.take (i + 1)) = rowBytes (row.take i) ++ [letterOf (rd row i)] := by
 unfold rowBytes
 rw [List.take_add_one, List.map_append, List.getElem?_eq_getElem h]
 simp [rd, List.getD_eq_getElem?_getD, List.getElem?_eq_getElem h]
theorem C_int_cell {k : IntKind} {w : World} {A : Option Addr} {n : Nat} {l : List Int} (h : (Kd.int k).C w A n l) (i : Nat) (hi : i < n) : ∃ ad, A = some ad ∧ w.cell? (ad.add i) = some (.int k (rd l (i : Int))) := by
 obtain ⟨ad, c, e1, hc, hK, hx⟩ := Kd.C_get h (0 : Int) (i : Int) (by omega) (by omega)
 subst e1
 exact ⟨ad, rfl, by have := Kd.foot_int h (i : Int) (by omega) (by omega); simpa using this⟩
theorem Bd.new {w : World} {b : Nat} (h : w.heap[b]? = some (.cells #[.pointer none, .slice none 0 0] 109 (0, 0))) : Bd b [] w :=
 .inl ⟨Nat.le_refl _, .slice none 0 0, h, ⟨rfl, .inl ⟨rfl, rfl⟩⟩, by simp [Value.ownBlock]⟩
theorem Bd.lt {w : World} {b : Nat} {l : List UInt8} (h : Bd b l w) : b < w.heap.size := by
 rcases h with h | h
 ·exact Lib.BuilderAt.lt h
 ·exact Lib.BuilderAt.lt h
set_option maxHeartbeats 4000000 in
set_option maxRecDepth 100000 in
theorem text_calls (g : Nat) (cs : List (List Int)) (rs : List Rc) (w : World) (hI : FloorAt w g cs rs) (hl : cs.length ≤ 1048576) (hv : ∀ r ∈ cs, r.length ≤ 1048576 ∧ ∀ x ∈ r, 0 ≤ x ∧ x ≤ 25) :
  Calls Try.prog 92 #[.pointer (some ⟨g, 0, none⟩)] w fun e w' => ∃ v0_ : Value, e = .returned (v0_) ∧ Kd.R Kd.string 9 w' w.heap.size (fun _ => True) v0_ (textOf cs) ∧ Below w.heap.size w w' := by
 have HI := Aside0.mk hI
 have HV := Aside0.mk hv
 clear hv
 obtain ⟨A0, c0, A1, c1, HG, _, HS, _⟩ := hI
 have hcl := C_len HS
 have hcz := Try.underlying22
 have hc0 : w.cell? ⟨g, 0, none⟩ = some (.slice A0 cs.length c0) := (blk_cell HG 0).trans rfl
 have HSS := Aside0.mk HS
 have HGG := Aside0.mk HG
 have HH := Aside0.mk (show impl_floor_high.f cs rs = some (cs.length : Int) from rfl)
 clear HG HS hcl hcz
 have b1 : (cs.length : Int) ≤ 1048576 := by omega
 have b0 : (0 : Int) ≤ cs.length := by omega
 have i9 : (Try.prog.info? 9).map (fun i => (i.zero, i.size, i.bytes)) = some (some (.string ⟨#[]⟩), 1, 16) := by kernel_rfl
 have I9 := Aside0.mk i9
 clear i9
 go_enter Try.func92, Try.ntmps92
 go_wp2_with (first
  | (go_at_call 52; refine (impl_floor_high.calls g cs rs _ _ _ HI.out (Below.refl _ _) HH.out).mono ?_; rintro e w1 ⟨rfl, -, hb1, -⟩; have HB1 := Aside0.mk hb1; replace hc0 := pw_cell_below hb1 hc0; clear hb1)
  | ((with_reducible refine gate_dst (N := 11) rfl ?_); refine Kd.R_make Kd.string _ 9 rfl (N := 11) rfl 22 _ _ rfl (cs.length : Int) rfl rfl Try.underlying22 (.string ⟨#[]⟩) 16 I9.out rfl (by decide) (by omega) (⟨#[]⟩ : ByteArray) (ok := fun _ => True) (okp := fun _ => True) rfl (fun _ hk => hk) trivial b0 (by omega) (Below.refl _ _) (Nat.le_refl _) ?_; intro v2 w2 ho hb hg_ hnew_; clear hg_ hnew_; have HO2 := Aside0.mk (Kd.R_lower ho HB1.out.size); have HB2 := Aside0.mk (below_step HB1.out hb); replace hc0 := pw_cell_below hb hc0; clear hb ho))
 have hrep : List.replicate ((cs.length : Int)).toNat (⟨#[]⟩ : ByteArray) = textPart cs 0 := by simp [textPart]
 rw [hrep] at HO2
 clear hrep hc0
 go_loopg [17] cs.length (fun kq v17 w' => ∃ i : Nat, v17 = .int .i64 (i : Int) ∧ Aside0 (i + kq = cs.length) ∧ Aside0 (Kd.R Kd.string 9 w' w.heap.size (fun _ => True) v2 (textPart cs i)) ∧ Aside0 (Below w.heap.size w w'))
 case atStart => exact ⟨0, rfl, ⟨by omega⟩, HO2, HB2⟩
 case round =>
  clear HO2 HB2
  obtain ⟨i, rfl, HK, HO, HB⟩ := hrel
  by_cases hi : i < cs.length
  ·have hlt : (i : Int) < cs.length := by omega
   have hi0 : (0 : Int) ≤ i := by omega
   obtain ⟨row, hrow⟩ : ∃ row, cs[i]? = some row := ⟨_, List.getElem?_eq_getElem hi⟩
   have HRow := Aside0.mk hrow
   obtain ⟨ad, Ai, ci, e1, hx, hl, hrr⟩ := C_row HSS.out i row hrow
   have hvr := HV.out row (List.mem_of_getElem? hrow)
   obtain ⟨hrl, hvv⟩ := hvr
   have HVV := Aside0.mk hvv
   subst e1
   replace hx := pw_cell_below HB.out hx
   have HRR := Aside0.mk (Kd.C_below hrr HB.out)
   have hrl2 : (row.length : Int) ≤ 1048576 := by omega
   clear hrow hl hrr hvv
   obtain ⟨g3, c3, e3, b3, l3, cl3, hg3⟩ := Kd.R_form HO.out (by rw [textPart_length cs i (by omega)]; omega)
   rw [textPart_length cs i (by omega)] at e3
   subst e3
   have L3 := Aside0.mk l3
   have B3 := Aside0.mk b3
   clear hg3 l3 b3
   go_wp2_with (first
    | ((with_reducible refine gate_dst (N := 6) rfl ?_); refine box_event ?hg (N := 6) ?hd (cs := #[.pointer none, .slice none 0 0]) (t := 109) ?hr ?_; (case hd => rfl); (case hg => rfl); (case hr => first | (go_simp; done) | (go_simp; rfl)); intro b hgb w3 hbox hb; have HGB := Aside0.mk hgb; have HBd := Aside0.mk (Bd.new hbox); have HB3 := Aside0.mk hb; clear hgb hbox hb))
   have HO3 := Aside0.mk (Kd.R_below HO.out HB3.out)
   have HB3b := Aside0.mk (show Below b wr w3 from by rw [HGB.out]; exact HB3.out)
   clear hx
   go_loopg [24] row.length (fun kq v24 w' => ∃ j : Nat, v24 = .int .i64 (j : Int) ∧ Aside0 (j + kq = row.length) ∧ Aside0 (Bd b (rowBytes (row.take j)) w') ∧ Aside0 (Below b w3 w'))
   case atStart => exact ⟨0, rfl, ⟨by omega⟩, ⟨by simpa [rowBytes] using HBd.out⟩, ⟨Below.refl _ _⟩⟩
   case round =>
    clear HBd
    obtain ⟨j, rfl, HK2, HBd, HBb⟩ := hrel
    have HB9 := Aside0.mk (HB3b.out.trans HBb.out)
    by_cases hj : j < row.length
    ·have hlt2 : (j : Int) < row.length := by omega
     have hj0 : (0 : Int) ≤ j := by omega
     obtain ⟨ad2, e2, hx2⟩ := C_int_cell HRR.out j hj
     subst e2
     have hmem : rd row (j : Int) ∈ row := by
      unfold rd
      rw [Int.toNat_natCast, List.getD_eq_getElem?_getD, List.getElem?_eq_getElem hj]
      exact List.getElem_mem _
     obtain ⟨hv0, hv1⟩ := HVV.out _ hmem
     replace hx2 := pw_cell_below (show Below _ _ wr from by have := HB9.out; rw [HGB.out] at this; exact this) hx2
     have HRS := Aside0.mk (rowBytes_snoc row j hj)
     have hlet := letterOf_val (rd row (j : Int)) hv0 hv1
     generalize rd row (j : Int) = kk at *
     have HLet := Aside0.mk hlet
     clear hlet hmem
     go_wp2_with (first
      | (go_at_call 109; refine calls_of_args (args' := #[.pointer (some ⟨b, 0, none⟩), .int .u8 (letterOf kk).toNat]) (by rw [HLet.out]) ?_; refine (writeByte_calls b (rowBytes (row.take j)) (letterOf kk) _ HBd.out (by simp [rowBytes]; omega) (Nat.le_of_lt HBd.out.lt)).mono ?_; rintro e w8 ⟨rfl, hbd8, hb8⟩; have HBd8 := Aside0.mk hbd8; have HB8 := Aside0.mk (HBb.out.trans hb8); clear hb8 hbd8))
     go_roundg (row.length - (j + 1))
     case measure => have := HK2.out; omega
     case rel => exact ⟨j + 1, by first | rfl | (congr 1; omega), ⟨by have := HK2.out; omega⟩, ⟨by rw [HRS.out]; exact HBd8.out⟩, HB8⟩
    ·have hge2 : ¬ ((j : Int) < row.length) := by omega
     obtain rfl : j = row.length := by have := HK2.out; omega
     rw [List.take_length] at HBd
     go_wp2_with (first
      | (go_at_call 110; refine (bString_calls b (rowBytes row) _ HBd.out (Nat.le_of_lt HBd.out.lt)).mono ?_; rintro e w8 ⟨rfl, hb8⟩; have HB8 := Aside0.mk (HB9.out.trans hb8); rw [HGB.out] at HB8; have HO8 := Aside0.mk (Kd.R_below HO.out HB8.out); obtain ⟨hx8, hf8⟩ := Kd.R_celln (⟨#[]⟩ : ByteArray) HO8.out (i : Int) (by omega) (by omega); rw [Int.toNat_natCast] at hx8 hf8; have HP := Aside0.mk (Kd.R_putg HO8.out (i : Int) (rowText row)).1; clear hb8))
     go_roundg (cs.length - (i + 1))
     case measure => have := HK.out; omega
     case rel => exact ⟨i + 1, by first | rfl | (congr 1; omega), ⟨by have := HK.out; omega⟩, ⟨by have z := HP.out; rw [Int.toNat_natCast, textPart_set cs i row HRow.out] at z; exact z⟩, ⟨below_set (below_step HB.out HB8.out) B3.out⟩⟩
  ·have hge : ¬ ((i : Int) < cs.length) := by omega
   obtain rfl : i = cs.length := by have := HK.out; omega
   go_wp2
   go_ret
   exact ⟨_, rfl, by have := HO.out; rw [textPart_all] at this; exact this, HB.out⟩
end Go.Proofs.Ytickdcegnlldjaa.Hd
