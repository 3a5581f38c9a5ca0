/- Part 5 of the proof of FnExactWallSides: what the program's functions and the reference's compute. -/
import Derived.Shelf.Slices.CompactI
import Derived.Test.YtoijjkhdfooapaaProg
import Derived.Below
import Derived.Deep.Draws
import Derived.Deep.AppendLies
import Derived.Maps.AppendAt
import Derived.OwnWalk
import Derived.Laws.BytesArg
import Derived.Laws.MakeOwn
import Derived.Laws.OwnMore
import Derived.Deep.OwnRows
import Derived.Tactics
import Derived.Lib.ConvBytes
import Derived.Laws.Slices
import Derived.WalkKit
import Derived.KernelRfl
import Derived.RowKit3
import Derived.Deep.LoopGhost
import Derived.Deep.QuietTactic
import Derived.BigQuiet
import Derived.WideLaws
import Derived.Deep.DeepCutAuto
import Derived.Deep.CutBlock
import Derived.Deep.RegionHeld3
import Derived.Laws.Rows
import Derived.Lib.AppendStr
import Derived.ArgAppend
import Derived.Laws.IdiomCopy
import Derived.OrdersHeld
import Derived.Laws.BitsLemmas
import Derived.RowKit
import Derived.Test.YtoijjkhdfooapaaCSId
set_option linter.unusedSimpArgs false
set_option linter.unusedVariables false
namespace Go.Proofs.Ytoijjkhdfooapaa.PB
open Go.RowKit Go.PW.PrintWords Go.PW.PrintLast Go.PW.PrintMore
attribute [local go_sem] zbu zbs zcf zce zbm zbl zbt zbr   -- for this text's walks alone
def impl_floor_sides.f (s0_0 : List (List Int)) (s0_1 : List (S87)) (a1 : Bool) (a2 : Int) (a3 : Int) : Option (Int × Int) := if a1 = true then (if 0 ≤ (wrap64 (a2 - 1)) then (if (wrap64 (a2 - 1)) < (s0_0.length : Int) then (if 0 ≤ a3 then (if a3 < ((zbi s0_0 (wrap64 (a2 - 1))).length : Int) then (if 0 ≤ a2 then (if a2 < (s0_0.length : Int) then (if a3 < ((zbi s0_0 a2).length : Int) then (some (rd (zbi s0_0 (wrap64 (a2 - 1))) a3, rd (zbi s0_0 a2) a3)) else (none)) else (none)) else (none)) else (none)) else (none)) else (none)) else (none)) else (if 0 ≤ a3 then (if a3 < (s0_0.length : Int) then (if 0 ≤ (wrap64 (a2 - 1)) then (if (wrap64 (a2 - 1)) < ((zbi s0_0 a3).length : Int) then (if 0 ≤ a2 then (if a2 < ((zbi s0_0 a3).length : Int) then (some (rd (zbi s0_0 a3) (wrap64 (a2 - 1)), rd (zbi s0_0 a3) a2)) else (none)) else (none)) else (none)) else (none)) else (none)) else (none))
set_option maxHeartbeats 8000000 in
set_option maxRecDepth 100000 in
theorem impl_floor_sides.calls (g : Nat) (s0_0 : List (List Int)) (s0_1 : List (S87)) (a1 : Bool) (a2 : Int) (a3 : Int) (r1 : Int) (r2 : Int) (w0 w : World) (hI : zar w0 w g s0_0 s0_1) (hB : Below w0.heap.size w0 w) (h : impl_floor_sides.f s0_0 s0_1 a1 a2 a3 = some (r1, r2)) :
  Calls Try.prog 94 #[.pointer (some ⟨g, 0, none⟩), .bool a1, .int .i64 a2, .int .i64 a3] w fun e w' => e = .returned (.tuple #[.int .i64 r1, .int .i64 r2]) ∧ zar w0 w' g s0_0 s0_1 ∧ Below w0.heap.size w0 w' ∧ zau w w' g none := by
 have HI0 := zaa.mk hI
 have HK := zaa.mk (zau.refl w g none)
 have HL := zaa.mk hB.size
 clear hI
 have HW0 := zaa.mk hB.size
 have HB := zaa.mk hB
 clear hB
 have H : (if a1 = true then (if 0 ≤ (wrap64 (a2 - 1)) then (if (wrap64 (a2 - 1)) < (s0_0.length : Int) then (if 0 ≤ a3 then (if a3 < ((zbi s0_0 (wrap64 (a2 - 1))).length : Int) then (if 0 ≤ a2 then (if a2 < (s0_0.length : Int) then (if a3 < ((zbi s0_0 a2).length : Int) then (some (rd (zbi s0_0 (wrap64 (a2 - 1))) a3, rd (zbi s0_0 a2) a3)) else (none)) else (none)) else (none)) else (none)) else (none)) else (none)) else (none)) else (if 0 ≤ a3 then (if a3 < (s0_0.length : Int) then (if 0 ≤ (wrap64 (a2 - 1)) then (if (wrap64 (a2 - 1)) < ((zbi s0_0 a3).length : Int) then (if 0 ≤ a2 then (if a2 < ((zbi s0_0 a3).length : Int) then (some (rd (zbi s0_0 a3) (wrap64 (a2 - 1)), rd (zbi s0_0 a3) a2)) else (none)) else (none)) else (none)) else (none)) else (none)) else (none))) = some (r1, r2) := h
 clear h
 by_cases c5 : a1 = true
 ·subst c5
  have H1 : (if 0 ≤ (wrap64 (a2 - 1)) then (if (wrap64 (a2 - 1)) < (s0_0.length : Int) then (if 0 ≤ a3 then (if a3 < ((zbi s0_0 (wrap64 (a2 - 1))).length : Int) then (if 0 ≤ a2 then (if a2 < (s0_0.length : Int) then (if a3 < ((zbi s0_0 a2).length : Int) then (some (rd (zbi s0_0 (wrap64 (a2 - 1))) a3, rd (zbi s0_0 a2) a3)) else (none)) else (none)) else (none)) else (none)) else (none)) else (none)) else (none)) = some (r1, r2) := by rw [if_pos rfl] at H; exact H
  clear H
  have H := H1
  clear H1
  obtain ⟨ji6, hji6⟩ : ∃ j_ : Int, (wrap64 (a2 - 1)) = j_ := ⟨_, rfl⟩
  replace H : (if 0 ≤ (ji6) then (if (ji6) < (s0_0.length : Int) then (if 0 ≤ a3 then (if a3 < ((zbi s0_0 (ji6)).length : Int) then (if 0 ≤ a2 then (if a2 < (s0_0.length : Int) then (if a3 < ((zbi s0_0 a2).length : Int) then (some (rd (zbi s0_0 (ji6)) a3, rd (zbi s0_0 a2) a3)) else (none)) else (none)) else (none)) else (none)) else (none)) else (none)) else (none)) = some (r1, r2) := by first | (rw [hji6] at H; exact H) | (simp only [hji6] at H ⊢; exact H)
  have hji6w : (IntKind.i64.wrap (a2 - 1)) = ji6 := (zas _).trans hji6
  by_cases c7 : 0 ≤ (ji6)
  ·rw [if_pos c7] at H
   have c7b0 : decide (0 ≤ (ji6)) = true := decide_eq_true c7
   clear c7
   by_cases c8 : (ji6) < (s0_0.length : Int)
   ·rw [if_pos c8] at H
    have c8b0 : decide ((ji6) < (s0_0.length : Int)) = true := decide_eq_true c8
    clear c8
    by_cases c9 : 0 ≤ a3
    ·rw [if_pos c9] at H
     have c9b0 : decide (0 ≤ a3) = true := decide_eq_true c9
     clear c9
     by_cases c10 : a3 < ((zbi s0_0 (ji6)).length : Int)
     ·rw [if_pos c10] at H
      have c10b0 : decide (a3 < ((zbi s0_0 (ji6)).length : Int)) = true := decide_eq_true c10
      clear c10
      by_cases c11 : 0 ≤ a2
      ·rw [if_pos c11] at H
       have c11b0 : decide (0 ≤ a2) = true := decide_eq_true c11
       clear c11
       by_cases c12 : a2 < (s0_0.length : Int)
       ·rw [if_pos c12] at H
        have c12b0 : decide (a2 < (s0_0.length : Int)) = true := decide_eq_true c12
        clear c12
        by_cases c13 : a3 < ((zbi s0_0 a2).length : Int)
        ·rw [if_pos c13] at H
         have c13b0 : decide (a3 < ((zbi s0_0 a2).length : Int)) = true := decide_eq_true c13
         clear c13
         simp only [Option.some.injEq, Prod.mk.injEq] at H
         obtain ⟨rfl, rfl⟩ := H
         obtain ⟨ASz14_0, cSz14_0, ASz14_1, cSz14_1, HGz14, hgz14, HSz14_0, HSz14_1⟩ := HI0.out
         have hcz14_0 := cellS70_0 HGz14
         have hcz14_1 := cellS70_1 HGz14
         clear HGz14 hgz14
         have p258 : 0 ≤ ((ji6) : Int) := of_decide_eq_true (by first | (with_reducible assumption) | assumption)
         have q258 : (ji6) < (s0_0.length : Int) := of_decide_eq_true (by first | (with_reducible assumption) | assumption)
         obtain ⟨ad258, A258_0, c258_0, e258, hx258_0, hl258_0, hi258_0⟩ := at_L3 HSz14_0 (ji6) p258 q258
         cases e258
         replace hx258_0 := zal HB.out hx258_0
         have HR258_0 := zaa.mk hi258_0
         have HC258_0 := zaa.mk hl258_0
         clear hi258_0 hl258_0
         replace p258 := eq_true p258
         replace q258 := eq_true q258
         have p259 : 0 ≤ (a3 : Int) := of_decide_eq_true (by first | (with_reducible assumption) | assumption)
         have q259 : a3 < ((zbi s0_0 (ji6)).length : Int) := of_decide_eq_true (by first | (with_reducible assumption) | assumption)
         obtain ⟨ad259, e259, hx259_0⟩ := Kd.at_int HR258_0.out a3 p259 q259
         cases e259
         first | (replace hx259_0 := zal HB.out hx259_0) | (replace hx259_0 := keep_cell HK.out hx259_0 (by first | (rw [add_block]; exact hf258_0 _ rfl (by omega)) | exact hf258_0 _ rfl (by omega) | exact hf258_0 ad259 rfl (by omega)))
         replace p259 := eq_true p259
         replace q259 := eq_true q259
         have p260 : 0 ≤ (a2 : Int) := of_decide_eq_true (by first | (with_reducible assumption) | assumption)
         have q260 : a2 < (s0_0.length : Int) := of_decide_eq_true (by first | (with_reducible assumption) | assumption)
         obtain ⟨ad260, A260_0, c260_0, e260, hx260_0, hl260_0, hi260_0⟩ := at_L3 HSz14_0 a2 p260 q260
         obtain rfl : ad258 = ad260 := (by injection e260)
         replace hx260_0 := zal HB.out hx260_0
         have HR260_0 := zaa.mk hi260_0
         have HC260_0 := zaa.mk hl260_0
         clear hi260_0 hl260_0
         replace p260 := eq_true p260
         replace q260 := eq_true q260
         have p261 : 0 ≤ (a3 : Int) := of_decide_eq_true (by first | (with_reducible assumption) | assumption)
         have q261 : a3 < ((zbi s0_0 a2).length : Int) := of_decide_eq_true (by first | (with_reducible assumption) | assumption)
         obtain ⟨ad261, e261, hx261_0⟩ := Kd.at_int HR260_0.out a3 p261 q261
         cases e261
         first | (replace hx261_0 := zal HB.out hx261_0) | (replace hx261_0 := keep_cell HK.out hx261_0 (by first | (rw [add_block]; exact hf260_0 _ rfl (by omega)) | exact hf260_0 _ rfl (by omega) | exact hf260_0 ad261 rfl (by omega)))
         replace p261 := eq_true p261
         replace q261 := eq_true q261
         go_enter Try.func94, Try.ntmps94
         go_wp2
         repeat (go_quiet (fail); try go_wp2)
         go_ret2
         exact ⟨by first | rfl | (simp [zak, zaj] <;> rfl) | (simp only [← hji6]; first | rfl | (simp [zak, zaj] <;> rfl)) | (simp [*, zak, zaj] <;> rfl), by repeat (first | (with_reducible first | exact HI0.out | apply zar.alloc | apply zar.drewN | apply zar.drew) | exact HI0.out), by repeat (first | (with_reducible first | exact HB.out | apply zac | apply zab | apply zad | refine zao ?_ (zar.ge HI0.out)) | exact HB.out), by repeat (first | (with_reducible first | exact HK.out | apply zau.set_ | apply zbf | apply zbj | apply zbg) | exact HK.out)⟩
        ·rw [if_neg c13] at H
         exact absurd H (by simp)
       ·rw [if_neg c12] at H
        exact absurd H (by simp)
      ·rw [if_neg c11] at H
       exact absurd H (by simp)
     ·rw [if_neg c10] at H
      exact absurd H (by simp)
    ·rw [if_neg c9] at H
     exact absurd H (by simp)
   ·rw [if_neg c8] at H
    exact absurd H (by simp)
  ·rw [if_neg c7] at H
   exact absurd H (by simp)
 ·replace c5 := Bool.eq_false_iff.mpr c5
  subst c5
  have H1 : (if 0 ≤ a3 then (if a3 < (s0_0.length : Int) then (if 0 ≤ (wrap64 (a2 - 1)) then (if (wrap64 (a2 - 1)) < ((zbi s0_0 a3).length : Int) then (if 0 ≤ a2 then (if a2 < ((zbi s0_0 a3).length : Int) then (some (rd (zbi s0_0 a3) (wrap64 (a2 - 1)), rd (zbi s0_0 a3) a2)) else (none)) else (none)) else (none)) else (none)) else (none)) else (none)) = some (r1, r2) := by rw [if_neg (show ¬ (false = true) by decide)] at H; exact H
  clear H
  have H := H1
  clear H1
  by_cases c15 : 0 ≤ a3
  ·rw [if_pos c15] at H
   have c15b0 : decide (0 ≤ a3) = true := decide_eq_true c15
   clear c15
   by_cases c16 : a3 < (s0_0.length : Int)
   ·rw [if_pos c16] at H
    have c16b0 : decide (a3 < (s0_0.length : Int)) = true := decide_eq_true c16
    clear c16
    obtain ⟨ji17, hji17⟩ : ∃ j_ : Int, (wrap64 (a2 - 1)) = j_ := ⟨_, rfl⟩
    replace H : (if 0 ≤ (ji17) then (if (ji17) < ((zbi s0_0 a3).length : Int) then (if 0 ≤ a2 then (if a2 < ((zbi s0_0 a3).length : Int) then (some (rd (zbi s0_0 a3) (ji17), rd (zbi s0_0 a3) a2)) else (none)) else (none)) else (none)) else (none)) = some (r1, r2) := by first | (rw [hji17] at H; exact H) | (simp only [hji17] at H ⊢; exact H)
    have hji17w : (IntKind.i64.wrap (a2 - 1)) = ji17 := (zas _).trans hji17
    by_cases c18 : 0 ≤ (ji17)
    ·rw [if_pos c18] at H
     have c18b0 : decide (0 ≤ (ji17)) = true := decide_eq_true c18
     clear c18
     by_cases c19 : (ji17) < ((zbi s0_0 a3).length : Int)
     ·rw [if_pos c19] at H
      have c19b0 : decide ((ji17) < ((zbi s0_0 a3).length : Int)) = true := decide_eq_true c19
      clear c19
      by_cases c20 : 0 ≤ a2
      ·rw [if_pos c20] at H
       have c20b0 : decide (0 ≤ a2) = true := decide_eq_true c20
       clear c20
       by_cases c21 : a2 < ((zbi s0_0 a3).length : Int)
       ·rw [if_pos c21] at H
        have c21b0 : decide (a2 < ((zbi s0_0 a3).length : Int)) = true := decide_eq_true c21
        clear c21
        simp only [Option.some.injEq, Prod.mk.injEq] at H
        obtain ⟨rfl, rfl⟩ := H
        obtain ⟨ASz22_0, cSz22_0, ASz22_1, cSz22_1, HGz22, hgz22, HSz22_0, HSz22_1⟩ := HI0.out
        have hcz22_0 := cellS70_0 HGz22
        have hcz22_1 := cellS70_1 HGz22
        clear HGz22 hgz22
        have p262 : 0 ≤ (a3 : Int) := of_decide_eq_true (by first | (with_reducible assumption) | assumption)
        have q262 : a3 < (s0_0.length : Int) := of_decide_eq_true (by first | (with_reducible assumption) | assumption)
        obtain ⟨ad262, A262_0, c262_0, e262, hx262_0, hl262_0, hi262_0⟩ := at_L3 HSz22_0 a3 p262 q262
        cases e262
        replace hx262_0 := zal HB.out hx262_0
        have HR262_0 := zaa.mk hi262_0
        have HC262_0 := zaa.mk hl262_0
        clear hi262_0 hl262_0
        replace p262 := eq_true p262
        replace q262 := eq_true q262
        have p263 : 0 ≤ ((ji17) : Int) := of_decide_eq_true (by first | (with_reducible assumption) | assumption)
        have q263 : (ji17) < ((zbi s0_0 a3).length : Int) := of_decide_eq_true (by first | (with_reducible assumption) | assumption)
        obtain ⟨ad263, e263, hx263_0⟩ := Kd.at_int HR262_0.out (ji17) p263 q263
        cases e263
        first | (replace hx263_0 := zal HB.out hx263_0) | (replace hx263_0 := keep_cell HK.out hx263_0 (by first | (rw [add_block]; exact hf262_0 _ rfl (by omega)) | exact hf262_0 _ rfl (by omega) | exact hf262_0 ad263 rfl (by omega)))
        replace p263 := eq_true p263
        replace q263 := eq_true q263
        have p264 : 0 ≤ (a3 : Int) := of_decide_eq_true (by first | (with_reducible assumption) | assumption)
        have q264 : a3 < (s0_0.length : Int) := of_decide_eq_true (by first | (with_reducible assumption) | assumption)
        obtain ⟨ad264, A264_0, c264_0, e264, hx264_0, hl264_0, hi264_0⟩ := at_L3 HSz22_0 a3 p264 q264
        obtain rfl : ad262 = ad264 := (by injection e264)
        replace hx264_0 := zal HB.out hx264_0
        try (have e_ := Option.some.inj (hx262_0.symm.trans hx264_0); injection e_ with e1_ e2_ e3_; subst e1_; subst e3_)
        have HR264_0 := zaa.mk hi264_0
        have HC264_0 := zaa.mk hl264_0
        clear hi264_0 hl264_0
        replace p264 := eq_true p264
        replace q264 := eq_true q264
        have p265 : 0 ≤ (a2 : Int) := of_decide_eq_true (by first | (with_reducible assumption) | assumption)
        have q265 : a2 < ((zbi s0_0 a3).length : Int) := of_decide_eq_true (by first | (with_reducible assumption) | assumption)
        obtain ⟨ad265, e265, hx265_0⟩ := Kd.at_int HR264_0.out a2 p265 q265
        cases e265
        first | (replace hx265_0 := zal HB.out hx265_0) | (replace hx265_0 := keep_cell HK.out hx265_0 (by first | (rw [add_block]; exact hf264_0 _ rfl (by omega)) | exact hf264_0 _ rfl (by omega) | exact hf264_0 ad265 rfl (by omega)))
        replace p265 := eq_true p265
        replace q265 := eq_true q265
        go_enter Try.func94, Try.ntmps94
        go_wp2
        repeat (go_quiet (fail); try go_wp2)
        go_ret2
        exact ⟨by first | rfl | (simp [zak, zaj] <;> rfl) | (simp only [← hji17]; first | rfl | (simp [zak, zaj] <;> rfl)) | (simp [*, zak, zaj] <;> rfl), by repeat (first | (with_reducible first | exact HI0.out | apply zar.alloc | apply zar.drewN | apply zar.drew) | exact HI0.out), by repeat (first | (with_reducible first | exact HB.out | apply zac | apply zab | apply zad | refine zao ?_ (zar.ge HI0.out)) | exact HB.out), by repeat (first | (with_reducible first | exact HK.out | apply zau.set_ | apply zbf | apply zbj | apply zbg) | exact HK.out)⟩
       ·rw [if_neg c21] at H
        exact absurd H (by simp)
      ·rw [if_neg c20] at H
       exact absurd H (by simp)
     ·rw [if_neg c19] at H
      exact absurd H (by simp)
    ·rw [if_neg c18] at H
     exact absurd H (by simp)
   ·rw [if_neg c16] at H
    exact absurd H (by simp)
  ·rw [if_neg c15] at H
   exact absurd H (by simp)
def impl_floor_differ.f (s0_0 : List (List Int)) (s0_1 : List (S87)) (a1 : Bool) (a2 : Int) (a3 : Int) : Option (Bool) := (impl_floor_sides.f s0_0 s0_1 a1 a2 a3).bind fun bt266 => (some (bt266.1 != bt266.2))
set_option maxHeartbeats 8000000 in
set_option maxRecDepth 100000 in
theorem impl_floor_differ.calls (g : Nat) (s0_0 : List (List Int)) (s0_1 : List (S87)) (a1 : Bool) (a2 : Int) (a3 : Int) (r : Bool) (w0 w : World) (hI : zar w0 w g s0_0 s0_1) (hB : Below w0.heap.size w0 w) (h : impl_floor_differ.f s0_0 s0_1 a1 a2 a3 = some r) :
  Calls Try.prog 93 #[.pointer (some ⟨g, 0, none⟩), .bool a1, .int .i64 a2, .int .i64 a3] w fun e w' => e = .returned (.bool r) ∧ zar w0 w' g s0_0 s0_1 ∧ Below w0.heap.size w0 w' ∧ zau w w' g none := by
 have HI0 := zaa.mk hI
 have HK := zaa.mk (zau.refl w g none)
 have HL := zaa.mk hB.size
 clear hI
 have HW0 := zaa.mk hB.size
 have HB := zaa.mk hB
 clear hB
 have H : ((impl_floor_sides.f s0_0 s0_1 a1 a2 a3).bind fun bt266 => (some (bt266.1 != bt266.2))) = some r := h
 clear h
 replace H := Option.bind_eq_some_iff.mp H
 obtain ⟨⟨t266, t267⟩, A50, H⟩ := H
 replace H : (some (t266 != t267)) = some r := H
 have A5 := zaa.mk A50
 clear A50
 obtain rfl := Option.some.inj H
 go_enter Try.func93, Try.ntmps93
 go_wp2_with (first | ((with_reducible refine zai (f := 94) rfl ?_); refine zbc (some 16) rfl rfl Try.func94 (by kernel_rfl) rfl #[.pointer (some ⟨g, 0, none⟩), .bool a1, .int .i64 a2, .int .i64 a3] rfl (by (try simp only [List.map_toArray, List.map_cons, List.map_nil]); first | done | rfl | (simp only [List.length_drop, List.length_take]; rfl)) ?_; (with_reducible refine (impl_floor_sides.calls g s0_0 s0_1 a1 a2 a3 t266 t267 w0 _ ?side1 ?side2 A5.out).mono ?_); (case side1 => repeat (first | (with_reducible first | exact HI0.out | apply zar.alloc | apply zar.drewN | apply zar.drew) | exact HI0.out)); (case side2 => repeat (first | (with_reducible first | exact HB.out | apply zac | apply zab | apply zad | refine zao ?_ (zar.ge HI0.out)) | exact HB.out)); rintro e w6 ⟨rfl, hi, hb, hk⟩; refine ⟨_, rfl, ?_⟩; have n0_ := zaa.mk (zau.trans (by repeat (first | (with_reducible first | exact HK.out | apply zau.set_ | apply zbf | apply zbj | apply zbg) | exact HK.out)) hk (.inl rfl)); have n1_ := zaa.mk (hb); have n2_ := zaa.mk (hi); clear HK; clear HB; clear HI0; have HK := n0_; have HB := n1_; have HI0 := n2_; clear n0_ n1_ n2_; (try clear hb); (try clear hb2); (try clear hk); (try clear hi)))
 go_ret
 exact ⟨by first | rfl | (simp [zak, zaj] <;> rfl) | (simp [*, zak, zaj] <;> rfl), by repeat (first | (with_reducible first | exact HI0.out | apply zar.alloc | apply zar.drewN | apply zar.drew) | exact HI0.out), by repeat (first | (with_reducible first | exact HB.out | apply zac | apply zab | apply zad | refine zao ?_ (zar.ge HI0.out)) | exact HB.out), by repeat (first | (with_reducible first | exact HK.out | apply zau.set_ | apply zbf | apply zbj | apply zbg) | exact HK.out)⟩
end Go.Proofs.Ytoijjkhdfooapaa.PB
namespace Go.Proofs.Ytoijjkhdfooapaa.PB
open Go.RowKit Go.PW.PrintWords Go.PW.PrintLast Go.PW.PrintMore
attribute [local go_sem] zbu zbs zcf zce zbm zbl zbt zbr   -- for this text's walks alone
mutual
def impl_floor_walls.l0 : Nat → List (S60) → List Bool → Int → Int → List (List Int) → List (S87) → Option ((List (S60)))
 | 0, _, _, _, _, _, _ => none
 | k + 1, x3, x12, x13, x14, x1000, x1001 => if x14 < x13 then (if 0 ≤ x14 then (if x14 < (x12.length : Int) then ((impl_floor_wide.f x1000 x1001).bind fun t272 => ((impl_floor_high.f x1000 x1001).bind fun t273 => (if rdOf false x12 x14 = true then (impl_floor_walls.j1 k x3 (rdOf false x12 x14) t273 t272 x12 x13 x14 x1000 x1001) else (impl_floor_walls.j1 k x3 (rdOf false x12 x14) t272 t273 x12 x13 x14 x1000 x1001)))) else (none)) else (none)) else (some x3)
def impl_floor_walls.j1 : Nat → List (S60) → Bool → Int → Int → List Bool → Int → Int → List (List Int) → List (S87) → Option ((List (S60)))
 | 0, _, _, _, _, _, _, _, _, _ => none
 | k + 1, x3, x5, x6, x7, x12, x13, x14, x1000, x1001 => impl_floor_walls.l1 k x3 x5 x6 x7 1 x12 x13 x14 x1000 x1001
def impl_floor_walls.l1 : Nat → List (S60) → Bool → Int → Int → Int → List Bool → Int → Int → List (List Int) → List (S87) → Option ((List (S60)))
 | 0, _, _, _, _, _, _, _, _, _, _ => none
 | k + 1, x3, x5, x6, x7, x8, x12, x13, x14, x1000, x1001 => if x8 < x6 then (impl_floor_walls.l2 k x3 x5 x6 x7 x8 false x12 x13 x14 x7 0 x1000 x1001) else (impl_floor_walls.l0 k x3 x12 x13 (wrap64 (x14 + 1)) x1000 x1001)
def impl_floor_walls.l2 : Nat → List (S60) → Bool → Int → Int → Int → Bool → List Bool → Int → Int → Int → Int → List (List Int) → List (S87) → Option ((List (S60)))
 | 0, _, _, _, _, _, _, _, _, _, _, _, _, _ => none
 | k + 1, x3, x5, x6, x7, x8, x9, x12, x13, x14, x30, x31, x1000, x1001 => if x31 < x30 then ((impl_floor_differ.f x1000 x1001 x5 x8 x31).bind fun t274 => (if t274 = true then (impl_floor_walls.j4 k x3 x5 x6 x7 x8 x31 t274 x12 x13 x14 x30 x31 x9 x1000 x1001) else (impl_floor_walls.j4 k x3 x5 x6 x7 x8 x31 t274 x12 x13 x14 x30 x31 false x1000 x1001))) else (impl_floor_walls.l1 k x3 x5 x6 x7 (wrap64 (x8 + 1)) x12 x13 x14 x1000 x1001)
def impl_floor_walls.j4 : Nat → List (S60) → Bool → Int → Int → Int → Int → Bool → List Bool → Int → Int → Int → Int → Bool → List (List Int) → List (S87) → Option ((List (S60)))
 | 0, _, _, _, _, _, _, _, _, _, _, _, _, _, _, _ => none
 | k + 1, x3, x5, x6, x7, x8, x10, x11, x12, x13, x14, x30, x31, x39, x1000, x1001 => if x39 = true then (if 0 ≤ (wrap64 ((x3.length : Int) - 1)) then (if (wrap64 ((x3.length : Int) - 1)) < (x3.length : Int) then (impl_floor_walls.l2 k (x3.set ((wrap64 ((x3.length : Int) - 1)) : Int).toNat (⟨(zbw x3 (wrap64 ((x3.length : Int) - 1))).f0, (zbw x3 (wrap64 ((x3.length : Int) - 1))).f1, (zbw x3 (wrap64 ((x3.length : Int) - 1))).f2, wrap64 (((zbw x3 (wrap64 ((x3.length : Int) - 1))).f3) + 1)⟩ : S60)) x5 x6 x7 x8 x11 x12 x13 x14 x30 (wrap64 (x31 + 1)) x1000 x1001) else (none)) else (none)) else (if x11 = true then (if x3.length < 4398046511104 then (impl_floor_walls.l2 k (x3 ++ [(⟨x5, x8, x10, 1⟩ : S60)]) x5 x6 x7 x8 x11 x12 x13 x14 x30 (wrap64 (x31 + 1)) x1000 x1001) else (none)) else (impl_floor_walls.l2 k x3 x5 x6 x7 x8 x11 x12 x13 x14 x30 (wrap64 (x31 + 1)) x1000 x1001))
end
def impl_floor_walls.f (k : Nat) (s0_0 : List (List Int)) (s0_1 : List (S87)) : Option ((List (S60))) := (some (([false, true] : List Bool) : List Bool)).bind fun y268 => (impl_floor_walls.l0 k ([] : List (S60)) y268 (y268.length : Int) 0 s0_0 s0_1)
set_option maxHeartbeats 8000000 in
set_option maxRecDepth 100000 in
theorem impl_floor_walls.calls (k : Nat) (g : Nat) (s0_0 : List (List Int)) (s0_1 : List (S87)) (r : List (S60)) (w0 w : World) (hI : zar w0 w g s0_0 s0_1) (hB : Below w0.heap.size w0 w) (h : impl_floor_walls.f k s0_0 s0_1 = some r) :
  Calls Try.prog 57 #[.pointer (some ⟨g, 0, none⟩)] w fun e w' => ∃ v0_ : Value, e = .returned (v0_) ∧ Kd.R k60 60 w' w.heap.size (fun _ => True) v0_ r ∧ zar w0 w' g s0_0 s0_1 ∧ Below w0.heap.size w0 w' ∧ zau w w' g none := by
 have hu60 := Try.underlying60
 have HI0 := zaa.mk hI
 have HK := zaa.mk (zau.refl w g none)
 have HL := zaa.mk hB.size
 clear hI
 have HW0 := zaa.mk hB.size
 have HB := zaa.mk hB
 clear hB
 have H : ((some (([false, true] : List Bool) : List Bool)).bind fun y268 => (impl_floor_walls.l0 k ([] : List (S60)) y268 (y268.length : Int) 0 s0_0 s0_1)) = some r := h
 clear h
 obtain ⟨y268, hy268⟩ : ∃ y_ : List Bool, y_ = (([false, true] : List Bool)) := ⟨_, rfl⟩
 replace H : (impl_floor_walls.l0 k ([] : List (S60)) y268 (y268.length : Int) 0 s0_0 s0_1) = some r := by first | (rw [hy268]; with_reducible exact H) | (have H2_ := (Option.bind_some _ _).symm.trans H; rw [hy268]; with_reducible exact H2_) | (have H2_ := (Option.bind_some _ _).symm.trans H; with_reducible exact H2_) | with_reducible exact H | (rw [hy268]; exact H) | exact H
 have Ny268 := zaa.mk hy268
 clear hy268
 have H' := zaa.mk H
 clear H
 go_enter Try.func57, Try.ntmps57
 go_wp2_with (first | ((with_reducible refine zaw (N := 12) rfl ?_); refine Kd.R_lit Kd.bool _ 4 ?hg (N := 12) ?hd (xs := ([false, true] : List Bool)) (inner := [.bool false, .bool true]) (ok := fun _ => True) (okp := fun _ => True) ?hr ?hp (fun _ hk => hk) trivial (Below.refl _ _) (Nat.le_refl _) (by simp) ?_; (case hd => rfl); (case hg => rfl); (case hr => first | (go_simp; done) | (go_simp; rfl)); (case hp => exact (Reps.one (show Kd.M Kd.bool _ _ _ false [.bool false] from rfl) (Reps.one (show Kd.M Kd.bool _ _ _ true [.bool true] from rfl) (Reps.none _ _)))); intro v269 w2 ho3 hb hg_ hnew_; clear hg_ hnew_; (first | rw [← Ny268.out] at ho3 | (simp only [Int.reduceToNat] at ho3; rw [← Ny268.out] at ho3)); have n0_ := zaa.mk (Kd.R_lower ho3 (keep_size (w := w) (g := g) (row := none) (by repeat (first | (with_reducible first | exact HK.out | apply zau.set_ | apply zbf | apply zbj | apply zbg) | exact HK.out)))); have n1_ := zaa.mk (zar.below (by repeat (first | (with_reducible first | exact HI0.out | apply zar.alloc | apply zar.drewN | apply zar.drew) | exact HI0.out)) hb); have n2_ := zaa.mk (zau.trans (by repeat (first | (with_reducible first | exact HK.out | apply zau.set_ | apply zbf | apply zbj | apply zbg) | exact HK.out)) (zau.of_below hb g none) (.inl rfl)); have n3_ := zaa.mk (zag (by repeat (first | (with_reducible first | exact HB.out | apply zac | apply zab | apply zad | refine zao ?_ (zar.ge HI0.out)) | exact HB.out)) hb); clear HI0; clear HK; clear HB; have HO270 := n0_; have HI0 := n1_; have HK := n2_; have HB := n3_; clear n0_ n1_ n2_ n3_; clear hb ho3; obtain ⟨Ao4, co4, eo4⟩ := Kd.R_slice HO270.out; subst eo4))
 go_loopg [3, 14] k (fun kq v3 v14 w' => ∃ (x3_1 : List (S60)) (x14_1 : Int), v14 = .int .i64 x14_1 ∧ zaa (impl_floor_walls.l0 kq x3_1 y268 (y268.length : Int) x14_1 s0_0 s0_1 = some r) ∧ zaa (kq ≤ k) ∧ zaa (Kd.R k60 60 w' w.heap.size (fun _ => True) v3 x3_1) ∧ zaa (Kd.R Kd.bool 4 w' w.heap.size (fun _ => True) (.slice Ao4 y268.length co4) y268) ∧ zaa (zar w0 w' g s0_0 s0_1) ∧ zaa (zau w w' g none) ∧ zaa (Below w0.heap.size w0 w'))
 case atStart => exact ⟨(([] : List (S60))), (0), (by first | rfl | (simp; done) | (simp [*]; done)), H', ⟨Nat.le_refl _⟩, ⟨by first | exact Kd.R_nil _ _ _ _ _ | exact Kd.N_nil _ _ _ _ _ | exact Kd.V_nil _ _ _ _ _ | exact Kd.Q_nil _ _ _ _ _ | exact Kd.S_nil _ _ _ _ _⟩, ⟨by (with_reducible repeat (first | apply Kd.R_alloc | apply Kd.R_drewN | apply Kd.R_drew)); exact HO270.out⟩, ⟨by repeat (first | (with_reducible first | exact HI0.out | apply zar.alloc | apply zar.drewN | apply zar.drew) | exact HI0.out)⟩, ⟨by repeat (first | (with_reducible first | exact HK.out | apply zau.set_ | apply zbf | apply zbj | apply zbg) | exact HK.out)⟩, ⟨by repeat (first | (with_reducible first | exact HB.out | apply zac | apply zab | apply zad | refine zao ?_ (zar.ge HI0.out)) | exact HB.out)⟩⟩
 case round =>
  clear H'
  try clear p2
  obtain ⟨x3_1, x14_1, rfl, HA, HK1, HO_3, HO_12, HI0, HK, HB⟩ := hrel
  cases gk with
  | zero => exact absurd HA.out (by simp [impl_floor_walls.l0])
  | succ k1 =>
   have H := HA.out
   clear HA
   simp only [impl_floor_walls.l0] at H
   by_cases c5 : x14_1 < (y268.length : Int)
   ·rw [if_pos c5] at H
    have c5b0 : decide (x14_1 < (y268.length : Int)) = true := decide_eq_true c5
    clear c5
    by_cases c6 : 0 ≤ x14_1
    ·rw [if_pos c6] at H
     have c6b0 : decide (0 ≤ x14_1) = true := decide_eq_true c6
     clear c6
     by_cases c7 : x14_1 < (y268.length : Int)
     ·rw [if_pos c7] at H
      have c7b0 : decide (x14_1 < (y268.length : Int)) = true := decide_eq_true c7
      clear c7
      replace H := Option.bind_eq_some_iff.mp H
      obtain ⟨t272, A80, H⟩ := H
      replace H : ((impl_floor_high.f s0_0 s0_1).bind fun t273 => (if rdOf false y268 x14_1 = true then (impl_floor_walls.j1 k1 x3_1 (rdOf false y268 x14_1) t273 t272 y268 (y268.length : Int) x14_1 s0_0 s0_1) else (impl_floor_walls.j1 k1 x3_1 (rdOf false y268 x14_1) t272 t273 y268 (y268.length : Int) x14_1 s0_0 s0_1))) = some r := H
      have A8 := zaa.mk A80
      clear A80
      replace H := Option.bind_eq_some_iff.mp H
      obtain ⟨t273, A90, H⟩ := H
      replace H : (if rdOf false y268 x14_1 = true then (impl_floor_walls.j1 k1 x3_1 (rdOf false y268 x14_1) t273 t272 y268 (y268.length : Int) x14_1 s0_0 s0_1) else (impl_floor_walls.j1 k1 x3_1 (rdOf false y268 x14_1) t272 t273 y268 (y268.length : Int) x14_1 s0_0 s0_1)) = some r := H
      have A9 := zaa.mk A90
      clear A90
      have HC10 := zaa.mk H
      clear H
      have p271 : 0 ≤ (x14_1 : Int) := of_decide_eq_true (by first | (with_reducible assumption) | assumption)
      have q271 : x14_1 < (y268.length : Int) := of_decide_eq_true (by first | (with_reducible assumption) | assumption)
      obtain ⟨ad271, e271, hx271_0⟩ := Kd.at_bool (Kd.R_reads' HO_12.out).2.2 x14_1 p271 q271
      cases e271
      replace p271 := eq_true p271
      replace q271 := eq_true q271
      go_upto_if 22 with (first | ((with_reducible refine zai (f := 65) rfl ?_); refine zbc (some 19) rfl rfl Try.func65 (by kernel_rfl) rfl #[.pointer (some ⟨g, 0, none⟩)] rfl (by (try simp only [List.map_toArray, List.map_cons, List.map_nil]); first | done | rfl | (simp only [List.length_drop, List.length_take]; rfl)) ?_; (with_reducible refine (impl_floor_wide.calls g s0_0 s0_1 t272 w0 _ ?side1 ?side2 A8.out).mono ?_); (case side1 => repeat (first | (with_reducible first | exact HI0.out | apply zar.alloc | apply zar.drewN | apply zar.drew) | exact HI0.out)); (case side2 => repeat (first | (with_reducible first | exact HB.out | apply zac | apply zab | apply zad | refine zao ?_ (zar.ge HI0.out)) | exact HB.out)); rintro e w11 ⟨rfl, hi, hb, hk⟩; refine ⟨_, rfl, ?_⟩; have n0_ := zaa.mk (Kd.R_mono (Kd.R_keep (zar.apart (show zar w0 _ g s0_0 s0_1 from by repeat (first | (with_reducible first | exact HI0.out | apply zar.alloc | apply zar.drewN | apply zar.drew) | exact HI0.out)) (by (with_reducible repeat (first | apply Kd.R_alloc | apply Kd.R_drewN | apply Kd.R_drew)); exact HO_3.out) (by decide)) hk (fun _ h => h.2)) (fun _ h => h.1)); have n1_ := zaa.mk (Kd.R_mono (Kd.R_keep (zar.apart (show zar w0 _ g s0_0 s0_1 from by repeat (first | (with_reducible first | exact HI0.out | apply zar.alloc | apply zar.drewN | apply zar.drew) | exact HI0.out)) (by (with_reducible repeat (first | apply Kd.R_alloc | apply Kd.R_drewN | apply Kd.R_drew)); exact HO_12.out) (by decide)) hk (fun _ h => h.2)) (fun _ h => h.1)); have n2_ := zaa.mk (zau.trans (by repeat (first | (with_reducible first | exact HK.out | apply zau.set_ | apply zbf | apply zbj | apply zbg) | exact HK.out)) hk (.inl rfl)); have n3_ := zaa.mk (hb); have n4_ := zaa.mk (hi); clear HO_3; clear HO_12; clear HK; clear HB; clear HI0; have HO_3 := n0_; have HO_12 := n1_; have HK := n2_; have HB := n3_; have HI0 := n4_; clear n0_ n1_ n2_ n3_ n4_; (try clear hb); (try clear hb2); (try clear hk); (try clear hi)) | ((with_reducible refine zai (f := 66) rfl ?_); refine zbc (some 21) rfl rfl Try.func66 (by kernel_rfl) rfl #[.pointer (some ⟨g, 0, none⟩)] rfl (by (try simp only [List.map_toArray, List.map_cons, List.map_nil]); first | done | rfl | (simp only [List.length_drop, List.length_take]; rfl)) ?_; (with_reducible refine (impl_floor_high.calls g s0_0 s0_1 t273 w0 _ ?side1 ?side2 A9.out).mono ?_); (case side1 => repeat (first | (with_reducible first | exact HI0.out | apply zar.alloc | apply zar.drewN | apply zar.drew) | exact HI0.out)); (case side2 => repeat (first | (with_reducible first | exact HB.out | apply zac | apply zab | apply zad | refine zao ?_ (zar.ge HI0.out)) | exact HB.out)); rintro e w12 ⟨rfl, hi, hb, hk⟩; refine ⟨_, rfl, ?_⟩; have n0_ := zaa.mk (Kd.R_mono (Kd.R_keep (zar.apart (show zar w0 _ g s0_0 s0_1 from by repeat (first | (with_reducible first | exact HI0.out | apply zar.alloc | apply zar.drewN | apply zar.drew) | exact HI0.out)) (by (with_reducible repeat (first | apply Kd.R_alloc | apply Kd.R_drewN | apply Kd.R_drew)); exact HO_3.out) (by decide)) hk (fun _ h => h.2)) (fun _ h => h.1)); have n1_ := zaa.mk (Kd.R_mono (Kd.R_keep (zar.apart (show zar w0 _ g s0_0 s0_1 from by repeat (first | (with_reducible first | exact HI0.out | apply zar.alloc | apply zar.drewN | apply zar.drew) | exact HI0.out)) (by (with_reducible repeat (first | apply Kd.R_alloc | apply Kd.R_drewN | apply Kd.R_drew)); exact HO_12.out) (by decide)) hk (fun _ h => h.2)) (fun _ h => h.1)); have n2_ := zaa.mk (zau.trans (by repeat (first | (with_reducible first | exact HK.out | apply zau.set_ | apply zbf | apply zbj | apply zbg) | exact HK.out)) hk (.inl rfl)); have n3_ := zaa.mk (hb); have n4_ := zaa.mk (hi); clear HO_3; clear HO_12; clear HK; clear HB; clear HI0; have HO_3 := n0_; have HO_12 := n1_; have HK := n2_; have HB := n3_; have HI0 := n4_; clear n0_ n1_ n2_ n3_ n4_; (try clear hb); (try clear hb2); (try clear hk); (try clear hi)))
      (try simp only [Act.put, List.setIfInBounds_toArray, List.set_cons_zero, List.set_cons_succ])
      obtain ⟨lv_, hlv_⟩ : ∃ b_ : Bool, b_ = (rdOf false y268 x14_1) := ⟨_, rfl⟩
      rw [← hlv_]
      have Hlv_ := zaa.mk hlv_
      clear hlv_
      go_cut [6, 7] (fun v6 v7 wc => ∃ (kq : Nat) (x6_9 : Int) (x7_9 : Int), v6 = .int .i64 x6_9 ∧ v7 = .int .i64 x7_9 ∧ zaa (impl_floor_walls.j1 kq x3_1 lv_ x6_9 x7_9 y268 (y268.length : Int) x14_1 s0_0 s0_1 = some r) ∧ zaa (kq ≤ k1) ∧ zaa (Kd.R k60 60 wc w.heap.size (fun _ => True) u3 x3_1) ∧ zaa (Kd.R Kd.bool 4 wc w.heap.size (fun _ => True) (.slice (some ad271) y268.length co4) y268) ∧ zaa (zar w0 wc g s0_0 s0_1) ∧ zaa (zau w wc g none) ∧ zaa (Below w0.heap.size w0 wc))
      case first =>
       have H := HC10.out
       clear HC10
       obtain ⟨bq13, hbq13⟩ : ∃ b_ : Bool, b_ = (rdOf false y268 x14_1) := ⟨_, rfl⟩
       replace H : (if bq13 = true then (impl_floor_walls.j1 k1 x3_1 bq13 t273 t272 y268 (y268.length : Int) x14_1 s0_0 s0_1) else (impl_floor_walls.j1 k1 x3_1 bq13 t272 t273 y268 (y268.length : Int) x14_1 s0_0 s0_1)) = some r := by rw [← hbq13] at H; exact H
       have Nbq13 := zaa.mk hbq13
       clear hbq13
       obtain rfl : bq13 = lv_ := Nbq13.out.trans Hlv_.out.symm
       by_cases c14 : bq13 = true
       ·subst c14
        have H1 : (impl_floor_walls.j1 k1 x3_1 true t273 t272 y268 (y268.length : Int) x14_1 s0_0 s0_1) = some r := by rw [if_pos rfl] at H; exact H
        clear H
        have H := H1
        clear H1
        have H' := zaa.mk H
        clear H
        go_wp2
        go_meet
        case rel => exact ⟨_, (t273), (t272), (by first | rfl | (simp; done) | (simp [*]; done)), (by first | rfl | (simp; done) | (simp [*]; done)), H', ⟨by have := HK1.out; first | omega | exact Nat.le_refl _⟩, ⟨by (with_reducible repeat (first | apply Kd.R_alloc | apply Kd.R_drewN | apply Kd.R_drew)); exact HO_3.out⟩, ⟨by (with_reducible repeat (first | apply Kd.R_alloc | apply Kd.R_drewN | apply Kd.R_drew)); exact HO_12.out⟩, ⟨by repeat (first | (with_reducible first | exact HI0.out | apply zar.alloc | apply zar.drewN | apply zar.drew) | exact HI0.out)⟩, ⟨by repeat (first | (with_reducible first | exact HK.out | apply zau.set_ | apply zbf | apply zbj | apply zbg) | exact HK.out)⟩, ⟨by repeat (first | (with_reducible first | exact HB.out | apply zac | apply zab | apply zad | refine zao ?_ (zar.ge HI0.out)) | exact HB.out)⟩⟩
       ·replace c14 := Bool.eq_false_iff.mpr c14
        subst c14
        have H1 : (impl_floor_walls.j1 k1 x3_1 false t272 t273 y268 (y268.length : Int) x14_1 s0_0 s0_1) = some r := by rw [if_neg (show ¬ (false = true) by decide)] at H; exact H
        clear H
        have H := H1
        clear H1
        have H' := zaa.mk H
        clear H
        go_wp2
        go_meet
        case rel => exact ⟨_, (t272), (t273), (by first | rfl | (simp; done) | (simp [*]; done)), (by first | rfl | (simp; done) | (simp [*]; done)), H', ⟨by have := HK1.out; first | omega | exact Nat.le_refl _⟩, ⟨by (with_reducible repeat (first | apply Kd.R_alloc | apply Kd.R_drewN | apply Kd.R_drew)); exact HO_3.out⟩, ⟨by (with_reducible repeat (first | apply Kd.R_alloc | apply Kd.R_drewN | apply Kd.R_drew)); exact HO_12.out⟩, ⟨by repeat (first | (with_reducible first | exact HI0.out | apply zar.alloc | apply zar.drewN | apply zar.drew) | exact HI0.out)⟩, ⟨by repeat (first | (with_reducible first | exact HK.out | apply zau.set_ | apply zbf | apply zbj | apply zbg) | exact HK.out)⟩, ⟨by repeat (first | (with_reducible first | exact HB.out | apply zac | apply zab | apply zad | refine zao ?_ (zar.ge HI0.out)) | exact HB.out)⟩⟩
      case rest =>
       have hlv_ := Hlv_.out
       clear Hlv_
       subst hlv_
       clear HC10
       try clear c1
       try clear q1
       try clear p2
       try clear q2
       try clear hx2
       try clear c5
       try clear c5b0
       try clear c6
       try clear c6b0
       try clear c7
       try clear c7b0
       try clear q13
       try clear c14
       try clear hx271_0
       try clear p2
       try clear p271
       try clear q271
       obtain ⟨kq, x6_9, x7_9, rfl, rfl, HA, HJ9, HO_3, HO_12, HI0, HK, HB⟩ := hcut
       cases kq with
       | zero => exact absurd HA.out (by simp [impl_floor_walls.j1])
       | succ kj9 =>
        have H := HA.out
        clear HA
        simp only [impl_floor_walls.j1] at H
        have H' := zaa.mk H
        clear H
        go_wp2
        go_loopg [3, 8] kj9 (fun kq v3 v8 w' => ∃ (x3_3 : List (S60)) (x8_3 : Int), v8 = .int .i64 x8_3 ∧ zaa (impl_floor_walls.l1 kq x3_3 (rdOf false y268 x14_1) x6_9 x7_9 x8_3 y268 (y268.length : Int) x14_1 s0_0 s0_1 = some r) ∧ zaa (kq ≤ kj9) ∧ zaa (Kd.R k60 60 w' w.heap.size (fun _ => True) v3 x3_3) ∧ zaa (Kd.R Kd.bool 4 w' w.heap.size (fun _ => True) (.slice (some ad271) y268.length co4) y268) ∧ zaa (zar w0 w' g s0_0 s0_1) ∧ zaa (zau w w' g none) ∧ zaa (Below w0.heap.size w0 w'))
        case atStart => exact ⟨(x3_1), (1), (by first | rfl | (simp; done) | (simp [*]; done)), H', ⟨Nat.le_refl _⟩, ⟨by (with_reducible repeat (first | apply Kd.R_alloc | apply Kd.R_drewN | apply Kd.R_drew)); exact HO_3.out⟩, ⟨by (with_reducible repeat (first | apply Kd.R_alloc | apply Kd.R_drewN | apply Kd.R_drew)); exact HO_12.out⟩, ⟨by repeat (first | (with_reducible first | exact HI0.out | apply zar.alloc | apply zar.drewN | apply zar.drew) | exact HI0.out)⟩, ⟨by repeat (first | (with_reducible first | exact HK.out | apply zau.set_ | apply zbf | apply zbj | apply zbg) | exact HK.out)⟩, ⟨by repeat (first | (with_reducible first | exact HB.out | apply zac | apply zab | apply zad | refine zao ?_ (zar.ge HI0.out)) | exact HB.out)⟩⟩
        case round =>
         clear H'
         try clear c1
         try clear q1
         try clear p2
         try clear q2
         try clear hx2
         try clear c5
         try clear c5b0
         try clear c6
         try clear c6b0
         try clear c7
         try clear c7b0
         try clear q13
         try clear c14
         try clear hx271_0
         try clear p2
         try clear p271
         try clear q1
         try clear q13
         try clear q2
         try clear q271
         obtain ⟨x3_3, x8_3, rfl, HA, HK3, HO_3, HO_12, HI0, HK, HB⟩ := hrel
         cases gk with
         | zero => exact absurd HA.out (by simp [impl_floor_walls.l1])
         | succ k3 =>
          have H := HA.out
          clear HA
          simp only [impl_floor_walls.l1] at H
          by_cases c15 : x8_3 < x6_9
          ·rw [if_pos c15] at H
           have c15b0 : decide (x8_3 < x6_9) = true := decide_eq_true c15
           clear c15
           have H' := zaa.mk H
           clear H
           go_wp2
           go_loopg [3, 9, 31] k3 (fun kq v3 v9 v31 w' => ∃ (x3_4 : List (S60)) (x9_4 : Bool) (x31_4 : Int), v9 = .bool x9_4 ∧ v31 = .int .i64 x31_4 ∧ zaa (impl_floor_walls.l2 kq x3_4 (rdOf false y268 x14_1) x6_9 x7_9 x8_3 x9_4 y268 (y268.length : Int) x14_1 x7_9 x31_4 s0_0 s0_1 = some r) ∧ zaa (kq ≤ k3) ∧ zaa (Kd.R k60 60 w' w.heap.size (fun _ => True) v3 x3_4) ∧ zaa (Kd.R Kd.bool 4 w' w.heap.size (fun _ => True) (.slice (some ad271) y268.length co4) y268) ∧ zaa (zar w0 w' g s0_0 s0_1) ∧ zaa (zau w w' g none) ∧ zaa (Below w0.heap.size w0 w'))
           case atStart => exact ⟨(x3_3), (false), (0), (by first | rfl | (simp; done) | (simp [*]; done)), (by first | rfl | (simp; done) | (simp [*]; done)), H', ⟨Nat.le_refl _⟩, ⟨by (with_reducible repeat (first | apply Kd.R_alloc | apply Kd.R_drewN | apply Kd.R_drew)); exact HO_3.out⟩, ⟨by (with_reducible repeat (first | apply Kd.R_alloc | apply Kd.R_drewN | apply Kd.R_drew)); exact HO_12.out⟩, ⟨by repeat (first | (with_reducible first | exact HI0.out | apply zar.alloc | apply zar.drewN | apply zar.drew) | exact HI0.out)⟩, ⟨by repeat (first | (with_reducible first | exact HK.out | apply zau.set_ | apply zbf | apply zbj | apply zbg) | exact HK.out)⟩, ⟨by repeat (first | (with_reducible first | exact HB.out | apply zac | apply zab | apply zad | refine zao ?_ (zar.ge HI0.out)) | exact HB.out)⟩⟩
           case round =>
            clear H'
            try clear c1
            try clear q1
            try clear p2
            try clear q2
            try clear hx2
            try clear c5
            try clear c5b0
            try clear c6
            try clear c6b0
            try clear c7
            try clear c7b0
            try clear q13
            try clear c14
            try clear c15
            try clear c15b0
            try clear hx271_0
            try clear p2
            try clear p271
            try clear q1
            try clear q13
            try clear q2
            try clear q271
            obtain ⟨x3_4, x9_4, x31_4, rfl, rfl, HA, HK4, HO_3, HO_12, HI0, HK, HB⟩ := hrel
            cases gk with
            | zero => exact absurd HA.out (by simp [impl_floor_walls.l2])
            | succ k4 =>
             have H := HA.out
             clear HA
             simp only [impl_floor_walls.l2] at H
             by_cases c16 : x31_4 < x7_9
             ·rw [if_pos c16] at H
              have c16b0 : decide (x31_4 < x7_9) = true := decide_eq_true c16
              clear c16
              replace H := Option.bind_eq_some_iff.mp H
              obtain ⟨t274, A170, H⟩ := H
              replace H : (if t274 = true then (impl_floor_walls.j4 k4 x3_4 (rdOf false y268 x14_1) x6_9 x7_9 x8_3 x31_4 t274 y268 (y268.length : Int) x14_1 x7_9 x31_4 x9_4 s0_0 s0_1) else (impl_floor_walls.j4 k4 x3_4 (rdOf false y268 x14_1) x6_9 x7_9 x8_3 x31_4 t274 y268 (y268.length : Int) x14_1 x7_9 x31_4 false s0_0 s0_1)) = some r := H
              have A17 := zaa.mk A170
              clear A170
              have HC18 := zaa.mk H
              clear H
              go_upto_region 16 with (first | ((with_reducible refine zai (f := 93) rfl ?_); refine zbc (some 38) rfl rfl Try.func93 (by kernel_rfl) rfl #[.pointer (some ⟨g, 0, none⟩), .bool (rdOf false y268 x14_1), .int .i64 x8_3, .int .i64 x31_4] rfl (by (try simp only [List.map_toArray, List.map_cons, List.map_nil]); first | done | rfl | (simp only [List.length_drop, List.length_take]; rfl)) ?_; (with_reducible refine (impl_floor_differ.calls g s0_0 s0_1 (rdOf false y268 x14_1) x8_3 x31_4 t274 w0 _ ?side1 ?side2 A17.out).mono ?_); (case side1 => repeat (first | (with_reducible first | exact HI0.out | apply zar.alloc | apply zar.drewN | apply zar.drew) | exact HI0.out)); (case side2 => repeat (first | (with_reducible first | exact HB.out | apply zac | apply zab | apply zad | refine zao ?_ (zar.ge HI0.out)) | exact HB.out)); rintro e w19 ⟨rfl, hi, hb, hk⟩; refine ⟨_, rfl, ?_⟩; have n0_ := zaa.mk (Kd.R_mono (Kd.R_keep (zar.apart (show zar w0 _ g s0_0 s0_1 from by repeat (first | (with_reducible first | exact HI0.out | apply zar.alloc | apply zar.drewN | apply zar.drew) | exact HI0.out)) (by (with_reducible repeat (first | apply Kd.R_alloc | apply Kd.R_drewN | apply Kd.R_drew)); exact HO_3.out) (by decide)) hk (fun _ h => h.2)) (fun _ h => h.1)); have n1_ := zaa.mk (Kd.R_mono (Kd.R_keep (zar.apart (show zar w0 _ g s0_0 s0_1 from by repeat (first | (with_reducible first | exact HI0.out | apply zar.alloc | apply zar.drewN | apply zar.drew) | exact HI0.out)) (by (with_reducible repeat (first | apply Kd.R_alloc | apply Kd.R_drewN | apply Kd.R_drew)); exact HO_12.out) (by decide)) hk (fun _ h => h.2)) (fun _ h => h.1)); have n2_ := zaa.mk (zau.trans (by repeat (first | (with_reducible first | exact HK.out | apply zau.set_ | apply zbf | apply zbj | apply zbg) | exact HK.out)) hk (.inl rfl)); have n3_ := zaa.mk (hb); have n4_ := zaa.mk (hi); clear HO_3; clear HO_12; clear HK; clear HB; clear HI0; have HO_3 := n0_; have HO_12 := n1_; have HK := n2_; have HB := n3_; have HI0 := n4_; clear n0_ n1_ n2_ n3_ n4_; (try clear hb); (try clear hb2); (try clear hk); (try clear hi)))
              (try simp only [Act.put, List.setIfInBounds_toArray, List.set_cons_zero, List.set_cons_succ])
              go_cut [39] (fun v39 wc => ∃ (kq : Nat) (x39_17 : Bool), v39 = .bool x39_17 ∧ zaa (impl_floor_walls.j4 kq x3_4 (rdOf false y268 x14_1) x6_9 x7_9 x8_3 x31_4 t274 y268 (y268.length : Int) x14_1 x7_9 x31_4 x39_17 s0_0 s0_1 = some r) ∧ zaa (kq ≤ k4) ∧ zaa (Kd.R k60 60 wc w.heap.size (fun _ => True) u3 x3_4) ∧ zaa (Kd.R Kd.bool 4 wc w.heap.size (fun _ => True) (.slice (some ad271) y268.length co4) y268) ∧ zaa (zar w0 wc g s0_0 s0_1) ∧ zaa (zau w wc g none) ∧ zaa (Below w0.heap.size w0 wc))
              case first =>
               have H := HC18.out
               clear HC18
               by_cases c20 : t274 = true
               ·subst c20
                have H1 : (impl_floor_walls.j4 k4 x3_4 (rdOf false y268 x14_1) x6_9 x7_9 x8_3 x31_4 true y268 (y268.length : Int) x14_1 x7_9 x31_4 x9_4 s0_0 s0_1) = some r := by rw [if_pos rfl] at H; exact H
                clear H
                have H := H1
                clear H1
                have H' := zaa.mk H
                clear H
                go_wp2
                go_meet
                case rel => exact ⟨_, (x9_4), (by first | rfl | (simp; done) | (simp [*]; done)), H', ⟨by have := HK1.out; have := HJ9.out; have := HK3.out; have := HK4.out; first | omega | exact Nat.le_refl _⟩, ⟨by (with_reducible repeat (first | apply Kd.R_alloc | apply Kd.R_drewN | apply Kd.R_drew)); exact HO_3.out⟩, ⟨by (with_reducible repeat (first | apply Kd.R_alloc | apply Kd.R_drewN | apply Kd.R_drew)); exact HO_12.out⟩, ⟨by repeat (first | (with_reducible first | exact HI0.out | apply zar.alloc | apply zar.drewN | apply zar.drew) | exact HI0.out)⟩, ⟨by repeat (first | (with_reducible first | exact HK.out | apply zau.set_ | apply zbf | apply zbj | apply zbg) | exact HK.out)⟩, ⟨by repeat (first | (with_reducible first | exact HB.out | apply zac | apply zab | apply zad | refine zao ?_ (zar.ge HI0.out)) | exact HB.out)⟩⟩
               ·replace c20 := Bool.eq_false_iff.mpr c20
                subst c20
                have H1 : (impl_floor_walls.j4 k4 x3_4 (rdOf false y268 x14_1) x6_9 x7_9 x8_3 x31_4 false y268 (y268.length : Int) x14_1 x7_9 x31_4 false s0_0 s0_1) = some r := by rw [if_neg (show ¬ (false = true) by decide)] at H; exact H
                clear H
                have H := H1
                clear H1
                have H' := zaa.mk H
                clear H
                go_wp2
                go_meet
                case rel => exact ⟨_, (false), (by first | rfl | (simp; done) | (simp [*]; done)), H', ⟨by have := HK1.out; have := HJ9.out; have := HK3.out; have := HK4.out; first | omega | exact Nat.le_refl _⟩, ⟨by (with_reducible repeat (first | apply Kd.R_alloc | apply Kd.R_drewN | apply Kd.R_drew)); exact HO_3.out⟩, ⟨by (with_reducible repeat (first | apply Kd.R_alloc | apply Kd.R_drewN | apply Kd.R_drew)); exact HO_12.out⟩, ⟨by repeat (first | (with_reducible first | exact HI0.out | apply zar.alloc | apply zar.drewN | apply zar.drew) | exact HI0.out)⟩, ⟨by repeat (first | (with_reducible first | exact HK.out | apply zau.set_ | apply zbf | apply zbj | apply zbg) | exact HK.out)⟩, ⟨by repeat (first | (with_reducible first | exact HB.out | apply zac | apply zab | apply zad | refine zao ?_ (zar.ge HI0.out)) | exact HB.out)⟩⟩
              case rest =>
               clear HC18
               try clear c1
               try clear q1
               try clear c2
               try clear p2
               try clear q2
               try clear hx2
               try clear c5
               try clear c5b0
               try clear c6
               try clear c6b0
               try clear c7
               try clear c7b0
               try clear c9
               try clear q13
               try clear c14
               try clear c15
               try clear c15b0
               try clear c16
               try clear c16b0
               try clear c20
               try clear hx271_0
               try clear p2
               try clear p271
               try clear q1
               try clear q13
               try clear q2
               try clear q271
               obtain ⟨kq, x39_17, rfl, HA, HJ17, HO_3, HO_12, HI0, HK, HB⟩ := hcut
               cases kq with
               | zero => exact absurd HA.out (by simp [impl_floor_walls.j4])
               | succ kj17 =>
                have H := HA.out
                clear HA
                simp only [impl_floor_walls.j4] at H
                by_cases c21 : x39_17 = true
                ·subst c21
                 have H1 : (if 0 ≤ (wrap64 ((x3_4.length : Int) - 1)) then (if (wrap64 ((x3_4.length : Int) - 1)) < (x3_4.length : Int) then (impl_floor_walls.l2 kj17 (x3_4.set ((wrap64 ((x3_4.length : Int) - 1)) : Int).toNat (⟨(zbw x3_4 (wrap64 ((x3_4.length : Int) - 1))).f0, (zbw x3_4 (wrap64 ((x3_4.length : Int) - 1))).f1, (zbw x3_4 (wrap64 ((x3_4.length : Int) - 1))).f2, wrap64 (((zbw x3_4 (wrap64 ((x3_4.length : Int) - 1))).f3) + 1)⟩ : S60)) (rdOf false y268 x14_1) x6_9 x7_9 x8_3 t274 y268 (y268.length : Int) x14_1 x7_9 (wrap64 (x31_4 + 1)) s0_0 s0_1) else (none)) else (none)) = some r := by rw [if_pos rfl] at H; exact H
                 clear H
                 have H := H1
                 clear H1
                 obtain ⟨ji22, hji22⟩ : ∃ j_ : Int, (wrap64 ((x3_4.length : Int) - 1)) = j_ := ⟨_, rfl⟩
                 replace H : (if 0 ≤ (ji22) then (if (ji22) < (x3_4.length : Int) then (impl_floor_walls.l2 kj17 (x3_4.set ((ji22) : Int).toNat (⟨(zbw x3_4 (ji22)).f0, (zbw x3_4 (ji22)).f1, (zbw x3_4 (ji22)).f2, wrap64 (((zbw x3_4 (ji22)).f3) + 1)⟩ : S60)) (rdOf false y268 x14_1) x6_9 x7_9 x8_3 t274 y268 (y268.length : Int) x14_1 x7_9 (wrap64 (x31_4 + 1)) s0_0 s0_1) else (none)) else (none)) = some r := by first | (rw [hji22] at H; exact H) | (simp only [hji22] at H ⊢; exact H)
                 have hji22w : (IntKind.i64.wrap ((x3_4.length : Int) - 1)) = ji22 := (zas _).trans hji22
                 by_cases c23 : 0 ≤ (ji22)
                 ·rw [if_pos c23] at H
                  have c23b0 : decide (0 ≤ (ji22)) = true := decide_eq_true c23
                  clear c23
                  by_cases c24 : (ji22) < (x3_4.length : Int)
                  ·rw [if_pos c24] at H
                   have c24b0 : decide ((ji22) < (x3_4.length : Int)) = true := decide_eq_true c24
                   clear c24
                   obtain ⟨y276, hy276⟩ : ∃ y_ : List (S60), y_ = (x3_4.set ((ji22) : Int).toNat (⟨(zbw x3_4 (ji22)).f0, (zbw x3_4 (ji22)).f1, (zbw x3_4 (ji22)).f2, wrap64 (((zbw x3_4 (ji22)).f3) + 1)⟩ : S60)) := ⟨_, rfl⟩
                   replace H : (impl_floor_walls.l2 kj17 y276 (rdOf false y268 x14_1) x6_9 x7_9 x8_3 t274 y268 (y268.length : Int) x14_1 x7_9 (wrap64 (x31_4 + 1)) s0_0 s0_1) = some r := by first | (rw [hy276]; with_reducible exact H) | (have H2_ := (Option.bind_some _ _).symm.trans H; rw [hy276]; with_reducible exact H2_) | (have H2_ := (Option.bind_some _ _).symm.trans H; with_reducible exact H2_) | with_reducible exact H | (rw [hy276]; exact H) | exact H
                   have Ny276 := zaa.mk hy276
                   clear hy276
                   have H' := zaa.mk H
                   clear H
                   obtain ⟨Ao26, co26, eo26⟩ := Kd.R_slice HO_3.out
                   subst eo26
                   have p275 : 0 ≤ ((ji22) : Int) := of_decide_eq_true (by first | (with_reducible assumption) | assumption)
                   have q275 : (ji22) < (x3_4.length : Int) := of_decide_eq_true (by first | (with_reducible assumption) | assumption)
                   obtain ⟨ad275, e275, hx275_0, hx275_1, hx275_2, hx275_3⟩ := at_T60 (Kd.R_reads' HO_3.out).2.2 (ji22) p275 q275
                   cases e275
                   replace p275 := eq_true p275
                   replace q275 := eq_true q275
                   have p25 : 0 ≤ ((ji22) : Int) := of_decide_eq_true (by first | (with_reducible assumption) | assumption)
                   have q25 : ((ji22) : Int) < ((x3_4.length : Int) : Int) := of_decide_eq_true (by first | (with_reducible assumption) | assumption)
                   obtain ⟨go25, co25, eo25, gb25, gl25, cl25, HG25⟩ := Kd.R_form HO_3.out (by omega)
                   (first | cases eo25 | (injection eo25 with ea_ en_ ec_; (first | subst ea_ | (injection ea_ with ea_; subst ea_)); subst ec_; clear en_))
                   have GB25 := zaa.mk gb25
                   have GG25 := zaa.mk HG25
                   clear gb25 gl25 HG25
                   (first | simp only [add_plain] at hx275_0 | skip)
                   (first | simp only [add_plain] at hx275_1 | skip)
                   (first | simp only [add_plain] at hx275_2 | skip)
                   (first | simp only [add_plain] at hx275_3 | skip)
                   obtain ⟨ce25, hcl25, hM25, hcc25, hfr25⟩ := Kd.R_elem HO_3.out z60 ((ji22) : Int) p25 q25
                   obtain rfl := k60_openM hM25
                   have hx25_0 : wc.cell? ⟨go25, ((ji22) : Int).toNat * 4, none⟩ = some (.bool ((zbw x3_4 (ji22)).f0)) := hcc25 0 _ rfl
                   have hx25_1 : wc.cell? ⟨go25, ((ji22) : Int).toNat * 4 + 1, none⟩ = some (.int .i64 ((zbw x3_4 (ji22)).f1)) := hcc25 1 _ rfl
                   have hx25_2 : wc.cell? ⟨go25, ((ji22) : Int).toNat * 4 + 2, none⟩ = some (.int .i64 ((zbw x3_4 (ji22)).f2)) := hcc25 2 _ rfl
                   have hx25_3 : wc.cell? ⟨go25, ((ji22) : Int).toNat * 4 + 3, none⟩ = some (.int .i64 ((zbw x3_4 (ji22)).f3)) := hcc25 3 _ rfl
                   have hf25_0 : wc.frozen? ⟨go25, ((ji22) : Int).toNat * 4, none⟩ = false := hfr25 0
                   have hf25_1 : wc.frozen? ⟨go25, ((ji22) : Int).toNat * 4 + 1, none⟩ = false := hfr25 1
                   have hf25_2 : wc.frozen? ⟨go25, ((ji22) : Int).toNat * 4 + 2, none⟩ = false := hfr25 2
                   have hf25_3 : wc.frozen? ⟨go25, ((ji22) : Int).toNat * 4 + 3, none⟩ = false := hfr25 3
                   clear hcl25 hcc25 hfr25 hM25
                   replace p25 := eq_true p25
                   replace q25 := eq_true q25
                   have HX27 := zaa.mk (show Kd.R k60 60 wc w.heap.size (fun _ => True) (.slice (some ⟨go25, 0, none⟩) x3_4.length co26) x3_4 from (by (with_reducible repeat (first | apply Kd.R_alloc | apply Kd.R_drewN | apply Kd.R_drew)); exact HO_3.out))
                   obtain ⟨ce27, hcl27, hM27, hcc27, hfr27⟩ := Kd.R_elem HX27.out z60 ((ji22) : Int) (of_decide_eq_true (by first | (with_reducible assumption) | assumption)) (by have h_ : ((ji22) : Int) < ((x3_4.length : Int) : Int) := of_decide_eq_true (by first | (with_reducible assumption) | assumption); first | exact h_ | (have e_ := (Kd.R_reads' HO_3.out).1; omega) | simpa using h_)
                   obtain rfl := k60_openM hM27
                   have HP27 := Kd.R_seg HX27.out ((ji22) : Int) (of_decide_eq_true (by first | (with_reducible assumption) | assumption)) (by have h_ : ((ji22) : Int) < ((x3_4.length : Int) : Int) := of_decide_eq_true (by first | (with_reducible assumption) | assumption); first | exact h_ | (have e_ := (Kd.R_reads' HO_3.out).1; omega) | simpa using h_) (seg := [.int .i64 (wrap64 (((zbw x3_4 (ji22)).f3) + 1))]) (j := 3) hcl27 hcc27 (show 4 ≤ 4 from by decide) (x' := (⟨(zbw x3_4 (ji22)).f0, (zbw x3_4 (ji22)).f1, (zbw x3_4 (ji22)).f2, wrap64 (((zbw x3_4 (ji22)).f3) + 1)⟩ : S60)) (k60_mkM _ _ _ (⟨(zbw x3_4 (ji22)).f0, (zbw x3_4 (ji22)).f1, (zbw x3_4 (ji22)).f2, wrap64 (((zbw x3_4 (ji22)).f3) + 1)⟩ : S60) ) (fun _ hk => hk)
                   have hx27_3 := hcc27 3 _ rfl
                   (try simp only [show (k60).sz = 4 from rfl, Nat.mul_one, Nat.add_zero] at hx27_3)
                   have hf27_3 := hfr27 3
                   (try simp only [show (k60).sz = 4 from rfl, Nat.mul_one, Nat.add_zero] at hf27_3)
                   clear hcl27 hcc27 hfr27 hM27
                   go_wp2_with (first | ((with_reducible refine gate_store (t := 3) (p := 53) rfl ?_); refine store_event (t := 3) (p := 53) (v := ?vo_w28) (w1 := (wc.setCell ⟨go25, ((ji22) : Int).toNat * 4 + 3, none⟩ (.int .i64 (wrap64 (((zbw x3_4 (ji22)).f3) + 1))))) ?hg ?ho ?hn ?hr ?_; (case ho => rfl); (case hg => rfl); (case hn => rfl); (case hr => first | (go_simp; done) | (go_simp; rfl)); intro w28 hw; have hg : wc.grownBy w28 (some go25) := (by rw [hw]; exact HP27.2); have hp_ : Kd.R k60 60 w28 w.heap.size (fun _ => True) (.slice (some ⟨go25, 0, none⟩) x3_4.length co26) y276 := (by rw [hw, Ny276.out]; exact HP27.1); clear HP27; have n0_ := zaa.mk (hp_); have n1_ := zaa.mk (Kd.R_over' (v := (.slice (some ⟨go25, 0, none⟩) x3_4.length co26)) (by (with_reducible repeat (first | apply Kd.R_alloc | apply Kd.R_drewN | apply Kd.R_drew)); exact HO_12.out) (Kd.R_typed HO_3.out) (by decide) hg); have n2_ := zaa.mk (zar.grown (by repeat (first | (with_reducible first | exact HI0.out | apply zar.alloc | apply zar.drewN | apply zar.drew) | exact HI0.out)) hg (zar.own_ne HI0.out HO_3.out (by decide))); have n3_ := zaa.mk ((by rw [hw]; exact zao (HB.out) (Nat.le_trans HL.out GB25.out) : Below w0.heap.size w0 w28)); have n4_ := zaa.mk (zau.trans (by repeat (first | (with_reducible first | exact HK.out | apply zau.set_ | apply zbf | apply zbj | apply zbg) | exact HK.out)) (zau.of_grown hg g) (Kd.R_base2 HO_3.out)); clear HO_3; clear HO_12; clear HI0; clear HB; clear HK; have HO_3 := n0_; have HO_12 := n1_; have HI0 := n2_; have HB := n3_; have HK := n4_; clear n0_ n1_ n2_ n3_ n4_; clear hg hw hp_))
                   go_roundg kj17
                   case measure => have := HK1.out; have := HJ9.out; have := HK3.out; have := HK4.out; have := HJ17.out; omega
                   case rel => exact ⟨(y276), (t274), (wrap64 (x31_4 + 1)), (by first | rfl | (simp; done) | (simp [*]; done)), (by first | rfl | (simp; done) | (simp [*]; done)), H', ⟨by have := HK1.out; have := HJ9.out; have := HK3.out; have := HK4.out; have := HJ17.out; omega⟩, ⟨by (with_reducible repeat (first | apply Kd.R_alloc | apply Kd.R_drewN | apply Kd.R_drew)); exact HO_3.out⟩, ⟨by (with_reducible repeat (first | apply Kd.R_alloc | apply Kd.R_drewN | apply Kd.R_drew)); exact HO_12.out⟩, ⟨by repeat (first | (with_reducible first | exact HI0.out | apply zar.alloc | apply zar.drewN | apply zar.drew) | exact HI0.out)⟩, ⟨by repeat (first | (with_reducible first | exact HK.out | apply zau.set_ | apply zbf | apply zbj | apply zbg) | exact HK.out)⟩, ⟨by repeat (first | (with_reducible first | exact HB.out | apply zac | apply zab | apply zad | refine zao ?_ (zar.ge HI0.out)) | exact HB.out)⟩⟩
                  ·rw [if_neg c24] at H
                   exact absurd H (by simp)
                 ·rw [if_neg c23] at H
                  exact absurd H (by simp)
                ·replace c21 := Bool.eq_false_iff.mpr c21
                 subst c21
                 have H1 : (if t274 = true then (if x3_4.length < 4398046511104 then (impl_floor_walls.l2 kj17 (x3_4 ++ [(⟨(rdOf false y268 x14_1), x8_3, x31_4, 1⟩ : S60)]) (rdOf false y268 x14_1) x6_9 x7_9 x8_3 t274 y268 (y268.length : Int) x14_1 x7_9 (wrap64 (x31_4 + 1)) s0_0 s0_1) else (none)) else (impl_floor_walls.l2 kj17 x3_4 (rdOf false y268 x14_1) x6_9 x7_9 x8_3 t274 y268 (y268.length : Int) x14_1 x7_9 (wrap64 (x31_4 + 1)) s0_0 s0_1)) = some r := by rw [if_neg (show ¬ (false = true) by decide)] at H; exact H
                 clear H
                 have H := H1
                 clear H1
                 by_cases c29 : t274 = true
                 ·subst c29
                  have H1 : (if x3_4.length < 4398046511104 then (impl_floor_walls.l2 kj17 (x3_4 ++ [(⟨(rdOf false y268 x14_1), x8_3, x31_4, 1⟩ : S60)]) (rdOf false y268 x14_1) x6_9 x7_9 x8_3 true y268 (y268.length : Int) x14_1 x7_9 (wrap64 (x31_4 + 1)) s0_0 s0_1) else (none)) = some r := by rw [if_pos rfl] at H; exact H
                  clear H
                  have H := H1
                  clear H1
                  by_cases c30 : x3_4.length < 4398046511104
                  ·rw [if_pos c30] at H
                   have LMc30 := zaa.mk c30
                   clear c30
                   obtain ⟨y277, hy277⟩ : ∃ y_ : List (S60), y_ = (x3_4 ++ [(⟨(rdOf false y268 x14_1), x8_3, x31_4, 1⟩ : S60)]) := ⟨_, rfl⟩
                   replace H : (impl_floor_walls.l2 kj17 y277 (rdOf false y268 x14_1) x6_9 x7_9 x8_3 true y268 (y268.length : Int) x14_1 x7_9 (wrap64 (x31_4 + 1)) s0_0 s0_1) = some r := by first | (rw [hy277]; with_reducible exact H) | (have H2_ := (Option.bind_some _ _).symm.trans H; rw [hy277]; with_reducible exact H2_) | (have H2_ := (Option.bind_some _ _).symm.trans H; with_reducible exact H2_) | with_reducible exact H | (rw [hy277]; exact H) | exact H
                   have Ny277 := zaa.mk hy277
                   clear hy277
                   have H' := zaa.mk H
                   clear H
                   go_wp2_with (first | ((with_reducible refine zaq (b := .append) (xs := #[.tmp 56, .tmp 61]) rfl ?_); at_builtin; refine Kd.R_append k60 w.heap.size rfl (.tmp 56) (.tmp 61) 57 60 (.agg #[(.bool false), (.int .i64 0), (.int .i64 0), (.int .i64 0)]) 32 rfl Try.underlying57 info60 rfl (by decide) (by omega) u3 x3_4 (⟨(rdOf false y268 x14_1), x8_3, x31_4, 1⟩ : S60) [.bool (rdOf false y268 x14_1), .int .i64 x8_3, .int .i64 x31_4, .int .i64 1] (fun _ => True) (fun _ => False) rfl rfl ?aP (fun _ hk => hk.elim) ?aF ?aO (Below.refl _ _) ?aS ?aL ?_; (case aP => exact k60_mkM _ _ _ (⟨(rdOf false y268 x14_1), x8_3, x31_4, 1⟩ : S60)); (case aF => exact (fun _ _ => trivial)); (case aO => exact (by (with_reducible repeat (first | apply Kd.R_alloc | apply Kd.R_drewN | apply Kd.R_drew)); exact HO_3.out)); (case aS => exact (keep_size (w := w) (g := g) (row := none) (by repeat (first | (with_reducible first | exact HK.out | apply zau.set_ | apply zbf | apply zbj | apply zbg) | exact HK.out)))); (case aL => have := LMc30.out; omega); intro v278 w31 ho hb hg hat; rw [← Ny277.out] at ho; have n0_ := zaa.mk (Kd.R_over' (by (with_reducible repeat (first | apply Kd.R_alloc | apply Kd.R_drewN | apply Kd.R_drew)); exact HO_12.out) (Kd.R_typed (by (with_reducible repeat (first | apply Kd.R_alloc | apply Kd.R_drewN | apply Kd.R_drew)); exact HO_3.out)) (by decide) hg); have n1_ := zaa.mk (zar.grown (by repeat (first | (with_reducible first | exact HI0.out | apply zar.alloc | apply zar.drewN | apply zar.drew) | exact HI0.out)) hg (zar.own_ne HI0.out HO_3.out (by decide))); have n2_ := zaa.mk (below_weaken (by repeat (first | (with_reducible first | exact HB.out | apply zac | apply zab | apply zad | refine zao ?_ (zar.ge HI0.out)) | exact HB.out)) HL.out hb); have n3_ := zaa.mk (zau.trans (by repeat (first | (with_reducible first | exact HK.out | apply zau.set_ | apply zbf | apply zbj | apply zbg) | exact HK.out)) (zau.of_grown hg g) (Kd.R_base2 HO_3.out)); have n4_ := zaa.mk (ho); clear HO_12; clear HI0; clear HB; clear HK; clear HO_3; have HO_12 := n0_; have HI0 := n1_; have HB := n2_; have HK := n3_; have HO279 := n4_; clear n0_ n1_ n2_ n3_ n4_; clear ho hb hg hat))
                   go_roundg kj17
                   case measure => have := HK1.out; have := HJ9.out; have := HK3.out; have := HK4.out; have := HJ17.out; omega
                   case rel => exact ⟨(y277), (true), (wrap64 (x31_4 + 1)), (by first | rfl | (simp; done) | (simp [*]; done)), (by first | rfl | (simp; done) | (simp [*]; done)), H', ⟨by have := HK1.out; have := HJ9.out; have := HK3.out; have := HK4.out; have := HJ17.out; omega⟩, ⟨by (with_reducible repeat (first | apply Kd.R_alloc | apply Kd.R_drewN | apply Kd.R_drew)); exact HO279.out⟩, ⟨by (with_reducible repeat (first | apply Kd.R_alloc | apply Kd.R_drewN | apply Kd.R_drew)); exact HO_12.out⟩, ⟨by repeat (first | (with_reducible first | exact HI0.out | apply zar.alloc | apply zar.drewN | apply zar.drew) | exact HI0.out)⟩, ⟨by repeat (first | (with_reducible first | exact HK.out | apply zau.set_ | apply zbf | apply zbj | apply zbg) | exact HK.out)⟩, ⟨by repeat (first | (with_reducible first | exact HB.out | apply zac | apply zab | apply zad | refine zao ?_ (zar.ge HI0.out)) | exact HB.out)⟩⟩
                  ·rw [if_neg c30] at H
                   exact absurd H (by simp)
                 ·replace c29 := Bool.eq_false_iff.mpr c29
                  subst c29
                  have H1 : (impl_floor_walls.l2 kj17 x3_4 (rdOf false y268 x14_1) x6_9 x7_9 x8_3 false y268 (y268.length : Int) x14_1 x7_9 (wrap64 (x31_4 + 1)) s0_0 s0_1) = some r := by rw [if_neg (show ¬ (false = true) by decide)] at H; exact H
                  clear H
                  have H := H1
                  clear H1
                  have H' := zaa.mk H
                  clear H
                  go_wp2
                  go_roundg kj17
                  case measure => have := HK1.out; have := HJ9.out; have := HK3.out; have := HK4.out; have := HJ17.out; omega
                  case rel => exact ⟨(x3_4), (false), (wrap64 (x31_4 + 1)), (by first | rfl | (simp; done) | (simp [*]; done)), (by first | rfl | (simp; done) | (simp [*]; done)), H', ⟨by have := HK1.out; have := HJ9.out; have := HK3.out; have := HK4.out; have := HJ17.out; omega⟩, ⟨by (with_reducible repeat (first | apply Kd.R_alloc | apply Kd.R_drewN | apply Kd.R_drew)); exact HO_3.out⟩, ⟨by (with_reducible repeat (first | apply Kd.R_alloc | apply Kd.R_drewN | apply Kd.R_drew)); exact HO_12.out⟩, ⟨by repeat (first | (with_reducible first | exact HI0.out | apply zar.alloc | apply zar.drewN | apply zar.drew) | exact HI0.out)⟩, ⟨by repeat (first | (with_reducible first | exact HK.out | apply zau.set_ | apply zbf | apply zbj | apply zbg) | exact HK.out)⟩, ⟨by repeat (first | (with_reducible first | exact HB.out | apply zac | apply zab | apply zad | refine zao ?_ (zar.ge HI0.out)) | exact HB.out)⟩⟩
             ·rw [if_neg c16] at H
              have c16b0 : decide (x31_4 < x7_9) = false := decide_eq_false c16
              clear c16
              have H' := zaa.mk H
              clear H
              go_wp2
              go_roundg k4
              case measure => have := HK1.out; have := HJ9.out; have := HK3.out; have := HK4.out; omega
              case rel => exact ⟨(x3_4), (wrap64 (x8_3 + 1)), (by first | rfl | (simp; done) | (simp [*]; done)), H', ⟨by have := HK1.out; have := HJ9.out; have := HK3.out; have := HK4.out; omega⟩, ⟨by (with_reducible repeat (first | apply Kd.R_alloc | apply Kd.R_drewN | apply Kd.R_drew)); exact HO_3.out⟩, ⟨by (with_reducible repeat (first | apply Kd.R_alloc | apply Kd.R_drewN | apply Kd.R_drew)); exact HO_12.out⟩, ⟨by repeat (first | (with_reducible first | exact HI0.out | apply zar.alloc | apply zar.drewN | apply zar.drew) | exact HI0.out)⟩, ⟨by repeat (first | (with_reducible first | exact HK.out | apply zau.set_ | apply zbf | apply zbj | apply zbg) | exact HK.out)⟩, ⟨by repeat (first | (with_reducible first | exact HB.out | apply zac | apply zab | apply zad | refine zao ?_ (zar.ge HI0.out)) | exact HB.out)⟩⟩
          ·rw [if_neg c15] at H
           have c15b0 : decide (x8_3 < x6_9) = false := decide_eq_false c15
           clear c15
           have H' := zaa.mk H
           clear H
           go_wp2
           go_roundg k3
           case measure => have := HK1.out; have := HJ9.out; have := HK3.out; omega
           case rel => exact ⟨(x3_3), (wrap64 (x14_1 + 1)), (by first | rfl | (simp; done) | (simp [*]; done)), H', ⟨by have := HK1.out; have := HJ9.out; have := HK3.out; omega⟩, ⟨by (with_reducible repeat (first | apply Kd.R_alloc | apply Kd.R_drewN | apply Kd.R_drew)); exact HO_3.out⟩, ⟨by (with_reducible repeat (first | apply Kd.R_alloc | apply Kd.R_drewN | apply Kd.R_drew)); exact HO_12.out⟩, ⟨by repeat (first | (with_reducible first | exact HI0.out | apply zar.alloc | apply zar.drewN | apply zar.drew) | exact HI0.out)⟩, ⟨by repeat (first | (with_reducible first | exact HK.out | apply zau.set_ | apply zbf | apply zbj | apply zbg) | exact HK.out)⟩, ⟨by repeat (first | (with_reducible first | exact HB.out | apply zac | apply zab | apply zad | refine zao ?_ (zar.ge HI0.out)) | exact HB.out)⟩⟩
     ·rw [if_neg c7] at H
      exact absurd H (by simp)
    ·rw [if_neg c6] at H
     exact absurd H (by simp)
   ·rw [if_neg c5] at H
    have c5b0 : decide (x14_1 < (y268.length : Int)) = false := decide_eq_false c5
    clear c5
    obtain rfl := Option.some.inj H
    go_wp2
    go_ret
    exact ⟨_, by first | rfl | (simp [zak, zaj] <;> rfl) | (simp [*, zak, zaj] <;> rfl), by (with_reducible repeat (first | apply Kd.R_alloc | apply Kd.R_drewN | apply Kd.R_drew)); exact HO_3.out, by repeat (first | (with_reducible first | exact HI0.out | apply zar.alloc | apply zar.drewN | apply zar.drew) | exact HI0.out), by repeat (first | (with_reducible first | exact HB.out | apply zac | apply zab | apply zad | refine zao ?_ (zar.ge HI0.out)) | exact HB.out), by repeat (first | (with_reducible first | exact HK.out | apply zau.set_ | apply zbf | apply zbj | apply zbg) | exact HK.out)⟩
end Go.Proofs.Ytoijjkhdfooapaa.PB
namespace Go.Proofs.Ytoijjkhdfooapaa.Hd
open Go.RowKit Go.PW.PrintWords Go.PW.PrintLast Go.PW.PrintMore Go.Proofs.Ytoijjkhdfooapaa.PB
abbrev Wl := S60
def runC (d : Nat → Bool) : Nat → List (Nat × Nat) × Option Nat
 | 0 => ([], none)
 | n + 1 => match runC d n with
  | (c, none) => (c, if d n then some n else none)
  | (c, some f) => if d n then (c, some f) else (c ++ [(f, n - f)], none)
def openR (n : Nat) : Option Nat → List (Nat × Nat)
 | none => []
 | some f => [(f, n - f)]
def runs (d : Nat → Bool) (n : Nat) : List (Nat × Nat) := (runC d n).1 ++ openR n (runC d n).2
theorem runC_inv (d : Nat → Bool) : ∀ n, (∀ x ∈ (runC d n).1, x.1 + x.2 ≤ n ∧ 1 ≤ x.2) ∧ (∀ f, (runC d n).2 = some f → f < n) ∧ (runC d n).1.length + (if (runC d n).2.isSome = true then 1 else 0) ≤ n
 | 0 => by simp [runC]
 | n + 1 => by
  obtain ⟨h1, h2, h3⟩ := runC_inv d n
  rcases hR : runC d n with ⟨c, o⟩
  rw [hR] at h1 h2 h3
  cases o with
  | none =>
   have e : runC d (n + 1) = (c, if d n then some n else none) := by simp only [runC, hR]
   rw [e]
   refine ⟨fun x hx => ?_, fun f hf => ?_, ?_⟩
   ·have := h1 x hx; omega
   ·dsimp only at hf
    split at hf
    ·injection hf with hf; omega
    ·cases hf
   ·dsimp only at h3 ⊢
    simp only [Option.isSome_none, Bool.false_eq_true, if_false] at h3
    split <;> simp <;> omega
  | some f =>
   have hf := h2 f rfl
   by_cases hd : d n = true
   ·have e : runC d (n + 1) = (c, some f) := by simp only [runC, hR, hd, if_true]
    rw [e]
    refine ⟨fun x hx => ?_, fun g hg => ?_, ?_⟩
    ·have := h1 x hx; omega
    ·injection hg with hg; omega
    ·dsimp only at h3 ⊢; omega
   ·have e : runC d (n + 1) = (c ++ [(f, n - f)], none) := by simp only [runC, hR, if_neg hd]
    rw [e]
    refine ⟨fun x hx => ?_, fun g hg => (by cases hg), ?_⟩
    ·rcases List.mem_append.1 hx with h | h
     ·have := h1 x h; omega
     ·simp at h; subst h; dsimp only; omega
    ·dsimp only at h3 ⊢
     simp only [Option.isSome_some, if_true] at h3
     simp
     omega
theorem runs_length (d : Nat → Bool) (n : Nat) : (runs d n).length ≤ n := by
 obtain ⟨h1, h2, h3⟩ := runC_inv d n
 unfold runs
 rw [List.length_append]
 cases h : (runC d n).2 with
 | none => rw [h] at h3; simp [openR] at h3 ⊢; exact h3
 | some f => rw [h] at h3; simp [openR] at h3 ⊢; exact h3
theorem runs_in (d : Nat → Bool) (n : Nat) : ∀ x ∈ runs d n, x.1 + x.2 ≤ n ∧ 1 ≤ x.2 := by
 obtain ⟨h1, h2, h3⟩ := runC_inv d n
 intro x hx
 unfold runs at hx
 rcases List.mem_append.1 hx with h | h
 ·exact h1 x h
 ·cases h4 : (runC d n).2 with
  | none => rw [h4] at h; cases h
  | some f =>
   rw [h4] at h
   have := h2 f h4
   simp [openR] at h
   subst h
   dsimp only
   omega
theorem runC_congr {d d' : Nat → Bool} : ∀ n, (∀ i, i < n → d i = d' i) → runC d n = runC d' n
 | 0, _ => rfl
 | n + 1, h => by simp only [runC, runC_congr n (fun i hi => h i (by omega)), h n (by omega)]
theorem runs_congr {d d' : Nat → Bool} (n : Nat) (h : ∀ i, i < n → d i = d' i) : runs d n = runs d' n := by unfold runs; rw [runC_congr n h]
def trip (d : Nat → Nat → Bool) (n : Nat) : Nat → List (Nat × Nat × Nat)
 | 0 => []
 | j + 1 => trip d n j ++ (runs (d (j + 1)) n).map fun x => (j + 1, x.1, x.2)
theorem trip_length (d : Nat → Nat → Bool) (n : Nat) : ∀ j, (trip d n j).length ≤ j * n
 | 0 => by simp [trip]
 | j + 1 => by
  have := trip_length d n j
  have := runs_length (d (j + 1)) n
  simp only [trip, List.length_append, List.length_map]
  rw [Nat.succ_mul]
  omega
theorem trip_in (d : Nat → Nat → Bool) (n : Nat) : ∀ j, ∀ x ∈ trip d n j, 1 ≤ x.1 ∧ x.1 ≤ j ∧ x.2.1 + x.2.2 ≤ n ∧ 1 ≤ x.2.2
 | 0, x, hx => by cases hx
 | j + 1, x, hx => by
  simp only [trip] at hx
  rcases List.mem_append.1 hx with h | h
  ·have := trip_in d n j x h; omega
  ·obtain ⟨y, hy, rfl⟩ := List.mem_map.1 h
   have := runs_in _ n y hy
   dsimp only
   omega
theorem trip_congr {d d' : Nat → Nat → Bool} {n : Nat} : ∀ j, (∀ l i, 1 ≤ l → l ≤ j → i < n → d l i = d' l i) → trip d n j = trip d' n j
 | 0, _ => rfl
 | j + 1, h => by
  simp only [trip]
  rw [trip_congr j (fun l i h1 h2 h3 => h l i h1 (by omega) h3), runs_congr n (fun i hi => h (j + 1) i (by omega) (by omega) hi)]
def mkW (lv : Bool) (t : Nat × Nat × Nat) : Wl := ⟨lv, (t.1 : Int), (t.2.1 : Int), (t.2.2 : Int)⟩
def difB (cs : List (List Int)) (lv : Bool) (line i : Nat) : Bool := if lv = true then zay cs (line - 1) i != zay cs line i else zay cs i (line - 1) != zay cs i line
def zbp (cs : List (List Int)) : List Wl := (trip (difB cs false) cs.length (zah cs - 1)).map (mkW false) ++ (trip (difB cs true) (zah cs) (cs.length - 1)).map (mkW true)
theorem rd_val (cs : List (List Int)) (r c : Nat) : rd (zbi cs (r : Int)) (c : Int) = zay cs r c := by
 unfold rd zbi zay
 rw [Int.toNat_natCast, Int.toNat_natCast]
theorem row_len {cs : List (List Int)} {rs : List Rc} (h : FloorOk cs rs) {r : Nat} (hr : r < cs.length) : (zbi cs (r : Int)).length = zah cs := by
 unfold zbi
 rw [Int.toNat_natCast, List.getD_eq_getElem?_getD, List.getElem?_eq_getElem hr]
 exact h.cells.row _ (List.getElem_mem _)
def sidesOf (cs : List (List Int)) (lv : Bool) (line i : Nat) : Int × Int := if lv = true then (zay cs (line - 1) i, zay cs line i) else (zay cs i (line - 1), zay cs i line)
def linesOf (cs : List (List Int)) (lv : Bool) : Nat := if lv = true then cs.length else zah cs
def zbq (cs : List (List Int)) (lv : Bool) : Nat := if lv = true then zah cs else cs.length
theorem sides_f {cs : List (List Int)} {rs : List Rc} (h : FloorOk cs rs) (lv : Bool) (line i : Nat) (h1 : 1 ≤ line) (h2 : line < linesOf cs lv) (h3 : i < zbq cs lv) : impl_floor_sides.f cs rs lv line i = some (sidesOf cs lv line i) := by
 have q1 := h.h6
 have q2 := h.w6
 unfold impl_floor_sides.f
 cases lv with
 | true =>
  simp only [linesOf, zbq, if_true] at h2 h3
  have e : wrap64 ((line : Int) - 1) = ((line - 1 : Nat) : Int) := by rw [zan (by omega) (by omega)]; omega
  rw [e, if_pos rfl, if_pos (by omega), if_pos (by omega), if_pos (by omega), row_len h (by omega), if_pos (by omega), if_pos (by omega), if_pos (by omega), row_len h (by omega), if_pos (by omega), rd_val, rd_val]
  rfl
 | false =>
  simp only [linesOf, zbq, Bool.false_eq_true, if_false] at h2 h3
  have e : wrap64 ((line : Int) - 1) = ((line - 1 : Nat) : Int) := by rw [zan (by omega) (by omega)]; omega
  rw [e, if_neg (by simp), if_pos (by omega), if_pos (by omega), if_pos (by omega), row_len h (by omega), if_pos (by omega), if_pos (by omega), if_pos (by omega), rd_val, rd_val]
  rfl
theorem differ_f {cs : List (List Int)} {rs : List Rc} (h : FloorOk cs rs) (lv : Bool) (line i : Nat) (h1 : 1 ≤ line) (h2 : line < linesOf cs lv) (h3 : i < zbq cs lv) : impl_floor_differ.f cs rs lv line i = some (difB cs lv line i) := by
 unfold impl_floor_differ.f
 rw [sides_f h lv line i h1 h2 h3]
 unfold sidesOf difB
 cases lv <;> rfl
theorem set_last {α : Type} (x : List α) (a b : α) : (x ++ [a]).set x.length b = x ++ [b] := by
 rw [List.set_append_right _ _ (Nat.le_refl _), Nat.sub_self, List.set_cons_zero]
theorem walls_l2 (cs : List (List Int)) (rs : List Rc) (lv : Bool) (line : Nat) (hl : line ≤ 100) (d : Nat → Bool) (N : Nat) (hN : N ≤ 100) (hd : ∀ i, i < N → impl_floor_differ.f cs rs lv line i = some (d i)) (x6 x7 x13 x14 : Int) (x12 : List Bool) (pre : List Wl) (hpre : pre.length ≤ 1000) (r : List Wl)
  (hnext : Evs (fun k => impl_floor_walls.l1 k (pre ++ (runs d N).map (fun x => mkW lv (line, x.1, x.2))) lv x6 x7 ((line + 1 : Nat) : Int) x12 x13 x14 cs rs) r) :
  ∀ m i, i + m = N → Evs (fun k => impl_floor_walls.l2 k (pre ++ (runs d i).map (fun x => mkW lv (line, x.1, x.2))) lv x6 x7 (line : Int) (runC d i).2.isSome x12 x13 x14 (N : Int) (i : Int) cs rs) r := by
 intro m
 induction m with
 | zero =>
  intro i hi
  obtain rfl : i = N := by omega
  refine Evs.step (fun k => ?_) hnext
  conv => lhs; unfold impl_floor_walls.l2
  rw [if_neg (by omega), zba (by omega)]
 | succ m ih =>
  intro i hi
  have hnx := ih (i + 1) (by omega)
  have hdi := hd i (by omega)
  have hrl := runs_length d i
  obtain ⟨g1, g2, g3⟩ := runC_inv d i
  rcases hR : runC d i with ⟨c, o⟩
  rw [hR] at g1 g2 g3
  have e1 : runs d i = c ++ openR i o := by unfold runs; rw [hR]
  rw [e1] at hrl ⊢
  rw [List.length_append] at hrl
  cases hb : d i with
  | true =>
   rw [hb] at hdi
   cases o with
   | none =>
    have e2 : runC d (i + 1) = (c, some i) := by simp only [runC, hR, hb, if_true]
    have e3 : runs d (i + 1) = c ++ [(i, 1)] := by unfold runs; rw [e2]; simp [openR]
    rw [e2, e3] at hnx
    refine Evs.step (h := fun k => impl_floor_walls.j4 k (pre ++ (c ++ openR i none).map (fun x => mkW lv (line, x.1, x.2))) lv x6 x7 (line : Int) (i : Int) true x12 x13 x14 (N : Int) (i : Int) false cs rs) (fun k => ?_) (Evs.step (fun k => ?_) hnx)
    ·conv => lhs; unfold impl_floor_walls.l2
     rw [if_pos (by omega), hdi]
     rfl
    ·conv => lhs; unfold impl_floor_walls.j4
     rw [if_neg (by simp), if_pos rfl, if_pos (by simp [openR]; omega), zba (by omega)]
     simp [openR, mkW]
   | some f =>
    have hf := g2 f rfl
    have e2 : runC d (i + 1) = (c, some f) := by simp only [runC, hR, hb, if_true]
    have e3 : runs d (i + 1) = c ++ [(f, i + 1 - f)] := by unfold runs; rw [e2]; simp [openR]
    rw [e2, e3] at hnx
    have hap : pre ++ (c ++ openR i (some f)).map (fun x => mkW lv (line, x.1, x.2)) = (pre ++ c.map (fun x => mkW lv (line, x.1, x.2))) ++ [mkW lv (line, f, i - f)] := by simp [openR]
    rw [hap]
    have hap2 : pre ++ (c ++ [(f, i + 1 - f)]).map (fun x => mkW lv (line, x.1, x.2)) = (pre ++ c.map (fun x => mkW lv (line, x.1, x.2))) ++ [mkW lv (line, f, i + 1 - f)] := by simp
    rw [hap2] at hnx
    have hlen : (pre ++ c.map (fun x => mkW lv (line, x.1, x.2))).length ≤ 1100 := by simp [openR] at hrl ⊢; omega
    generalize pre ++ c.map (fun x => mkW lv (line, x.1, x.2)) = q at *
    refine Evs.step (h := fun k => impl_floor_walls.j4 k (q ++ [mkW lv (line, f, i - f)]) lv x6 x7 (line : Int) (i : Int) true x12 x13 x14 (N : Int) (i : Int) true cs rs) (fun k => ?_) (Evs.step (fun k => ?_) hnx)
    ·conv => lhs; unfold impl_floor_walls.l2
     rw [if_pos (by omega), hdi]
     rfl
    ·conv => lhs; unfold impl_floor_walls.j4
     have e4 : wrap64 (((q ++ [mkW lv (line, f, i - f)]).length : Int) - 1) = (q.length : Int) := by
      have hq : ((q ++ [mkW lv (line, f, i - f)]).length : Int) = (q.length : Int) + 1 := by simp
      rw [hq, zan (by omega) (by omega)]; omega
     have e5 : zbw (q ++ [mkW lv (line, f, i - f)]) (q.length : Int) = mkW lv (line, f, i - f) := by
      unfold zbw
      rw [Int.toNat_natCast, List.getD_eq_getElem?_getD, List.getElem?_append_right (Nat.le_refl _), Nat.sub_self]
      rfl
     have e6 : wrap64 ((mkW lv (line, f, i - f)).f3 + 1) = ((i + 1 - f : Nat) : Int) := by
      show wrap64 (((i - f : Nat) : Int) + 1) = _
      rw [zan (by omega) (by omega)]; omega
     rw [if_pos rfl, e4, if_pos (by omega), if_pos (by simp; omega), e5, e6, Int.toNat_natCast, set_last, zba (by omega)]
     rfl
  | false =>
   rw [hb] at hdi
   have e3 : runs d (i + 1) = c ++ openR i o ∧ (runC d (i + 1)).2.isSome = false := by
    cases o with
    | none =>
     have e2 : runC d (i + 1) = (c, none) := by simp [runC, hR, hb]
     unfold runs
     rw [e2]
     exact ⟨rfl, rfl⟩
    | some f =>
     have e2 : runC d (i + 1) = (c ++ [(f, i - f)], none) := by simp [runC, hR, hb]
     unfold runs
     rw [e2]
     exact ⟨by simp [openR], rfl⟩
   rw [e3.1, e3.2] at hnx
   refine Evs.step (h := fun k => impl_floor_walls.j4 k (pre ++ (c ++ openR i o).map (fun x => mkW lv (line, x.1, x.2))) lv x6 x7 (line : Int) (i : Int) false x12 x13 x14 (N : Int) (i : Int) false cs rs) (fun k => ?_) (Evs.step (fun k => ?_) hnx)
   ·conv => lhs; unfold impl_floor_walls.l2
    rw [if_pos (by omega), hdi]
    rfl
   ·conv => lhs; unfold impl_floor_walls.j4
    rw [if_neg (by simp), if_neg (by simp), zba (by omega)]
theorem walls_l1 {cs : List (List Int)} {rs : List Rc} (h : FloorOk cs rs) (lv : Bool) (x13 x14 : Int) (hx14 : 0 ≤ x14) (hx14' : x14 ≤ 1000) (x12 : List Bool) (pre : List Wl) (hpre : pre.length ≤ 500) (r : List Wl)
  (hnext : Evs (fun k => impl_floor_walls.l0 k (pre ++ (trip (difB cs lv) (zbq cs lv) (linesOf cs lv - 1)).map (mkW lv)) x12 x13 (x14 + 1) cs rs) r) :
  ∀ m j, j + 1 + m = linesOf cs lv → Evs (fun k => impl_floor_walls.l1 k (pre ++ (trip (difB cs lv) (zbq cs lv) j).map (mkW lv)) lv (linesOf cs lv : Int) (zbq cs lv : Int) ((j + 1 : Nat) : Int) x12 x13 x14 cs rs) r := by
 have q1 := h.h6
 have q2 := h.w6
 have hN : zbq cs lv ≤ 6 := by unfold zbq; split <;> omega
 have hL : linesOf cs lv ≤ 6 := by unfold linesOf; split <;> omega
 intro m
 induction m with
 | zero =>
  intro j hj
  have e : linesOf cs lv - 1 = j := by omega
  rw [e] at hnext
  refine Evs.step (fun k => ?_) hnext
  conv => lhs; unfold impl_floor_walls.l1
  rw [if_neg (by omega), zan (by omega) (by omega)]
 | succ m ih =>
  intro j hj
  have hnx := ih (j + 1) (by omega)
  have ht := trip_length (difB cs lv) (zbq cs lv) j
  have hm : j * zbq cs lv ≤ 6 * 6 := Nat.mul_le_mul (by omega) hN
  have e : pre ++ (trip (difB cs lv) (zbq cs lv) (j + 1)).map (mkW lv) = (pre ++ (trip (difB cs lv) (zbq cs lv) j).map (mkW lv)) ++ (runs (difB cs lv (j + 1)) (zbq cs lv)).map (fun x => mkW lv (j + 1, x.1, x.2)) := by
   simp [trip, Function.comp_def]
  rw [e] at hnx
  have := walls_l2 cs rs lv (j + 1) (by omega) (difB cs lv (j + 1)) (zbq cs lv) (by omega) (fun i hi => differ_f h lv (j + 1) i (by omega) (by omega) hi) (linesOf cs lv) (zbq cs lv) x13 x14 x12 (pre ++ (trip (difB cs lv) (zbq cs lv) j).map (mkW lv)) (by simp; omega) r hnx (zbq cs lv) 0 (by omega)
  refine Evs.step (fun k => ?_) this
  conv => lhs; unfold impl_floor_walls.l1
  rw [if_pos (by omega)]
  simp [runs, runC, openR]
theorem walls_ev {cs : List (List Int)} {rs : List Rc} (h : FloorOk cs rs) : Evs (fun k => impl_floor_walls.f k cs rs) (zbp cs) := by
 have q1 := h.h6
 have q2 := h.w6
 have q3 := h.h1
 have q4 := h.w1
 have ht := trip_length (difB cs false) cs.length (zah cs - 1)
 have hm : (zah cs - 1) * cs.length ≤ 6 * 6 := Nat.mul_le_mul (by omega) q1
 have end_ : Evs (fun k => impl_floor_walls.l0 k (zbp cs) [false, true] 2 2 cs rs) (zbp cs) := by
  refine Evs.step (h := fun _ => some (zbp cs)) (fun k => ?_) (Evs.const _)
  conv => lhs; unfold impl_floor_walls.l0
  rw [if_neg (by omega)]
 have two := walls_l1 h true 2 1 (by omega) (by omega) [false, true] ((trip (difB cs false) cs.length (zah cs - 1)).map (mkW false)) (by simp; omega) _ end_ (cs.length - 1) 0 (by show 0 + 1 + _ = cs.length; omega)
 simp only [trip, List.map_nil, List.append_nil] at two
 have two' : Evs (fun k => impl_floor_walls.l0 k ((trip (difB cs false) cs.length (zah cs - 1)).map (mkW false)) [false, true] 2 1 cs rs) (zbp cs) := by
  refine Evs.step (h := fun k => impl_floor_walls.j1 k ((trip (difB cs false) cs.length (zah cs - 1)).map (mkW false)) true (cs.length : Int) (zah cs : Int) [false, true] 2 1 cs rs) (fun k => ?_) (Evs.step (fun k => ?_) two)
  ·conv => lhs; unfold impl_floor_walls.l0
   rw [if_pos (by omega), if_pos (by omega), if_pos (by simp), wide_f h, high_f]
   rfl
  ·conv => lhs; unfold impl_floor_walls.j1
   rfl
 have one := walls_l1 h false 2 0 (by omega) (by omega) [false, true] [] (by simp) _ (by rw [List.nil_append]; exact two') (zah cs - 1) 0 (by show 0 + 1 + _ = zah cs; omega)
 simp only [trip, List.map_nil, List.append_nil] at one
 refine Evs.congr (h := fun k => impl_floor_walls.l0 k [] [false, true] 2 0 cs rs) (fun k => rfl) ?_
 refine Evs.step (h := fun k => impl_floor_walls.j1 k [] false (zah cs : Int) (cs.length : Int) [false, true] 2 0 cs rs) (fun k => ?_) (Evs.step (fun k => ?_) one)
 ·conv => lhs; unfold impl_floor_walls.l0
  rw [if_pos (by omega), if_pos (by omega), if_pos (by simp), wide_f h, high_f]
  rfl
 ·conv => lhs; unfold impl_floor_walls.j1
  rfl
def tri (t : Nat × Nat × Nat) : List Int := [(t.1 : Int), (t.2.1 : Int), (t.2.2 : Int)]
def fromI : Option Nat → Int
 | none => -1
 | some f => (f : Int)
def difU (g : Nat → Nat → Int) (line i : Nat) : Bool := g i (line - 1) != g i line
def upsOf (g : Nat → Nat → Int) (hi wi : Nat) : List (List Int) := (trip (difU g) hi (wi - 1)).map tri
theorem up_l1 (p : List ByteArray) (wi : Nat) (h : Mid p wi) (line : Nat) (h1 : 1 ≤ line) (h2 : line < wi) (pre : List (List Int)) (hpre : pre.length ≤ 100000) (r : List (List Int))
  (hnext : Evs (fun k => spec_l2Upright.l0 k p (pre ++ (runs (difU (zay (zaf p)) line) p.length).map (fun x => tri (line, x.1, x.2))) ((line + 1 : Nat) : Int)) r) :
  ∀ m i, i + m = p.length → Evs (fun k => spec_l2Upright.l1 k p (pre ++ (runC (difU (zay (zaf p)) line) i).1.map (fun x => tri (line, x.1, x.2))) (line : Int) (fromI (runC (difU (zay (zaf p)) line) i).2) (i : Int)) r := by
 have hh := h.high
 have hw := h.wide
 generalize hdd : difU (zay (zaf p)) line = d at *
 intro m
 induction m with
 | zero =>
  intro i hi
  obtain rfl : i = p.length := by omega
  obtain ⟨g1, g2, g3⟩ := runC_inv d p.length
  unfold runs at hnext
  rcases hR : runC d p.length with ⟨c, o⟩
  rw [hR] at g1 g2 g3 hnext
  have hcl : c.length ≤ p.length := by dsimp only at g3; omega
  have hend : Evs (fun k => spec_l2Upright.l1 k p (pre ++ (c ++ openR p.length o).map (fun x => tri (line, x.1, x.2))) (line : Int) (-1) ((p.length + 1 : Nat) : Int)) r := by
   refine Evs.step (fun k => ?_) hnext
   conv => lhs; unfold spec_l2Upright.l1
   rw [if_neg (by omega), zba (by omega)]
  refine Evs.step (h := fun k => spec_l2Upright.j2 k p (pre ++ c.map (fun x => tri (line, x.1, x.2))) (line : Int) (fromI o) (p.length : Int) false) (fun k => ?_) (Evs.step (h := fun k => spec_l2Upright.j3 k p (pre ++ c.map (fun x => tri (line, x.1, x.2))) (line : Int) (fromI o) (p.length : Int) false false) (fun k => ?_) ?_)
  ·conv => lhs; unfold spec_l2Upright.l1
   rw [if_pos (by omega), if_neg (by omega)]
  ·conv => lhs; unfold spec_l2Upright.j2
   rw [if_neg (by simp)]
  ·cases o with
   | none =>
    rw [show c ++ openR p.length none = c by simp [openR]] at hend
    refine Evs.step (fun k => ?_) hend
    conv => lhs; unfold spec_l2Upright.j3
    rw [if_neg (by simp), if_neg (by simp), if_neg (by simp [fromI]), zba (by omega)]
    rfl
   | some f =>
    have hf := g2 f rfl
    refine Evs.step (fun k => ?_) hend
    conv => lhs; unfold spec_l2Upright.j3
    have e : wrap64 ((p.length : Int) - fromI (some f)) = ((p.length - f : Nat) : Int) := by
     show wrap64 ((p.length : Int) - (f : Int)) = _
     rw [zan (by omega) (by omega)]; omega
    rw [if_neg (by simp), if_neg (by simp), if_pos (by simp [fromI]), if_pos (by simp; omega), e, zba (by omega)]
    simp [openR, tri, fromI]
 | succ m ih =>
  intro i hi
  have hnx := ih (i + 1) (by omega)
  obtain ⟨g1, g2, g3⟩ := runC_inv d i
  obtain ⟨s, hs⟩ : ∃ s, p[i]? = some s := ⟨_, List.getElem?_eq_getElem (by omega)⟩
  have hsz := h.row s (List.mem_of_getElem? hs)
  obtain ⟨row, q1, q2⟩ := valAt_get h.rect (r := i) (c := line - 1) (by rw [zbn]; omega) (by omega)
  obtain ⟨row', q3, q4⟩ := valAt_get h.rect (r := i) (c := line) (by rw [zbn]; omega) (by omega)
  have hrow : (zaf p)[i]? = some (zaz s) := by unfold zaf; rw [List.getElem?_map, hs]; rfl
  obtain rfl : row = zaz s := by rw [hrow] at q1; exact (Option.some.inj q1).symm
  obtain rfl : row' = zaz s := by rw [hrow] at q3; exact (Option.some.inj q3).symm
  have hdi : (bt s ((line - 1 : Nat) : Int) != bt s (line : Int)) = d i := by rw [bt_get q2, bt_get q4, ← hdd]; rfl
  rcases hR : runC d i with ⟨c, o⟩
  rw [hR] at g1 g2 g3
  have hcl : c.length ≤ i := by dsimp only at g3; omega
  have el : wrap64 ((line : Int) - 1) = ((line - 1 : Nat) : Int) := by rw [zan (by omega) (by omega)]; omega
  refine Evs.step (h := fun k => spec_l2Upright.j2 k p (pre ++ c.map (fun x => tri (line, x.1, x.2))) (line : Int) (fromI o) (i : Int) (d i)) (fun k => ?_) ?_
  ·conv => lhs; unfold spec_l2Upright.l1
   rw [if_pos (by omega), if_pos (by omega), if_pos (by omega), el, zcb hs, if_pos (by omega), if_pos (by omega), if_pos (by omega), if_pos (by omega), hdi]
  ·cases hb : d i with
   | true =>
    cases o with
    | none =>
     have e2 : runC d (i + 1) = (c, some i) := by simp only [runC, hR, hb, if_true]
     rw [e2] at hnx
     refine Evs.step (h := fun k => spec_l2Upright.j3 k p (pre ++ c.map (fun x => tri (line, x.1, x.2))) (line : Int) (fromI none) (i : Int) true true) (fun k => ?_) (Evs.step (fun k => ?_) hnx)
     ·conv => lhs; unfold spec_l2Upright.j2
      rw [if_pos rfl]
      rfl
     ·conv => lhs; unfold spec_l2Upright.j3
      rw [if_pos rfl, if_pos rfl, zba (by omega)]
      rfl
    | some f =>
     have e2 : runC d (i + 1) = (c, some f) := by simp only [runC, hR, hb, if_true]
     rw [e2] at hnx
     refine Evs.step (h := fun k => spec_l2Upright.j3 k p (pre ++ c.map (fun x => tri (line, x.1, x.2))) (line : Int) (fromI (some f)) (i : Int) true false) (fun k => ?_) (Evs.step (fun k => ?_) hnx)
     ·conv => lhs; unfold spec_l2Upright.j2
      rw [if_pos rfl, decide_eq_false (by simp [fromI])]
     ·conv => lhs; unfold spec_l2Upright.j3
      rw [if_neg (by simp), if_pos rfl, zba (by omega)]
   | false =>
    refine Evs.step (h := fun k => spec_l2Upright.j3 k p (pre ++ c.map (fun x => tri (line, x.1, x.2))) (line : Int) (fromI o) (i : Int) false false) (fun k => ?_) ?_
    ·conv => lhs; unfold spec_l2Upright.j2
     rw [if_neg (by simp)]
    cases o with
    | none =>
     have e2 : runC d (i + 1) = (c, none) := by simp [runC, hR, hb]
     rw [e2] at hnx
     refine Evs.step (fun k => ?_) hnx
     conv => lhs; unfold spec_l2Upright.j3
     rw [if_neg (by simp), if_neg (by simp), if_neg (by simp [fromI]), zba (by omega)]
    | some f =>
     have hf := g2 f rfl
     have e2 : runC d (i + 1) = (c ++ [(f, i - f)], none) := by simp [runC, hR, hb]
     rw [e2] at hnx
     refine Evs.step (fun k => ?_) hnx
     conv => lhs; unfold spec_l2Upright.j3
     have e : wrap64 ((i : Int) - fromI (some f)) = ((i - f : Nat) : Int) := by
      show wrap64 ((i : Int) - (f : Int)) = _
      rw [zan (by omega) (by omega)]; omega
     rw [if_neg (by simp), if_neg (by simp), if_pos (by simp [fromI]), if_pos (by simp; omega), e, zba (by omega)]
     simp [tri, fromI]
theorem up_l0 (p : List ByteArray) (wi : Nat) (h : Mid p wi) (h1 : 1 ≤ p.length) (hw1 : 1 ≤ wi) : ∀ m j, j + 1 + m = wi → Evs (fun k => spec_l2Upright.l0 k p ((trip (difU (zay (zaf p))) p.length j).map tri) ((j + 1 : Nat) : Int)) (upsOf (zay (zaf p)) p.length wi) := by
 have hh := h.high
 have hw := h.wide
 obtain ⟨s, hs⟩ : ∃ s, p[0]? = some s := ⟨_, List.getElem?_eq_getElem (by omega)⟩
 have hsz := h.row s (List.mem_of_getElem? hs)
 have e0 : rdOf ByteArray.empty p 0 = s := zcb (i := 0) hs
 intro m
 induction m with
 | zero =>
  intro j hj
  have e : wi - 1 = j := by omega
  unfold upsOf
  rw [e]
  refine Evs.step (h := fun _ => some ((trip (difU (zay (zaf p))) p.length j).map tri)) (fun k => ?_) (Evs.const _)
  conv => lhs; unfold spec_l2Upright.l0
  rw [if_pos (by omega), e0, if_neg (by omega)]
 | succ m ih =>
  intro j hj
  have hnx := ih (j + 1) (by omega)
  have ht := trip_length (difU (zay (zaf p))) p.length j
  have hm : j * p.length ≤ 100 * 100 := Nat.mul_le_mul (by omega) hh
  have e : (trip (difU (zay (zaf p))) p.length (j + 1)).map tri = (trip (difU (zay (zaf p))) p.length j).map tri ++ (runs (difU (zay (zaf p)) (j + 1)) p.length).map (fun x => tri (j + 1, x.1, x.2)) := by
   simp [trip, Function.comp_def]
  rw [e] at hnx
  have := up_l1 p wi h (j + 1) (by omega) (by omega) ((trip (difU (zay (zaf p))) p.length j).map tri) (by simp; omega) _ hnx p.length 0 (by omega)
  refine Evs.step (fun k => ?_) this
  conv => lhs; unfold spec_l2Upright.l0
  rw [if_pos (by omega), e0, if_pos (by omega)]
  simp [runC, fromI]
theorem l2Upright_ev (p : List ByteArray) (wi : Nat) (h : Mid p wi) (h1 : 1 ≤ p.length) (hw1 : 1 ≤ wi) : Evs (fun k => spec_l2Upright.f k p) (upsOf (zay (zaf p)) p.length wi) := by
 have := up_l0 p wi h h1 hw1 (wi - 1) 0 (by omega)
 refine Evs.congr (fun k => ?_) this
 unfold spec_l2Upright.f
 simp [trip]
def upT (cs : List (List Int)) : List (Nat × Nat × Nat) := trip (difB cs false) cs.length (zah cs - 1)
def levT (cs : List (List Int)) : List (Nat × Nat × Nat) := trip (difB cs true) (zah cs) (cs.length - 1)
theorem PlanFacts.mid {p : List ByteArray} {cs : List (List Int)} {rs : List Rc} (F : PlanFacts p cs rs) : Mid p (zah cs) := by
 have hsm := gridOk_small F.canon.grid
 rw [F.wide] at hsm
 exact ⟨by have := hsm.high; omega, by have := hsm.wide; omega, hsm.row⟩
theorem bne_add (a b : Int) : (97 + a != 97 + b) = (a != b) := by
 rw [Bool.eq_iff_iff, bne_iff_ne, bne_iff_ne]
 omega
theorem up_plan {p : List ByteArray} {cs : List (List Int)} {rs : List Rc} (F : PlanFacts p cs rs) : Evs (fun k => spec_l2Upright.f k p) ((upT cs).map tri) := by
 have o1 := F.ok.h1
 have o2 := F.ok.w1
 have l1 := F.len
 have := l2Upright_ev p (zah cs) F.mid (by omega) o2
 have e : upsOf (zay (zaf p)) p.length (zah cs) = (upT cs).map tri := by
  unfold upsOf upT
  rw [l1]
  congr 1
  refine trip_congr _ fun l i h1 h2 h3 => ?_
  unfold difU difB
  rw [F.nums, valAt_map F.ok.rect _ h3 (by omega), valAt_map F.ok.rect _ h3 (by omega)]
  exact bne_add _ _
 rwa [e] at this
theorem trans_plan {p : List ByteArray} {cs : List (List Int)} {rs : List Rc} (F : PlanFacts p cs rs) : Evs (fun k => spec_l1Trans.f k p) (transOf p (zah cs)) := by
 have o1 := F.ok.h1
 have l1 := F.len
 exact l1Trans_ev p (zah cs) F.mid (by omega)
theorem lev_plan {p : List ByteArray} {cs : List (List Int)} {rs : List Rc} (F : PlanFacts p cs rs) : Evs (fun k => spec_l2Upright.f k (transOf p (zah cs))) ((levT cs).map tri) := by
 have o1 := F.ok.h1
 have o2 := F.ok.w1
 have l1 := F.len
 have hM := mid_trans F.mid
 have := l2Upright_ev (transOf p (zah cs)) p.length hM (by rw [trans_length]; exact o2) (by omega)
 have e : upsOf (zay (zaf (transOf p (zah cs)))) (transOf p (zah cs)).length p.length = (levT cs).map tri := by
  unfold upsOf levT
  rw [l1, trans_length, numsOf_trans, l1]
  congr 1
  refine trip_congr _ fun l i h1 h2 h3 => ?_
  unfold difU difB
  rw [valAt_gridOf h3 (by omega), valAt_gridOf h3 (by omega), F.nums, valAt_map F.ok.rect _ (by omega) h3, valAt_map F.ok.rect _ (by omega) h3]
  exact bne_add _ _
 rwa [e] at this
theorem wallsOf_eq (cs : List (List Int)) : zbp cs = (upT cs).map (mkW false) ++ (levT cs).map (mkW true) := rfl
theorem wall_bound {cs : List (List Int)} {rs : List Rc} (h : FloorOk cs rs) : (upT cs).length ≤ 36 ∧ (levT cs).length ≤ 36 := by
 have q1 := h.h6
 have q2 := h.w6
 have h1 := trip_length (difB cs false) cs.length (zah cs - 1)
 have h2 := trip_length (difB cs true) (zah cs) (cs.length - 1)
 have m1 : (zah cs - 1) * cs.length ≤ 6 * 6 := Nat.mul_le_mul (by omega) q1
 have m2 : (cs.length - 1) * zah cs ≤ 6 * 6 := Nat.mul_le_mul (by omega) q2
 unfold upT levT
 omega
def four (kind : Int) (t : Nat × Nat × Nat) : List Int := [kind, (t.1 : Int), (t.2.1 : Int), (t.2.2 : Int)]
def walls4 (cs : List (List Int)) : List (List Int) := (upT cs).map (four 0) ++ (levT cs).map (four 1)
theorem rdL_map {f : Nat × Nat × Nat → List Int} {L : List (Nat × Nat × Nat)} {i : Nat} {x : Nat × Nat × Nat} (hx : L[i]? = some x) : zbi (L.map f) (i : Int) = f x := by
 unfold zbi
 rw [Int.toNat_natCast, List.getD_eq_getElem?_getD, List.getElem?_map, hx]
 rfl
theorem walls_sl1 (L : List (Nat × Nat × Nat)) (hL : L.length ≤ 1000) (pre : List (List Int)) (hpre : pre.length ≤ 1000) : ∀ m i, i + m = L.length → Evs (fun k => spec_l2Walls.l1 k (pre ++ (L.take i).map (four 1)) (L.map tri) (i : Int)) (pre ++ L.map (four 1)) := by
 intro m
 induction m with
 | zero =>
  intro i hi
  rw [List.take_of_length_le (by omega)]
  refine Evs.step (h := fun _ => some (pre ++ L.map (four 1))) (fun k => ?_) (Evs.const _)
  conv => lhs; unfold spec_l2Walls.l1
  rw [if_neg (by simp; omega)]
 | succ m ih =>
  intro i hi
  obtain ⟨x, hx⟩ : ∃ x, L[i]? = some x := ⟨_, List.getElem?_eq_getElem (by omega)⟩
  have hnx := ih (i + 1) (by omega)
  rw [List.take_add_one, hx, List.map_append, ← List.append_assoc] at hnx
  refine Evs.step (fun k => ?_) hnx
  conv => lhs; unfold spec_l2Walls.l1
  rw [if_pos (by simp; omega)]
  simp only [Option.bind_some]
  rw [rdL_map hx, if_pos (by omega), if_pos (by simp [tri]), if_pos (by simp; omega), zba (by omega)]
  rfl
theorem walls_sl0 {p : List ByteArray} {cs : List (List Int)} {rs : List Rc} (F : PlanFacts p cs rs) : ∀ m i, i + m = (upT cs).length → Evs (fun k => spec_l2Walls.l0 k p (((upT cs).take i).map (four 0)) ((upT cs).map tri) (i : Int)) (walls4 cs) := by
 have hb := wall_bound F.ok
 intro m
 induction m with
 | zero =>
  intro i hi
  rw [List.take_of_length_le (by omega)]
  have := walls_sl1 (levT cs) (by omega) ((upT cs).map (four 0)) (by simp; omega) (levT cs).length 0 (by omega)
  simp only [List.take_zero, List.map_nil, List.append_nil] at this
  refine Evs.step (h := fun k => (spec_l1Trans.f k p).bind fun t498 => ((spec_l2Upright.f k t498).bind fun t501 => (spec_l2Walls.l1 k ((upT cs).map (four 0)) t501 0))) (fun k => ?_) (Evs.bind (trans_plan F) (Evs.bind (lev_plan F) this))
  conv => lhs; unfold spec_l2Walls.l0
  rw [if_neg (by simp; omega)]
 | succ m ih =>
  intro i hi
  obtain ⟨x, hx⟩ : ∃ x, (upT cs)[i]? = some x := ⟨_, List.getElem?_eq_getElem (by omega)⟩
  have hnx := ih (i + 1) (by omega)
  rw [List.take_add_one, hx, List.map_append] at hnx
  refine Evs.step (fun k => ?_) hnx
  conv => lhs; unfold spec_l2Walls.l0
  rw [if_pos (by simp; omega)]
  simp only [Option.bind_some]
  rw [rdL_map hx, if_pos (by omega), if_pos (by simp [tri]), if_pos (by simp; omega), zba (by omega)]
  rfl
theorem l2Walls_ev {p : List ByteArray} {cs : List (List Int)} {rs : List Rc} (F : PlanFacts p cs rs) : Evs (fun k => spec_l2Walls.f k p) (walls4 cs) := by
 have := walls_sl0 F (upT cs).length 0 (by omega)
 refine Evs.congr (h := fun k => (spec_l2Upright.f k p).bind fun t485 => (spec_l2Walls.l0 k p (([] : List (List Int))) t485 0)) (fun k => rfl) (Evs.bind (up_plan F) ?_)
 simpa using this
def allT (cs : List (List Int)) : List (Nat × Nat × Nat) := upT cs ++ levT cs
theorem floor_sum {p : List ByteArray} {cs : List (List Int)} {rs : List Rc} (h : floorF p = some (cs, rs)) : zcd rs = (p.length : Int) * (zah (zaf p) : Int) := by
 have F := floor_facts h
 rw [floorF_grid F.canon.grid] at h
 split at h
 ·rename_i hc
  rw [F.rooms]
  exact hc.2.1
 ·cases h
theorem count_conv (rows : List (List Int)) (wi : Nat) (x : Int) (b : Rc) : ∀ n, (∀ m, m < n → zcp rows wi m = x → inBox b wi m) → zcg rows wi x n = countB b wi n → ∀ m, m < n → inBox b wi m → zcp rows wi m = x
 | 0, _, _, m, hm, _ => by omega
 | n + 1, h, he, m, hm, hb => by
  have hle := countN_le_B rows wi x b n (fun m hm => h m (by omega))
  simp only [zcg, countB] at he
  by_cases hx : zcp rows wi n = x
  ·rw [if_pos hx, if_pos (h n (by omega) hx)] at he
   rcases Nat.lt_or_eq_of_le (Nat.lt_succ_iff.1 hm) with h1 | h1
   ·exact count_conv rows wi x b n (fun m hm => h m (by omega)) (by omega) m h1 hb
   ·subst h1; exact hx
  ·rw [if_neg hx] at he
   by_cases hbn : inBox b wi n
   ·rw [if_pos hbn] at he; omega
   ·rw [if_neg hbn] at he
    rcases Nat.lt_or_eq_of_le (Nat.lt_succ_iff.1 hm) with h1 | h1
    ·exact count_conv rows wi x b n (fun m hm => h m (by omega)) he m h1 hb
    ·subst h1; exact absurd hb hbn
theorem room_cells {p : List ByteArray} {cs : List (List Int)} {rs : List Rc} (h : floorF p = some (cs, rs)) (i : Nat) (hi : i < rs.length) (r c : Nat) (hr : r < cs.length) (hc : c < zah cs) :
  zay cs r c = (i : Int) ↔ ((rs.getD i zcm).f0 ≤ r ∧ (r : Int) < (rs.getD i zcm).f0 + (rs.getD i zcm).f2 ∧ (rs.getD i zcm).f1 ≤ c ∧ (c : Int) < (rs.getD i zcm).f1 + (rs.getD i zcm).f3) := by
 have F := floor_facts h
 have hsum := floor_sum h
 have hrs := F.rooms
 have hfull := full_iff F.canon
 rw [← hrs, decide_eq_true hsum, List.all_eq_true] at hfull
 have hf := of_decide_eq_true (hfull i (List.mem_range.2 hi))
 rw [← hrs] at hf
 have hs := F.canon.shape
 obtain ⟨x, hx, hb, hbd⟩ := rooms_box hs i (by rw [← hrs]; exact hi)
 rw [zbn, ← hrs] at hb hbd
 have hiff : ∀ m, m < p.length * zah (zaf p) → (zcp (zaf p) (zah (zaf p)) m = (i : Int) ↔ zay (zaf p) (m / zah (zaf p)) (m % zah (zaf p)) = x) := fun m hm => by
  rw [F.canon.cell m hm]
  exact idx_iff (ordAll_nodup _) hx (cell_mem hs m (by rw [zbn]; exact hm))
 have hin : ∀ m, m < p.length * zah (zaf p) → zcp (zaf p) (zah (zaf p)) m = (i : Int) → inBox (rs.getD i zcm) (zah (zaf p)) m := fun m hm hv => hb.ins m hm ((hiff m hm).1 hv)
 have hcb := countB_all (rs.getD i zcm) p.length (zah (zaf p)) hbd
 have hconv := count_conv _ _ _ _ _ hin (hf.trans hcb.symm)
 rw [F.wide] at hin hconv
 have hm : r * zah cs + c < p.length * zah cs := by
  rw [F.len]
  have : (r + 1) * zah cs ≤ cs.length * zah cs := Nat.mul_le_mul_right _ hr
  rw [Nat.succ_mul] at this
  omega
 obtain ⟨d1, d2⟩ := divmod_of (r := r) hc
 have hcell : zcp (zaf p) (zah cs) (r * zah cs + c) = zay cs r c := by
  unfold zcp
  rw [d1, d2, F.nums, valAt_map F.ok.rect _ hr hc]
  omega
 have hib : inBox (rs.getD i zcm) (zah cs) (r * zah cs + c) ↔ ((rs.getD i zcm).f0 ≤ r ∧ (r : Int) < (rs.getD i zcm).f0 + (rs.getD i zcm).f2 ∧ (rs.getD i zcm).f1 ≤ c ∧ (c : Int) < (rs.getD i zcm).f1 + (rs.getD i zcm).f3) := by unfold inBox; rw [d1, d2]
 rw [← hcell, ← hib]
 exact ⟨hin _ hm, hconv _ hm⟩
end Go.Proofs.Ytoijjkhdfooapaa.Hd
namespace Go.Proofs.Ytoijjkhdfooapaa.Hd
open Go.RowKit Go.Shelf Go.PW.PrintWords Go.PW.PrintLast Go.PW.PrintMore Go.Proofs.Ytoijjkhdfooapaa.PB
def renC : Go.Shelf.Ren := ⟨fun | 20 => 67 | n => n, fun | 0 => 0 | 3 => 3 | 4 => 4 | 22 => 34 | n => n, fun n => n⟩
theorem lays20 : Lays2.n20 Try.prog renC := { mixed := by kernel_rfl, f20 := Try.func67.trans (congrArg some (by kernel_rfl)), t0 := Try.underlying0, a0 := Try.isAgg0, z0 := Try.sizeOf0, v0 := Try.zeroValue0, t3 := Try.underlying3, a3 := Try.isAgg3, z3 := Try.sizeOf3, v3 := Try.zeroValue3, t4 := Try.underlying4, a4 := Try.isAgg4, z4 := Try.sizeOf4, v4 := Try.zeroValue4, t22 := Try.underlying34, a22 := Try.isAgg34, z22 := Try.sizeOf34, v22 := Try.zeroValue34, i3 := by kernel_rfl }
theorem compact_le (xs : List Int) : (Go.Lib.compact xs).length ≤ xs.length := by
 unfold Go.Lib.compact Go.Lib.compactUpTo
 rw [List.length_map]
 have := List.length_filter_le (Go.Lib.keeps xs.toArray) (List.range xs.length)
 rw [List.length_range] at this
 exact this
theorem putRow_heap (w : World) (g : Nat) (D : Array Int) (cur : Array Value) (e : TypeId) (hh : w.heap[g]? = some (.cells cur e (0, 0))) : (Go.Sort.putRow (Value.int .i64) w g 0 D).heap[g]? = some (.cells (Go.Sort.putCells (Value.int .i64) 0 D cur) e (0, 0)) := by
 unfold Go.Sort.putRow Go.Sort.mapBlock
 rw [Array.getElem?_modify, if_pos rfl, hh]
 rfl
theorem putRow_other (w : World) (g k : Nat) (D : Array Int) (hk : k ≠ g) : (Go.Sort.putRow (Value.int .i64) w g 0 D).heap[k]? = w.heap[k]? := by
 unfold Go.Sort.putRow Go.Sort.mapBlock
 rw [Array.getElem?_modify, if_neg (Ne.symm hk)]
theorem put_take (xs : List Int) (L : List Int) (cur : Array Value) (hl : L.length ≤ cur.size) (z : Nat) : (Go.Sort.putCells (Value.int .i64) 0 (L ++ List.replicate z 0).toArray cur).toList.take L.length = encs (Value.int .i64) L := by
 apply List.ext_getElem?
 intro i
 rw [List.getElem?_take]
 unfold Go.Sort.putCells
 by_cases hi : i < L.length
 ·rw [if_pos hi]
  simp only [Array.toList_mapIdx, List.getElem?_mapIdx, encs, List.getElem?_map]
  obtain ⟨u, h1⟩ : ∃ u, cur.toList[i]? = some u := ⟨_, List.getElem?_eq_getElem (show i < cur.toList.length by rw [Array.length_toList]; omega)⟩
  rw [h1, List.getElem?_eq_getElem hi]
  simp only [Option.map_some]
  rw [if_pos (by simp; omega)]
  congr 2
  rw [Nat.sub_zero, getElem!_pos _ i (by simp; omega)]
  simp [hi]
 ·rw [if_neg hi, List.getElem?_eq_none (by rw [encs, List.length_map]; omega)]
set_option maxHeartbeats 1000000 in
theorem compact_calls (xs : List Int) (v : Value) (w : World) (base : Nat) (ok : Nat → Prop) (h : Kd.R (Kd.int .i64) 3 w base ok v xs) :
  Calls Try.prog 67 #[v] w fun e w' => ∃ v', e = .returned v' ∧ Kd.R (Kd.int .i64) 3 w' base ok v' (Go.Lib.compact xs) ∧ w.grownBy w' v.ownBlock ∧ v'.ownBlock = v.ownBlock := by
 have hok := h.1
 have hown := Kd.own_of_R h
 rcases hown.2 with ⟨hv, hx0⟩ | ⟨g, cap, cur, hv, hb, hh, hnc, hcm, hcs, htake⟩
 ·obtain ⟨A, c, rfl⟩ := own_slice hown
  have e0 : xs.length = 0 := hx0
  rw [e0]
  refine (Any.slices_Compact_int_empty lays20 A c w).mono ?_
  rintro e w' ⟨rfl, rfl⟩
  have : xs = [] := List.length_eq_zero_iff.1 e0
  subst this
  exact ⟨_, rfl, h, World.grownBy.refl _ _, rfl⟩
 ·subst hv
  rw [Nat.mul_one] at htake hcs
  have hle := compact_le xs
  have hcm' := hcm
  unfold maxLen at hcm'
  have hH : Go.Sort.Holds (Value.int .i64) w g 0 xs.toArray := by
   intro j hj
   have hj : j < xs.length := by simpa using hj
   rw [Nat.zero_add]
   refine ⟨?_, zav hh j⟩
   rw [cell_of_row w g j cur 3 (0, 0) hh]
   have h1 : (cur.toList.take xs.length)[j]? = some (.int .i64 xs[j]) := by rw [htake]; simp [encs, hj]
   rw [List.getElem?_take, if_pos hj] at h1
   rw [getElem!_pos _ j (by simpa using hj)]
   simpa using h1
  refine (Any.slices_Compact_int lays20 g 0 cap xs w hH (by omega) (by omega)).mono ?_
  rintro e w' ⟨rfl, q, rfl⟩
  refine ⟨_, rfl, Kd.R_of_own ⟨by rw [encs_length, Nat.mul_one], .inr ⟨g, cap, _, rfl, hb, putRow_heap _ g _ cur 3 hh, by omega, hcm, by simp [Go.Sort.putCells, hcs], ?_⟩⟩ hok, ?_, rfl⟩
  ·rw [Nat.mul_one]
   exact put_take xs _ cur (by omega) _
  ·refine ⟨rfl, rfl, rfl, by simp [Go.Sort.putRow, Go.Sort.mapBlock, Go.Sort.ahead], fun k _ hk => ?_⟩
   have hk : k ≠ g := fun e => hk (by rw [e]; rfl)
   exact putRow_other _ g k _ hk
def putL (L : List Int) (x : Int) : List Int := if L.getLast? = some x then L else L ++ [x]
def foldP (xs : List Int) : List Int := xs.foldl putL []
theorem foldP_snoc (xs : List Int) (x : Int) : foldP (xs ++ [x]) = putL (foldP xs) x := by simp [foldP]
theorem foldP_last (xs : List Int) (x : Int) : (foldP (xs ++ [x])).getLast? = some x := by
 rw [foldP_snoc]
 unfold putL
 split
 ·assumption
 ·simp
theorem upTo_eq (d : Array Int) : ∀ m, m ≤ d.size → Go.Lib.compactUpTo d m = foldP (d.toList.take m)
 | 0, _ => by simp [Go.Lib.compactUpTo, foldP]
 | m + 1, hm => by
  have ih := upTo_eq d m (by omega)
  have e : d.toList.take (m + 1) = d.toList.take m ++ [d[m]!] := by
   rw [List.take_add_one, getElem!_pos d m (by omega)]
   simp [show m < d.size by omega]
  unfold Go.Lib.compactUpTo at ih ⊢
  rw [List.range_succ, List.filter_append, List.map_append, ih, e, foldP_snoc]
  unfold putL
  rcases Nat.eq_zero_or_pos m with h0 | h0
  ·subst h0
   simp [Go.Lib.keeps, foldP]
  ·have e2 : d.toList.take m = d.toList.take (m - 1) ++ [d[m - 1]!] := by
    have : d.toList.take (m - 1 + 1) = d.toList.take (m - 1) ++ [d[m - 1]!] := by
     rw [List.take_add_one, getElem!_pos d (m - 1) (by omega)]
     simp [show m - 1 < d.size by omega]
    rwa [show m - 1 + 1 = m by omega] at this
   have hl : (foldP (d.toList.take m)).getLast? = some d[m - 1]! := by rw [e2]; exact foldP_last _ _
   rw [hl]
   by_cases hd : d[m]! = d[m - 1]!
   ·rw [if_pos (by rw [hd])]
    simp [Go.Lib.keeps_neg h0 hd]
   ·rw [if_neg (fun z => hd (Option.some.inj z).symm)]
    simp [Go.Lib.keeps_pos hd]
theorem compact_fold (xs : List Int) : Go.Lib.compact xs = foldP xs := by
 unfold Go.Lib.compact
 have := upTo_eq xs.toArray xs.length (by simp)
 rw [this]
 simp
end Go.Proofs.Ytoijjkhdfooapaa.Hd
namespace Go.Proofs.Ytoijjkhdfooapaa.Hd
open Go.RowKit Go.PW.PrintWords Go.PW.PrintLast Go.PW.PrintMore Go.Proofs.Ytoijjkhdfooapaa.PB
abbrev kWl := k60
def zeroW : Wl := ⟨false, 0, 0, 0⟩
theorem wl_cells {W : World} {B g n cap : Nat} {ok : Nat → Prop} {ws : List Wl} (h : Kd.R kWl 60 W B ok (.slice (some ⟨g, 0, none⟩) n cap) ws) (k : Nat) (hk : k < ws.length) :
  W.cell? ⟨g, k * 4, none⟩ = some (.bool (ws.getD k zeroW).f0) ∧ W.cell? ⟨g, k * 4 + 1, none⟩ = some (.int .i64 (ws.getD k zeroW).f1) ∧ W.cell? ⟨g, k * 4 + 2, none⟩ = some (.int .i64 (ws.getD k zeroW).f2) ∧ W.cell? ⟨g, k * 4 + 3, none⟩ = some (.int .i64 (ws.getD k zeroW).f3) := by
 obtain ⟨A, c, e, hl, hC⟩ := Kd.R_reads h
 injection e with e1 e2 e3
 subst e1; subst e2
 obtain ⟨ad, e4, h0, h1, h2, h3⟩ := at_T60 hC (k : Int) (by omega) (by omega)
 injection e4 with e4
 subst e4
 have e5 : zbw ws (k : Int) = ws.getD k zeroW := by
  unfold zbw
  rw [show ((k : Int).toNat) = k by omega]
  rfl
 rw [show ((k : Int).toNat) = k by omega, add_plain, e5] at h0 h1 h2 h3
 exact ⟨h0, h1, h2, h3⟩
theorem wallsOf_length (cs : List (List Int)) : (zbp cs).length = (allT cs).length := by simp [wallsOf_eq, allT]
theorem wallsOf_bound {cs : List (List Int)} {rs : List Rc} (h : FloorOk cs rs) : (zbp cs).length ≤ 72 := by
 have := wall_bound h
 rw [wallsOf_length]
 unfold allT
 rw [List.length_append]
 omega
def zck (cs : List (List Int)) : List (Bool × Nat × Nat × Nat) := (upT cs).map (fun t => (false, t)) ++ (levT cs).map (fun t => (true, t))
theorem wallsP_walls (cs : List (List Int)) : zbp cs = (zck cs).map fun x => mkW x.1 x.2 := by
 unfold zck
 rw [wallsOf_eq, List.map_append, List.map_map, List.map_map]
 rfl
theorem wallsP_ok {cs : List (List Int)} {rs : List Rc} (h : FloorOk cs rs) (i : Nat) (hi : i < (zck cs).length) : ∃ lv l f n, (zck cs)[i]? = some (lv, l, f, n) ∧ 1 ≤ l ∧ l < linesOf cs lv ∧ f + n ≤ zbq cs lv ∧ 1 ≤ n ∧ linesOf cs lv ≤ 6 ∧ zbq cs lv ≤ 6 := by
 have q1 := h.h6
 have q2 := h.w6
 have q3 := h.h1
 have q4 := h.w1
 have hm := List.getElem_mem hi
 rw [List.getElem?_eq_getElem hi]
 generalize (zck cs)[i] = x at *
 unfold zck at hm
 rcases List.mem_append.1 hm with hm | hm
 ·obtain ⟨⟨l, f, n⟩, hx, rfl⟩ := List.mem_map.1 hm
  have := trip_in _ _ _ _ hx
  exact ⟨false, l, f, n, rfl, by simp only [linesOf, zbq, Bool.false_eq_true, if_false]; dsimp only at this; omega⟩
 ·obtain ⟨⟨l, f, n⟩, hx, rfl⟩ := List.mem_map.1 hm
  have := trip_in _ _ _ _ hx
  exact ⟨true, l, f, n, rfl, by simp only [linesOf, zbq, if_true]; dsimp only at this; omega⟩
theorem wallsP_get {cs : List (List Int)} {i : Nat} {x : Bool × Nat × Nat × Nat} (h : (zck cs)[i]? = some x) : (zbp cs).getD i zeroW = mkW x.1 x.2 := by
 rw [wallsP_walls, List.getD_eq_getElem?_getD, List.getElem?_map, h]
 rfl
theorem wallsP_length (cs : List (List Int)) : (zck cs).length = (zbp cs).length := by rw [wallsP_walls]; simp
def zco (cs : List (List Int)) (lv : Bool) (l f n : Nat) : List Int := (List.range n).map fun j => (sidesOf cs lv l (f + j)).1
def zcn (cs : List (List Int)) (lv : Bool) (l f n : Nat) : List Int := (List.range n).map fun j => (sidesOf cs lv l (f + j)).2
theorem oneSide_succ (cs : List (List Int)) (lv : Bool) (l f n : Nat) : zco cs lv l f (n + 1) = zco cs lv l f n ++ [(sidesOf cs lv l (f + n)).1] := by simp [zco, List.range_succ]
theorem twoSide_succ (cs : List (List Int)) (lv : Bool) (l f n : Nat) : zcn cs lv l f (n + 1) = zcn cs lv l f n ++ [(sidesOf cs lv l (f + n)).2] := by simp [zcn, List.range_succ]
theorem oneSide_length (cs : List (List Int)) (lv : Bool) (l f n : Nat) : (zco cs lv l f n).length = n := by simp [zco]
theorem twoSide_length (cs : List (List Int)) (lv : Bool) (l f n : Nat) : (zcn cs lv l f n).length = n := by simp [zcn]
set_option maxHeartbeats 4000000 in
set_option maxRecDepth 100000 in
theorem along_calls (g : Nat) (cs : List (List Int)) (rs : List Rc) (lv : Bool) (l f n : Nat) (w : World) (hf : FloorAt w g cs rs) (hk : FloorOk cs rs) (h1 : 1 ≤ l) (h2 : l < linesOf cs lv) (h3 : f + n ≤ zbq cs lv) (h4 : linesOf cs lv ≤ 6) (h5 : zbq cs lv ≤ 6) :
  Calls Try.prog 61 #[.pointer (some ⟨g, 0, none⟩), .agg #[.bool lv, .int .i64 (l : Int), .int .i64 (f : Int), .int .i64 (n : Int)]] w fun e w' => ∃ v1 v2 : Value, e = .returned (.tuple #[v1, v2]) ∧ Kd.R (Kd.int .i64) 3 w' w.heap.size (fun k_ => some k_ ≠ (v2 : Value).ownBlock) v1 (foldP (zco cs lv l f n)) ∧ Kd.R (Kd.int .i64) 3 w' w.heap.size (fun k_ => some k_ ≠ (v1 : Value).ownBlock) v2 (foldP (zcn cs lv l f n)) ∧ Below w.heap.size w w' := by
 have HF := zaa.mk hf
 have HSd := zaa.mk (fun j (hj : j < n) => sides_f hk lv l (f + j) h1 h2 (by omega))
 obtain ⟨fn, hw, hfn⟩ : ∃ fn : Int, wrap64 ((f : Int) + (n : Int)) = fn ∧ fn = (f : Int) + (n : Int) := ⟨_, rfl, zan (by omega) (by omega)⟩
 have HFN := zaa.mk hfn
 have HN6 := zaa.mk (show f + n ≤ 6 ∧ n ≤ 6 by omega)
 have HNw := zaa.mk (heap_alloc_new w (.cells #[.bool lv, .int .i64 (l : Int), .int .i64 (f : Int), .int .i64 (n : Int)] 60))
 have HBa := zaa.mk (zac (Below.refl w.heap.size w) (.cells #[.bool lv, .int .i64 (l : Int), .int .i64 (f : Int), .int .i64 (n : Int)] 60))
 clear hf hk h1 h2 h3 h4 h5 hfn
 go_enter Try.func61, Try.ntmps61
 go_wp2
 generalize w.alloc (.cells #[.bool lv, .int .i64 (l : Int), .int .i64 (f : Int), .int .i64 (n : Int)] 60) = wB at *
 have hsz := HBa.out.size
 obtain ⟨gw, hgw⟩ : ∃ gw, gw = w.heap.size := ⟨_, rfl⟩
 rw [← hgw] at HNw ⊢
 have HGW := zaa.mk hgw
 have HSZ := zaa.mk hsz
 clear hgw hsz
 go_loopg [6, 7, 8] n (fun kq v6 v7 v8 w' => ∃ (j : Nat) (x : Int), v8 = .int .i64 x ∧ zaa (x = (f : Int) + (j : Int)) ∧ zaa (j + kq = n) ∧ zaa (Kd.R (Kd.int .i64) 3 w' wB.heap.size (fun k_ => some k_ ≠ (v7 : Value).ownBlock) v6 (zco cs lv l f j)) ∧ zaa (Kd.R (Kd.int .i64) 3 w' wB.heap.size (fun k_ => some k_ ≠ (v6 : Value).ownBlock) v7 (zcn cs lv l f j)) ∧ zaa (Below wB.heap.size wB w'))
 case atStart => exact ⟨0, (f : Int), rfl, ⟨by omega⟩, ⟨by omega⟩, ⟨Kd.R_nil _ _ _ _ _⟩, ⟨Kd.R_nil _ _ _ _ _⟩, ⟨Below.refl _ _⟩⟩
 case round =>
  obtain ⟨j, x, rfl, HX, HKj, HO1, HO2, HB⟩ := hrel
  have hnw := (HB.out.block gw (by have := (Array.getElem?_eq_some_iff.1 HNw.out).1; exact this)).trans HNw.out
  have y0 := (zam hnw 0).trans rfl
  have y1 := (zam hnw 1).trans rfl
  have y2 := (zam hnw 2).trans rfl
  have y3 := (zam hnw 3).trans rfl
  clear hnw
  by_cases hj : j < n
  ·have hlt2 : x < fn := by have := HX.out; have := HFN.out; omega
   have hsf := HSd.out j hj
   rw [show ((f + j : Nat) : Int) = x by have := HX.out; omega] at hsf
   have HN1 := zaa.mk (oneSide_succ cs lv l f j)
   have HN2 := zaa.mk (twoSide_succ cs lv l f j)
   have LM := zaa.mk (show (zco cs lv l f j).length ≤ 6 ∧ (zcn cs lv l f j).length ≤ 6 by rw [oneSide_length, twoSide_length]; have := HN6.out; omega)
   generalize sidesOf cs lv l (f + j) = ab at *
   obtain ⟨a, b⟩ := ab
   have HSF := zaa.mk hsf
   obtain ⟨x', hw3, hx'⟩ : ∃ x' : Int, wrap64 (x + 1) = x' ∧ x' = (f : Int) + ((j + 1 : Nat) : Int) := ⟨_, rfl, by have := HX.out; have := HN6.out; rw [zan (by omega) (by omega)]; omega⟩
   have HX' := zaa.mk hx'
   clear hsf hx'
   generalize zco cs lv l f j = p1 at *
   generalize zcn cs lv l f j = p2 at *
   go_wp2_with (first
    | (go_at_call 94; refine (impl_floor_sides.calls g cs rs lv (l : Int) x a b _ _ ((HF.out.below HBa.out).below HB.out) (Below.refl _ _) HSF.out).mono ?_; rintro e w12 ⟨rfl, -, hb12, -⟩; have n0_ := zaa.mk (Kd.R_below HO1.out hb12); have n1_ := zaa.mk (Kd.R_below HO2.out hb12); have n2_ := zaa.mk (zag HB.out hb12); clear HO1 HO2 HB hb12; have HO1 := n0_; have HO2 := n1_; have HB := n2_; clear n0_ n1_ n2_)
    | ((with_reducible refine zaq (b := .append) (xs := #[.tmp 32, .tmp 34]) rfl ?_); at_builtin; refine Kd.R_append (Kd.int .i64) (w0 := wB) wB.heap.size rfl (.tmp 32) (.tmp 34) 34 3 (.int .i64 0) 8 rfl Try.underlying34 info3 rfl (by decide) (by omega) u6 p1 a [.int .i64 a] (fun k_ => some k_ ≠ (u7 : Value).ownBlock) (fun _ => False) rfl rfl ?aP (fun _ hk => hk.elim) ?aF ?aO ?aB ?aS ?aL ?_; (case aP => exact rfl); (case aB => exact (by repeat (first | (with_reducible first | exact HB.out | apply zac | apply zab | apply zad) | exact HB.out))); (case aF => exact (fun k_ hk => Kd.fresh' (Kd.R_lt (by (with_reducible repeat (first | apply Kd.R_alloc | apply Kd.R_drewN | apply Kd.R_drew)); exact HO2.out)) k_ hk)); (case aO => exact (by (with_reducible repeat (first | apply Kd.R_alloc | apply Kd.R_drewN | apply Kd.R_drew)); exact HO1.out)); (case aS => exact (zae (by repeat (first | (with_reducible first | exact HB.out | apply zac | apply zab | apply zad) | exact HB.out)))); (case aL => have := LM.out; omega); intro v35 w35 ho hb hg hat; have n0_ := zaa.mk (Kd.R_after (ok := (fun k_ => True)) (by (with_reducible repeat (first | apply Kd.R_alloc | apply Kd.R_drewN | apply Kd.R_drew)); exact Kd.R_mono HO2.out (fun _ hk => ⟨trivial, hk⟩)) hg hat); have n1_ := zaa.mk (Kd.R_mono n0_.out (fun k_ hk => hk.2)); have n2_ := zaa.mk hb; have n3_ := zaa.mk ho; clear HO1 HO2 HB; have HO2 := n1_; have HO1 := n3_; have HB := n2_; clear n0_ n1_ n2_ n3_; clear ho hb hg hat)
    | ((with_reducible refine zaq (b := .append) (xs := #[.tmp 36, .tmp 38]) rfl ?_); at_builtin; refine Kd.R_append (Kd.int .i64) (w0 := wB) wB.heap.size rfl (.tmp 36) (.tmp 38) 34 3 (.int .i64 0) 8 rfl Try.underlying34 info3 rfl (by decide) (by omega) u7 p2 b [.int .i64 b] (fun k_ => some k_ ≠ (v35 : Value).ownBlock) (fun _ => False) rfl rfl ?aP (fun _ hk => hk.elim) ?aF ?aO ?aB ?aS ?aL ?_; (case aP => exact rfl); (case aB => exact (by repeat (first | (with_reducible first | exact HB.out | apply zac | apply zab | apply zad) | exact HB.out))); (case aF => exact (fun k_ hk => Kd.fresh' (Kd.R_lt (by (with_reducible repeat (first | apply Kd.R_alloc | apply Kd.R_drewN | apply Kd.R_drew)); exact HO1.out)) k_ hk)); (case aO => exact (by (with_reducible repeat (first | apply Kd.R_alloc | apply Kd.R_drewN | apply Kd.R_drew)); exact HO2.out)); (case aS => exact (zae (by repeat (first | (with_reducible first | exact HB.out | apply zac | apply zab | apply zad) | exact HB.out)))); (case aL => have := LM.out; omega); intro v39 w39 ho hb hg hat; have n0_ := zaa.mk (Kd.R_after (ok := (fun k_ => True)) (by (with_reducible repeat (first | apply Kd.R_alloc | apply Kd.R_drewN | apply Kd.R_drew)); exact Kd.R_mono HO1.out (fun _ hk => ⟨trivial, hk⟩)) hg hat); have n1_ := zaa.mk (Kd.R_mono n0_.out (fun k_ hk => hk.2)); have n2_ := zaa.mk hb; have n3_ := zaa.mk ho; clear HO1 HO2 HB; have HO1 := n1_; have HO2 := n3_; have HB := n2_; clear n0_ n1_ n2_ n3_; clear ho hb hg hat))
   go_roundg (n - (j + 1))
   case measure => have := HKj.out; omega
   case rel => exact ⟨j + 1, x', congrArg (Value.int .i64) hw3, HX', ⟨by have := HKj.out; omega⟩, ⟨by rw [HN1.out]; exact HO1.out⟩, ⟨by rw [HN2.out]; exact HO2.out⟩, HB⟩
  ·have hge2 : ¬ x < fn := by have := HX.out; have := HFN.out; omega
   obtain rfl : j = n := by have := HKj.out; omega
   generalize hp1 : zco cs lv l f j = p1 at *
   generalize hp2 : zcn cs lv l f j = p2 at *
   have HP1 := zaa.mk (show Go.Lib.compact p1 = foldP (zco cs lv l f j) by rw [hp1]; exact compact_fold p1)
   have HP2 := zaa.mk (show Go.Lib.compact p2 = foldP (zcn cs lv l f j) by rw [hp2]; exact compact_fold p2)
   clear hp1 hp2
   go_wp2_with (first
    | (go_at_call 67; (with_reducible refine (compact_calls p1 u6 _ wB.heap.size _ HO1.out).mono ?_); rintro e w20 ⟨v20, rfl, hr20, hg20, he20⟩; have HB20 := zaa.mk (HB.out.grown hg20 HB.out.size (own_base (Kd.own_of_R HO1.out))); have HR20 := zaa.mk hr20; have HO20 := zaa.mk (Kd.R_after (ok := (fun k_ => True)) (Kd.R_mono HO2.out (fun _ hk => ⟨trivial, hk⟩)) hg20 (.inl he20)); clear hr20 hg20 he20)
    | (go_at_call 67; (with_reducible refine (compact_calls p2 u7 _ wB.heap.size _ HO20.out).mono ?_); rintro e w21 ⟨v21, rfl, hr21, hg21, he21⟩; have HB21 := zaa.mk (HB20.out.grown hg21 HB20.out.size (own_base (Kd.own_of_R HO20.out))); have HR21 := zaa.mk hr21; have HO21 := zaa.mk (Kd.R_after (ok := (fun k_ => True)) (Kd.R_mono HR20.out (fun _ hk => ⟨trivial, hk⟩)) hg21 (.inl he21)); clear hr21 hg21 he21))
   go_ret2
   refine ⟨_, _, rfl, ?_, ?_, zag HBa.out HB21.out⟩
   ·rw [← HP1.out]
    exact Kd.R_mono (Kd.R_lower HO21.out HSZ.out) (fun _ hk => hk.2)
   ·rw [← HP2.out]
    exact Kd.R_mono (Kd.R_lower HR21.out HSZ.out) (fun _ hk => hk.2)
def zbo (p : List ByteArray) (a : Int) : List Int × List Int × Bool := match floorF p with
 | none => ([], [], false)
 | some (cs, _) => if (decide (0 ≤ a) && decide (a < (zbp cs).length)) = true then
   let x := (zck cs).getD a.toNat (false, 0, 0, 0)
   (foldP (zco cs x.1 x.2.1 x.2.2.1 x.2.2.2), foldP (zcn cs x.1 x.2.1 x.2.2.1 x.2.2.2), true) else ([], [], false)
set_option maxHeartbeats 4000000 in
set_option maxRecDepth 100000 in
theorem WallSides_calls (A0 : Option Addr) (c0 : Nat) (l0 : List ByteArray) (a : Int) (w : World) (hr0 : Kd.C Kd.string w A0 l0.length l0) (hc0 : l0.length ≤ c0) (hp : smallP l0) :
  Calls Try.prog 29 #[.slice A0 l0.length c0, .int .i64 a] w fun e w' => ∃ v1 v2 : Value, e = .returned (.tuple #[v1, v2, .bool (zbo l0 a).2.2]) ∧ Kd.R (Kd.int .i64) 3 w' w.heap.size (fun k_ => some k_ ≠ (v2 : Value).ownBlock) v1 (zbo l0 a).1 ∧ Kd.R (Kd.int .i64) 3 w' w.heap.size (fun k_ => some k_ ≠ (v1 : Value).ownBlock) v2 (zbo l0 a).2.1 ∧ Below w.heap.size w w' := by
 have HR := zaa.mk hr0
 have HC := zaa.mk hc0
 have HP := zaa.mk hp
 clear hr0 hc0 hp
 generalize hM : zbo l0 a = res
 have HM := zaa.mk hM
 clear hM
 generalize hF : floorF l0 = t
 have HF := zaa.mk hF
 clear hF
 rcases t with _ | ⟨cs, rs⟩
 ·have e : res = ([], [], false) := by rw [← HM.out]; unfold zbo; rw [HF.out]
  subst e
  go_enter Try.func29, Try.ntmps29
  go_wp2_with (first
   | (go_at_call 55; refine (floorOf_calls A0 c0 l0 _ HR.out HC.out HP.out).mono ?_; rw [HF.out]; rintro e w8 ⟨hb8, v8, b8, rfl, rfl⟩; have HB8 := zaa.mk hb8; clear hb8))
  go_ret3
  exact ⟨_, _, rfl, Kd.R_nil _ _ _ _ _, Kd.R_nil _ _ _ _ _, HB8.out⟩
 ·have e : res = if (decide (0 ≤ a) && decide (a < (zbp cs).length)) = true then
    (foldP (zco cs ((zck cs).getD a.toNat (false, 0, 0, 0)).1 ((zck cs).getD a.toNat (false, 0, 0, 0)).2.1 ((zck cs).getD a.toNat (false, 0, 0, 0)).2.2.1 ((zck cs).getD a.toNat (false, 0, 0, 0)).2.2.2), foldP (zcn cs ((zck cs).getD a.toNat (false, 0, 0, 0)).1 ((zck cs).getD a.toNat (false, 0, 0, 0)).2.1 ((zck cs).getD a.toNat (false, 0, 0, 0)).2.2.1 ((zck cs).getD a.toNat (false, 0, 0, 0)).2.2.2), true) else ([], [], false) := by
   rw [← HM.out]
   unfold zbo
   rw [HF.out]
  have hok := floorF_ok HF.out
  have HOK := zaa.mk hok
  obtain ⟨K, hK⟩ := walls_ev hok
  have HW := zaa.mk (hK K (Nat.le_refl K))
  have HL := zaa.mk (wallsOf_bound hok)
  by_cases ha0 : 0 ≤ a
  ·obtain ⟨i, rfl⟩ := Int.eq_ofNat_of_zero_le ha0
   by_cases hi : i < (zbp cs).length
   ·obtain ⟨lv, l, f, n, hP, k1, k2, k3, k4, k5, k6⟩ := wallsP_ok hok i (by rw [wallsP_length]; exact hi)
    have hg := wallsP_get (cs := cs) (i := i) hP
    have HG := zaa.mk hg
    rw [if_pos (by rw [decide_eq_true (show (0 : Int) ≤ (i : Int) by omega), decide_eq_true (show (i : Int) < (zbp cs).length by omega)]; rfl), Int.toNat_natCast, List.getD_eq_getElem?_getD, hP] at e
    have HE := zaa.mk (show res = (foldP (zco cs lv l f n), foldP (zcn cs lv l f n), true) from e)
    have HAl := zaa.mk (fun (g : Nat) (W : World) (hf : FloorAt W g cs rs) => along_calls g cs rs lv l f n W hf hok k1 k2 k3 k5 k6)
    have hlt : (i : Int) < ((zbp cs).length : Int) := by omega
    have HI := zaa.mk hi
    clear hK e hok hg k1 k2 k3 k4 k5 k6 hP hi
    generalize zbp cs = ws at *
    have hge : ((ws.length : Int) ≤ (i : Int)) = False := eq_false (by omega)
    have d1 : decide ((ws.length : Int) ≤ (i : Int)) = false := decide_eq_false (by omega)
    go_enter Try.func29, Try.ntmps29
    go_wp2_with (first
     | (go_at_call 55; refine (floorOf_calls A0 c0 l0 _ HR.out HC.out HP.out).mono ?_; rw [HF.out]; rintro e w8 ⟨hb8, v8, b8, rfl, rfl, g, rfl, hfl⟩; have HB8 := zaa.mk hb8; have HFl8 := zaa.mk hfl; clear hb8 hfl)
     | (go_at_call 57; refine (impl_floor_walls.calls K g cs rs ws _ _ HFl8.out (Below.refl _ _) HW.out).mono ?_; rintro e w9 ⟨v9, rfl, hr9, -, hb9, -⟩; obtain ⟨A8, c8, e8⟩ := Kd.R_slice hr9; subst e8; have HB9 := zaa.mk (zag HB8.out hb9); have HF9 := zaa.mk (HFl8.out.below hb9); clear hb9 hr9)
     | (go_at_call 57; refine (impl_floor_walls.calls K g cs rs ws _ _ HF9.out (Below.refl _ _) HW.out).mono ?_; rintro e w10 ⟨v10, rfl, hr10, -, hb10, -⟩; obtain ⟨g9, c9, e9, -, -, -, -⟩ := Kd.R_form hr10 (by have := HI.out; omega); subst e9; obtain ⟨z0, z1, z2, z3⟩ := wl_cells hr10 i HI.out; rw [HG.out] at z0 z1 z2 z3; simp only [mkW] at z0 z1 z2 z3; have HB10 := zaa.mk (zag HB9.out hb10); have HF10 := zaa.mk (HF9.out.below hb10); clear hb10 hr10)
     | (go_at_call 61; refine (HAl.out g _ HF10.out).mono ?_; rintro e w11 ⟨v11, v12, rfl, hr11, hr12, hb11⟩; have HB11 := zaa.mk (zag HB10.out hb11); have HR11 := zaa.mk (Kd.R_lower hr11 HB10.out.size); have HR12 := zaa.mk (Kd.R_lower hr12 HB10.out.size); clear hb11 hr11 hr12))
    go_ret3
    rw [HE.out]
    exact ⟨_, _, rfl, HR11.out, HR12.out, HB11.out⟩
   ·rw [if_neg (by rw [decide_eq_false (show ¬ (i : Int) < (zbp cs).length by omega), Bool.and_false]; simp)] at e
    have HE := zaa.mk e
    clear hK e hok
    generalize zbp cs = ws at *
    have d1 : decide ((ws.length : Int) ≤ (i : Int)) = true := decide_eq_true (by omega)
    go_enter Try.func29, Try.ntmps29
    go_wp2_with (first
     | (go_at_call 55; refine (floorOf_calls A0 c0 l0 _ HR.out HC.out HP.out).mono ?_; rw [HF.out]; rintro e w8 ⟨hb8, v8, b8, rfl, rfl, g, rfl, hfl⟩; have HB8 := zaa.mk hb8; have HFl8 := zaa.mk hfl; clear hb8 hfl)
     | (go_at_call 57; refine (impl_floor_walls.calls K g cs rs ws _ _ HFl8.out (Below.refl _ _) HW.out).mono ?_; rintro e w9 ⟨v9, rfl, hr9, -, hb9, -⟩; obtain ⟨A8, c8, e8⟩ := Kd.R_slice hr9; subst e8; have HB9 := zaa.mk (zag HB8.out hb9); clear hb9 hr9))
    go_ret3
    rw [HE.out]
    exact ⟨_, _, rfl, Kd.R_nil _ _ _ _ _, Kd.R_nil _ _ _ _ _, HB9.out⟩
  ·rw [if_neg (by rw [decide_eq_false ha0]; simp)] at e
   have HE := zaa.mk e
   have hneg : a < 0 := by omega
   clear hK e hok ha0
   go_enter Try.func29, Try.ntmps29
   go_wp2_with (first
    | (go_at_call 55; refine (floorOf_calls A0 c0 l0 _ HR.out HC.out HP.out).mono ?_; rw [HF.out]; rintro e w8 ⟨hb8, v8, b8, rfl, rfl, g, rfl, hfl⟩; have HB8 := zaa.mk hb8; have HFl8 := zaa.mk hfl; clear hb8 hfl))
   go_ret3
   rw [HE.out]
   exact ⟨_, _, rfl, Kd.R_nil _ _ _ _ _, Kd.R_nil _ _ _ _ _, HB8.out⟩
def impl_WallSides.f (l0 : List ByteArray) (a1 : Int) : Option (List Int × List Int × Bool) := if smallB l0 = true then some (zbo l0 a1) else none
theorem impl_WallSides.calls (A0 : Option Addr) (c0 : Nat) (l0 : List ByteArray) (a1 : Int) (r1 : List Int) (r2 : List Int) (r3 : Bool) (w : World) (hr0 : Kd.C Kd.string w A0 l0.length l0) (hc0 : l0.length ≤ c0) (h : impl_WallSides.f l0 a1 = some (r1, r2, r3)) :
  Calls Try.prog 29 #[.slice A0 l0.length c0, .int .i64 a1] w fun e w' => ∃ v0_ v1_ : Value, e = .returned (.tuple #[v0_, v1_, .bool r3]) ∧ Kd.R (Kd.int .i64) 3 w' w.heap.size (fun k_ => some k_ ≠ (v1_ : Value).ownBlock) v0_ r1 ∧ Kd.R (Kd.int .i64) 3 w' w.heap.size (fun k_ => some k_ ≠ (v0_ : Value).ownBlock) v1_ r2 ∧ Below w.heap.size w w' := by
 unfold impl_WallSides.f at h
 split at h
 ·rename_i hs
  have e := Option.some.inj h
  have := WallSides_calls A0 c0 l0 a1 w hr0 hc0 ((smallB_iff _).1 hs)
  rw [e] at this
  exact this
 ·cases h
end Go.Proofs.Ytoijjkhdfooapaa.Hd
namespace Go.Proofs.Ytoijjkhdfooapaa.SI
open Go.Proofs.Ytoijjkhdfooapaa.PB Go.Proofs.Ytoijjkhdfooapaa.Hd
open Go.RowKit Go.PW.PrintWords Go.PW.PrintLast Go.PW.PrintMore
attribute [local go_sem] zbu zbs zcf zce zbm zbl zbt zbr   -- for this text's walks alone
def errW : Option Int → Value
 | none => .nilIface
 | some c => .iface 0 (.int .i64 c)
theorem zak : errW none = .nilIface := rfl
theorem zaj (c : Int) : errW (some c) = .iface 0 (.int .i64 c) := rfl
theorem info3 : (Try.prog.info? 3).map (fun i => (i.zero, i.size, i.bytes)) = some (some (.int .i64 0), 1, 8) := by kernel_rfl
theorem info5 : (Try.prog.info? 5).map (fun i => (i.zero, i.size, i.bytes)) = some (some (.int .u8 0), 1, 1) := by kernel_rfl
theorem info9 : (Try.prog.info? 9).map (fun i => (i.zero, i.size, i.bytes)) = some (some (.string ⟨#[]⟩), 1, 16) := by kernel_rfl
theorem info34 : (Try.prog.info? 34).map (fun i => (i.zero, i.size, i.bytes)) = some (some (.slice none 0 0), 1, 24) := by kernel_rfl
theorem info60 : (Try.prog.info? 60).map (fun i => (i.zero, i.size, i.bytes)) = some (some (.agg #[(.bool false), (.int .i64 0), (.int .i64 0), (.int .i64 0)]), 4, 32) := by kernel_rfl
def zbi (xs : List (List Int)) (i : Int) : (List Int) := xs.getD i.toNat ([] : List Int)
theorem at_L3 {w : World} {A : Option Addr} {n : Nat} {xs : List (List Int)} (h : Kd.C (Kd.slice 3 (Kd.int .i64)) w A n xs) (i : Int) (h0 : 0 ≤ i) (h1 : i < n) : ∃ ad A0 c0, A = some ad ∧ w.cell? (ad.add i.toNat) = some (.slice A0 (zbi xs i).length c0) ∧ (zbi xs i).length ≤ c0 ∧ (Kd.int .i64).C w A0 (zbi xs i).length (zbi xs i) := by
 obtain ⟨ad, c, e, _, hK, hc0⟩ := Kd.C_get h ([] : List Int) i h0 h1
 have hc : ∀ j u, c[j]? = some u → w.cell? (ad.add (i.toNat * 1 + j)) = some u := hc0
 obtain ⟨A0, c0, rfl, l0, g0⟩ := hK
 exact ⟨ad, A0, c0, e, by have hq := hc 0 _ rfl; rwa [Nat.mul_one, Nat.add_zero] at hq, l0, g0⟩
structure S87 where
 f0 : Int
 f1 : Int
 f2 : Int
 f3 : Int
def z87 : S87 := ⟨(0 : Int), (0 : Int), (0 : Int), (0 : Int)⟩
def k87 : Kd S87 := Kd.iso (Kd.pair (Kd.int .i64) (Kd.pair (Kd.int .i64) (Kd.pair (Kd.int .i64) (Kd.int .i64)))) (fun x : S87 => (x.f0, x.f1, x.f2, x.f3))
theorem k87_open {w : World} {x : S87} {cs : List Value} (h : k87.K w x cs) : cs = [.int .i64 x.f0, .int .i64 x.f1, .int .i64 x.f2, .int .i64 x.f3] := by
 obtain ⟨_, _, rfl, rfl, ⟨_, _, rfl, rfl, ⟨_, _, rfl, rfl, rfl⟩⟩⟩ := h
 exact rfl
theorem k87_mkM (w : World) (base : Nat) (ok : Nat → Prop) (x : S87)  : k87.M w base ok x [.int .i64 x.f0, .int .i64 x.f1, .int .i64 x.f2, .int .i64 x.f3] := ⟨[.int .i64 x.f0], [.int .i64 x.f1, .int .i64 x.f2, .int .i64 x.f3], rfl, rfl, ⟨[.int .i64 x.f1], [.int .i64 x.f2, .int .i64 x.f3], rfl, rfl, ⟨[.int .i64 x.f2], [.int .i64 x.f3], rfl, rfl, rfl⟩⟩⟩
def rd_T87 (xs : List S87) (i : Int) : S87 := xs.getD i.toNat z87
theorem at_T87 {w : World} {A : Option Addr} {n : Nat} {xs : List S87} (h : Kd.C k87 w A n xs) (i : Int) (h0 : 0 ≤ i) (h1 : i < n) : ∃ ad , A = some ad ∧ w.cell? (ad.add (i.toNat * 4)) = some (.int .i64 (rd_T87 xs i).f0) ∧ w.cell? ⟨(ad.add (i.toNat * 4)).block, (ad.add (i.toNat * 4)).off + 1, none⟩ = some (.int .i64 (rd_T87 xs i).f1) ∧ w.cell? ⟨(ad.add (i.toNat * 4)).block, (ad.add (i.toNat * 4)).off + 2, none⟩ = some (.int .i64 (rd_T87 xs i).f2) ∧ w.cell? ⟨(ad.add (i.toNat * 4)).block, (ad.add (i.toNat * 4)).off + 3, none⟩ = some (.int .i64 (rd_T87 xs i).f3) := by
 obtain ⟨ad, c, e, _, hK, hc0⟩ := Kd.C_get h z87 i h0 h1
 have hc : ∀ j u, c[j]? = some u → w.cell? (ad.add (i.toNat * 4 + j)) = some u := hc0
 obtain rfl := k87_open hK
 exact ⟨ad, e, hc 0 _ rfl, by rw [← add_field _ _ 1 (by omega)]; exact hc 1 _ rfl, by rw [← add_field _ _ 2 (by omega)]; exact hc 2 _ rfl, by rw [← add_field _ _ 3 (by omega)]; exact hc 3 _ rfl⟩
structure S60 where
 f0 : Bool
 f1 : Int
 f2 : Int
 f3 : Int
def z60 : S60 := ⟨false, (0 : Int), (0 : Int), (0 : Int)⟩
def k60 : Kd S60 := Kd.iso (Kd.pair Kd.bool (Kd.pair (Kd.int .i64) (Kd.pair (Kd.int .i64) (Kd.int .i64)))) (fun x : S60 => (x.f0, x.f1, x.f2, x.f3))
theorem k60_open {w : World} {x : S60} {cs : List Value} (h : k60.K w x cs) : cs = [.bool x.f0, .int .i64 x.f1, .int .i64 x.f2, .int .i64 x.f3] := by
 obtain ⟨_, _, rfl, rfl, ⟨_, _, rfl, rfl, ⟨_, _, rfl, rfl, rfl⟩⟩⟩ := h
 exact rfl
theorem k60_openM {w : World} {base : Nat} {ok : Nat → Prop} {x : S60} {cs : List Value} (h : k60.M w base ok x cs) : cs = [.bool x.f0, .int .i64 x.f1, .int .i64 x.f2, .int .i64 x.f3] := by
 obtain ⟨_, _, rfl, rfl, ⟨_, _, rfl, rfl, ⟨_, _, rfl, rfl, rfl⟩⟩⟩ := h
 exact rfl
theorem k60_mkM (w : World) (base : Nat) (ok : Nat → Prop) (x : S60)  : k60.M w base ok x [.bool x.f0, .int .i64 x.f1, .int .i64 x.f2, .int .i64 x.f3] := ⟨[.bool x.f0], [.int .i64 x.f1, .int .i64 x.f2, .int .i64 x.f3], rfl, rfl, ⟨[.int .i64 x.f1], [.int .i64 x.f2, .int .i64 x.f3], rfl, rfl, ⟨[.int .i64 x.f2], [.int .i64 x.f3], rfl, rfl, rfl⟩⟩⟩
def zbw (xs : List S60) (i : Int) : S60 := xs.getD i.toNat z60
theorem at_T60 {w : World} {A : Option Addr} {n : Nat} {xs : List S60} (h : Kd.C k60 w A n xs) (i : Int) (h0 : 0 ≤ i) (h1 : i < n) : ∃ ad , A = some ad ∧ w.cell? (ad.add (i.toNat * 4)) = some (.bool (zbw xs i).f0) ∧ w.cell? ⟨(ad.add (i.toNat * 4)).block, (ad.add (i.toNat * 4)).off + 1, none⟩ = some (.int .i64 (zbw xs i).f1) ∧ w.cell? ⟨(ad.add (i.toNat * 4)).block, (ad.add (i.toNat * 4)).off + 2, none⟩ = some (.int .i64 (zbw xs i).f2) ∧ w.cell? ⟨(ad.add (i.toNat * 4)).block, (ad.add (i.toNat * 4)).off + 3, none⟩ = some (.int .i64 (zbw xs i).f3) := by
 obtain ⟨ad, c, e, _, hK, hc0⟩ := Kd.C_get h z60 i h0 h1
 have hc : ∀ j u, c[j]? = some u → w.cell? (ad.add (i.toNat * 4 + j)) = some u := hc0
 obtain rfl := k60_open hK
 exact ⟨ad, e, hc 0 _ rfl, by rw [← add_field _ _ 1 (by omega)]; exact hc 1 _ rfl, by rw [← add_field _ _ 2 (by omega)]; exact hc 2 _ rfl, by rw [← add_field _ _ 3 (by omega)]; exact hc 3 _ rfl⟩
end Go.Proofs.Ytoijjkhdfooapaa.SI
namespace Go.Proofs.Ytoijjkhdfooapaa.SI
open Go.Proofs.Ytoijjkhdfooapaa.PB Go.Proofs.Ytoijjkhdfooapaa.Hd
open Go.RowKit Go.PW.PrintWords Go.PW.PrintLast Go.PW.PrintMore
attribute [local go_sem] zbu zbs zcf zce zbm zbl zbt zbr   -- for this text's walks alone
mutual
def laws_FnExactWallSides.j0 : Nat → List ByteArray → Int → List Int → List Int → Bool → List ByteArray → List Int → List Int → Bool → Bool → Option (Bool)
 | 0, _, _, _, _, _, _, _, _, _, _ => none
 | k + 1, x0, x1, x6, x7, x8, x9, x10, x11, x12, x55 => if x55 = true then (some false) else ((laws_toStringS.f k x0).bind fun t381 => ((laws_eqStringS.f k x9 t381).bind fun t384 => (if t384 = true then ((laws_markStringS.f k x9 1).bind fun bt385 => (if bt385.1 < 0 then (laws_FnExactWallSides.j1 k x0 x1 x6 x7 x8 x10 x11 true) else ((laws_eqIntS.f k x10 x6).bind fun t387 => (if t387 = true then ((laws_eqIntS.f k x11 x7).bind fun t388 => (if t388 = true then (laws_FnExactWallSides.j1 k x0 x1 x6 x7 x8 x10 x11 (x12 != x8)) else (laws_FnExactWallSides.j1 k x0 x1 x6 x7 x8 x10 x11 true))) else (laws_FnExactWallSides.j1 k x0 x1 x6 x7 x8 x10 x11 true))))) else (some false))))
def laws_FnExactWallSides.j1 : Nat → List ByteArray → Int → List Int → List Int → Bool → List Int → List Int → Bool → Option (Bool)
 | 0, _, _, _, _, _, _, _, _ => none
 | k + 1, x0, x1, x6, x7, x8, x10, x11, x82 => if x82 = true then (some false) else ((laws_markIntS.f k x10 1).bind fun bt389 => ((laws_markIntS.f k x11 bt389.1).bind fun bt391 => ((laws_heldIntS.f k bt389.2 1).bind fun t393 => (if t393 < 0 then (some false) else ((laws_heldIntS.f k bt391.2 t393).bind fun t394 => (if t394 < 0 then (some false) else (if t394 = bt391.1 then ((laws_toStringS.f k x0).bind fun t395 => ((impl_WallSides.f t395 x1).bind fun bt398 => ((laws_eqIntS.f k bt398.1 x6).bind fun t405 => (if t405 = true then ((laws_eqIntS.f k bt398.2.1 x7).bind fun t406 => (if t406 = true then (laws_FnExactWallSides.j2 k bt389.2 bt391.2 bt391.1 (bt398.2.2 != x8)) else (laws_FnExactWallSides.j2 k bt389.2 bt391.2 bt391.1 true))) else (laws_FnExactWallSides.j2 k bt389.2 bt391.2 bt391.1 true))))) else (some false))))))))
def laws_FnExactWallSides.j2 : Nat → List Int → List Int → Int → Bool → Option (Bool)
 | 0, _, _, _, _ => none
 | k + 1, x10, x11, x14, x124 => if x124 = true then (some false) else ((laws_heldIntS.f k x10 1).bind fun t407 => (if t407 < 0 then (some false) else ((laws_heldIntS.f k x11 t407).bind fun t408 => (if t408 < 0 then (some false) else (if t408 = x14 then (some true) else (some false))))))
end
def laws_FnExactWallSides.f (k : Nat) (l0 : List ByteArray) (a1 : Int) : Option (Bool) := (laws_szStringS.f k l0 1048576).bind fun t358 => (if t358 < 0 then (some true) else ((laws_toStringS.f k l0).bind fun t359 => ((spec_WallSides.f k t359 a1).bind fun bt362 => ((laws_toStringS.f k l0).bind fun t369 => ((impl_WallSides.f t369 a1).bind fun bt372 => ((laws_eqIntS.f k bt372.1 bt362.1).bind fun t379 => (if t379 = true then ((laws_eqIntS.f k bt372.2.1 bt362.2.1).bind fun t380 => (if t380 = true then (laws_FnExactWallSides.j0 k l0 a1 bt362.1 bt362.2.1 bt362.2.2 t369 bt372.1 bt372.2.1 bt372.2.2 (bt372.2.2 != bt362.2.2)) else (laws_FnExactWallSides.j0 k l0 a1 bt362.1 bt362.2.1 bt362.2.2 t369 bt372.1 bt372.2.1 bt372.2.2 true))) else (laws_FnExactWallSides.j0 k l0 a1 bt362.1 bt362.2.1 bt362.2.2 t369 bt372.1 bt372.2.1 bt372.2.2 true))))))))
set_option maxHeartbeats 8000000 in
set_option maxRecDepth 100000 in
theorem laws_FnExactWallSides.calls (k : Nat) (A0 : Option Addr) (c0 : Nat) (l0 : List ByteArray) (a1 : Int) (r : Bool) (w : World) (hr0 : Kd.C Kd.string w A0 l0.length l0) (hc0 : l0.length ≤ c0) (h : laws_FnExactWallSides.f k l0 a1 = some r) :
  Calls Try.prog 6 #[.slice A0 l0.length c0, .int .i64 a1] w fun e w' => e = .returned (.bool r) ∧ Below w.heap.size w w' := by
 have HR0 := zaa.mk hr0
 have HC0 := zaa.mk hc0
 clear hr0 hc0
 have HB := zaa.mk (Below.refl w.heap.size w)
 have H : ((laws_szStringS.f k l0 1048576).bind fun t358 => (if t358 < 0 then (some true) else ((laws_toStringS.f k l0).bind fun t359 => ((spec_WallSides.f k t359 a1).bind fun bt362 => ((laws_toStringS.f k l0).bind fun t369 => ((impl_WallSides.f t369 a1).bind fun bt372 => ((laws_eqIntS.f k bt372.1 bt362.1).bind fun t379 => (if t379 = true then ((laws_eqIntS.f k bt372.2.1 bt362.2.1).bind fun t380 => (if t380 = true then (laws_FnExactWallSides.j0 k l0 a1 bt362.1 bt362.2.1 bt362.2.2 t369 bt372.1 bt372.2.1 bt372.2.2 (bt372.2.2 != bt362.2.2)) else (laws_FnExactWallSides.j0 k l0 a1 bt362.1 bt362.2.1 bt362.2.2 t369 bt372.1 bt372.2.1 bt372.2.2 true))) else (laws_FnExactWallSides.j0 k l0 a1 bt362.1 bt362.2.1 bt362.2.2 t369 bt372.1 bt372.2.1 bt372.2.2 true))))))))) = some r := h
 clear h
 replace H := Option.bind_eq_some_iff.mp H
 obtain ⟨t358, A30, H⟩ := H
 replace H : (if t358 < 0 then (some true) else ((laws_toStringS.f k l0).bind fun t359 => ((spec_WallSides.f k t359 a1).bind fun bt362 => ((laws_toStringS.f k l0).bind fun t369 => ((impl_WallSides.f t369 a1).bind fun bt372 => ((laws_eqIntS.f k bt372.1 bt362.1).bind fun t379 => (if t379 = true then ((laws_eqIntS.f k bt372.2.1 bt362.2.1).bind fun t380 => (if t380 = true then (laws_FnExactWallSides.j0 k l0 a1 bt362.1 bt362.2.1 bt362.2.2 t369 bt372.1 bt372.2.1 bt372.2.2 (bt372.2.2 != bt362.2.2)) else (laws_FnExactWallSides.j0 k l0 a1 bt362.1 bt362.2.1 bt362.2.2 t369 bt372.1 bt372.2.1 bt372.2.2 true))) else (laws_FnExactWallSides.j0 k l0 a1 bt362.1 bt362.2.1 bt362.2.2 t369 bt372.1 bt372.2.1 bt372.2.2 true)))))))) = some r := H
 have A3 := zaa.mk A30
 clear A30
 by_cases c4 : t358 < 0
 ·rw [if_pos c4] at H
  have c4b0 : decide (t358 < 0) = true := decide_eq_true c4
  clear c4
  obtain rfl := Option.some.inj H
  go_enter Try.func6, Try.ntmps6
  go_wp2_with (first | ((with_reducible refine zai (f := 15) rfl ?_); refine zbc (some 21) rfl rfl Try.func15 (by kernel_rfl) rfl #[.slice A0 l0.length c0, .int .i64 1048576] rfl (by (try simp only [List.map_toArray, List.map_cons, List.map_nil]); first | done | rfl | (simp only [List.length_drop, List.length_take]; rfl)) ?_; (with_reducible refine (laws_szStringS.calls k _ _ l0 1048576 t358 _ ?side1 ?side2 A3.out).mono ?_); (case side1 => repeat (first | exact HR0.out | (with_reducible refine Kd.C_alloc ?_ _) | (with_reducible refine Kd.C_drewN ?_ _) | (with_reducible refine Kd.C_drew ?_))); (case side2 => exact HC0.out); rintro e w' ⟨rfl, ⟨nd, rfl⟩⟩; refine ⟨_, rfl, ?_⟩))
  go_ret
  exact ⟨by first | rfl | (simp [zak, zaj] <;> rfl) | (simp [*, zak, zaj] <;> rfl), by repeat (first | (with_reducible first | exact HB.out | apply zac | apply zab | apply zad) | exact HB.out)⟩
 ·rw [if_neg c4] at H
  have c4b0 : decide (t358 < 0) = false := decide_eq_false c4
  clear c4
  replace H := Option.bind_eq_some_iff.mp H
  obtain ⟨t359, A50, H⟩ := H
  replace H : ((spec_WallSides.f k t359 a1).bind fun bt362 => ((laws_toStringS.f k l0).bind fun t369 => ((impl_WallSides.f t369 a1).bind fun bt372 => ((laws_eqIntS.f k bt372.1 bt362.1).bind fun t379 => (if t379 = true then ((laws_eqIntS.f k bt372.2.1 bt362.2.1).bind fun t380 => (if t380 = true then (laws_FnExactWallSides.j0 k l0 a1 bt362.1 bt362.2.1 bt362.2.2 t369 bt372.1 bt372.2.1 bt372.2.2 (bt372.2.2 != bt362.2.2)) else (laws_FnExactWallSides.j0 k l0 a1 bt362.1 bt362.2.1 bt362.2.2 t369 bt372.1 bt372.2.1 bt372.2.2 true))) else (laws_FnExactWallSides.j0 k l0 a1 bt362.1 bt362.2.1 bt362.2.2 t369 bt372.1 bt372.2.1 bt372.2.2 true)))))) = some r := H
  have A5 := zaa.mk A50
  clear A50
  replace H := Option.bind_eq_some_iff.mp H
  obtain ⟨⟨t362, t363, t364⟩, A60, H⟩ := H
  replace H : ((laws_toStringS.f k l0).bind fun t369 => ((impl_WallSides.f t369 a1).bind fun bt372 => ((laws_eqIntS.f k bt372.1 t362).bind fun t379 => (if t379 = true then ((laws_eqIntS.f k bt372.2.1 t363).bind fun t380 => (if t380 = true then (laws_FnExactWallSides.j0 k l0 a1 t362 t363 t364 t369 bt372.1 bt372.2.1 bt372.2.2 (bt372.2.2 != t364)) else (laws_FnExactWallSides.j0 k l0 a1 t362 t363 t364 t369 bt372.1 bt372.2.1 bt372.2.2 true))) else (laws_FnExactWallSides.j0 k l0 a1 t362 t363 t364 t369 bt372.1 bt372.2.1 bt372.2.2 true))))) = some r := H
  have A6 := zaa.mk A60
  clear A60
  replace H := Option.bind_eq_some_iff.mp H
  obtain ⟨t369, A70, H⟩ := H
  replace H : ((impl_WallSides.f t369 a1).bind fun bt372 => ((laws_eqIntS.f k bt372.1 t362).bind fun t379 => (if t379 = true then ((laws_eqIntS.f k bt372.2.1 t363).bind fun t380 => (if t380 = true then (laws_FnExactWallSides.j0 k l0 a1 t362 t363 t364 t369 bt372.1 bt372.2.1 bt372.2.2 (bt372.2.2 != t364)) else (laws_FnExactWallSides.j0 k l0 a1 t362 t363 t364 t369 bt372.1 bt372.2.1 bt372.2.2 true))) else (laws_FnExactWallSides.j0 k l0 a1 t362 t363 t364 t369 bt372.1 bt372.2.1 bt372.2.2 true)))) = some r := H
  have A7 := zaa.mk A70
  clear A70
  replace H := Option.bind_eq_some_iff.mp H
  obtain ⟨⟨t372, t373, t374⟩, A80, H⟩ := H
  replace H : ((laws_eqIntS.f k t372 t362).bind fun t379 => (if t379 = true then ((laws_eqIntS.f k t373 t363).bind fun t380 => (if t380 = true then (laws_FnExactWallSides.j0 k l0 a1 t362 t363 t364 t369 t372 t373 t374 (t374 != t364)) else (laws_FnExactWallSides.j0 k l0 a1 t362 t363 t364 t369 t372 t373 t374 true))) else (laws_FnExactWallSides.j0 k l0 a1 t362 t363 t364 t369 t372 t373 t374 true))) = some r := H
  have A8 := zaa.mk A80
  clear A80
  have HC9 := zaa.mk H
  clear H
  go_enter Try.func6, Try.ntmps6
  go_upto_region 8 with (first | ((with_reducible refine zai (f := 15) rfl ?_); refine zbc (some 21) rfl rfl Try.func15 (by kernel_rfl) rfl #[.slice A0 l0.length c0, .int .i64 1048576] rfl (by (try simp only [List.map_toArray, List.map_cons, List.map_nil]); first | done | rfl | (simp only [List.length_drop, List.length_take]; rfl)) ?_; (with_reducible refine (laws_szStringS.calls k _ _ l0 1048576 t358 _ ?side1 ?side2 A3.out).mono ?_); (case side1 => repeat (first | exact HR0.out | (with_reducible refine Kd.C_alloc ?_ _) | (with_reducible refine Kd.C_drewN ?_ _) | (with_reducible refine Kd.C_drew ?_))); (case side2 => exact HC0.out); rintro e w' ⟨rfl, ⟨nd, rfl⟩⟩; refine ⟨_, rfl, ?_⟩) | ((with_reducible refine zai (f := 17) rfl ?_); refine zbc (some 26) rfl rfl Try.func17 (by kernel_rfl) rfl #[.slice A0 l0.length c0] rfl (by (try simp only [List.map_toArray, List.map_cons, List.map_nil]); first | done | rfl | (simp only [List.length_drop, List.length_take]; rfl)) ?_; (with_reducible refine (laws_toStringS.calls k _ _ l0 t359 _ ?side1 ?side2 A5.out).mono ?_); (case side1 => repeat (first | exact HR0.out | (with_reducible refine Kd.C_alloc ?_ _) | (with_reducible refine Kd.C_drewN ?_ _) | (with_reducible refine Kd.C_drew ?_))); (case side2 => exact HC0.out); rintro e w10 ⟨v360, rfl, ho0, hb⟩; refine ⟨_, rfl, ?_⟩; have n0_ := zaa.mk (Kd.R_lower ho0 (zae (by repeat (first | (with_reducible first | exact HB.out | apply zac | apply zab | apply zad) | exact HB.out)))); have n1_ := zaa.mk (zag (by repeat (first | (with_reducible first | exact HB.out | apply zac | apply zab | apply zad) | exact HB.out)) hb); clear HB; have HO361 := n0_; have HB := n1_; clear n0_ n1_; (try clear hb); (try clear hb2); (try clear hk); (try clear hi); (try clear ho0); obtain ⟨Ao11, co11, eo11⟩ := Kd.R_slice HO361.out; subst eo11) | ((with_reducible refine zai (f := 28) rfl ?_); refine zbc (some 28) rfl rfl Try.func28 (by kernel_rfl) rfl #[.slice Ao11 t359.length co11, .int .i64 a1] rfl (by (try simp only [List.map_toArray, List.map_cons, List.map_nil]); first | done | rfl | (simp only [List.length_drop, List.length_take]; rfl)) ?_; (with_reducible refine (spec_WallSides.calls k _ _ t359 a1 t362 t363 t364 _ ?side1 ?side2 A6.out).mono ?_); (case side1 => repeat (first | exact (Kd.R_reads' HO361.out).2.2 | (with_reducible refine Kd.C_alloc ?_ _) | (with_reducible refine Kd.C_drewN ?_ _) | (with_reducible refine Kd.C_drew ?_))); (case side2 => exact (Kd.R_reads' HO361.out).2.1); rintro e w12 ⟨v365, v367, rfl, ho0, ho1, hb⟩; refine ⟨_, rfl, ?_⟩; have n0_ := zaa.mk (Kd.R_below (by (with_reducible repeat (first | apply Kd.R_alloc | apply Kd.R_drewN | apply Kd.R_drew)); exact HO361.out) hb); have n1_ := zaa.mk (Kd.R_lower ho0 (zae (by repeat (first | (with_reducible first | exact HB.out | apply zac | apply zab | apply zad) | exact HB.out)))); have n2_ := zaa.mk (Kd.R_lower ho1 (zae (by repeat (first | (with_reducible first | exact HB.out | apply zac | apply zab | apply zad) | exact HB.out)))); have n3_ := zaa.mk (zag (by repeat (first | (with_reducible first | exact HB.out | apply zac | apply zab | apply zad) | exact HB.out)) hb); clear HO361; clear HB; have HO361 := n0_; have HO366 := n1_; have HO368 := n2_; have HB := n3_; clear n0_ n1_ n2_ n3_; (try clear hb); (try clear hb2); (try clear hk); (try clear hi); (try clear ho0); (try clear ho1)) | ((with_reducible refine zai (f := 17) rfl ?_); refine zbc (some 33) rfl rfl Try.func17 (by kernel_rfl) rfl #[.slice A0 l0.length c0] rfl (by (try simp only [List.map_toArray, List.map_cons, List.map_nil]); first | done | rfl | (simp only [List.length_drop, List.length_take]; rfl)) ?_; (with_reducible refine (laws_toStringS.calls k _ _ l0 t369 _ ?side1 ?side2 A7.out).mono ?_); (case side1 => repeat (first | exact (Kd.C_below HR0.out HB.out) | (with_reducible refine Kd.C_alloc ?_ _) | (with_reducible refine Kd.C_drewN ?_ _) | (with_reducible refine Kd.C_drew ?_))); (case side2 => exact HC0.out); rintro e w13 ⟨v370, rfl, ho0, hb⟩; refine ⟨_, rfl, ?_⟩; have n0_ := zaa.mk (Kd.R_elder' (by (with_reducible repeat (first | apply Kd.R_alloc | apply Kd.R_drewN | apply Kd.R_drew)); exact HO361.out) (Kd.R_base ho0) hb); have n1_ := zaa.mk (Kd.R_below (by (with_reducible repeat (first | apply Kd.R_alloc | apply Kd.R_drewN | apply Kd.R_drew)); exact HO366.out) hb); have n2_ := zaa.mk (Kd.R_below (by (with_reducible repeat (first | apply Kd.R_alloc | apply Kd.R_drewN | apply Kd.R_drew)); exact HO368.out) hb); have n3_ := zaa.mk (Kd.R_lower (Kd.R_new' ho0 (Kd.R_lt (by (with_reducible repeat (first | apply Kd.R_alloc | apply Kd.R_drewN | apply Kd.R_drew)); exact HO361.out))) (zae (by repeat (first | (with_reducible first | exact HB.out | apply zac | apply zab | apply zad) | exact HB.out)))); have n4_ := zaa.mk (zag (by repeat (first | (with_reducible first | exact HB.out | apply zac | apply zab | apply zad) | exact HB.out)) hb); clear HO361; clear HO366; clear HO368; clear HB; have HO361 := n0_; have HO366 := n1_; have HO368 := n2_; have HO371 := n3_; have HB := n4_; clear n0_ n1_ n2_ n3_ n4_; (try clear hb); (try clear hb2); (try clear hk); (try clear hi); (try clear ho0); obtain ⟨Ao14, co14, eo14⟩ := Kd.R_slice HO371.out; subst eo14) | ((with_reducible refine zai (f := 29) rfl ?_); refine zbc (some 37) rfl rfl Try.func29 (by kernel_rfl) rfl #[.slice Ao14 t369.length co14, .int .i64 a1] rfl (by (try simp only [List.map_toArray, List.map_cons, List.map_nil]); first | done | rfl | (simp only [List.length_drop, List.length_take]; rfl)) ?_; (with_reducible refine (impl_WallSides.calls _ _ t369 a1 t372 t373 t374 _ ?side1 ?side2 A8.out).mono ?_); (case side1 => repeat (first | exact (Kd.R_reads' HO371.out).2.2 | (with_reducible refine Kd.C_alloc ?_ _) | (with_reducible refine Kd.C_drewN ?_ _) | (with_reducible refine Kd.C_drew ?_))); (case side2 => exact (Kd.R_reads' HO371.out).2.1); rintro e w15 ⟨v375, v377, rfl, ho0, ho1, hb⟩; refine ⟨_, rfl, ?_⟩; have n0_ := zaa.mk (Kd.R_below (by (with_reducible repeat (first | apply Kd.R_alloc | apply Kd.R_drewN | apply Kd.R_drew)); exact HO361.out) hb); have n1_ := zaa.mk (Kd.R_mono (Kd.R_told (Kd.R_told (Kd.R_old (by (with_reducible repeat (first | apply Kd.R_alloc | apply Kd.R_drewN | apply Kd.R_drew)); exact HO366.out) hb) (Kd.R_base ho0)) (Kd.R_base ho1)) (fun _ h_ => h_.1)); have n2_ := zaa.mk (Kd.R_mono (Kd.R_told (Kd.R_told (Kd.R_old (by (with_reducible repeat (first | apply Kd.R_alloc | apply Kd.R_drewN | apply Kd.R_drew)); exact HO368.out) hb) (Kd.R_base ho0)) (Kd.R_base ho1)) (fun _ h_ => h_.1)); have n3_ := zaa.mk (Kd.R_below (by (with_reducible repeat (first | apply Kd.R_alloc | apply Kd.R_drewN | apply Kd.R_drew)); exact HO371.out) hb); have n4_ := zaa.mk (Kd.R_lower (Kd.R_new' (Kd.R_new' ho0 (Kd.R_lt (by (with_reducible repeat (first | apply Kd.R_alloc | apply Kd.R_drewN | apply Kd.R_drew)); exact HO366.out))) (Kd.R_lt (by (with_reducible repeat (first | apply Kd.R_alloc | apply Kd.R_drewN | apply Kd.R_drew)); exact HO368.out))) (zae (by repeat (first | (with_reducible first | exact HB.out | apply zac | apply zab | apply zad) | exact HB.out)))); have n5_ := zaa.mk (Kd.R_lower (Kd.R_new' (Kd.R_new' ho1 (Kd.R_lt (by (with_reducible repeat (first | apply Kd.R_alloc | apply Kd.R_drewN | apply Kd.R_drew)); exact HO366.out))) (Kd.R_lt (by (with_reducible repeat (first | apply Kd.R_alloc | apply Kd.R_drewN | apply Kd.R_drew)); exact HO368.out))) (zae (by repeat (first | (with_reducible first | exact HB.out | apply zac | apply zab | apply zad) | exact HB.out)))); have n6_ := zaa.mk (zag (by repeat (first | (with_reducible first | exact HB.out | apply zac | apply zab | apply zad) | exact HB.out)) hb); clear HO361; clear HO366; clear HO368; clear HO371; clear HB; have HO361 := n0_; have HO366 := n1_; have HO368 := n2_; have HO371 := n3_; have HO376 := n4_; have HO378 := n5_; have HB := n6_; clear n0_ n1_ n2_ n3_ n4_ n5_ n6_; (try clear hb); (try clear hb2); (try clear hk); (try clear hi); (try clear ho0); (try clear ho1)))
  (try simp only [Act.put, List.setIfInBounds_toArray, List.set_cons_zero, List.set_cons_succ])
  go_cut [55] (fun v55 wc => ∃ (kq : Nat) (x55_8 : Bool), v55 = .bool x55_8 ∧ zaa (laws_FnExactWallSides.j0 kq l0 a1 t362 t363 t364 t369 t372 t373 t374 x55_8 = some r) ∧ zaa (kq ≤ k) ∧ zaa (Kd.R (Kd.int .i64) 3 wc w.heap.size (fun k_ => some k_ ≠ (v367 : Value).ownBlock ∧ some k_ ≠ (v375 : Value).ownBlock ∧ some k_ ≠ (v377 : Value).ownBlock) v365 t362) ∧ zaa (Kd.R (Kd.int .i64) 3 wc w.heap.size (fun k_ => some k_ ≠ (v365 : Value).ownBlock ∧ some k_ ≠ (v375 : Value).ownBlock ∧ some k_ ≠ (v377 : Value).ownBlock) v367 t363) ∧ zaa (Kd.R Kd.string 9 wc w.heap.size (fun _ => True) (.slice Ao14 t369.length co14) t369) ∧ zaa (Kd.R (Kd.int .i64) 3 wc w.heap.size (fun k_ => some k_ ≠ (v365 : Value).ownBlock ∧ some k_ ≠ (v367 : Value).ownBlock ∧ some k_ ≠ (v377 : Value).ownBlock) v375 t372) ∧ zaa (Kd.R (Kd.int .i64) 3 wc w.heap.size (fun k_ => some k_ ≠ (v365 : Value).ownBlock ∧ some k_ ≠ (v367 : Value).ownBlock ∧ some k_ ≠ (v375 : Value).ownBlock) v377 t373) ∧ zaa (Below w.heap.size w wc))
  case first =>
   have H := HC9.out
   clear HC9
   replace H := Option.bind_eq_some_iff.mp H
   obtain ⟨t379, A160, H⟩ := H
   replace H : (if t379 = true then ((laws_eqIntS.f k t373 t363).bind fun t380 => (if t380 = true then (laws_FnExactWallSides.j0 k l0 a1 t362 t363 t364 t369 t372 t373 t374 (t374 != t364)) else (laws_FnExactWallSides.j0 k l0 a1 t362 t363 t364 t369 t372 t373 t374 true))) else (laws_FnExactWallSides.j0 k l0 a1 t362 t363 t364 t369 t372 t373 t374 true)) = some r := H
   have A16 := zaa.mk A160
   clear A160
   by_cases c17 : t379 = true
   ·subst c17
    have H1 : ((laws_eqIntS.f k t373 t363).bind fun t380 => (if t380 = true then (laws_FnExactWallSides.j0 k l0 a1 t362 t363 t364 t369 t372 t373 t374 (t374 != t364)) else (laws_FnExactWallSides.j0 k l0 a1 t362 t363 t364 t369 t372 t373 t374 true))) = some r := by rw [if_pos rfl] at H; exact H
    clear H
    have H := H1
    clear H1
    replace H := Option.bind_eq_some_iff.mp H
    obtain ⟨t380, A180, H⟩ := H
    replace H : (if t380 = true then (laws_FnExactWallSides.j0 k l0 a1 t362 t363 t364 t369 t372 t373 t374 (t374 != t364)) else (laws_FnExactWallSides.j0 k l0 a1 t362 t363 t364 t369 t372 t373 t374 true)) = some r := H
    have A18 := zaa.mk A180
    clear A180
    by_cases c19 : t380 = true
    ·subst c19
     have H1 : (laws_FnExactWallSides.j0 k l0 a1 t362 t363 t364 t369 t372 t373 t374 (t374 != t364)) = some r := by rw [if_pos rfl] at H; exact H
     clear H
     have H := H1
     clear H1
     have H' := zaa.mk H
     clear H
     obtain ⟨Ao20, co20, eo20⟩ := Kd.R_slice HO376.out
     subst eo20
     obtain ⟨Ao21, co21, eo21⟩ := Kd.R_slice HO366.out
     subst eo21
     go_wp2_with (first | ((with_reducible refine zai (f := 30) rfl ?_); refine zbc (some 43) rfl rfl Try.func30 (by kernel_rfl) rfl #[.slice Ao20 t372.length co20, .slice Ao21 t362.length co21] rfl (by (try simp only [List.map_toArray, List.map_cons, List.map_nil]); first | done | rfl | (simp only [List.length_drop, List.length_take]; rfl)) ?_; (with_reducible refine (laws_eqIntS.calls k _ _ t372 _ _ t362 true _ ?side1 ?side2 ?side3 ?side4 A16.out).mono ?_); (case side1 => repeat (first | exact (Kd.R_reads' HO376.out).2.2 | (with_reducible refine Kd.C_alloc ?_ _) | (with_reducible refine Kd.C_drewN ?_ _) | (with_reducible refine Kd.C_drew ?_))); (case side2 => exact (Kd.R_reads' HO376.out).2.1); (case side3 => repeat (first | exact (Kd.R_reads' HO366.out).2.2 | (with_reducible refine Kd.C_alloc ?_ _) | (with_reducible refine Kd.C_drewN ?_ _) | (with_reducible refine Kd.C_drew ?_))); (case side4 => exact (Kd.R_reads' HO366.out).2.1); rintro e w' ⟨rfl, ⟨nd, rfl⟩⟩; refine ⟨_, rfl, ?_⟩; obtain ⟨Ao22, co22, eo22⟩ := Kd.R_slice HO378.out; subst eo22; obtain ⟨Ao23, co23, eo23⟩ := Kd.R_slice HO368.out; subst eo23) | (go_at_call 30; (with_reducible refine (laws_eqIntS.calls k _ _ t373 _ _ t363 true _ ?side1 ?side2 ?side3 ?side4 A18.out).mono ?_); (case side1 => repeat (first | exact (Kd.R_reads' HO378.out).2.2 | (with_reducible refine Kd.C_alloc ?_ _) | (with_reducible refine Kd.C_drewN ?_ _) | (with_reducible refine Kd.C_drew ?_))); (case side2 => exact (Kd.R_reads' HO378.out).2.1); (case side3 => repeat (first | exact (Kd.R_reads' HO368.out).2.2 | (with_reducible refine Kd.C_alloc ?_ _) | (with_reducible refine Kd.C_drewN ?_ _) | (with_reducible refine Kd.C_drew ?_))); (case side4 => exact (Kd.R_reads' HO368.out).2.1); rintro e w' ⟨rfl, ⟨nd, rfl⟩⟩))
     go_meet
     case rel => exact ⟨_, ((t374 != t364)), (by first | rfl | (simp; done) | (simp [*]; done)), H', ⟨by first | omega | exact Nat.le_refl _⟩, ⟨by (with_reducible repeat (first | apply Kd.R_alloc | apply Kd.R_drewN | apply Kd.R_drew)); exact Kd.R_mono HO366.out (fun _ hk => ⟨hk.1.1, ⟨hk.1.2, hk.2⟩⟩)⟩, ⟨by (with_reducible repeat (first | apply Kd.R_alloc | apply Kd.R_drewN | apply Kd.R_drew)); exact Kd.R_mono HO368.out (fun _ hk => ⟨hk.1.1, ⟨hk.1.2, hk.2⟩⟩)⟩, ⟨by (with_reducible repeat (first | apply Kd.R_alloc | apply Kd.R_drewN | apply Kd.R_drew)); exact Kd.R_mono HO371.out (fun _ hk => trivial)⟩, ⟨by (with_reducible repeat (first | apply Kd.R_alloc | apply Kd.R_drewN | apply Kd.R_drew)); exact Kd.R_mono HO376.out (fun _ hk => ⟨hk.1.2, ⟨hk.2, hk.1.1⟩⟩)⟩, ⟨by (with_reducible repeat (first | apply Kd.R_alloc | apply Kd.R_drewN | apply Kd.R_drew)); exact Kd.R_mono HO378.out (fun _ hk => ⟨hk.1.2, ⟨hk.2, hk.1.1⟩⟩)⟩, ⟨by repeat (first | (with_reducible first | exact HB.out | apply zac | apply zab | apply zad) | exact HB.out)⟩⟩
    ·replace c19 := Bool.eq_false_iff.mpr c19
     subst c19
     have H1 : (laws_FnExactWallSides.j0 k l0 a1 t362 t363 t364 t369 t372 t373 t374 true) = some r := by rw [if_neg (show ¬ (false = true) by decide)] at H; exact H
     clear H
     have H := H1
     clear H1
     have H' := zaa.mk H
     clear H
     obtain ⟨Ao24, co24, eo24⟩ := Kd.R_slice HO376.out
     subst eo24
     obtain ⟨Ao25, co25, eo25⟩ := Kd.R_slice HO366.out
     subst eo25
     go_wp2_with (first | ((with_reducible refine zai (f := 30) rfl ?_); refine zbc (some 43) rfl rfl Try.func30 (by kernel_rfl) rfl #[.slice Ao24 t372.length co24, .slice Ao25 t362.length co25] rfl (by (try simp only [List.map_toArray, List.map_cons, List.map_nil]); first | done | rfl | (simp only [List.length_drop, List.length_take]; rfl)) ?_; (with_reducible refine (laws_eqIntS.calls k _ _ t372 _ _ t362 true _ ?side1 ?side2 ?side3 ?side4 A16.out).mono ?_); (case side1 => repeat (first | exact (Kd.R_reads' HO376.out).2.2 | (with_reducible refine Kd.C_alloc ?_ _) | (with_reducible refine Kd.C_drewN ?_ _) | (with_reducible refine Kd.C_drew ?_))); (case side2 => exact (Kd.R_reads' HO376.out).2.1); (case side3 => repeat (first | exact (Kd.R_reads' HO366.out).2.2 | (with_reducible refine Kd.C_alloc ?_ _) | (with_reducible refine Kd.C_drewN ?_ _) | (with_reducible refine Kd.C_drew ?_))); (case side4 => exact (Kd.R_reads' HO366.out).2.1); rintro e w' ⟨rfl, ⟨nd, rfl⟩⟩; refine ⟨_, rfl, ?_⟩; obtain ⟨Ao26, co26, eo26⟩ := Kd.R_slice HO378.out; subst eo26; obtain ⟨Ao27, co27, eo27⟩ := Kd.R_slice HO368.out; subst eo27) | (go_at_call 30; (with_reducible refine (laws_eqIntS.calls k _ _ t373 _ _ t363 false _ ?side1 ?side2 ?side3 ?side4 A18.out).mono ?_); (case side1 => repeat (first | exact (Kd.R_reads' HO378.out).2.2 | (with_reducible refine Kd.C_alloc ?_ _) | (with_reducible refine Kd.C_drewN ?_ _) | (with_reducible refine Kd.C_drew ?_))); (case side2 => exact (Kd.R_reads' HO378.out).2.1); (case side3 => repeat (first | exact (Kd.R_reads' HO368.out).2.2 | (with_reducible refine Kd.C_alloc ?_ _) | (with_reducible refine Kd.C_drewN ?_ _) | (with_reducible refine Kd.C_drew ?_))); (case side4 => exact (Kd.R_reads' HO368.out).2.1); rintro e w' ⟨rfl, ⟨nd, rfl⟩⟩))
     go_meet
     case rel => exact ⟨_, (true), (by first | rfl | (simp; done) | (simp [*]; done)), H', ⟨by first | omega | exact Nat.le_refl _⟩, ⟨by (with_reducible repeat (first | apply Kd.R_alloc | apply Kd.R_drewN | apply Kd.R_drew)); exact Kd.R_mono HO366.out (fun _ hk => ⟨hk.1.1, ⟨hk.1.2, hk.2⟩⟩)⟩, ⟨by (with_reducible repeat (first | apply Kd.R_alloc | apply Kd.R_drewN | apply Kd.R_drew)); exact Kd.R_mono HO368.out (fun _ hk => ⟨hk.1.1, ⟨hk.1.2, hk.2⟩⟩)⟩, ⟨by (with_reducible repeat (first | apply Kd.R_alloc | apply Kd.R_drewN | apply Kd.R_drew)); exact Kd.R_mono HO371.out (fun _ hk => trivial)⟩, ⟨by (with_reducible repeat (first | apply Kd.R_alloc | apply Kd.R_drewN | apply Kd.R_drew)); exact Kd.R_mono HO376.out (fun _ hk => ⟨hk.1.2, ⟨hk.2, hk.1.1⟩⟩)⟩, ⟨by (with_reducible repeat (first | apply Kd.R_alloc | apply Kd.R_drewN | apply Kd.R_drew)); exact Kd.R_mono HO378.out (fun _ hk => ⟨hk.1.2, ⟨hk.2, hk.1.1⟩⟩)⟩, ⟨by repeat (first | (with_reducible first | exact HB.out | apply zac | apply zab | apply zad) | exact HB.out)⟩⟩
   ·replace c17 := Bool.eq_false_iff.mpr c17
    subst c17
    have H1 : (laws_FnExactWallSides.j0 k l0 a1 t362 t363 t364 t369 t372 t373 t374 true) = some r := by rw [if_neg (show ¬ (false = true) by decide)] at H; exact H
    clear H
    have H := H1
    clear H1
    have H' := zaa.mk H
    clear H
    obtain ⟨Ao28, co28, eo28⟩ := Kd.R_slice HO376.out
    subst eo28
    obtain ⟨Ao29, co29, eo29⟩ := Kd.R_slice HO366.out
    subst eo29
    go_wp2_with (first | ((with_reducible refine zai (f := 30) rfl ?_); refine zbc (some 43) rfl rfl Try.func30 (by kernel_rfl) rfl #[.slice Ao28 t372.length co28, .slice Ao29 t362.length co29] rfl (by (try simp only [List.map_toArray, List.map_cons, List.map_nil]); first | done | rfl | (simp only [List.length_drop, List.length_take]; rfl)) ?_; (with_reducible refine (laws_eqIntS.calls k _ _ t372 _ _ t362 false _ ?side1 ?side2 ?side3 ?side4 A16.out).mono ?_); (case side1 => repeat (first | exact (Kd.R_reads' HO376.out).2.2 | (with_reducible refine Kd.C_alloc ?_ _) | (with_reducible refine Kd.C_drewN ?_ _) | (with_reducible refine Kd.C_drew ?_))); (case side2 => exact (Kd.R_reads' HO376.out).2.1); (case side3 => repeat (first | exact (Kd.R_reads' HO366.out).2.2 | (with_reducible refine Kd.C_alloc ?_ _) | (with_reducible refine Kd.C_drewN ?_ _) | (with_reducible refine Kd.C_drew ?_))); (case side4 => exact (Kd.R_reads' HO366.out).2.1); rintro e w' ⟨rfl, ⟨nd, rfl⟩⟩; refine ⟨_, rfl, ?_⟩))
    go_meet
    case rel => exact ⟨_, (true), (by first | rfl | (simp; done) | (simp [*]; done)), H', ⟨by first | omega | exact Nat.le_refl _⟩, ⟨by (with_reducible repeat (first | apply Kd.R_alloc | apply Kd.R_drewN | apply Kd.R_drew)); exact Kd.R_mono HO366.out (fun _ hk => ⟨hk.1.1, ⟨hk.1.2, hk.2⟩⟩)⟩, ⟨by (with_reducible repeat (first | apply Kd.R_alloc | apply Kd.R_drewN | apply Kd.R_drew)); exact Kd.R_mono HO368.out (fun _ hk => ⟨hk.1.1, ⟨hk.1.2, hk.2⟩⟩)⟩, ⟨by (with_reducible repeat (first | apply Kd.R_alloc | apply Kd.R_drewN | apply Kd.R_drew)); exact Kd.R_mono HO371.out (fun _ hk => trivial)⟩, ⟨by (with_reducible repeat (first | apply Kd.R_alloc | apply Kd.R_drewN | apply Kd.R_drew)); exact Kd.R_mono HO376.out (fun _ hk => ⟨hk.1.2, ⟨hk.2, hk.1.1⟩⟩)⟩, ⟨by (with_reducible repeat (first | apply Kd.R_alloc | apply Kd.R_drewN | apply Kd.R_drew)); exact Kd.R_mono HO378.out (fun _ hk => ⟨hk.1.2, ⟨hk.2, hk.1.1⟩⟩)⟩, ⟨by repeat (first | (with_reducible first | exact HB.out | apply zac | apply zab | apply zad) | exact HB.out)⟩⟩
  case rest =>
   clear HC9
   try clear c1
   try clear c2
   try clear p2
   try clear c3
   try clear c4
   try clear c4b0
   try clear c6
   try clear c15
   try clear c17
   try clear c19
   try clear c28
   try clear c29
   obtain ⟨kq, x55_8, rfl, HA, HJ8, HO_6, HO_7, HO_9, HO_10, HO_11, HB⟩ := hcut
   cases kq with
   | zero => exact absurd HA.out (by simp [laws_FnExactWallSides.j0])
   | succ kj8 =>
    have H := HA.out
    clear HA
    simp only [laws_FnExactWallSides.j0] at H
    by_cases c30 : x55_8 = true
    ·subst c30
     have H1 : (some false) = some r := by rw [if_pos rfl] at H; exact H
     clear H
     have H := H1
     clear H1
     obtain rfl := Option.some.inj H
     go_wp2
     go_ret
     exact ⟨by first | rfl | (simp [zak, zaj] <;> rfl) | (simp [*, zak, zaj] <;> rfl), by repeat (first | (with_reducible first | exact HB.out | apply zac | apply zab | apply zad) | exact HB.out)⟩
    ·replace c30 := Bool.eq_false_iff.mpr c30
     subst c30
     have H1 : ((laws_toStringS.f kj8 l0).bind fun t381 => ((laws_eqStringS.f kj8 t369 t381).bind fun t384 => (if t384 = true then ((laws_markStringS.f kj8 t369 1).bind fun bt385 => (if bt385.1 < 0 then (laws_FnExactWallSides.j1 kj8 l0 a1 t362 t363 t364 t372 t373 true) else ((laws_eqIntS.f kj8 t372 t362).bind fun t387 => (if t387 = true then ((laws_eqIntS.f kj8 t373 t363).bind fun t388 => (if t388 = true then (laws_FnExactWallSides.j1 kj8 l0 a1 t362 t363 t364 t372 t373 (t374 != t364)) else (laws_FnExactWallSides.j1 kj8 l0 a1 t362 t363 t364 t372 t373 true))) else (laws_FnExactWallSides.j1 kj8 l0 a1 t362 t363 t364 t372 t373 true))))) else (some false)))) = some r := by rw [if_neg (show ¬ (false = true) by decide)] at H; exact H
     clear H
     have H := H1
     clear H1
     replace H := Option.bind_eq_some_iff.mp H
     obtain ⟨t381, A310, H⟩ := H
     replace H : ((laws_eqStringS.f kj8 t369 t381).bind fun t384 => (if t384 = true then ((laws_markStringS.f kj8 t369 1).bind fun bt385 => (if bt385.1 < 0 then (laws_FnExactWallSides.j1 kj8 l0 a1 t362 t363 t364 t372 t373 true) else ((laws_eqIntS.f kj8 t372 t362).bind fun t387 => (if t387 = true then ((laws_eqIntS.f kj8 t373 t363).bind fun t388 => (if t388 = true then (laws_FnExactWallSides.j1 kj8 l0 a1 t362 t363 t364 t372 t373 (t374 != t364)) else (laws_FnExactWallSides.j1 kj8 l0 a1 t362 t363 t364 t372 t373 true))) else (laws_FnExactWallSides.j1 kj8 l0 a1 t362 t363 t364 t372 t373 true))))) else (some false))) = some r := H
     have A31 := zaa.mk A310
     clear A310
     replace H := Option.bind_eq_some_iff.mp H
     obtain ⟨t384, A320, H⟩ := H
     replace H : (if t384 = true then ((laws_markStringS.f kj8 t369 1).bind fun bt385 => (if bt385.1 < 0 then (laws_FnExactWallSides.j1 kj8 l0 a1 t362 t363 t364 t372 t373 true) else ((laws_eqIntS.f kj8 t372 t362).bind fun t387 => (if t387 = true then ((laws_eqIntS.f kj8 t373 t363).bind fun t388 => (if t388 = true then (laws_FnExactWallSides.j1 kj8 l0 a1 t362 t363 t364 t372 t373 (t374 != t364)) else (laws_FnExactWallSides.j1 kj8 l0 a1 t362 t363 t364 t372 t373 true))) else (laws_FnExactWallSides.j1 kj8 l0 a1 t362 t363 t364 t372 t373 true))))) else (some false)) = some r := H
     have A32 := zaa.mk A320
     clear A320
     by_cases c33 : t384 = true
     ·subst c33
      have H1 : ((laws_markStringS.f kj8 t369 1).bind fun bt385 => (if bt385.1 < 0 then (laws_FnExactWallSides.j1 kj8 l0 a1 t362 t363 t364 t372 t373 true) else ((laws_eqIntS.f kj8 t372 t362).bind fun t387 => (if t387 = true then ((laws_eqIntS.f kj8 t373 t363).bind fun t388 => (if t388 = true then (laws_FnExactWallSides.j1 kj8 l0 a1 t362 t363 t364 t372 t373 (t374 != t364)) else (laws_FnExactWallSides.j1 kj8 l0 a1 t362 t363 t364 t372 t373 true))) else (laws_FnExactWallSides.j1 kj8 l0 a1 t362 t363 t364 t372 t373 true))))) = some r := by rw [if_pos rfl] at H; exact H
      clear H
      have H := H1
      clear H1
      replace H := Option.bind_eq_some_iff.mp H
      obtain ⟨⟨t385, t386⟩, A340, H⟩ := H
      replace H : (if t385 < 0 then (laws_FnExactWallSides.j1 kj8 l0 a1 t362 t363 t364 t372 t373 true) else ((laws_eqIntS.f kj8 t372 t362).bind fun t387 => (if t387 = true then ((laws_eqIntS.f kj8 t373 t363).bind fun t388 => (if t388 = true then (laws_FnExactWallSides.j1 kj8 l0 a1 t362 t363 t364 t372 t373 (t374 != t364)) else (laws_FnExactWallSides.j1 kj8 l0 a1 t362 t363 t364 t372 t373 true))) else (laws_FnExactWallSides.j1 kj8 l0 a1 t362 t363 t364 t372 t373 true)))) = some r := H
      have A34 := zaa.mk A340
      clear A340
      have HC35 := zaa.mk H
      clear H
      go_upto_region 14 with (first | ((with_reducible refine zai (f := 17) rfl ?_); refine zbc (some 58) rfl rfl Try.func17 (by kernel_rfl) rfl #[.slice A0 l0.length c0] rfl (by (try simp only [List.map_toArray, List.map_cons, List.map_nil]); first | done | rfl | (simp only [List.length_drop, List.length_take]; rfl)) ?_; (with_reducible refine (laws_toStringS.calls kj8 _ _ l0 t381 _ ?side1 ?side2 A31.out).mono ?_); (case side1 => repeat (first | exact (Kd.C_below HR0.out HB.out) | (with_reducible refine Kd.C_alloc ?_ _) | (with_reducible refine Kd.C_drewN ?_ _) | (with_reducible refine Kd.C_drew ?_))); (case side2 => exact HC0.out); rintro e w36 ⟨v382, rfl, ho0, hb⟩; refine ⟨_, rfl, ?_⟩; have n0_ := zaa.mk (Kd.R_below (by (with_reducible repeat (first | apply Kd.R_alloc | apply Kd.R_drewN | apply Kd.R_drew)); exact HO_6.out) hb); have n1_ := zaa.mk (Kd.R_below (by (with_reducible repeat (first | apply Kd.R_alloc | apply Kd.R_drewN | apply Kd.R_drew)); exact HO_7.out) hb); have n2_ := zaa.mk (Kd.R_elder' (by (with_reducible repeat (first | apply Kd.R_alloc | apply Kd.R_drewN | apply Kd.R_drew)); exact HO_9.out) (Kd.R_base ho0) hb); have n3_ := zaa.mk (Kd.R_below (by (with_reducible repeat (first | apply Kd.R_alloc | apply Kd.R_drewN | apply Kd.R_drew)); exact HO_10.out) hb); have n4_ := zaa.mk (Kd.R_below (by (with_reducible repeat (first | apply Kd.R_alloc | apply Kd.R_drewN | apply Kd.R_drew)); exact HO_11.out) hb); have n5_ := zaa.mk (Kd.R_lower (Kd.R_new' ho0 (Kd.R_lt (by (with_reducible repeat (first | apply Kd.R_alloc | apply Kd.R_drewN | apply Kd.R_drew)); exact HO_9.out))) (zae (by repeat (first | (with_reducible first | exact HB.out | apply zac | apply zab | apply zad) | exact HB.out)))); have n6_ := zaa.mk (zag (by repeat (first | (with_reducible first | exact HB.out | apply zac | apply zab | apply zad) | exact HB.out)) hb); clear HO_6; clear HO_7; clear HO_9; clear HO_10; clear HO_11; clear HB; have HO_6 := n0_; have HO_7 := n1_; have HO_9 := n2_; have HO_10 := n3_; have HO_11 := n4_; have HO383 := n5_; have HB := n6_; clear n0_ n1_ n2_ n3_ n4_ n5_ n6_; (try clear hb); (try clear hb2); (try clear hk); (try clear hi); (try clear ho0); obtain ⟨Ao37, co37, eo37⟩ := Kd.R_slice HO383.out; subst eo37) | ((with_reducible refine zai (f := 19) rfl ?_); refine zbc (some 59) rfl rfl Try.func19 (by kernel_rfl) rfl #[.slice Ao14 t369.length co14, .slice Ao37 t381.length co37] rfl (by (try simp only [List.map_toArray, List.map_cons, List.map_nil]); first | done | rfl | (simp only [List.length_drop, List.length_take]; rfl)) ?_; (with_reducible refine (laws_eqStringS.calls kj8 _ _ t369 _ _ t381 true _ ?side1 ?side2 ?side3 ?side4 A32.out).mono ?_); (case side1 => repeat (first | exact (Kd.R_reads' HO_9.out).2.2 | (with_reducible refine Kd.C_alloc ?_ _) | (with_reducible refine Kd.C_drewN ?_ _) | (with_reducible refine Kd.C_drew ?_))); (case side2 => exact (Kd.R_reads' HO_9.out).2.1); (case side3 => repeat (first | exact (Kd.R_reads' HO383.out).2.2 | (with_reducible refine Kd.C_alloc ?_ _) | (with_reducible refine Kd.C_drewN ?_ _) | (with_reducible refine Kd.C_drew ?_))); (case side4 => exact (Kd.R_reads' HO383.out).2.1); rintro e w' ⟨rfl, ⟨nd, rfl⟩⟩; refine ⟨_, rfl, ?_⟩) | ((with_reducible refine zai (f := 25) rfl ?_); refine zbc (some 63) rfl rfl Try.func25 (by kernel_rfl) rfl #[.slice Ao14 t369.length co14, .int .i64 1] rfl (by (try simp only [List.map_toArray, List.map_cons, List.map_nil]); first | done | rfl | (simp only [List.length_drop, List.length_take]; rfl)) ?_; (with_reducible refine (laws_markStringS.calls kj8 (fun k_ => some k_ = (.slice Ao14 t369.length co14 : Value).ownBlock) (.slice Ao14 t369.length co14) t369 1 t385 t386 w _ ?side1 ?side2 A34.out).mono ?_); (case side1 => repeat (first | (with_reducible first | exact HB.out | apply zac | apply zab | apply zad) | exact HB.out)); (case side2 => exact Kd.R_tight rfl HO_9.out); rintro e w38 ⟨rfl, hy0, hb, hkp⟩; refine ⟨_, rfl, ?_⟩; have n0_ := zaa.mk (Kd.R_mono (ok' := fun k_ => some k_ ≠ (v367 : Value).ownBlock ∧ some k_ ≠ (v375 : Value).ownBlock ∧ some k_ ≠ (v377 : Value).ownBlock) (Kd.R_keptB ((Kd.R_apart' HO_6.out (Kd.R_typed HO_9.out) (by decide))) hkp (fun k_ hk_ hs_ => (hk_.2) hs_)) (fun k_ hk_ => ⟨hk_.1.1.1, hk_.1.1.2.1, hk_.1.1.2.2⟩)); have n1_ := zaa.mk (Kd.R_mono (ok' := fun k_ => some k_ ≠ (v365 : Value).ownBlock ∧ some k_ ≠ (v375 : Value).ownBlock ∧ some k_ ≠ (v377 : Value).ownBlock) (Kd.R_keptB ((Kd.R_apart' HO_7.out (Kd.R_typed HO_9.out) (by decide))) hkp (fun k_ hk_ hs_ => (hk_.2) hs_)) (fun k_ hk_ => ⟨hk_.1.1.1, hk_.1.1.2.1, hk_.1.1.2.2⟩)); have n2_ := zaa.mk (Kd.R_reok rfl hy0 (fun k_ e_ => HO_9.out.1 k_ e_)); have n3_ := zaa.mk (Kd.R_mono (ok' := fun k_ => some k_ ≠ (v365 : Value).ownBlock ∧ some k_ ≠ (v367 : Value).ownBlock ∧ some k_ ≠ (v377 : Value).ownBlock) (Kd.R_keptB ((Kd.R_apart' HO_10.out (Kd.R_typed HO_9.out) (by decide))) hkp (fun k_ hk_ hs_ => (hk_.2) hs_)) (fun k_ hk_ => ⟨hk_.1.1.1, hk_.1.1.2.1, hk_.1.1.2.2⟩)); have n4_ := zaa.mk (Kd.R_mono (ok' := fun k_ => some k_ ≠ (v365 : Value).ownBlock ∧ some k_ ≠ (v367 : Value).ownBlock ∧ some k_ ≠ (v375 : Value).ownBlock) (Kd.R_keptB ((Kd.R_apart' HO_11.out (Kd.R_typed HO_9.out) (by decide))) hkp (fun k_ hk_ hs_ => (hk_.2) hs_)) (fun k_ hk_ => ⟨hk_.1.1.1, hk_.1.1.2.1, hk_.1.1.2.2⟩)); have n5_ := zaa.mk (Kd.R_mono (ok' := fun k_ => some k_ ≠ (.slice Ao14 t369.length co14 : Value).ownBlock) (Kd.R_keptB (HO383.out) hkp (fun k_ hk_ hs_ => (hk_.2) hs_)) (fun k_ hk_ => hk_.1.2)); have n6_ := zaa.mk (hb); clear HO_6; clear HO_7; clear HO_9; clear HO_10; clear HO_11; clear HO383; clear HB; have HO_6 := n0_; have HO_7 := n1_; have HO_9 := n2_; have HO_10 := n3_; have HO_11 := n4_; have HO383 := n5_; have HB := n6_; clear n0_ n1_ n2_ n3_ n4_ n5_ n6_; (try clear hb); (try clear hkp); (try clear hy0)))
      (try simp only [Act.put, List.setIfInBounds_toArray, List.set_cons_zero, List.set_cons_succ])
      go_cut [82] (fun v82 wc => ∃ (kq : Nat) (x82_34 : Bool), v82 = .bool x82_34 ∧ zaa (laws_FnExactWallSides.j1 kq l0 a1 t362 t363 t364 t372 t373 x82_34 = some r) ∧ zaa (kq ≤ kj8) ∧ zaa (Kd.R (Kd.int .i64) 3 wc w.heap.size (fun k_ => some k_ ≠ (v367 : Value).ownBlock ∧ some k_ ≠ (v375 : Value).ownBlock ∧ some k_ ≠ (v377 : Value).ownBlock) v365 t362) ∧ zaa (Kd.R (Kd.int .i64) 3 wc w.heap.size (fun k_ => some k_ ≠ (v365 : Value).ownBlock ∧ some k_ ≠ (v375 : Value).ownBlock ∧ some k_ ≠ (v377 : Value).ownBlock) v367 t363) ∧ zaa (Kd.R (Kd.int .i64) 3 wc w.heap.size (fun k_ => some k_ ≠ (v365 : Value).ownBlock ∧ some k_ ≠ (v367 : Value).ownBlock ∧ some k_ ≠ (v377 : Value).ownBlock) v375 t372) ∧ zaa (Kd.R (Kd.int .i64) 3 wc w.heap.size (fun k_ => some k_ ≠ (v365 : Value).ownBlock ∧ some k_ ≠ (v367 : Value).ownBlock ∧ some k_ ≠ (v375 : Value).ownBlock) v377 t373) ∧ zaa (Below w.heap.size w wc))
      case first =>
       have H := HC35.out
       clear HC35
       by_cases c39 : t385 < 0
       ·rw [if_pos c39] at H
        have c39b0 : decide (t385 < 0) = true := decide_eq_true c39
        clear c39
        (first | rw [c39b0] | (simp only [zas, zat]; rw [c39b0]) | skip)
        have H' := zaa.mk H
        clear H
        go_wp2
        go_meet
        case rel => exact ⟨_, (true), (by first | rfl | (simp; done) | (simp [*]; done)), H', ⟨by have := HJ8.out; first | omega | exact Nat.le_refl _⟩, ⟨by (with_reducible repeat (first | apply Kd.R_alloc | apply Kd.R_drewN | apply Kd.R_drew)); exact HO_6.out⟩, ⟨by (with_reducible repeat (first | apply Kd.R_alloc | apply Kd.R_drewN | apply Kd.R_drew)); exact HO_7.out⟩, ⟨by (with_reducible repeat (first | apply Kd.R_alloc | apply Kd.R_drewN | apply Kd.R_drew)); exact HO_10.out⟩, ⟨by (with_reducible repeat (first | apply Kd.R_alloc | apply Kd.R_drewN | apply Kd.R_drew)); exact HO_11.out⟩, ⟨by repeat (first | (with_reducible first | exact HB.out | apply zac | apply zab | apply zad) | exact HB.out)⟩⟩
       ·rw [if_neg c39] at H
        have c39b0 : decide (t385 < 0) = false := decide_eq_false c39
        clear c39
        (first | rw [c39b0] | (simp only [zas, zat]; rw [c39b0]) | skip)
        replace H := Option.bind_eq_some_iff.mp H
        obtain ⟨t387, A400, H⟩ := H
        replace H : (if t387 = true then ((laws_eqIntS.f kj8 t373 t363).bind fun t388 => (if t388 = true then (laws_FnExactWallSides.j1 kj8 l0 a1 t362 t363 t364 t372 t373 (t374 != t364)) else (laws_FnExactWallSides.j1 kj8 l0 a1 t362 t363 t364 t372 t373 true))) else (laws_FnExactWallSides.j1 kj8 l0 a1 t362 t363 t364 t372 t373 true)) = some r := H
        have A40 := zaa.mk A400
        clear A400
        by_cases c41 : t387 = true
        ·subst c41
         have H1 : ((laws_eqIntS.f kj8 t373 t363).bind fun t388 => (if t388 = true then (laws_FnExactWallSides.j1 kj8 l0 a1 t362 t363 t364 t372 t373 (t374 != t364)) else (laws_FnExactWallSides.j1 kj8 l0 a1 t362 t363 t364 t372 t373 true))) = some r := by rw [if_pos rfl] at H; exact H
         clear H
         have H := H1
         clear H1
         replace H := Option.bind_eq_some_iff.mp H
         obtain ⟨t388, A420, H⟩ := H
         replace H : (if t388 = true then (laws_FnExactWallSides.j1 kj8 l0 a1 t362 t363 t364 t372 t373 (t374 != t364)) else (laws_FnExactWallSides.j1 kj8 l0 a1 t362 t363 t364 t372 t373 true)) = some r := H
         have A42 := zaa.mk A420
         clear A420
         by_cases c43 : t388 = true
         ·subst c43
          have H1 : (laws_FnExactWallSides.j1 kj8 l0 a1 t362 t363 t364 t372 t373 (t374 != t364)) = some r := by rw [if_pos rfl] at H; exact H
          clear H
          have H := H1
          clear H1
          have H' := zaa.mk H
          clear H
          obtain ⟨Ao44, co44, eo44⟩ := Kd.R_slice HO_10.out
          subst eo44
          obtain ⟨Ao45, co45, eo45⟩ := Kd.R_slice HO_6.out
          subst eo45
          go_wp2_with (first | (go_at_call 30; (with_reducible refine (laws_eqIntS.calls kj8 _ _ t372 _ _ t362 true _ ?side1 ?side2 ?side3 ?side4 A40.out).mono ?_); (case side1 => repeat (first | exact (Kd.R_reads' HO_10.out).2.2 | (with_reducible refine Kd.C_alloc ?_ _) | (with_reducible refine Kd.C_drewN ?_ _) | (with_reducible refine Kd.C_drew ?_))); (case side2 => exact (Kd.R_reads' HO_10.out).2.1); (case side3 => repeat (first | exact (Kd.R_reads' HO_6.out).2.2 | (with_reducible refine Kd.C_alloc ?_ _) | (with_reducible refine Kd.C_drewN ?_ _) | (with_reducible refine Kd.C_drew ?_))); (case side4 => exact (Kd.R_reads' HO_6.out).2.1); rintro e w' ⟨rfl, ⟨nd, rfl⟩⟩; obtain ⟨Ao46, co46, eo46⟩ := Kd.R_slice HO_11.out; subst eo46; obtain ⟨Ao47, co47, eo47⟩ := Kd.R_slice HO_7.out; subst eo47) | (go_at_call 30; (with_reducible refine (laws_eqIntS.calls kj8 _ _ t373 _ _ t363 true _ ?side1 ?side2 ?side3 ?side4 A42.out).mono ?_); (case side1 => repeat (first | exact (Kd.R_reads' HO_11.out).2.2 | (with_reducible refine Kd.C_alloc ?_ _) | (with_reducible refine Kd.C_drewN ?_ _) | (with_reducible refine Kd.C_drew ?_))); (case side2 => exact (Kd.R_reads' HO_11.out).2.1); (case side3 => repeat (first | exact (Kd.R_reads' HO_7.out).2.2 | (with_reducible refine Kd.C_alloc ?_ _) | (with_reducible refine Kd.C_drewN ?_ _) | (with_reducible refine Kd.C_drew ?_))); (case side4 => exact (Kd.R_reads' HO_7.out).2.1); rintro e w' ⟨rfl, ⟨nd, rfl⟩⟩))
          go_meet
          case rel => exact ⟨_, ((t374 != t364)), (by first | rfl | (simp; done) | (simp [*]; done)), H', ⟨by have := HJ8.out; first | omega | exact Nat.le_refl _⟩, ⟨by (with_reducible repeat (first | apply Kd.R_alloc | apply Kd.R_drewN | apply Kd.R_drew)); exact HO_6.out⟩, ⟨by (with_reducible repeat (first | apply Kd.R_alloc | apply Kd.R_drewN | apply Kd.R_drew)); exact HO_7.out⟩, ⟨by (with_reducible repeat (first | apply Kd.R_alloc | apply Kd.R_drewN | apply Kd.R_drew)); exact HO_10.out⟩, ⟨by (with_reducible repeat (first | apply Kd.R_alloc | apply Kd.R_drewN | apply Kd.R_drew)); exact HO_11.out⟩, ⟨by repeat (first | (with_reducible first | exact HB.out | apply zac | apply zab | apply zad) | exact HB.out)⟩⟩
         ·replace c43 := Bool.eq_false_iff.mpr c43
          subst c43
          have H1 : (laws_FnExactWallSides.j1 kj8 l0 a1 t362 t363 t364 t372 t373 true) = some r := by rw [if_neg (show ¬ (false = true) by decide)] at H; exact H
          clear H
          have H := H1
          clear H1
          have H' := zaa.mk H
          clear H
          obtain ⟨Ao48, co48, eo48⟩ := Kd.R_slice HO_10.out
          subst eo48
          obtain ⟨Ao49, co49, eo49⟩ := Kd.R_slice HO_6.out
          subst eo49
          go_wp2_with (first | (go_at_call 30; (with_reducible refine (laws_eqIntS.calls kj8 _ _ t372 _ _ t362 true _ ?side1 ?side2 ?side3 ?side4 A40.out).mono ?_); (case side1 => repeat (first | exact (Kd.R_reads' HO_10.out).2.2 | (with_reducible refine Kd.C_alloc ?_ _) | (with_reducible refine Kd.C_drewN ?_ _) | (with_reducible refine Kd.C_drew ?_))); (case side2 => exact (Kd.R_reads' HO_10.out).2.1); (case side3 => repeat (first | exact (Kd.R_reads' HO_6.out).2.2 | (with_reducible refine Kd.C_alloc ?_ _) | (with_reducible refine Kd.C_drewN ?_ _) | (with_reducible refine Kd.C_drew ?_))); (case side4 => exact (Kd.R_reads' HO_6.out).2.1); rintro e w' ⟨rfl, ⟨nd, rfl⟩⟩; obtain ⟨Ao50, co50, eo50⟩ := Kd.R_slice HO_11.out; subst eo50; obtain ⟨Ao51, co51, eo51⟩ := Kd.R_slice HO_7.out; subst eo51) | (go_at_call 30; (with_reducible refine (laws_eqIntS.calls kj8 _ _ t373 _ _ t363 false _ ?side1 ?side2 ?side3 ?side4 A42.out).mono ?_); (case side1 => repeat (first | exact (Kd.R_reads' HO_11.out).2.2 | (with_reducible refine Kd.C_alloc ?_ _) | (with_reducible refine Kd.C_drewN ?_ _) | (with_reducible refine Kd.C_drew ?_))); (case side2 => exact (Kd.R_reads' HO_11.out).2.1); (case side3 => repeat (first | exact (Kd.R_reads' HO_7.out).2.2 | (with_reducible refine Kd.C_alloc ?_ _) | (with_reducible refine Kd.C_drewN ?_ _) | (with_reducible refine Kd.C_drew ?_))); (case side4 => exact (Kd.R_reads' HO_7.out).2.1); rintro e w' ⟨rfl, ⟨nd, rfl⟩⟩))
          go_meet
          case rel => exact ⟨_, (true), (by first | rfl | (simp; done) | (simp [*]; done)), H', ⟨by have := HJ8.out; first | omega | exact Nat.le_refl _⟩, ⟨by (with_reducible repeat (first | apply Kd.R_alloc | apply Kd.R_drewN | apply Kd.R_drew)); exact HO_6.out⟩, ⟨by (with_reducible repeat (first | apply Kd.R_alloc | apply Kd.R_drewN | apply Kd.R_drew)); exact HO_7.out⟩, ⟨by (with_reducible repeat (first | apply Kd.R_alloc | apply Kd.R_drewN | apply Kd.R_drew)); exact HO_10.out⟩, ⟨by (with_reducible repeat (first | apply Kd.R_alloc | apply Kd.R_drewN | apply Kd.R_drew)); exact HO_11.out⟩, ⟨by repeat (first | (with_reducible first | exact HB.out | apply zac | apply zab | apply zad) | exact HB.out)⟩⟩
        ·replace c41 := Bool.eq_false_iff.mpr c41
         subst c41
         have H1 : (laws_FnExactWallSides.j1 kj8 l0 a1 t362 t363 t364 t372 t373 true) = some r := by rw [if_neg (show ¬ (false = true) by decide)] at H; exact H
         clear H
         have H := H1
         clear H1
         have H' := zaa.mk H
         clear H
         obtain ⟨Ao52, co52, eo52⟩ := Kd.R_slice HO_10.out
         subst eo52
         obtain ⟨Ao53, co53, eo53⟩ := Kd.R_slice HO_6.out
         subst eo53
         go_wp2_with (first | (go_at_call 30; (with_reducible refine (laws_eqIntS.calls kj8 _ _ t372 _ _ t362 false _ ?side1 ?side2 ?side3 ?side4 A40.out).mono ?_); (case side1 => repeat (first | exact (Kd.R_reads' HO_10.out).2.2 | (with_reducible refine Kd.C_alloc ?_ _) | (with_reducible refine Kd.C_drewN ?_ _) | (with_reducible refine Kd.C_drew ?_))); (case side2 => exact (Kd.R_reads' HO_10.out).2.1); (case side3 => repeat (first | exact (Kd.R_reads' HO_6.out).2.2 | (with_reducible refine Kd.C_alloc ?_ _) | (with_reducible refine Kd.C_drewN ?_ _) | (with_reducible refine Kd.C_drew ?_))); (case side4 => exact (Kd.R_reads' HO_6.out).2.1); rintro e w' ⟨rfl, ⟨nd, rfl⟩⟩))
         go_meet
         case rel => exact ⟨_, (true), (by first | rfl | (simp; done) | (simp [*]; done)), H', ⟨by have := HJ8.out; first | omega | exact Nat.le_refl _⟩, ⟨by (with_reducible repeat (first | apply Kd.R_alloc | apply Kd.R_drewN | apply Kd.R_drew)); exact HO_6.out⟩, ⟨by (with_reducible repeat (first | apply Kd.R_alloc | apply Kd.R_drewN | apply Kd.R_drew)); exact HO_7.out⟩, ⟨by (with_reducible repeat (first | apply Kd.R_alloc | apply Kd.R_drewN | apply Kd.R_drew)); exact HO_10.out⟩, ⟨by (with_reducible repeat (first | apply Kd.R_alloc | apply Kd.R_drewN | apply Kd.R_drew)); exact HO_11.out⟩, ⟨by repeat (first | (with_reducible first | exact HB.out | apply zac | apply zab | apply zad) | exact HB.out)⟩⟩
      case rest =>
       clear HC35
       try clear c1
       try clear c2
       try clear p2
       try clear c3
       try clear c4
       try clear c4b0
       try clear c6
       try clear c15
       try clear c17
       try clear c19
       try clear c25
       try clear c28
       try clear c29
       try clear c30
       try clear c33
       try clear c39
       try clear c39b0
       try clear c41
       try clear c43
       try clear p2
       obtain ⟨kq, x82_34, rfl, HA, HJ34, HO_6, HO_7, HO_10, HO_11, HB⟩ := hcut
       cases kq with
       | zero => exact absurd HA.out (by simp [laws_FnExactWallSides.j1])
       | succ kj34 =>
        have H := HA.out
        clear HA
        simp only [laws_FnExactWallSides.j1] at H
        by_cases c54 : x82_34 = true
        ·subst c54
         have H1 : (some false) = some r := by rw [if_pos rfl] at H; exact H
         clear H
         have H := H1
         clear H1
         obtain rfl := Option.some.inj H
         go_wp2
         go_ret
         exact ⟨by first | rfl | (simp [zak, zaj] <;> rfl) | (simp [*, zak, zaj] <;> rfl), by repeat (first | (with_reducible first | exact HB.out | apply zac | apply zab | apply zad) | exact HB.out)⟩
        ·replace c54 := Bool.eq_false_iff.mpr c54
         subst c54
         have H1 : ((laws_markIntS.f kj34 t372 1).bind fun bt389 => ((laws_markIntS.f kj34 t373 bt389.1).bind fun bt391 => ((laws_heldIntS.f kj34 bt389.2 1).bind fun t393 => (if t393 < 0 then (some false) else ((laws_heldIntS.f kj34 bt391.2 t393).bind fun t394 => (if t394 < 0 then (some false) else (if t394 = bt391.1 then ((laws_toStringS.f kj34 l0).bind fun t395 => ((impl_WallSides.f t395 a1).bind fun bt398 => ((laws_eqIntS.f kj34 bt398.1 t362).bind fun t405 => (if t405 = true then ((laws_eqIntS.f kj34 bt398.2.1 t363).bind fun t406 => (if t406 = true then (laws_FnExactWallSides.j2 kj34 bt389.2 bt391.2 bt391.1 (bt398.2.2 != t364)) else (laws_FnExactWallSides.j2 kj34 bt389.2 bt391.2 bt391.1 true))) else (laws_FnExactWallSides.j2 kj34 bt389.2 bt391.2 bt391.1 true))))) else (some false)))))))) = some r := by rw [if_neg (show ¬ (false = true) by decide)] at H; exact H
         clear H
         have H := H1
         clear H1
         replace H := Option.bind_eq_some_iff.mp H
         obtain ⟨⟨t389, t390⟩, A550, H⟩ := H
         replace H : ((laws_markIntS.f kj34 t373 t389).bind fun bt391 => ((laws_heldIntS.f kj34 t390 1).bind fun t393 => (if t393 < 0 then (some false) else ((laws_heldIntS.f kj34 bt391.2 t393).bind fun t394 => (if t394 < 0 then (some false) else (if t394 = bt391.1 then ((laws_toStringS.f kj34 l0).bind fun t395 => ((impl_WallSides.f t395 a1).bind fun bt398 => ((laws_eqIntS.f kj34 bt398.1 t362).bind fun t405 => (if t405 = true then ((laws_eqIntS.f kj34 bt398.2.1 t363).bind fun t406 => (if t406 = true then (laws_FnExactWallSides.j2 kj34 t390 bt391.2 bt391.1 (bt398.2.2 != t364)) else (laws_FnExactWallSides.j2 kj34 t390 bt391.2 bt391.1 true))) else (laws_FnExactWallSides.j2 kj34 t390 bt391.2 bt391.1 true))))) else (some false))))))) = some r := H
         have A55 := zaa.mk A550
         clear A550
         replace H := Option.bind_eq_some_iff.mp H
         obtain ⟨⟨t391, t392⟩, A560, H⟩ := H
         replace H : ((laws_heldIntS.f kj34 t390 1).bind fun t393 => (if t393 < 0 then (some false) else ((laws_heldIntS.f kj34 t392 t393).bind fun t394 => (if t394 < 0 then (some false) else (if t394 = t391 then ((laws_toStringS.f kj34 l0).bind fun t395 => ((impl_WallSides.f t395 a1).bind fun bt398 => ((laws_eqIntS.f kj34 bt398.1 t362).bind fun t405 => (if t405 = true then ((laws_eqIntS.f kj34 bt398.2.1 t363).bind fun t406 => (if t406 = true then (laws_FnExactWallSides.j2 kj34 t390 t392 t391 (bt398.2.2 != t364)) else (laws_FnExactWallSides.j2 kj34 t390 t392 t391 true))) else (laws_FnExactWallSides.j2 kj34 t390 t392 t391 true))))) else (some false)))))) = some r := H
         have A56 := zaa.mk A560
         clear A560
         replace H := Option.bind_eq_some_iff.mp H
         obtain ⟨t393, A570, H⟩ := H
         replace H : (if t393 < 0 then (some false) else ((laws_heldIntS.f kj34 t392 t393).bind fun t394 => (if t394 < 0 then (some false) else (if t394 = t391 then ((laws_toStringS.f kj34 l0).bind fun t395 => ((impl_WallSides.f t395 a1).bind fun bt398 => ((laws_eqIntS.f kj34 bt398.1 t362).bind fun t405 => (if t405 = true then ((laws_eqIntS.f kj34 bt398.2.1 t363).bind fun t406 => (if t406 = true then (laws_FnExactWallSides.j2 kj34 t390 t392 t391 (bt398.2.2 != t364)) else (laws_FnExactWallSides.j2 kj34 t390 t392 t391 true))) else (laws_FnExactWallSides.j2 kj34 t390 t392 t391 true))))) else (some false))))) = some r := H
         have A57 := zaa.mk A570
         clear A570
         by_cases c58 : t393 < 0
         ·rw [if_pos c58] at H
          have c58b0 : decide (t393 < 0) = true := decide_eq_true c58
          clear c58
          obtain rfl := Option.some.inj H
          obtain ⟨Ao59, co59, eo59⟩ := Kd.R_slice HO_10.out
          subst eo59
          go_wp2_with (first | ((with_reducible refine zai (f := 31) rfl ?_); refine zbc (some 85) rfl rfl Try.func31 (by kernel_rfl) rfl #[.slice Ao59 t372.length co59, .int .i64 1] rfl (by (try simp only [List.map_toArray, List.map_cons, List.map_nil]); first | done | rfl | (simp only [List.length_drop, List.length_take]; rfl)) ?_; (with_reducible refine (laws_markIntS.calls kj34 (fun k_ => some k_ = (.slice Ao59 t372.length co59 : Value).ownBlock) (.slice Ao59 t372.length co59) t372 1 t389 t390 w _ ?side1 ?side2 A55.out).mono ?_); (case side1 => repeat (first | (with_reducible first | exact HB.out | apply zac | apply zab | apply zad) | exact HB.out)); (case side2 => exact Kd.R_tight rfl HO_10.out); rintro e w60 ⟨rfl, hy0, hb, hkp⟩; refine ⟨_, rfl, ?_⟩; have n0_ := zaa.mk (Kd.R_mono (ok' := fun k_ => some k_ ≠ (v367 : Value).ownBlock ∧ some k_ ≠ (.slice Ao59 t372.length co59 : Value).ownBlock ∧ some k_ ≠ (v377 : Value).ownBlock) (Kd.R_keptB (HO_6.out) hkp (fun k_ hk_ hs_ => (hk_.2.1) hs_)) (fun k_ hk_ => ⟨hk_.1.1, hk_.1.2.1, hk_.1.2.2⟩)); have n1_ := zaa.mk (Kd.R_mono (ok' := fun k_ => some k_ ≠ (v365 : Value).ownBlock ∧ some k_ ≠ (.slice Ao59 t372.length co59 : Value).ownBlock ∧ some k_ ≠ (v377 : Value).ownBlock) (Kd.R_keptB (HO_7.out) hkp (fun k_ hk_ hs_ => (hk_.2.1) hs_)) (fun k_ hk_ => ⟨hk_.1.1, hk_.1.2.1, hk_.1.2.2⟩)); have n2_ := zaa.mk (Kd.R_reok rfl hy0 (fun k_ e_ => HO_10.out.1 k_ e_)); have n3_ := zaa.mk (Kd.R_mono (ok' := fun k_ => some k_ ≠ (v365 : Value).ownBlock ∧ some k_ ≠ (v367 : Value).ownBlock ∧ some k_ ≠ (.slice Ao59 t372.length co59 : Value).ownBlock) (Kd.R_keptB (HO_11.out) hkp (fun k_ hk_ hs_ => (hk_.2.2) hs_)) (fun k_ hk_ => ⟨hk_.1.1, hk_.1.2.1, hk_.1.2.2⟩)); have n4_ := zaa.mk (hb); clear HO_6; clear HO_7; clear HO_10; clear HO_11; clear HB; have HO_6 := n0_; have HO_7 := n1_; have HO_10 := n2_; have HO_11 := n3_; have HB := n4_; clear n0_ n1_ n2_ n3_ n4_; (try clear hb); (try clear hkp); (try clear hy0); obtain ⟨Ao61, co61, eo61⟩ := Kd.R_slice HO_11.out; subst eo61) | ((with_reducible refine zai (f := 31) rfl ?_); refine zbc (some 88) rfl rfl Try.func31 (by kernel_rfl) rfl #[.slice Ao61 t373.length co61, .int .i64 t389] rfl (by (try simp only [List.map_toArray, List.map_cons, List.map_nil]); first | done | rfl | (simp only [List.length_drop, List.length_take]; rfl)) ?_; (with_reducible refine (laws_markIntS.calls kj34 (fun k_ => some k_ = (.slice Ao61 t373.length co61 : Value).ownBlock) (.slice Ao61 t373.length co61) t373 t389 t391 t392 w _ ?side1 ?side2 A56.out).mono ?_); (case side1 => repeat (first | (with_reducible first | exact HB.out | apply zac | apply zab | apply zad) | exact HB.out)); (case side2 => exact Kd.R_tight rfl HO_11.out); rintro e w62 ⟨rfl, hy0, hb, hkp⟩; refine ⟨_, rfl, ?_⟩; have n0_ := zaa.mk (Kd.R_mono (ok' := fun k_ => some k_ ≠ (v367 : Value).ownBlock ∧ some k_ ≠ (.slice Ao59 t372.length co59 : Value).ownBlock ∧ some k_ ≠ (.slice Ao61 t373.length co61 : Value).ownBlock) (Kd.R_keptB (HO_6.out) hkp (fun k_ hk_ hs_ => (hk_.2.2) hs_)) (fun k_ hk_ => ⟨hk_.1.1, hk_.1.2.1, hk_.1.2.2⟩)); have n1_ := zaa.mk (Kd.R_mono (ok' := fun k_ => some k_ ≠ (v365 : Value).ownBlock ∧ some k_ ≠ (.slice Ao59 t372.length co59 : Value).ownBlock ∧ some k_ ≠ (.slice Ao61 t373.length co61 : Value).ownBlock) (Kd.R_keptB (HO_7.out) hkp (fun k_ hk_ hs_ => (hk_.2.2) hs_)) (fun k_ hk_ => ⟨hk_.1.1, hk_.1.2.1, hk_.1.2.2⟩)); have n2_ := zaa.mk (Kd.R_mono (ok' := fun k_ => some k_ ≠ (v365 : Value).ownBlock ∧ some k_ ≠ (v367 : Value).ownBlock ∧ some k_ ≠ (.slice Ao61 t373.length co61 : Value).ownBlock) (Kd.R_keptB (HO_10.out) hkp (fun k_ hk_ hs_ => (hk_.2.2) hs_)) (fun k_ hk_ => ⟨hk_.1.1, hk_.1.2.1, hk_.1.2.2⟩)); have n3_ := zaa.mk (Kd.R_reok rfl hy0 (fun k_ e_ => HO_11.out.1 k_ e_)); have n4_ := zaa.mk (hb); clear HO_6; clear HO_7; clear HO_10; clear HO_11; clear HB; have HO_6 := n0_; have HO_7 := n1_; have HO_10 := n2_; have HO_11 := n3_; have HB := n4_; clear n0_ n1_ n2_ n3_ n4_; (try clear hb); (try clear hkp); (try clear hy0)) | ((with_reducible refine zai (f := 32) rfl ?_); refine zbc (some 91) rfl rfl Try.func32 (by kernel_rfl) rfl #[.slice Ao59 t390.length co59, .int .i64 1] rfl (by (try simp only [List.map_toArray, List.map_cons, List.map_nil]); first | done | (rw [show t390.length = t372.length from (Kd.R_reads' HO_10.out).1.symm] <;> rfl) | rfl | (simp only [List.length_drop, List.length_take]; rfl)) ?_; (with_reducible refine (laws_heldIntS.calls kj34 _ _ t390 1 t393 _ ?side1 ?side2 A57.out).mono ?_); (case side1 => repeat (first | exact (Kd.R_reads' HO_10.out).2.2 | (with_reducible refine Kd.C_alloc ?_ _) | (with_reducible refine Kd.C_drewN ?_ _) | (with_reducible refine Kd.C_drew ?_))); (case side2 => rw [show t390.length = t372.length from (Kd.R_reads' HO_10.out).1.symm]; exact (Kd.R_reads' HO_10.out).2.1); rintro e w' ⟨rfl, ⟨nd, rfl⟩⟩; refine ⟨_, rfl, ?_⟩))
          go_ret
          exact ⟨by first | rfl | (simp [zak, zaj] <;> rfl) | (simp [*, zak, zaj] <;> rfl), by repeat (first | (with_reducible first | exact HB.out | apply zac | apply zab | apply zad) | exact HB.out)⟩
         ·rw [if_neg c58] at H
          have c58b0 : decide (t393 < 0) = false := decide_eq_false c58
          clear c58
          replace H := Option.bind_eq_some_iff.mp H
          obtain ⟨t394, A630, H⟩ := H
          replace H : (if t394 < 0 then (some false) else (if t394 = t391 then ((laws_toStringS.f kj34 l0).bind fun t395 => ((impl_WallSides.f t395 a1).bind fun bt398 => ((laws_eqIntS.f kj34 bt398.1 t362).bind fun t405 => (if t405 = true then ((laws_eqIntS.f kj34 bt398.2.1 t363).bind fun t406 => (if t406 = true then (laws_FnExactWallSides.j2 kj34 t390 t392 t391 (bt398.2.2 != t364)) else (laws_FnExactWallSides.j2 kj34 t390 t392 t391 true))) else (laws_FnExactWallSides.j2 kj34 t390 t392 t391 true))))) else (some false))) = some r := H
          have A63 := zaa.mk A630
          clear A630
          by_cases c64 : t394 < 0
          ·rw [if_pos c64] at H
           have c64b0 : decide (t394 < 0) = true := decide_eq_true c64
           clear c64
           obtain rfl := Option.some.inj H
           obtain ⟨Ao65, co65, eo65⟩ := Kd.R_slice HO_10.out
           subst eo65
           go_wp2_with (first | ((with_reducible refine zai (f := 31) rfl ?_); refine zbc (some 85) rfl rfl Try.func31 (by kernel_rfl) rfl #[.slice Ao65 t372.length co65, .int .i64 1] rfl (by (try simp only [List.map_toArray, List.map_cons, List.map_nil]); first | done | rfl | (simp only [List.length_drop, List.length_take]; rfl)) ?_; (with_reducible refine (laws_markIntS.calls kj34 (fun k_ => some k_ = (.slice Ao65 t372.length co65 : Value).ownBlock) (.slice Ao65 t372.length co65) t372 1 t389 t390 w _ ?side1 ?side2 A55.out).mono ?_); (case side1 => repeat (first | (with_reducible first | exact HB.out | apply zac | apply zab | apply zad) | exact HB.out)); (case side2 => exact Kd.R_tight rfl HO_10.out); rintro e w66 ⟨rfl, hy0, hb, hkp⟩; refine ⟨_, rfl, ?_⟩; have n0_ := zaa.mk (Kd.R_mono (ok' := fun k_ => some k_ ≠ (v367 : Value).ownBlock ∧ some k_ ≠ (.slice Ao65 t372.length co65 : Value).ownBlock ∧ some k_ ≠ (v377 : Value).ownBlock) (Kd.R_keptB (HO_6.out) hkp (fun k_ hk_ hs_ => (hk_.2.1) hs_)) (fun k_ hk_ => ⟨hk_.1.1, hk_.1.2.1, hk_.1.2.2⟩)); have n1_ := zaa.mk (Kd.R_mono (ok' := fun k_ => some k_ ≠ (v365 : Value).ownBlock ∧ some k_ ≠ (.slice Ao65 t372.length co65 : Value).ownBlock ∧ some k_ ≠ (v377 : Value).ownBlock) (Kd.R_keptB (HO_7.out) hkp (fun k_ hk_ hs_ => (hk_.2.1) hs_)) (fun k_ hk_ => ⟨hk_.1.1, hk_.1.2.1, hk_.1.2.2⟩)); have n2_ := zaa.mk (Kd.R_reok rfl hy0 (fun k_ e_ => HO_10.out.1 k_ e_)); have n3_ := zaa.mk (Kd.R_mono (ok' := fun k_ => some k_ ≠ (v365 : Value).ownBlock ∧ some k_ ≠ (v367 : Value).ownBlock ∧ some k_ ≠ (.slice Ao65 t372.length co65 : Value).ownBlock) (Kd.R_keptB (HO_11.out) hkp (fun k_ hk_ hs_ => (hk_.2.2) hs_)) (fun k_ hk_ => ⟨hk_.1.1, hk_.1.2.1, hk_.1.2.2⟩)); have n4_ := zaa.mk (hb); clear HO_6; clear HO_7; clear HO_10; clear HO_11; clear HB; have HO_6 := n0_; have HO_7 := n1_; have HO_10 := n2_; have HO_11 := n3_; have HB := n4_; clear n0_ n1_ n2_ n3_ n4_; (try clear hb); (try clear hkp); (try clear hy0); obtain ⟨Ao67, co67, eo67⟩ := Kd.R_slice HO_11.out; subst eo67) | ((with_reducible refine zai (f := 31) rfl ?_); refine zbc (some 88) rfl rfl Try.func31 (by kernel_rfl) rfl #[.slice Ao67 t373.length co67, .int .i64 t389] rfl (by (try simp only [List.map_toArray, List.map_cons, List.map_nil]); first | done | rfl | (simp only [List.length_drop, List.length_take]; rfl)) ?_; (with_reducible refine (laws_markIntS.calls kj34 (fun k_ => some k_ = (.slice Ao67 t373.length co67 : Value).ownBlock) (.slice Ao67 t373.length co67) t373 t389 t391 t392 w _ ?side1 ?side2 A56.out).mono ?_); (case side1 => repeat (first | (with_reducible first | exact HB.out | apply zac | apply zab | apply zad) | exact HB.out)); (case side2 => exact Kd.R_tight rfl HO_11.out); rintro e w68 ⟨rfl, hy0, hb, hkp⟩; refine ⟨_, rfl, ?_⟩; have n0_ := zaa.mk (Kd.R_mono (ok' := fun k_ => some k_ ≠ (v367 : Value).ownBlock ∧ some k_ ≠ (.slice Ao65 t372.length co65 : Value).ownBlock ∧ some k_ ≠ (.slice Ao67 t373.length co67 : Value).ownBlock) (Kd.R_keptB (HO_6.out) hkp (fun k_ hk_ hs_ => (hk_.2.2) hs_)) (fun k_ hk_ => ⟨hk_.1.1, hk_.1.2.1, hk_.1.2.2⟩)); have n1_ := zaa.mk (Kd.R_mono (ok' := fun k_ => some k_ ≠ (v365 : Value).ownBlock ∧ some k_ ≠ (.slice Ao65 t372.length co65 : Value).ownBlock ∧ some k_ ≠ (.slice Ao67 t373.length co67 : Value).ownBlock) (Kd.R_keptB (HO_7.out) hkp (fun k_ hk_ hs_ => (hk_.2.2) hs_)) (fun k_ hk_ => ⟨hk_.1.1, hk_.1.2.1, hk_.1.2.2⟩)); have n2_ := zaa.mk (Kd.R_mono (ok' := fun k_ => some k_ ≠ (v365 : Value).ownBlock ∧ some k_ ≠ (v367 : Value).ownBlock ∧ some k_ ≠ (.slice Ao67 t373.length co67 : Value).ownBlock) (Kd.R_keptB (HO_10.out) hkp (fun k_ hk_ hs_ => (hk_.2.2) hs_)) (fun k_ hk_ => ⟨hk_.1.1, hk_.1.2.1, hk_.1.2.2⟩)); have n3_ := zaa.mk (Kd.R_reok rfl hy0 (fun k_ e_ => HO_11.out.1 k_ e_)); have n4_ := zaa.mk (hb); clear HO_6; clear HO_7; clear HO_10; clear HO_11; clear HB; have HO_6 := n0_; have HO_7 := n1_; have HO_10 := n2_; have HO_11 := n3_; have HB := n4_; clear n0_ n1_ n2_ n3_ n4_; (try clear hb); (try clear hkp); (try clear hy0)) | ((with_reducible refine zai (f := 32) rfl ?_); refine zbc (some 91) rfl rfl Try.func32 (by kernel_rfl) rfl #[.slice Ao65 t390.length co65, .int .i64 1] rfl (by (try simp only [List.map_toArray, List.map_cons, List.map_nil]); first | done | (rw [show t390.length = t372.length from (Kd.R_reads' HO_10.out).1.symm] <;> rfl) | rfl | (simp only [List.length_drop, List.length_take]; rfl)) ?_; (with_reducible refine (laws_heldIntS.calls kj34 _ _ t390 1 t393 _ ?side1 ?side2 A57.out).mono ?_); (case side1 => repeat (first | exact (Kd.R_reads' HO_10.out).2.2 | (with_reducible refine Kd.C_alloc ?_ _) | (with_reducible refine Kd.C_drewN ?_ _) | (with_reducible refine Kd.C_drew ?_))); (case side2 => rw [show t390.length = t372.length from (Kd.R_reads' HO_10.out).1.symm]; exact (Kd.R_reads' HO_10.out).2.1); rintro e w' ⟨rfl, ⟨nd, rfl⟩⟩; refine ⟨_, rfl, ?_⟩) | ((with_reducible refine zai (f := 32) rfl ?_); refine zbc (some 96) rfl rfl Try.func32 (by kernel_rfl) rfl #[.slice Ao67 t392.length co67, .int .i64 t393] rfl (by (try simp only [List.map_toArray, List.map_cons, List.map_nil]); first | done | (rw [show t392.length = t373.length from (Kd.R_reads' HO_11.out).1.symm] <;> rfl) | rfl | (simp only [List.length_drop, List.length_take]; rfl)) ?_; (with_reducible refine (laws_heldIntS.calls kj34 _ _ t392 t393 t394 _ ?side1 ?side2 A63.out).mono ?_); (case side1 => repeat (first | exact (Kd.R_reads' HO_11.out).2.2 | (with_reducible refine Kd.C_alloc ?_ _) | (with_reducible refine Kd.C_drewN ?_ _) | (with_reducible refine Kd.C_drew ?_))); (case side2 => rw [show t392.length = t373.length from (Kd.R_reads' HO_11.out).1.symm]; exact (Kd.R_reads' HO_11.out).2.1); rintro e w' ⟨rfl, ⟨nd, rfl⟩⟩; refine ⟨_, rfl, ?_⟩))
           go_ret
           exact ⟨by first | rfl | (simp [zak, zaj] <;> rfl) | (simp [*, zak, zaj] <;> rfl), by repeat (first | (with_reducible first | exact HB.out | apply zac | apply zab | apply zad) | exact HB.out)⟩
          ·rw [if_neg c64] at H
           have c64b0 : decide (t394 < 0) = false := decide_eq_false c64
           clear c64
           by_cases c69 : t394 = t391
           ·rw [if_pos c69] at H
            have c69b0 : (t394 == t391) = true := beq_iff_eq.mpr c69
            have c69b1 : (t394 != t391) = false := bne_eq_false_iff_eq.mpr c69
            clear c69
            replace H := Option.bind_eq_some_iff.mp H
            obtain ⟨t395, A700, H⟩ := H
            replace H : ((impl_WallSides.f t395 a1).bind fun bt398 => ((laws_eqIntS.f kj34 bt398.1 t362).bind fun t405 => (if t405 = true then ((laws_eqIntS.f kj34 bt398.2.1 t363).bind fun t406 => (if t406 = true then (laws_FnExactWallSides.j2 kj34 t390 t392 t391 (bt398.2.2 != t364)) else (laws_FnExactWallSides.j2 kj34 t390 t392 t391 true))) else (laws_FnExactWallSides.j2 kj34 t390 t392 t391 true)))) = some r := H
            have A70 := zaa.mk A700
            clear A700
            replace H := Option.bind_eq_some_iff.mp H
            obtain ⟨⟨t398, t399, t400⟩, A710, H⟩ := H
            replace H : ((laws_eqIntS.f kj34 t398 t362).bind fun t405 => (if t405 = true then ((laws_eqIntS.f kj34 t399 t363).bind fun t406 => (if t406 = true then (laws_FnExactWallSides.j2 kj34 t390 t392 t391 (t400 != t364)) else (laws_FnExactWallSides.j2 kj34 t390 t392 t391 true))) else (laws_FnExactWallSides.j2 kj34 t390 t392 t391 true))) = some r := H
            have A71 := zaa.mk A710
            clear A710
            have HC72 := zaa.mk H
            clear H
            obtain ⟨Ao73, co73, eo73⟩ := Kd.R_slice HO_10.out
            subst eo73
            go_upto_region 29 with (first | ((with_reducible refine zai (f := 31) rfl ?_); refine zbc (some 85) rfl rfl Try.func31 (by kernel_rfl) rfl #[.slice Ao73 t372.length co73, .int .i64 1] rfl (by (try simp only [List.map_toArray, List.map_cons, List.map_nil]); first | done | rfl | (simp only [List.length_drop, List.length_take]; rfl)) ?_; (with_reducible refine (laws_markIntS.calls kj34 (fun k_ => some k_ = (.slice Ao73 t372.length co73 : Value).ownBlock) (.slice Ao73 t372.length co73) t372 1 t389 t390 w _ ?side1 ?side2 A55.out).mono ?_); (case side1 => repeat (first | (with_reducible first | exact HB.out | apply zac | apply zab | apply zad) | exact HB.out)); (case side2 => exact Kd.R_tight rfl HO_10.out); rintro e w74 ⟨rfl, hy0, hb, hkp⟩; refine ⟨_, rfl, ?_⟩; have n0_ := zaa.mk (Kd.R_mono (ok' := fun k_ => some k_ ≠ (v367 : Value).ownBlock ∧ some k_ ≠ (.slice Ao73 t372.length co73 : Value).ownBlock ∧ some k_ ≠ (v377 : Value).ownBlock) (Kd.R_keptB (HO_6.out) hkp (fun k_ hk_ hs_ => (hk_.2.1) hs_)) (fun k_ hk_ => ⟨hk_.1.1, hk_.1.2.1, hk_.1.2.2⟩)); have n1_ := zaa.mk (Kd.R_mono (ok' := fun k_ => some k_ ≠ (v365 : Value).ownBlock ∧ some k_ ≠ (.slice Ao73 t372.length co73 : Value).ownBlock ∧ some k_ ≠ (v377 : Value).ownBlock) (Kd.R_keptB (HO_7.out) hkp (fun k_ hk_ hs_ => (hk_.2.1) hs_)) (fun k_ hk_ => ⟨hk_.1.1, hk_.1.2.1, hk_.1.2.2⟩)); have n2_ := zaa.mk (Kd.R_reok rfl hy0 (fun k_ e_ => HO_10.out.1 k_ e_)); have n3_ := zaa.mk (Kd.R_mono (ok' := fun k_ => some k_ ≠ (v365 : Value).ownBlock ∧ some k_ ≠ (v367 : Value).ownBlock ∧ some k_ ≠ (.slice Ao73 t372.length co73 : Value).ownBlock) (Kd.R_keptB (HO_11.out) hkp (fun k_ hk_ hs_ => (hk_.2.2) hs_)) (fun k_ hk_ => ⟨hk_.1.1, hk_.1.2.1, hk_.1.2.2⟩)); have n4_ := zaa.mk (hb); clear HO_6; clear HO_7; clear HO_10; clear HO_11; clear HB; have HO_6 := n0_; have HO_7 := n1_; have HO_10 := n2_; have HO_11 := n3_; have HB := n4_; clear n0_ n1_ n2_ n3_ n4_; (try clear hb); (try clear hkp); (try clear hy0); obtain ⟨Ao75, co75, eo75⟩ := Kd.R_slice HO_11.out; subst eo75) | ((with_reducible refine zai (f := 31) rfl ?_); refine zbc (some 88) rfl rfl Try.func31 (by kernel_rfl) rfl #[.slice Ao75 t373.length co75, .int .i64 t389] rfl (by (try simp only [List.map_toArray, List.map_cons, List.map_nil]); first | done | rfl | (simp only [List.length_drop, List.length_take]; rfl)) ?_; (with_reducible refine (laws_markIntS.calls kj34 (fun k_ => some k_ = (.slice Ao75 t373.length co75 : Value).ownBlock) (.slice Ao75 t373.length co75) t373 t389 t391 t392 w _ ?side1 ?side2 A56.out).mono ?_); (case side1 => repeat (first | (with_reducible first | exact HB.out | apply zac | apply zab | apply zad) | exact HB.out)); (case side2 => exact Kd.R_tight rfl HO_11.out); rintro e w76 ⟨rfl, hy0, hb, hkp⟩; refine ⟨_, rfl, ?_⟩; have n0_ := zaa.mk (Kd.R_mono (ok' := fun k_ => some k_ ≠ (v367 : Value).ownBlock ∧ some k_ ≠ (.slice Ao73 t372.length co73 : Value).ownBlock ∧ some k_ ≠ (.slice Ao75 t373.length co75 : Value).ownBlock) (Kd.R_keptB (HO_6.out) hkp (fun k_ hk_ hs_ => (hk_.2.2) hs_)) (fun k_ hk_ => ⟨hk_.1.1, hk_.1.2.1, hk_.1.2.2⟩)); have n1_ := zaa.mk (Kd.R_mono (ok' := fun k_ => some k_ ≠ (v365 : Value).ownBlock ∧ some k_ ≠ (.slice Ao73 t372.length co73 : Value).ownBlock ∧ some k_ ≠ (.slice Ao75 t373.length co75 : Value).ownBlock) (Kd.R_keptB (HO_7.out) hkp (fun k_ hk_ hs_ => (hk_.2.2) hs_)) (fun k_ hk_ => ⟨hk_.1.1, hk_.1.2.1, hk_.1.2.2⟩)); have n2_ := zaa.mk (Kd.R_mono (ok' := fun k_ => some k_ ≠ (v365 : Value).ownBlock ∧ some k_ ≠ (v367 : Value).ownBlock ∧ some k_ ≠ (.slice Ao75 t373.length co75 : Value).ownBlock) (Kd.R_keptB (HO_10.out) hkp (fun k_ hk_ hs_ => (hk_.2.2) hs_)) (fun k_ hk_ => ⟨hk_.1.1, hk_.1.2.1, hk_.1.2.2⟩)); have n3_ := zaa.mk (Kd.R_reok rfl hy0 (fun k_ e_ => HO_11.out.1 k_ e_)); have n4_ := zaa.mk (hb); clear HO_6; clear HO_7; clear HO_10; clear HO_11; clear HB; have HO_6 := n0_; have HO_7 := n1_; have HO_10 := n2_; have HO_11 := n3_; have HB := n4_; clear n0_ n1_ n2_ n3_ n4_; (try clear hb); (try clear hkp); (try clear hy0)) | ((with_reducible refine zai (f := 32) rfl ?_); refine zbc (some 91) rfl rfl Try.func32 (by kernel_rfl) rfl #[.slice Ao73 t390.length co73, .int .i64 1] rfl (by (try simp only [List.map_toArray, List.map_cons, List.map_nil]); first | done | (rw [show t390.length = t372.length from (Kd.R_reads' HO_10.out).1.symm] <;> rfl) | rfl | (simp only [List.length_drop, List.length_take]; rfl)) ?_; (with_reducible refine (laws_heldIntS.calls kj34 _ _ t390 1 t393 _ ?side1 ?side2 A57.out).mono ?_); (case side1 => repeat (first | exact (Kd.R_reads' HO_10.out).2.2 | (with_reducible refine Kd.C_alloc ?_ _) | (with_reducible refine Kd.C_drewN ?_ _) | (with_reducible refine Kd.C_drew ?_))); (case side2 => rw [show t390.length = t372.length from (Kd.R_reads' HO_10.out).1.symm]; exact (Kd.R_reads' HO_10.out).2.1); rintro e w' ⟨rfl, ⟨nd, rfl⟩⟩; refine ⟨_, rfl, ?_⟩) | ((with_reducible refine zai (f := 32) rfl ?_); refine zbc (some 96) rfl rfl Try.func32 (by kernel_rfl) rfl #[.slice Ao75 t392.length co75, .int .i64 t393] rfl (by (try simp only [List.map_toArray, List.map_cons, List.map_nil]); first | done | (rw [show t392.length = t373.length from (Kd.R_reads' HO_11.out).1.symm] <;> rfl) | rfl | (simp only [List.length_drop, List.length_take]; rfl)) ?_; (with_reducible refine (laws_heldIntS.calls kj34 _ _ t392 t393 t394 _ ?side1 ?side2 A63.out).mono ?_); (case side1 => repeat (first | exact (Kd.R_reads' HO_11.out).2.2 | (with_reducible refine Kd.C_alloc ?_ _) | (with_reducible refine Kd.C_drewN ?_ _) | (with_reducible refine Kd.C_drew ?_))); (case side2 => rw [show t392.length = t373.length from (Kd.R_reads' HO_11.out).1.symm]; exact (Kd.R_reads' HO_11.out).2.1); rintro e w' ⟨rfl, ⟨nd, rfl⟩⟩; refine ⟨_, rfl, ?_⟩) | ((with_reducible refine zai (f := 17) rfl ?_); refine zbc (some 104) rfl rfl Try.func17 (by kernel_rfl) rfl #[.slice A0 l0.length c0] rfl (by (try simp only [List.map_toArray, List.map_cons, List.map_nil]); first | done | rfl | (simp only [List.length_drop, List.length_take]; rfl)) ?_; (with_reducible refine (laws_toStringS.calls kj34 _ _ l0 t395 _ ?side1 ?side2 A70.out).mono ?_); (case side1 => repeat (first | exact (Kd.C_below HR0.out (by repeat (first | (with_reducible first | exact HB.out | apply zac | apply zab | apply zad) | exact HB.out))) | (with_reducible refine Kd.C_alloc ?_ _) | (with_reducible refine Kd.C_drewN ?_ _) | (with_reducible refine Kd.C_drew ?_))); (case side2 => exact HC0.out); rintro e w77 ⟨v396, rfl, ho0, hb⟩; refine ⟨_, rfl, ?_⟩; have n0_ := zaa.mk (Kd.R_below (by (with_reducible repeat (first | apply Kd.R_alloc | apply Kd.R_drewN | apply Kd.R_drew)); exact HO_6.out) hb); have n1_ := zaa.mk (Kd.R_below (by (with_reducible repeat (first | apply Kd.R_alloc | apply Kd.R_drewN | apply Kd.R_drew)); exact HO_7.out) hb); have n2_ := zaa.mk (Kd.R_below (by (with_reducible repeat (first | apply Kd.R_alloc | apply Kd.R_drewN | apply Kd.R_drew)); exact HO_10.out) hb); have n3_ := zaa.mk (Kd.R_below (by (with_reducible repeat (first | apply Kd.R_alloc | apply Kd.R_drewN | apply Kd.R_drew)); exact HO_11.out) hb); have n4_ := zaa.mk (Kd.R_lower ho0 (zae (by repeat (first | (with_reducible first | exact HB.out | apply zac | apply zab | apply zad) | exact HB.out)))); have n5_ := zaa.mk (zag (by repeat (first | (with_reducible first | exact HB.out | apply zac | apply zab | apply zad) | exact HB.out)) hb); clear HO_6; clear HO_7; clear HO_10; clear HO_11; clear HB; have HO_6 := n0_; have HO_7 := n1_; have HO_10 := n2_; have HO_11 := n3_; have HO397 := n4_; have HB := n5_; clear n0_ n1_ n2_ n3_ n4_ n5_; (try clear hb); (try clear hb2); (try clear hk); (try clear hi); (try clear ho0); obtain ⟨Ao78, co78, eo78⟩ := Kd.R_slice HO397.out; subst eo78) | ((with_reducible refine zai (f := 29) rfl ?_); refine zbc (some 106) rfl rfl Try.func29 (by kernel_rfl) rfl #[.slice Ao78 t395.length co78, .int .i64 a1] rfl (by (try simp only [List.map_toArray, List.map_cons, List.map_nil]); first | done | rfl | (simp only [List.length_drop, List.length_take]; rfl)) ?_; (with_reducible refine (impl_WallSides.calls _ _ t395 a1 t398 t399 t400 _ ?side1 ?side2 A71.out).mono ?_); (case side1 => repeat (first | exact (Kd.R_reads' HO397.out).2.2 | (with_reducible refine Kd.C_alloc ?_ _) | (with_reducible refine Kd.C_drewN ?_ _) | (with_reducible refine Kd.C_drew ?_))); (case side2 => exact (Kd.R_reads' HO397.out).2.1); rintro e w79 ⟨v401, v403, rfl, ho0, ho1, hb⟩; refine ⟨_, rfl, ?_⟩; have n0_ := zaa.mk (Kd.R_mono (Kd.R_told (Kd.R_told (Kd.R_old (by (with_reducible repeat (first | apply Kd.R_alloc | apply Kd.R_drewN | apply Kd.R_drew)); exact HO_6.out) hb) (Kd.R_base ho0)) (Kd.R_base ho1)) (fun _ h_ => h_.1)); have n1_ := zaa.mk (Kd.R_mono (Kd.R_told (Kd.R_told (Kd.R_old (by (with_reducible repeat (first | apply Kd.R_alloc | apply Kd.R_drewN | apply Kd.R_drew)); exact HO_7.out) hb) (Kd.R_base ho0)) (Kd.R_base ho1)) (fun _ h_ => h_.1)); have n2_ := zaa.mk (Kd.R_mono (Kd.R_told (Kd.R_told (Kd.R_old (by (with_reducible repeat (first | apply Kd.R_alloc | apply Kd.R_drewN | apply Kd.R_drew)); exact HO_10.out) hb) (Kd.R_base ho0)) (Kd.R_base ho1)) (fun _ h_ => h_.1)); have n3_ := zaa.mk (Kd.R_mono (Kd.R_told (Kd.R_told (Kd.R_old (by (with_reducible repeat (first | apply Kd.R_alloc | apply Kd.R_drewN | apply Kd.R_drew)); exact HO_11.out) hb) (Kd.R_base ho0)) (Kd.R_base ho1)) (fun _ h_ => h_.1)); have n4_ := zaa.mk (Kd.R_below (by (with_reducible repeat (first | apply Kd.R_alloc | apply Kd.R_drewN | apply Kd.R_drew)); exact HO397.out) hb); have n5_ := zaa.mk (Kd.R_lower (Kd.R_new' (Kd.R_new' (Kd.R_new' (Kd.R_new' ho0 (Kd.R_lt (by (with_reducible repeat (first | apply Kd.R_alloc | apply Kd.R_drewN | apply Kd.R_drew)); exact HO_6.out))) (Kd.R_lt (by (with_reducible repeat (first | apply Kd.R_alloc | apply Kd.R_drewN | apply Kd.R_drew)); exact HO_7.out))) (Kd.R_lt (by (with_reducible repeat (first | apply Kd.R_alloc | apply Kd.R_drewN | apply Kd.R_drew)); exact HO_10.out))) (Kd.R_lt (by (with_reducible repeat (first | apply Kd.R_alloc | apply Kd.R_drewN | apply Kd.R_drew)); exact HO_11.out))) (zae (by repeat (first | (with_reducible first | exact HB.out | apply zac | apply zab | apply zad) | exact HB.out)))); have n6_ := zaa.mk (Kd.R_lower (Kd.R_new' (Kd.R_new' (Kd.R_new' (Kd.R_new' ho1 (Kd.R_lt (by (with_reducible repeat (first | apply Kd.R_alloc | apply Kd.R_drewN | apply Kd.R_drew)); exact HO_6.out))) (Kd.R_lt (by (with_reducible repeat (first | apply Kd.R_alloc | apply Kd.R_drewN | apply Kd.R_drew)); exact HO_7.out))) (Kd.R_lt (by (with_reducible repeat (first | apply Kd.R_alloc | apply Kd.R_drewN | apply Kd.R_drew)); exact HO_10.out))) (Kd.R_lt (by (with_reducible repeat (first | apply Kd.R_alloc | apply Kd.R_drewN | apply Kd.R_drew)); exact HO_11.out))) (zae (by repeat (first | (with_reducible first | exact HB.out | apply zac | apply zab | apply zad) | exact HB.out)))); have n7_ := zaa.mk (zag (by repeat (first | (with_reducible first | exact HB.out | apply zac | apply zab | apply zad) | exact HB.out)) hb); clear HO_6; clear HO_7; clear HO_10; clear HO_11; clear HO397; clear HB; have HO_6 := n0_; have HO_7 := n1_; have HO_10 := n2_; have HO_11 := n3_; have HO397 := n4_; have HO402 := n5_; have HO404 := n6_; have HB := n7_; clear n0_ n1_ n2_ n3_ n4_ n5_ n6_ n7_; (try clear hb); (try clear hb2); (try clear hk); (try clear hi); (try clear ho0); (try clear ho1)))
            (try simp only [Act.put, List.setIfInBounds_toArray, List.set_cons_zero, List.set_cons_succ])
            go_cut [124] (fun v124 wc => ∃ (kq : Nat) (x124_71 : Bool), v124 = .bool x124_71 ∧ zaa (laws_FnExactWallSides.j2 kq t390 t392 t391 x124_71 = some r) ∧ zaa (kq ≤ kj34) ∧ zaa (Kd.R (Kd.int .i64) 3 wc w.heap.size (fun k_ => some k_ ≠ ((.slice Ao75 t373.length co75) : Value).ownBlock) (.slice Ao73 t372.length co73) t390) ∧ zaa (Kd.R (Kd.int .i64) 3 wc w.heap.size (fun k_ => some k_ ≠ ((.slice Ao73 t372.length co73) : Value).ownBlock) (.slice Ao75 t373.length co75) t392) ∧ zaa (Below w.heap.size w wc))
            case first =>
             have H := HC72.out
             clear HC72
             replace H := Option.bind_eq_some_iff.mp H
             obtain ⟨t405, A800, H⟩ := H
             replace H : (if t405 = true then ((laws_eqIntS.f kj34 t399 t363).bind fun t406 => (if t406 = true then (laws_FnExactWallSides.j2 kj34 t390 t392 t391 (t400 != t364)) else (laws_FnExactWallSides.j2 kj34 t390 t392 t391 true))) else (laws_FnExactWallSides.j2 kj34 t390 t392 t391 true)) = some r := H
             have A80 := zaa.mk A800
             clear A800
             by_cases c81 : t405 = true
             ·subst c81
              have H1 : ((laws_eqIntS.f kj34 t399 t363).bind fun t406 => (if t406 = true then (laws_FnExactWallSides.j2 kj34 t390 t392 t391 (t400 != t364)) else (laws_FnExactWallSides.j2 kj34 t390 t392 t391 true))) = some r := by rw [if_pos rfl] at H; exact H
              clear H
              have H := H1
              clear H1
              replace H := Option.bind_eq_some_iff.mp H
              obtain ⟨t406, A820, H⟩ := H
              replace H : (if t406 = true then (laws_FnExactWallSides.j2 kj34 t390 t392 t391 (t400 != t364)) else (laws_FnExactWallSides.j2 kj34 t390 t392 t391 true)) = some r := H
              have A82 := zaa.mk A820
              clear A820
              by_cases c83 : t406 = true
              ·subst c83
               have H1 : (laws_FnExactWallSides.j2 kj34 t390 t392 t391 (t400 != t364)) = some r := by rw [if_pos rfl] at H; exact H
               clear H
               have H := H1
               clear H1
               have H' := zaa.mk H
               clear H
               obtain ⟨Ao84, co84, eo84⟩ := Kd.R_slice HO402.out
               subst eo84
               obtain ⟨Ao85, co85, eo85⟩ := Kd.R_slice HO_6.out
               subst eo85
               go_wp2_with (first | ((with_reducible refine zai (f := 30) rfl ?_); refine zbc (some 112) rfl rfl Try.func30 (by kernel_rfl) rfl #[.slice Ao84 t398.length co84, .slice Ao85 t362.length co85] rfl (by (try simp only [List.map_toArray, List.map_cons, List.map_nil]); first | done | rfl | (simp only [List.length_drop, List.length_take]; rfl)) ?_; (with_reducible refine (laws_eqIntS.calls kj34 _ _ t398 _ _ t362 true _ ?side1 ?side2 ?side3 ?side4 A80.out).mono ?_); (case side1 => repeat (first | exact (Kd.R_reads' HO402.out).2.2 | (with_reducible refine Kd.C_alloc ?_ _) | (with_reducible refine Kd.C_drewN ?_ _) | (with_reducible refine Kd.C_drew ?_))); (case side2 => exact (Kd.R_reads' HO402.out).2.1); (case side3 => repeat (first | exact (Kd.R_reads' HO_6.out).2.2 | (with_reducible refine Kd.C_alloc ?_ _) | (with_reducible refine Kd.C_drewN ?_ _) | (with_reducible refine Kd.C_drew ?_))); (case side4 => exact (Kd.R_reads' HO_6.out).2.1); rintro e w' ⟨rfl, ⟨nd, rfl⟩⟩; refine ⟨_, rfl, ?_⟩; obtain ⟨Ao86, co86, eo86⟩ := Kd.R_slice HO404.out; subst eo86; obtain ⟨Ao87, co87, eo87⟩ := Kd.R_slice HO_7.out; subst eo87) | (go_at_call 30; (with_reducible refine (laws_eqIntS.calls kj34 _ _ t399 _ _ t363 true _ ?side1 ?side2 ?side3 ?side4 A82.out).mono ?_); (case side1 => repeat (first | exact (Kd.R_reads' HO404.out).2.2 | (with_reducible refine Kd.C_alloc ?_ _) | (with_reducible refine Kd.C_drewN ?_ _) | (with_reducible refine Kd.C_drew ?_))); (case side2 => exact (Kd.R_reads' HO404.out).2.1); (case side3 => repeat (first | exact (Kd.R_reads' HO_7.out).2.2 | (with_reducible refine Kd.C_alloc ?_ _) | (with_reducible refine Kd.C_drewN ?_ _) | (with_reducible refine Kd.C_drew ?_))); (case side4 => exact (Kd.R_reads' HO_7.out).2.1); rintro e w' ⟨rfl, ⟨nd, rfl⟩⟩))
               go_meet
               case rel => exact ⟨_, ((t400 != t364)), (by first | rfl | (simp; done) | (simp [*]; done)), H', ⟨by have := HJ8.out; have := HJ34.out; first | omega | exact Nat.le_refl _⟩, ⟨by (with_reducible repeat (first | apply Kd.R_alloc | apply Kd.R_drewN | apply Kd.R_drew)); exact Kd.R_mono HO_10.out (fun _ hk => hk.1.1.2.2)⟩, ⟨by (with_reducible repeat (first | apply Kd.R_alloc | apply Kd.R_drewN | apply Kd.R_drew)); exact Kd.R_mono HO_11.out (fun _ hk => hk.1.1.2.2)⟩, ⟨by repeat (first | (with_reducible first | exact HB.out | apply zac | apply zab | apply zad) | exact HB.out)⟩⟩
              ·replace c83 := Bool.eq_false_iff.mpr c83
               subst c83
               have H1 : (laws_FnExactWallSides.j2 kj34 t390 t392 t391 true) = some r := by rw [if_neg (show ¬ (false = true) by decide)] at H; exact H
               clear H
               have H := H1
               clear H1
               have H' := zaa.mk H
               clear H
               obtain ⟨Ao88, co88, eo88⟩ := Kd.R_slice HO402.out
               subst eo88
               obtain ⟨Ao89, co89, eo89⟩ := Kd.R_slice HO_6.out
               subst eo89
               go_wp2_with (first | ((with_reducible refine zai (f := 30) rfl ?_); refine zbc (some 112) rfl rfl Try.func30 (by kernel_rfl) rfl #[.slice Ao88 t398.length co88, .slice Ao89 t362.length co89] rfl (by (try simp only [List.map_toArray, List.map_cons, List.map_nil]); first | done | rfl | (simp only [List.length_drop, List.length_take]; rfl)) ?_; (with_reducible refine (laws_eqIntS.calls kj34 _ _ t398 _ _ t362 true _ ?side1 ?side2 ?side3 ?side4 A80.out).mono ?_); (case side1 => repeat (first | exact (Kd.R_reads' HO402.out).2.2 | (with_reducible refine Kd.C_alloc ?_ _) | (with_reducible refine Kd.C_drewN ?_ _) | (with_reducible refine Kd.C_drew ?_))); (case side2 => exact (Kd.R_reads' HO402.out).2.1); (case side3 => repeat (first | exact (Kd.R_reads' HO_6.out).2.2 | (with_reducible refine Kd.C_alloc ?_ _) | (with_reducible refine Kd.C_drewN ?_ _) | (with_reducible refine Kd.C_drew ?_))); (case side4 => exact (Kd.R_reads' HO_6.out).2.1); rintro e w' ⟨rfl, ⟨nd, rfl⟩⟩; refine ⟨_, rfl, ?_⟩; obtain ⟨Ao90, co90, eo90⟩ := Kd.R_slice HO404.out; subst eo90; obtain ⟨Ao91, co91, eo91⟩ := Kd.R_slice HO_7.out; subst eo91) | (go_at_call 30; (with_reducible refine (laws_eqIntS.calls kj34 _ _ t399 _ _ t363 false _ ?side1 ?side2 ?side3 ?side4 A82.out).mono ?_); (case side1 => repeat (first | exact (Kd.R_reads' HO404.out).2.2 | (with_reducible refine Kd.C_alloc ?_ _) | (with_reducible refine Kd.C_drewN ?_ _) | (with_reducible refine Kd.C_drew ?_))); (case side2 => exact (Kd.R_reads' HO404.out).2.1); (case side3 => repeat (first | exact (Kd.R_reads' HO_7.out).2.2 | (with_reducible refine Kd.C_alloc ?_ _) | (with_reducible refine Kd.C_drewN ?_ _) | (with_reducible refine Kd.C_drew ?_))); (case side4 => exact (Kd.R_reads' HO_7.out).2.1); rintro e w' ⟨rfl, ⟨nd, rfl⟩⟩))
               go_meet
               case rel => exact ⟨_, (true), (by first | rfl | (simp; done) | (simp [*]; done)), H', ⟨by have := HJ8.out; have := HJ34.out; first | omega | exact Nat.le_refl _⟩, ⟨by (with_reducible repeat (first | apply Kd.R_alloc | apply Kd.R_drewN | apply Kd.R_drew)); exact Kd.R_mono HO_10.out (fun _ hk => hk.1.1.2.2)⟩, ⟨by (with_reducible repeat (first | apply Kd.R_alloc | apply Kd.R_drewN | apply Kd.R_drew)); exact Kd.R_mono HO_11.out (fun _ hk => hk.1.1.2.2)⟩, ⟨by repeat (first | (with_reducible first | exact HB.out | apply zac | apply zab | apply zad) | exact HB.out)⟩⟩
             ·replace c81 := Bool.eq_false_iff.mpr c81
              subst c81
              have H1 : (laws_FnExactWallSides.j2 kj34 t390 t392 t391 true) = some r := by rw [if_neg (show ¬ (false = true) by decide)] at H; exact H
              clear H
              have H := H1
              clear H1
              have H' := zaa.mk H
              clear H
              obtain ⟨Ao92, co92, eo92⟩ := Kd.R_slice HO402.out
              subst eo92
              obtain ⟨Ao93, co93, eo93⟩ := Kd.R_slice HO_6.out
              subst eo93
              go_wp2_with (first | ((with_reducible refine zai (f := 30) rfl ?_); refine zbc (some 112) rfl rfl Try.func30 (by kernel_rfl) rfl #[.slice Ao92 t398.length co92, .slice Ao93 t362.length co93] rfl (by (try simp only [List.map_toArray, List.map_cons, List.map_nil]); first | done | rfl | (simp only [List.length_drop, List.length_take]; rfl)) ?_; (with_reducible refine (laws_eqIntS.calls kj34 _ _ t398 _ _ t362 false _ ?side1 ?side2 ?side3 ?side4 A80.out).mono ?_); (case side1 => repeat (first | exact (Kd.R_reads' HO402.out).2.2 | (with_reducible refine Kd.C_alloc ?_ _) | (with_reducible refine Kd.C_drewN ?_ _) | (with_reducible refine Kd.C_drew ?_))); (case side2 => exact (Kd.R_reads' HO402.out).2.1); (case side3 => repeat (first | exact (Kd.R_reads' HO_6.out).2.2 | (with_reducible refine Kd.C_alloc ?_ _) | (with_reducible refine Kd.C_drewN ?_ _) | (with_reducible refine Kd.C_drew ?_))); (case side4 => exact (Kd.R_reads' HO_6.out).2.1); rintro e w' ⟨rfl, ⟨nd, rfl⟩⟩; refine ⟨_, rfl, ?_⟩))
              go_meet
              case rel => exact ⟨_, (true), (by first | rfl | (simp; done) | (simp [*]; done)), H', ⟨by have := HJ8.out; have := HJ34.out; first | omega | exact Nat.le_refl _⟩, ⟨by (with_reducible repeat (first | apply Kd.R_alloc | apply Kd.R_drewN | apply Kd.R_drew)); exact Kd.R_mono HO_10.out (fun _ hk => hk.1.1.2.2)⟩, ⟨by (with_reducible repeat (first | apply Kd.R_alloc | apply Kd.R_drewN | apply Kd.R_drew)); exact Kd.R_mono HO_11.out (fun _ hk => hk.1.1.2.2)⟩, ⟨by repeat (first | (with_reducible first | exact HB.out | apply zac | apply zab | apply zad) | exact HB.out)⟩⟩
            case rest =>
             clear HC72
             try clear c1
             try clear c2
             try clear p2
             try clear c3
             try clear c4
             try clear c4b0
             try clear c5
             try clear c6
             try clear c8
             try clear c15
             try clear c17
             try clear c19
             try clear c25
             try clear c28
             try clear c29
             try clear c30
             try clear c31
             try clear c32
             try clear c33
             try clear c39
             try clear c39b0
             try clear c41
             try clear c43
             try clear c54
             try clear c58
             try clear c58b0
             try clear c64
             try clear c64b0
             try clear c69
             try clear c69b0
             try clear c69b1
             try clear c81
             try clear c83
             try clear p2
             obtain ⟨kq, x124_71, rfl, HA, HJ71, HO_10, HO_11, HB⟩ := hcut
             have hl10_71 := (Kd.R_reads' HO_10.out).1
             rw [hl10_71] at HO_10
             (try simp only [hl10_71])
             (try simp only [hl10_71] at HO_11)
             have hl11_71 := (Kd.R_reads' HO_11.out).1
             rw [hl11_71] at HO_11
             (try simp only [hl11_71])
             (try simp only [hl11_71] at HO_10)
             cases kq with
             | zero => exact absurd HA.out (by simp [laws_FnExactWallSides.j2])
             | succ kj71 =>
              have H := HA.out
              clear HA
              simp only [laws_FnExactWallSides.j2] at H
              by_cases c94 : x124_71 = true
              ·subst c94
               have H1 : (some false) = some r := by rw [if_pos rfl] at H; exact H
               clear H
               have H := H1
               clear H1
               obtain rfl := Option.some.inj H
               go_wp2
               go_ret
               exact ⟨by first | rfl | (simp [zak, zaj] <;> rfl) | (simp [*, zak, zaj] <;> rfl), by repeat (first | (with_reducible first | exact HB.out | apply zac | apply zab | apply zad) | exact HB.out)⟩
              ·replace c94 := Bool.eq_false_iff.mpr c94
               subst c94
               have H1 : ((laws_heldIntS.f kj71 t390 1).bind fun t407 => (if t407 < 0 then (some false) else ((laws_heldIntS.f kj71 t392 t407).bind fun t408 => (if t408 < 0 then (some false) else (if t408 = t391 then (some true) else (some false)))))) = some r := by rw [if_neg (show ¬ (false = true) by decide)] at H; exact H
               clear H
               have H := H1
               clear H1
               replace H := Option.bind_eq_some_iff.mp H
               obtain ⟨t407, A950, H⟩ := H
               replace H : (if t407 < 0 then (some false) else ((laws_heldIntS.f kj71 t392 t407).bind fun t408 => (if t408 < 0 then (some false) else (if t408 = t391 then (some true) else (some false))))) = some r := H
               have A95 := zaa.mk A950
               clear A950
               by_cases c96 : t407 < 0
               ·rw [if_pos c96] at H
                have c96b0 : decide (t407 < 0) = true := decide_eq_true c96
                clear c96
                obtain rfl := Option.some.inj H
                go_wp2_with (first | ((with_reducible refine zai (f := 32) rfl ?_); refine zbc (some 127) rfl rfl Try.func32 (by kernel_rfl) rfl #[.slice Ao73 t390.length co73, .int .i64 1] rfl (by (try simp only [List.map_toArray, List.map_cons, List.map_nil]); first | done | rfl | (simp only [List.length_drop, List.length_take]; rfl)) ?_; (with_reducible refine (laws_heldIntS.calls kj71 _ _ t390 1 t407 _ ?side1 ?side2 A95.out).mono ?_); (case side1 => repeat (first | exact (Kd.R_reads' HO_10.out).2.2 | (with_reducible refine Kd.C_alloc ?_ _) | (with_reducible refine Kd.C_drewN ?_ _) | (with_reducible refine Kd.C_drew ?_))); (case side2 => exact (Kd.R_reads' HO_10.out).2.1); rintro e w' ⟨rfl, ⟨nd, rfl⟩⟩; refine ⟨_, rfl, ?_⟩))
                go_ret
                exact ⟨by first | rfl | (simp [zak, zaj] <;> rfl) | (simp [*, zak, zaj] <;> rfl), by repeat (first | (with_reducible first | exact HB.out | apply zac | apply zab | apply zad) | exact HB.out)⟩
               ·rw [if_neg c96] at H
                have c96b0 : decide (t407 < 0) = false := decide_eq_false c96
                clear c96
                replace H := Option.bind_eq_some_iff.mp H
                obtain ⟨t408, A970, H⟩ := H
                replace H : (if t408 < 0 then (some false) else (if t408 = t391 then (some true) else (some false))) = some r := H
                have A97 := zaa.mk A970
                clear A970
                by_cases c98 : t408 < 0
                ·rw [if_pos c98] at H
                 have c98b0 : decide (t408 < 0) = true := decide_eq_true c98
                 clear c98
                 obtain rfl := Option.some.inj H
                 go_wp2_with (first | ((with_reducible refine zai (f := 32) rfl ?_); refine zbc (some 127) rfl rfl Try.func32 (by kernel_rfl) rfl #[.slice Ao73 t390.length co73, .int .i64 1] rfl (by (try simp only [List.map_toArray, List.map_cons, List.map_nil]); first | done | rfl | (simp only [List.length_drop, List.length_take]; rfl)) ?_; (with_reducible refine (laws_heldIntS.calls kj71 _ _ t390 1 t407 _ ?side1 ?side2 A95.out).mono ?_); (case side1 => repeat (first | exact (Kd.R_reads' HO_10.out).2.2 | (with_reducible refine Kd.C_alloc ?_ _) | (with_reducible refine Kd.C_drewN ?_ _) | (with_reducible refine Kd.C_drew ?_))); (case side2 => exact (Kd.R_reads' HO_10.out).2.1); rintro e w' ⟨rfl, ⟨nd, rfl⟩⟩; refine ⟨_, rfl, ?_⟩) | ((with_reducible refine zai (f := 32) rfl ?_); refine zbc (some 132) rfl rfl Try.func32 (by kernel_rfl) rfl #[.slice Ao75 t392.length co75, .int .i64 t407] rfl (by (try simp only [List.map_toArray, List.map_cons, List.map_nil]); first | done | rfl | (simp only [List.length_drop, List.length_take]; rfl)) ?_; (with_reducible refine (laws_heldIntS.calls kj71 _ _ t392 t407 t408 _ ?side1 ?side2 A97.out).mono ?_); (case side1 => repeat (first | exact (Kd.R_reads' HO_11.out).2.2 | (with_reducible refine Kd.C_alloc ?_ _) | (with_reducible refine Kd.C_drewN ?_ _) | (with_reducible refine Kd.C_drew ?_))); (case side2 => exact (Kd.R_reads' HO_11.out).2.1); rintro e w' ⟨rfl, ⟨nd, rfl⟩⟩; refine ⟨_, rfl, ?_⟩))
                 go_ret
                 exact ⟨by first | rfl | (simp [zak, zaj] <;> rfl) | (simp [*, zak, zaj] <;> rfl), by repeat (first | (with_reducible first | exact HB.out | apply zac | apply zab | apply zad) | exact HB.out)⟩
                ·rw [if_neg c98] at H
                 have c98b0 : decide (t408 < 0) = false := decide_eq_false c98
                 clear c98
                 by_cases c99 : t408 = t391
                 ·rw [if_pos c99] at H
                  have c99b0 : (t408 == t391) = true := beq_iff_eq.mpr c99
                  have c99b1 : (t408 != t391) = false := bne_eq_false_iff_eq.mpr c99
                  clear c99
                  obtain rfl := Option.some.inj H
                  go_wp2_with (first | ((with_reducible refine zai (f := 32) rfl ?_); refine zbc (some 127) rfl rfl Try.func32 (by kernel_rfl) rfl #[.slice Ao73 t390.length co73, .int .i64 1] rfl (by (try simp only [List.map_toArray, List.map_cons, List.map_nil]); first | done | rfl | (simp only [List.length_drop, List.length_take]; rfl)) ?_; (with_reducible refine (laws_heldIntS.calls kj71 _ _ t390 1 t407 _ ?side1 ?side2 A95.out).mono ?_); (case side1 => repeat (first | exact (Kd.R_reads' HO_10.out).2.2 | (with_reducible refine Kd.C_alloc ?_ _) | (with_reducible refine Kd.C_drewN ?_ _) | (with_reducible refine Kd.C_drew ?_))); (case side2 => exact (Kd.R_reads' HO_10.out).2.1); rintro e w' ⟨rfl, ⟨nd, rfl⟩⟩; refine ⟨_, rfl, ?_⟩) | ((with_reducible refine zai (f := 32) rfl ?_); refine zbc (some 132) rfl rfl Try.func32 (by kernel_rfl) rfl #[.slice Ao75 t392.length co75, .int .i64 t407] rfl (by (try simp only [List.map_toArray, List.map_cons, List.map_nil]); first | done | rfl | (simp only [List.length_drop, List.length_take]; rfl)) ?_; (with_reducible refine (laws_heldIntS.calls kj71 _ _ t392 t407 t408 _ ?side1 ?side2 A97.out).mono ?_); (case side1 => repeat (first | exact (Kd.R_reads' HO_11.out).2.2 | (with_reducible refine Kd.C_alloc ?_ _) | (with_reducible refine Kd.C_drewN ?_ _) | (with_reducible refine Kd.C_drew ?_))); (case side2 => exact (Kd.R_reads' HO_11.out).2.1); rintro e w' ⟨rfl, ⟨nd, rfl⟩⟩; refine ⟨_, rfl, ?_⟩))
                  go_ret
                  exact ⟨by first | rfl | (simp [zak, zaj] <;> rfl) | (simp [*, zak, zaj] <;> rfl), by repeat (first | (with_reducible first | exact HB.out | apply zac | apply zab | apply zad) | exact HB.out)⟩
                 ·rw [if_neg c99] at H
                  have c99b0 : (t408 == t391) = false := beq_eq_false_iff_ne.mpr c99
                  have c99b1 : (t408 != t391) = true := bne_iff_ne.mpr c99
                  obtain rfl := Option.some.inj H
                  go_wp2_with (first | ((with_reducible refine zai (f := 32) rfl ?_); refine zbc (some 127) rfl rfl Try.func32 (by kernel_rfl) rfl #[.slice Ao73 t390.length co73, .int .i64 1] rfl (by (try simp only [List.map_toArray, List.map_cons, List.map_nil]); first | done | rfl | (simp only [List.length_drop, List.length_take]; rfl)) ?_; (with_reducible refine (laws_heldIntS.calls kj71 _ _ t390 1 t407 _ ?side1 ?side2 A95.out).mono ?_); (case side1 => repeat (first | exact (Kd.R_reads' HO_10.out).2.2 | (with_reducible refine Kd.C_alloc ?_ _) | (with_reducible refine Kd.C_drewN ?_ _) | (with_reducible refine Kd.C_drew ?_))); (case side2 => exact (Kd.R_reads' HO_10.out).2.1); rintro e w' ⟨rfl, ⟨nd, rfl⟩⟩; refine ⟨_, rfl, ?_⟩) | ((with_reducible refine zai (f := 32) rfl ?_); refine zbc (some 132) rfl rfl Try.func32 (by kernel_rfl) rfl #[.slice Ao75 t392.length co75, .int .i64 t407] rfl (by (try simp only [List.map_toArray, List.map_cons, List.map_nil]); first | done | rfl | (simp only [List.length_drop, List.length_take]; rfl)) ?_; (with_reducible refine (laws_heldIntS.calls kj71 _ _ t392 t407 t408 _ ?side1 ?side2 A97.out).mono ?_); (case side1 => repeat (first | exact (Kd.R_reads' HO_11.out).2.2 | (with_reducible refine Kd.C_alloc ?_ _) | (with_reducible refine Kd.C_drewN ?_ _) | (with_reducible refine Kd.C_drew ?_))); (case side2 => exact (Kd.R_reads' HO_11.out).2.1); rintro e w' ⟨rfl, ⟨nd, rfl⟩⟩; refine ⟨_, rfl, ?_⟩))
                  go_ret
                  exact ⟨by first | rfl | (simp [zak, zaj] <;> rfl) | (simp [*, zak, zaj] <;> rfl), by repeat (first | (with_reducible first | exact HB.out | apply zac | apply zab | apply zad) | exact HB.out)⟩
           ·rw [if_neg c69] at H
            have c69b0 : (t394 == t391) = false := beq_eq_false_iff_ne.mpr c69
            have c69b1 : (t394 != t391) = true := bne_iff_ne.mpr c69
            obtain rfl := Option.some.inj H
            obtain ⟨Ao100, co100, eo100⟩ := Kd.R_slice HO_10.out
            subst eo100
            go_wp2_with (first | ((with_reducible refine zai (f := 31) rfl ?_); refine zbc (some 85) rfl rfl Try.func31 (by kernel_rfl) rfl #[.slice Ao100 t372.length co100, .int .i64 1] rfl (by (try simp only [List.map_toArray, List.map_cons, List.map_nil]); first | done | rfl | (simp only [List.length_drop, List.length_take]; rfl)) ?_; (with_reducible refine (laws_markIntS.calls kj34 (fun k_ => some k_ = (.slice Ao100 t372.length co100 : Value).ownBlock) (.slice Ao100 t372.length co100) t372 1 t389 t390 w _ ?side1 ?side2 A55.out).mono ?_); (case side1 => repeat (first | (with_reducible first | exact HB.out | apply zac | apply zab | apply zad) | exact HB.out)); (case side2 => exact Kd.R_tight rfl HO_10.out); rintro e w101 ⟨rfl, hy0, hb, hkp⟩; refine ⟨_, rfl, ?_⟩; have n0_ := zaa.mk (Kd.R_mono (ok' := fun k_ => some k_ ≠ (v367 : Value).ownBlock ∧ some k_ ≠ (.slice Ao100 t372.length co100 : Value).ownBlock ∧ some k_ ≠ (v377 : Value).ownBlock) (Kd.R_keptB (HO_6.out) hkp (fun k_ hk_ hs_ => (hk_.2.1) hs_)) (fun k_ hk_ => ⟨hk_.1.1, hk_.1.2.1, hk_.1.2.2⟩)); have n1_ := zaa.mk (Kd.R_mono (ok' := fun k_ => some k_ ≠ (v365 : Value).ownBlock ∧ some k_ ≠ (.slice Ao100 t372.length co100 : Value).ownBlock ∧ some k_ ≠ (v377 : Value).ownBlock) (Kd.R_keptB (HO_7.out) hkp (fun k_ hk_ hs_ => (hk_.2.1) hs_)) (fun k_ hk_ => ⟨hk_.1.1, hk_.1.2.1, hk_.1.2.2⟩)); have n2_ := zaa.mk (Kd.R_reok rfl hy0 (fun k_ e_ => HO_10.out.1 k_ e_)); have n3_ := zaa.mk (Kd.R_mono (ok' := fun k_ => some k_ ≠ (v365 : Value).ownBlock ∧ some k_ ≠ (v367 : Value).ownBlock ∧ some k_ ≠ (.slice Ao100 t372.length co100 : Value).ownBlock) (Kd.R_keptB (HO_11.out) hkp (fun k_ hk_ hs_ => (hk_.2.2) hs_)) (fun k_ hk_ => ⟨hk_.1.1, hk_.1.2.1, hk_.1.2.2⟩)); have n4_ := zaa.mk (hb); clear HO_6; clear HO_7; clear HO_10; clear HO_11; clear HB; have HO_6 := n0_; have HO_7 := n1_; have HO_10 := n2_; have HO_11 := n3_; have HB := n4_; clear n0_ n1_ n2_ n3_ n4_; (try clear hb); (try clear hkp); (try clear hy0); obtain ⟨Ao102, co102, eo102⟩ := Kd.R_slice HO_11.out; subst eo102) | ((with_reducible refine zai (f := 31) rfl ?_); refine zbc (some 88) rfl rfl Try.func31 (by kernel_rfl) rfl #[.slice Ao102 t373.length co102, .int .i64 t389] rfl (by (try simp only [List.map_toArray, List.map_cons, List.map_nil]); first | done | rfl | (simp only [List.length_drop, List.length_take]; rfl)) ?_; (with_reducible refine (laws_markIntS.calls kj34 (fun k_ => some k_ = (.slice Ao102 t373.length co102 : Value).ownBlock) (.slice Ao102 t373.length co102) t373 t389 t391 t392 w _ ?side1 ?side2 A56.out).mono ?_); (case side1 => repeat (first | (with_reducible first | exact HB.out | apply zac | apply zab | apply zad) | exact HB.out)); (case side2 => exact Kd.R_tight rfl HO_11.out); rintro e w103 ⟨rfl, hy0, hb, hkp⟩; refine ⟨_, rfl, ?_⟩; have n0_ := zaa.mk (Kd.R_mono (ok' := fun k_ => some k_ ≠ (v367 : Value).ownBlock ∧ some k_ ≠ (.slice Ao100 t372.length co100 : Value).ownBlock ∧ some k_ ≠ (.slice Ao102 t373.length co102 : Value).ownBlock) (Kd.R_keptB (HO_6.out) hkp (fun k_ hk_ hs_ => (hk_.2.2) hs_)) (fun k_ hk_ => ⟨hk_.1.1, hk_.1.2.1, hk_.1.2.2⟩)); have n1_ := zaa.mk (Kd.R_mono (ok' := fun k_ => some k_ ≠ (v365 : Value).ownBlock ∧ some k_ ≠ (.slice Ao100 t372.length co100 : Value).ownBlock ∧ some k_ ≠ (.slice Ao102 t373.length co102 : Value).ownBlock) (Kd.R_keptB (HO_7.out) hkp (fun k_ hk_ hs_ => (hk_.2.2) hs_)) (fun k_ hk_ => ⟨hk_.1.1, hk_.1.2.1, hk_.1.2.2⟩)); have n2_ := zaa.mk (Kd.R_mono (ok' := fun k_ => some k_ ≠ (v365 : Value).ownBlock ∧ some k_ ≠ (v367 : Value).ownBlock ∧ some k_ ≠ (.slice Ao102 t373.length co102 : Value).ownBlock) (Kd.R_keptB (HO_10.out) hkp (fun k_ hk_ hs_ => (hk_.2.2) hs_)) (fun k_ hk_ => ⟨hk_.1.1, hk_.1.2.1, hk_.1.2.2⟩)); have n3_ := zaa.mk (Kd.R_reok rfl hy0 (fun k_ e_ => HO_11.out.1 k_ e_)); have n4_ := zaa.mk (hb); clear HO_6; clear HO_7; clear HO_10; clear HO_11; clear HB; have HO_6 := n0_; have HO_7 := n1_; have HO_10 := n2_; have HO_11 := n3_; have HB := n4_; clear n0_ n1_ n2_ n3_ n4_; (try clear hb); (try clear hkp); (try clear hy0)) | ((with_reducible refine zai (f := 32) rfl ?_); refine zbc (some 91) rfl rfl Try.func32 (by kernel_rfl) rfl #[.slice Ao100 t390.length co100, .int .i64 1] rfl (by (try simp only [List.map_toArray, List.map_cons, List.map_nil]); first | done | (rw [show t390.length = t372.length from (Kd.R_reads' HO_10.out).1.symm] <;> rfl) | rfl | (simp only [List.length_drop, List.length_take]; rfl)) ?_; (with_reducible refine (laws_heldIntS.calls kj34 _ _ t390 1 t393 _ ?side1 ?side2 A57.out).mono ?_); (case side1 => repeat (first | exact (Kd.R_reads' HO_10.out).2.2 | (with_reducible refine Kd.C_alloc ?_ _) | (with_reducible refine Kd.C_drewN ?_ _) | (with_reducible refine Kd.C_drew ?_))); (case side2 => rw [show t390.length = t372.length from (Kd.R_reads' HO_10.out).1.symm]; exact (Kd.R_reads' HO_10.out).2.1); rintro e w' ⟨rfl, ⟨nd, rfl⟩⟩; refine ⟨_, rfl, ?_⟩) | ((with_reducible refine zai (f := 32) rfl ?_); refine zbc (some 96) rfl rfl Try.func32 (by kernel_rfl) rfl #[.slice Ao102 t392.length co102, .int .i64 t393] rfl (by (try simp only [List.map_toArray, List.map_cons, List.map_nil]); first | done | (rw [show t392.length = t373.length from (Kd.R_reads' HO_11.out).1.symm] <;> rfl) | rfl | (simp only [List.length_drop, List.length_take]; rfl)) ?_; (with_reducible refine (laws_heldIntS.calls kj34 _ _ t392 t393 t394 _ ?side1 ?side2 A63.out).mono ?_); (case side1 => repeat (first | exact (Kd.R_reads' HO_11.out).2.2 | (with_reducible refine Kd.C_alloc ?_ _) | (with_reducible refine Kd.C_drewN ?_ _) | (with_reducible refine Kd.C_drew ?_))); (case side2 => rw [show t392.length = t373.length from (Kd.R_reads' HO_11.out).1.symm]; exact (Kd.R_reads' HO_11.out).2.1); rintro e w' ⟨rfl, ⟨nd, rfl⟩⟩; refine ⟨_, rfl, ?_⟩))
            go_ret
            exact ⟨by first | rfl | (simp [zak, zaj] <;> rfl) | (simp [*, zak, zaj] <;> rfl), by repeat (first | (with_reducible first | exact HB.out | apply zac | apply zab | apply zad) | exact HB.out)⟩
     ·replace c33 := Bool.eq_false_iff.mpr c33
      subst c33
      have H1 : (some false) = some r := by rw [if_neg (show ¬ (false = true) by decide)] at H; exact H
      clear H
      have H := H1
      clear H1
      obtain rfl := Option.some.inj H
      go_wp2_with (first | ((with_reducible refine zai (f := 17) rfl ?_); refine zbc (some 58) rfl rfl Try.func17 (by kernel_rfl) rfl #[.slice A0 l0.length c0] rfl (by (try simp only [List.map_toArray, List.map_cons, List.map_nil]); first | done | rfl | (simp only [List.length_drop, List.length_take]; rfl)) ?_; (with_reducible refine (laws_toStringS.calls kj8 _ _ l0 t381 _ ?side1 ?side2 A31.out).mono ?_); (case side1 => repeat (first | exact (Kd.C_below HR0.out HB.out) | (with_reducible refine Kd.C_alloc ?_ _) | (with_reducible refine Kd.C_drewN ?_ _) | (with_reducible refine Kd.C_drew ?_))); (case side2 => exact HC0.out); rintro e w104 ⟨v382, rfl, ho0, hb⟩; refine ⟨_, rfl, ?_⟩; have n0_ := zaa.mk (Kd.R_below (by (with_reducible repeat (first | apply Kd.R_alloc | apply Kd.R_drewN | apply Kd.R_drew)); exact HO_6.out) hb); have n1_ := zaa.mk (Kd.R_below (by (with_reducible repeat (first | apply Kd.R_alloc | apply Kd.R_drewN | apply Kd.R_drew)); exact HO_7.out) hb); have n2_ := zaa.mk (Kd.R_elder' (by (with_reducible repeat (first | apply Kd.R_alloc | apply Kd.R_drewN | apply Kd.R_drew)); exact HO_9.out) (Kd.R_base ho0) hb); have n3_ := zaa.mk (Kd.R_below (by (with_reducible repeat (first | apply Kd.R_alloc | apply Kd.R_drewN | apply Kd.R_drew)); exact HO_10.out) hb); have n4_ := zaa.mk (Kd.R_below (by (with_reducible repeat (first | apply Kd.R_alloc | apply Kd.R_drewN | apply Kd.R_drew)); exact HO_11.out) hb); have n5_ := zaa.mk (Kd.R_lower (Kd.R_new' ho0 (Kd.R_lt (by (with_reducible repeat (first | apply Kd.R_alloc | apply Kd.R_drewN | apply Kd.R_drew)); exact HO_9.out))) (zae (by repeat (first | (with_reducible first | exact HB.out | apply zac | apply zab | apply zad) | exact HB.out)))); have n6_ := zaa.mk (zag (by repeat (first | (with_reducible first | exact HB.out | apply zac | apply zab | apply zad) | exact HB.out)) hb); clear HO_6; clear HO_7; clear HO_9; clear HO_10; clear HO_11; clear HB; have HO_6 := n0_; have HO_7 := n1_; have HO_9 := n2_; have HO_10 := n3_; have HO_11 := n4_; have HO383 := n5_; have HB := n6_; clear n0_ n1_ n2_ n3_ n4_ n5_ n6_; (try clear hb); (try clear hb2); (try clear hk); (try clear hi); (try clear ho0); obtain ⟨Ao105, co105, eo105⟩ := Kd.R_slice HO383.out; subst eo105) | ((with_reducible refine zai (f := 19) rfl ?_); refine zbc (some 59) rfl rfl Try.func19 (by kernel_rfl) rfl #[.slice Ao14 t369.length co14, .slice Ao105 t381.length co105] rfl (by (try simp only [List.map_toArray, List.map_cons, List.map_nil]); first | done | rfl | (simp only [List.length_drop, List.length_take]; rfl)) ?_; (with_reducible refine (laws_eqStringS.calls kj8 _ _ t369 _ _ t381 false _ ?side1 ?side2 ?side3 ?side4 A32.out).mono ?_); (case side1 => repeat (first | exact (Kd.R_reads' HO_9.out).2.2 | (with_reducible refine Kd.C_alloc ?_ _) | (with_reducible refine Kd.C_drewN ?_ _) | (with_reducible refine Kd.C_drew ?_))); (case side2 => exact (Kd.R_reads' HO_9.out).2.1); (case side3 => repeat (first | exact (Kd.R_reads' HO383.out).2.2 | (with_reducible refine Kd.C_alloc ?_ _) | (with_reducible refine Kd.C_drewN ?_ _) | (with_reducible refine Kd.C_drew ?_))); (case side4 => exact (Kd.R_reads' HO383.out).2.1); rintro e w' ⟨rfl, ⟨nd, rfl⟩⟩; refine ⟨_, rfl, ?_⟩))
      go_ret
      exact ⟨by first | rfl | (simp [zak, zaj] <;> rfl) | (simp [*, zak, zaj] <;> rfl), by repeat (first | (with_reducible first | exact HB.out | apply zac | apply zab | apply zad) | exact HB.out)⟩
end Go.Proofs.Ytoijjkhdfooapaa.SI
namespace Go.Proofs.Ytoijjkhdfooapaa.Hd
open Go.RowKit Go.PW.PrintWords Go.PW.PrintLast Go.PW.PrintMore Go.Proofs.Ytoijjkhdfooapaa.PB
theorem sz_loop (l : List ByteArray) (hl : l.length ≤ 1048576) (hs : ∀ s ∈ l, s.size ≤ 9223372036854775807) : ∀ m i (a : Int), i + m = l.length → 0 ≤ a → a ≤ 1048576 → (∀ j, j < i → ∀ s, l[j]? = some s → s.size ≤ 1048576) → ∃ v, Evs (fun k => laws_szStringS.l0 k l a (i : Int)) v ∧ (v < 0 ∨ (smallP l ∧ 0 ≤ v ∧ v ≤ a)) := by
 intro m
 induction m with
 | zero =>
  intro i a hi h0 h1 hj
  refine ⟨a, Evs.step (h := fun _ => some a) (fun k => ?_) (Evs.const _), .inr ⟨⟨hl, fun s hs => ?_⟩, h0, Int.le_refl _⟩⟩
  ·conv => lhs; unfold laws_szStringS.l0
   rw [if_neg (by omega)]
  ·obtain ⟨j, hj2, e⟩ := List.mem_iff_getElem.1 hs
   exact hj j (by omega) s (by rw [List.getElem?_eq_getElem hj2, e])
 | succ m ih =>
  intro i a hi h0 h1 hj
  obtain ⟨s, hsi⟩ : ∃ s, l[i]? = some s := ⟨_, List.getElem?_eq_getElem (by omega)⟩
  have hsz := hs s (List.mem_of_getElem? hsi)
  by_cases hneg : a - (s.size : Int) < 0
  ·refine ⟨-1, Evs.step (h := fun _ => some (-1)) (fun k => ?_) (Evs.const _), .inl (by omega)⟩
   conv => lhs; unfold laws_szStringS.l0
   rw [if_pos (by omega), if_pos (by omega), zcb hsi, zan (by omega) (by omega), if_pos hneg]
  ·obtain ⟨v, hv, hor⟩ := ih (i + 1) (a - (s.size : Int)) (by omega) (by omega) (by omega) (fun j hj1 s1 h1 => by
    rcases Nat.lt_or_eq_of_le (Nat.lt_succ_iff.1 hj1) with h2 | h2
    ·exact hj j h2 s1 h1
    ·subst h2
     rw [hsi] at h1
     have := Option.some.inj h1
     subst this
     omega)
   refine ⟨v, Evs.step (h := fun k => laws_szStringS.l0 k l (a - (s.size : Int)) ((i + 1 : Nat) : Int)) (fun k => ?_) hv, ?_⟩
   ·conv => lhs; unfold laws_szStringS.l0
    rw [if_pos (by omega), if_pos (by omega), zcb hsi, zan (x := a - (s.size : Int)) (by omega) (by omega), if_neg hneg, zba (by omega)]
   ·rcases hor with h | ⟨h2, h3, h4⟩
    ·exact .inl h
    ·exact .inr ⟨h2, h3, by omega⟩
theorem sz_ev (l : List ByteArray) (hf : fits l) (a : Int) (h0 : 0 ≤ a) (h1 : a ≤ 1048576) : ∃ v, Evs (fun k => laws_szStringS.f k l a) v ∧ (v < 0 ∨ (smallP l ∧ 0 ≤ v ∧ v ≤ a)) := by
 have hl := hf.1
 by_cases hneg : a - (l.length : Int) < 0
 ·refine ⟨-1, Evs.congr (h := fun _ => some (-1)) (fun k => ?_) (Evs.const _), .inl (by omega)⟩
  unfold laws_szStringS.f
  rw [zan (by omega) (by omega), if_pos hneg]
 ·obtain ⟨v, hv, hor⟩ := sz_loop l (by omega) hf.2 l.length 0 (a - (l.length : Int)) (by omega) (by omega) (by omega) (fun j hj => by omega)
  refine ⟨v, Evs.congr (fun k => ?_) hv, ?_⟩
  ·unfold laws_szStringS.f
   rw [zan (by omega) (by omega), if_neg hneg]
   rfl
  ·rcases hor with h | ⟨h2, h3, h4⟩
   ·exact .inl h
   ·exact .inr ⟨h2, h3, by omega⟩
theorem to_loop (l : List ByteArray) (hl : l.length ≤ 1048576) : ∀ m i, i + m = l.length → Evs (fun k => laws_toStringS.l0 k l (l.take i ++ List.replicate m (⟨#[]⟩ : ByteArray)) (i : Int)) l := by
 intro m
 induction m with
 | zero =>
  intro i hi
  refine Evs.step (h := fun _ => some l) (fun k => ?_) (Evs.const _)
  conv => lhs; unfold laws_toStringS.l0
  rw [if_neg (by omega), List.take_of_length_le (by omega)]
  simp
 | succ m ih =>
  intro i hi
  obtain ⟨s, hsi⟩ : ∃ s, l[i]? = some s := ⟨_, List.getElem?_eq_getElem (by omega)⟩
  refine Evs.step (h := fun k => laws_toStringS.l0 k l (l.take (i + 1) ++ List.replicate m (⟨#[]⟩ : ByteArray)) ((i + 1 : Nat) : Int)) (fun k => ?_) (ih (i + 1) (by omega))
  conv => lhs; unfold laws_toStringS.l0
  have hset : (l.take i ++ List.replicate (m + 1) (⟨#[]⟩ : ByteArray)).set i s = l.take (i + 1) ++ List.replicate m (⟨#[]⟩ : ByteArray) := by
   rw [List.set_append_right _ _ (by simp; omega), show i - (l.take i).length = 0 by simp; omega, List.replicate_succ, List.set_cons_zero, List.take_add_one, hsi]
   simp
  rw [if_pos (by omega), if_pos (by omega), if_pos (by simp; omega), zcb hsi, Int.toNat_natCast, hset, zba (by omega)]
theorem toS_ev (l : List ByteArray) (hl : l.length ≤ 1048576) : Evs (fun k => laws_toStringS.f k l) l := by
 refine Evs.congr (fun k => ?_) (to_loop l hl l.length 0 (by omega))
 unfold laws_toStringS.f
 rw [if_pos (by omega), if_pos (by omega), Int.toNat_natCast]
 simp
theorem eq_loop (p q : List ByteArray) (hl : p.length = q.length) (hb : p.length ≤ 1048576) : ∀ m i, i + m = p.length → p.take i = q.take i → Evs (fun k => laws_eqStringS.l0 k p q (i : Int)) (decide (p = q)) := by
 intro m
 induction m with
 | zero =>
  intro i hi ht
  have e : p = q := by
   rw [show i = p.length by omega, List.take_length, hl, List.take_length] at ht
   exact ht
  refine Evs.step (h := fun _ => some (decide (p = q))) (fun k => ?_) (Evs.const _)
  conv => lhs; unfold laws_eqStringS.l0
  rw [if_neg (by omega), decide_eq_true e]
 | succ m ih =>
  intro i hi ht
  by_cases he : p[i] = q[i]
  ·refine Evs.step (h := fun k => laws_eqStringS.l0 k p q ((i + 1 : Nat) : Int)) (fun k => ?_) (ih (i + 1) (by omega) (by
    rw [List.take_add_one, List.take_add_one, ht, List.getElem?_eq_getElem (by omega), List.getElem?_eq_getElem (by omega), he]))
   conv => lhs; unfold laws_eqStringS.l0
   rw [if_pos (by omega), if_pos (by omega), if_pos (by omega), rdOf_get p i (by omega), rdOf_get q i (by omega), if_pos (toList_inj.2 he), zba (by omega)]
  ·have hne : p ≠ q := by rintro rfl; exact he rfl
   refine Evs.step (h := fun _ => some (decide (p = q))) (fun k => ?_) (Evs.const _)
   conv => lhs; unfold laws_eqStringS.l0
   rw [if_pos (by omega), if_pos (by omega), if_pos (by omega), rdOf_get p i (by omega), rdOf_get q i (by omega), if_neg (fun h => he (toList_inj.1 h)), decide_eq_false hne]
theorem eqS_ev (p q : List ByteArray) (hb : p.length ≤ 1048576) : Evs (fun k => laws_eqStringS.f k p q) (decide (p = q)) := by
 by_cases h : p.length = q.length
 ·refine Evs.congr (fun k => ?_) (eq_loop p q h hb p.length 0 (by omega) (by simp))
  unfold laws_eqStringS.f
  rw [if_pos (by omega)]
  rfl
 ·have hne : p ≠ q := by rintro rfl; exact h rfl
  refine Evs.congr (h := fun _ => some (decide (p = q))) (fun k => ?_) (Evs.const _)
  unfold laws_eqStringS.f
  rw [if_neg (by omega), decide_eq_false hne]
theorem eqS_same (p : List ByteArray) (hb : p.length ≤ 1048576) : Evs (fun k => laws_eqStringS.f k p p) true := by
 have := eqS_ev p p hb
 rwa [decide_eq_true rfl] at this
theorem append_size (a b : ByteArray) : (a ++ b).size = a.size + b.size := by simp
theorem mark_loop : ∀ (B n : Nat) (out : ByteArray), n ≤ B → out.size + n ≤ 1099511627776 → ∃ s, Evs (fun k => laws_markText.l0 k (n : Int) out) s
 | 0, n, out, hn, hb => by
  refine ⟨(⟨#[109]⟩ : ByteArray) ++ out, Evs.step (h := fun _ => some ((⟨#[109]⟩ : ByteArray) ++ out)) (fun k => ?_) (Evs.const _)⟩
  conv => lhs; unfold laws_markText.l0
  rw [if_neg (by omega), if_pos (by omega)]
 | B + 1, n, out, hn, hb => by
  rcases Nat.eq_zero_or_pos n with h0 | h0
  ·subst h0
   refine ⟨(⟨#[109]⟩ : ByteArray) ++ out, Evs.step (h := fun _ => some ((⟨#[109]⟩ : ByteArray) ++ out)) (fun k => ?_) (Evs.const _)⟩
   conv => lhs; unfold laws_markText.l0
   rw [if_neg (by omega), if_pos (by omega)]
  ·have hsz : (strOfNums [(wrap64 (48 + (Int.tmod (n : Int) 10))) % 256]).size = 1 := rfl
   obtain ⟨s, hs⟩ := mark_loop B (n / 10) (strOfNums [(wrap64 (48 + (Int.tmod (n : Int) 10))) % 256] ++ out) (by omega) (by rw [append_size, hsz]; omega)
   refine ⟨s, Evs.step (h := fun k => laws_markText.l0 k ((n / 10 : Nat) : Int) (strOfNums [(wrap64 (48 + (Int.tmod (n : Int) 10))) % 256] ++ out)) (fun k => ?_) hs⟩
   conv => lhs; unfold laws_markText.l0
   have hd : Int.tdiv (n : Int) 10 = ((n / 10 : Nat) : Int) := by rw [Int.tdiv_eq_ediv_of_nonneg (by omega)]; omega
   rw [if_pos (by omega)]
   simp only [Option.bind_some]
   rw [hsz, if_pos (by omega), hd, zan (x := ((n / 10 : Nat) : Int)) (by omega) (by omega)]
theorem mark_ex (n : Nat) : ∃ s, n ≤ 1099511627776 → Evs (fun k => laws_markText.f k (n : Int)) s := by
 by_cases hn : n ≤ 1099511627776
 ·rcases Nat.eq_zero_or_pos n with h0 | h0
  ·subst h0
   refine ⟨⟨#[109, 48]⟩, fun _ => Evs.congr (h := fun _ => some (⟨#[109, 48]⟩ : ByteArray)) (fun k => ?_) (Evs.const _)⟩
   unfold laws_markText.f
   rw [if_pos (by omega)]
  ·obtain ⟨s, hs⟩ := mark_loop n n ⟨#[]⟩ (Nat.le_refl _) (by show 0 + n ≤ _; omega)
   refine ⟨s, fun _ => Evs.congr (fun k => ?_) hs⟩
   unfold laws_markText.f
   rw [if_neg (by omega)]
 ·exact ⟨⟨#[]⟩, fun h => absurd h hn⟩
noncomputable def mkT (n : Nat) : ByteArray := (mark_ex n).choose
theorem mkT_ev (n : Nat) (hn : n ≤ 1099511627776) : Evs (fun k => laws_markText.f k (n : Int)) (mkT n) := (mark_ex n).choose_spec hn
noncomputable def marksOf (a n : Nat) : List ByteArray := (List.range n).map fun i => mkT (a + i)
theorem marksOf_length (a n : Nat) : (marksOf a n).length = n := by simp [marksOf]
theorem markS_loop (l : List ByteArray) (hl : l.length ≤ 1048576) (a : Nat) (ha : a ≤ 2097153) : ∀ m i, i + m = l.length → Evs (fun k => laws_markStringS.l0 k (marksOf a i ++ l.drop i) ((a + i : Nat) : Int) (i : Int)) (((a + l.length : Nat) : Int), marksOf a l.length) := by
 intro m
 induction m with
 | zero =>
  intro i hi
  obtain rfl : i = l.length := by omega
  refine Evs.step (h := fun _ => some (((a + l.length : Nat) : Int), marksOf a l.length)) (fun k => ?_) (Evs.const _)
  conv => lhs; unfold laws_markStringS.l0
  rw [if_neg (by simp [marksOf_length])]
  simp
 | succ m ih =>
  intro i hi
  have hset : (marksOf a i ++ l.drop i).set i (mkT (a + i)) = marksOf a (i + 1) ++ l.drop (i + 1) := by
   rw [List.set_append_right _ _ (by rw [marksOf_length]; exact Nat.le_refl _), marksOf_length, Nat.sub_self, List.drop_eq_getElem_cons (by omega), List.set_cons_zero]
   unfold marksOf
   rw [List.range_succ, List.map_append]
   simp
  refine Evs.step (h := fun k => (laws_markText.f k ((a + i : Nat) : Int)).bind fun t220 => laws_markStringS.l0 k ((marksOf a i ++ l.drop i).set i t220) ((a + (i + 1) : Nat) : Int) ((i + 1 : Nat) : Int)) (fun k => ?_) (Evs.bind (mkT_ev (a + i) (by omega)) (by rw [hset]; exact ih (i + 1) (by omega)))
  conv => lhs; unfold laws_markStringS.l0
  rw [if_pos (by simp [marksOf_length]; omega)]
  congr 1
  funext t
  have e : wrap64 (((a + i : Nat) : Int) + 1) = ((a + (i + 1) : Nat) : Int) := by rw [zan (by omega) (by omega)]; omega
  rw [if_pos (by omega), Int.toNat_natCast, zba (i := i) (by omega), e]
theorem markS_ev (l : List ByteArray) (hl : l.length ≤ 1048576) (a : Nat) (ha : a ≤ 2097153) : Evs (fun k => laws_markStringS.f k l (a : Int)) (((a + l.length : Nat) : Int), marksOf a l.length) := by
 have := markS_loop l hl a ha l.length 0 (by omega)
 refine Evs.congr (fun k => ?_) this
 unfold laws_markStringS.f
 simp [marksOf]
theorem eqI_loop (p : List Int) (hb : p.length ≤ 1048576) : ∀ m i, i + m = p.length → Evs (fun k => laws_eqIntS.l0 k p p (i : Int)) true := by
 intro m
 induction m with
 | zero =>
  intro i hi
  refine Evs.step (h := fun _ => some true) (fun k => ?_) (Evs.const _)
  conv => lhs; unfold laws_eqIntS.l0
  rw [if_neg (by omega)]
 | succ m ih =>
  intro i hi
  refine Evs.step (fun k => ?_) (ih (i + 1) (by omega))
  conv => lhs; unfold laws_eqIntS.l0
  rw [if_pos (by omega), if_pos (by omega), if_pos (by omega), if_pos rfl, zba (by omega)]
theorem eqI_same (p : List Int) (hb : p.length ≤ 1048576) : Evs (fun k => laws_eqIntS.f k p p) true := by
 refine Evs.congr (fun k => ?_) (eqI_loop p hb p.length 0 (by omega))
 unfold laws_eqIntS.f
 rw [if_pos rfl]
 rfl
def marksI (a n : Nat) : List Int := (List.range n).map fun i => ((a + i : Nat) : Int)
theorem marksI_length (a n : Nat) : (marksI a n).length = n := by simp [marksI]
theorem markI_loop (l : List Int) (hl : l.length ≤ 1048576) (a : Nat) (ha : a ≤ 2097153) : ∀ m i, i + m = l.length → Evs (fun k => laws_markIntS.l0 k (marksI a i ++ l.drop i) ((a + i : Nat) : Int) (i : Int)) (((a + l.length : Nat) : Int), marksI a l.length) := by
 intro m
 induction m with
 | zero =>
  intro i hi
  obtain rfl : i = l.length := by omega
  refine Evs.step (h := fun _ => some (((a + l.length : Nat) : Int), marksI a l.length)) (fun k => ?_) (Evs.const _)
  conv => lhs; unfold laws_markIntS.l0
  rw [if_neg (by simp [marksI_length])]
  simp
 | succ m ih =>
  intro i hi
  have hset : (marksI a i ++ l.drop i).set i ((a + i : Nat) : Int) = marksI a (i + 1) ++ l.drop (i + 1) := by
   rw [List.set_append_right _ _ (by rw [marksI_length]; exact Nat.le_refl _), marksI_length, Nat.sub_self, List.drop_eq_getElem_cons (by omega), List.set_cons_zero]
   unfold marksI
   rw [List.range_succ, List.map_append]
   simp
  have hnx := ih (i + 1) (by omega)
  rw [← hset] at hnx
  refine Evs.step (fun k => ?_) hnx
  conv => lhs; unfold laws_markIntS.l0
  have e : wrap64 (((a + i : Nat) : Int) + 1) = ((a + (i + 1) : Nat) : Int) := by rw [zan (by omega) (by omega)]; omega
  rw [if_pos (by simp [marksI_length]; omega), if_pos (by omega), Int.toNat_natCast, zba (i := i) (by omega), e]
theorem markI_ev (l : List Int) (hl : l.length ≤ 1048576) (a : Nat) (ha : a ≤ 2097153) : Evs (fun k => laws_markIntS.f k l (a : Int)) (((a + l.length : Nat) : Int), marksI a l.length) := by
 have := markI_loop l hl a ha l.length 0 (by omega)
 refine Evs.congr (fun k => ?_) this
 unfold laws_markIntS.f
 simp [marksI]
theorem heldI_loop (n : Nat) (hl : n ≤ 1048576) (a : Nat) (ha : a ≤ 2097153) : ∀ m i, i + m = n → Evs (fun k => laws_heldIntS.l0 k (marksI a n) ((a + i : Nat) : Int) (i : Int)) ((a + n : Nat) : Int) := by
 intro m
 induction m with
 | zero =>
  intro i hi
  obtain rfl : i = n := by omega
  refine Evs.step (h := fun _ => some ((a + i : Nat) : Int)) (fun k => ?_) (Evs.const _)
  conv => lhs; unfold laws_heldIntS.l0
  rw [if_neg (by simp [marksI_length])]
 | succ m ih =>
  intro i hi
  have hget : rd (marksI a n) (i : Int) = ((a + i : Nat) : Int) := by
   unfold rd marksI
   rw [Int.toNat_natCast, List.getD_eq_getElem?_getD, List.getElem?_map, List.getElem?_range (by omega)]
   rfl
  refine Evs.step (fun k => ?_) (ih (i + 1) (by omega))
  conv => lhs; unfold laws_heldIntS.l0
  have e : wrap64 (((a + i : Nat) : Int) + 1) = ((a + (i + 1) : Nat) : Int) := by rw [zan (by omega) (by omega)]; omega
  rw [if_pos (by rw [marksI_length]; omega), if_pos (by omega), hget, if_pos rfl, zba (i := i) (by omega), e]
theorem heldI_ev (n : Nat) (hl : n ≤ 1048576) (a : Nat) (ha : a ≤ 2097153) : Evs (fun k => laws_heldIntS.f k (marksI a n) (a : Int)) ((a + n : Nat) : Int) := heldI_loop n hl a ha n 0 (by omega)
def Conv (hi wi : Nat) (g : Nat → Nat → Int) : Prop := ∀ r c r' c' i j, r < hi → c < wi → r' < hi → c' < wi → g r c = g r' c' → min r r' ≤ i → i ≤ max r r' → min c c' ≤ j → j ≤ max c c' → g i j = g r c
def ConvG (rows : List (List Int)) : Prop := Conv rows.length (zah rows) (zay rows)
theorem Conv.congr {hi wi : Nat} {g g' : Nat → Nat → Int} (h : Conv hi wi g) (e : ∀ r c, r < hi → c < wi → g r c = g' r c) : Conv hi wi g' := by
 intro r c r' c' i j h1 h2 h3 h4 hv k1 k2 k3 k4
 rw [← e i j (by omega) (by omega), ← e r c h1 h2]
 exact h r c r' c' i j h1 h2 h3 h4 (by rw [e r c h1 h2, e r' c' h3 h4]; exact hv) k1 k2 k3 k4
theorem Conv.map {hi wi : Nat} {g : Nat → Nat → Int} (h : Conv hi wi g) (f : Int → Int) (hf : ∀ r c r' c', r < hi → c < wi → r' < hi → c' < wi → f (g r c) = f (g r' c') → g r c = g r' c') : Conv hi wi (fun r c => f (g r c)) := by
 intro r c r' c' i j h1 h2 h3 h4 hv k1 k2 k3 k4
 show f _ = f _
 rw [h r c r' c' i j h1 h2 h3 h4 (hf _ _ _ _ h1 h2 h3 h4 hv) k1 k2 k3 k4]
theorem names_canon {rows : List (List Int)} (hs : zbv rows = true) (h9 : (zax rows).length ≤ 9) : Canon (zcl (canon rows)) := by
 have hn := names_nums hs
 have hinj := names_inj rows
 have hL := rooms_len hs
 refine ⟨?_, ?_⟩
 ·unfold gridOk
  rw [Bool.and_eq_true, hn, mapG_shape]
  refine ⟨hs, ?_⟩
  rw [List.all_eq_true]
  intro s hss
  obtain ⟨r, hr, rfl⟩ := List.mem_map.1 hss
  unfold okText
  rw [bytesOf_rowText r (canon_val hs r hr), List.all_eq_true]
  intro x hx
  obtain ⟨y, hy, rfl⟩ := List.mem_map.1 hx
  unfold canon canonL at hr
  obtain ⟨r0, hr0, rfl⟩ := List.mem_map.1 hr
  obtain ⟨z, hz, rfl⟩ := List.mem_map.1 hy
  have h3 : (zbx rows).idxOf z < (zbx rows).length := List.idxOf_lt_length_of_mem (ordL_mem rows.flatten [] z (List.mem_flatten.2 ⟨r0, hr0, hz⟩))
  simp only [okLetter, Bool.not_eq_true', Bool.or_eq_false_iff, decide_eq_false_iff_not]
  omega
 ·unfold namesOf
  rw [hn, canon_map hinj]
theorem text_length (rows : List (List Int)) : (zcl (canon rows)).length = rows.length := by simp [zcl, canon, canonL]
theorem canon_length (rows : List (List Int)) : (canon rows).length = rows.length := by simp [canon, canonL]
theorem names_floor {rows : List (List Int)} (hs : zbv rows = true) (h9 : (zax rows).length ≤ 9) : floorF (zcl (canon rows)) = if zcd (zax rows) = (rows.length : Int) * (zah rows : Int) then some (canon rows, zax rows) else none := by
 have hC := names_canon hs h9
 have hn := names_nums hs
 have hinj := names_inj rows
 rw [floorF_grid hC.grid, hn, rooms_map hs hinj, mapG_wide, text_length, canon_map hinj]
 by_cases h : zcd (zax rows) = (rows.length : Int) * (zah rows : Int)
 ·rw [if_pos h, if_pos ⟨h9, h, hC.names⟩]
 ·rw [if_neg h, if_neg (fun z => h z.2.1)]
theorem canon_wide (rows : List (List Int)) : zah (canon rows) = zah rows := by
 unfold zah canon canonL
 cases rows with
 | nil => rfl
 | cons a r => simp
theorem canon_at {rows : List (List Int)} (hs : zbv rows = true) {r c : Nat} (hr : r < rows.length) (hc : c < zah rows) : zay (canon rows) r c = ((zbx rows).idxOf (zay rows r c) : Int) := by
 have e := congrArg (fun R => zay R r c) (rect_map (shape_rect hs) (fun x => ((zbx rows).idxOf x : Int)))
 exact Eq.trans e (valAt_gridOf hr hc)
theorem idxOf_inj {L : List Int} {x y : Int} (hx : x ∈ L) (hy : y ∈ L) (e : L.idxOf x = L.idxOf y) : x = y := by
 have h1 := List.idxOf_lt_length_of_mem hx
 have h2 := List.idxOf_lt_length_of_mem hy
 have e1 : L[L.idxOf x] = x := List.getElem_idxOf h1
 have e2 : L[L.idxOf y] = y := List.getElem_idxOf h2
 rw [← e1, ← e2]
 congr 1
theorem val_ord {rows : List (List Int)} (hs : zbv rows = true) {r c : Nat} (hr : r < rows.length) (hc : c < zah rows) : zay rows r c ∈ zbx rows := ordL_mem rows.flatten [] _ (val_mem (shape_rect hs) hr hc)
theorem canon_eq_iff {rows : List (List Int)} (hs : zbv rows = true) {r c r' c' : Nat} (hr : r < rows.length) (hc : c < zah rows) (hr' : r' < rows.length) (hc' : c' < zah rows) : zay (canon rows) r c = zay (canon rows) r' c' ↔ zay rows r c = zay rows r' c' := by
 rw [canon_at hs hr hc, canon_at hs hr' hc']
 constructor
 ·exact fun h => idxOf_inj (val_ord hs hr hc) (val_ord hs hr' hc') (by omega)
 ·intro h
  rw [h]
theorem conv_canon {rows : List (List Int)} (hs : zbv rows = true) : ConvG (canon rows) ↔ ConvG rows := by
 unfold ConvG
 rw [canon_length, canon_wide]
 constructor
 ·intro h r c r' c' i j h1 h2 h3 h4 hv k1 k2 k3 k4
  exact (canon_eq_iff hs (by omega) (by omega) h1 h2).1 (h r c r' c' i j h1 h2 h3 h4 ((canon_eq_iff hs h1 h2 h3 h4).2 hv) k1 k2 k3 k4)
 ·intro h r c r' c' i j h1 h2 h3 h4 hv k1 k2 k3 k4
  exact (canon_eq_iff hs (by omega) (by omega) h1 h2).2 (h r c r' c' i j h1 h2 h3 h4 ((canon_eq_iff hs h1 h2 h3 h4).1 hv) k1 k2 k3 k4)
theorem countN_conv (rows : List (List Int)) (wi : Nat) (x : Int) (b : Rc) : ∀ n, (∀ m, m < n → (zcp rows wi m = x ↔ inBox b wi m)) → zcg rows wi x n = countB b wi n
 | 0, _ => rfl
 | n + 1, h => by
  have ih := countN_conv rows wi x b n (fun m hm => h m (by omega))
  simp only [zcg, countB]
  by_cases hx : zcp rows wi n = x
  ·rw [if_pos hx, if_pos ((h n (by omega)).1 hx), ih]
  ·rw [if_neg hx, if_neg (fun z => hx ((h n (by omega)).2 z)), ih]
theorem conv_sum {rows : List (List Int)} (hs : zbv rows = true) (h9 : (zax rows).length ≤ 9) : zcd (zax rows) = (rows.length : Int) * (zah rows : Int) ↔ ConvG rows := by
 have hfl := names_floor hs h9
 constructor
 ·intro h
  rw [if_pos h] at hfl
  have F := floor_facts hfl
  rw [← conv_canon hs]
  intro r c r' c' i j h1 h2 h3 h4 hv k1 k2 k3 k4
  have hv1 := valAt_range F.ok r c h1 h2
  obtain ⟨q, hq⟩ := Int.eq_ofNat_of_zero_le hv1.1
  have hq2 : q < (zax rows).length := by omega
  have hc := fun r c hr hc => room_cells hfl q hq2 r c hr hc
  have a1 := (hc r c h1 h2).1 hq
  have a2 := (hc r' c' h3 h4).1 (by rw [← hv]; exact hq)
  rw [hq]
  exact (hc i j (by omega) (by omega)).2 (by omega)
 ·intro h
  have hC := names_canon hs h9
  have hn := names_nums hs
  have hinj := names_inj rows
  have hiff := full_iff hC
  rw [hn, rooms_map hs hinj, mapG_wide, text_length] at hiff
  have hall : (List.range (zax rows).length).all (fullB (zcl (canon rows))) = true := by
   rw [List.all_eq_true]
   intro x hx
   have hx := List.mem_range.1 hx
   unfold fullB
   rw [decide_eq_true_eq, hn, rooms_map hs hinj, mapG_wide, text_length]
   obtain ⟨v, hv, hb, hbd⟩ := rooms_box hs x hx
   rw [← countB_all _ _ _ hbd]
   obtain ⟨s1, s2, s3, s4, s5⟩ := (zcj _).1 hs
   have hR := shape_rect hs
   refine countN_conv _ _ _ _ _ fun m hm => ?_
   have hr : m / zah rows < rows.length := by rw [Nat.div_lt_iff_lt_mul (by omega)]; exact hm
   have hc := Nat.mod_lt m (show 0 < zah rows by omega)
   have hcell : zcp (mapG (fun x => 97 + ((zbx rows).idxOf x : Int)) rows) (zah rows) m = ((zbx rows).idxOf (zay rows (m / zah rows) (m % zah rows)) : Int) := by
    unfold zcp
    rw [valAt_map hR _ hr hc]
    omega
   rw [hcell, idx_iff (ordAll_nodup rows) hv (val_ord hs hr hc)]
   constructor
   ·exact fun h => hb.ins m hm h
   ·intro hin
    obtain ⟨i1, i2, i3, i4⟩ := hin
    obtain ⟨mt, nt, vt, et⟩ := hb.top
    obtain ⟨ml, nl, vl, el⟩ := hb.left
    obtain ⟨mw, nw, vw, ew⟩ := hb.low
    obtain ⟨mr, nr, vr, er⟩ := hb.right
    have rr : ∀ m, m < rows.length * zah rows → m / zah rows < rows.length ∧ m % zah rows < zah rows := fun m hm => ⟨by rw [Nat.div_lt_iff_lt_mul (by omega)]; exact hm, Nat.mod_lt m (by omega)⟩
    obtain ⟨t1, t2⟩ := rr mt nt
    obtain ⟨l1, l2⟩ := rr ml nl
    obtain ⟨w1, w2⟩ := rr mw nw
    obtain ⟨r1, r2⟩ := rr mr nr
    have gt := hb.ins mt nt vt
    have gl := hb.ins ml nl vl
    have gw := hb.ins mw nw vw
    have gr := hb.ins mr nr vr
    generalize hbx : (zax rows).getD x zcm = bx at *
    -- the upper left and the lower right corner
    have c1 := h (mt / zah rows) (mt % zah rows) (ml / zah rows) (ml % zah rows) (mt / zah rows) (ml % zah rows) t1 t2 l1 l2 (vt.trans vl.symm) (by omega) (by omega) (by omega) (by omega)
    have c2 := h (mw / zah rows) (mw % zah rows) (mr / zah rows) (mr % zah rows) (mw / zah rows) (mr % zah rows) w1 w2 r1 r2 (vw.trans vr.symm) (by omega) (by omega) (by omega) (by omega)
    have c3 := h (mt / zah rows) (ml % zah rows) (mw / zah rows) (mr % zah rows) (m / zah rows) (m % zah rows) t1 l2 w1 r2 (by rw [c1, c2, vt, vw]) (by omega) (by omega) (by omega) (by omega)
    rw [c3, c1, vt]
  rw [hall] at hiff
  exact of_decide_eq_true hiff.symm
structure OkG (rows : List (List Int)) : Prop where
 shape : zbv rows = true
 many : (zbx rows).length ≤ 9
 conv : ConvG rows
theorem OkG.floor {rows : List (List Int)} (h : OkG rows) : floorF (zcl (canon rows)) = some (canon rows, zax rows) := by
 have h9 : (zax rows).length ≤ 9 := by rw [← rooms_len h.shape]; exact h.many
 rw [names_floor h.shape h9, if_pos ((conv_sum h.shape h9).2 h.conv)]
theorem floor_shape {cs : List (List Int)} {rs : List Rc} (h : FloorOk cs rs) : zbv cs = true := (zcj _).2 ⟨h.h1, h.h6, h.w1, h.w6, h.rect⟩
theorem add_inj (a : Int) (S : Int → Prop) : InjOn (fun x => a + x) S := fun x y _ _ e => by have : a + x = a + y := e; omega
theorem floor_okG {p : List ByteArray} {cs : List (List Int)} {rs : List Rc} (h : floorF p = some (cs, rs)) : OkG cs ∧ canon cs = cs ∧ rs = zax cs ∧ p = zcl cs := by
 have F := floor_facts h
 have hs := floor_shape F.ok
 have e1 : canon cs = cs := by
  have e2 : canon (mapG (fun x => 97 + x) cs) = canon cs := canon_map (add_inj 97 _)
  rw [← F.nums, ← F.cells] at e2
  exact e2.symm
 have e2 : rs = zax cs := by rw [F.rooms, F.nums, rooms_map hs (add_inj 97 _)]
 have h9 : (zax cs).length ≤ 9 := by rw [← e2]; exact F.ok.many
 have hsum := floor_sum h
 rw [F.wide, F.len, e2] at hsum
 exact ⟨⟨hs, by rw [rooms_len hs]; exact h9, (conv_sum hs h9).1 hsum⟩, e1, e2, F.text⟩
theorem OkG.canon {X : List (List Int)} (h : OkG X) : OkG (canon X) := (floor_okG h.floor).1
theorem bt_val (p : List ByteArray) {i : Nat} {s : ByteArray} (hs : p[i]? = some s) (j : Nat) : bt s (j : Int) = zay (zaf p) i j := by
 unfold zay zaf
 rw [List.getD_eq_getElem?_getD (l := List.map _ _), List.getElem?_map, hs, ← bytesOf_get]
 rfl
def fourW (a : Wl) : List Int := [if a.f0 = true then 1 else 0, a.f1, a.f2, a.f3]
theorem walls4_eq (cs : List (List Int)) : walls4 cs = (zbp cs).map fourW := by
 unfold walls4
 rw [wallsOf_eq, List.map_append, List.map_map, List.map_map]
 rfl
theorem walls4_len (cs : List (List Int)) : (walls4 cs).length = (zbp cs).length := by rw [walls4_eq, List.length_map]
theorem walls4_at (cs : List (List Int)) (i : Nat) (hi : i < (zbp cs).length) : zbi (walls4 cs) (i : Int) = fourW ((zbp cs).getD i zeroW) := by
 unfold zbi
 rw [walls4_eq, Int.toNat_natCast, List.getD_eq_getElem?_getD, List.getElem?_map, List.getElem?_eq_getElem hi, List.getD_eq_getElem?_getD, List.getElem?_eq_getElem hi]
 rfl
end Go.Proofs.Ytoijjkhdfooapaa.Hd
