/- Part 3 of the proof of FnEnds: what the program's functions and the reference's compute. -/
import Derived.Test.YtickdcegnlldjaaProg
import Derived.Below
import Derived.Deep.Draws
import Derived.Deep.AppendLies
import Derived.Maps.AppendAt
import Derived.OwnWalk
import Derived.Laws.BytesArg
import Derived.Laws.MakeOwn
import Derived.Laws.OwnMore
import Derived.Deep.OwnRows
import Derived.Tactics
import Derived.Lib.ConvBytes
import Derived.Laws.Slices
import Derived.WalkKit
import Derived.KernelRfl
import Derived.RowKit3
import Derived.Deep.LoopGhost
import Derived.Deep.QuietTactic
import Derived.BigQuiet
import Derived.WideLaws
import Derived.Deep.DeepCutAuto
import Derived.Deep.CutBlock
import Derived.Deep.RegionHeld3
import Derived.Laws.Rows
import Derived.Lib.AppendStr
import Derived.ArgAppend
import Derived.Laws.IdiomCopy
import Derived.OrdersHeld
import Derived.Laws.BitsLemmas
import Derived.RowKit
import Derived.Test.YtickdcegnlldjaaCPENb
set_option linter.unusedSimpArgs false
set_option linter.unusedVariables false
namespace Go.Proofs.Ytickdcegnlldjaa.PB
open Go.RowKit Go.PW.PrintWords Go.PW.PrintLast Go.PW.PrintMore
attribute [local go_sem] zbx zbv zck zcj zbq zbp zbw zbu   -- for this text's walks alone
def impl_floor_sides.f (s0_0 : List (List Int)) (s0_1 : List (S120)) (a1 : Bool) (a2 : Int) (a3 : Int) : Option (Int × Int) := if a1 = true then (if 0 ≤ (wrap64 (a2 - 1)) then (if (wrap64 (a2 - 1)) < (s0_0.length : Int) then (if 0 ≤ a3 then (if a3 < ((zbf s0_0 (wrap64 (a2 - 1))).length : Int) then (if 0 ≤ a2 then (if a2 < (s0_0.length : Int) then (if a3 < ((zbf s0_0 a2).length : Int) then (some (rd (zbf s0_0 (wrap64 (a2 - 1))) a3, rd (zbf s0_0 a2) a3)) else (none)) else (none)) else (none)) else (none)) else (none)) else (none)) else (none)) else (if 0 ≤ a3 then (if a3 < (s0_0.length : Int) then (if 0 ≤ (wrap64 (a2 - 1)) then (if (wrap64 (a2 - 1)) < ((zbf s0_0 a3).length : Int) then (if 0 ≤ a2 then (if a2 < ((zbf s0_0 a3).length : Int) then (some (rd (zbf s0_0 a3) (wrap64 (a2 - 1)), rd (zbf s0_0 a3) a2)) else (none)) else (none)) else (none)) else (none)) else (none)) else (none))
set_option maxHeartbeats 8000000 in
set_option maxRecDepth 100000 in
theorem impl_floor_sides.calls (g : Nat) (s0_0 : List (List Int)) (s0_1 : List (S120)) (a1 : Bool) (a2 : Int) (a3 : Int) (r1 : Int) (r2 : Int) (w0 w : World) (hI : zaw w0 w g s0_0 s0_1) (hB : Below w0.heap.size w0 w) (h : impl_floor_sides.f s0_0 s0_1 a1 a2 a3 = some (r1, r2)) :
  Calls Try.prog 102 #[.pointer (some ⟨g, 0, none⟩), .bool a1, .int .i64 a2, .int .i64 a3] w fun e w' => e = .returned (.tuple #[.int .i64 r1, .int .i64 r2]) ∧ zaw w0 w' g s0_0 s0_1 ∧ Below w0.heap.size w0 w' ∧ zaf w w' g none := by
 have HI0 := zaa.mk hI
 have HK := zaa.mk (zaf.refl w g none)
 have HL := zaa.mk hB.size
 clear hI
 have HW0 := zaa.mk hB.size
 have HB := zaa.mk hB
 clear hB
 have H : (if a1 = true then (if 0 ≤ (wrap64 (a2 - 1)) then (if (wrap64 (a2 - 1)) < (s0_0.length : Int) then (if 0 ≤ a3 then (if a3 < ((zbf s0_0 (wrap64 (a2 - 1))).length : Int) then (if 0 ≤ a2 then (if a2 < (s0_0.length : Int) then (if a3 < ((zbf s0_0 a2).length : Int) then (some (rd (zbf s0_0 (wrap64 (a2 - 1))) a3, rd (zbf s0_0 a2) a3)) else (none)) else (none)) else (none)) else (none)) else (none)) else (none)) else (none)) else (if 0 ≤ a3 then (if a3 < (s0_0.length : Int) then (if 0 ≤ (wrap64 (a2 - 1)) then (if (wrap64 (a2 - 1)) < ((zbf s0_0 a3).length : Int) then (if 0 ≤ a2 then (if a2 < ((zbf s0_0 a3).length : Int) then (some (rd (zbf s0_0 a3) (wrap64 (a2 - 1)), rd (zbf s0_0 a3) a2)) else (none)) else (none)) else (none)) else (none)) else (none)) else (none))) = some (r1, r2) := h
 clear h
 by_cases c5 : a1 = true
 ·subst c5
  have H1 : (if 0 ≤ (wrap64 (a2 - 1)) then (if (wrap64 (a2 - 1)) < (s0_0.length : Int) then (if 0 ≤ a3 then (if a3 < ((zbf s0_0 (wrap64 (a2 - 1))).length : Int) then (if 0 ≤ a2 then (if a2 < (s0_0.length : Int) then (if a3 < ((zbf s0_0 a2).length : Int) then (some (rd (zbf s0_0 (wrap64 (a2 - 1))) a3, rd (zbf s0_0 a2) a3)) else (none)) else (none)) else (none)) else (none)) else (none)) else (none)) else (none)) = some (r1, r2) := by rw [if_pos rfl] at H; exact H
  clear H
  have H := H1
  clear H1
  obtain ⟨ji6, hji6⟩ : ∃ j_ : Int, (wrap64 (a2 - 1)) = j_ := ⟨_, rfl⟩
  replace H : (if 0 ≤ (ji6) then (if (ji6) < (s0_0.length : Int) then (if 0 ≤ a3 then (if a3 < ((zbf s0_0 (ji6)).length : Int) then (if 0 ≤ a2 then (if a2 < (s0_0.length : Int) then (if a3 < ((zbf s0_0 a2).length : Int) then (some (rd (zbf s0_0 (ji6)) a3, rd (zbf s0_0 a2) a3)) else (none)) else (none)) else (none)) else (none)) else (none)) else (none)) else (none)) = some (r1, r2) := by first | (rw [hji6] at H; exact H) | (simp only [hji6] at H ⊢; exact H)
  have hji6w : (IntKind.i64.wrap (a2 - 1)) = ji6 := (zat _).trans hji6
  by_cases c7 : 0 ≤ (ji6)
  ·rw [if_pos c7] at H
   have c7b0 : decide (0 ≤ (ji6)) = true := decide_eq_true c7
   clear c7
   by_cases c8 : (ji6) < (s0_0.length : Int)
   ·rw [if_pos c8] at H
    have c8b0 : decide ((ji6) < (s0_0.length : Int)) = true := decide_eq_true c8
    clear c8
    by_cases c9 : 0 ≤ a3
    ·rw [if_pos c9] at H
     have c9b0 : decide (0 ≤ a3) = true := decide_eq_true c9
     clear c9
     by_cases c10 : a3 < ((zbf s0_0 (ji6)).length : Int)
     ·rw [if_pos c10] at H
      have c10b0 : decide (a3 < ((zbf s0_0 (ji6)).length : Int)) = true := decide_eq_true c10
      clear c10
      by_cases c11 : 0 ≤ a2
      ·rw [if_pos c11] at H
       have c11b0 : decide (0 ≤ a2) = true := decide_eq_true c11
       clear c11
       by_cases c12 : a2 < (s0_0.length : Int)
       ·rw [if_pos c12] at H
        have c12b0 : decide (a2 < (s0_0.length : Int)) = true := decide_eq_true c12
        clear c12
        by_cases c13 : a3 < ((zbf s0_0 a2).length : Int)
        ·rw [if_pos c13] at H
         have c13b0 : decide (a3 < ((zbf s0_0 a2).length : Int)) = true := decide_eq_true c13
         clear c13
         simp only [Option.some.injEq, Prod.mk.injEq] at H
         obtain ⟨rfl, rfl⟩ := H
         obtain ⟨ASz14_0, cSz14_0, ASz14_1, cSz14_1, HGz14, hgz14, HSz14_0, HSz14_1⟩ := HI0.out
         have hcz14_0 := cellS58_0 HGz14
         have hcz14_1 := cellS58_1 HGz14
         clear HGz14 hgz14
         have p325 : 0 ≤ ((ji6) : Int) := of_decide_eq_true (by first | (with_reducible assumption) | assumption)
         have q325 : (ji6) < (s0_0.length : Int) := of_decide_eq_true (by first | (with_reducible assumption) | assumption)
         obtain ⟨ad325, A325_0, c325_0, e325, hx325_0, hl325_0, hi325_0⟩ := at_L3 HSz14_0 (ji6) p325 q325
         cases e325
         replace hx325_0 := zae HB.out hx325_0
         have HR325_0 := zaa.mk hi325_0
         have HC325_0 := zaa.mk hl325_0
         clear hi325_0 hl325_0
         replace p325 := eq_true p325
         replace q325 := eq_true q325
         have p326 : 0 ≤ (a3 : Int) := of_decide_eq_true (by first | (with_reducible assumption) | assumption)
         have q326 : a3 < ((zbf s0_0 (ji6)).length : Int) := of_decide_eq_true (by first | (with_reducible assumption) | assumption)
         obtain ⟨ad326, e326, hx326_0⟩ := Kd.at_int HR325_0.out a3 p326 q326
         cases e326
         first | (replace hx326_0 := zae HB.out hx326_0) | (replace hx326_0 := keep_cell HK.out hx326_0 (by first | (rw [add_block]; exact hf325_0 _ rfl (by omega)) | exact hf325_0 _ rfl (by omega) | exact hf325_0 ad326 rfl (by omega)))
         replace p326 := eq_true p326
         replace q326 := eq_true q326
         have p327 : 0 ≤ (a2 : Int) := of_decide_eq_true (by first | (with_reducible assumption) | assumption)
         have q327 : a2 < (s0_0.length : Int) := of_decide_eq_true (by first | (with_reducible assumption) | assumption)
         obtain ⟨ad327, A327_0, c327_0, e327, hx327_0, hl327_0, hi327_0⟩ := at_L3 HSz14_0 a2 p327 q327
         obtain rfl : ad325 = ad327 := (by injection e327)
         replace hx327_0 := zae HB.out hx327_0
         have HR327_0 := zaa.mk hi327_0
         have HC327_0 := zaa.mk hl327_0
         clear hi327_0 hl327_0
         replace p327 := eq_true p327
         replace q327 := eq_true q327
         have p328 : 0 ≤ (a3 : Int) := of_decide_eq_true (by first | (with_reducible assumption) | assumption)
         have q328 : a3 < ((zbf s0_0 a2).length : Int) := of_decide_eq_true (by first | (with_reducible assumption) | assumption)
         obtain ⟨ad328, e328, hx328_0⟩ := Kd.at_int HR327_0.out a3 p328 q328
         cases e328
         first | (replace hx328_0 := zae HB.out hx328_0) | (replace hx328_0 := keep_cell HK.out hx328_0 (by first | (rw [add_block]; exact hf327_0 _ rfl (by omega)) | exact hf327_0 _ rfl (by omega) | exact hf327_0 ad328 rfl (by omega)))
         replace p328 := eq_true p328
         replace q328 := eq_true q328
         go_enter Try.func102, Try.ntmps102
         go_wp2
         repeat (go_quiet (fail); try go_wp2)
         go_ret2
         exact ⟨by first | rfl | (simp [zaq, zap] <;> rfl) | (simp only [← hji6]; first | rfl | (simp [zaq, zap] <;> rfl)) | (simp [*, zaq, zap] <;> rfl), by repeat (first | (with_reducible first | exact HI0.out | apply zaw.alloc | apply zaw.drewN | apply zaw.drew) | exact HI0.out), by repeat (first | (with_reducible first | exact HB.out | apply zac | apply zab | apply zad | refine zak ?_ (zaw.ge HI0.out)) | exact HB.out), by repeat (first | (with_reducible first | exact HK.out | apply zaf.set_ | apply zai | apply zal | apply zaj) | exact HK.out)⟩
        ·rw [if_neg c13] at H
         exact absurd H (by simp)
       ·rw [if_neg c12] at H
        exact absurd H (by simp)
      ·rw [if_neg c11] at H
       exact absurd H (by simp)
     ·rw [if_neg c10] at H
      exact absurd H (by simp)
    ·rw [if_neg c9] at H
     exact absurd H (by simp)
   ·rw [if_neg c8] at H
    exact absurd H (by simp)
  ·rw [if_neg c7] at H
   exact absurd H (by simp)
 ·replace c5 := Bool.eq_false_iff.mpr c5
  subst c5
  have H1 : (if 0 ≤ a3 then (if a3 < (s0_0.length : Int) then (if 0 ≤ (wrap64 (a2 - 1)) then (if (wrap64 (a2 - 1)) < ((zbf s0_0 a3).length : Int) then (if 0 ≤ a2 then (if a2 < ((zbf s0_0 a3).length : Int) then (some (rd (zbf s0_0 a3) (wrap64 (a2 - 1)), rd (zbf s0_0 a3) a2)) else (none)) else (none)) else (none)) else (none)) else (none)) else (none)) = some (r1, r2) := by rw [if_neg (show ¬ (false = true) by decide)] at H; exact H
  clear H
  have H := H1
  clear H1
  by_cases c15 : 0 ≤ a3
  ·rw [if_pos c15] at H
   have c15b0 : decide (0 ≤ a3) = true := decide_eq_true c15
   clear c15
   by_cases c16 : a3 < (s0_0.length : Int)
   ·rw [if_pos c16] at H
    have c16b0 : decide (a3 < (s0_0.length : Int)) = true := decide_eq_true c16
    clear c16
    obtain ⟨ji17, hji17⟩ : ∃ j_ : Int, (wrap64 (a2 - 1)) = j_ := ⟨_, rfl⟩
    replace H : (if 0 ≤ (ji17) then (if (ji17) < ((zbf s0_0 a3).length : Int) then (if 0 ≤ a2 then (if a2 < ((zbf s0_0 a3).length : Int) then (some (rd (zbf s0_0 a3) (ji17), rd (zbf s0_0 a3) a2)) else (none)) else (none)) else (none)) else (none)) = some (r1, r2) := by first | (rw [hji17] at H; exact H) | (simp only [hji17] at H ⊢; exact H)
    have hji17w : (IntKind.i64.wrap (a2 - 1)) = ji17 := (zat _).trans hji17
    by_cases c18 : 0 ≤ (ji17)
    ·rw [if_pos c18] at H
     have c18b0 : decide (0 ≤ (ji17)) = true := decide_eq_true c18
     clear c18
     by_cases c19 : (ji17) < ((zbf s0_0 a3).length : Int)
     ·rw [if_pos c19] at H
      have c19b0 : decide ((ji17) < ((zbf s0_0 a3).length : Int)) = true := decide_eq_true c19
      clear c19
      by_cases c20 : 0 ≤ a2
      ·rw [if_pos c20] at H
       have c20b0 : decide (0 ≤ a2) = true := decide_eq_true c20
       clear c20
       by_cases c21 : a2 < ((zbf s0_0 a3).length : Int)
       ·rw [if_pos c21] at H
        have c21b0 : decide (a2 < ((zbf s0_0 a3).length : Int)) = true := decide_eq_true c21
        clear c21
        simp only [Option.some.injEq, Prod.mk.injEq] at H
        obtain ⟨rfl, rfl⟩ := H
        obtain ⟨ASz22_0, cSz22_0, ASz22_1, cSz22_1, HGz22, hgz22, HSz22_0, HSz22_1⟩ := HI0.out
        have hcz22_0 := cellS58_0 HGz22
        have hcz22_1 := cellS58_1 HGz22
        clear HGz22 hgz22
        have p329 : 0 ≤ (a3 : Int) := of_decide_eq_true (by first | (with_reducible assumption) | assumption)
        have q329 : a3 < (s0_0.length : Int) := of_decide_eq_true (by first | (with_reducible assumption) | assumption)
        obtain ⟨ad329, A329_0, c329_0, e329, hx329_0, hl329_0, hi329_0⟩ := at_L3 HSz22_0 a3 p329 q329
        cases e329
        replace hx329_0 := zae HB.out hx329_0
        have HR329_0 := zaa.mk hi329_0
        have HC329_0 := zaa.mk hl329_0
        clear hi329_0 hl329_0
        replace p329 := eq_true p329
        replace q329 := eq_true q329
        have p330 : 0 ≤ ((ji17) : Int) := of_decide_eq_true (by first | (with_reducible assumption) | assumption)
        have q330 : (ji17) < ((zbf s0_0 a3).length : Int) := of_decide_eq_true (by first | (with_reducible assumption) | assumption)
        obtain ⟨ad330, e330, hx330_0⟩ := Kd.at_int HR329_0.out (ji17) p330 q330
        cases e330
        first | (replace hx330_0 := zae HB.out hx330_0) | (replace hx330_0 := keep_cell HK.out hx330_0 (by first | (rw [add_block]; exact hf329_0 _ rfl (by omega)) | exact hf329_0 _ rfl (by omega) | exact hf329_0 ad330 rfl (by omega)))
        replace p330 := eq_true p330
        replace q330 := eq_true q330
        have p331 : 0 ≤ (a3 : Int) := of_decide_eq_true (by first | (with_reducible assumption) | assumption)
        have q331 : a3 < (s0_0.length : Int) := of_decide_eq_true (by first | (with_reducible assumption) | assumption)
        obtain ⟨ad331, A331_0, c331_0, e331, hx331_0, hl331_0, hi331_0⟩ := at_L3 HSz22_0 a3 p331 q331
        obtain rfl : ad329 = ad331 := (by injection e331)
        replace hx331_0 := zae HB.out hx331_0
        try (have e_ := Option.some.inj (hx329_0.symm.trans hx331_0); injection e_ with e1_ e2_ e3_; subst e1_; subst e3_)
        have HR331_0 := zaa.mk hi331_0
        have HC331_0 := zaa.mk hl331_0
        clear hi331_0 hl331_0
        replace p331 := eq_true p331
        replace q331 := eq_true q331
        have p332 : 0 ≤ (a2 : Int) := of_decide_eq_true (by first | (with_reducible assumption) | assumption)
        have q332 : a2 < ((zbf s0_0 a3).length : Int) := of_decide_eq_true (by first | (with_reducible assumption) | assumption)
        obtain ⟨ad332, e332, hx332_0⟩ := Kd.at_int HR331_0.out a2 p332 q332
        cases e332
        first | (replace hx332_0 := zae HB.out hx332_0) | (replace hx332_0 := keep_cell HK.out hx332_0 (by first | (rw [add_block]; exact hf331_0 _ rfl (by omega)) | exact hf331_0 _ rfl (by omega) | exact hf331_0 ad332 rfl (by omega)))
        replace p332 := eq_true p332
        replace q332 := eq_true q332
        go_enter Try.func102, Try.ntmps102
        go_wp2
        repeat (go_quiet (fail); try go_wp2)
        go_ret2
        exact ⟨by first | rfl | (simp [zaq, zap] <;> rfl) | (simp only [← hji17]; first | rfl | (simp [zaq, zap] <;> rfl)) | (simp [*, zaq, zap] <;> rfl), by repeat (first | (with_reducible first | exact HI0.out | apply zaw.alloc | apply zaw.drewN | apply zaw.drew) | exact HI0.out), by repeat (first | (with_reducible first | exact HB.out | apply zac | apply zab | apply zad | refine zak ?_ (zaw.ge HI0.out)) | exact HB.out), by repeat (first | (with_reducible first | exact HK.out | apply zaf.set_ | apply zai | apply zal | apply zaj) | exact HK.out)⟩
       ·rw [if_neg c21] at H
        exact absurd H (by simp)
      ·rw [if_neg c20] at H
       exact absurd H (by simp)
     ·rw [if_neg c19] at H
      exact absurd H (by simp)
    ·rw [if_neg c18] at H
     exact absurd H (by simp)
   ·rw [if_neg c16] at H
    exact absurd H (by simp)
  ·rw [if_neg c15] at H
   exact absurd H (by simp)
def impl_floor_differ.f (s0_0 : List (List Int)) (s0_1 : List (S120)) (a1 : Bool) (a2 : Int) (a3 : Int) : Option (Bool) := (impl_floor_sides.f s0_0 s0_1 a1 a2 a3).bind fun bt333 => (some (bt333.1 != bt333.2))
set_option maxHeartbeats 8000000 in
set_option maxRecDepth 100000 in
theorem impl_floor_differ.calls (g : Nat) (s0_0 : List (List Int)) (s0_1 : List (S120)) (a1 : Bool) (a2 : Int) (a3 : Int) (r : Bool) (w0 w : World) (hI : zaw w0 w g s0_0 s0_1) (hB : Below w0.heap.size w0 w) (h : impl_floor_differ.f s0_0 s0_1 a1 a2 a3 = some r) :
  Calls Try.prog 96 #[.pointer (some ⟨g, 0, none⟩), .bool a1, .int .i64 a2, .int .i64 a3] w fun e w' => e = .returned (.bool r) ∧ zaw w0 w' g s0_0 s0_1 ∧ Below w0.heap.size w0 w' ∧ zaf w w' g none := by
 have HI0 := zaa.mk hI
 have HK := zaa.mk (zaf.refl w g none)
 have HL := zaa.mk hB.size
 clear hI
 have HW0 := zaa.mk hB.size
 have HB := zaa.mk hB
 clear hB
 have H : ((impl_floor_sides.f s0_0 s0_1 a1 a2 a3).bind fun bt333 => (some (bt333.1 != bt333.2))) = some r := h
 clear h
 replace H := Option.bind_eq_some_iff.mp H
 obtain ⟨⟨t333, t334⟩, A50, H⟩ := H
 replace H : (some (t333 != t334)) = some r := H
 have A5 := zaa.mk A50
 clear A50
 obtain rfl := Option.some.inj H
 go_enter Try.func96, Try.ntmps96
 go_wp2_with (first | ((with_reducible refine zas (f := 102) rfl ?_); refine zbk (some 16) rfl rfl Try.func102 (by kernel_rfl) rfl #[.pointer (some ⟨g, 0, none⟩), .bool a1, .int .i64 a2, .int .i64 a3] rfl (by (try simp only [List.map_toArray, List.map_cons, List.map_nil]); first | done | rfl | (simp only [List.length_drop, List.length_take]; rfl)) ?_; (with_reducible refine (impl_floor_sides.calls g s0_0 s0_1 a1 a2 a3 t333 t334 w0 _ ?side1 ?side2 A5.out).mono ?_); (case side1 => repeat (first | (with_reducible first | exact HI0.out | apply zaw.alloc | apply zaw.drewN | apply zaw.drew) | exact HI0.out)); (case side2 => repeat (first | (with_reducible first | exact HB.out | apply zac | apply zab | apply zad | refine zak ?_ (zaw.ge HI0.out)) | exact HB.out)); rintro e w6 ⟨rfl, hi, hb, hk⟩; refine ⟨_, rfl, ?_⟩; have n0_ := zaa.mk (zaf.trans (by repeat (first | (with_reducible first | exact HK.out | apply zaf.set_ | apply zai | apply zal | apply zaj) | exact HK.out)) hk (.inl rfl)); have n1_ := zaa.mk (hb); have n2_ := zaa.mk (hi); clear HK; clear HB; clear HI0; have HK := n0_; have HB := n1_; have HI0 := n2_; clear n0_ n1_ n2_; (try clear hb); (try clear hb2); (try clear hk); (try clear hi)))
 go_ret
 exact ⟨by first | rfl | (simp [zaq, zap] <;> rfl) | (simp [*, zaq, zap] <;> rfl), by repeat (first | (with_reducible first | exact HI0.out | apply zaw.alloc | apply zaw.drewN | apply zaw.drew) | exact HI0.out), by repeat (first | (with_reducible first | exact HB.out | apply zac | apply zab | apply zad | refine zak ?_ (zaw.ge HI0.out)) | exact HB.out), by repeat (first | (with_reducible first | exact HK.out | apply zaf.set_ | apply zai | apply zal | apply zaj) | exact HK.out)⟩
end Go.Proofs.Ytickdcegnlldjaa.PB
namespace Go.Proofs.Ytickdcegnlldjaa.PB
open Go.RowKit Go.PW.PrintWords Go.PW.PrintLast Go.PW.PrintMore
attribute [local go_sem] zbx zbv zck zcj zbq zbp zbw zbu   -- for this text's walks alone
mutual
def impl_floor_walls.l0 : Nat → List (S72) → List Bool → Int → Int → List (List Int) → List (S120) → Option ((List (S72)))
 | 0, _, _, _, _, _, _ => none
 | k + 1, x3, x12, x13, x14, x1000, x1001 => if x14 < x13 then (if 0 ≤ x14 then (if x14 < (x12.length : Int) then ((impl_floor_wide.f x1000 x1001).bind fun t339 => ((impl_floor_high.f x1000 x1001).bind fun t340 => (if rdOf false x12 x14 = true then (impl_floor_walls.j1 k x3 (rdOf false x12 x14) t340 t339 x12 x13 x14 x1000 x1001) else (impl_floor_walls.j1 k x3 (rdOf false x12 x14) t339 t340 x12 x13 x14 x1000 x1001)))) else (none)) else (none)) else (some x3)
def impl_floor_walls.j1 : Nat → List (S72) → Bool → Int → Int → List Bool → Int → Int → List (List Int) → List (S120) → Option ((List (S72)))
 | 0, _, _, _, _, _, _, _, _, _ => none
 | k + 1, x3, x5, x6, x7, x12, x13, x14, x1000, x1001 => impl_floor_walls.l1 k x3 x5 x6 x7 1 x12 x13 x14 x1000 x1001
def impl_floor_walls.l1 : Nat → List (S72) → Bool → Int → Int → Int → List Bool → Int → Int → List (List Int) → List (S120) → Option ((List (S72)))
 | 0, _, _, _, _, _, _, _, _, _, _ => none
 | k + 1, x3, x5, x6, x7, x8, x12, x13, x14, x1000, x1001 => if x8 < x6 then (impl_floor_walls.l2 k x3 x5 x6 x7 x8 false x12 x13 x14 x7 0 x1000 x1001) else (impl_floor_walls.l0 k x3 x12 x13 (wrap64 (x14 + 1)) x1000 x1001)
def impl_floor_walls.l2 : Nat → List (S72) → Bool → Int → Int → Int → Bool → List Bool → Int → Int → Int → Int → List (List Int) → List (S120) → Option ((List (S72)))
 | 0, _, _, _, _, _, _, _, _, _, _, _, _, _ => none
 | k + 1, x3, x5, x6, x7, x8, x9, x12, x13, x14, x30, x31, x1000, x1001 => if x31 < x30 then ((impl_floor_differ.f x1000 x1001 x5 x8 x31).bind fun t341 => (if t341 = true then (impl_floor_walls.j4 k x3 x5 x6 x7 x8 x31 t341 x12 x13 x14 x30 x31 x9 x1000 x1001) else (impl_floor_walls.j4 k x3 x5 x6 x7 x8 x31 t341 x12 x13 x14 x30 x31 false x1000 x1001))) else (impl_floor_walls.l1 k x3 x5 x6 x7 (wrap64 (x8 + 1)) x12 x13 x14 x1000 x1001)
def impl_floor_walls.j4 : Nat → List (S72) → Bool → Int → Int → Int → Int → Bool → List Bool → Int → Int → Int → Int → Bool → List (List Int) → List (S120) → Option ((List (S72)))
 | 0, _, _, _, _, _, _, _, _, _, _, _, _, _, _, _ => none
 | k + 1, x3, x5, x6, x7, x8, x10, x11, x12, x13, x14, x30, x31, x39, x1000, x1001 => if x39 = true then (if 0 ≤ (wrap64 ((x3.length : Int) - 1)) then (if (wrap64 ((x3.length : Int) - 1)) < (x3.length : Int) then (impl_floor_walls.l2 k (x3.set ((wrap64 ((x3.length : Int) - 1)) : Int).toNat (⟨(zcb x3 (wrap64 ((x3.length : Int) - 1))).f0, (zcb x3 (wrap64 ((x3.length : Int) - 1))).f1, (zcb x3 (wrap64 ((x3.length : Int) - 1))).f2, wrap64 (((zcb x3 (wrap64 ((x3.length : Int) - 1))).f3) + 1)⟩ : S72)) x5 x6 x7 x8 x11 x12 x13 x14 x30 (wrap64 (x31 + 1)) x1000 x1001) else (none)) else (none)) else (if x11 = true then (if x3.length < 4398046511104 then (impl_floor_walls.l2 k (x3 ++ [(⟨x5, x8, x10, 1⟩ : S72)]) x5 x6 x7 x8 x11 x12 x13 x14 x30 (wrap64 (x31 + 1)) x1000 x1001) else (none)) else (impl_floor_walls.l2 k x3 x5 x6 x7 x8 x11 x12 x13 x14 x30 (wrap64 (x31 + 1)) x1000 x1001))
end
def impl_floor_walls.f (k : Nat) (s0_0 : List (List Int)) (s0_1 : List (S120)) : Option ((List (S72))) := (some (([false, true] : List Bool) : List Bool)).bind fun y335 => (impl_floor_walls.l0 k ([] : List (S72)) y335 (y335.length : Int) 0 s0_0 s0_1)
set_option maxHeartbeats 8000000 in
set_option maxRecDepth 100000 in
theorem impl_floor_walls.calls (k : Nat) (g : Nat) (s0_0 : List (List Int)) (s0_1 : List (S120)) (r : List (S72)) (w0 w : World) (hI : zaw w0 w g s0_0 s0_1) (hB : Below w0.heap.size w0 w) (h : impl_floor_walls.f k s0_0 s0_1 = some r) :
  Calls Try.prog 61 #[.pointer (some ⟨g, 0, none⟩)] w fun e w' => ∃ v0_ : Value, e = .returned (v0_) ∧ Kd.R k72 72 w' w.heap.size (fun _ => True) v0_ r ∧ zaw w0 w' g s0_0 s0_1 ∧ Below w0.heap.size w0 w' ∧ zaf w w' g none := by
 have hu72 := Try.underlying72
 have HI0 := zaa.mk hI
 have HK := zaa.mk (zaf.refl w g none)
 have HL := zaa.mk hB.size
 clear hI
 have HW0 := zaa.mk hB.size
 have HB := zaa.mk hB
 clear hB
 have H : ((some (([false, true] : List Bool) : List Bool)).bind fun y335 => (impl_floor_walls.l0 k ([] : List (S72)) y335 (y335.length : Int) 0 s0_0 s0_1)) = some r := h
 clear h
 obtain ⟨y335, hy335⟩ : ∃ y_ : List Bool, y_ = (([false, true] : List Bool)) := ⟨_, rfl⟩
 replace H : (impl_floor_walls.l0 k ([] : List (S72)) y335 (y335.length : Int) 0 s0_0 s0_1) = some r := by first | (rw [hy335]; with_reducible exact H) | (have H2_ := (Option.bind_some _ _).symm.trans H; rw [hy335]; with_reducible exact H2_) | (have H2_ := (Option.bind_some _ _).symm.trans H; with_reducible exact H2_) | with_reducible exact H | (rw [hy335]; exact H) | exact H
 have Ny335 := zaa.mk hy335
 clear hy335
 have H' := zaa.mk H
 clear H
 go_enter Try.func61, Try.ntmps61
 go_wp2_with (first | ((with_reducible refine zba (N := 12) rfl ?_); refine Kd.R_lit Kd.bool _ 4 ?hg (N := 12) ?hd (xs := ([false, true] : List Bool)) (inner := [.bool false, .bool true]) (ok := fun _ => True) (okp := fun _ => True) ?hr ?hp (fun _ hk => hk) trivial (Below.refl _ _) (Nat.le_refl _) (by simp) ?_; (case hd => rfl); (case hg => rfl); (case hr => first | (go_simp; done) | (go_simp; rfl)); (case hp => exact (Reps.one (show Kd.M Kd.bool _ _ _ false [.bool false] from rfl) (Reps.one (show Kd.M Kd.bool _ _ _ true [.bool true] from rfl) (Reps.none _ _)))); intro v336 w2 ho3 hb hg_ hnew_; clear hg_ hnew_; (first | rw [← Ny335.out] at ho3 | (simp only [Int.reduceToNat] at ho3; rw [← Ny335.out] at ho3)); have n0_ := zaa.mk (Kd.R_lower ho3 (zbg (w := w) (g := g) (row := none) (by repeat (first | (with_reducible first | exact HK.out | apply zaf.set_ | apply zai | apply zal | apply zaj) | exact HK.out)))); have n1_ := zaa.mk (zaw.below (by repeat (first | (with_reducible first | exact HI0.out | apply zaw.alloc | apply zaw.drewN | apply zaw.drew) | exact HI0.out)) hb); have n2_ := zaa.mk (zaf.trans (by repeat (first | (with_reducible first | exact HK.out | apply zaf.set_ | apply zai | apply zal | apply zaj) | exact HK.out)) (zaf.of_below hb g none) (.inl rfl)); have n3_ := zaa.mk (zah (by repeat (first | (with_reducible first | exact HB.out | apply zac | apply zab | apply zad | refine zak ?_ (zaw.ge HI0.out)) | exact HB.out)) hb); clear HI0; clear HK; clear HB; have HO337 := n0_; have HI0 := n1_; have HK := n2_; have HB := n3_; clear n0_ n1_ n2_ n3_; clear hb ho3; obtain ⟨Ao4, co4, eo4⟩ := Kd.R_slice HO337.out; subst eo4))
 go_loopg [3, 14] k (fun kq v3 v14 w' => ∃ (x3_1 : List (S72)) (x14_1 : Int), v14 = .int .i64 x14_1 ∧ zaa (impl_floor_walls.l0 kq x3_1 y335 (y335.length : Int) x14_1 s0_0 s0_1 = some r) ∧ zaa (kq ≤ k) ∧ zaa (Kd.R k72 72 w' w.heap.size (fun _ => True) v3 x3_1) ∧ zaa (Kd.R Kd.bool 4 w' w.heap.size (fun _ => True) (.slice Ao4 y335.length co4) y335) ∧ zaa (zaw w0 w' g s0_0 s0_1) ∧ zaa (zaf w w' g none) ∧ zaa (Below w0.heap.size w0 w'))
 case atStart => exact ⟨(([] : List (S72))), (0), (by first | rfl | (simp; done) | (simp [*]; done)), H', ⟨Nat.le_refl _⟩, ⟨by first | exact Kd.R_nil _ _ _ _ _ | exact Kd.N_nil _ _ _ _ _ | exact Kd.V_nil _ _ _ _ _ | exact Kd.Q_nil _ _ _ _ _ | exact Kd.S_nil _ _ _ _ _⟩, ⟨by (with_reducible repeat (first | apply Kd.R_alloc | apply Kd.R_drewN | apply Kd.R_drew)); exact HO337.out⟩, ⟨by repeat (first | (with_reducible first | exact HI0.out | apply zaw.alloc | apply zaw.drewN | apply zaw.drew) | exact HI0.out)⟩, ⟨by repeat (first | (with_reducible first | exact HK.out | apply zaf.set_ | apply zai | apply zal | apply zaj) | exact HK.out)⟩, ⟨by repeat (first | (with_reducible first | exact HB.out | apply zac | apply zab | apply zad | refine zak ?_ (zaw.ge HI0.out)) | exact HB.out)⟩⟩
 case round =>
  clear H'
  try clear p2
  obtain ⟨x3_1, x14_1, rfl, HA, HK1, HO_3, HO_12, HI0, HK, HB⟩ := hrel
  cases gk with
  | zero => exact absurd HA.out (by simp [impl_floor_walls.l0])
  | succ k1 =>
   have H := HA.out
   clear HA
   simp only [impl_floor_walls.l0] at H
   by_cases c5 : x14_1 < (y335.length : Int)
   ·rw [if_pos c5] at H
    have c5b0 : decide (x14_1 < (y335.length : Int)) = true := decide_eq_true c5
    clear c5
    by_cases c6 : 0 ≤ x14_1
    ·rw [if_pos c6] at H
     have c6b0 : decide (0 ≤ x14_1) = true := decide_eq_true c6
     clear c6
     by_cases c7 : x14_1 < (y335.length : Int)
     ·rw [if_pos c7] at H
      have c7b0 : decide (x14_1 < (y335.length : Int)) = true := decide_eq_true c7
      clear c7
      replace H := Option.bind_eq_some_iff.mp H
      obtain ⟨t339, A80, H⟩ := H
      replace H : ((impl_floor_high.f s0_0 s0_1).bind fun t340 => (if rdOf false y335 x14_1 = true then (impl_floor_walls.j1 k1 x3_1 (rdOf false y335 x14_1) t340 t339 y335 (y335.length : Int) x14_1 s0_0 s0_1) else (impl_floor_walls.j1 k1 x3_1 (rdOf false y335 x14_1) t339 t340 y335 (y335.length : Int) x14_1 s0_0 s0_1))) = some r := H
      have A8 := zaa.mk A80
      clear A80
      replace H := Option.bind_eq_some_iff.mp H
      obtain ⟨t340, A90, H⟩ := H
      replace H : (if rdOf false y335 x14_1 = true then (impl_floor_walls.j1 k1 x3_1 (rdOf false y335 x14_1) t340 t339 y335 (y335.length : Int) x14_1 s0_0 s0_1) else (impl_floor_walls.j1 k1 x3_1 (rdOf false y335 x14_1) t339 t340 y335 (y335.length : Int) x14_1 s0_0 s0_1)) = some r := H
      have A9 := zaa.mk A90
      clear A90
      have HC10 := zaa.mk H
      clear H
      have p338 : 0 ≤ (x14_1 : Int) := of_decide_eq_true (by first | (with_reducible assumption) | assumption)
      have q338 : x14_1 < (y335.length : Int) := of_decide_eq_true (by first | (with_reducible assumption) | assumption)
      obtain ⟨ad338, e338, hx338_0⟩ := Kd.at_bool (Kd.R_reads' HO_12.out).2.2 x14_1 p338 q338
      cases e338
      replace p338 := eq_true p338
      replace q338 := eq_true q338
      go_upto_if 22 with (first | ((with_reducible refine zas (f := 51) rfl ?_); refine zbk (some 19) rfl rfl Try.func51 (by kernel_rfl) rfl #[.pointer (some ⟨g, 0, none⟩)] rfl (by (try simp only [List.map_toArray, List.map_cons, List.map_nil]); first | done | rfl | (simp only [List.length_drop, List.length_take]; rfl)) ?_; (with_reducible refine (impl_floor_wide.calls g s0_0 s0_1 t339 w0 _ ?side1 ?side2 A8.out).mono ?_); (case side1 => repeat (first | (with_reducible first | exact HI0.out | apply zaw.alloc | apply zaw.drewN | apply zaw.drew) | exact HI0.out)); (case side2 => repeat (first | (with_reducible first | exact HB.out | apply zac | apply zab | apply zad | refine zak ?_ (zaw.ge HI0.out)) | exact HB.out)); rintro e w11 ⟨rfl, hi, hb, hk⟩; refine ⟨_, rfl, ?_⟩; have n0_ := zaa.mk (Kd.R_mono (Kd.R_keep (zaw.apart (show zaw w0 _ g s0_0 s0_1 from by repeat (first | (with_reducible first | exact HI0.out | apply zaw.alloc | apply zaw.drewN | apply zaw.drew) | exact HI0.out)) (by (with_reducible repeat (first | apply Kd.R_alloc | apply Kd.R_drewN | apply Kd.R_drew)); exact HO_3.out) (by decide)) hk (fun _ h => h.2)) (fun _ h => h.1)); have n1_ := zaa.mk (Kd.R_mono (Kd.R_keep (zaw.apart (show zaw w0 _ g s0_0 s0_1 from by repeat (first | (with_reducible first | exact HI0.out | apply zaw.alloc | apply zaw.drewN | apply zaw.drew) | exact HI0.out)) (by (with_reducible repeat (first | apply Kd.R_alloc | apply Kd.R_drewN | apply Kd.R_drew)); exact HO_12.out) (by decide)) hk (fun _ h => h.2)) (fun _ h => h.1)); have n2_ := zaa.mk (zaf.trans (by repeat (first | (with_reducible first | exact HK.out | apply zaf.set_ | apply zai | apply zal | apply zaj) | exact HK.out)) hk (.inl rfl)); have n3_ := zaa.mk (hb); have n4_ := zaa.mk (hi); clear HO_3; clear HO_12; clear HK; clear HB; clear HI0; have HO_3 := n0_; have HO_12 := n1_; have HK := n2_; have HB := n3_; have HI0 := n4_; clear n0_ n1_ n2_ n3_ n4_; (try clear hb); (try clear hb2); (try clear hk); (try clear hi)) | ((with_reducible refine zas (f := 52) rfl ?_); refine zbk (some 21) rfl rfl Try.func52 (by kernel_rfl) rfl #[.pointer (some ⟨g, 0, none⟩)] rfl (by (try simp only [List.map_toArray, List.map_cons, List.map_nil]); first | done | rfl | (simp only [List.length_drop, List.length_take]; rfl)) ?_; (with_reducible refine (impl_floor_high.calls g s0_0 s0_1 t340 w0 _ ?side1 ?side2 A9.out).mono ?_); (case side1 => repeat (first | (with_reducible first | exact HI0.out | apply zaw.alloc | apply zaw.drewN | apply zaw.drew) | exact HI0.out)); (case side2 => repeat (first | (with_reducible first | exact HB.out | apply zac | apply zab | apply zad | refine zak ?_ (zaw.ge HI0.out)) | exact HB.out)); rintro e w12 ⟨rfl, hi, hb, hk⟩; refine ⟨_, rfl, ?_⟩; have n0_ := zaa.mk (Kd.R_mono (Kd.R_keep (zaw.apart (show zaw w0 _ g s0_0 s0_1 from by repeat (first | (with_reducible first | exact HI0.out | apply zaw.alloc | apply zaw.drewN | apply zaw.drew) | exact HI0.out)) (by (with_reducible repeat (first | apply Kd.R_alloc | apply Kd.R_drewN | apply Kd.R_drew)); exact HO_3.out) (by decide)) hk (fun _ h => h.2)) (fun _ h => h.1)); have n1_ := zaa.mk (Kd.R_mono (Kd.R_keep (zaw.apart (show zaw w0 _ g s0_0 s0_1 from by repeat (first | (with_reducible first | exact HI0.out | apply zaw.alloc | apply zaw.drewN | apply zaw.drew) | exact HI0.out)) (by (with_reducible repeat (first | apply Kd.R_alloc | apply Kd.R_drewN | apply Kd.R_drew)); exact HO_12.out) (by decide)) hk (fun _ h => h.2)) (fun _ h => h.1)); have n2_ := zaa.mk (zaf.trans (by repeat (first | (with_reducible first | exact HK.out | apply zaf.set_ | apply zai | apply zal | apply zaj) | exact HK.out)) hk (.inl rfl)); have n3_ := zaa.mk (hb); have n4_ := zaa.mk (hi); clear HO_3; clear HO_12; clear HK; clear HB; clear HI0; have HO_3 := n0_; have HO_12 := n1_; have HK := n2_; have HB := n3_; have HI0 := n4_; clear n0_ n1_ n2_ n3_ n4_; (try clear hb); (try clear hb2); (try clear hk); (try clear hi)))
      (try simp only [Act.put, List.setIfInBounds_toArray, List.set_cons_zero, List.set_cons_succ])
      obtain ⟨lv_, hlv_⟩ : ∃ b_ : Bool, b_ = (rdOf false y335 x14_1) := ⟨_, rfl⟩
      rw [← hlv_]
      have Hlv_ := zaa.mk hlv_
      clear hlv_
      go_cut [6, 7] (fun v6 v7 wc => ∃ (kq : Nat) (x6_9 : Int) (x7_9 : Int), v6 = .int .i64 x6_9 ∧ v7 = .int .i64 x7_9 ∧ zaa (impl_floor_walls.j1 kq x3_1 lv_ x6_9 x7_9 y335 (y335.length : Int) x14_1 s0_0 s0_1 = some r) ∧ zaa (kq ≤ k1) ∧ zaa (Kd.R k72 72 wc w.heap.size (fun _ => True) u3 x3_1) ∧ zaa (Kd.R Kd.bool 4 wc w.heap.size (fun _ => True) (.slice (some ad338) y335.length co4) y335) ∧ zaa (zaw w0 wc g s0_0 s0_1) ∧ zaa (zaf w wc g none) ∧ zaa (Below w0.heap.size w0 wc))
      case first =>
       have H := HC10.out
       clear HC10
       obtain ⟨bq13, hbq13⟩ : ∃ b_ : Bool, b_ = (rdOf false y335 x14_1) := ⟨_, rfl⟩
       replace H : (if bq13 = true then (impl_floor_walls.j1 k1 x3_1 bq13 t340 t339 y335 (y335.length : Int) x14_1 s0_0 s0_1) else (impl_floor_walls.j1 k1 x3_1 bq13 t339 t340 y335 (y335.length : Int) x14_1 s0_0 s0_1)) = some r := by rw [← hbq13] at H; exact H
       have Nbq13 := zaa.mk hbq13
       clear hbq13
       obtain rfl : bq13 = lv_ := Nbq13.out.trans Hlv_.out.symm
       by_cases c14 : bq13 = true
       ·subst c14
        have H1 : (impl_floor_walls.j1 k1 x3_1 true t340 t339 y335 (y335.length : Int) x14_1 s0_0 s0_1) = some r := by rw [if_pos rfl] at H; exact H
        clear H
        have H := H1
        clear H1
        have H' := zaa.mk H
        clear H
        go_wp2
        go_meet
        case rel => exact ⟨_, (t340), (t339), (by first | rfl | (simp; done) | (simp [*]; done)), (by first | rfl | (simp; done) | (simp [*]; done)), H', ⟨by have := HK1.out; first | omega | exact Nat.le_refl _⟩, ⟨by (with_reducible repeat (first | apply Kd.R_alloc | apply Kd.R_drewN | apply Kd.R_drew)); exact HO_3.out⟩, ⟨by (with_reducible repeat (first | apply Kd.R_alloc | apply Kd.R_drewN | apply Kd.R_drew)); exact HO_12.out⟩, ⟨by repeat (first | (with_reducible first | exact HI0.out | apply zaw.alloc | apply zaw.drewN | apply zaw.drew) | exact HI0.out)⟩, ⟨by repeat (first | (with_reducible first | exact HK.out | apply zaf.set_ | apply zai | apply zal | apply zaj) | exact HK.out)⟩, ⟨by repeat (first | (with_reducible first | exact HB.out | apply zac | apply zab | apply zad | refine zak ?_ (zaw.ge HI0.out)) | exact HB.out)⟩⟩
       ·replace c14 := Bool.eq_false_iff.mpr c14
        subst c14
        have H1 : (impl_floor_walls.j1 k1 x3_1 false t339 t340 y335 (y335.length : Int) x14_1 s0_0 s0_1) = some r := by rw [if_neg (show ¬ (false = true) by decide)] at H; exact H
        clear H
        have H := H1
        clear H1
        have H' := zaa.mk H
        clear H
        go_wp2
        go_meet
        case rel => exact ⟨_, (t339), (t340), (by first | rfl | (simp; done) | (simp [*]; done)), (by first | rfl | (simp; done) | (simp [*]; done)), H', ⟨by have := HK1.out; first | omega | exact Nat.le_refl _⟩, ⟨by (with_reducible repeat (first | apply Kd.R_alloc | apply Kd.R_drewN | apply Kd.R_drew)); exact HO_3.out⟩, ⟨by (with_reducible repeat (first | apply Kd.R_alloc | apply Kd.R_drewN | apply Kd.R_drew)); exact HO_12.out⟩, ⟨by repeat (first | (with_reducible first | exact HI0.out | apply zaw.alloc | apply zaw.drewN | apply zaw.drew) | exact HI0.out)⟩, ⟨by repeat (first | (with_reducible first | exact HK.out | apply zaf.set_ | apply zai | apply zal | apply zaj) | exact HK.out)⟩, ⟨by repeat (first | (with_reducible first | exact HB.out | apply zac | apply zab | apply zad | refine zak ?_ (zaw.ge HI0.out)) | exact HB.out)⟩⟩
      case rest =>
       have hlv_ := Hlv_.out
       clear Hlv_
       subst hlv_
       clear HC10
       try clear c1
       try clear q1
       try clear p2
       try clear p3
       try clear q3
       try clear hx3
       try clear c5
       try clear c5b0
       try clear c6
       try clear c6b0
       try clear c7
       try clear c7b0
       try clear q13
       try clear c14
       try clear hx338_0
       try clear p2
       try clear p338
       try clear q338
       obtain ⟨kq, x6_9, x7_9, rfl, rfl, HA, HJ9, HO_3, HO_12, HI0, HK, HB⟩ := hcut
       cases kq with
       | zero => exact absurd HA.out (by simp [impl_floor_walls.j1])
       | succ kj9 =>
        have H := HA.out
        clear HA
        simp only [impl_floor_walls.j1] at H
        have H' := zaa.mk H
        clear H
        go_wp2
        go_loopg [3, 8] kj9 (fun kq v3 v8 w' => ∃ (x3_3 : List (S72)) (x8_3 : Int), v8 = .int .i64 x8_3 ∧ zaa (impl_floor_walls.l1 kq x3_3 (rdOf false y335 x14_1) x6_9 x7_9 x8_3 y335 (y335.length : Int) x14_1 s0_0 s0_1 = some r) ∧ zaa (kq ≤ kj9) ∧ zaa (Kd.R k72 72 w' w.heap.size (fun _ => True) v3 x3_3) ∧ zaa (Kd.R Kd.bool 4 w' w.heap.size (fun _ => True) (.slice (some ad338) y335.length co4) y335) ∧ zaa (zaw w0 w' g s0_0 s0_1) ∧ zaa (zaf w w' g none) ∧ zaa (Below w0.heap.size w0 w'))
        case atStart => exact ⟨(x3_1), (1), (by first | rfl | (simp; done) | (simp [*]; done)), H', ⟨Nat.le_refl _⟩, ⟨by (with_reducible repeat (first | apply Kd.R_alloc | apply Kd.R_drewN | apply Kd.R_drew)); exact HO_3.out⟩, ⟨by (with_reducible repeat (first | apply Kd.R_alloc | apply Kd.R_drewN | apply Kd.R_drew)); exact HO_12.out⟩, ⟨by repeat (first | (with_reducible first | exact HI0.out | apply zaw.alloc | apply zaw.drewN | apply zaw.drew) | exact HI0.out)⟩, ⟨by repeat (first | (with_reducible first | exact HK.out | apply zaf.set_ | apply zai | apply zal | apply zaj) | exact HK.out)⟩, ⟨by repeat (first | (with_reducible first | exact HB.out | apply zac | apply zab | apply zad | refine zak ?_ (zaw.ge HI0.out)) | exact HB.out)⟩⟩
        case round =>
         clear H'
         try clear c1
         try clear q1
         try clear p2
         try clear p3
         try clear q3
         try clear hx3
         try clear c5
         try clear c5b0
         try clear c6
         try clear c6b0
         try clear c7
         try clear c7b0
         try clear q13
         try clear c14
         try clear hx338_0
         try clear p2
         try clear p3
         try clear p338
         try clear q1
         try clear q13
         try clear q3
         try clear q338
         obtain ⟨x3_3, x8_3, rfl, HA, HK3, HO_3, HO_12, HI0, HK, HB⟩ := hrel
         cases gk with
         | zero => exact absurd HA.out (by simp [impl_floor_walls.l1])
         | succ k3 =>
          have H := HA.out
          clear HA
          simp only [impl_floor_walls.l1] at H
          by_cases c15 : x8_3 < x6_9
          ·rw [if_pos c15] at H
           have c15b0 : decide (x8_3 < x6_9) = true := decide_eq_true c15
           clear c15
           have H' := zaa.mk H
           clear H
           go_wp2
           go_loopg [3, 9, 31] k3 (fun kq v3 v9 v31 w' => ∃ (x3_4 : List (S72)) (x9_4 : Bool) (x31_4 : Int), v9 = .bool x9_4 ∧ v31 = .int .i64 x31_4 ∧ zaa (impl_floor_walls.l2 kq x3_4 (rdOf false y335 x14_1) x6_9 x7_9 x8_3 x9_4 y335 (y335.length : Int) x14_1 x7_9 x31_4 s0_0 s0_1 = some r) ∧ zaa (kq ≤ k3) ∧ zaa (Kd.R k72 72 w' w.heap.size (fun _ => True) v3 x3_4) ∧ zaa (Kd.R Kd.bool 4 w' w.heap.size (fun _ => True) (.slice (some ad338) y335.length co4) y335) ∧ zaa (zaw w0 w' g s0_0 s0_1) ∧ zaa (zaf w w' g none) ∧ zaa (Below w0.heap.size w0 w'))
           case atStart => exact ⟨(x3_3), (false), (0), (by first | rfl | (simp; done) | (simp [*]; done)), (by first | rfl | (simp; done) | (simp [*]; done)), H', ⟨Nat.le_refl _⟩, ⟨by (with_reducible repeat (first | apply Kd.R_alloc | apply Kd.R_drewN | apply Kd.R_drew)); exact HO_3.out⟩, ⟨by (with_reducible repeat (first | apply Kd.R_alloc | apply Kd.R_drewN | apply Kd.R_drew)); exact HO_12.out⟩, ⟨by repeat (first | (with_reducible first | exact HI0.out | apply zaw.alloc | apply zaw.drewN | apply zaw.drew) | exact HI0.out)⟩, ⟨by repeat (first | (with_reducible first | exact HK.out | apply zaf.set_ | apply zai | apply zal | apply zaj) | exact HK.out)⟩, ⟨by repeat (first | (with_reducible first | exact HB.out | apply zac | apply zab | apply zad | refine zak ?_ (zaw.ge HI0.out)) | exact HB.out)⟩⟩
           case round =>
            clear H'
            try clear c1
            try clear q1
            try clear p2
            try clear p3
            try clear q3
            try clear hx3
            try clear c5
            try clear c5b0
            try clear c6
            try clear c6b0
            try clear c7
            try clear c7b0
            try clear q13
            try clear c14
            try clear c15
            try clear c15b0
            try clear hx338_0
            try clear p2
            try clear p3
            try clear p338
            try clear q1
            try clear q13
            try clear q3
            try clear q338
            obtain ⟨x3_4, x9_4, x31_4, rfl, rfl, HA, HK4, HO_3, HO_12, HI0, HK, HB⟩ := hrel
            cases gk with
            | zero => exact absurd HA.out (by simp [impl_floor_walls.l2])
            | succ k4 =>
             have H := HA.out
             clear HA
             simp only [impl_floor_walls.l2] at H
             by_cases c16 : x31_4 < x7_9
             ·rw [if_pos c16] at H
              have c16b0 : decide (x31_4 < x7_9) = true := decide_eq_true c16
              clear c16
              replace H := Option.bind_eq_some_iff.mp H
              obtain ⟨t341, A170, H⟩ := H
              replace H : (if t341 = true then (impl_floor_walls.j4 k4 x3_4 (rdOf false y335 x14_1) x6_9 x7_9 x8_3 x31_4 t341 y335 (y335.length : Int) x14_1 x7_9 x31_4 x9_4 s0_0 s0_1) else (impl_floor_walls.j4 k4 x3_4 (rdOf false y335 x14_1) x6_9 x7_9 x8_3 x31_4 t341 y335 (y335.length : Int) x14_1 x7_9 x31_4 false s0_0 s0_1)) = some r := H
              have A17 := zaa.mk A170
              clear A170
              have HC18 := zaa.mk H
              clear H
              go_upto_region 16 with (first | ((with_reducible refine zas (f := 96) rfl ?_); refine zbk (some 38) rfl rfl Try.func96 (by kernel_rfl) rfl #[.pointer (some ⟨g, 0, none⟩), .bool (rdOf false y335 x14_1), .int .i64 x8_3, .int .i64 x31_4] rfl (by (try simp only [List.map_toArray, List.map_cons, List.map_nil]); first | done | rfl | (simp only [List.length_drop, List.length_take]; rfl)) ?_; (with_reducible refine (impl_floor_differ.calls g s0_0 s0_1 (rdOf false y335 x14_1) x8_3 x31_4 t341 w0 _ ?side1 ?side2 A17.out).mono ?_); (case side1 => repeat (first | (with_reducible first | exact HI0.out | apply zaw.alloc | apply zaw.drewN | apply zaw.drew) | exact HI0.out)); (case side2 => repeat (first | (with_reducible first | exact HB.out | apply zac | apply zab | apply zad | refine zak ?_ (zaw.ge HI0.out)) | exact HB.out)); rintro e w19 ⟨rfl, hi, hb, hk⟩; refine ⟨_, rfl, ?_⟩; have n0_ := zaa.mk (Kd.R_mono (Kd.R_keep (zaw.apart (show zaw w0 _ g s0_0 s0_1 from by repeat (first | (with_reducible first | exact HI0.out | apply zaw.alloc | apply zaw.drewN | apply zaw.drew) | exact HI0.out)) (by (with_reducible repeat (first | apply Kd.R_alloc | apply Kd.R_drewN | apply Kd.R_drew)); exact HO_3.out) (by decide)) hk (fun _ h => h.2)) (fun _ h => h.1)); have n1_ := zaa.mk (Kd.R_mono (Kd.R_keep (zaw.apart (show zaw w0 _ g s0_0 s0_1 from by repeat (first | (with_reducible first | exact HI0.out | apply zaw.alloc | apply zaw.drewN | apply zaw.drew) | exact HI0.out)) (by (with_reducible repeat (first | apply Kd.R_alloc | apply Kd.R_drewN | apply Kd.R_drew)); exact HO_12.out) (by decide)) hk (fun _ h => h.2)) (fun _ h => h.1)); have n2_ := zaa.mk (zaf.trans (by repeat (first | (with_reducible first | exact HK.out | apply zaf.set_ | apply zai | apply zal | apply zaj) | exact HK.out)) hk (.inl rfl)); have n3_ := zaa.mk (hb); have n4_ := zaa.mk (hi); clear HO_3; clear HO_12; clear HK; clear HB; clear HI0; have HO_3 := n0_; have HO_12 := n1_; have HK := n2_; have HB := n3_; have HI0 := n4_; clear n0_ n1_ n2_ n3_ n4_; (try clear hb); (try clear hb2); (try clear hk); (try clear hi)))
              (try simp only [Act.put, List.setIfInBounds_toArray, List.set_cons_zero, List.set_cons_succ])
              go_cut [39] (fun v39 wc => ∃ (kq : Nat) (x39_17 : Bool), v39 = .bool x39_17 ∧ zaa (impl_floor_walls.j4 kq x3_4 (rdOf false y335 x14_1) x6_9 x7_9 x8_3 x31_4 t341 y335 (y335.length : Int) x14_1 x7_9 x31_4 x39_17 s0_0 s0_1 = some r) ∧ zaa (kq ≤ k4) ∧ zaa (Kd.R k72 72 wc w.heap.size (fun _ => True) u3 x3_4) ∧ zaa (Kd.R Kd.bool 4 wc w.heap.size (fun _ => True) (.slice (some ad338) y335.length co4) y335) ∧ zaa (zaw w0 wc g s0_0 s0_1) ∧ zaa (zaf w wc g none) ∧ zaa (Below w0.heap.size w0 wc))
              case first =>
               have H := HC18.out
               clear HC18
               by_cases c20 : t341 = true
               ·subst c20
                have H1 : (impl_floor_walls.j4 k4 x3_4 (rdOf false y335 x14_1) x6_9 x7_9 x8_3 x31_4 true y335 (y335.length : Int) x14_1 x7_9 x31_4 x9_4 s0_0 s0_1) = some r := by rw [if_pos rfl] at H; exact H
                clear H
                have H := H1
                clear H1
                have H' := zaa.mk H
                clear H
                go_wp2
                go_meet
                case rel => exact ⟨_, (x9_4), (by first | rfl | (simp; done) | (simp [*]; done)), H', ⟨by have := HK1.out; have := HJ9.out; have := HK3.out; have := HK4.out; first | omega | exact Nat.le_refl _⟩, ⟨by (with_reducible repeat (first | apply Kd.R_alloc | apply Kd.R_drewN | apply Kd.R_drew)); exact HO_3.out⟩, ⟨by (with_reducible repeat (first | apply Kd.R_alloc | apply Kd.R_drewN | apply Kd.R_drew)); exact HO_12.out⟩, ⟨by repeat (first | (with_reducible first | exact HI0.out | apply zaw.alloc | apply zaw.drewN | apply zaw.drew) | exact HI0.out)⟩, ⟨by repeat (first | (with_reducible first | exact HK.out | apply zaf.set_ | apply zai | apply zal | apply zaj) | exact HK.out)⟩, ⟨by repeat (first | (with_reducible first | exact HB.out | apply zac | apply zab | apply zad | refine zak ?_ (zaw.ge HI0.out)) | exact HB.out)⟩⟩
               ·replace c20 := Bool.eq_false_iff.mpr c20
                subst c20
                have H1 : (impl_floor_walls.j4 k4 x3_4 (rdOf false y335 x14_1) x6_9 x7_9 x8_3 x31_4 false y335 (y335.length : Int) x14_1 x7_9 x31_4 false s0_0 s0_1) = some r := by rw [if_neg (show ¬ (false = true) by decide)] at H; exact H
                clear H
                have H := H1
                clear H1
                have H' := zaa.mk H
                clear H
                go_wp2
                go_meet
                case rel => exact ⟨_, (false), (by first | rfl | (simp; done) | (simp [*]; done)), H', ⟨by have := HK1.out; have := HJ9.out; have := HK3.out; have := HK4.out; first | omega | exact Nat.le_refl _⟩, ⟨by (with_reducible repeat (first | apply Kd.R_alloc | apply Kd.R_drewN | apply Kd.R_drew)); exact HO_3.out⟩, ⟨by (with_reducible repeat (first | apply Kd.R_alloc | apply Kd.R_drewN | apply Kd.R_drew)); exact HO_12.out⟩, ⟨by repeat (first | (with_reducible first | exact HI0.out | apply zaw.alloc | apply zaw.drewN | apply zaw.drew) | exact HI0.out)⟩, ⟨by repeat (first | (with_reducible first | exact HK.out | apply zaf.set_ | apply zai | apply zal | apply zaj) | exact HK.out)⟩, ⟨by repeat (first | (with_reducible first | exact HB.out | apply zac | apply zab | apply zad | refine zak ?_ (zaw.ge HI0.out)) | exact HB.out)⟩⟩
              case rest =>
               clear HC18
               try clear c1
               try clear q1
               try clear c2
               try clear p2
               try clear p3
               try clear q3
               try clear hx3
               try clear c5
               try clear c5b0
               try clear c6
               try clear c6b0
               try clear c7
               try clear c7b0
               try clear c9
               try clear q13
               try clear c14
               try clear c15
               try clear c15b0
               try clear c16
               try clear c16b0
               try clear c20
               try clear hx338_0
               try clear p2
               try clear p3
               try clear p338
               try clear q1
               try clear q13
               try clear q3
               try clear q338
               obtain ⟨kq, x39_17, rfl, HA, HJ17, HO_3, HO_12, HI0, HK, HB⟩ := hcut
               cases kq with
               | zero => exact absurd HA.out (by simp [impl_floor_walls.j4])
               | succ kj17 =>
                have H := HA.out
                clear HA
                simp only [impl_floor_walls.j4] at H
                by_cases c21 : x39_17 = true
                ·subst c21
                 have H1 : (if 0 ≤ (wrap64 ((x3_4.length : Int) - 1)) then (if (wrap64 ((x3_4.length : Int) - 1)) < (x3_4.length : Int) then (impl_floor_walls.l2 kj17 (x3_4.set ((wrap64 ((x3_4.length : Int) - 1)) : Int).toNat (⟨(zcb x3_4 (wrap64 ((x3_4.length : Int) - 1))).f0, (zcb x3_4 (wrap64 ((x3_4.length : Int) - 1))).f1, (zcb x3_4 (wrap64 ((x3_4.length : Int) - 1))).f2, wrap64 (((zcb x3_4 (wrap64 ((x3_4.length : Int) - 1))).f3) + 1)⟩ : S72)) (rdOf false y335 x14_1) x6_9 x7_9 x8_3 t341 y335 (y335.length : Int) x14_1 x7_9 (wrap64 (x31_4 + 1)) s0_0 s0_1) else (none)) else (none)) = some r := by rw [if_pos rfl] at H; exact H
                 clear H
                 have H := H1
                 clear H1
                 obtain ⟨ji22, hji22⟩ : ∃ j_ : Int, (wrap64 ((x3_4.length : Int) - 1)) = j_ := ⟨_, rfl⟩
                 replace H : (if 0 ≤ (ji22) then (if (ji22) < (x3_4.length : Int) then (impl_floor_walls.l2 kj17 (x3_4.set ((ji22) : Int).toNat (⟨(zcb x3_4 (ji22)).f0, (zcb x3_4 (ji22)).f1, (zcb x3_4 (ji22)).f2, wrap64 (((zcb x3_4 (ji22)).f3) + 1)⟩ : S72)) (rdOf false y335 x14_1) x6_9 x7_9 x8_3 t341 y335 (y335.length : Int) x14_1 x7_9 (wrap64 (x31_4 + 1)) s0_0 s0_1) else (none)) else (none)) = some r := by first | (rw [hji22] at H; exact H) | (simp only [hji22] at H ⊢; exact H)
                 have hji22w : (IntKind.i64.wrap ((x3_4.length : Int) - 1)) = ji22 := (zat _).trans hji22
                 by_cases c23 : 0 ≤ (ji22)
                 ·rw [if_pos c23] at H
                  have c23b0 : decide (0 ≤ (ji22)) = true := decide_eq_true c23
                  clear c23
                  by_cases c24 : (ji22) < (x3_4.length : Int)
                  ·rw [if_pos c24] at H
                   have c24b0 : decide ((ji22) < (x3_4.length : Int)) = true := decide_eq_true c24
                   clear c24
                   obtain ⟨y343, hy343⟩ : ∃ y_ : List (S72), y_ = (x3_4.set ((ji22) : Int).toNat (⟨(zcb x3_4 (ji22)).f0, (zcb x3_4 (ji22)).f1, (zcb x3_4 (ji22)).f2, wrap64 (((zcb x3_4 (ji22)).f3) + 1)⟩ : S72)) := ⟨_, rfl⟩
                   replace H : (impl_floor_walls.l2 kj17 y343 (rdOf false y335 x14_1) x6_9 x7_9 x8_3 t341 y335 (y335.length : Int) x14_1 x7_9 (wrap64 (x31_4 + 1)) s0_0 s0_1) = some r := by first | (rw [hy343]; with_reducible exact H) | (have H2_ := (Option.bind_some _ _).symm.trans H; rw [hy343]; with_reducible exact H2_) | (have H2_ := (Option.bind_some _ _).symm.trans H; with_reducible exact H2_) | with_reducible exact H | (rw [hy343]; exact H) | exact H
                   have Ny343 := zaa.mk hy343
                   clear hy343
                   have H' := zaa.mk H
                   clear H
                   obtain ⟨Ao26, co26, eo26⟩ := Kd.R_slice HO_3.out
                   subst eo26
                   have p342 : 0 ≤ ((ji22) : Int) := of_decide_eq_true (by first | (with_reducible assumption) | assumption)
                   have q342 : (ji22) < (x3_4.length : Int) := of_decide_eq_true (by first | (with_reducible assumption) | assumption)
                   obtain ⟨ad342, e342, hx342_0, hx342_1, hx342_2, hx342_3⟩ := at_T72 (Kd.R_reads' HO_3.out).2.2 (ji22) p342 q342
                   cases e342
                   replace p342 := eq_true p342
                   replace q342 := eq_true q342
                   have p25 : 0 ≤ ((ji22) : Int) := of_decide_eq_true (by first | (with_reducible assumption) | assumption)
                   have q25 : ((ji22) : Int) < ((x3_4.length : Int) : Int) := of_decide_eq_true (by first | (with_reducible assumption) | assumption)
                   obtain ⟨go25, co25, eo25, gb25, gl25, cl25, HG25⟩ := Kd.R_form HO_3.out (by omega)
                   (first | cases eo25 | (injection eo25 with ea_ en_ ec_; (first | subst ea_ | (injection ea_ with ea_; subst ea_)); subst ec_; clear en_))
                   have GB25 := zaa.mk gb25
                   have GG25 := zaa.mk HG25
                   clear gb25 gl25 HG25
                   (first | simp only [add_plain] at hx342_0 | skip)
                   (first | simp only [add_plain] at hx342_1 | skip)
                   (first | simp only [add_plain] at hx342_2 | skip)
                   (first | simp only [add_plain] at hx342_3 | skip)
                   obtain ⟨ce25, hcl25, hM25, hcc25, hfr25⟩ := Kd.R_elem HO_3.out z72 ((ji22) : Int) p25 q25
                   obtain rfl := k72_openM hM25
                   have hx25_0 : wc.cell? ⟨go25, ((ji22) : Int).toNat * 4, none⟩ = some (.bool ((zcb x3_4 (ji22)).f0)) := hcc25 0 _ rfl
                   have hx25_1 : wc.cell? ⟨go25, ((ji22) : Int).toNat * 4 + 1, none⟩ = some (.int .i64 ((zcb x3_4 (ji22)).f1)) := hcc25 1 _ rfl
                   have hx25_2 : wc.cell? ⟨go25, ((ji22) : Int).toNat * 4 + 2, none⟩ = some (.int .i64 ((zcb x3_4 (ji22)).f2)) := hcc25 2 _ rfl
                   have hx25_3 : wc.cell? ⟨go25, ((ji22) : Int).toNat * 4 + 3, none⟩ = some (.int .i64 ((zcb x3_4 (ji22)).f3)) := hcc25 3 _ rfl
                   have hf25_0 : wc.frozen? ⟨go25, ((ji22) : Int).toNat * 4, none⟩ = false := hfr25 0
                   have hf25_1 : wc.frozen? ⟨go25, ((ji22) : Int).toNat * 4 + 1, none⟩ = false := hfr25 1
                   have hf25_2 : wc.frozen? ⟨go25, ((ji22) : Int).toNat * 4 + 2, none⟩ = false := hfr25 2
                   have hf25_3 : wc.frozen? ⟨go25, ((ji22) : Int).toNat * 4 + 3, none⟩ = false := hfr25 3
                   clear hcl25 hcc25 hfr25 hM25
                   replace p25 := eq_true p25
                   replace q25 := eq_true q25
                   have HX27 := zaa.mk (show Kd.R k72 72 wc w.heap.size (fun _ => True) (.slice (some ⟨go25, 0, none⟩) x3_4.length co26) x3_4 from (by (with_reducible repeat (first | apply Kd.R_alloc | apply Kd.R_drewN | apply Kd.R_drew)); exact HO_3.out))
                   obtain ⟨ce27, hcl27, hM27, hcc27, hfr27⟩ := Kd.R_elem HX27.out z72 ((ji22) : Int) (of_decide_eq_true (by first | (with_reducible assumption) | assumption)) (by have h_ : ((ji22) : Int) < ((x3_4.length : Int) : Int) := of_decide_eq_true (by first | (with_reducible assumption) | assumption); first | exact h_ | (have e_ := (Kd.R_reads' HO_3.out).1; omega) | simpa using h_)
                   obtain rfl := k72_openM hM27
                   have HP27 := Kd.R_seg HX27.out ((ji22) : Int) (of_decide_eq_true (by first | (with_reducible assumption) | assumption)) (by have h_ : ((ji22) : Int) < ((x3_4.length : Int) : Int) := of_decide_eq_true (by first | (with_reducible assumption) | assumption); first | exact h_ | (have e_ := (Kd.R_reads' HO_3.out).1; omega) | simpa using h_) (seg := [.int .i64 (wrap64 (((zcb x3_4 (ji22)).f3) + 1))]) (j := 3) hcl27 hcc27 (show 4 ≤ 4 from by decide) (x' := (⟨(zcb x3_4 (ji22)).f0, (zcb x3_4 (ji22)).f1, (zcb x3_4 (ji22)).f2, wrap64 (((zcb x3_4 (ji22)).f3) + 1)⟩ : S72)) (k72_mkM _ _ _ (⟨(zcb x3_4 (ji22)).f0, (zcb x3_4 (ji22)).f1, (zcb x3_4 (ji22)).f2, wrap64 (((zcb x3_4 (ji22)).f3) + 1)⟩ : S72) ) (fun _ hk => hk)
                   have hx27_3 := hcc27 3 _ rfl
                   (try simp only [show (k72).sz = 4 from rfl, Nat.mul_one, Nat.add_zero] at hx27_3)
                   have hf27_3 := hfr27 3
                   (try simp only [show (k72).sz = 4 from rfl, Nat.mul_one, Nat.add_zero] at hf27_3)
                   clear hcl27 hcc27 hfr27 hM27
                   go_wp2_with (first | ((with_reducible refine gate_store (t := 3) (p := 53) rfl ?_); refine store_event (t := 3) (p := 53) (v := ?vo_w28) (w1 := (wc.setCell ⟨go25, ((ji22) : Int).toNat * 4 + 3, none⟩ (.int .i64 (wrap64 (((zcb x3_4 (ji22)).f3) + 1))))) ?hg ?ho ?hn ?hr ?_; (case ho => rfl); (case hg => rfl); (case hn => rfl); (case hr => first | (go_simp; done) | (go_simp; rfl)); intro w28 hw; have hg : wc.grownBy w28 (some go25) := (by rw [hw]; exact HP27.2); have hp_ : Kd.R k72 72 w28 w.heap.size (fun _ => True) (.slice (some ⟨go25, 0, none⟩) x3_4.length co26) y343 := (by rw [hw, Ny343.out]; exact HP27.1); clear HP27; have n0_ := zaa.mk (hp_); have n1_ := zaa.mk (Kd.R_over' (v := (.slice (some ⟨go25, 0, none⟩) x3_4.length co26)) (by (with_reducible repeat (first | apply Kd.R_alloc | apply Kd.R_drewN | apply Kd.R_drew)); exact HO_12.out) (Kd.R_typed HO_3.out) (by decide) hg); have n2_ := zaa.mk (zaw.grown (by repeat (first | (with_reducible first | exact HI0.out | apply zaw.alloc | apply zaw.drewN | apply zaw.drew) | exact HI0.out)) hg (zaw.own_ne HI0.out HO_3.out (by decide))); have n3_ := zaa.mk ((by rw [hw]; exact zak (HB.out) (Nat.le_trans HL.out GB25.out) : Below w0.heap.size w0 w28)); have n4_ := zaa.mk (zaf.trans (by repeat (first | (with_reducible first | exact HK.out | apply zaf.set_ | apply zai | apply zal | apply zaj) | exact HK.out)) (zaf.of_grown hg g) (Kd.R_base2 HO_3.out)); clear HO_3; clear HO_12; clear HI0; clear HB; clear HK; have HO_3 := n0_; have HO_12 := n1_; have HI0 := n2_; have HB := n3_; have HK := n4_; clear n0_ n1_ n2_ n3_ n4_; clear hg hw hp_))
                   go_roundg kj17
                   case measure => have := HK1.out; have := HJ9.out; have := HK3.out; have := HK4.out; have := HJ17.out; omega
                   case rel => exact ⟨(y343), (t341), (wrap64 (x31_4 + 1)), (by first | rfl | (simp; done) | (simp [*]; done)), (by first | rfl | (simp; done) | (simp [*]; done)), H', ⟨by have := HK1.out; have := HJ9.out; have := HK3.out; have := HK4.out; have := HJ17.out; omega⟩, ⟨by (with_reducible repeat (first | apply Kd.R_alloc | apply Kd.R_drewN | apply Kd.R_drew)); exact HO_3.out⟩, ⟨by (with_reducible repeat (first | apply Kd.R_alloc | apply Kd.R_drewN | apply Kd.R_drew)); exact HO_12.out⟩, ⟨by repeat (first | (with_reducible first | exact HI0.out | apply zaw.alloc | apply zaw.drewN | apply zaw.drew) | exact HI0.out)⟩, ⟨by repeat (first | (with_reducible first | exact HK.out | apply zaf.set_ | apply zai | apply zal | apply zaj) | exact HK.out)⟩, ⟨by repeat (first | (with_reducible first | exact HB.out | apply zac | apply zab | apply zad | refine zak ?_ (zaw.ge HI0.out)) | exact HB.out)⟩⟩
                  ·rw [if_neg c24] at H
                   exact absurd H (by simp)
                 ·rw [if_neg c23] at H
                  exact absurd H (by simp)
                ·replace c21 := Bool.eq_false_iff.mpr c21
                 subst c21
                 have H1 : (if t341 = true then (if x3_4.length < 4398046511104 then (impl_floor_walls.l2 kj17 (x3_4 ++ [(⟨(rdOf false y335 x14_1), x8_3, x31_4, 1⟩ : S72)]) (rdOf false y335 x14_1) x6_9 x7_9 x8_3 t341 y335 (y335.length : Int) x14_1 x7_9 (wrap64 (x31_4 + 1)) s0_0 s0_1) else (none)) else (impl_floor_walls.l2 kj17 x3_4 (rdOf false y335 x14_1) x6_9 x7_9 x8_3 t341 y335 (y335.length : Int) x14_1 x7_9 (wrap64 (x31_4 + 1)) s0_0 s0_1)) = some r := by rw [if_neg (show ¬ (false = true) by decide)] at H; exact H
                 clear H
                 have H := H1
                 clear H1
                 by_cases c29 : t341 = true
                 ·subst c29
                  have H1 : (if x3_4.length < 4398046511104 then (impl_floor_walls.l2 kj17 (x3_4 ++ [(⟨(rdOf false y335 x14_1), x8_3, x31_4, 1⟩ : S72)]) (rdOf false y335 x14_1) x6_9 x7_9 x8_3 true y335 (y335.length : Int) x14_1 x7_9 (wrap64 (x31_4 + 1)) s0_0 s0_1) else (none)) = some r := by rw [if_pos rfl] at H; exact H
                  clear H
                  have H := H1
                  clear H1
                  by_cases c30 : x3_4.length < 4398046511104
                  ·rw [if_pos c30] at H
                   have LMc30 := zaa.mk c30
                   clear c30
                   obtain ⟨y344, hy344⟩ : ∃ y_ : List (S72), y_ = (x3_4 ++ [(⟨(rdOf false y335 x14_1), x8_3, x31_4, 1⟩ : S72)]) := ⟨_, rfl⟩
                   replace H : (impl_floor_walls.l2 kj17 y344 (rdOf false y335 x14_1) x6_9 x7_9 x8_3 true y335 (y335.length : Int) x14_1 x7_9 (wrap64 (x31_4 + 1)) s0_0 s0_1) = some r := by first | (rw [hy344]; with_reducible exact H) | (have H2_ := (Option.bind_some _ _).symm.trans H; rw [hy344]; with_reducible exact H2_) | (have H2_ := (Option.bind_some _ _).symm.trans H; with_reducible exact H2_) | with_reducible exact H | (rw [hy344]; exact H) | exact H
                   have Ny344 := zaa.mk hy344
                   clear hy344
                   have H' := zaa.mk H
                   clear H
                   go_wp2_with (first | ((with_reducible refine zay (b := .append) (xs := #[.tmp 56, .tmp 61]) rfl ?_); at_builtin; refine Kd.R_append k72 w.heap.size rfl (.tmp 56) (.tmp 61) 69 72 (.agg #[(.bool false), (.int .i64 0), (.int .i64 0), (.int .i64 0)]) 32 rfl Try.underlying69 info72 rfl (by decide) (by omega) u3 x3_4 (⟨(rdOf false y335 x14_1), x8_3, x31_4, 1⟩ : S72) [.bool (rdOf false y335 x14_1), .int .i64 x8_3, .int .i64 x31_4, .int .i64 1] (fun _ => True) (fun _ => False) rfl rfl ?aP (fun _ hk => hk.elim) ?aF ?aO (Below.refl _ _) ?aS ?aL ?_; (case aP => exact k72_mkM _ _ _ (⟨(rdOf false y335 x14_1), x8_3, x31_4, 1⟩ : S72)); (case aF => exact (fun _ _ => trivial)); (case aO => exact (by (with_reducible repeat (first | apply Kd.R_alloc | apply Kd.R_drewN | apply Kd.R_drew)); exact HO_3.out)); (case aS => exact (zbg (w := w) (g := g) (row := none) (by repeat (first | (with_reducible first | exact HK.out | apply zaf.set_ | apply zai | apply zal | apply zaj) | exact HK.out)))); (case aL => have := LMc30.out; omega); intro v345 w31 ho hb hg hat; rw [← Ny344.out] at ho; have n0_ := zaa.mk (Kd.R_over' (by (with_reducible repeat (first | apply Kd.R_alloc | apply Kd.R_drewN | apply Kd.R_drew)); exact HO_12.out) (Kd.R_typed (by (with_reducible repeat (first | apply Kd.R_alloc | apply Kd.R_drewN | apply Kd.R_drew)); exact HO_3.out)) (by decide) hg); have n1_ := zaa.mk (zaw.grown (by repeat (first | (with_reducible first | exact HI0.out | apply zaw.alloc | apply zaw.drewN | apply zaw.drew) | exact HI0.out)) hg (zaw.own_ne HI0.out HO_3.out (by decide))); have n2_ := zaa.mk (below_weaken (by repeat (first | (with_reducible first | exact HB.out | apply zac | apply zab | apply zad | refine zak ?_ (zaw.ge HI0.out)) | exact HB.out)) HL.out hb); have n3_ := zaa.mk (zaf.trans (by repeat (first | (with_reducible first | exact HK.out | apply zaf.set_ | apply zai | apply zal | apply zaj) | exact HK.out)) (zaf.of_grown hg g) (Kd.R_base2 HO_3.out)); have n4_ := zaa.mk (ho); clear HO_12; clear HI0; clear HB; clear HK; clear HO_3; have HO_12 := n0_; have HI0 := n1_; have HB := n2_; have HK := n3_; have HO346 := n4_; clear n0_ n1_ n2_ n3_ n4_; clear ho hb hg hat))
                   go_roundg kj17
                   case measure => have := HK1.out; have := HJ9.out; have := HK3.out; have := HK4.out; have := HJ17.out; omega
                   case rel => exact ⟨(y344), (true), (wrap64 (x31_4 + 1)), (by first | rfl | (simp; done) | (simp [*]; done)), (by first | rfl | (simp; done) | (simp [*]; done)), H', ⟨by have := HK1.out; have := HJ9.out; have := HK3.out; have := HK4.out; have := HJ17.out; omega⟩, ⟨by (with_reducible repeat (first | apply Kd.R_alloc | apply Kd.R_drewN | apply Kd.R_drew)); exact HO346.out⟩, ⟨by (with_reducible repeat (first | apply Kd.R_alloc | apply Kd.R_drewN | apply Kd.R_drew)); exact HO_12.out⟩, ⟨by repeat (first | (with_reducible first | exact HI0.out | apply zaw.alloc | apply zaw.drewN | apply zaw.drew) | exact HI0.out)⟩, ⟨by repeat (first | (with_reducible first | exact HK.out | apply zaf.set_ | apply zai | apply zal | apply zaj) | exact HK.out)⟩, ⟨by repeat (first | (with_reducible first | exact HB.out | apply zac | apply zab | apply zad | refine zak ?_ (zaw.ge HI0.out)) | exact HB.out)⟩⟩
                  ·rw [if_neg c30] at H
                   exact absurd H (by simp)
                 ·replace c29 := Bool.eq_false_iff.mpr c29
                  subst c29
                  have H1 : (impl_floor_walls.l2 kj17 x3_4 (rdOf false y335 x14_1) x6_9 x7_9 x8_3 false y335 (y335.length : Int) x14_1 x7_9 (wrap64 (x31_4 + 1)) s0_0 s0_1) = some r := by rw [if_neg (show ¬ (false = true) by decide)] at H; exact H
                  clear H
                  have H := H1
                  clear H1
                  have H' := zaa.mk H
                  clear H
                  go_wp2
                  go_roundg kj17
                  case measure => have := HK1.out; have := HJ9.out; have := HK3.out; have := HK4.out; have := HJ17.out; omega
                  case rel => exact ⟨(x3_4), (false), (wrap64 (x31_4 + 1)), (by first | rfl | (simp; done) | (simp [*]; done)), (by first | rfl | (simp; done) | (simp [*]; done)), H', ⟨by have := HK1.out; have := HJ9.out; have := HK3.out; have := HK4.out; have := HJ17.out; omega⟩, ⟨by (with_reducible repeat (first | apply Kd.R_alloc | apply Kd.R_drewN | apply Kd.R_drew)); exact HO_3.out⟩, ⟨by (with_reducible repeat (first | apply Kd.R_alloc | apply Kd.R_drewN | apply Kd.R_drew)); exact HO_12.out⟩, ⟨by repeat (first | (with_reducible first | exact HI0.out | apply zaw.alloc | apply zaw.drewN | apply zaw.drew) | exact HI0.out)⟩, ⟨by repeat (first | (with_reducible first | exact HK.out | apply zaf.set_ | apply zai | apply zal | apply zaj) | exact HK.out)⟩, ⟨by repeat (first | (with_reducible first | exact HB.out | apply zac | apply zab | apply zad | refine zak ?_ (zaw.ge HI0.out)) | exact HB.out)⟩⟩
             ·rw [if_neg c16] at H
              have c16b0 : decide (x31_4 < x7_9) = false := decide_eq_false c16
              clear c16
              have H' := zaa.mk H
              clear H
              go_wp2
              go_roundg k4
              case measure => have := HK1.out; have := HJ9.out; have := HK3.out; have := HK4.out; omega
              case rel => exact ⟨(x3_4), (wrap64 (x8_3 + 1)), (by first | rfl | (simp; done) | (simp [*]; done)), H', ⟨by have := HK1.out; have := HJ9.out; have := HK3.out; have := HK4.out; omega⟩, ⟨by (with_reducible repeat (first | apply Kd.R_alloc | apply Kd.R_drewN | apply Kd.R_drew)); exact HO_3.out⟩, ⟨by (with_reducible repeat (first | apply Kd.R_alloc | apply Kd.R_drewN | apply Kd.R_drew)); exact HO_12.out⟩, ⟨by repeat (first | (with_reducible first | exact HI0.out | apply zaw.alloc | apply zaw.drewN | apply zaw.drew) | exact HI0.out)⟩, ⟨by repeat (first | (with_reducible first | exact HK.out | apply zaf.set_ | apply zai | apply zal | apply zaj) | exact HK.out)⟩, ⟨by repeat (first | (with_reducible first | exact HB.out | apply zac | apply zab | apply zad | refine zak ?_ (zaw.ge HI0.out)) | exact HB.out)⟩⟩
          ·rw [if_neg c15] at H
           have c15b0 : decide (x8_3 < x6_9) = false := decide_eq_false c15
           clear c15
           have H' := zaa.mk H
           clear H
           go_wp2
           go_roundg k3
           case measure => have := HK1.out; have := HJ9.out; have := HK3.out; omega
           case rel => exact ⟨(x3_3), (wrap64 (x14_1 + 1)), (by first | rfl | (simp; done) | (simp [*]; done)), H', ⟨by have := HK1.out; have := HJ9.out; have := HK3.out; omega⟩, ⟨by (with_reducible repeat (first | apply Kd.R_alloc | apply Kd.R_drewN | apply Kd.R_drew)); exact HO_3.out⟩, ⟨by (with_reducible repeat (first | apply Kd.R_alloc | apply Kd.R_drewN | apply Kd.R_drew)); exact HO_12.out⟩, ⟨by repeat (first | (with_reducible first | exact HI0.out | apply zaw.alloc | apply zaw.drewN | apply zaw.drew) | exact HI0.out)⟩, ⟨by repeat (first | (with_reducible first | exact HK.out | apply zaf.set_ | apply zai | apply zal | apply zaj) | exact HK.out)⟩, ⟨by repeat (first | (with_reducible first | exact HB.out | apply zac | apply zab | apply zad | refine zak ?_ (zaw.ge HI0.out)) | exact HB.out)⟩⟩
     ·rw [if_neg c7] at H
      exact absurd H (by simp)
    ·rw [if_neg c6] at H
     exact absurd H (by simp)
   ·rw [if_neg c5] at H
    have c5b0 : decide (x14_1 < (y335.length : Int)) = false := decide_eq_false c5
    clear c5
    obtain rfl := Option.some.inj H
    go_wp2
    go_ret
    exact ⟨_, by first | rfl | (simp [zaq, zap] <;> rfl) | (simp [*, zaq, zap] <;> rfl), by (with_reducible repeat (first | apply Kd.R_alloc | apply Kd.R_drewN | apply Kd.R_drew)); exact HO_3.out, by repeat (first | (with_reducible first | exact HI0.out | apply zaw.alloc | apply zaw.drewN | apply zaw.drew) | exact HI0.out), by repeat (first | (with_reducible first | exact HB.out | apply zac | apply zab | apply zad | refine zak ?_ (zaw.ge HI0.out)) | exact HB.out), by repeat (first | (with_reducible first | exact HK.out | apply zaf.set_ | apply zai | apply zal | apply zaj) | exact HK.out)⟩
end Go.Proofs.Ytickdcegnlldjaa.PB
namespace Go.Proofs.Ytickdcegnlldjaa.PB
open Go.RowKit Go.PW.PrintWords Go.PW.PrintLast Go.PW.PrintMore
attribute [local go_sem] zbx zbv zck zcj zbq zbp zbw zbu   -- for this text's walks alone
def impl_floor_end.f (s0_0 : List (List Int)) (s0_1 : List (S120)) (a1_0 : Bool) (a1_1 : Int) (a1_2 : Int) (a1_3 : Int) : Option (Int) := if a1_0 = true then ((impl_floor_wide.f s0_0 s0_1).bind fun t351 => (some t351)) else ((impl_floor_high.f s0_0 s0_1).bind fun t352 => (some t352))
set_option maxHeartbeats 8000000 in
set_option maxRecDepth 100000 in
theorem impl_floor_end.calls (g : Nat) (s0_0 : List (List Int)) (s0_1 : List (S120)) (a1_0 : Bool) (a1_1 : Int) (a1_2 : Int) (a1_3 : Int) (r : Int) (w0 w : World) (hI : zaw w0 w g s0_0 s0_1) (hB : Below w0.heap.size w0 w) (h : impl_floor_end.f s0_0 s0_1 a1_0 a1_1 a1_2 a1_3 = some r) :
  Calls Try.prog 62 #[.pointer (some ⟨g, 0, none⟩), .agg #[.bool a1_0, .int .i64 a1_1, .int .i64 a1_2, .int .i64 a1_3]] w fun e w' => e = .returned (.int .i64 r) ∧ zaw w0 w' g s0_0 s0_1 ∧ Below w0.heap.size w0 w' ∧ zaf w w' g none := by
 have hu72 := Try.underlying72
 have HI0 := zaa.mk hI
 have HK := zaa.mk (zaf.refl w g none)
 have HL := zaa.mk hB.size
 clear hI
 have HW0 := zaa.mk hB.size
 have HB := zaa.mk hB
 clear hB
 have H : (if a1_0 = true then ((impl_floor_wide.f s0_0 s0_1).bind fun t351 => (some t351)) else ((impl_floor_high.f s0_0 s0_1).bind fun t352 => (some t352))) = some r := h
 clear h
 by_cases c3 : a1_0 = true
 ·subst c3
  have H1 : ((impl_floor_wide.f s0_0 s0_1).bind fun t351 => (some t351)) = some r := by rw [if_pos rfl] at H; exact H
  clear H
  have H := H1
  clear H1
  replace H := Option.bind_eq_some_iff.mp H
  obtain ⟨t351, A40, H⟩ := H
  replace H : (some t351) = some r := H
  have A4 := zaa.mk A40
  clear A40
  obtain rfl := Option.some.inj H
  go_enter Try.func62, Try.ntmps62
  go_wp2_with (first | ((with_reducible refine zba (N := 3) rfl ?_); refine zbz ?hg (N := 3) ?hd (cs := #[.bool true, .int .i64 a1_1, .int .i64 a1_2, .int .i64 a1_3]) (t := 72) ?hr ?_; (case hd => rfl); (case hg => rfl); (case hr => first | (go_simp; done) | (go_simp; rfl)); intro gb350 hg w5 hbox hb; have n0_ := zaa.mk (zaw.below (by repeat (first | (with_reducible first | exact HI0.out | apply zaw.alloc | apply zaw.drewN | apply zaw.drew) | exact HI0.out)) hb); have n1_ := zaa.mk (zaf.trans (by repeat (first | (with_reducible first | exact HK.out | apply zaf.set_ | apply zai | apply zal | apply zaj) | exact HK.out)) (zaf.of_below hb g none) (.inl rfl)); have n2_ := zaa.mk (zah (by repeat (first | (with_reducible first | exact HB.out | apply zac | apply zab | apply zad | refine zak ?_ (zaw.ge HI0.out)) | exact HB.out)) hb); have n3_ := zaa.mk (hbox); have n4_ := zaa.mk ((by rw [hg]; exact (zbg (w := w) (g := g) (row := none) (by repeat (first | (with_reducible first | exact HK.out | apply zaf.set_ | apply zai | apply zal | apply zaj) | exact HK.out))) : w.heap.size ≤ gb350)); have n5_ := zaa.mk ((Nat.le_trans HW0.out (by rw [hg]; exact (zbg (w := w) (g := g) (row := none) (by repeat (first | (with_reducible first | exact HK.out | apply zaf.set_ | apply zai | apply zal | apply zaj) | exact HK.out))) : w.heap.size ≤ gb350) : w0.heap.size ≤ gb350)); have n6_ := zaa.mk ((by rw [hg]; exact Nat.ne_of_lt (zaw.lt (show zaw w0 _ g s0_0 s0_1 from by repeat (first | (with_reducible first | exact HI0.out | apply zaw.alloc | apply zaw.drewN | apply zaw.drew) | exact HI0.out))) : g ≠ gb350)); have n7_ := zaa.mk ((by rw [hg]; exact Nat.ne_of_gt (zaw.lt (show zaw w0 _ g s0_0 s0_1 from by repeat (first | (with_reducible first | exact HI0.out | apply zaw.alloc | apply zaw.drewN | apply zaw.drew) | exact HI0.out))) : gb350 ≠ g)); clear HI0; clear HK; clear HB; have HI0 := n0_; have HK := n1_; have HB := n2_; have BK350 := n3_; have GW350 := n4_; have GE350 := n5_; have NB0_350 := n6_; have NB350_0 := n7_; clear n0_ n1_ n2_ n3_ n4_ n5_ n6_ n7_; clear hb hbox hg; have hnb6 := NB350_0.out; have hnc6 := NB0_350.out; have hcz7_0 : w5.cell? ⟨gb350, 0, none⟩ = some (.bool true) := (zau BK350.out 0).trans rfl; have hcz7_1 : w5.cell? ⟨gb350, 1, none⟩ = some (.int .i64 a1_1) := (zau BK350.out 1).trans rfl; have hcz7_2 : w5.cell? ⟨gb350, 2, none⟩ = some (.int .i64 a1_2) := (zau BK350.out 2).trans rfl; have hcz7_3 : w5.cell? ⟨gb350, 3, none⟩ = some (.int .i64 a1_3) := (zau BK350.out 3).trans rfl; have hfz7_0 := zax BK350.out 0; have hfz7_1 := zax BK350.out 1; have hfz7_2 := zax BK350.out 2; have hfz7_3 := zax BK350.out 3) | ((with_reducible refine zas (f := 51) rfl ?_); refine zbk (some 8) rfl rfl Try.func51 (by kernel_rfl) rfl #[.pointer (some ⟨g, 0, none⟩)] rfl (by (try simp only [List.map_toArray, List.map_cons, List.map_nil]); first | done | rfl | (simp only [List.length_drop, List.length_take]; rfl)) ?_; (with_reducible refine (impl_floor_wide.calls g s0_0 s0_1 t351 w0 _ ?side1 ?side2 A4.out).mono ?_); (case side1 => repeat (first | (with_reducible first | exact HI0.out | apply zaw.alloc | apply zaw.drewN | apply zaw.drew | refine zaw.far ?_ NB0_350.out _) | exact HI0.out)); (case side2 => repeat (first | (with_reducible first | exact HB.out | apply zac | apply zab | apply zad | refine zak ?_ (zaw.ge HI0.out) | refine zak ?_ GE350.out) | exact HB.out)); rintro e w8 ⟨rfl, hi, hb, hk⟩; refine ⟨_, rfl, ?_⟩; have n0_ := zaa.mk (zaf.blk hk (g' := gb350) (o := .cells #[.bool true, .int .i64 a1_1, .int .i64 a1_2, .int .i64 a1_3] 72 (0, 0)) (by (with_reducible repeat (first | refine zbh ?_ _ | refine zbm ?_ | refine zbi ?_ _)); exact BK350.out) NB350_0.out (by simp)); have n1_ := zaa.mk (zaf.trans (by repeat (first | (with_reducible first | exact HK.out | apply zaf.set_ | apply zai | apply zal | apply zaj | refine keep_far ?_ GW350.out _) | exact HK.out)) hk (.inl rfl)); have n2_ := zaa.mk (hb); have n3_ := zaa.mk (hi); clear BK350; clear HK; clear HB; clear HI0; have BK350 := n0_; have HK := n1_; have HB := n2_; have HI0 := n3_; clear n0_ n1_ n2_ n3_; (try clear hb); (try clear hb2); (try clear hk); (try clear hi)))
  go_ret
  exact ⟨by first | rfl | (simp [zaq, zap] <;> rfl) | (simp [*, zaq, zap] <;> rfl), by repeat (first | (with_reducible first | exact HI0.out | apply zaw.alloc | apply zaw.drewN | apply zaw.drew | refine zaw.far ?_ NB0_350.out _) | exact HI0.out), by repeat (first | (with_reducible first | exact HB.out | apply zac | apply zab | apply zad | refine zak ?_ (zaw.ge HI0.out) | refine zak ?_ GE350.out) | exact HB.out), by repeat (first | (with_reducible first | exact HK.out | apply zaf.set_ | apply zai | apply zal | apply zaj | refine keep_far ?_ GW350.out _) | exact HK.out)⟩
 ·replace c3 := Bool.eq_false_iff.mpr c3
  subst c3
  have H1 : ((impl_floor_high.f s0_0 s0_1).bind fun t352 => (some t352)) = some r := by rw [if_neg (show ¬ (false = true) by decide)] at H; exact H
  clear H
  have H := H1
  clear H1
  replace H := Option.bind_eq_some_iff.mp H
  obtain ⟨t352, A90, H⟩ := H
  replace H : (some t352) = some r := H
  have A9 := zaa.mk A90
  clear A90
  obtain rfl := Option.some.inj H
  go_enter Try.func62, Try.ntmps62
  go_wp2_with (first | ((with_reducible refine zba (N := 3) rfl ?_); refine zbz ?hg (N := 3) ?hd (cs := #[.bool false, .int .i64 a1_1, .int .i64 a1_2, .int .i64 a1_3]) (t := 72) ?hr ?_; (case hd => rfl); (case hg => rfl); (case hr => first | (go_simp; done) | (go_simp; rfl)); intro gb350 hg w10 hbox hb; have n0_ := zaa.mk (zaw.below (by repeat (first | (with_reducible first | exact HI0.out | apply zaw.alloc | apply zaw.drewN | apply zaw.drew) | exact HI0.out)) hb); have n1_ := zaa.mk (zaf.trans (by repeat (first | (with_reducible first | exact HK.out | apply zaf.set_ | apply zai | apply zal | apply zaj) | exact HK.out)) (zaf.of_below hb g none) (.inl rfl)); have n2_ := zaa.mk (zah (by repeat (first | (with_reducible first | exact HB.out | apply zac | apply zab | apply zad | refine zak ?_ (zaw.ge HI0.out)) | exact HB.out)) hb); have n3_ := zaa.mk (hbox); have n4_ := zaa.mk ((by rw [hg]; exact (zbg (w := w) (g := g) (row := none) (by repeat (first | (with_reducible first | exact HK.out | apply zaf.set_ | apply zai | apply zal | apply zaj) | exact HK.out))) : w.heap.size ≤ gb350)); have n5_ := zaa.mk ((Nat.le_trans HW0.out (by rw [hg]; exact (zbg (w := w) (g := g) (row := none) (by repeat (first | (with_reducible first | exact HK.out | apply zaf.set_ | apply zai | apply zal | apply zaj) | exact HK.out))) : w.heap.size ≤ gb350) : w0.heap.size ≤ gb350)); have n6_ := zaa.mk ((by rw [hg]; exact Nat.ne_of_lt (zaw.lt (show zaw w0 _ g s0_0 s0_1 from by repeat (first | (with_reducible first | exact HI0.out | apply zaw.alloc | apply zaw.drewN | apply zaw.drew) | exact HI0.out))) : g ≠ gb350)); have n7_ := zaa.mk ((by rw [hg]; exact Nat.ne_of_gt (zaw.lt (show zaw w0 _ g s0_0 s0_1 from by repeat (first | (with_reducible first | exact HI0.out | apply zaw.alloc | apply zaw.drewN | apply zaw.drew) | exact HI0.out))) : gb350 ≠ g)); clear HI0; clear HK; clear HB; have HI0 := n0_; have HK := n1_; have HB := n2_; have BK350 := n3_; have GW350 := n4_; have GE350 := n5_; have NB0_350 := n6_; have NB350_0 := n7_; clear n0_ n1_ n2_ n3_ n4_ n5_ n6_ n7_; clear hb hbox hg; have hnb11 := NB350_0.out; have hnc11 := NB0_350.out; have hcz12_0 : w10.cell? ⟨gb350, 0, none⟩ = some (.bool false) := (zau BK350.out 0).trans rfl; have hcz12_1 : w10.cell? ⟨gb350, 1, none⟩ = some (.int .i64 a1_1) := (zau BK350.out 1).trans rfl; have hcz12_2 : w10.cell? ⟨gb350, 2, none⟩ = some (.int .i64 a1_2) := (zau BK350.out 2).trans rfl; have hcz12_3 : w10.cell? ⟨gb350, 3, none⟩ = some (.int .i64 a1_3) := (zau BK350.out 3).trans rfl; have hfz12_0 := zax BK350.out 0; have hfz12_1 := zax BK350.out 1; have hfz12_2 := zax BK350.out 2; have hfz12_3 := zax BK350.out 3) | ((with_reducible refine zas (f := 52) rfl ?_); refine zbk (some 10) rfl rfl Try.func52 (by kernel_rfl) rfl #[.pointer (some ⟨g, 0, none⟩)] rfl (by (try simp only [List.map_toArray, List.map_cons, List.map_nil]); first | done | rfl | (simp only [List.length_drop, List.length_take]; rfl)) ?_; (with_reducible refine (impl_floor_high.calls g s0_0 s0_1 t352 w0 _ ?side1 ?side2 A9.out).mono ?_); (case side1 => repeat (first | (with_reducible first | exact HI0.out | apply zaw.alloc | apply zaw.drewN | apply zaw.drew | refine zaw.far ?_ NB0_350.out _) | exact HI0.out)); (case side2 => repeat (first | (with_reducible first | exact HB.out | apply zac | apply zab | apply zad | refine zak ?_ (zaw.ge HI0.out) | refine zak ?_ GE350.out) | exact HB.out)); rintro e w13 ⟨rfl, hi, hb, hk⟩; refine ⟨_, rfl, ?_⟩; have n0_ := zaa.mk (zaf.blk hk (g' := gb350) (o := .cells #[.bool false, .int .i64 a1_1, .int .i64 a1_2, .int .i64 a1_3] 72 (0, 0)) (by (with_reducible repeat (first | refine zbh ?_ _ | refine zbm ?_ | refine zbi ?_ _)); exact BK350.out) NB350_0.out (by simp)); have n1_ := zaa.mk (zaf.trans (by repeat (first | (with_reducible first | exact HK.out | apply zaf.set_ | apply zai | apply zal | apply zaj | refine keep_far ?_ GW350.out _) | exact HK.out)) hk (.inl rfl)); have n2_ := zaa.mk (hb); have n3_ := zaa.mk (hi); clear BK350; clear HK; clear HB; clear HI0; have BK350 := n0_; have HK := n1_; have HB := n2_; have HI0 := n3_; clear n0_ n1_ n2_ n3_; (try clear hb); (try clear hb2); (try clear hk); (try clear hi)))
  go_ret
  exact ⟨by first | rfl | (simp [zaq, zap] <;> rfl) | (simp [*, zaq, zap] <;> rfl), by repeat (first | (with_reducible first | exact HI0.out | apply zaw.alloc | apply zaw.drewN | apply zaw.drew | refine zaw.far ?_ NB0_350.out _) | exact HI0.out), by repeat (first | (with_reducible first | exact HB.out | apply zac | apply zab | apply zad | refine zak ?_ (zaw.ge HI0.out) | refine zak ?_ GE350.out) | exact HB.out), by repeat (first | (with_reducible first | exact HK.out | apply zaf.set_ | apply zai | apply zal | apply zaj | refine keep_far ?_ GW350.out _) | exact HK.out)⟩
end Go.Proofs.Ytickdcegnlldjaa.PB
namespace Go.Proofs.Ytickdcegnlldjaa.PB
open Go.RowKit Go.PW.PrintWords Go.PW.PrintLast Go.PW.PrintMore
attribute [local go_sem] zbx zbv zck zcj zbq zbp zbw zbu   -- for this text's walks alone
def spec_l2Ends.l0 : Nat → List (List Int) → Int → Int → Int → Option (Int)
 | 0, _, _, _, _ => none
 | k + 1, x0, x1, x5, x6 => if x6 < (x0.length : Int) then (if 0 ≤ x6 then (if 1 < ((zbf x0 x6).length : Int) then (if (rd (zbf x0 x6) 1) = 0 then (if 2 < ((zbf x0 x6).length : Int) then (if (wrap64 ((rd (zbf x0 x6) 1) + (rd (zbf x0 x6) 2))) = x1 then (spec_l2Ends.l0 k x0 x1 (wrap64 ((wrap64 (x5 + 1)) + 1)) (wrap64 (x6 + 1))) else (spec_l2Ends.l0 k x0 x1 (wrap64 (x5 + 1)) (wrap64 (x6 + 1)))) else (none)) else (if 2 < ((zbf x0 x6).length : Int) then (if (wrap64 ((rd (zbf x0 x6) 1) + (rd (zbf x0 x6) 2))) = x1 then (spec_l2Ends.l0 k x0 x1 (wrap64 (x5 + 1)) (wrap64 (x6 + 1))) else (spec_l2Ends.l0 k x0 x1 x5 (wrap64 (x6 + 1)))) else (none))) else (none)) else (none)) else (some x5)
def spec_l2Ends.f (k : Nat) (l0 : List (List Int)) (a1 : Int) : Option (Int) := spec_l2Ends.l0 k l0 a1 0 0
set_option maxHeartbeats 8000000 in
set_option maxRecDepth 100000 in
theorem spec_l2Ends.calls (k : Nat) (A0 : Option Addr) (c0 : Nat) (l0 : List (List Int)) (a1 : Int) (r : Int) (w : World) (hr0 : Kd.C (Kd.slice 3 (Kd.int .i64)) w A0 l0.length l0) (hc0 : l0.length ≤ c0) (h : spec_l2Ends.f k l0 a1 = some r) :
  Calls Try.prog 63 #[.slice A0 l0.length c0, .int .i64 a1] w fun e w' => e = .returned (.int .i64 r) ∧ zbc w w' := by
 have HR0 := zaa.mk hr0
 have HC0 := zaa.mk hc0
 clear hr0 hc0
 have H : (spec_l2Ends.l0 k l0 a1 0 0) = some r := h
 clear h
 have H' := zaa.mk H
 clear H
 go_enter Try.func63, Try.ntmps63
 go_wp2
 repeat (go_quiet (fail); try go_wp2)
 go_loopg [5, 6] k (fun kq v5 v6 w' => ∃ (x5_1 : Int) (x6_1 : Int), v5 = .int .i64 x5_1 ∧ v6 = .int .i64 x6_1 ∧ zaa (spec_l2Ends.l0 kq l0 a1 x5_1 x6_1 = some r) ∧ zaa (kq ≤ k) ∧ zbc w w')
 case atStart => exact ⟨(0), (0), (by first | rfl | (simp; done) | (simp [*]; done)), (by first | rfl | (simp; done) | (simp [*]; done)), H', ⟨Nat.le_refl _⟩, by repeat (first | exact zbc.refl _ | apply zbc.step)⟩
 case round =>
  clear H'
  try clear p2
  obtain ⟨x5_1, x6_1, rfl, rfl, HA, HK1, ⟨m1, rfl⟩⟩ := hrel
  cases gk with
  | zero => exact absurd HA.out (by simp [spec_l2Ends.l0])
  | succ k1 =>
   have H := HA.out
   clear HA
   simp only [spec_l2Ends.l0] at H
   by_cases c3 : x6_1 < (l0.length : Int)
   ·rw [if_pos c3] at H
    have c3b0 : decide (x6_1 < (l0.length : Int)) = true := decide_eq_true c3
    clear c3
    by_cases c4 : 0 ≤ x6_1
    ·rw [if_pos c4] at H
     have c4b0 : decide (0 ≤ x6_1) = true := decide_eq_true c4
     clear c4
     by_cases c5 : 1 < ((zbf l0 x6_1).length : Int)
     ·rw [if_pos c5] at H
      have c5b0 : decide (1 < ((zbf l0 x6_1).length : Int)) = true := decide_eq_true c5
      have c5b1 : decide (1 < (zbf l0 x6_1).length) = true := decide_eq_true (by omega)
      clear c5
      by_cases c6 : (rd (zbf l0 x6_1) 1) = 0
      ·rw [if_pos c6] at H
       have c6b0 : ((rd (zbf l0 x6_1) 1) == 0) = true := beq_iff_eq.mpr c6
       have c6b1 : ((rd (zbf l0 x6_1) 1) != 0) = false := bne_eq_false_iff_eq.mpr c6
       clear c6
       by_cases c7 : 2 < ((zbf l0 x6_1).length : Int)
       ·rw [if_pos c7] at H
        have c7b0 : decide (2 < ((zbf l0 x6_1).length : Int)) = true := decide_eq_true c7
        have c7b1 : decide (2 < (zbf l0 x6_1).length) = true := decide_eq_true (by omega)
        clear c7
        by_cases c8 : (wrap64 ((rd (zbf l0 x6_1) 1) + (rd (zbf l0 x6_1) 2))) = a1
        ·rw [if_pos c8] at H
         have c8b0 : ((wrap64 ((rd (zbf l0 x6_1) 1) + (rd (zbf l0 x6_1) 2))) == a1) = true := beq_iff_eq.mpr c8
         have c8b1 : ((wrap64 ((rd (zbf l0 x6_1) 1) + (rd (zbf l0 x6_1) 2))) != a1) = false := bne_eq_false_iff_eq.mpr c8
         clear c8
         have H' := zaa.mk H
         clear H
         have p353 : 0 ≤ (x6_1 : Int) := of_decide_eq_true (by first | (with_reducible assumption) | assumption)
         have q353 : x6_1 < (l0.length : Int) := of_decide_eq_true (by first | (with_reducible assumption) | assumption)
         obtain ⟨ad353, A353_0, c353_0, e353, hx353_0, hl353_0, hi353_0⟩ := at_L3 HR0.out x6_1 p353 q353
         cases e353
         have HR353_0 := zaa.mk hi353_0
         have HC353_0 := zaa.mk hl353_0
         clear hi353_0 hl353_0
         replace p353 := eq_true p353
         replace q353 := eq_true q353
         have p354 : 0 ≤ (1 : Int) := (by omega)
         have q354 : 1 < ((zbf l0 x6_1).length : Int) := of_decide_eq_true (by first | (with_reducible assumption) | assumption)
         obtain ⟨ad354, e354, hx354_0⟩ := Kd.at_int HR353_0.out 1 p354 q354
         cases e354
         (try simp only [show (1 : Int).toNat = 1 from rfl, Nat.reduceMul, Nat.reduceEqDiff, Go.Addr.add, ↓reduceIte] at hx354_0)
         have qi354 : (1 < (zbf l0 x6_1).length) = True := eq_true (by omega)
         (try rw [show ((1 : Int)).toNat = 1 from rfl] at hx354_0)
         replace p354 := eq_true p354
         replace q354 := eq_true q354
         have p355 : 0 ≤ (x6_1 : Int) := of_decide_eq_true (by first | (with_reducible assumption) | assumption)
         have q355 : x6_1 < (l0.length : Int) := of_decide_eq_true (by first | (with_reducible assumption) | assumption)
         obtain ⟨ad355, A355_0, c355_0, e355, hx355_0, hl355_0, hi355_0⟩ := at_L3 HR0.out x6_1 p355 q355
         obtain rfl : ad353 = ad355 := (by injection e355)
         have HR355_0 := zaa.mk hi355_0
         have HC355_0 := zaa.mk hl355_0
         clear hi355_0 hl355_0
         replace p355 := eq_true p355
         replace q355 := eq_true q355
         have ea_ := Option.some.inj (hx353_0.symm.trans hx355_0)
         injection ea_ with ea_ en_ ec_
         subst ea_
         subst ec_
         clear en_
         have p356 : 0 ≤ (1 : Int) := (by omega)
         have q356 : 1 < ((zbf l0 x6_1).length : Int) := of_decide_eq_true (by first | (with_reducible assumption) | assumption)
         obtain ⟨ad356, e356, hx356_0⟩ := Kd.at_int HR355_0.out 1 p356 q356
         cases e356
         (try simp only [show (1 : Int).toNat = 1 from rfl, Nat.reduceMul, Nat.reduceEqDiff, Go.Addr.add, ↓reduceIte] at hx356_0)
         have qi356 : (1 < (zbf l0 x6_1).length) = True := eq_true (by omega)
         (try rw [show ((1 : Int)).toNat = 1 from rfl] at hx356_0)
         replace p356 := eq_true p356
         replace q356 := eq_true q356
         have p357 : 0 ≤ (x6_1 : Int) := of_decide_eq_true (by first | (with_reducible assumption) | assumption)
         have q357 : x6_1 < (l0.length : Int) := of_decide_eq_true (by first | (with_reducible assumption) | assumption)
         obtain ⟨ad357, A357_0, c357_0, e357, hx357_0, hl357_0, hi357_0⟩ := at_L3 HR0.out x6_1 p357 q357
         obtain rfl : ad353 = ad357 := (by injection e357)
         have HR357_0 := zaa.mk hi357_0
         have HC357_0 := zaa.mk hl357_0
         clear hi357_0 hl357_0
         replace p357 := eq_true p357
         replace q357 := eq_true q357
         have ea_ := Option.some.inj (hx353_0.symm.trans hx357_0)
         injection ea_ with ea_ en_ ec_
         subst ea_
         subst ec_
         clear en_
         have p358 : 0 ≤ (2 : Int) := (by omega)
         have q358 : 2 < ((zbf l0 x6_1).length : Int) := of_decide_eq_true (by first | (with_reducible assumption) | assumption)
         obtain ⟨ad358, e358, hx358_0⟩ := Kd.at_int HR357_0.out 2 p358 q358
         cases e358
         (try simp only [show (2 : Int).toNat = 2 from rfl, Nat.reduceMul, Nat.reduceEqDiff, Go.Addr.add, ↓reduceIte] at hx358_0)
         have qi358 : (2 < (zbf l0 x6_1).length) = True := eq_true (by omega)
         (try rw [show ((2 : Int)).toNat = 2 from rfl] at hx358_0)
         replace p358 := eq_true p358
         replace q358 := eq_true q358
         go_wp2
         repeat (go_quiet (fail); try go_wp2)
         go_roundg k1
         case measure => have := HK1.out; omega
         case rel => exact ⟨(wrap64 ((wrap64 (x5_1 + 1)) + 1)), (wrap64 (x6_1 + 1)), (by first | rfl | (simp; done) | (simp [*]; done)), (by first | rfl | (simp; done) | (simp [*]; done)), H', ⟨by have := HK1.out; omega⟩, by repeat (first | exact zbc.refl _ | apply zbc.step)⟩
        ·rw [if_neg c8] at H
         have c8b0 : ((wrap64 ((rd (zbf l0 x6_1) 1) + (rd (zbf l0 x6_1) 2))) == a1) = false := beq_eq_false_iff_ne.mpr c8
         have c8b1 : ((wrap64 ((rd (zbf l0 x6_1) 1) + (rd (zbf l0 x6_1) 2))) != a1) = true := bne_iff_ne.mpr c8
         have H' := zaa.mk H
         clear H
         have p353 : 0 ≤ (x6_1 : Int) := of_decide_eq_true (by first | (with_reducible assumption) | assumption)
         have q353 : x6_1 < (l0.length : Int) := of_decide_eq_true (by first | (with_reducible assumption) | assumption)
         obtain ⟨ad353, A353_0, c353_0, e353, hx353_0, hl353_0, hi353_0⟩ := at_L3 HR0.out x6_1 p353 q353
         cases e353
         have HR353_0 := zaa.mk hi353_0
         have HC353_0 := zaa.mk hl353_0
         clear hi353_0 hl353_0
         replace p353 := eq_true p353
         replace q353 := eq_true q353
         have p354 : 0 ≤ (1 : Int) := (by omega)
         have q354 : 1 < ((zbf l0 x6_1).length : Int) := of_decide_eq_true (by first | (with_reducible assumption) | assumption)
         obtain ⟨ad354, e354, hx354_0⟩ := Kd.at_int HR353_0.out 1 p354 q354
         cases e354
         (try simp only [show (1 : Int).toNat = 1 from rfl, Nat.reduceMul, Nat.reduceEqDiff, Go.Addr.add, ↓reduceIte] at hx354_0)
         have qi354 : (1 < (zbf l0 x6_1).length) = True := eq_true (by omega)
         (try rw [show ((1 : Int)).toNat = 1 from rfl] at hx354_0)
         replace p354 := eq_true p354
         replace q354 := eq_true q354
         have p355 : 0 ≤ (x6_1 : Int) := of_decide_eq_true (by first | (with_reducible assumption) | assumption)
         have q355 : x6_1 < (l0.length : Int) := of_decide_eq_true (by first | (with_reducible assumption) | assumption)
         obtain ⟨ad355, A355_0, c355_0, e355, hx355_0, hl355_0, hi355_0⟩ := at_L3 HR0.out x6_1 p355 q355
         obtain rfl : ad353 = ad355 := (by injection e355)
         have HR355_0 := zaa.mk hi355_0
         have HC355_0 := zaa.mk hl355_0
         clear hi355_0 hl355_0
         replace p355 := eq_true p355
         replace q355 := eq_true q355
         have ea_ := Option.some.inj (hx353_0.symm.trans hx355_0)
         injection ea_ with ea_ en_ ec_
         subst ea_
         subst ec_
         clear en_
         have p356 : 0 ≤ (1 : Int) := (by omega)
         have q356 : 1 < ((zbf l0 x6_1).length : Int) := of_decide_eq_true (by first | (with_reducible assumption) | assumption)
         obtain ⟨ad356, e356, hx356_0⟩ := Kd.at_int HR355_0.out 1 p356 q356
         cases e356
         (try simp only [show (1 : Int).toNat = 1 from rfl, Nat.reduceMul, Nat.reduceEqDiff, Go.Addr.add, ↓reduceIte] at hx356_0)
         have qi356 : (1 < (zbf l0 x6_1).length) = True := eq_true (by omega)
         (try rw [show ((1 : Int)).toNat = 1 from rfl] at hx356_0)
         replace p356 := eq_true p356
         replace q356 := eq_true q356
         have p357 : 0 ≤ (x6_1 : Int) := of_decide_eq_true (by first | (with_reducible assumption) | assumption)
         have q357 : x6_1 < (l0.length : Int) := of_decide_eq_true (by first | (with_reducible assumption) | assumption)
         obtain ⟨ad357, A357_0, c357_0, e357, hx357_0, hl357_0, hi357_0⟩ := at_L3 HR0.out x6_1 p357 q357
         obtain rfl : ad353 = ad357 := (by injection e357)
         have HR357_0 := zaa.mk hi357_0
         have HC357_0 := zaa.mk hl357_0
         clear hi357_0 hl357_0
         replace p357 := eq_true p357
         replace q357 := eq_true q357
         have ea_ := Option.some.inj (hx353_0.symm.trans hx357_0)
         injection ea_ with ea_ en_ ec_
         subst ea_
         subst ec_
         clear en_
         have p358 : 0 ≤ (2 : Int) := (by omega)
         have q358 : 2 < ((zbf l0 x6_1).length : Int) := of_decide_eq_true (by first | (with_reducible assumption) | assumption)
         obtain ⟨ad358, e358, hx358_0⟩ := Kd.at_int HR357_0.out 2 p358 q358
         cases e358
         (try simp only [show (2 : Int).toNat = 2 from rfl, Nat.reduceMul, Nat.reduceEqDiff, Go.Addr.add, ↓reduceIte] at hx358_0)
         have qi358 : (2 < (zbf l0 x6_1).length) = True := eq_true (by omega)
         (try rw [show ((2 : Int)).toNat = 2 from rfl] at hx358_0)
         replace p358 := eq_true p358
         replace q358 := eq_true q358
         go_wp2
         repeat (go_quiet (fail); try go_wp2)
         go_roundg k1
         case measure => have := HK1.out; omega
         case rel => exact ⟨(wrap64 (x5_1 + 1)), (wrap64 (x6_1 + 1)), (by first | rfl | (simp; done) | (simp [*]; done)), (by first | rfl | (simp; done) | (simp [*]; done)), H', ⟨by have := HK1.out; omega⟩, by repeat (first | exact zbc.refl _ | apply zbc.step)⟩
       ·rw [if_neg c7] at H
        exact absurd H (by simp)
      ·rw [if_neg c6] at H
       have c6b0 : ((rd (zbf l0 x6_1) 1) == 0) = false := beq_eq_false_iff_ne.mpr c6
       have c6b1 : ((rd (zbf l0 x6_1) 1) != 0) = true := bne_iff_ne.mpr c6
       by_cases c9 : 2 < ((zbf l0 x6_1).length : Int)
       ·rw [if_pos c9] at H
        have c9b0 : decide (2 < ((zbf l0 x6_1).length : Int)) = true := decide_eq_true c9
        have c9b1 : decide (2 < (zbf l0 x6_1).length) = true := decide_eq_true (by omega)
        clear c9
        by_cases c10 : (wrap64 ((rd (zbf l0 x6_1) 1) + (rd (zbf l0 x6_1) 2))) = a1
        ·rw [if_pos c10] at H
         have c10b0 : ((wrap64 ((rd (zbf l0 x6_1) 1) + (rd (zbf l0 x6_1) 2))) == a1) = true := beq_iff_eq.mpr c10
         have c10b1 : ((wrap64 ((rd (zbf l0 x6_1) 1) + (rd (zbf l0 x6_1) 2))) != a1) = false := bne_eq_false_iff_eq.mpr c10
         clear c10
         have H' := zaa.mk H
         clear H
         have p353 : 0 ≤ (x6_1 : Int) := of_decide_eq_true (by first | (with_reducible assumption) | assumption)
         have q353 : x6_1 < (l0.length : Int) := of_decide_eq_true (by first | (with_reducible assumption) | assumption)
         obtain ⟨ad353, A353_0, c353_0, e353, hx353_0, hl353_0, hi353_0⟩ := at_L3 HR0.out x6_1 p353 q353
         cases e353
         have HR353_0 := zaa.mk hi353_0
         have HC353_0 := zaa.mk hl353_0
         clear hi353_0 hl353_0
         replace p353 := eq_true p353
         replace q353 := eq_true q353
         have p354 : 0 ≤ (1 : Int) := (by omega)
         have q354 : 1 < ((zbf l0 x6_1).length : Int) := of_decide_eq_true (by first | (with_reducible assumption) | assumption)
         obtain ⟨ad354, e354, hx354_0⟩ := Kd.at_int HR353_0.out 1 p354 q354
         cases e354
         (try simp only [show (1 : Int).toNat = 1 from rfl, Nat.reduceMul, Nat.reduceEqDiff, Go.Addr.add, ↓reduceIte] at hx354_0)
         have qi354 : (1 < (zbf l0 x6_1).length) = True := eq_true (by omega)
         (try rw [show ((1 : Int)).toNat = 1 from rfl] at hx354_0)
         replace p354 := eq_true p354
         replace q354 := eq_true q354
         have p359 : 0 ≤ (x6_1 : Int) := of_decide_eq_true (by first | (with_reducible assumption) | assumption)
         have q359 : x6_1 < (l0.length : Int) := of_decide_eq_true (by first | (with_reducible assumption) | assumption)
         obtain ⟨ad359, A359_0, c359_0, e359, hx359_0, hl359_0, hi359_0⟩ := at_L3 HR0.out x6_1 p359 q359
         obtain rfl : ad353 = ad359 := (by injection e359)
         have HR359_0 := zaa.mk hi359_0
         have HC359_0 := zaa.mk hl359_0
         clear hi359_0 hl359_0
         replace p359 := eq_true p359
         replace q359 := eq_true q359
         have ea_ := Option.some.inj (hx353_0.symm.trans hx359_0)
         injection ea_ with ea_ en_ ec_
         subst ea_
         subst ec_
         clear en_
         have p360 : 0 ≤ (1 : Int) := (by omega)
         have q360 : 1 < ((zbf l0 x6_1).length : Int) := of_decide_eq_true (by first | (with_reducible assumption) | assumption)
         obtain ⟨ad360, e360, hx360_0⟩ := Kd.at_int HR359_0.out 1 p360 q360
         cases e360
         (try simp only [show (1 : Int).toNat = 1 from rfl, Nat.reduceMul, Nat.reduceEqDiff, Go.Addr.add, ↓reduceIte] at hx360_0)
         have qi360 : (1 < (zbf l0 x6_1).length) = True := eq_true (by omega)
         (try rw [show ((1 : Int)).toNat = 1 from rfl] at hx360_0)
         replace p360 := eq_true p360
         replace q360 := eq_true q360
         have p361 : 0 ≤ (x6_1 : Int) := of_decide_eq_true (by first | (with_reducible assumption) | assumption)
         have q361 : x6_1 < (l0.length : Int) := of_decide_eq_true (by first | (with_reducible assumption) | assumption)
         obtain ⟨ad361, A361_0, c361_0, e361, hx361_0, hl361_0, hi361_0⟩ := at_L3 HR0.out x6_1 p361 q361
         obtain rfl : ad353 = ad361 := (by injection e361)
         have HR361_0 := zaa.mk hi361_0
         have HC361_0 := zaa.mk hl361_0
         clear hi361_0 hl361_0
         replace p361 := eq_true p361
         replace q361 := eq_true q361
         have ea_ := Option.some.inj (hx353_0.symm.trans hx361_0)
         injection ea_ with ea_ en_ ec_
         subst ea_
         subst ec_
         clear en_
         have p362 : 0 ≤ (2 : Int) := (by omega)
         have q362 : 2 < ((zbf l0 x6_1).length : Int) := of_decide_eq_true (by first | (with_reducible assumption) | assumption)
         obtain ⟨ad362, e362, hx362_0⟩ := Kd.at_int HR361_0.out 2 p362 q362
         cases e362
         (try simp only [show (2 : Int).toNat = 2 from rfl, Nat.reduceMul, Nat.reduceEqDiff, Go.Addr.add, ↓reduceIte] at hx362_0)
         have qi362 : (2 < (zbf l0 x6_1).length) = True := eq_true (by omega)
         (try rw [show ((2 : Int)).toNat = 2 from rfl] at hx362_0)
         replace p362 := eq_true p362
         replace q362 := eq_true q362
         go_wp2
         repeat (go_quiet (fail); try go_wp2)
         go_roundg k1
         case measure => have := HK1.out; omega
         case rel => exact ⟨(wrap64 (x5_1 + 1)), (wrap64 (x6_1 + 1)), (by first | rfl | (simp; done) | (simp [*]; done)), (by first | rfl | (simp; done) | (simp [*]; done)), H', ⟨by have := HK1.out; omega⟩, by repeat (first | exact zbc.refl _ | apply zbc.step)⟩
        ·rw [if_neg c10] at H
         have c10b0 : ((wrap64 ((rd (zbf l0 x6_1) 1) + (rd (zbf l0 x6_1) 2))) == a1) = false := beq_eq_false_iff_ne.mpr c10
         have c10b1 : ((wrap64 ((rd (zbf l0 x6_1) 1) + (rd (zbf l0 x6_1) 2))) != a1) = true := bne_iff_ne.mpr c10
         have H' := zaa.mk H
         clear H
         have p353 : 0 ≤ (x6_1 : Int) := of_decide_eq_true (by first | (with_reducible assumption) | assumption)
         have q353 : x6_1 < (l0.length : Int) := of_decide_eq_true (by first | (with_reducible assumption) | assumption)
         obtain ⟨ad353, A353_0, c353_0, e353, hx353_0, hl353_0, hi353_0⟩ := at_L3 HR0.out x6_1 p353 q353
         cases e353
         have HR353_0 := zaa.mk hi353_0
         have HC353_0 := zaa.mk hl353_0
         clear hi353_0 hl353_0
         replace p353 := eq_true p353
         replace q353 := eq_true q353
         have p354 : 0 ≤ (1 : Int) := (by omega)
         have q354 : 1 < ((zbf l0 x6_1).length : Int) := of_decide_eq_true (by first | (with_reducible assumption) | assumption)
         obtain ⟨ad354, e354, hx354_0⟩ := Kd.at_int HR353_0.out 1 p354 q354
         cases e354
         (try simp only [show (1 : Int).toNat = 1 from rfl, Nat.reduceMul, Nat.reduceEqDiff, Go.Addr.add, ↓reduceIte] at hx354_0)
         have qi354 : (1 < (zbf l0 x6_1).length) = True := eq_true (by omega)
         (try rw [show ((1 : Int)).toNat = 1 from rfl] at hx354_0)
         replace p354 := eq_true p354
         replace q354 := eq_true q354
         have p359 : 0 ≤ (x6_1 : Int) := of_decide_eq_true (by first | (with_reducible assumption) | assumption)
         have q359 : x6_1 < (l0.length : Int) := of_decide_eq_true (by first | (with_reducible assumption) | assumption)
         obtain ⟨ad359, A359_0, c359_0, e359, hx359_0, hl359_0, hi359_0⟩ := at_L3 HR0.out x6_1 p359 q359
         obtain rfl : ad353 = ad359 := (by injection e359)
         have HR359_0 := zaa.mk hi359_0
         have HC359_0 := zaa.mk hl359_0
         clear hi359_0 hl359_0
         replace p359 := eq_true p359
         replace q359 := eq_true q359
         have ea_ := Option.some.inj (hx353_0.symm.trans hx359_0)
         injection ea_ with ea_ en_ ec_
         subst ea_
         subst ec_
         clear en_
         have p360 : 0 ≤ (1 : Int) := (by omega)
         have q360 : 1 < ((zbf l0 x6_1).length : Int) := of_decide_eq_true (by first | (with_reducible assumption) | assumption)
         obtain ⟨ad360, e360, hx360_0⟩ := Kd.at_int HR359_0.out 1 p360 q360
         cases e360
         (try simp only [show (1 : Int).toNat = 1 from rfl, Nat.reduceMul, Nat.reduceEqDiff, Go.Addr.add, ↓reduceIte] at hx360_0)
         have qi360 : (1 < (zbf l0 x6_1).length) = True := eq_true (by omega)
         (try rw [show ((1 : Int)).toNat = 1 from rfl] at hx360_0)
         replace p360 := eq_true p360
         replace q360 := eq_true q360
         have p361 : 0 ≤ (x6_1 : Int) := of_decide_eq_true (by first | (with_reducible assumption) | assumption)
         have q361 : x6_1 < (l0.length : Int) := of_decide_eq_true (by first | (with_reducible assumption) | assumption)
         obtain ⟨ad361, A361_0, c361_0, e361, hx361_0, hl361_0, hi361_0⟩ := at_L3 HR0.out x6_1 p361 q361
         obtain rfl : ad353 = ad361 := (by injection e361)
         have HR361_0 := zaa.mk hi361_0
         have HC361_0 := zaa.mk hl361_0
         clear hi361_0 hl361_0
         replace p361 := eq_true p361
         replace q361 := eq_true q361
         have ea_ := Option.some.inj (hx353_0.symm.trans hx361_0)
         injection ea_ with ea_ en_ ec_
         subst ea_
         subst ec_
         clear en_
         have p362 : 0 ≤ (2 : Int) := (by omega)
         have q362 : 2 < ((zbf l0 x6_1).length : Int) := of_decide_eq_true (by first | (with_reducible assumption) | assumption)
         obtain ⟨ad362, e362, hx362_0⟩ := Kd.at_int HR361_0.out 2 p362 q362
         cases e362
         (try simp only [show (2 : Int).toNat = 2 from rfl, Nat.reduceMul, Nat.reduceEqDiff, Go.Addr.add, ↓reduceIte] at hx362_0)
         have qi362 : (2 < (zbf l0 x6_1).length) = True := eq_true (by omega)
         (try rw [show ((2 : Int)).toNat = 2 from rfl] at hx362_0)
         replace p362 := eq_true p362
         replace q362 := eq_true q362
         go_wp2
         repeat (go_quiet (fail); try go_wp2)
         go_roundg k1
         case measure => have := HK1.out; omega
         case rel => exact ⟨(x5_1), (wrap64 (x6_1 + 1)), (by first | rfl | (simp; done) | (simp [*]; done)), (by first | rfl | (simp; done) | (simp [*]; done)), H', ⟨by have := HK1.out; omega⟩, by repeat (first | exact zbc.refl _ | apply zbc.step)⟩
       ·rw [if_neg c9] at H
        exact absurd H (by simp)
     ·rw [if_neg c5] at H
      exact absurd H (by simp)
    ·rw [if_neg c4] at H
     exact absurd H (by simp)
   ·rw [if_neg c3] at H
    have c3b0 : decide (x6_1 < (l0.length : Int)) = false := decide_eq_false c3
    clear c3
    obtain rfl := Option.some.inj H
    go_wp2
    repeat (go_quiet (fail); try go_wp2)
    go_ret
    exact ⟨by first | rfl | (simp; done) | (simp [*]; done), by repeat (first | exact zbc.refl _ | apply zbc.step)⟩
end Go.Proofs.Ytickdcegnlldjaa.PB
namespace Go.Proofs.Ytickdcegnlldjaa.PB
open Go.RowKit Go.PW.PrintWords Go.PW.PrintLast Go.PW.PrintMore
attribute [local go_sem] zbx zbv zck zcj zbq zbp zbw zbu   -- for this text's walks alone
mutual
def spec_l2Upright.l0 : Nat → List ByteArray → List (List Int) → Int → Option ((List (List Int)))
 | 0, _, _, _ => none
 | k + 1, x0, x3, x4 => if 0 < (x0.length : Int) then (if x4 < ((rdOf ByteArray.empty x0 0).size : Int) then (spec_l2Upright.l1 k x0 x3 x4 (-1) 0) else (some x3)) else (none)
def spec_l2Upright.l1 : Nat → List ByteArray → List (List Int) → Int → Int → Int → Option ((List (List Int)))
 | 0, _, _, _, _, _ => none
 | k + 1, x0, x3, x4, x5, x6 => if x6 ≤ (x0.length : Int) then (if x6 < (x0.length : Int) then (if 0 ≤ x6 then (if 0 ≤ (wrap64 (x4 - 1)) then (if (wrap64 (x4 - 1)) < ((rdOf ByteArray.empty x0 x6).size : Int) then (if 0 ≤ x4 then (if x4 < ((rdOf ByteArray.empty x0 x6).size : Int) then (spec_l2Upright.j2 k x0 x3 x4 x5 x6 ((bt (rdOf ByteArray.empty x0 x6) (wrap64 (x4 - 1))) != (bt (rdOf ByteArray.empty x0 x6) x4))) else (none)) else (none)) else (none)) else (none)) else (none)) else (spec_l2Upright.j2 k x0 x3 x4 x5 x6 false)) else (spec_l2Upright.l0 k x0 x3 (wrap64 (x4 + 1)))
def spec_l2Upright.j2 : Nat → List ByteArray → List (List Int) → Int → Int → Int → Bool → Option ((List (List Int)))
 | 0, _, _, _, _, _, _ => none
 | k + 1, x0, x3, x4, x5, x6, x7 => if x7 = true then (spec_l2Upright.j3 k x0 x3 x4 x5 x6 x7 (decide (x5 < 0))) else (spec_l2Upright.j3 k x0 x3 x4 x5 x6 x7 false)
def spec_l2Upright.j3 : Nat → List ByteArray → List (List Int) → Int → Int → Int → Bool → Bool → Option ((List (List Int)))
 | 0, _, _, _, _, _, _, _ => none
 | k + 1, x0, x3, x4, x5, x6, x7, x47 => if x47 = true then (if x7 = true then (spec_l2Upright.l1 k x0 x3 x4 x6 (wrap64 (x6 + 1))) else (if x6 ≥ 0 then (if x3.length < 5864062014805 then (spec_l2Upright.l1 k x0 (x3 ++ [(([x4, x6, 0] : List Int))]) x4 (-1) (wrap64 (x6 + 1))) else (none)) else (spec_l2Upright.l1 k x0 x3 x4 x6 (wrap64 (x6 + 1))))) else (if x7 = true then (spec_l2Upright.l1 k x0 x3 x4 x5 (wrap64 (x6 + 1))) else (if x5 ≥ 0 then (if x3.length < 5864062014805 then (spec_l2Upright.l1 k x0 (x3 ++ [(([x4, x5, wrap64 (x6 - x5)] : List Int))]) x4 (-1) (wrap64 (x6 + 1))) else (none)) else (spec_l2Upright.l1 k x0 x3 x4 x5 (wrap64 (x6 + 1)))))
end
def spec_l2Upright.f (k : Nat) (l0 : List ByteArray) : Option ((List (List Int))) := spec_l2Upright.l0 k l0 (([] : List (List Int))) 1
set_option maxHeartbeats 8000000 in
set_option maxRecDepth 100000 in
theorem spec_l2Upright.calls (k : Nat) (A0 : Option Addr) (c0 : Nat) (l0 : List ByteArray) (r : List (List Int)) (w : World) (hr0 : Kd.C Kd.string w A0 l0.length l0) (hc0 : l0.length ≤ c0) (h : spec_l2Upright.f k l0 = some r) :
  Calls Try.prog 64 #[.slice A0 l0.length c0] w fun e w' => ∃ v0_ : Value, e = .returned (v0_) ∧ Kd.S (Kd.slice 3 (Kd.int .i64)) 24 w' w.heap.size (fun _ => True) v0_ r ∧ Below w.heap.size w w' := by
 have HR0 := zaa.mk hr0
 have HC0 := zaa.mk hc0
 clear hr0 hc0
 have HB := zaa.mk (Below.refl w.heap.size w)
 have H : (spec_l2Upright.l0 k l0 (([] : List (List Int))) 1) = some r := h
 clear h
 obtain ⟨y363, hy363⟩ : ∃ y_ : List (List Int), y_ = (([] : List (List Int))) := ⟨_, rfl⟩
 replace H : (spec_l2Upright.l0 k l0 y363 1) = some r := by first | (rw [hy363]; with_reducible exact H) | (have H2_ := (Option.bind_some _ _).symm.trans H; rw [hy363]; with_reducible exact H2_) | (have H2_ := (Option.bind_some _ _).symm.trans H; with_reducible exact H2_) | with_reducible exact H | (rw [hy363]; exact H) | exact H
 have Ny363 := zaa.mk hy363
 clear hy363
 have H' := zaa.mk H
 clear H
 go_enter Try.func64, Try.ntmps64
 go_wp2_with (first | ((with_reducible refine zba (N := 8) rfl ?_); refine Kd.S_lit (Kd.slice 3 (Kd.int .i64)) _ 24 ?hg (N := 8) ?hd (xs := ([] : List (List Int))) (inner := []) (ok := fun _ => True) (okp := fun _ => True) ?hr ?hp (fun _ hk => hk) trivial (Below.refl _ _) (Nat.le_refl _) (by simp) ?_; (case hd => rfl); (case hg => rfl); (case hr => first | (go_simp; done) | (go_simp; rfl)); (case hp => exact (Reps.none _ _)); intro v364 w2 ho3 hb hg_ hnew_; clear hg_ hnew_; (first | rw [← Ny363.out] at ho3 | (simp only [Int.reduceToNat] at ho3; rw [← Ny363.out] at ho3)); have n0_ := zaa.mk (Kd.S_lower ho3 (zam (by repeat (first | (with_reducible first | exact HB.out | apply zac | apply zab | apply zad) | exact HB.out)))); have n1_ := zaa.mk (zah (by repeat (first | (with_reducible first | exact HB.out | apply zac | apply zab | apply zad) | exact HB.out)) hb); clear HB; have HO365 := n0_; have HB := n1_; clear n0_ n1_; clear hb ho3))
 repeat (go_quiet (first | ((with_reducible refine zba (N := 8) rfl ?_); refine Kd.S_lit (Kd.slice 3 (Kd.int .i64)) _ 24 ?hg (N := 8) ?hd (xs := ([] : List (List Int))) (inner := []) (ok := fun _ => True) (okp := fun _ => True) ?hr ?hp (fun _ hk => hk) trivial (Below.refl _ _) (Nat.le_refl _) (by simp) ?_; (case hd => rfl); (case hg => rfl); (case hr => first | (go_simp; done) | (go_simp; rfl)); (case hp => exact (Reps.none _ _)); intro v364 w2 ho3 hb hg_ hnew_; clear hg_ hnew_; (first | rw [← Ny363.out] at ho3 | (simp only [Int.reduceToNat] at ho3; rw [← Ny363.out] at ho3)); have n0_ := zaa.mk (Kd.S_lower ho3 (zam (by repeat (first | (with_reducible first | exact HB.out | apply zac | apply zab | apply zad) | exact HB.out)))); have n1_ := zaa.mk (zah (by repeat (first | (with_reducible first | exact HB.out | apply zac | apply zab | apply zad) | exact HB.out)) hb); clear HB; have HO365 := n0_; have HB := n1_; clear n0_ n1_; clear hb ho3)); try go_wp2_with (first | ((with_reducible refine zba (N := 8) rfl ?_); refine Kd.S_lit (Kd.slice 3 (Kd.int .i64)) _ 24 ?hg (N := 8) ?hd (xs := ([] : List (List Int))) (inner := []) (ok := fun _ => True) (okp := fun _ => True) ?hr ?hp (fun _ hk => hk) trivial (Below.refl _ _) (Nat.le_refl _) (by simp) ?_; (case hd => rfl); (case hg => rfl); (case hr => first | (go_simp; done) | (go_simp; rfl)); (case hp => exact (Reps.none _ _)); intro v364 w2 ho3 hb hg_ hnew_; clear hg_ hnew_; (first | rw [← Ny363.out] at ho3 | (simp only [Int.reduceToNat] at ho3; rw [← Ny363.out] at ho3)); have n0_ := zaa.mk (Kd.S_lower ho3 (zam (by repeat (first | (with_reducible first | exact HB.out | apply zac | apply zab | apply zad) | exact HB.out)))); have n1_ := zaa.mk (zah (by repeat (first | (with_reducible first | exact HB.out | apply zac | apply zab | apply zad) | exact HB.out)) hb); clear HB; have HO365 := n0_; have HB := n1_; clear n0_ n1_; clear hb ho3)))
 go_loopg [3, 4] k (fun kq v3 v4 w' => ∃ (x3_1 : List (List Int)) (x4_1 : Int), v4 = .int .i64 x4_1 ∧ zaa (spec_l2Upright.l0 kq l0 x3_1 x4_1 = some r) ∧ zaa (kq ≤ k) ∧ zaa (Kd.S (Kd.slice 3 (Kd.int .i64)) 24 w' w.heap.size (fun _ => True) v3 x3_1) ∧ zaa (Below w.heap.size w w'))
 case atStart => exact ⟨(y363), (1), (by first | rfl | (simp; done) | (simp [*]; done)), H', ⟨Nat.le_refl _⟩, ⟨by (with_reducible repeat (first | apply Kd.S_alloc | apply Kd.S_drewN | apply Kd.S_drew)); exact HO365.out⟩, ⟨by repeat (first | (with_reducible first | exact HB.out | apply zac | apply zab | apply zad) | exact HB.out)⟩⟩
 case round =>
  clear H'
  try clear p2
  obtain ⟨x3_1, x4_1, rfl, HA, HK1, HO_3, HB⟩ := hrel
  cases gk with
  | zero => exact absurd HA.out (by simp [spec_l2Upright.l0])
  | succ k1 =>
   have H := HA.out
   clear HA
   simp only [spec_l2Upright.l0] at H
   by_cases c4 : 0 < (l0.length : Int)
   ·rw [if_pos c4] at H
    have c4b0 : decide (0 < (l0.length : Int)) = true := decide_eq_true c4
    have c4b1 : decide (0 < l0.length) = true := decide_eq_true (by omega)
    clear c4
    by_cases c5 : x4_1 < ((rdOf ByteArray.empty l0 0).size : Int)
    ·rw [if_pos c5] at H
     have c5b0 : decide (x4_1 < ((rdOf ByteArray.empty l0 0).size : Int)) = true := decide_eq_true c5
     clear c5
     have H' := zaa.mk H
     clear H
     have p366 : 0 ≤ (0 : Int) := (by omega)
     have q366 : 0 < (l0.length : Int) := of_decide_eq_true (by first | (with_reducible assumption) | assumption)
     obtain ⟨ad366, e366, hx366_0⟩ := Kd.at_string HR0.out 0 p366 q366
     cases e366
     have qi366 : (0 < l0.length) = True := eq_true (by omega)
     (try rw [show ((0 : Int)).toNat = 0 from rfl] at hx366_0)
     (try rw [Addr.add_zero'] at hx366_0)
     replace hx366_0 := (HB.out.cell (World.block_lt_of_cell? w _ hx366_0)).trans hx366_0
     replace p366 := eq_true p366
     replace q366 := eq_true q366
     go_wp2
     repeat (go_quiet (fail); try go_wp2)
     go_loopg [3, 5, 6] k1 (fun kq v3 v5 v6 w' => ∃ (x3_2 : List (List Int)) (x5_2 : Int) (x6_2 : Int), v5 = .int .i64 x5_2 ∧ v6 = .int .i64 x6_2 ∧ zaa (spec_l2Upright.l1 kq l0 x3_2 x4_1 x5_2 x6_2 = some r) ∧ zaa (kq ≤ k1) ∧ zaa (Kd.S (Kd.slice 3 (Kd.int .i64)) 24 w' w.heap.size (fun _ => True) v3 x3_2) ∧ zaa (Below w.heap.size w w'))
     case atStart => exact ⟨(x3_1), ((-1)), (0), (by first | rfl | (simp; done) | (simp [*]; done)), (by first | rfl | (simp; done) | (simp [*]; done)), H', ⟨Nat.le_refl _⟩, ⟨by (with_reducible repeat (first | apply Kd.S_alloc | apply Kd.S_drewN | apply Kd.S_drew)); exact HO_3.out⟩, ⟨by repeat (first | (with_reducible first | exact HB.out | apply zac | apply zab | apply zad) | exact HB.out)⟩⟩
     case round =>
      clear H'
      try clear p2
      try clear p3
      try clear q3
      try clear hx3
      try clear qi3
      try clear c4
      try clear c4b0
      try clear c4b1
      try clear c5
      try clear c5b0
      try clear hx366_0
      try clear p2
      try clear p366
      try clear q366
      obtain ⟨x3_2, x5_2, x6_2, rfl, rfl, HA, HK2, HO_3, HB⟩ := hrel
      cases gk with
      | zero => exact absurd HA.out (by simp [spec_l2Upright.l1])
      | succ k2 =>
       have H := HA.out
       clear HA
       simp only [spec_l2Upright.l1] at H
       by_cases c6 : x6_2 ≤ (l0.length : Int)
       ·rw [if_pos c6] at H
        have c6b0 : decide (x6_2 ≤ (l0.length : Int)) = true := decide_eq_true c6
        clear c6
        have HC7 := zaa.mk H
        clear H
        go_upto_region 9 with (fail)
        repeat (go_quiet (fail); go_upto_region 9 with (fail))
        go_cut [7] (fun v7 wc => ∃ (kq : Nat) (x7_6 : Bool), v7 = .bool x7_6 ∧ zaa (spec_l2Upright.j2 kq l0 x3_2 x4_1 x5_2 x6_2 x7_6 = some r) ∧ zaa (kq ≤ k2) ∧ zaa (Kd.S (Kd.slice 3 (Kd.int .i64)) 24 wc w.heap.size (fun _ => True) u3 x3_2) ∧ zaa (Below w.heap.size w wc))
        case first =>
         have H := HC7.out
         clear HC7
         by_cases c8 : x6_2 < (l0.length : Int)
         ·rw [if_pos c8] at H
          have c8b0 : decide (x6_2 < (l0.length : Int)) = true := decide_eq_true c8
          clear c8
          (first | rw [c8b0] | (simp only [zat, zav]; rw [c8b0]) | skip)
          by_cases c9 : 0 ≤ x6_2
          ·rw [if_pos c9] at H
           have c9b0 : decide (0 ≤ x6_2) = true := decide_eq_true c9
           clear c9
           obtain ⟨ji10, hji10⟩ : ∃ j_ : Int, (wrap64 (x4_1 - 1)) = j_ := ⟨_, rfl⟩
           replace H : (if 0 ≤ (ji10) then (if (ji10) < ((rdOf ByteArray.empty l0 x6_2).size : Int) then (if 0 ≤ x4_1 then (if x4_1 < ((rdOf ByteArray.empty l0 x6_2).size : Int) then (spec_l2Upright.j2 k2 l0 x3_2 x4_1 x5_2 x6_2 ((bt (rdOf ByteArray.empty l0 x6_2) (ji10)) != (bt (rdOf ByteArray.empty l0 x6_2) x4_1))) else (none)) else (none)) else (none)) else (none)) = some r := by first | (rw [hji10] at H; exact H) | (simp only [hji10] at H ⊢; exact H)
           have hji10w : (IntKind.i64.wrap (x4_1 - 1)) = ji10 := (zat _).trans hji10
           by_cases c11 : 0 ≤ (ji10)
           ·rw [if_pos c11] at H
            have c11b0 : decide (0 ≤ (ji10)) = true := decide_eq_true c11
            clear c11
            by_cases c12 : (ji10) < ((rdOf ByteArray.empty l0 x6_2).size : Int)
            ·rw [if_pos c12] at H
             have c12b0 : decide ((ji10) < ((rdOf ByteArray.empty l0 x6_2).size : Int)) = true := decide_eq_true c12
             clear c12
             by_cases c14 : 0 ≤ x4_1
             ·rw [if_pos c14] at H
              have c14b0 : decide (0 ≤ x4_1) = true := decide_eq_true c14
              clear c14
              by_cases c15 : x4_1 < ((rdOf ByteArray.empty l0 x6_2).size : Int)
              ·rw [if_pos c15] at H
               have c15b0 : decide (x4_1 < ((rdOf ByteArray.empty l0 x6_2).size : Int)) = true := decide_eq_true c15
               clear c15
               have H' := zaa.mk H
               clear H
               have p367 : 0 ≤ (x6_2 : Int) := of_decide_eq_true (by first | (with_reducible assumption) | assumption)
               have q367 : x6_2 < (l0.length : Int) := of_decide_eq_true (by first | (with_reducible assumption) | assumption)
               obtain ⟨ad367, e367, hx367_0⟩ := Kd.at_string HR0.out x6_2 p367 q367
               obtain rfl : ad366 = ad367 := (by injection e367)
               replace hx367_0 := (HB.out.cell (World.block_lt_of_cell? w _ hx367_0)).trans hx367_0
               replace p367 := eq_true p367
               replace q367 := eq_true q367
               have p13 : 0 ≤ ((ji10) : Int) := of_decide_eq_true (by first | (with_reducible assumption) | assumption)
               have q13 : (ji10) < ((rdOf ByteArray.empty l0 x6_2).size : Int) := of_decide_eq_true (by first | (with_reducible assumption) | assumption)
               have hx13 := bt_at (rdOf ByteArray.empty l0 x6_2) (ji10)
               replace p13 := eq_true p13
               replace q13 := eq_true q13
               have p368 : 0 ≤ (x6_2 : Int) := of_decide_eq_true (by first | (with_reducible assumption) | assumption)
               have q368 : x6_2 < (l0.length : Int) := of_decide_eq_true (by first | (with_reducible assumption) | assumption)
               obtain ⟨ad368, e368, hx368_0⟩ := Kd.at_string HR0.out x6_2 p368 q368
               obtain rfl : ad366 = ad368 := (by injection e368)
               replace hx368_0 := (HB.out.cell (World.block_lt_of_cell? w _ hx368_0)).trans hx368_0
               replace p368 := eq_true p368
               replace q368 := eq_true q368
               have p16 : 0 ≤ (x4_1 : Int) := of_decide_eq_true (by first | (with_reducible assumption) | assumption)
               have q16 : x4_1 < ((rdOf ByteArray.empty l0 x6_2).size : Int) := of_decide_eq_true (by first | (with_reducible assumption) | assumption)
               have hx16 := bt_at (rdOf ByteArray.empty l0 x6_2) x4_1
               replace p16 := eq_true p16
               replace q16 := eq_true q16
               go_wp2
               repeat (go_quiet (fail); try go_wp2)
               go_meet
               case rel => exact ⟨_, (((bt (rdOf ByteArray.empty l0 x6_2) (ji10)) != (bt (rdOf ByteArray.empty l0 x6_2) x4_1))), (by first | rfl | (simp; done) | (simp only [← hji10] <;> (first | rfl | simp)) | (simp [*]; done)), H', ⟨by have := HK1.out; have := HK2.out; first | omega | exact Nat.le_refl _⟩, ⟨by (with_reducible repeat (first | apply Kd.S_alloc | apply Kd.S_drewN | apply Kd.S_drew)); exact HO_3.out⟩, ⟨by repeat (first | (with_reducible first | exact HB.out | apply zac | apply zab | apply zad) | exact HB.out)⟩⟩
              ·rw [if_neg c15] at H
               exact absurd H (by simp)
             ·rw [if_neg c14] at H
              exact absurd H (by simp)
            ·rw [if_neg c12] at H
             exact absurd H (by simp)
           ·rw [if_neg c11] at H
            exact absurd H (by simp)
          ·rw [if_neg c9] at H
           exact absurd H (by simp)
         ·rw [if_neg c8] at H
          have c8b0 : decide (x6_2 < (l0.length : Int)) = false := decide_eq_false c8
          clear c8
          (first | rw [c8b0] | (simp only [zat, zav]; rw [c8b0]) | skip)
          have H' := zaa.mk H
          clear H
          go_wp2
          repeat (go_quiet (fail); try go_wp2)
          go_meet
          case rel => exact ⟨_, (false), (by first | rfl | (simp; done) | (simp [*]; done)), H', ⟨by have := HK1.out; have := HK2.out; first | omega | exact Nat.le_refl _⟩, ⟨by (with_reducible repeat (first | apply Kd.S_alloc | apply Kd.S_drewN | apply Kd.S_drew)); exact HO_3.out⟩, ⟨by repeat (first | (with_reducible first | exact HB.out | apply zac | apply zab | apply zad) | exact HB.out)⟩⟩
        case rest =>
         clear HC7
         try clear c1
         try clear p1
         try clear q1
         try clear hx1
         try clear p2
         try clear p3
         try clear q3
         try clear hx3
         try clear qi3
         try clear c4
         try clear c4b0
         try clear c4b1
         try clear c5
         try clear c5b0
         try clear c6
         try clear c6b0
         try clear p6
         try clear c8
         try clear c8b0
         try clear c9
         try clear c9b0
         try clear c11
         try clear c11b0
         try clear c12
         try clear c12b0
         try clear p13
         try clear q13
         try clear hx13
         try clear c14
         try clear c14b0
         try clear c15
         try clear c15b0
         try clear p16
         try clear q16
         try clear hx16
         try clear hx366_0
         try clear hx367_0
         try clear hx368_0
         try clear p13
         try clear p16
         try clear p2
         try clear p3
         try clear p366
         try clear p367
         try clear p368
         try clear q13
         try clear q16
         try clear q3
         try clear q366
         try clear q367
         try clear q368
         obtain ⟨kq, x7_6, rfl, HA, HJ6, HO_3, HB⟩ := hcut
         cases kq with
         | zero => exact absurd HA.out (by simp [spec_l2Upright.j2])
         | succ kj6 =>
          have H := HA.out
          clear HA
          simp only [spec_l2Upright.j2] at H
          have HC17 := zaa.mk H
          clear H
          go_upto_region 10 with (fail)
          repeat (go_quiet (fail); go_upto_region 10 with (fail))
          go_cut [47] (fun v47 wc => ∃ (kq : Nat) (x47_16 : Bool), v47 = .bool x47_16 ∧ zaa (spec_l2Upright.j3 kq l0 x3_2 x4_1 x5_2 x6_2 x7_6 x47_16 = some r) ∧ zaa (kq ≤ kj6) ∧ zaa (Kd.S (Kd.slice 3 (Kd.int .i64)) 24 wc w.heap.size (fun _ => True) u3 x3_2) ∧ zaa (Below w.heap.size w wc))
          case first =>
           have H := HC17.out
           clear HC17
           by_cases c18 : x7_6 = true
           ·subst c18
            have H1 : (spec_l2Upright.j3 kj6 l0 x3_2 x4_1 x5_2 x6_2 true (decide (x5_2 < 0))) = some r := by rw [if_pos rfl] at H; exact H
            clear H
            have H := H1
            clear H1
            have H' := zaa.mk H
            clear H
            go_wp2
            repeat (go_quiet (fail); try go_wp2)
            go_meet
            case rel => exact ⟨_, (decide (x5_2 < 0)), (by first | rfl | (simp; done) | (simp [*]; done)), H', ⟨by have := HK1.out; have := HK2.out; have := HJ6.out; first | omega | exact Nat.le_refl _⟩, ⟨by (with_reducible repeat (first | apply Kd.S_alloc | apply Kd.S_drewN | apply Kd.S_drew)); exact HO_3.out⟩, ⟨by repeat (first | (with_reducible first | exact HB.out | apply zac | apply zab | apply zad) | exact HB.out)⟩⟩
           ·replace c18 := Bool.eq_false_iff.mpr c18
            subst c18
            have H1 : (spec_l2Upright.j3 kj6 l0 x3_2 x4_1 x5_2 x6_2 false false) = some r := by rw [if_neg (show ¬ (false = true) by decide)] at H; exact H
            clear H
            have H := H1
            clear H1
            have H' := zaa.mk H
            clear H
            go_wp2
            repeat (go_quiet (fail); try go_wp2)
            go_meet
            case rel => exact ⟨_, (false), (by first | rfl | (simp; done) | (simp [*]; done)), H', ⟨by have := HK1.out; have := HK2.out; have := HJ6.out; first | omega | exact Nat.le_refl _⟩, ⟨by (with_reducible repeat (first | apply Kd.S_alloc | apply Kd.S_drewN | apply Kd.S_drew)); exact HO_3.out⟩, ⟨by repeat (first | (with_reducible first | exact HB.out | apply zac | apply zab | apply zad) | exact HB.out)⟩⟩
          case rest =>
           clear HC17
           try clear c1
           try clear p1
           try clear q1
           try clear hx1
           try clear p2
           try clear p3
           try clear q3
           try clear hx3
           try clear qi3
           try clear c4
           try clear c4b0
           try clear c4b1
           try clear c5
           try clear c5b0
           try clear c6
           try clear c6b0
           try clear p6
           try clear c8
           try clear c8b0
           try clear c9
           try clear c9b0
           try clear c11
           try clear c11b0
           try clear c12
           try clear c12b0
           try clear p13
           try clear q13
           try clear hx13
           try clear c14
           try clear c14b0
           try clear c15
           try clear c15b0
           try clear p16
           try clear q16
           try clear hx16
           try clear c18
           try clear hx366_0
           try clear hx367_0
           try clear hx368_0
           try clear p1
           try clear p13
           try clear p16
           try clear p2
           try clear p3
           try clear p366
           try clear p367
           try clear p368
           try clear p6
           try clear q1
           try clear q13
           try clear q16
           try clear q3
           try clear q366
           try clear q367
           try clear q368
           obtain ⟨kq, x47_16, rfl, HA, HJ16, HO_3, HB⟩ := hcut
           cases kq with
           | zero => exact absurd HA.out (by simp [spec_l2Upright.j3])
           | succ kj16 =>
            have H := HA.out
            clear HA
            simp only [spec_l2Upright.j3] at H
            by_cases c19 : x47_16 = true
            ·subst c19
             have H1 : (if x7_6 = true then (spec_l2Upright.l1 kj16 l0 x3_2 x4_1 x6_2 (wrap64 (x6_2 + 1))) else (if x6_2 ≥ 0 then (if x3_2.length < 5864062014805 then (spec_l2Upright.l1 kj16 l0 (x3_2 ++ [(([x4_1, x6_2, 0] : List Int))]) x4_1 (-1) (wrap64 (x6_2 + 1))) else (none)) else (spec_l2Upright.l1 kj16 l0 x3_2 x4_1 x6_2 (wrap64 (x6_2 + 1))))) = some r := by rw [if_pos rfl] at H; exact H
             clear H
             have H := H1
             clear H1
             by_cases c20 : x7_6 = true
             ·subst c20
              have H1 : (spec_l2Upright.l1 kj16 l0 x3_2 x4_1 x6_2 (wrap64 (x6_2 + 1))) = some r := by rw [if_pos rfl] at H; exact H
              clear H
              have H := H1
              clear H1
              have H' := zaa.mk H
              clear H
              go_wp2
              repeat (go_quiet (fail); try go_wp2)
              go_roundg kj16
              case measure => have := HK1.out; have := HK2.out; have := HJ6.out; have := HJ16.out; omega
              case rel => exact ⟨(x3_2), (x6_2), (wrap64 (x6_2 + 1)), (by first | rfl | (simp; done) | (simp [*]; done)), (by first | rfl | (simp; done) | (simp [*]; done)), H', ⟨by have := HK1.out; have := HK2.out; have := HJ6.out; have := HJ16.out; omega⟩, ⟨by (with_reducible repeat (first | apply Kd.S_alloc | apply Kd.S_drewN | apply Kd.S_drew)); exact HO_3.out⟩, ⟨by repeat (first | (with_reducible first | exact HB.out | apply zac | apply zab | apply zad) | exact HB.out)⟩⟩
             ·replace c20 := Bool.eq_false_iff.mpr c20
              subst c20
              have H1 : (if x6_2 ≥ 0 then (if x3_2.length < 5864062014805 then (spec_l2Upright.l1 kj16 l0 (x3_2 ++ [(([x4_1, x6_2, 0] : List Int))]) x4_1 (-1) (wrap64 (x6_2 + 1))) else (none)) else (spec_l2Upright.l1 kj16 l0 x3_2 x4_1 x6_2 (wrap64 (x6_2 + 1)))) = some r := by rw [if_neg (show ¬ (false = true) by decide)] at H; exact H
              clear H
              have H := H1
              clear H1
              by_cases c21 : x6_2 ≥ 0
              ·rw [if_pos c21] at H
               have c21b0 : decide (0 ≤ x6_2) = true := decide_eq_true c21
               clear c21
               obtain ⟨y369, hy369⟩ : ∃ y_ : List Int, y_ = (([x4_1, x6_2, 0] : List Int)) := ⟨_, rfl⟩
               replace H : (if x3_2.length < 5864062014805 then (spec_l2Upright.l1 kj16 l0 (x3_2 ++ [y369]) x4_1 (-1) (wrap64 (x6_2 + 1))) else (none)) = some r := by first | (rw [hy369]; with_reducible exact H) | (have H2_ := (Option.bind_some _ _).symm.trans H; rw [hy369]; with_reducible exact H2_) | (have H2_ := (Option.bind_some _ _).symm.trans H; with_reducible exact H2_) | with_reducible exact H | (rw [hy369]; exact H) | exact H
               have Ny369 := zaa.mk hy369
               clear hy369
               by_cases c22 : x3_2.length < 5864062014805
               ·rw [if_pos c22] at H
                have LMc22 := zaa.mk c22
                clear c22
                obtain ⟨y372, hy372⟩ : ∃ y_ : List (List Int), y_ = (x3_2 ++ [y369]) := ⟨_, rfl⟩
                replace H : (spec_l2Upright.l1 kj16 l0 y372 x4_1 (-1) (wrap64 (x6_2 + 1))) = some r := by first | (rw [hy372]; with_reducible exact H) | (have H2_ := (Option.bind_some _ _).symm.trans H; rw [hy372]; with_reducible exact H2_) | (have H2_ := (Option.bind_some _ _).symm.trans H; with_reducible exact H2_) | with_reducible exact H | (rw [hy372]; exact H) | exact H
                have Ny372 := zaa.mk hy372
                clear hy372
                have H' := zaa.mk H
                clear H
                go_wp2_with (first | ((with_reducible refine zba (N := 61) rfl ?_); refine Kd.R_lit (Kd.int .i64) _ 3 ?hg (N := 61) ?hd (xs := ([x4_1, x6_2, 0] : List Int)) (inner := [.int .i64 x4_1, .int .i64 x6_2, .int .i64 0]) (ok := fun _ => True) (okp := fun _ => True) ?hr ?hp (fun _ hk => hk) trivial (Below.refl _ _) (Nat.le_refl _) (by simp) ?_; (case hd => rfl); (case hg => rfl); (case hr => first | (go_simp; done) | (go_simp; rfl)); (case hp => exact (Reps.one (show Kd.M (Kd.int .i64) _ _ _ x4_1 [.int .i64 x4_1] from rfl) (Reps.one (show Kd.M (Kd.int .i64) _ _ _ x6_2 [.int .i64 x6_2] from rfl) (Reps.one (show Kd.M (Kd.int .i64) _ _ _ 0 [.int .i64 0] from rfl) (Reps.none _ _))))); intro v370 w23 ho24 hb hg_ hnew_; clear hg_ hnew_; (first | rw [← Ny369.out] at ho24 | (simp only [Int.reduceToNat] at ho24; rw [← Ny369.out] at ho24)); have n0_ := zaa.mk (Kd.S_elder' (by (with_reducible repeat (first | apply Kd.S_alloc | apply Kd.S_drewN | apply Kd.S_drew)); exact HO_3.out) (Kd.R_base ho24) hb); have n1_ := zaa.mk (Kd.R_lower ho24 (zam (by repeat (first | (with_reducible first | exact HB.out | apply zac | apply zab | apply zad) | exact HB.out)))); have n2_ := zaa.mk (zah (by repeat (first | (with_reducible first | exact HB.out | apply zac | apply zab | apply zad) | exact HB.out)) hb); clear HO_3; clear HB; have HO_3 := n0_; have HO371 := n1_; have HB := n2_; clear n0_ n1_ n2_; clear hb ho24; obtain ⟨Ao26, co26, eo26⟩ := Kd.R_slice HO371.out; subst eo26) | ((with_reducible refine zay (b := .append) (xs := #[.tmp 55, .tmp 62]) rfl ?_); at_builtin; refine Kd.S_append (Kd.slice 3 (Kd.int .i64)) (w0 := w) w.heap.size rfl (.tmp 55) (.tmp 62) 40 24 (.slice none 0 0) 24 rfl Try.underlying40 info24 rfl (by decide) (by omega) u3 x3_2 y369 [.slice Ao26 y369.length co26] (fun _ => True) (fun k_ => some k_ = (.slice Ao26 y369.length co26 : Value).ownBlock) rfl rfl ?aP (fun k_ hk_ => ((Kd.R_mono (ok' := fun k_ => ((fun _ => True)) k_ ∧ some k_ ≠ (u3 : Value).ownBlock) (Kd.R_apart' (HO371.out) (Kd.S_typed HO_3.out) (by decide)) (fun k_ hk => ⟨trivial, hk.2⟩))).1 k_ hk_.symm) ?aF ?aO ?aB ?aS ?aL ?_; (case aP => exact Kd.M_row (Kd.R_mono (Kd.R_tight rfl (Kd.R_mono (ok' := fun k_ => ((fun _ => True)) k_ ∧ some k_ ≠ (u3 : Value).ownBlock) (Kd.R_apart' (HO371.out) (Kd.S_typed HO_3.out) (by decide)) (fun k_ hk => ⟨trivial, hk.2⟩))) (fun _ h_ => h_))); (case aB => exact (by repeat (first | (with_reducible first | exact HB.out | apply zac | apply zab | apply zad) | exact HB.out))); (case aF => exact (fun _ _ => trivial)); (case aO => exact (by (with_reducible repeat (first | apply Kd.S_alloc | apply Kd.S_drewN | apply Kd.S_drew)); exact Kd.S_mono HO_3.out (fun k_ hk => ⟨trivial, fun e_ => hk.2 e_⟩))); (case aS => exact (zam (by repeat (first | (with_reducible first | exact HB.out | apply zac | apply zab | apply zad) | exact HB.out)))); (case aL => have := LMc22.out; omega); intro v373 w25 ho hb hg hat; rw [← Ny372.out] at ho; have n0_ := zaa.mk (hb); have n1_ := zaa.mk (ho); clear HB; clear HO_3; clear HO371; have HB := n0_; have HO374 := n1_; clear n0_ n1_; clear ho hb hg hat))
                repeat (go_quiet (first | ((with_reducible refine zba (N := 61) rfl ?_); refine Kd.R_lit (Kd.int .i64) _ 3 ?hg (N := 61) ?hd (xs := ([x4_1, x6_2, 0] : List Int)) (inner := [.int .i64 x4_1, .int .i64 x6_2, .int .i64 0]) (ok := fun _ => True) (okp := fun _ => True) ?hr ?hp (fun _ hk => hk) trivial (Below.refl _ _) (Nat.le_refl _) (by simp) ?_; (case hd => rfl); (case hg => rfl); (case hr => first | (go_simp; done) | (go_simp; rfl)); (case hp => exact (Reps.one (show Kd.M (Kd.int .i64) _ _ _ x4_1 [.int .i64 x4_1] from rfl) (Reps.one (show Kd.M (Kd.int .i64) _ _ _ x6_2 [.int .i64 x6_2] from rfl) (Reps.one (show Kd.M (Kd.int .i64) _ _ _ 0 [.int .i64 0] from rfl) (Reps.none _ _))))); intro v370 w23 ho24 hb hg_ hnew_; clear hg_ hnew_; (first | rw [← Ny369.out] at ho24 | (simp only [Int.reduceToNat] at ho24; rw [← Ny369.out] at ho24)); have n0_ := zaa.mk (Kd.S_elder' (by (with_reducible repeat (first | apply Kd.S_alloc | apply Kd.S_drewN | apply Kd.S_drew)); exact HO_3.out) (Kd.R_base ho24) hb); have n1_ := zaa.mk (Kd.R_lower ho24 (zam (by repeat (first | (with_reducible first | exact HB.out | apply zac | apply zab | apply zad) | exact HB.out)))); have n2_ := zaa.mk (zah (by repeat (first | (with_reducible first | exact HB.out | apply zac | apply zab | apply zad) | exact HB.out)) hb); clear HO_3; clear HB; have HO_3 := n0_; have HO371 := n1_; have HB := n2_; clear n0_ n1_ n2_; clear hb ho24; obtain ⟨Ao26, co26, eo26⟩ := Kd.R_slice HO371.out; subst eo26) | ((with_reducible refine zay (b := .append) (xs := #[.tmp 55, .tmp 62]) rfl ?_); at_builtin; refine Kd.S_append (Kd.slice 3 (Kd.int .i64)) (w0 := w) w.heap.size rfl (.tmp 55) (.tmp 62) 40 24 (.slice none 0 0) 24 rfl Try.underlying40 info24 rfl (by decide) (by omega) u3 x3_2 y369 [.slice Ao26 y369.length co26] (fun _ => True) (fun k_ => some k_ = (.slice Ao26 y369.length co26 : Value).ownBlock) rfl rfl ?aP (fun k_ hk_ => ((Kd.R_mono (ok' := fun k_ => ((fun _ => True)) k_ ∧ some k_ ≠ (u3 : Value).ownBlock) (Kd.R_apart' (HO371.out) (Kd.S_typed HO_3.out) (by decide)) (fun k_ hk => ⟨trivial, hk.2⟩))).1 k_ hk_.symm) ?aF ?aO ?aB ?aS ?aL ?_; (case aP => exact Kd.M_row (Kd.R_mono (Kd.R_tight rfl (Kd.R_mono (ok' := fun k_ => ((fun _ => True)) k_ ∧ some k_ ≠ (u3 : Value).ownBlock) (Kd.R_apart' (HO371.out) (Kd.S_typed HO_3.out) (by decide)) (fun k_ hk => ⟨trivial, hk.2⟩))) (fun _ h_ => h_))); (case aB => exact (by repeat (first | (with_reducible first | exact HB.out | apply zac | apply zab | apply zad) | exact HB.out))); (case aF => exact (fun _ _ => trivial)); (case aO => exact (by (with_reducible repeat (first | apply Kd.S_alloc | apply Kd.S_drewN | apply Kd.S_drew)); exact Kd.S_mono HO_3.out (fun k_ hk => ⟨trivial, fun e_ => hk.2 e_⟩))); (case aS => exact (zam (by repeat (first | (with_reducible first | exact HB.out | apply zac | apply zab | apply zad) | exact HB.out)))); (case aL => have := LMc22.out; omega); intro v373 w25 ho hb hg hat; rw [← Ny372.out] at ho; have n0_ := zaa.mk (hb); have n1_ := zaa.mk (ho); clear HB; clear HO_3; clear HO371; have HB := n0_; have HO374 := n1_; clear n0_ n1_; clear ho hb hg hat)); try go_wp2_with (first | ((with_reducible refine zba (N := 61) rfl ?_); refine Kd.R_lit (Kd.int .i64) _ 3 ?hg (N := 61) ?hd (xs := ([x4_1, x6_2, 0] : List Int)) (inner := [.int .i64 x4_1, .int .i64 x6_2, .int .i64 0]) (ok := fun _ => True) (okp := fun _ => True) ?hr ?hp (fun _ hk => hk) trivial (Below.refl _ _) (Nat.le_refl _) (by simp) ?_; (case hd => rfl); (case hg => rfl); (case hr => first | (go_simp; done) | (go_simp; rfl)); (case hp => exact (Reps.one (show Kd.M (Kd.int .i64) _ _ _ x4_1 [.int .i64 x4_1] from rfl) (Reps.one (show Kd.M (Kd.int .i64) _ _ _ x6_2 [.int .i64 x6_2] from rfl) (Reps.one (show Kd.M (Kd.int .i64) _ _ _ 0 [.int .i64 0] from rfl) (Reps.none _ _))))); intro v370 w23 ho24 hb hg_ hnew_; clear hg_ hnew_; (first | rw [← Ny369.out] at ho24 | (simp only [Int.reduceToNat] at ho24; rw [← Ny369.out] at ho24)); have n0_ := zaa.mk (Kd.S_elder' (by (with_reducible repeat (first | apply Kd.S_alloc | apply Kd.S_drewN | apply Kd.S_drew)); exact HO_3.out) (Kd.R_base ho24) hb); have n1_ := zaa.mk (Kd.R_lower ho24 (zam (by repeat (first | (with_reducible first | exact HB.out | apply zac | apply zab | apply zad) | exact HB.out)))); have n2_ := zaa.mk (zah (by repeat (first | (with_reducible first | exact HB.out | apply zac | apply zab | apply zad) | exact HB.out)) hb); clear HO_3; clear HB; have HO_3 := n0_; have HO371 := n1_; have HB := n2_; clear n0_ n1_ n2_; clear hb ho24; obtain ⟨Ao26, co26, eo26⟩ := Kd.R_slice HO371.out; subst eo26) | ((with_reducible refine zay (b := .append) (xs := #[.tmp 55, .tmp 62]) rfl ?_); at_builtin; refine Kd.S_append (Kd.slice 3 (Kd.int .i64)) (w0 := w) w.heap.size rfl (.tmp 55) (.tmp 62) 40 24 (.slice none 0 0) 24 rfl Try.underlying40 info24 rfl (by decide) (by omega) u3 x3_2 y369 [.slice Ao26 y369.length co26] (fun _ => True) (fun k_ => some k_ = (.slice Ao26 y369.length co26 : Value).ownBlock) rfl rfl ?aP (fun k_ hk_ => ((Kd.R_mono (ok' := fun k_ => ((fun _ => True)) k_ ∧ some k_ ≠ (u3 : Value).ownBlock) (Kd.R_apart' (HO371.out) (Kd.S_typed HO_3.out) (by decide)) (fun k_ hk => ⟨trivial, hk.2⟩))).1 k_ hk_.symm) ?aF ?aO ?aB ?aS ?aL ?_; (case aP => exact Kd.M_row (Kd.R_mono (Kd.R_tight rfl (Kd.R_mono (ok' := fun k_ => ((fun _ => True)) k_ ∧ some k_ ≠ (u3 : Value).ownBlock) (Kd.R_apart' (HO371.out) (Kd.S_typed HO_3.out) (by decide)) (fun k_ hk => ⟨trivial, hk.2⟩))) (fun _ h_ => h_))); (case aB => exact (by repeat (first | (with_reducible first | exact HB.out | apply zac | apply zab | apply zad) | exact HB.out))); (case aF => exact (fun _ _ => trivial)); (case aO => exact (by (with_reducible repeat (first | apply Kd.S_alloc | apply Kd.S_drewN | apply Kd.S_drew)); exact Kd.S_mono HO_3.out (fun k_ hk => ⟨trivial, fun e_ => hk.2 e_⟩))); (case aS => exact (zam (by repeat (first | (with_reducible first | exact HB.out | apply zac | apply zab | apply zad) | exact HB.out)))); (case aL => have := LMc22.out; omega); intro v373 w25 ho hb hg hat; rw [← Ny372.out] at ho; have n0_ := zaa.mk (hb); have n1_ := zaa.mk (ho); clear HB; clear HO_3; clear HO371; have HB := n0_; have HO374 := n1_; clear n0_ n1_; clear ho hb hg hat)))
                go_roundg kj16
                case measure => have := HK1.out; have := HK2.out; have := HJ6.out; have := HJ16.out; omega
                case rel => exact ⟨(y372), ((-1)), (wrap64 (x6_2 + 1)), (by first | rfl | (simp; done) | (simp [*]; done)), (by first | rfl | (simp; done) | (simp [*]; done)), H', ⟨by have := HK1.out; have := HK2.out; have := HJ6.out; have := HJ16.out; omega⟩, ⟨by (with_reducible repeat (first | apply Kd.S_alloc | apply Kd.S_drewN | apply Kd.S_drew)); exact HO374.out⟩, ⟨by repeat (first | (with_reducible first | exact HB.out | apply zac | apply zab | apply zad) | exact HB.out)⟩⟩
               ·rw [if_neg c22] at H
                exact absurd H (by simp)
              ·rw [if_neg c21] at H
               have c21b0 : decide (0 ≤ x6_2) = false := decide_eq_false c21
               clear c21
               have H' := zaa.mk H
               clear H
               go_wp2
               repeat (go_quiet (fail); try go_wp2)
               go_roundg kj16
               case measure => have := HK1.out; have := HK2.out; have := HJ6.out; have := HJ16.out; omega
               case rel => exact ⟨(x3_2), (x6_2), (wrap64 (x6_2 + 1)), (by first | rfl | (simp; done) | (simp [*]; done)), (by first | rfl | (simp; done) | (simp [*]; done)), H', ⟨by have := HK1.out; have := HK2.out; have := HJ6.out; have := HJ16.out; omega⟩, ⟨by (with_reducible repeat (first | apply Kd.S_alloc | apply Kd.S_drewN | apply Kd.S_drew)); exact HO_3.out⟩, ⟨by repeat (first | (with_reducible first | exact HB.out | apply zac | apply zab | apply zad) | exact HB.out)⟩⟩
            ·replace c19 := Bool.eq_false_iff.mpr c19
             subst c19
             have H1 : (if x7_6 = true then (spec_l2Upright.l1 kj16 l0 x3_2 x4_1 x5_2 (wrap64 (x6_2 + 1))) else (if x5_2 ≥ 0 then (if x3_2.length < 5864062014805 then (spec_l2Upright.l1 kj16 l0 (x3_2 ++ [(([x4_1, x5_2, wrap64 (x6_2 - x5_2)] : List Int))]) x4_1 (-1) (wrap64 (x6_2 + 1))) else (none)) else (spec_l2Upright.l1 kj16 l0 x3_2 x4_1 x5_2 (wrap64 (x6_2 + 1))))) = some r := by rw [if_neg (show ¬ (false = true) by decide)] at H; exact H
             clear H
             have H := H1
             clear H1
             by_cases c27 : x7_6 = true
             ·subst c27
              have H1 : (spec_l2Upright.l1 kj16 l0 x3_2 x4_1 x5_2 (wrap64 (x6_2 + 1))) = some r := by rw [if_pos rfl] at H; exact H
              clear H
              have H := H1
              clear H1
              have H' := zaa.mk H
              clear H
              go_wp2
              repeat (go_quiet (fail); try go_wp2)
              go_roundg kj16
              case measure => have := HK1.out; have := HK2.out; have := HJ6.out; have := HJ16.out; omega
              case rel => exact ⟨(x3_2), (x5_2), (wrap64 (x6_2 + 1)), (by first | rfl | (simp; done) | (simp [*]; done)), (by first | rfl | (simp; done) | (simp [*]; done)), H', ⟨by have := HK1.out; have := HK2.out; have := HJ6.out; have := HJ16.out; omega⟩, ⟨by (with_reducible repeat (first | apply Kd.S_alloc | apply Kd.S_drewN | apply Kd.S_drew)); exact HO_3.out⟩, ⟨by repeat (first | (with_reducible first | exact HB.out | apply zac | apply zab | apply zad) | exact HB.out)⟩⟩
             ·replace c27 := Bool.eq_false_iff.mpr c27
              subst c27
              have H1 : (if x5_2 ≥ 0 then (if x3_2.length < 5864062014805 then (spec_l2Upright.l1 kj16 l0 (x3_2 ++ [(([x4_1, x5_2, wrap64 (x6_2 - x5_2)] : List Int))]) x4_1 (-1) (wrap64 (x6_2 + 1))) else (none)) else (spec_l2Upright.l1 kj16 l0 x3_2 x4_1 x5_2 (wrap64 (x6_2 + 1)))) = some r := by rw [if_neg (show ¬ (false = true) by decide)] at H; exact H
              clear H
              have H := H1
              clear H1
              by_cases c28 : x5_2 ≥ 0
              ·rw [if_pos c28] at H
               have c28b0 : decide (0 ≤ x5_2) = true := decide_eq_true c28
               clear c28
               obtain ⟨y375, hy375⟩ : ∃ y_ : List Int, y_ = (([x4_1, x5_2, wrap64 (x6_2 - x5_2)] : List Int)) := ⟨_, rfl⟩
               replace H : (if x3_2.length < 5864062014805 then (spec_l2Upright.l1 kj16 l0 (x3_2 ++ [y375]) x4_1 (-1) (wrap64 (x6_2 + 1))) else (none)) = some r := by first | (rw [hy375]; with_reducible exact H) | (have H2_ := (Option.bind_some _ _).symm.trans H; rw [hy375]; with_reducible exact H2_) | (have H2_ := (Option.bind_some _ _).symm.trans H; with_reducible exact H2_) | with_reducible exact H | (rw [hy375]; exact H) | exact H
               have Ny375 := zaa.mk hy375
               clear hy375
               by_cases c29 : x3_2.length < 5864062014805
               ·rw [if_pos c29] at H
                have LMc29 := zaa.mk c29
                clear c29
                obtain ⟨y378, hy378⟩ : ∃ y_ : List (List Int), y_ = (x3_2 ++ [y375]) := ⟨_, rfl⟩
                replace H : (spec_l2Upright.l1 kj16 l0 y378 x4_1 (-1) (wrap64 (x6_2 + 1))) = some r := by first | (rw [hy378]; with_reducible exact H) | (have H2_ := (Option.bind_some _ _).symm.trans H; rw [hy378]; with_reducible exact H2_) | (have H2_ := (Option.bind_some _ _).symm.trans H; with_reducible exact H2_) | with_reducible exact H | (rw [hy378]; exact H) | exact H
                have Ny378 := zaa.mk hy378
                clear hy378
                have H' := zaa.mk H
                clear H
                go_wp2_with (first | ((with_reducible refine zba (N := 61) rfl ?_); refine Kd.R_lit (Kd.int .i64) _ 3 ?hg (N := 61) ?hd (xs := ([x4_1, x5_2, wrap64 (x6_2 - x5_2)] : List Int)) (inner := [.int .i64 x4_1, .int .i64 x5_2, .int .i64 (wrap64 (x6_2 - x5_2))]) (ok := fun _ => True) (okp := fun _ => True) ?hr ?hp (fun _ hk => hk) trivial (Below.refl _ _) (Nat.le_refl _) (by simp) ?_; (case hd => rfl); (case hg => rfl); (case hr => first | (go_simp; done) | (go_simp; rfl)); (case hp => exact (Reps.one (show Kd.M (Kd.int .i64) _ _ _ x4_1 [.int .i64 x4_1] from rfl) (Reps.one (show Kd.M (Kd.int .i64) _ _ _ x5_2 [.int .i64 x5_2] from rfl) (Reps.one (show Kd.M (Kd.int .i64) _ _ _ (wrap64 (x6_2 - x5_2)) [.int .i64 (wrap64 (x6_2 - x5_2))] from rfl) (Reps.none _ _))))); intro v376 w30 ho31 hb hg_ hnew_; clear hg_ hnew_; (first | rw [← Ny375.out] at ho31 | (simp only [Int.reduceToNat] at ho31; rw [← Ny375.out] at ho31)); have n0_ := zaa.mk (Kd.S_elder' (by (with_reducible repeat (first | apply Kd.S_alloc | apply Kd.S_drewN | apply Kd.S_drew)); exact HO_3.out) (Kd.R_base ho31) hb); have n1_ := zaa.mk (Kd.R_lower ho31 (zam (by repeat (first | (with_reducible first | exact HB.out | apply zac | apply zab | apply zad) | exact HB.out)))); have n2_ := zaa.mk (zah (by repeat (first | (with_reducible first | exact HB.out | apply zac | apply zab | apply zad) | exact HB.out)) hb); clear HO_3; clear HB; have HO_3 := n0_; have HO377 := n1_; have HB := n2_; clear n0_ n1_ n2_; clear hb ho31; obtain ⟨Ao33, co33, eo33⟩ := Kd.R_slice HO377.out; subst eo33) | ((with_reducible refine zay (b := .append) (xs := #[.tmp 55, .tmp 62]) rfl ?_); at_builtin; refine Kd.S_append (Kd.slice 3 (Kd.int .i64)) (w0 := w) w.heap.size rfl (.tmp 55) (.tmp 62) 40 24 (.slice none 0 0) 24 rfl Try.underlying40 info24 rfl (by decide) (by omega) u3 x3_2 y375 [.slice Ao33 y375.length co33] (fun _ => True) (fun k_ => some k_ = (.slice Ao33 y375.length co33 : Value).ownBlock) rfl rfl ?aP (fun k_ hk_ => ((Kd.R_mono (ok' := fun k_ => ((fun _ => True)) k_ ∧ some k_ ≠ (u3 : Value).ownBlock) (Kd.R_apart' (HO377.out) (Kd.S_typed HO_3.out) (by decide)) (fun k_ hk => ⟨trivial, hk.2⟩))).1 k_ hk_.symm) ?aF ?aO ?aB ?aS ?aL ?_; (case aP => exact Kd.M_row (Kd.R_mono (Kd.R_tight rfl (Kd.R_mono (ok' := fun k_ => ((fun _ => True)) k_ ∧ some k_ ≠ (u3 : Value).ownBlock) (Kd.R_apart' (HO377.out) (Kd.S_typed HO_3.out) (by decide)) (fun k_ hk => ⟨trivial, hk.2⟩))) (fun _ h_ => h_))); (case aB => exact (by repeat (first | (with_reducible first | exact HB.out | apply zac | apply zab | apply zad) | exact HB.out))); (case aF => exact (fun _ _ => trivial)); (case aO => exact (by (with_reducible repeat (first | apply Kd.S_alloc | apply Kd.S_drewN | apply Kd.S_drew)); exact Kd.S_mono HO_3.out (fun k_ hk => ⟨trivial, fun e_ => hk.2 e_⟩))); (case aS => exact (zam (by repeat (first | (with_reducible first | exact HB.out | apply zac | apply zab | apply zad) | exact HB.out)))); (case aL => have := LMc29.out; omega); intro v379 w32 ho hb hg hat; rw [← Ny378.out] at ho; have n0_ := zaa.mk (hb); have n1_ := zaa.mk (ho); clear HB; clear HO_3; clear HO377; have HB := n0_; have HO380 := n1_; clear n0_ n1_; clear ho hb hg hat))
                repeat (go_quiet (first | ((with_reducible refine zba (N := 61) rfl ?_); refine Kd.R_lit (Kd.int .i64) _ 3 ?hg (N := 61) ?hd (xs := ([x4_1, x5_2, wrap64 (x6_2 - x5_2)] : List Int)) (inner := [.int .i64 x4_1, .int .i64 x5_2, .int .i64 (wrap64 (x6_2 - x5_2))]) (ok := fun _ => True) (okp := fun _ => True) ?hr ?hp (fun _ hk => hk) trivial (Below.refl _ _) (Nat.le_refl _) (by simp) ?_; (case hd => rfl); (case hg => rfl); (case hr => first | (go_simp; done) | (go_simp; rfl)); (case hp => exact (Reps.one (show Kd.M (Kd.int .i64) _ _ _ x4_1 [.int .i64 x4_1] from rfl) (Reps.one (show Kd.M (Kd.int .i64) _ _ _ x5_2 [.int .i64 x5_2] from rfl) (Reps.one (show Kd.M (Kd.int .i64) _ _ _ (wrap64 (x6_2 - x5_2)) [.int .i64 (wrap64 (x6_2 - x5_2))] from rfl) (Reps.none _ _))))); intro v376 w30 ho31 hb hg_ hnew_; clear hg_ hnew_; (first | rw [← Ny375.out] at ho31 | (simp only [Int.reduceToNat] at ho31; rw [← Ny375.out] at ho31)); have n0_ := zaa.mk (Kd.S_elder' (by (with_reducible repeat (first | apply Kd.S_alloc | apply Kd.S_drewN | apply Kd.S_drew)); exact HO_3.out) (Kd.R_base ho31) hb); have n1_ := zaa.mk (Kd.R_lower ho31 (zam (by repeat (first | (with_reducible first | exact HB.out | apply zac | apply zab | apply zad) | exact HB.out)))); have n2_ := zaa.mk (zah (by repeat (first | (with_reducible first | exact HB.out | apply zac | apply zab | apply zad) | exact HB.out)) hb); clear HO_3; clear HB; have HO_3 := n0_; have HO377 := n1_; have HB := n2_; clear n0_ n1_ n2_; clear hb ho31; obtain ⟨Ao33, co33, eo33⟩ := Kd.R_slice HO377.out; subst eo33) | ((with_reducible refine zay (b := .append) (xs := #[.tmp 55, .tmp 62]) rfl ?_); at_builtin; refine Kd.S_append (Kd.slice 3 (Kd.int .i64)) (w0 := w) w.heap.size rfl (.tmp 55) (.tmp 62) 40 24 (.slice none 0 0) 24 rfl Try.underlying40 info24 rfl (by decide) (by omega) u3 x3_2 y375 [.slice Ao33 y375.length co33] (fun _ => True) (fun k_ => some k_ = (.slice Ao33 y375.length co33 : Value).ownBlock) rfl rfl ?aP (fun k_ hk_ => ((Kd.R_mono (ok' := fun k_ => ((fun _ => True)) k_ ∧ some k_ ≠ (u3 : Value).ownBlock) (Kd.R_apart' (HO377.out) (Kd.S_typed HO_3.out) (by decide)) (fun k_ hk => ⟨trivial, hk.2⟩))).1 k_ hk_.symm) ?aF ?aO ?aB ?aS ?aL ?_; (case aP => exact Kd.M_row (Kd.R_mono (Kd.R_tight rfl (Kd.R_mono (ok' := fun k_ => ((fun _ => True)) k_ ∧ some k_ ≠ (u3 : Value).ownBlock) (Kd.R_apart' (HO377.out) (Kd.S_typed HO_3.out) (by decide)) (fun k_ hk => ⟨trivial, hk.2⟩))) (fun _ h_ => h_))); (case aB => exact (by repeat (first | (with_reducible first | exact HB.out | apply zac | apply zab | apply zad) | exact HB.out))); (case aF => exact (fun _ _ => trivial)); (case aO => exact (by (with_reducible repeat (first | apply Kd.S_alloc | apply Kd.S_drewN | apply Kd.S_drew)); exact Kd.S_mono HO_3.out (fun k_ hk => ⟨trivial, fun e_ => hk.2 e_⟩))); (case aS => exact (zam (by repeat (first | (with_reducible first | exact HB.out | apply zac | apply zab | apply zad) | exact HB.out)))); (case aL => have := LMc29.out; omega); intro v379 w32 ho hb hg hat; rw [← Ny378.out] at ho; have n0_ := zaa.mk (hb); have n1_ := zaa.mk (ho); clear HB; clear HO_3; clear HO377; have HB := n0_; have HO380 := n1_; clear n0_ n1_; clear ho hb hg hat)); try go_wp2_with (first | ((with_reducible refine zba (N := 61) rfl ?_); refine Kd.R_lit (Kd.int .i64) _ 3 ?hg (N := 61) ?hd (xs := ([x4_1, x5_2, wrap64 (x6_2 - x5_2)] : List Int)) (inner := [.int .i64 x4_1, .int .i64 x5_2, .int .i64 (wrap64 (x6_2 - x5_2))]) (ok := fun _ => True) (okp := fun _ => True) ?hr ?hp (fun _ hk => hk) trivial (Below.refl _ _) (Nat.le_refl _) (by simp) ?_; (case hd => rfl); (case hg => rfl); (case hr => first | (go_simp; done) | (go_simp; rfl)); (case hp => exact (Reps.one (show Kd.M (Kd.int .i64) _ _ _ x4_1 [.int .i64 x4_1] from rfl) (Reps.one (show Kd.M (Kd.int .i64) _ _ _ x5_2 [.int .i64 x5_2] from rfl) (Reps.one (show Kd.M (Kd.int .i64) _ _ _ (wrap64 (x6_2 - x5_2)) [.int .i64 (wrap64 (x6_2 - x5_2))] from rfl) (Reps.none _ _))))); intro v376 w30 ho31 hb hg_ hnew_; clear hg_ hnew_; (first | rw [← Ny375.out] at ho31 | (simp only [Int.reduceToNat] at ho31; rw [← Ny375.out] at ho31)); have n0_ := zaa.mk (Kd.S_elder' (by (with_reducible repeat (first | apply Kd.S_alloc | apply Kd.S_drewN | apply Kd.S_drew)); exact HO_3.out) (Kd.R_base ho31) hb); have n1_ := zaa.mk (Kd.R_lower ho31 (zam (by repeat (first | (with_reducible first | exact HB.out | apply zac | apply zab | apply zad) | exact HB.out)))); have n2_ := zaa.mk (zah (by repeat (first | (with_reducible first | exact HB.out | apply zac | apply zab | apply zad) | exact HB.out)) hb); clear HO_3; clear HB; have HO_3 := n0_; have HO377 := n1_; have HB := n2_; clear n0_ n1_ n2_; clear hb ho31; obtain ⟨Ao33, co33, eo33⟩ := Kd.R_slice HO377.out; subst eo33) | ((with_reducible refine zay (b := .append) (xs := #[.tmp 55, .tmp 62]) rfl ?_); at_builtin; refine Kd.S_append (Kd.slice 3 (Kd.int .i64)) (w0 := w) w.heap.size rfl (.tmp 55) (.tmp 62) 40 24 (.slice none 0 0) 24 rfl Try.underlying40 info24 rfl (by decide) (by omega) u3 x3_2 y375 [.slice Ao33 y375.length co33] (fun _ => True) (fun k_ => some k_ = (.slice Ao33 y375.length co33 : Value).ownBlock) rfl rfl ?aP (fun k_ hk_ => ((Kd.R_mono (ok' := fun k_ => ((fun _ => True)) k_ ∧ some k_ ≠ (u3 : Value).ownBlock) (Kd.R_apart' (HO377.out) (Kd.S_typed HO_3.out) (by decide)) (fun k_ hk => ⟨trivial, hk.2⟩))).1 k_ hk_.symm) ?aF ?aO ?aB ?aS ?aL ?_; (case aP => exact Kd.M_row (Kd.R_mono (Kd.R_tight rfl (Kd.R_mono (ok' := fun k_ => ((fun _ => True)) k_ ∧ some k_ ≠ (u3 : Value).ownBlock) (Kd.R_apart' (HO377.out) (Kd.S_typed HO_3.out) (by decide)) (fun k_ hk => ⟨trivial, hk.2⟩))) (fun _ h_ => h_))); (case aB => exact (by repeat (first | (with_reducible first | exact HB.out | apply zac | apply zab | apply zad) | exact HB.out))); (case aF => exact (fun _ _ => trivial)); (case aO => exact (by (with_reducible repeat (first | apply Kd.S_alloc | apply Kd.S_drewN | apply Kd.S_drew)); exact Kd.S_mono HO_3.out (fun k_ hk => ⟨trivial, fun e_ => hk.2 e_⟩))); (case aS => exact (zam (by repeat (first | (with_reducible first | exact HB.out | apply zac | apply zab | apply zad) | exact HB.out)))); (case aL => have := LMc29.out; omega); intro v379 w32 ho hb hg hat; rw [← Ny378.out] at ho; have n0_ := zaa.mk (hb); have n1_ := zaa.mk (ho); clear HB; clear HO_3; clear HO377; have HB := n0_; have HO380 := n1_; clear n0_ n1_; clear ho hb hg hat)))
                go_roundg kj16
                case measure => have := HK1.out; have := HK2.out; have := HJ6.out; have := HJ16.out; omega
                case rel => exact ⟨(y378), ((-1)), (wrap64 (x6_2 + 1)), (by first | rfl | (simp; done) | (simp [*]; done)), (by first | rfl | (simp; done) | (simp [*]; done)), H', ⟨by have := HK1.out; have := HK2.out; have := HJ6.out; have := HJ16.out; omega⟩, ⟨by (with_reducible repeat (first | apply Kd.S_alloc | apply Kd.S_drewN | apply Kd.S_drew)); exact HO380.out⟩, ⟨by repeat (first | (with_reducible first | exact HB.out | apply zac | apply zab | apply zad) | exact HB.out)⟩⟩
               ·rw [if_neg c29] at H
                exact absurd H (by simp)
              ·rw [if_neg c28] at H
               have c28b0 : decide (0 ≤ x5_2) = false := decide_eq_false c28
               clear c28
               have H' := zaa.mk H
               clear H
               go_wp2
               repeat (go_quiet (fail); try go_wp2)
               go_roundg kj16
               case measure => have := HK1.out; have := HK2.out; have := HJ6.out; have := HJ16.out; omega
               case rel => exact ⟨(x3_2), (x5_2), (wrap64 (x6_2 + 1)), (by first | rfl | (simp; done) | (simp [*]; done)), (by first | rfl | (simp; done) | (simp [*]; done)), H', ⟨by have := HK1.out; have := HK2.out; have := HJ6.out; have := HJ16.out; omega⟩, ⟨by (with_reducible repeat (first | apply Kd.S_alloc | apply Kd.S_drewN | apply Kd.S_drew)); exact HO_3.out⟩, ⟨by repeat (first | (with_reducible first | exact HB.out | apply zac | apply zab | apply zad) | exact HB.out)⟩⟩
       ·rw [if_neg c6] at H
        have c6b0 : decide (x6_2 ≤ (l0.length : Int)) = false := decide_eq_false c6
        clear c6
        have H' := zaa.mk H
        clear H
        go_wp2
        repeat (go_quiet (fail); try go_wp2)
        go_roundg k2
        case measure => have := HK1.out; have := HK2.out; omega
        case rel => exact ⟨(x3_2), (wrap64 (x4_1 + 1)), (by first | rfl | (simp; done) | (simp [*]; done)), H', ⟨by have := HK1.out; have := HK2.out; omega⟩, ⟨by (with_reducible repeat (first | apply Kd.S_alloc | apply Kd.S_drewN | apply Kd.S_drew)); exact HO_3.out⟩, ⟨by repeat (first | (with_reducible first | exact HB.out | apply zac | apply zab | apply zad) | exact HB.out)⟩⟩
    ·rw [if_neg c5] at H
     have c5b0 : decide (x4_1 < ((rdOf ByteArray.empty l0 0).size : Int)) = false := decide_eq_false c5
     clear c5
     obtain rfl := Option.some.inj H
     have p366 : 0 ≤ (0 : Int) := (by omega)
     have q366 : 0 < (l0.length : Int) := of_decide_eq_true (by first | (with_reducible assumption) | assumption)
     obtain ⟨ad366, e366, hx366_0⟩ := Kd.at_string HR0.out 0 p366 q366
     cases e366
     have qi366 : (0 < l0.length) = True := eq_true (by omega)
     (try rw [show ((0 : Int)).toNat = 0 from rfl] at hx366_0)
     (try rw [Addr.add_zero'] at hx366_0)
     replace hx366_0 := (HB.out.cell (World.block_lt_of_cell? w _ hx366_0)).trans hx366_0
     replace p366 := eq_true p366
     replace q366 := eq_true q366
     go_wp2
     repeat (go_quiet (fail); try go_wp2)
     go_ret
     exact ⟨_, by first | rfl | (simp [zaq, zap] <;> rfl) | (simp [*, zaq, zap] <;> rfl), by (with_reducible repeat (first | apply Kd.S_alloc | apply Kd.S_drewN | apply Kd.S_drew)); exact HO_3.out, by repeat (first | (with_reducible first | exact HB.out | apply zac | apply zab | apply zad) | exact HB.out)⟩
   ·rw [if_neg c4] at H
    exact absurd H (by simp)
end Go.Proofs.Ytickdcegnlldjaa.PB
namespace Go.Proofs.Ytickdcegnlldjaa.PB
open Go.RowKit Go.PW.PrintWords Go.PW.PrintLast Go.PW.PrintMore
attribute [local go_sem] zbx zbv zck zcj zbq zbp zbw zbu   -- for this text's walks alone
mutual
def spec_l1Trans.l0 : Nat → List ByteArray → List ByteArray → Int → Option (List ByteArray)
 | 0, _, _, _ => none
 | k + 1, x0, x3, x4 => if 0 < (x0.length : Int) then (if x4 < ((rdOf ByteArray.empty x0 0).size : Int) then (spec_l1Trans.l1 k x0 x3 x4 (([] : List Int)) 0) else (some x3)) else (none)
def spec_l1Trans.l1 : Nat → List ByteArray → List ByteArray → Int → List Int → Int → Option (List ByteArray)
 | 0, _, _, _, _, _ => none
 | k + 1, x0, x3, x4, x5, x6 => if x6 < (x0.length : Int) then (if 0 ≤ x6 then (if 0 ≤ x4 then (if x4 < ((rdOf ByteArray.empty x0 x6).size : Int) then (if x5.length < 140737488355328 then (spec_l1Trans.l1 k x0 x3 x4 (x5 ++ [bt (rdOf ByteArray.empty x0 x6) x4]) (wrap64 (x6 + 1))) else (none)) else (none)) else (none)) else (none)) else (if x3.length < 8796093022208 then (spec_l1Trans.l0 k x0 (x3 ++ [strOfNums x5]) (wrap64 (x4 + 1))) else (none))
end
def spec_l1Trans.f (k : Nat) (l0 : List ByteArray) : Option (List ByteArray) := spec_l1Trans.l0 k l0 (([] : List ByteArray)) 0
set_option maxHeartbeats 8000000 in
set_option maxRecDepth 100000 in
theorem spec_l1Trans.calls (k : Nat) (A0 : Option Addr) (c0 : Nat) (l0 : List ByteArray) (r : List ByteArray) (w : World) (hr0 : Kd.C Kd.string w A0 l0.length l0) (hc0 : l0.length ≤ c0) (h : spec_l1Trans.f k l0 = some r) :
  Calls Try.prog 47 #[.slice A0 l0.length c0] w fun e w' => ∃ v0_ : Value, e = .returned (v0_) ∧ Kd.R Kd.string 9 w' w.heap.size (fun _ => True) v0_ r ∧ Below w.heap.size w w' := by
 have HR0 := zaa.mk hr0
 have HC0 := zaa.mk hc0
 clear hr0 hc0
 have HB := zaa.mk (Below.refl w.heap.size w)
 have H : (spec_l1Trans.l0 k l0 (([] : List ByteArray)) 0) = some r := h
 clear h
 obtain ⟨y166, hy166⟩ : ∃ y_ : List ByteArray, y_ = (([] : List ByteArray)) := ⟨_, rfl⟩
 replace H : (spec_l1Trans.l0 k l0 y166 0) = some r := by first | (rw [hy166]; with_reducible exact H) | (have H2_ := (Option.bind_some _ _).symm.trans H; rw [hy166]; with_reducible exact H2_) | (have H2_ := (Option.bind_some _ _).symm.trans H; with_reducible exact H2_) | with_reducible exact H | (rw [hy166]; exact H) | exact H
 have Ny166 := zaa.mk hy166
 clear hy166
 have H' := zaa.mk H
 clear H
 go_enter Try.func47, Try.ntmps47
 go_wp2_with (first | ((with_reducible refine zba (N := 7) rfl ?_); refine Kd.R_lit Kd.string _ 9 ?hg (N := 7) ?hd (xs := ([] : List ByteArray)) (inner := []) (ok := fun _ => True) (okp := fun _ => True) ?hr ?hp (fun _ hk => hk) trivial (Below.refl _ _) (Nat.le_refl _) (by simp) ?_; (case hd => rfl); (case hg => rfl); (case hr => first | (go_simp; done) | (go_simp; rfl)); (case hp => exact (Reps.none _ _)); intro v167 w2 ho3 hb hg_ hnew_; clear hg_ hnew_; (first | rw [← Ny166.out] at ho3 | (simp only [Int.reduceToNat] at ho3; rw [← Ny166.out] at ho3)); have n0_ := zaa.mk (Kd.R_lower ho3 (zam (by repeat (first | (with_reducible first | exact HB.out | apply zac | apply zab | apply zad) | exact HB.out)))); have n1_ := zaa.mk (zah (by repeat (first | (with_reducible first | exact HB.out | apply zac | apply zab | apply zad) | exact HB.out)) hb); clear HB; have HO168 := n0_; have HB := n1_; clear n0_ n1_; clear hb ho3))
 go_loopg [3, 4] k (fun kq v3 v4 w' => ∃ (x3_1 : List ByteArray) (x4_1 : Int), v4 = .int .i64 x4_1 ∧ zaa (spec_l1Trans.l0 kq l0 x3_1 x4_1 = some r) ∧ zaa (kq ≤ k) ∧ zaa (Kd.R Kd.string 9 w' w.heap.size (fun _ => True) v3 x3_1) ∧ zaa (Below w.heap.size w w'))
 case atStart => exact ⟨(y166), (0), (by first | rfl | (simp; done) | (simp [*]; done)), H', ⟨Nat.le_refl _⟩, ⟨by (with_reducible repeat (first | apply Kd.R_alloc | apply Kd.R_drewN | apply Kd.R_drew)); exact HO168.out⟩, ⟨by repeat (first | (with_reducible first | exact HB.out | apply zac | apply zab | apply zad) | exact HB.out)⟩⟩
 case round =>
  clear H'
  try clear p2
  obtain ⟨x3_1, x4_1, rfl, HA, HK1, HO_3, HB⟩ := hrel
  cases gk with
  | zero => exact absurd HA.out (by simp [spec_l1Trans.l0])
  | succ k1 =>
   have H := HA.out
   clear HA
   simp only [spec_l1Trans.l0] at H
   by_cases c4 : 0 < (l0.length : Int)
   ·rw [if_pos c4] at H
    have c4b0 : decide (0 < (l0.length : Int)) = true := decide_eq_true c4
    have c4b1 : decide (0 < l0.length) = true := decide_eq_true (by omega)
    clear c4
    by_cases c5 : x4_1 < ((rdOf ByteArray.empty l0 0).size : Int)
    ·rw [if_pos c5] at H
     have c5b0 : decide (x4_1 < ((rdOf ByteArray.empty l0 0).size : Int)) = true := decide_eq_true c5
     clear c5
     obtain ⟨y170, hy170⟩ : ∃ y_ : List Int, y_ = (([] : List Int)) := ⟨_, rfl⟩
     replace H : (spec_l1Trans.l1 k1 l0 x3_1 x4_1 y170 0) = some r := by first | (rw [hy170]; with_reducible exact H) | (have H2_ := (Option.bind_some _ _).symm.trans H; rw [hy170]; with_reducible exact H2_) | (have H2_ := (Option.bind_some _ _).symm.trans H; with_reducible exact H2_) | with_reducible exact H | (rw [hy170]; exact H) | exact H
     have Ny170 := zaa.mk hy170
     clear hy170
     have H' := zaa.mk H
     clear H
     have p169 : 0 ≤ (0 : Int) := (by omega)
     have q169 : 0 < (l0.length : Int) := of_decide_eq_true (by first | (with_reducible assumption) | assumption)
     obtain ⟨ad169, e169, hx169_0⟩ := Kd.at_string HR0.out 0 p169 q169
     cases e169
     have qi169 : (0 < l0.length) = True := eq_true (by omega)
     (try rw [show ((0 : Int)).toNat = 0 from rfl] at hx169_0)
     (try rw [Addr.add_zero'] at hx169_0)
     replace hx169_0 := (HB.out.cell (World.block_lt_of_cell? w _ hx169_0)).trans hx169_0
     replace p169 := eq_true p169
     replace q169 := eq_true q169
     go_wp2_with (first | ((with_reducible refine zba (N := 16) rfl ?_); refine Kd.R_lit (Kd.int .u8) _ 5 ?hg (N := 16) ?hd (xs := ([] : List Int)) (inner := []) (ok := fun _ => True) (okp := fun _ => True) ?hr ?hp (fun _ hk => hk) trivial (Below.refl _ _) (Nat.le_refl _) (by simp) ?_; (case hd => rfl); (case hg => rfl); (case hr => first | (go_simp; done) | (go_simp; rfl)); (case hp => exact (Reps.none _ _)); intro v171 w6 ho7 hb hg_ hnew_; clear hg_ hnew_; (first | rw [← Ny170.out] at ho7 | (simp only [Int.reduceToNat] at ho7; rw [← Ny170.out] at ho7)); have n0_ := zaa.mk (Kd.R_below (by (with_reducible repeat (first | apply Kd.R_alloc | apply Kd.R_drewN | apply Kd.R_drew)); exact HO_3.out) hb); have n1_ := zaa.mk (Kd.R_lower ho7 (zam (by repeat (first | (with_reducible first | exact HB.out | apply zac | apply zab | apply zad) | exact HB.out)))); have n2_ := zaa.mk (zah (by repeat (first | (with_reducible first | exact HB.out | apply zac | apply zab | apply zad) | exact HB.out)) hb); clear HO_3; clear HB; have HO_3 := n0_; have HO172 := n1_; have HB := n2_; clear n0_ n1_ n2_; clear hb ho7))
     go_loopg [5, 6] k1 (fun kq v5 v6 w' => ∃ (x5_2 : List Int) (x6_2 : Int), v6 = .int .i64 x6_2 ∧ zaa (spec_l1Trans.l1 kq l0 x3_1 x4_1 x5_2 x6_2 = some r) ∧ zaa (kq ≤ k1) ∧ zaa (Kd.R Kd.string 9 w' w.heap.size (fun _ => True) u3 x3_1) ∧ zaa (Kd.R (Kd.int .u8) 5 w' w.heap.size (fun _ => True) v5 x5_2) ∧ zaa (Below w.heap.size w w'))
     case atStart => exact ⟨(y170), (0), (by first | rfl | (simp; done) | (simp [*]; done)), H', ⟨Nat.le_refl _⟩, ⟨by (with_reducible repeat (first | apply Kd.R_alloc | apply Kd.R_drewN | apply Kd.R_drew)); exact HO_3.out⟩, ⟨by (with_reducible repeat (first | apply Kd.R_alloc | apply Kd.R_drewN | apply Kd.R_drew)); exact HO172.out⟩, ⟨by repeat (first | (with_reducible first | exact HB.out | apply zac | apply zab | apply zad) | exact HB.out)⟩⟩
     case round =>
      clear H'
      try clear p1
      try clear q1
      try clear hx1
      try clear qi1
      try clear p2
      try clear c4
      try clear c4b0
      try clear c4b1
      try clear c5
      try clear c5b0
      try clear hx169_0
      try clear p169
      try clear p2
      try clear q169
      obtain ⟨x5_2, x6_2, rfl, HA, HK2, HO_3, HO_5, HB⟩ := hrel
      cases gk with
      | zero => exact absurd HA.out (by simp [spec_l1Trans.l1])
      | succ k2 =>
       have H := HA.out
       clear HA
       simp only [spec_l1Trans.l1] at H
       by_cases c8 : x6_2 < (l0.length : Int)
       ·rw [if_pos c8] at H
        have c8b0 : decide (x6_2 < (l0.length : Int)) = true := decide_eq_true c8
        clear c8
        by_cases c9 : 0 ≤ x6_2
        ·rw [if_pos c9] at H
         have c9b0 : decide (0 ≤ x6_2) = true := decide_eq_true c9
         clear c9
         by_cases c10 : 0 ≤ x4_1
         ·rw [if_pos c10] at H
          have c10b0 : decide (0 ≤ x4_1) = true := decide_eq_true c10
          clear c10
          by_cases c11 : x4_1 < ((rdOf ByteArray.empty l0 x6_2).size : Int)
          ·rw [if_pos c11] at H
           have c11b0 : decide (x4_1 < ((rdOf ByteArray.empty l0 x6_2).size : Int)) = true := decide_eq_true c11
           clear c11
           by_cases c13 : x5_2.length < 140737488355328
           ·rw [if_pos c13] at H
            have LMc13 := zaa.mk c13
            clear c13
            obtain ⟨y174, hy174⟩ : ∃ y_ : List Int, y_ = (x5_2 ++ [bt (rdOf ByteArray.empty l0 x6_2) x4_1]) := ⟨_, rfl⟩
            replace H : (spec_l1Trans.l1 k2 l0 x3_1 x4_1 y174 (wrap64 (x6_2 + 1))) = some r := by first | (rw [hy174]; with_reducible exact H) | (have H2_ := (Option.bind_some _ _).symm.trans H; rw [hy174]; with_reducible exact H2_) | (have H2_ := (Option.bind_some _ _).symm.trans H; with_reducible exact H2_) | with_reducible exact H | (rw [hy174]; exact H) | exact H
            have Ny174 := zaa.mk hy174
            clear hy174
            have H' := zaa.mk H
            clear H
            have p173 : 0 ≤ (x6_2 : Int) := of_decide_eq_true (by first | (with_reducible assumption) | assumption)
            have q173 : x6_2 < (l0.length : Int) := of_decide_eq_true (by first | (with_reducible assumption) | assumption)
            obtain ⟨ad173, e173, hx173_0⟩ := Kd.at_string HR0.out x6_2 p173 q173
            obtain rfl : ad169 = ad173 := (by injection e173)
            replace hx173_0 := (HB.out.cell (World.block_lt_of_cell? w _ hx173_0)).trans hx173_0
            replace p173 := eq_true p173
            replace q173 := eq_true q173
            have p12 : 0 ≤ (x4_1 : Int) := of_decide_eq_true (by first | (with_reducible assumption) | assumption)
            have q12 : x4_1 < ((rdOf ByteArray.empty l0 x6_2).size : Int) := of_decide_eq_true (by first | (with_reducible assumption) | assumption)
            have hx12 := bt_at (rdOf ByteArray.empty l0 x6_2) x4_1
            replace p12 := eq_true p12
            replace q12 := eq_true q12
            go_wp2_with (first | ((with_reducible refine zay (b := .append) (xs := #[.tmp 23, .tmp 30]) rfl ?_); at_builtin; refine Kd.R_append (Kd.int .u8) (w0 := w) w.heap.size rfl (.tmp 23) (.tmp 30) 32 5 (.int .u8 0) 1 rfl Try.underlying32 info5 rfl (by decide) (by omega) u5 x5_2 (bt (rdOf ByteArray.empty l0 x6_2) x4_1) [.int .u8 (bt (rdOf ByteArray.empty l0 x6_2) x4_1)] (fun _ => True) (fun _ => False) rfl rfl ?aP (fun _ hk => hk.elim) ?aF ?aO ?aB ?aS ?aL ?_; (case aP => exact rfl); (case aB => exact (by repeat (first | (with_reducible first | exact HB.out | apply zac | apply zab | apply zad) | exact HB.out))); (case aF => exact (fun _ _ => trivial)); (case aO => exact (by (with_reducible repeat (first | apply Kd.R_alloc | apply Kd.R_drewN | apply Kd.R_drew)); exact HO_5.out)); (case aS => exact (zam (by repeat (first | (with_reducible first | exact HB.out | apply zac | apply zab | apply zad) | exact HB.out)))); (case aL => have := LMc13.out; omega); intro v175 w14 ho hb hg hat; rw [← Ny174.out] at ho; have n0_ := zaa.mk (Kd.R_over' (by (with_reducible repeat (first | apply Kd.R_alloc | apply Kd.R_drewN | apply Kd.R_drew)); exact HO_3.out) (Kd.R_typed (by (with_reducible repeat (first | apply Kd.R_alloc | apply Kd.R_drewN | apply Kd.R_drew)); exact HO_5.out)) (by decide) hg); have n1_ := zaa.mk (hb); have n2_ := zaa.mk (ho); clear HO_3; clear HB; clear HO_5; have HO_3 := n0_; have HB := n1_; have HO176 := n2_; clear n0_ n1_ n2_; clear ho hb hg hat))
            go_roundg k2
            case measure => have := HK1.out; have := HK2.out; omega
            case rel => exact ⟨(y174), (wrap64 (x6_2 + 1)), (by first | rfl | (simp; done) | (simp [*]; done)), H', ⟨by have := HK1.out; have := HK2.out; omega⟩, ⟨by (with_reducible repeat (first | apply Kd.R_alloc | apply Kd.R_drewN | apply Kd.R_drew)); exact HO_3.out⟩, ⟨by (with_reducible repeat (first | apply Kd.R_alloc | apply Kd.R_drewN | apply Kd.R_drew)); exact HO176.out⟩, ⟨by repeat (first | (with_reducible first | exact HB.out | apply zac | apply zab | apply zad) | exact HB.out)⟩⟩
           ·rw [if_neg c13] at H
            exact absurd H (by simp)
          ·rw [if_neg c11] at H
           exact absurd H (by simp)
         ·rw [if_neg c10] at H
          exact absurd H (by simp)
        ·rw [if_neg c9] at H
         exact absurd H (by simp)
       ·rw [if_neg c8] at H
        have c8b0 : decide (x6_2 < (l0.length : Int)) = false := decide_eq_false c8
        clear c8
        by_cases c15 : x3_1.length < 8796093022208
        ·rw [if_pos c15] at H
         have LMc15 := zaa.mk c15
         clear c15
         obtain ⟨y177, hy177⟩ : ∃ y_ : List ByteArray, y_ = (x3_1 ++ [strOfNums x5_2]) := ⟨_, rfl⟩
         replace H : (spec_l1Trans.l0 k2 l0 y177 (wrap64 (x4_1 + 1))) = some r := by first | (rw [hy177]; with_reducible exact H) | (have H2_ := (Option.bind_some _ _).symm.trans H; rw [hy177]; with_reducible exact H2_) | (have H2_ := (Option.bind_some _ _).symm.trans H; with_reducible exact H2_) | with_reducible exact H | (rw [hy177]; exact H) | exact H
         have Ny177 := zaa.mk hy177
         clear hy177
         have H' := zaa.mk H
         clear H
         have hcv16 := own_string (P := Try.prog) Try.underlying32 Try.underlying5 Try.underlying9 (Kd.own_of_R HO_5.out)
         go_wp2_with (first | ((with_reducible refine zay (b := .append) (xs := #[.tmp 32, .tmp 35]) rfl ?_); at_builtin; refine Kd.R_append Kd.string (w0 := w) w.heap.size rfl (.tmp 32) (.tmp 35) 22 9 (.string ⟨#[]⟩) 16 rfl Try.underlying22 info9 rfl (by decide) (by omega) u3 x3_1 (strOfNums x5_2) [.string (strOfNums x5_2)] (fun _ => True) (fun _ => False) rfl rfl ?aP (fun _ hk => hk.elim) ?aF ?aO ?aB ?aS ?aL ?_; (case aP => exact rfl); (case aB => exact (by repeat (first | (with_reducible first | exact HB.out | apply zac | apply zab | apply zad) | exact HB.out))); (case aF => exact (fun _ _ => trivial)); (case aO => exact (by (with_reducible repeat (first | apply Kd.R_alloc | apply Kd.R_drewN | apply Kd.R_drew)); exact HO_3.out)); (case aS => exact (zam (by repeat (first | (with_reducible first | exact HB.out | apply zac | apply zab | apply zad) | exact HB.out)))); (case aL => have := LMc15.out; omega); intro v178 w17 ho hb hg hat; rw [← Ny177.out] at ho; have n0_ := zaa.mk (Kd.R_over' (by (with_reducible repeat (first | apply Kd.R_alloc | apply Kd.R_drewN | apply Kd.R_drew)); exact HO_5.out) (Kd.R_typed (by (with_reducible repeat (first | apply Kd.R_alloc | apply Kd.R_drewN | apply Kd.R_drew)); exact HO_3.out)) (by decide) hg); have n1_ := zaa.mk (hb); have n2_ := zaa.mk (ho); clear HO_5; clear HB; clear HO_3; have HO_5 := n0_; have HB := n1_; have HO179 := n2_; clear n0_ n1_ n2_; clear ho hb hg hat))
         go_roundg k2
         case measure => have := HK1.out; have := HK2.out; omega
         case rel => exact ⟨(y177), (wrap64 (x4_1 + 1)), (by first | rfl | (simp; done) | (simp [*]; done)), H', ⟨by have := HK1.out; have := HK2.out; omega⟩, ⟨by (with_reducible repeat (first | apply Kd.R_alloc | apply Kd.R_drewN | apply Kd.R_drew)); exact HO179.out⟩, ⟨by repeat (first | (with_reducible first | exact HB.out | apply zac | apply zab | apply zad) | exact HB.out)⟩⟩
        ·rw [if_neg c15] at H
         exact absurd H (by simp)
    ·rw [if_neg c5] at H
     have c5b0 : decide (x4_1 < ((rdOf ByteArray.empty l0 0).size : Int)) = false := decide_eq_false c5
     clear c5
     obtain rfl := Option.some.inj H
     have p169 : 0 ≤ (0 : Int) := (by omega)
     have q169 : 0 < (l0.length : Int) := of_decide_eq_true (by first | (with_reducible assumption) | assumption)
     obtain ⟨ad169, e169, hx169_0⟩ := Kd.at_string HR0.out 0 p169 q169
     cases e169
     have qi169 : (0 < l0.length) = True := eq_true (by omega)
     (try rw [show ((0 : Int)).toNat = 0 from rfl] at hx169_0)
     (try rw [Addr.add_zero'] at hx169_0)
     replace hx169_0 := (HB.out.cell (World.block_lt_of_cell? w _ hx169_0)).trans hx169_0
     replace p169 := eq_true p169
     replace q169 := eq_true q169
     go_wp2
     go_ret
     exact ⟨_, by first | rfl | (simp [zaq, zap] <;> rfl) | (simp [*, zaq, zap] <;> rfl), by (with_reducible repeat (first | apply Kd.R_alloc | apply Kd.R_drewN | apply Kd.R_drew)); exact HO_3.out, by repeat (first | (with_reducible first | exact HB.out | apply zac | apply zab | apply zad) | exact HB.out)⟩
   ·rw [if_neg c4] at H
    exact absurd H (by simp)
end Go.Proofs.Ytickdcegnlldjaa.PB
namespace Go.Proofs.Ytickdcegnlldjaa.PB
open Go.RowKit Go.PW.PrintWords Go.PW.PrintLast Go.PW.PrintMore
attribute [local go_sem] zbx zbv zck zcj zbq zbp zbw zbu   -- for this text's walks alone
def spec_WallEnds.f (k : Nat) (l0 : List ByteArray) : Option (Int × Bool) := (spec_PlanIn.f k l0).bind fun t381 => (if t381 = true then ((spec_l2Upright.f k l0).bind fun t382 => ((spec_l2Ends.f k t382 (l0.length : Int)).bind fun t385 => ((spec_l1Trans.f k l0).bind fun t386 => ((spec_l2Upright.f k t386).bind fun t389 => (if 0 < (l0.length : Int) then ((spec_l2Ends.f k t389 ((rdOf ByteArray.empty l0 0).size : Int)).bind fun t393 => (some (wrap64 (t385 + t393), true))) else (none)))))) else (some (0, false)))
def spec_WallEnds.T3 : Bool × List (List Nat × List Nat) := (true, [([], []), ([0], [0]), ([], []), ([2], [2]), ([1, 3, 1], [1, 3]), ([], []), ([5, 4], [5]), ([6, 6], [6]), ([], []), ([8], [8]), ([9], [9]), ([10], [10]), ([7, 11, 7], [7, 11]), ([4, 12], [4, 12]), ([13, 12, 0, 1, 2, 3, 4, 5, 6, 7, 8, 9, 10, 11, 12, 13], [13]), ([14, 0, 1, 2, 3, 4, 5, 6, 7, 8, 9, 10, 11, 12, 13, 14], [])])
def spec_WallEnds.B3 : List Nat := [0, 1, 0, 4, 15, 0, 63, 127, 0, 256, 768, 1792, 4095, 8191, 16383, 32767]
theorem spec_WallEnds.tab3 : rtab .any (opsOf Try.f26 3) = spec_WallEnds.T3 := by kernel_rfl
theorem spec_WallEnds.bits3 : waitsOk spec_WallEnds.T3.2 spec_WallEnds.B3 = true := by kernel_rfl
set_option maxHeartbeats 8000000 in
set_option maxRecDepth 100000 in
theorem spec_WallEnds.calls (k : Nat) (A0 : Option Addr) (c0 : Nat) (l0 : List ByteArray) (r1 : Int) (r2 : Bool) (w : World) (hr0 : Kd.C Kd.string w A0 l0.length l0) (hc0 : l0.length ≤ c0) (h : spec_WallEnds.f k l0 = some (r1, r2)) :
  Calls Try.prog 26 #[.slice A0 l0.length c0] w fun e w' => e = .returned (.tuple #[.int .i64 r1, .bool r2]) ∧ Below w.heap.size w w' := by
 have HR0 := zaa.mk hr0
 have HC0 := zaa.mk hc0
 clear hr0 hc0
 have HB := zaa.mk (Below.refl w.heap.size w)
 have H : ((spec_PlanIn.f k l0).bind fun t381 => (if t381 = true then ((spec_l2Upright.f k l0).bind fun t382 => ((spec_l2Ends.f k t382 (l0.length : Int)).bind fun t385 => ((spec_l1Trans.f k l0).bind fun t386 => ((spec_l2Upright.f k t386).bind fun t389 => (if 0 < (l0.length : Int) then ((spec_l2Ends.f k t389 ((rdOf ByteArray.empty l0 0).size : Int)).bind fun t393 => (some (wrap64 (t385 + t393), true))) else (none)))))) else (some (0, false)))) = some (r1, r2) := h
 clear h
 replace H := Option.bind_eq_some_iff.mp H
 obtain ⟨t381, A20, H⟩ := H
 replace H : (if t381 = true then ((spec_l2Upright.f k l0).bind fun t382 => ((spec_l2Ends.f k t382 (l0.length : Int)).bind fun t385 => ((spec_l1Trans.f k l0).bind fun t386 => ((spec_l2Upright.f k t386).bind fun t389 => (if 0 < (l0.length : Int) then ((spec_l2Ends.f k t389 ((rdOf ByteArray.empty l0 0).size : Int)).bind fun t393 => (some (wrap64 (t385 + t393), true))) else (none)))))) else (some (0, false))) = some (r1, r2) := H
 have A2 := zaa.mk A20
 clear A20
 by_cases c3 : t381 = true
 ·subst c3
  have H1 : ((spec_l2Upright.f k l0).bind fun t382 => ((spec_l2Ends.f k t382 (l0.length : Int)).bind fun t385 => ((spec_l1Trans.f k l0).bind fun t386 => ((spec_l2Upright.f k t386).bind fun t389 => (if 0 < (l0.length : Int) then ((spec_l2Ends.f k t389 ((rdOf ByteArray.empty l0 0).size : Int)).bind fun t393 => (some (wrap64 (t385 + t393), true))) else (none)))))) = some (r1, r2) := by rw [if_pos rfl] at H; exact H
  clear H
  have H := H1
  clear H1
  replace H := Option.bind_eq_some_iff.mp H
  obtain ⟨t382, A40, H⟩ := H
  replace H : ((spec_l2Ends.f k t382 (l0.length : Int)).bind fun t385 => ((spec_l1Trans.f k l0).bind fun t386 => ((spec_l2Upright.f k t386).bind fun t389 => (if 0 < (l0.length : Int) then ((spec_l2Ends.f k t389 ((rdOf ByteArray.empty l0 0).size : Int)).bind fun t393 => (some (wrap64 (t385 + t393), true))) else (none))))) = some (r1, r2) := H
  have A4 := zaa.mk A40
  clear A40
  replace H := Option.bind_eq_some_iff.mp H
  obtain ⟨t385, A50, H⟩ := H
  replace H : ((spec_l1Trans.f k l0).bind fun t386 => ((spec_l2Upright.f k t386).bind fun t389 => (if 0 < (l0.length : Int) then ((spec_l2Ends.f k t389 ((rdOf ByteArray.empty l0 0).size : Int)).bind fun t393 => (some (wrap64 (t385 + t393), true))) else (none)))) = some (r1, r2) := H
  have A5 := zaa.mk A50
  clear A50
  replace H := Option.bind_eq_some_iff.mp H
  obtain ⟨t386, A60, H⟩ := H
  replace H : ((spec_l2Upright.f k t386).bind fun t389 => (if 0 < (l0.length : Int) then ((spec_l2Ends.f k t389 ((rdOf ByteArray.empty l0 0).size : Int)).bind fun t393 => (some (wrap64 (t385 + t393), true))) else (none))) = some (r1, r2) := H
  have A6 := zaa.mk A60
  clear A60
  replace H := Option.bind_eq_some_iff.mp H
  obtain ⟨t389, A70, H⟩ := H
  replace H : (if 0 < (l0.length : Int) then ((spec_l2Ends.f k t389 ((rdOf ByteArray.empty l0 0).size : Int)).bind fun t393 => (some (wrap64 (t385 + t393), true))) else (none)) = some (r1, r2) := H
  have A7 := zaa.mk A70
  clear A70
  by_cases c8 : 0 < (l0.length : Int)
  ·rw [if_pos c8] at H
   have c8b0 : decide (0 < (l0.length : Int)) = true := decide_eq_true c8
   have c8b1 : decide (0 < l0.length) = true := decide_eq_true (by omega)
   clear c8
   replace H := Option.bind_eq_some_iff.mp H
   obtain ⟨t393, A90, H⟩ := H
   replace H : (some (wrap64 (t385 + t393), true)) = some (r1, r2) := H
   have A9 := zaa.mk A90
   clear A90
   simp only [Option.some.injEq, Prod.mk.injEq] at H
   obtain ⟨rfl, rfl⟩ := H
   go_enter Try.func26, Try.ntmps26
   try go_wp2_with (first | ((with_reducible refine zas (f := 45) rfl ?_); refine zbk (some 5) rfl rfl Try.func45 (by kernel_rfl) rfl #[.slice A0 l0.length c0] rfl (by (try simp only [List.map_toArray, List.map_cons, List.map_nil]); first | done | rfl | (simp only [List.length_drop, List.length_take]; rfl)) ?_; (with_reducible refine (spec_PlanIn.calls k _ _ l0 true _ ?side1 ?side2 A2.out).mono ?_); (case side1 => repeat (first | exact HR0.out | (with_reducible refine Kd.C_alloc ?_ _) | (with_reducible refine Kd.C_drewN ?_ _) | (with_reducible refine Kd.C_drew ?_))); (case side2 => exact HC0.out); rintro e w10 ⟨rfl, hb⟩; refine ⟨_, rfl, ?_⟩; have n0_ := zaa.mk (zah (by repeat (first | (with_reducible first | exact HB.out | apply zac | apply zab | apply zad) | exact HB.out)) hb); clear HB; have HB := n0_; clear n0_; (try clear hb); (try clear hb2); (try clear hk); (try clear hi)))
   have n0_ := zaa.mk (zad HB.out)
   clear HB
   have HB := n0_
   clear n0_
   have p392 : 0 ≤ (0 : Int) := (by omega)
   have q392 : 0 < (l0.length : Int) := of_decide_eq_true (by first | (with_reducible assumption) | assumption)
   obtain ⟨ad392, e392, hx392_0⟩ := Kd.at_string HR0.out 0 p392 q392
   have hw392_0 := hx392_0
   (try rw [show ((0 : Int)).toNat = 0 from rfl] at hw392_0)
   (try rw [show 0 * 1 = 0 from rfl] at hw392_0)
   (try rw [Addr.add_zero'] at hw392_0)
   cases e392
   have qi392 : (0 < l0.length) = True := eq_true (by omega)
   (try rw [show ((0 : Int)).toNat = 0 from rfl] at hx392_0)
   (try rw [Addr.add_zero'] at hx392_0)
   replace hx392_0 := (HB.out.cell (World.block_lt_of_cell? w _ hx392_0)).trans hx392_0
   replace p392 := eq_true p392
   replace q392 := eq_true q392
   refine start_ (n := 16) (S := fun w' => w'.cell? ad392 = some (.string (rdOf ByteArray.empty l0 0))) (ds := []) #[false, false, false, false, false, false, false, false, false, false, false, false, false, false, false, false] (by kernel_rfl) rfl rfl (((HB.out.cell (World.block_lt_of_cell? w _ hw392_0)).trans hw392_0)) (fun hHeld => ?_); refine with_tabW spec_WallEnds.tab3 spec_WallEnds.bits3 (fun HT_ HW_ => ?_)
   generalize w10.drew = w11 at HB hx392_0 hHeld ⊢
   refine zbd (i := 0) (N := some 7) (v := ?_) (a' := ?_) #[true, false, false, false, false, false, false, false, false, false, false, false, false, false, false, false] rfl rfl (any_of HT_.out (by kernel_rfl)) (fun _ _ _ h => h) (Or.inl ⟨by rfl, ?_⟩) ?_ ?_
   rotate_left
   ·intro w'
    go_simp
    with_reducible rfl
   rotate_left
   ·simp only [Act.put, List.setIfInBounds_toArray, List.set_cons_zero, List.set_cons_succ, zat, zav]
    rfl
   refine zbd (i := 2) (N := some 9) (v := ?_) (a' := ?_) #[true, false, true, false, false, false, false, false, false, false, false, false, false, false, false, false] rfl rfl (any_of HT_.out (by kernel_rfl)) (fun _ _ _ h => h) (Or.inl ⟨by rfl, ?_⟩) ?_ ?_
   rotate_left
   ·intro w'
    go_simp
    with_reducible rfl
   rotate_left
   ·simp only [Act.put, List.setIfInBounds_toArray, List.set_cons_zero, List.set_cons_succ, zat, zav]
    rfl
   refine zbd (i := 3) (N := some 10) (v := ?_) (a' := ?_) #[true, false, true, true, false, false, false, false, false, false, false, false, false, false, false, false] rfl rfl (any_of HT_.out (by kernel_rfl)) (fun _ _ _ h => h) (Or.inl ⟨by rfl, ?_⟩) ?_ ?_
   rotate_left
   ·intro w'
    go_simp
    with_reducible rfl
   rotate_left
   ·simp only [Act.put, List.setIfInBounds_toArray, List.set_cons_zero, List.set_cons_succ, zat, zav]
    rfl
   refine zbd (i := 5) (N := some 12) (v := ?_) (a' := ?_) #[true, false, true, true, false, true, false, false, false, false, false, false, false, false, false, false] rfl rfl (any_of HT_.out (by kernel_rfl)) (fun _ _ _ h => h) (Or.inl ⟨by rfl, ?_⟩) ?_ ?_
   rotate_left
   ·intro w'
    go_simp
    with_reducible rfl
   rotate_left
   ·simp only [Act.put, List.setIfInBounds_toArray, List.set_cons_zero, List.set_cons_succ, zat, zav]
    rfl
   refine zbd (i := 8) (N := some 15) (v := ?_) (a' := ?_) #[true, false, true, true, false, true, false, false, true, false, false, false, false, false, false, false] rfl rfl (any_of HT_.out (by kernel_rfl)) (fun _ _ _ h => h) (Or.inl ⟨by rfl, ?_⟩) ?_ ?_
   rotate_left
   ·intro w'
    go_simp
    with_reducible rfl
   rotate_left
   ·simp only [Act.put, List.setIfInBounds_toArray, List.set_cons_zero, List.set_cons_succ, zat, zav]
    rfl
   refine zbd (i := 9) (N := some 16) (v := ?_) (a' := ?_) #[true, false, true, true, false, true, false, false, true, true, false, false, false, false, false, false] rfl rfl (any_of HT_.out (by kernel_rfl)) (fun _ _ _ h => h) (Or.inl ⟨by rfl, ?_⟩) ?_ ?_
   rotate_left
   ·intro w'
    go_simp
    with_reducible rfl
   rotate_left
   ·simp only [Act.put, List.setIfInBounds_toArray, List.set_cons_zero, List.set_cons_succ, zat, zav]
    rfl
   refine take_ (i := 10) (N := some 17) (v := ?_) (a' := ?_) #[true, false, true, true, false, true, false, false, true, true, true, false, false, false, false, false] rfl rfl (take_ofW HT_.out HW_.out (by kernel_rfl)) (fun _ _ _ h => h) (Or.inl ⟨by rfl, ?_⟩) hHeld ?_ ?_
   rotate_left
   ·intro w' s0
    go_simp
    with_reducible rfl
   rotate_left
   ·simp only [Act.put, List.setIfInBounds_toArray, List.set_cons_zero, List.set_cons_succ, zat, zav]
    rfl
   refine zbd (i := 11) (N := some 18) (v := ?_) (a' := ?_) #[true, false, true, true, false, true, false, false, true, true, true, true, false, false, false, false] rfl rfl (any_of HT_.out (by kernel_rfl)) (fun _ _ _ h => h) (Or.inl ⟨by rfl, ?_⟩) ?_ ?_
   rotate_left
   ·intro w'
    go_simp
    with_reducible rfl
   rotate_left
   ·simp only [Act.put, List.setIfInBounds_toArray, List.set_cons_zero, List.set_cons_succ, zat, zav]
    rfl
   refine one_ (i := 1) (N := some 8) #[true, true, true, true, false, true, false, false, true, true, true, true, false, false, false, false] rfl rfl (one_of HT_.out (by kernel_rfl)) (by decide) (fun K hK => ?_)
   refine goes_ Try.func64 (by kernel_rfl) rfl #[.slice (some ad392) l0.length c0] (by rfl) rfl rfl (by (try simp only [List.map_toArray, List.map_cons, List.map_nil]); first | done | rfl | (simp only [List.length_drop, List.length_take]; rfl)) ?_
   with_reducible refine (spec_l2Upright.calls k _ _ l0 t382 _ ?side1 ?side2 A4.out).mono ?_
   (case side1 => repeat (first | exact (Kd.C_below HR0.out HB.out) | (with_reducible refine Kd.C_alloc ?_ _) | (with_reducible refine Kd.C_drewN ?_ _) | (with_reducible refine Kd.C_drew ?_)))
   (case side2 => exact HC0.out)
   rintro e w12 ⟨v383, rfl, ho0, hb⟩
   refine ⟨_, rfl, ?_⟩
   have n0_ := zaa.mk (Kd.S_lower ho0 (zam (by repeat (first | (with_reducible first | exact HB.out | apply zac | apply zab | apply zad) | exact HB.out))))
   have n1_ := zaa.mk (zah (by repeat (first | (with_reducible first | exact HB.out | apply zac | apply zab | apply zad) | exact HB.out)) hb)
   clear HB
   have HO384 := n0_
   have HB := n1_
   clear n0_ n1_
   (try clear hb)
   (try clear hb2)
   (try clear hk)
   (try clear hi)
   (try clear ho0)
   obtain ⟨Ao13, co13, eo13⟩ := Kd.S_slice HO384.out
   (first | subst eo13 | (injection eo13 with f1_ f2_ f3_; have f4_ := f1_.symm; have f5_ := f3_.symm; clear f1_ f2_ f3_; subst f4_; subst f5_))
   refine hK.out _ _ (((HB.out.cell (World.block_lt_of_cell? w _ hw392_0)).trans hw392_0)) (fun hHeld => ?_)
   clear hK K
   refine norm_ (a' := ?_) ?_ ?_
   rotate_left
   ·show Act.put _ (some 8) _ = _
    simp only [Act.put, List.setIfInBounds_toArray, List.set_cons_zero, List.set_cons_succ, zat, zav]
    rfl
   refine one_ (i := 4) (N := some 11) #[true, true, true, true, true, true, false, false, true, true, true, true, false, false, false, false] rfl rfl (one_of HT_.out (by kernel_rfl)) (by decide) (fun K hK => ?_)
   refine goes_ Try.func63 (by kernel_rfl) rfl #[.slice Ao13 t382.length co13, .int .i64 (l0.length : Int)] (by rfl) rfl rfl (by (try simp only [List.map_toArray, List.map_cons, List.map_nil]); first | done | rfl | (simp only [List.length_drop, List.length_take]; rfl)) ?_
   with_reducible refine (spec_l2Ends.calls k _ _ t382 (l0.length : Int) t385 _ ?side1 ?side2 A5.out).mono ?_
   (case side1 => repeat (first | exact (Kd.S_reads' HO384.out).2.2 | (with_reducible refine Kd.C_alloc ?_ _) | (with_reducible refine Kd.C_drewN ?_ _) | (with_reducible refine Kd.C_drew ?_)))
   (case side2 => exact (Kd.S_reads' HO384.out).2.1)
   rintro e w' ⟨rfl, ⟨nd, rfl⟩⟩
   refine ⟨_, rfl, ?_⟩
   refine hK.out _ _ (((HB.out.cell (World.block_lt_of_cell? w _ hw392_0)).trans hw392_0)) (fun hHeld => ?_)
   clear hK K
   refine norm_ (a' := ?_) ?_ ?_
   rotate_left
   ·show Act.put _ (some 11) _ = _
    simp only [Act.put, List.setIfInBounds_toArray, List.set_cons_zero, List.set_cons_succ, zat, zav]
    rfl
   refine one_ (i := 6) (N := some 13) #[true, true, true, true, true, true, true, false, true, true, true, true, false, false, false, false] rfl rfl (one_of HT_.out (by kernel_rfl)) (by decide) (fun K hK => ?_)
   refine goes_ Try.func47 (by kernel_rfl) rfl #[.slice (some ad392) l0.length c0] (by rfl) rfl rfl (by (try simp only [List.map_toArray, List.map_cons, List.map_nil]); first | done | rfl | (simp only [List.length_drop, List.length_take]; rfl)) ?_
   with_reducible refine (spec_l1Trans.calls k _ _ l0 t386 _ ?side1 ?side2 A6.out).mono ?_
   (case side1 => repeat (first | exact (Kd.C_below HR0.out (by repeat (first | (with_reducible first | exact HB.out | apply zac | apply zab | apply zad) | exact HB.out))) | (with_reducible refine Kd.C_alloc ?_ _) | (with_reducible refine Kd.C_drewN ?_ _) | (with_reducible refine Kd.C_drew ?_)))
   (case side2 => exact HC0.out)
   rintro e w14 ⟨v387, rfl, ho0, hb⟩
   refine ⟨_, rfl, ?_⟩
   have n0_ := zaa.mk (Kd.S_below (by (with_reducible repeat (first | apply Kd.S_alloc | apply Kd.S_drewN | apply Kd.S_drew)); exact HO384.out) hb)
   have n1_ := zaa.mk (Kd.R_lower ho0 (zam (by repeat (first | (with_reducible first | exact HB.out | apply zac | apply zab | apply zad) | exact HB.out))))
   have n2_ := zaa.mk (zah (by repeat (first | (with_reducible first | exact HB.out | apply zac | apply zab | apply zad) | exact HB.out)) hb)
   clear HO384
   clear HB
   have HO384 := n0_
   have HO388 := n1_
   have HB := n2_
   clear n0_ n1_ n2_
   (try clear hb)
   (try clear hb2)
   (try clear hk)
   (try clear hi)
   (try clear ho0)
   obtain ⟨Ao15, co15, eo15⟩ := Kd.R_slice HO388.out
   (first | subst eo15 | (injection eo15 with f1_ f2_ f3_; have f4_ := f1_.symm; have f5_ := f3_.symm; clear f1_ f2_ f3_; subst f4_; subst f5_))
   refine hK.out _ _ (((HB.out.cell (World.block_lt_of_cell? w _ hw392_0)).trans hw392_0)) (fun hHeld => ?_)
   clear hK K
   refine norm_ (a' := ?_) ?_ ?_
   rotate_left
   ·show Act.put _ (some 13) _ = _
    simp only [Act.put, List.setIfInBounds_toArray, List.set_cons_zero, List.set_cons_succ, zat, zav]
    rfl
   refine one_ (i := 7) (N := some 14) #[true, true, true, true, true, true, true, true, true, true, true, true, false, false, false, false] rfl rfl (one_of HT_.out (by kernel_rfl)) (by decide) (fun K hK => ?_)
   refine goes_ Try.func64 (by kernel_rfl) rfl #[.slice Ao15 t386.length co15] (by rfl) rfl rfl (by (try simp only [List.map_toArray, List.map_cons, List.map_nil]); first | done | rfl | (simp only [List.length_drop, List.length_take]; rfl)) ?_
   with_reducible refine (spec_l2Upright.calls k _ _ t386 t389 _ ?side1 ?side2 A7.out).mono ?_
   (case side1 => repeat (first | exact (Kd.R_reads' HO388.out).2.2 | (with_reducible refine Kd.C_alloc ?_ _) | (with_reducible refine Kd.C_drewN ?_ _) | (with_reducible refine Kd.C_drew ?_)))
   (case side2 => exact (Kd.R_reads' HO388.out).2.1)
   rintro e w16 ⟨v390, rfl, ho0, hb⟩
   refine ⟨_, rfl, ?_⟩
   have n0_ := zaa.mk (Kd.S_elder' (by (with_reducible repeat (first | apply Kd.S_alloc | apply Kd.S_drewN | apply Kd.S_drew)); exact HO384.out) (Kd.S_base ho0) hb)
   have n1_ := zaa.mk (Kd.R_below (by (with_reducible repeat (first | apply Kd.R_alloc | apply Kd.R_drewN | apply Kd.R_drew)); exact HO388.out) hb)
   have n2_ := zaa.mk (Kd.S_lower (Kd.S_new' ho0 (Kd.S_lt (by (with_reducible repeat (first | apply Kd.S_alloc | apply Kd.S_drewN | apply Kd.S_drew)); exact HO384.out))) (zam (by repeat (first | (with_reducible first | exact HB.out | apply zac | apply zab | apply zad) | exact HB.out))))
   have n3_ := zaa.mk (zah (by repeat (first | (with_reducible first | exact HB.out | apply zac | apply zab | apply zad) | exact HB.out)) hb)
   clear HO384
   clear HO388
   clear HB
   have HO384 := n0_
   have HO388 := n1_
   have HO391 := n2_
   have HB := n3_
   clear n0_ n1_ n2_ n3_
   (try clear hb)
   (try clear hb2)
   (try clear hk)
   (try clear hi)
   (try clear ho0)
   obtain ⟨Ao17, co17, eo17⟩ := Kd.S_slice HO391.out
   (first | subst eo17 | (injection eo17 with f1_ f2_ f3_; have f4_ := f1_.symm; have f5_ := f3_.symm; clear f1_ f2_ f3_; subst f4_; subst f5_))
   refine hK.out _ _ (((HB.out.cell (World.block_lt_of_cell? w _ hw392_0)).trans hw392_0)) (fun hHeld => ?_)
   clear hK K
   refine norm_ (a' := ?_) ?_ ?_
   rotate_left
   ·show Act.put _ (some 14) _ = _
    simp only [Act.put, List.setIfInBounds_toArray, List.set_cons_zero, List.set_cons_succ, zat, zav]
    rfl
   refine one_ (i := 12) (N := some 19) #[true, true, true, true, true, true, true, true, true, true, true, true, true, false, false, false] rfl rfl (one_of HT_.out (by kernel_rfl)) (by decide) (fun K hK => ?_)
   refine goes_ Try.func63 (by kernel_rfl) rfl #[.slice Ao17 t389.length co17, .int .i64 ((rdOf ByteArray.empty l0 0).size : Int)] (by rfl) rfl rfl (by (try simp only [List.map_toArray, List.map_cons, List.map_nil]); first | done | rfl | (simp only [List.length_drop, List.length_take]; rfl)) ?_
   with_reducible refine (spec_l2Ends.calls k _ _ t389 ((rdOf ByteArray.empty l0 0).size : Int) t393 _ ?side1 ?side2 A9.out).mono ?_
   (case side1 => repeat (first | exact (Kd.S_reads' HO391.out).2.2 | (with_reducible refine Kd.C_alloc ?_ _) | (with_reducible refine Kd.C_drewN ?_ _) | (with_reducible refine Kd.C_drew ?_)))
   (case side2 => exact (Kd.S_reads' HO391.out).2.1)
   rintro e w' ⟨rfl, ⟨nd, rfl⟩⟩
   refine ⟨_, rfl, ?_⟩
   refine hK.out _ _ (((HB.out.cell (World.block_lt_of_cell? w _ hw392_0)).trans hw392_0)) (fun hHeld => ?_)
   clear hK K
   refine norm_ (a' := ?_) ?_ ?_
   rotate_left
   ·show Act.put _ (some 19) _ = _
    simp only [Act.put, List.setIfInBounds_toArray, List.set_cons_zero, List.set_cons_succ, zat, zav]
    rfl
   refine zbd (i := 13) (N := some 20) (v := ?_) (a' := ?_) #[true, true, true, true, true, true, true, true, true, true, true, true, true, true, false, false] rfl rfl (any_of HT_.out (by kernel_rfl)) (fun _ _ _ h => h) (Or.inl ⟨by rfl, ?_⟩) ?_ ?_
   rotate_left
   ·intro w'
    go_simp
    with_reducible rfl
   rotate_left
   ·simp only [Act.put, List.setIfInBounds_toArray, List.set_cons_zero, List.set_cons_succ, zat, zav]
    rfl
   refine zbd (i := 14) (N := some 2) (v := ?_) (a' := ?_) #[true, true, true, true, true, true, true, true, true, true, true, true, true, true, true, false] rfl rfl (any_of HT_.out (by kernel_rfl)) (fun _ _ _ h => h) (Or.inl ⟨by rfl, ?_⟩) ?_ ?_
   rotate_left
   ·intro w'
    go_simp
    with_reducible rfl
   rotate_left
   ·simp only [Act.put, List.setIfInBounds_toArray, List.set_cons_zero, List.set_cons_succ, zat, zav]
    rfl
   refine zbd (i := 15) (N := some 3) (v := ?_) (a' := ?_) #[true, true, true, true, true, true, true, true, true, true, true, true, true, true, true, true] rfl rfl (any_of HT_.out (by kernel_rfl)) (fun _ _ _ h => h) (Or.inl ⟨by rfl, ?_⟩) ?_ ?_
   rotate_left
   ·intro w'
    go_simp
    with_reducible rfl
   rotate_left
   ·simp only [Act.put, List.setIfInBounds_toArray, List.set_cons_zero, List.set_cons_succ, zat, zav]
    rfl
   refine done_ (done_of HT_.out (by kernel_rfl)) ?_
   try go_wp2
   go_ret2
   exact ⟨by first | rfl | (simp [zaq, zap] <;> rfl) | (simp [*, zaq, zap] <;> rfl), by repeat (first | (with_reducible first | exact HB.out | apply zac | apply zab | apply zad) | exact HB.out)⟩
  ·rw [if_neg c8] at H
   exact absurd H (by simp)
 ·replace c3 := Bool.eq_false_iff.mpr c3
  subst c3
  have H1 : (some (0, false)) = some (r1, r2) := by rw [if_neg (show ¬ (false = true) by decide)] at H; exact H
  clear H
  have H := H1
  clear H1
  simp only [Option.some.injEq, Prod.mk.injEq] at H
  obtain ⟨rfl, rfl⟩ := H
  go_enter Try.func26, Try.ntmps26
  go_wp2_with (first | ((with_reducible refine zas (f := 45) rfl ?_); refine zbk (some 5) rfl rfl Try.func45 (by kernel_rfl) rfl #[.slice A0 l0.length c0] rfl (by (try simp only [List.map_toArray, List.map_cons, List.map_nil]); first | done | rfl | (simp only [List.length_drop, List.length_take]; rfl)) ?_; (with_reducible refine (spec_PlanIn.calls k _ _ l0 false _ ?side1 ?side2 A2.out).mono ?_); (case side1 => repeat (first | exact HR0.out | (with_reducible refine Kd.C_alloc ?_ _) | (with_reducible refine Kd.C_drewN ?_ _) | (with_reducible refine Kd.C_drew ?_))); (case side2 => exact HC0.out); rintro e w18 ⟨rfl, hb⟩; refine ⟨_, rfl, ?_⟩; have n0_ := zaa.mk (zah (by repeat (first | (with_reducible first | exact HB.out | apply zac | apply zab | apply zad) | exact HB.out)) hb); clear HB; have HB := n0_; clear n0_; (try clear hb); (try clear hb2); (try clear hk); (try clear hi)))
  go_ret2
  exact ⟨by first | rfl | (simp [zaq, zap] <;> rfl) | (simp [*, zaq, zap] <;> rfl), by repeat (first | (with_reducible first | exact HB.out | apply zac | apply zab | apply zad) | exact HB.out)⟩
end Go.Proofs.Ytickdcegnlldjaa.PB
namespace Go.Proofs.Ytickdcegnlldjaa.PC
open Go.RowKit Go.PW.PrintWords Go.PW.PrintLast Go.PW.PrintMore
attribute [local go_sem] zbx zbv zck zcj zbq zbp zbw zbu   -- for this text's walks alone
def errW : Option Int → Value
 | none => .nilIface
 | some c => .iface 0 (.int .i64 c)
theorem zaq : errW none = .nilIface := rfl
theorem zap (c : Int) : errW (some c) = .iface 0 (.int .i64 c) := rfl
end Go.Proofs.Ytickdcegnlldjaa.PC
namespace Go.Proofs.Ytickdcegnlldjaa.PC
open Go.RowKit Go.PW.PrintWords Go.PW.PrintLast Go.PW.PrintMore
attribute [local go_sem] zbx zbv zck zcj zbq zbp zbw zbu   -- for this text's walks alone
def impl_rect_both.f (a0_0 : Int) (a0_1 : Int) (a0_2 : Int) (a0_3 : Int) (a1_0 : Int) (a1_1 : Int) (a1_2 : Int) (a1_3 : Int) : Option (Int × Int × Int × Int) := some (mn a0_0 a1_0, mn a0_1 a1_1, wrap64 ((mx (wrap64 (a0_0 + a0_2)) (wrap64 (a1_0 + a1_2))) - (mn a0_0 a1_0)), wrap64 ((mx (wrap64 (a0_1 + a0_3)) (wrap64 (a1_1 + a1_3))) - (mn a0_1 a1_1)))
set_option maxHeartbeats 8000000 in
set_option maxRecDepth 100000 in
theorem impl_rect_both.calls (a0_0 : Int) (a0_1 : Int) (a0_2 : Int) (a0_3 : Int) (a1_0 : Int) (a1_1 : Int) (a1_2 : Int) (a1_3 : Int) (r1 : Int) (r2 : Int) (r3 : Int) (r4 : Int) (w : World) (h : impl_rect_both.f a0_0 a0_1 a0_2 a0_3 a1_0 a1_1 a1_2 a1_3 = some (r1, r2, r3, r4)) :
  Calls Try.prog 118 #[.agg #[.int .i64 a0_0, .int .i64 a0_1, .int .i64 a0_2, .int .i64 a0_3], .agg #[.int .i64 a1_0, .int .i64 a1_1, .int .i64 a1_2, .int .i64 a1_3]] w fun e w' => e = .returned (.agg #[.int .i64 r1, .int .i64 r2, .int .i64 r3, .int .i64 r4]) ∧ Below w.heap.size w w' := by
 have hu120 := Try.underlying120
 have HB := zaa.mk (Below.refl w.heap.size w)
 have H : (some (mn a0_0 a1_0, mn a0_1 a1_1, wrap64 ((mx (wrap64 (a0_0 + a0_2)) (wrap64 (a1_0 + a1_2))) - (mn a0_0 a1_0)), wrap64 ((mx (wrap64 (a0_1 + a0_3)) (wrap64 (a1_1 + a1_3))) - (mn a0_1 a1_1)))) = some (r1, r2, r3, r4) := h
 clear h
 obtain ⟨ji3, hji3⟩ : ∃ j_ : Int, (mn a0_0 a1_0) = j_ := ⟨_, rfl⟩
 replace H : (some (ji3, mn a0_1 a1_1, wrap64 ((mx (wrap64 (a0_0 + a0_2)) (wrap64 (a1_0 + a1_2))) - (ji3)), wrap64 ((mx (wrap64 (a0_1 + a0_3)) (wrap64 (a1_1 + a1_3))) - (mn a0_1 a1_1)))) = some (r1, r2, r3, r4) := by first | (rw [hji3] at H; exact H) | (simp only [hji3] at H ⊢; exact H)
 have hji3_ : (if a1_0 < a0_0 then a1_0 else a0_0) = ji3 := hji3
 obtain ⟨ji4, hji4⟩ : ∃ j_ : Int, (mn a0_1 a1_1) = j_ := ⟨_, rfl⟩
 replace H : (some (ji3, ji4, wrap64 ((mx (wrap64 (a0_0 + a0_2)) (wrap64 (a1_0 + a1_2))) - (ji3)), wrap64 ((mx (wrap64 (a0_1 + a0_3)) (wrap64 (a1_1 + a1_3))) - (ji4)))) = some (r1, r2, r3, r4) := by first | (rw [hji4] at H; exact H) | (simp only [hji4] at H ⊢; exact H)
 have hji4_ : (if a1_1 < a0_1 then a1_1 else a0_1) = ji4 := hji4
 obtain ⟨ji5, hji5⟩ : ∃ j_ : Int, (mx (wrap64 (a0_0 + a0_2)) (wrap64 (a1_0 + a1_2))) = j_ := ⟨_, rfl⟩
 replace H : (some (ji3, ji4, wrap64 ((ji5) - (ji3)), wrap64 ((mx (wrap64 (a0_1 + a0_3)) (wrap64 (a1_1 + a1_3))) - (ji4)))) = some (r1, r2, r3, r4) := by first | (rw [hji5] at H; exact H) | (simp only [hji5] at H ⊢; exact H)
 have hji5_ : (if (wrap64 (a0_0 + a0_2)) < (wrap64 (a1_0 + a1_2)) then (wrap64 (a1_0 + a1_2)) else (wrap64 (a0_0 + a0_2))) = ji5 := hji5
 obtain ⟨ji6, hji6⟩ : ∃ j_ : Int, (mx (wrap64 (a0_1 + a0_3)) (wrap64 (a1_1 + a1_3))) = j_ := ⟨_, rfl⟩
 replace H : (some (ji3, ji4, wrap64 ((ji5) - (ji3)), wrap64 ((ji6) - (ji4)))) = some (r1, r2, r3, r4) := by first | (rw [hji6] at H; exact H) | (simp only [hji6] at H ⊢; exact H)
 have hji6_ : (if (wrap64 (a0_1 + a0_3)) < (wrap64 (a1_1 + a1_3)) then (wrap64 (a1_1 + a1_3)) else (wrap64 (a0_1 + a0_3))) = ji6 := hji6
 simp only [Option.some.injEq, Prod.mk.injEq] at H
 obtain ⟨rfl, rfl, rfl, rfl⟩ := H
 go_enter Try.func118, Try.ntmps118
 go_wp2_with (first | ((with_reducible refine zba (N := 2) rfl ?_); refine zbz ?hg (N := 2) ?hd (cs := #[.int .i64 a0_0, .int .i64 a0_1, .int .i64 a0_2, .int .i64 a0_3]) (t := 120) ?hr ?_; (case hd => rfl); (case hg => rfl); (case hr => first | (go_simp; done) | (go_simp; rfl)); intro gb101 hg w7 hbox hb; have n0_ := zaa.mk (zah (by repeat (first | (with_reducible first | exact HB.out | apply zac | apply zab | apply zad) | exact HB.out)) hb); have n1_ := zaa.mk (hbox); have n2_ := zaa.mk ((by rw [hg]; exact (zam (by repeat (first | (with_reducible first | exact HB.out | apply zac | apply zab | apply zad) | exact HB.out))) : w.heap.size ≤ gb101)); have n3_ := zaa.mk ((by rw [hg]; exact (zam (by repeat (first | (with_reducible first | exact HB.out | apply zac | apply zab | apply zad) | exact HB.out))) : w.heap.size ≤ gb101)); clear HB; have HB := n0_; have BK101 := n1_; have GW101 := n2_; have GE101 := n3_; clear n0_ n1_ n2_ n3_; clear hb hbox hg) | ((with_reducible refine zba (N := 3) rfl ?_); refine zbz ?hg (N := 3) ?hd (cs := #[.int .i64 a1_0, .int .i64 a1_1, .int .i64 a1_2, .int .i64 a1_3]) (t := 120) ?hr ?_; (case hd => rfl); (case hg => rfl); (case hr => first | (go_simp; done) | (go_simp; rfl)); intro gb102 hg w8 hbox hb; have n0_ := zaa.mk (blk_below (g := gb101) (o := .cells #[.int .i64 a0_0, .int .i64 a0_1, .int .i64 a0_2, .int .i64 a0_3] 120 (0, 0)) (by (with_reducible repeat (first | refine zbh ?_ _ | refine zbm ?_ | refine zbi ?_ _)); exact BK101.out) hb); have n1_ := zaa.mk (zah (by repeat (first | (with_reducible first | exact HB.out | apply zac | apply zab | apply zad | refine zak ?_ GE101.out) | exact HB.out)) hb); have n2_ := zaa.mk (hbox); have n3_ := zaa.mk ((by rw [hg]; exact (zam (by repeat (first | (with_reducible first | exact HB.out | apply zac | apply zab | apply zad | refine zak ?_ GE101.out) | exact HB.out))) : w.heap.size ≤ gb102)); have n4_ := zaa.mk ((by rw [hg]; exact (zam (by repeat (first | (with_reducible first | exact HB.out | apply zac | apply zab | apply zad | refine zak ?_ GE101.out) | exact HB.out))) : w.heap.size ≤ gb102)); have n5_ := zaa.mk ((by rw [hg]; exact Nat.ne_of_lt (zcn (g := gb101) (o := .cells #[.int .i64 a0_0, .int .i64 a0_1, .int .i64 a0_2, .int .i64 a0_3] 120 (0, 0)) (by (with_reducible repeat (first | refine zbh ?_ _ | refine zbm ?_ | refine zbi ?_ _)); exact BK101.out)) : gb101 ≠ gb102)); have n6_ := zaa.mk ((by rw [hg]; exact Nat.ne_of_gt (zcn (g := gb101) (o := .cells #[.int .i64 a0_0, .int .i64 a0_1, .int .i64 a0_2, .int .i64 a0_3] 120 (0, 0)) (by (with_reducible repeat (first | refine zbh ?_ _ | refine zbm ?_ | refine zbi ?_ _)); exact BK101.out)) : gb102 ≠ gb101)); clear BK101; clear HB; have BK101 := n0_; have HB := n1_; have BK102 := n2_; have GW102 := n3_; have GE102 := n4_; have NB101_102 := n5_; have NB102_101 := n6_; clear n0_ n1_ n2_ n3_ n4_ n5_ n6_; clear hb hbox hg) | ((with_reducible refine zba (N := 4) rfl ?_); refine zbz ?hg (N := 4) ?hd (cs := #[.int .i64 0, .int .i64 0, .int .i64 0, .int .i64 0]) (t := 120) ?hr ?_; (case hd => rfl); (case hg => rfl); (case hr => first | (go_simp; done) | (go_simp; rfl)); intro gb103 hg w9 hbox hb; have n0_ := zaa.mk (blk_below (g := gb101) (o := .cells #[.int .i64 a0_0, .int .i64 a0_1, .int .i64 a0_2, .int .i64 a0_3] 120 (0, 0)) (by (with_reducible repeat (first | refine zbh ?_ _ | refine zbm ?_ | refine zbi ?_ _)); exact BK101.out) hb); have n1_ := zaa.mk (blk_below (g := gb102) (o := .cells #[.int .i64 a1_0, .int .i64 a1_1, .int .i64 a1_2, .int .i64 a1_3] 120 (0, 0)) (by (with_reducible repeat (first | refine zbh ?_ _ | refine zbm ?_ | refine zbi ?_ _)); exact BK102.out) hb); have n2_ := zaa.mk (zah (by repeat (first | (with_reducible first | exact HB.out | apply zac | apply zab | apply zad | refine zak ?_ GE101.out | refine zak ?_ GE102.out) | exact HB.out)) hb); have n3_ := zaa.mk (hbox); have n4_ := zaa.mk ((by rw [hg]; exact (zam (by repeat (first | (with_reducible first | exact HB.out | apply zac | apply zab | apply zad | refine zak ?_ GE101.out | refine zak ?_ GE102.out) | exact HB.out))) : w.heap.size ≤ gb103)); have n5_ := zaa.mk ((by rw [hg]; exact (zam (by repeat (first | (with_reducible first | exact HB.out | apply zac | apply zab | apply zad | refine zak ?_ GE101.out | refine zak ?_ GE102.out) | exact HB.out))) : w.heap.size ≤ gb103)); have n6_ := zaa.mk ((by rw [hg]; exact Nat.ne_of_lt (zcn (g := gb101) (o := .cells #[.int .i64 a0_0, .int .i64 a0_1, .int .i64 a0_2, .int .i64 a0_3] 120 (0, 0)) (by (with_reducible repeat (first | refine zbh ?_ _ | refine zbm ?_ | refine zbi ?_ _)); exact BK101.out)) : gb101 ≠ gb103)); have n7_ := zaa.mk ((by rw [hg]; exact Nat.ne_of_gt (zcn (g := gb101) (o := .cells #[.int .i64 a0_0, .int .i64 a0_1, .int .i64 a0_2, .int .i64 a0_3] 120 (0, 0)) (by (with_reducible repeat (first | refine zbh ?_ _ | refine zbm ?_ | refine zbi ?_ _)); exact BK101.out)) : gb103 ≠ gb101)); have n8_ := zaa.mk ((by rw [hg]; exact Nat.ne_of_lt (zcn (g := gb102) (o := .cells #[.int .i64 a1_0, .int .i64 a1_1, .int .i64 a1_2, .int .i64 a1_3] 120 (0, 0)) (by (with_reducible repeat (first | refine zbh ?_ _ | refine zbm ?_ | refine zbi ?_ _)); exact BK102.out)) : gb102 ≠ gb103)); have n9_ := zaa.mk ((by rw [hg]; exact Nat.ne_of_gt (zcn (g := gb102) (o := .cells #[.int .i64 a1_0, .int .i64 a1_1, .int .i64 a1_2, .int .i64 a1_3] 120 (0, 0)) (by (with_reducible repeat (first | refine zbh ?_ _ | refine zbm ?_ | refine zbi ?_ _)); exact BK102.out)) : gb103 ≠ gb102)); clear BK101; clear BK102; clear HB; have BK101 := n0_; have BK102 := n1_; have HB := n2_; have BK103 := n3_; have GW103 := n4_; have GE103 := n5_; have NB101_103 := n6_; have NB103_101 := n7_; have NB102_103 := n8_; have NB103_102 := n9_; clear n0_ n1_ n2_ n3_ n4_ n5_ n6_ n7_ n8_ n9_; clear hb hbox hg; have hnb10 := NB101_102.out; have hnc10 := NB102_101.out; have hnb11 := NB101_103.out; have hnc11 := NB103_101.out; have hcz12_0 : w9.cell? ⟨gb101, 0, none⟩ = some (.int .i64 a0_0) := (zau BK101.out 0).trans rfl; have hcz12_1 : w9.cell? ⟨gb101, 1, none⟩ = some (.int .i64 a0_1) := (zau BK101.out 1).trans rfl; have hcz12_2 : w9.cell? ⟨gb101, 2, none⟩ = some (.int .i64 a0_2) := (zau BK101.out 2).trans rfl; have hcz12_3 : w9.cell? ⟨gb101, 3, none⟩ = some (.int .i64 a0_3) := (zau BK101.out 3).trans rfl; have hfz12_0 := zax BK101.out 0; have hfz12_1 := zax BK101.out 1; have hfz12_2 := zax BK101.out 2; have hfz12_3 := zax BK101.out 3; have hnb13 := NB102_103.out; have hnc13 := NB103_102.out; have hcz14_0 : w9.cell? ⟨gb102, 0, none⟩ = some (.int .i64 a1_0) := (zau BK102.out 0).trans rfl; have hcz14_1 : w9.cell? ⟨gb102, 1, none⟩ = some (.int .i64 a1_1) := (zau BK102.out 1).trans rfl; have hcz14_2 : w9.cell? ⟨gb102, 2, none⟩ = some (.int .i64 a1_2) := (zau BK102.out 2).trans rfl; have hcz14_3 : w9.cell? ⟨gb102, 3, none⟩ = some (.int .i64 a1_3) := (zau BK102.out 3).trans rfl; have hfz14_0 := zax BK102.out 0; have hfz14_1 := zax BK102.out 1; have hfz14_2 := zax BK102.out 2; have hfz14_3 := zax BK102.out 3; have hcz15_0 : w9.cell? ⟨gb103, 0, none⟩ = some (.int .i64 0) := (zau BK103.out 0).trans rfl; have hcz15_1 : w9.cell? ⟨gb103, 1, none⟩ = some (.int .i64 0) := (zau BK103.out 1).trans rfl; have hcz15_2 : w9.cell? ⟨gb103, 2, none⟩ = some (.int .i64 0) := (zau BK103.out 2).trans rfl; have hcz15_3 : w9.cell? ⟨gb103, 3, none⟩ = some (.int .i64 0) := (zau BK103.out 3).trans rfl; have hfz15_0 := zax BK103.out 0; have hfz15_1 := zax BK103.out 1; have hfz15_2 := zax BK103.out 2; have hfz15_3 := zax BK103.out 3))
 repeat (go_quiet (first | ((with_reducible refine zba (N := 2) rfl ?_); refine zbz ?hg (N := 2) ?hd (cs := #[.int .i64 a0_0, .int .i64 a0_1, .int .i64 a0_2, .int .i64 a0_3]) (t := 120) ?hr ?_; (case hd => rfl); (case hg => rfl); (case hr => first | (go_simp; done) | (go_simp; rfl)); intro gb101 hg w7 hbox hb; have n0_ := zaa.mk (zah (by repeat (first | (with_reducible first | exact HB.out | apply zac | apply zab | apply zad) | exact HB.out)) hb); have n1_ := zaa.mk (hbox); have n2_ := zaa.mk ((by rw [hg]; exact (zam (by repeat (first | (with_reducible first | exact HB.out | apply zac | apply zab | apply zad) | exact HB.out))) : w.heap.size ≤ gb101)); have n3_ := zaa.mk ((by rw [hg]; exact (zam (by repeat (first | (with_reducible first | exact HB.out | apply zac | apply zab | apply zad) | exact HB.out))) : w.heap.size ≤ gb101)); clear HB; have HB := n0_; have BK101 := n1_; have GW101 := n2_; have GE101 := n3_; clear n0_ n1_ n2_ n3_; clear hb hbox hg) | ((with_reducible refine zba (N := 3) rfl ?_); refine zbz ?hg (N := 3) ?hd (cs := #[.int .i64 a1_0, .int .i64 a1_1, .int .i64 a1_2, .int .i64 a1_3]) (t := 120) ?hr ?_; (case hd => rfl); (case hg => rfl); (case hr => first | (go_simp; done) | (go_simp; rfl)); intro gb102 hg w8 hbox hb; have n0_ := zaa.mk (blk_below (g := gb101) (o := .cells #[.int .i64 a0_0, .int .i64 a0_1, .int .i64 a0_2, .int .i64 a0_3] 120 (0, 0)) (by (with_reducible repeat (first | refine zbh ?_ _ | refine zbm ?_ | refine zbi ?_ _)); exact BK101.out) hb); have n1_ := zaa.mk (zah (by repeat (first | (with_reducible first | exact HB.out | apply zac | apply zab | apply zad | refine zak ?_ GE101.out) | exact HB.out)) hb); have n2_ := zaa.mk (hbox); have n3_ := zaa.mk ((by rw [hg]; exact (zam (by repeat (first | (with_reducible first | exact HB.out | apply zac | apply zab | apply zad | refine zak ?_ GE101.out) | exact HB.out))) : w.heap.size ≤ gb102)); have n4_ := zaa.mk ((by rw [hg]; exact (zam (by repeat (first | (with_reducible first | exact HB.out | apply zac | apply zab | apply zad | refine zak ?_ GE101.out) | exact HB.out))) : w.heap.size ≤ gb102)); have n5_ := zaa.mk ((by rw [hg]; exact Nat.ne_of_lt (zcn (g := gb101) (o := .cells #[.int .i64 a0_0, .int .i64 a0_1, .int .i64 a0_2, .int .i64 a0_3] 120 (0, 0)) (by (with_reducible repeat (first | refine zbh ?_ _ | refine zbm ?_ | refine zbi ?_ _)); exact BK101.out)) : gb101 ≠ gb102)); have n6_ := zaa.mk ((by rw [hg]; exact Nat.ne_of_gt (zcn (g := gb101) (o := .cells #[.int .i64 a0_0, .int .i64 a0_1, .int .i64 a0_2, .int .i64 a0_3] 120 (0, 0)) (by (with_reducible repeat (first | refine zbh ?_ _ | refine zbm ?_ | refine zbi ?_ _)); exact BK101.out)) : gb102 ≠ gb101)); clear BK101; clear HB; have BK101 := n0_; have HB := n1_; have BK102 := n2_; have GW102 := n3_; have GE102 := n4_; have NB101_102 := n5_; have NB102_101 := n6_; clear n0_ n1_ n2_ n3_ n4_ n5_ n6_; clear hb hbox hg) | ((with_reducible refine zba (N := 4) rfl ?_); refine zbz ?hg (N := 4) ?hd (cs := #[.int .i64 0, .int .i64 0, .int .i64 0, .int .i64 0]) (t := 120) ?hr ?_; (case hd => rfl); (case hg => rfl); (case hr => first | (go_simp; done) | (go_simp; rfl)); intro gb103 hg w9 hbox hb; have n0_ := zaa.mk (blk_below (g := gb101) (o := .cells #[.int .i64 a0_0, .int .i64 a0_1, .int .i64 a0_2, .int .i64 a0_3] 120 (0, 0)) (by (with_reducible repeat (first | refine zbh ?_ _ | refine zbm ?_ | refine zbi ?_ _)); exact BK101.out) hb); have n1_ := zaa.mk (blk_below (g := gb102) (o := .cells #[.int .i64 a1_0, .int .i64 a1_1, .int .i64 a1_2, .int .i64 a1_3] 120 (0, 0)) (by (with_reducible repeat (first | refine zbh ?_ _ | refine zbm ?_ | refine zbi ?_ _)); exact BK102.out) hb); have n2_ := zaa.mk (zah (by repeat (first | (with_reducible first | exact HB.out | apply zac | apply zab | apply zad | refine zak ?_ GE101.out | refine zak ?_ GE102.out) | exact HB.out)) hb); have n3_ := zaa.mk (hbox); have n4_ := zaa.mk ((by rw [hg]; exact (zam (by repeat (first | (with_reducible first | exact HB.out | apply zac | apply zab | apply zad | refine zak ?_ GE101.out | refine zak ?_ GE102.out) | exact HB.out))) : w.heap.size ≤ gb103)); have n5_ := zaa.mk ((by rw [hg]; exact (zam (by repeat (first | (with_reducible first | exact HB.out | apply zac | apply zab | apply zad | refine zak ?_ GE101.out | refine zak ?_ GE102.out) | exact HB.out))) : w.heap.size ≤ gb103)); have n6_ := zaa.mk ((by rw [hg]; exact Nat.ne_of_lt (zcn (g := gb101) (o := .cells #[.int .i64 a0_0, .int .i64 a0_1, .int .i64 a0_2, .int .i64 a0_3] 120 (0, 0)) (by (with_reducible repeat (first | refine zbh ?_ _ | refine zbm ?_ | refine zbi ?_ _)); exact BK101.out)) : gb101 ≠ gb103)); have n7_ := zaa.mk ((by rw [hg]; exact Nat.ne_of_gt (zcn (g := gb101) (o := .cells #[.int .i64 a0_0, .int .i64 a0_1, .int .i64 a0_2, .int .i64 a0_3] 120 (0, 0)) (by (with_reducible repeat (first | refine zbh ?_ _ | refine zbm ?_ | refine zbi ?_ _)); exact BK101.out)) : gb103 ≠ gb101)); have n8_ := zaa.mk ((by rw [hg]; exact Nat.ne_of_lt (zcn (g := gb102) (o := .cells #[.int .i64 a1_0, .int .i64 a1_1, .int .i64 a1_2, .int .i64 a1_3] 120 (0, 0)) (by (with_reducible repeat (first | refine zbh ?_ _ | refine zbm ?_ | refine zbi ?_ _)); exact BK102.out)) : gb102 ≠ gb103)); have n9_ := zaa.mk ((by rw [hg]; exact Nat.ne_of_gt (zcn (g := gb102) (o := .cells #[.int .i64 a1_0, .int .i64 a1_1, .int .i64 a1_2, .int .i64 a1_3] 120 (0, 0)) (by (with_reducible repeat (first | refine zbh ?_ _ | refine zbm ?_ | refine zbi ?_ _)); exact BK102.out)) : gb103 ≠ gb102)); clear BK101; clear BK102; clear HB; have BK101 := n0_; have BK102 := n1_; have HB := n2_; have BK103 := n3_; have GW103 := n4_; have GE103 := n5_; have NB101_103 := n6_; have NB103_101 := n7_; have NB102_103 := n8_; have NB103_102 := n9_; clear n0_ n1_ n2_ n3_ n4_ n5_ n6_ n7_ n8_ n9_; clear hb hbox hg; have hnb10 := NB101_102.out; have hnc10 := NB102_101.out; have hnb11 := NB101_103.out; have hnc11 := NB103_101.out; have hcz12_0 : w9.cell? ⟨gb101, 0, none⟩ = some (.int .i64 a0_0) := (zau BK101.out 0).trans rfl; have hcz12_1 : w9.cell? ⟨gb101, 1, none⟩ = some (.int .i64 a0_1) := (zau BK101.out 1).trans rfl; have hcz12_2 : w9.cell? ⟨gb101, 2, none⟩ = some (.int .i64 a0_2) := (zau BK101.out 2).trans rfl; have hcz12_3 : w9.cell? ⟨gb101, 3, none⟩ = some (.int .i64 a0_3) := (zau BK101.out 3).trans rfl; have hfz12_0 := zax BK101.out 0; have hfz12_1 := zax BK101.out 1; have hfz12_2 := zax BK101.out 2; have hfz12_3 := zax BK101.out 3; have hnb13 := NB102_103.out; have hnc13 := NB103_102.out; have hcz14_0 : w9.cell? ⟨gb102, 0, none⟩ = some (.int .i64 a1_0) := (zau BK102.out 0).trans rfl; have hcz14_1 : w9.cell? ⟨gb102, 1, none⟩ = some (.int .i64 a1_1) := (zau BK102.out 1).trans rfl; have hcz14_2 : w9.cell? ⟨gb102, 2, none⟩ = some (.int .i64 a1_2) := (zau BK102.out 2).trans rfl; have hcz14_3 : w9.cell? ⟨gb102, 3, none⟩ = some (.int .i64 a1_3) := (zau BK102.out 3).trans rfl; have hfz14_0 := zax BK102.out 0; have hfz14_1 := zax BK102.out 1; have hfz14_2 := zax BK102.out 2; have hfz14_3 := zax BK102.out 3; have hcz15_0 : w9.cell? ⟨gb103, 0, none⟩ = some (.int .i64 0) := (zau BK103.out 0).trans rfl; have hcz15_1 : w9.cell? ⟨gb103, 1, none⟩ = some (.int .i64 0) := (zau BK103.out 1).trans rfl; have hcz15_2 : w9.cell? ⟨gb103, 2, none⟩ = some (.int .i64 0) := (zau BK103.out 2).trans rfl; have hcz15_3 : w9.cell? ⟨gb103, 3, none⟩ = some (.int .i64 0) := (zau BK103.out 3).trans rfl; have hfz15_0 := zax BK103.out 0; have hfz15_1 := zax BK103.out 1; have hfz15_2 := zax BK103.out 2; have hfz15_3 := zax BK103.out 3)); try go_wp2_with (first | ((with_reducible refine zba (N := 2) rfl ?_); refine zbz ?hg (N := 2) ?hd (cs := #[.int .i64 a0_0, .int .i64 a0_1, .int .i64 a0_2, .int .i64 a0_3]) (t := 120) ?hr ?_; (case hd => rfl); (case hg => rfl); (case hr => first | (go_simp; done) | (go_simp; rfl)); intro gb101 hg w7 hbox hb; have n0_ := zaa.mk (zah (by repeat (first | (with_reducible first | exact HB.out | apply zac | apply zab | apply zad) | exact HB.out)) hb); have n1_ := zaa.mk (hbox); have n2_ := zaa.mk ((by rw [hg]; exact (zam (by repeat (first | (with_reducible first | exact HB.out | apply zac | apply zab | apply zad) | exact HB.out))) : w.heap.size ≤ gb101)); have n3_ := zaa.mk ((by rw [hg]; exact (zam (by repeat (first | (with_reducible first | exact HB.out | apply zac | apply zab | apply zad) | exact HB.out))) : w.heap.size ≤ gb101)); clear HB; have HB := n0_; have BK101 := n1_; have GW101 := n2_; have GE101 := n3_; clear n0_ n1_ n2_ n3_; clear hb hbox hg) | ((with_reducible refine zba (N := 3) rfl ?_); refine zbz ?hg (N := 3) ?hd (cs := #[.int .i64 a1_0, .int .i64 a1_1, .int .i64 a1_2, .int .i64 a1_3]) (t := 120) ?hr ?_; (case hd => rfl); (case hg => rfl); (case hr => first | (go_simp; done) | (go_simp; rfl)); intro gb102 hg w8 hbox hb; have n0_ := zaa.mk (blk_below (g := gb101) (o := .cells #[.int .i64 a0_0, .int .i64 a0_1, .int .i64 a0_2, .int .i64 a0_3] 120 (0, 0)) (by (with_reducible repeat (first | refine zbh ?_ _ | refine zbm ?_ | refine zbi ?_ _)); exact BK101.out) hb); have n1_ := zaa.mk (zah (by repeat (first | (with_reducible first | exact HB.out | apply zac | apply zab | apply zad | refine zak ?_ GE101.out) | exact HB.out)) hb); have n2_ := zaa.mk (hbox); have n3_ := zaa.mk ((by rw [hg]; exact (zam (by repeat (first | (with_reducible first | exact HB.out | apply zac | apply zab | apply zad | refine zak ?_ GE101.out) | exact HB.out))) : w.heap.size ≤ gb102)); have n4_ := zaa.mk ((by rw [hg]; exact (zam (by repeat (first | (with_reducible first | exact HB.out | apply zac | apply zab | apply zad | refine zak ?_ GE101.out) | exact HB.out))) : w.heap.size ≤ gb102)); have n5_ := zaa.mk ((by rw [hg]; exact Nat.ne_of_lt (zcn (g := gb101) (o := .cells #[.int .i64 a0_0, .int .i64 a0_1, .int .i64 a0_2, .int .i64 a0_3] 120 (0, 0)) (by (with_reducible repeat (first | refine zbh ?_ _ | refine zbm ?_ | refine zbi ?_ _)); exact BK101.out)) : gb101 ≠ gb102)); have n6_ := zaa.mk ((by rw [hg]; exact Nat.ne_of_gt (zcn (g := gb101) (o := .cells #[.int .i64 a0_0, .int .i64 a0_1, .int .i64 a0_2, .int .i64 a0_3] 120 (0, 0)) (by (with_reducible repeat (first | refine zbh ?_ _ | refine zbm ?_ | refine zbi ?_ _)); exact BK101.out)) : gb102 ≠ gb101)); clear BK101; clear HB; have BK101 := n0_; have HB := n1_; have BK102 := n2_; have GW102 := n3_; have GE102 := n4_; have NB101_102 := n5_; have NB102_101 := n6_; clear n0_ n1_ n2_ n3_ n4_ n5_ n6_; clear hb hbox hg) | ((with_reducible refine zba (N := 4) rfl ?_); refine zbz ?hg (N := 4) ?hd (cs := #[.int .i64 0, .int .i64 0, .int .i64 0, .int .i64 0]) (t := 120) ?hr ?_; (case hd => rfl); (case hg => rfl); (case hr => first | (go_simp; done) | (go_simp; rfl)); intro gb103 hg w9 hbox hb; have n0_ := zaa.mk (blk_below (g := gb101) (o := .cells #[.int .i64 a0_0, .int .i64 a0_1, .int .i64 a0_2, .int .i64 a0_3] 120 (0, 0)) (by (with_reducible repeat (first | refine zbh ?_ _ | refine zbm ?_ | refine zbi ?_ _)); exact BK101.out) hb); have n1_ := zaa.mk (blk_below (g := gb102) (o := .cells #[.int .i64 a1_0, .int .i64 a1_1, .int .i64 a1_2, .int .i64 a1_3] 120 (0, 0)) (by (with_reducible repeat (first | refine zbh ?_ _ | refine zbm ?_ | refine zbi ?_ _)); exact BK102.out) hb); have n2_ := zaa.mk (zah (by repeat (first | (with_reducible first | exact HB.out | apply zac | apply zab | apply zad | refine zak ?_ GE101.out | refine zak ?_ GE102.out) | exact HB.out)) hb); have n3_ := zaa.mk (hbox); have n4_ := zaa.mk ((by rw [hg]; exact (zam (by repeat (first | (with_reducible first | exact HB.out | apply zac | apply zab | apply zad | refine zak ?_ GE101.out | refine zak ?_ GE102.out) | exact HB.out))) : w.heap.size ≤ gb103)); have n5_ := zaa.mk ((by rw [hg]; exact (zam (by repeat (first | (with_reducible first | exact HB.out | apply zac | apply zab | apply zad | refine zak ?_ GE101.out | refine zak ?_ GE102.out) | exact HB.out))) : w.heap.size ≤ gb103)); have n6_ := zaa.mk ((by rw [hg]; exact Nat.ne_of_lt (zcn (g := gb101) (o := .cells #[.int .i64 a0_0, .int .i64 a0_1, .int .i64 a0_2, .int .i64 a0_3] 120 (0, 0)) (by (with_reducible repeat (first | refine zbh ?_ _ | refine zbm ?_ | refine zbi ?_ _)); exact BK101.out)) : gb101 ≠ gb103)); have n7_ := zaa.mk ((by rw [hg]; exact Nat.ne_of_gt (zcn (g := gb101) (o := .cells #[.int .i64 a0_0, .int .i64 a0_1, .int .i64 a0_2, .int .i64 a0_3] 120 (0, 0)) (by (with_reducible repeat (first | refine zbh ?_ _ | refine zbm ?_ | refine zbi ?_ _)); exact BK101.out)) : gb103 ≠ gb101)); have n8_ := zaa.mk ((by rw [hg]; exact Nat.ne_of_lt (zcn (g := gb102) (o := .cells #[.int .i64 a1_0, .int .i64 a1_1, .int .i64 a1_2, .int .i64 a1_3] 120 (0, 0)) (by (with_reducible repeat (first | refine zbh ?_ _ | refine zbm ?_ | refine zbi ?_ _)); exact BK102.out)) : gb102 ≠ gb103)); have n9_ := zaa.mk ((by rw [hg]; exact Nat.ne_of_gt (zcn (g := gb102) (o := .cells #[.int .i64 a1_0, .int .i64 a1_1, .int .i64 a1_2, .int .i64 a1_3] 120 (0, 0)) (by (with_reducible repeat (first | refine zbh ?_ _ | refine zbm ?_ | refine zbi ?_ _)); exact BK102.out)) : gb103 ≠ gb102)); clear BK101; clear BK102; clear HB; have BK101 := n0_; have BK102 := n1_; have HB := n2_; have BK103 := n3_; have GW103 := n4_; have GE103 := n5_; have NB101_103 := n6_; have NB103_101 := n7_; have NB102_103 := n8_; have NB103_102 := n9_; clear n0_ n1_ n2_ n3_ n4_ n5_ n6_ n7_ n8_ n9_; clear hb hbox hg; have hnb10 := NB101_102.out; have hnc10 := NB102_101.out; have hnb11 := NB101_103.out; have hnc11 := NB103_101.out; have hcz12_0 : w9.cell? ⟨gb101, 0, none⟩ = some (.int .i64 a0_0) := (zau BK101.out 0).trans rfl; have hcz12_1 : w9.cell? ⟨gb101, 1, none⟩ = some (.int .i64 a0_1) := (zau BK101.out 1).trans rfl; have hcz12_2 : w9.cell? ⟨gb101, 2, none⟩ = some (.int .i64 a0_2) := (zau BK101.out 2).trans rfl; have hcz12_3 : w9.cell? ⟨gb101, 3, none⟩ = some (.int .i64 a0_3) := (zau BK101.out 3).trans rfl; have hfz12_0 := zax BK101.out 0; have hfz12_1 := zax BK101.out 1; have hfz12_2 := zax BK101.out 2; have hfz12_3 := zax BK101.out 3; have hnb13 := NB102_103.out; have hnc13 := NB103_102.out; have hcz14_0 : w9.cell? ⟨gb102, 0, none⟩ = some (.int .i64 a1_0) := (zau BK102.out 0).trans rfl; have hcz14_1 : w9.cell? ⟨gb102, 1, none⟩ = some (.int .i64 a1_1) := (zau BK102.out 1).trans rfl; have hcz14_2 : w9.cell? ⟨gb102, 2, none⟩ = some (.int .i64 a1_2) := (zau BK102.out 2).trans rfl; have hcz14_3 : w9.cell? ⟨gb102, 3, none⟩ = some (.int .i64 a1_3) := (zau BK102.out 3).trans rfl; have hfz14_0 := zax BK102.out 0; have hfz14_1 := zax BK102.out 1; have hfz14_2 := zax BK102.out 2; have hfz14_3 := zax BK102.out 3; have hcz15_0 : w9.cell? ⟨gb103, 0, none⟩ = some (.int .i64 0) := (zau BK103.out 0).trans rfl; have hcz15_1 : w9.cell? ⟨gb103, 1, none⟩ = some (.int .i64 0) := (zau BK103.out 1).trans rfl; have hcz15_2 : w9.cell? ⟨gb103, 2, none⟩ = some (.int .i64 0) := (zau BK103.out 2).trans rfl; have hcz15_3 : w9.cell? ⟨gb103, 3, none⟩ = some (.int .i64 0) := (zau BK103.out 3).trans rfl; have hfz15_0 := zax BK103.out 0; have hfz15_1 := zax BK103.out 1; have hfz15_2 := zax BK103.out 2; have hfz15_3 := zax BK103.out 3)))
 refine bodyPost_ret (results_cell_row rfl _ _ gb103 120 #[.int .i64 ji3, .int .i64 ji4, .int .i64 (wrap64 ((ji5) - (ji3))), .int .i64 (wrap64 ((ji6) - (ji4)))] (0, 0) _ rfl (by (with_reducible repeat (first | refine zbh ?_ _ | refine zbm ?_ | refine zbi ?_ _)); refine blk_put (cs := #[.int .i64 ji3, .int .i64 ji4, .int .i64 (wrap64 ((ji5) - (ji3))), .int .i64 0]) ?_ 3 _ rfl; (with_reducible repeat (first | refine zbh ?_ _ | refine zbm ?_ | refine zbi ?_ _)); refine blk_put (cs := #[.int .i64 ji3, .int .i64 ji4, .int .i64 0, .int .i64 0]) ?_ 2 _ rfl; (with_reducible repeat (first | refine zbh ?_ _ | refine zbm ?_ | refine zbi ?_ _)); refine blk_put (cs := #[.int .i64 ji3, .int .i64 0, .int .i64 0, .int .i64 0]) ?_ 1 _ rfl; (with_reducible repeat (first | refine zbh ?_ _ | refine zbm ?_ | refine zbi ?_ _)); refine blk_put (cs := #[.int .i64 0, .int .i64 0, .int .i64 0, .int .i64 0]) ?_ 0 _ rfl; (with_reducible repeat (first | refine zbh ?_ _ | refine zbm ?_ | refine zbi ?_ _)); exact BK103.out) Try.underlying120 rfl (by kernel_rfl)) rfl ?_
 exact ⟨by first | rfl | (simp [zaq, zap] <;> rfl) | (simp only [← hji3, ← hji4, ← hji5, ← hji6]; first | rfl | (simp [zaq, zap] <;> rfl)) | (simp [*, zaq, zap] <;> rfl), by repeat (first | (with_reducible first | exact HB.out | apply zac | apply zab | apply zad | refine zak ?_ GE101.out | refine zak ?_ GE102.out | refine zak ?_ GE103.out) | exact HB.out)⟩
end Go.Proofs.Ytickdcegnlldjaa.PC
namespace Go.Proofs.Ytickdcegnlldjaa.Hd
open Go.RowKit Go.PW.PrintWords Go.PW.PrintLast Go.PW.PrintMore
def BRow (W : World) (base : Nat) (g : Nat) (cap : Nat) (e : TypeId) (xs : List Int) : Prop :=
 ∃ (cur : Array Value), base ≤ g ∧ W.heap[g]? = some (.cells cur e (cur.size, cur.size + 1)) ∧ xs.length ≤ cur.size ∧ cur.toList.take xs.length = nums .u8 xs
section
variable {W : World} {base g cap : Nat} {e : TypeId} {xs : List Int}
theorem BRow.cell (h : BRow W base g cap e xs) (i : Nat) (hi : i < xs.length) : W.cell? ⟨g, i, none⟩ = some (.int .u8 (xs.getD i 0)) ∧ W.frozen? ⟨g, i, none⟩ = false := by
 obtain ⟨cur, hb, hg, hl, ht⟩ := h
 have h1 : cur.toList[i]? = some (.int .u8 (xs.getD i 0)) := by
  have h2 : (cur.toList.take xs.length)[i]? = some (.int .u8 (xs.getD i 0)) := by
   rw [ht]; simp [nums, List.getD_eq_getElem?_getD, hi]
  rw [List.getElem?_take] at h2
  simpa [hi] using h2
 constructor
 ·simp only [World.cell?, hg]
  simpa using h1
 ·have : ¬ cur.size ≤ i := by omega
  simp [World.frozen?, hg, this]
theorem BRow.set (h : BRow W base g cap e xs) (i : Nat) (x : Int) : BRow (W.setCell ⟨g, i, none⟩ (.int .u8 x)) base g cap e (xs.set i x) := by
 obtain ⟨cur, hb, hg, hl, ht⟩ := h
 refine ⟨cur.setIfInBounds i (.int .u8 x), hb, ?_, ?_, ?_⟩
 ·simp [World.setCell, Array.getElem?_modify, hg]
 ·simpa using hl
 ·rw [Array.toList_setIfInBounds, List.length_set, List.take_set, ht]
  simp [nums]
theorem BRow.typed (h : BRow W base g cap e xs) : ∃ cur fz, W.heap[g]? = some (.cells cur e fz) := by
 obtain ⟨cur, hb, hg, hl, ht⟩ := h
 exact ⟨cur, _, hg⟩
theorem BRow.base_le (h : BRow W base g cap e xs) : base ≤ g := h.choose_spec.1
theorem BRow.lt (h : BRow W base g cap e xs) : g < W.heap.size := by
 obtain ⟨cur, hb, hg, hl, ht⟩ := h
 exact (Array.getElem?_eq_some_iff.1 hg).1
theorem BRow.move (h : BRow W base g cap e xs) {W1 : World} (hm : W1.heap[g]? = W.heap[g]?) : BRow W1 base g cap e xs := by
 obtain ⟨cur, hb, hg, hl, ht⟩ := h
 exact ⟨cur, hb, hm.trans hg, hl, ht⟩
theorem BRow.lower (h : BRow W base g cap e xs) {base' : Nat} (hb' : base' ≤ base) : BRow W base' g cap e xs := by
 obtain ⟨cur, hb, hg, hl, ht⟩ := h
 exact ⟨cur, Nat.le_trans hb' hb, hg, hl, ht⟩
theorem BRow.reads (h : BRow W base g cap e xs) (hm : xs.length ≤ 9223372036854775807) : (Kd.int .u8).C W (some ⟨g, 0, none⟩) xs.length xs := by
 refine ⟨rfl, hm, fun _ => ⟨_, rfl, fun j p hj => ?_⟩⟩
 have hjl := (List.getElem?_eq_some_iff.1 hj).1
 refine ⟨[.int .u8 p], rfl, rfl, fun i u hu => ?_⟩
 have hi : i = 0 := by
  rcases Nat.eq_zero_or_pos i with h0 | h0
  ·exact h0
  ·rw [List.getElem?_eq_none (by simp; omega)] at hu; cases hu
 subst hi
 have hu' : Value.int .u8 p = u := by simpa using hu
 subst hu'
 have h1 := (h.cell j hjl).1
 rw [List.getD_eq_getElem?_getD, hj] at h1
 show W.cell? ((⟨g, 0, none⟩ : Addr).add (j * 1 + 0)) = _
 rw [Nat.mul_one, Nat.add_zero, add_plain]
 exact h1
end
theorem R_typesF {α : Type} {d : Kd α} {e : Nat} {w : World} {base : Nat} {ok : Nat → Prop} {v : Value} {xs : List α} (h : d.R e w base ok v xs) {g t : Nat} {cells : Array Value} {fz : Nat × Nat} (hb : w.heap[g]? = some (.cells cells t fz)) (ht : ∀ q, q ∈ e :: d.E → q ≠ t) : d.R e w base (fun k => ok k ∧ k ≠ g) v xs :=
 Kd.R_mono (Kd.R_bound h) (fun k hk => ⟨hk.1, by
  obtain ⟨_, _, _, q, hq, cells', hc⟩ := hk
  rintro rfl
  rw [hc] at hb
  injection hb with hb
  injection hb with _ hb
  exact ht q hq hb⟩)
theorem R_setF {α : Type} {d : Kd α} {e : Nat} {w : World} {base : Nat} {ok : Nat → Prop} {v : Value} {xs : List α} (h : d.R e w base ok v xs) {g t : Nat} {cells : Array Value} {fz : Nat × Nat} (hb : w.heap[g]? = some (.cells cells t fz)) (ht : ∀ q, q ∈ e :: d.E → q ≠ t) (j : Nat) (u : Value) : d.R e (w.setCell ⟨g, j, none⟩ u) base ok v xs :=
 Kd.R_mono (Kd.R_far (p := ⟨g, j, none⟩) (R_typesF h hb ht) (fun _ hk => hk.2) u) (fun _ hk => hk.1)
section
variable {P : Program} {ops : Array Oper} {rest : List Oper} {o : Oper} {a : Act} {Q : Exit → Act → World → Prop}
theorem conv_event {W : World} (hgd : o.guard = none) {N : Tmp} (_hd : o.dst = some N) {src dst e : TypeId} {x : Operand} {s : ByteArray} {u : TypeDesc} (ho : o.op = .convert src dst x) (hx : a.eval x = .string s)
  (hs : P.underlying src = some u) (hdst : P.underlying dst = some (.slice e)) (he : P.underlying e = some (.int .u8))
  (h : ∀ g cap w1, g = W.heap.size → BRow w1 W.heap.size g cap e (bytesOf s) → Below W.heap.size W w1 → wpList P ops Q rest (a.put o.dst (.slice (some ⟨g, 0, none⟩) s.size cap)) w1) : wpList P ops Q (o :: rest) a W := by
 refine Kd.event_run hgd (w1 := Lib.bytesWorld W e s) ?_ (h W.heap.size (grownCap W s.size 0 e) _ rfl ?_ ?_)
 ·simp only [execOp, ho, hx]
  have := Lib.run_convert_string_bytes (P := P) W src dst e s hs hdst he
  simp [this]
 ·refine ⟨Lib.bytesCells W e s, Nat.le_refl _, Lib.bytesWorld_at_new W e s, ?_, ?_⟩
  ·simp [Lib.bytesCells, bytesOf]
  ·simp [Lib.bytesCells, bytesOf, nums]
 ·refine ⟨?_, ?_, ?_, ?_, fun k hk => Lib.bytesWorld_at_old W e s k hk⟩
  ·simp [Lib.bytesWorld, World.freeze, World.alloc, World.drew, -World.alloc_eq, -World.drew_eq]
  ·simp [Lib.bytesWorld, World.freeze, World.alloc, World.drew, -World.alloc_eq, -World.drew_eq]
  ·simp [Lib.bytesWorld, World.freeze, World.alloc, World.drew, -World.alloc_eq, -World.drew_eq]
  ·rw [Lib.bytesWorld_size]; omega
end
end Go.Proofs.Ytickdcegnlldjaa.Hd
namespace Go.Proofs.Ytickdcegnlldjaa.Hd
open Go.RowKit Go.PW.PrintWords Go.PW.PrintLast Go.PW.PrintMore Go.Proofs.Ytickdcegnlldjaa.PB
def putN (xs : List Int) (l n : Nat) (c : Int) : List Int := xs.mapIdx fun k x => if l ≤ k ∧ k < l + n then c else x
def putS (s : ByteArray) (l n : Nat) (c : Int) : ByteArray := strOfNums (putN (bytesOf s) l n c)
def putR (xs : List ByteArray) (t n l m : Nat) (c : Int) : List ByteArray := xs.mapIdx fun k s => if t ≤ k ∧ k < t + n then putS s l m c else s
theorem putN_length (xs : List Int) (l n : Nat) (c : Int) : (putN xs l n c).length = xs.length := by simp [putN]
theorem putN_zero (xs : List Int) (l : Nat) (c : Int) : putN xs l 0 c = xs := by
 unfold putN
 apply List.ext_getElem
 ·simp
 ·intro i h1 h2
  simp only [List.getElem_mapIdx]
  rw [if_neg (by omega)]
theorem putN_succ (xs : List Int) (l n : Nat) (c : Int) : (putN xs l n c).set (l + n) c = putN xs l (n + 1) c := by
 unfold putN
 apply List.ext_getElem
 ·simp
 ·intro i h1 h2
  rw [List.getElem_set]
  simp only [List.getElem_mapIdx]
  by_cases h : l + n = i
  ·rw [if_pos h, if_pos (by omega)]
  ·rw [if_neg h]
   by_cases h3 : l ≤ i ∧ i < l + n
   ·rw [if_pos h3, if_pos (by omega)]
   ·rw [if_neg h3, if_neg (by omega)]
theorem putR_length (xs : List ByteArray) (t n l m : Nat) (c : Int) : (putR xs t n l m c).length = xs.length := by simp [putR]
theorem putR_zero (xs : List ByteArray) (t l m : Nat) (c : Int) : putR xs t 0 l m c = xs := by
 unfold putR
 apply List.ext_getElem
 ·simp
 ·intro i h1 h2
  simp only [List.getElem_mapIdx]
  rw [if_neg (by omega)]
theorem putR_succ (xs : List ByteArray) (t n l m : Nat) (c : Int) : (putR xs t n l m c).set (t + n) (putS (xs.getD (t + n) ByteArray.empty) l m c) = putR xs t (n + 1) l m c := by
 unfold putR
 apply List.ext_getElem
 ·simp
 ·intro i h1 h2
  rw [List.getElem_set]
  simp only [List.getElem_mapIdx]
  by_cases h : t + n = i
  ·subst h
   rw [if_pos rfl, if_pos (by omega)]
   congr 1
   have h3 : t + n < xs.length := by simpa using h2
   simp [List.getD_eq_getElem?_getD, h3]
  ·rw [if_neg h]
   by_cases h3 : t ≤ i ∧ i < t + n
   ·rw [if_pos h3, if_pos (by omega)]
   ·rw [if_neg h3, if_neg (by omega)]
theorem putR_at (xs : List ByteArray) (t n l m : Nat) (c : Int) : (putR xs t n l m c).getD (t + n) ByteArray.empty = xs.getD (t + n) ByteArray.empty := by
 unfold putR
 simp only [List.getD_eq_getElem?_getD, List.getElem?_mapIdx]
 cases h : xs[t + n]? with
 | none => rfl
 | some x =>
  simp only [Option.map_some, Option.getD_some]
  rw [if_neg (by omega)]
def putOk (l0 : List ByteArray) (t l h m : Int) (c : Int) : Bool :=
 decide (0 ≤ t) && decide (0 ≤ l) && decide (0 ≤ h) && decide (0 ≤ m) && decide (0 ≤ c) && decide (c ≤ 255) && decide (l0.length ≤ 1048576) && decide (t + h ≤ l0.length) && decide (l ≤ 1048576) && decide (m ≤ 1048576) && (l0.all fun s => decide (l + m ≤ s.size) && decide (s.size ≤ 1048576))
def spec_l1Put.f (l0 : List ByteArray) (a1 a2 a3 a4 a5 : Int) : Option (List ByteArray) :=
 if putOk l0 a1 a2 a3 a4 a5 = true then some (putR l0 a1.toNat a3.toNat a2.toNat a4.toNat a5) else none
set_option maxHeartbeats 4000000 in
set_option maxRecDepth 100000 in
theorem l1Put_walk (A0 : Option Addr) (c0 : Nat) (l0 : List ByteArray) (t l h m : Nat) (c : Int) (w : World) (hr0 : Kd.C Kd.string w A0 l0.length l0) (hc0 : l0.length ≤ c0)
  (hc : 0 ≤ c) (hc2 : c ≤ 255) (hlen : l0.length ≤ 1048576) (hth : t + h ≤ l0.length) (hlb : l ≤ 1048576) (hmb : m ≤ 1048576) (hs : ∀ i, i < l0.length → l + m ≤ (l0.getD i ByteArray.empty).size ∧ (l0.getD i ByteArray.empty).size ≤ 1048576) :
  Calls Try.prog 127 #[.slice A0 l0.length c0, .int .i64 t, .int .i64 l, .int .i64 h, .int .i64 m, .int .u8 c] w fun e w' => ∃ v0_ : Value, e = .returned (v0_) ∧ Kd.R Kd.string 9 w' w.heap.size (fun _ => True) v0_ (putR l0 t h l m c) ∧ Below w.heap.size w w' := by
 have HR0 := zaa.mk hr0
 have HC0 := zaa.mk hc0
 have HS := zaa.mk hs
 clear hr0 hc0 hs
 have HB := zaa.mk (Below.refl w.heap.size w)
 have ht0 : (0 : Int) ≤ t := by omega
 have ht1 : (t : Int) ≤ 1048576 := by omega
 have hh0 : (0 : Int) ≤ h := by omega
 have hh1 : (h : Int) ≤ 1048576 := by omega
 have hl0 : (0 : Int) ≤ l := by omega
 have hl1 : (l : Int) ≤ 1048576 := by omega
 have hm0 : (0 : Int) ≤ m := by omega
 have hm1 : (m : Int) ≤ 1048576 := by omega
 go_enter Try.func127, Try.ntmps127
 go_wp2_with (first
  | ((with_reducible refine zba (N := 17) rfl ?_); refine Kd.R_lit Kd.string _ 9 ?hg (N := 17) ?hd (xs := ([] : List ByteArray)) (inner := []) (ok := fun _ => True) (okp := fun _ => True) ?hr ?hp (fun _ hk => hk) trivial (Below.refl _ _) (Nat.le_refl _) (by simp) ?_; (case hd => rfl); (case hg => rfl); (case hr => first | (go_simp; done) | (go_simp; rfl)); (case hp => exact (Reps.none _ _)); intro v1 w1 ho hb hg_ hnew_; clear hg_ hnew_; have HO1 := zaa.mk (Kd.R_lower ho (zam HB.out)); have n1_ := zaa.mk (zah HB.out hb); clear HB; have HB := n1_; clear n1_; clear hb ho)
  | ((with_reducible refine zay (b := .append) (xs := #[.tmp 17, .tmp 18]) rfl ?_); at_builtin; refine Kd.R_append_rows Kd.string (w0 := w) w.heap.size rfl (.tmp 17) (.tmp 18) 22 9 (.string ⟨#[]⟩) 16 rfl Try.underlying22 info9 rfl (by decide) (by omega) v1 [] l0 _ _ _ (fun _ => True) (fun _ => False) rfl rfl ?aO ?aR (fun _ _ h => h) (fun _ h => h.elim) ?aF ?aB ?aS ?aL ?_; (case aR => exact Kd.C_below HR0.out HB.out); (case aB => exact HB.out); (case aF => exact (fun _ _ => trivial)); (case aO => exact HO1.out); (case aS => exact zam HB.out); (case aL => simp; omega); intro v2 w2 ho hb hg hat; have n0_ := zaa.mk hb; have HO2 := zaa.mk ho; clear HB; clear HO1; have HB := n0_; clear n0_; clear ho hb hg hat))
 go_loopg [14] h (fun kq v14 w' => ∃ j : Nat, v14 = .int .i64 ((t : Int) + j) ∧ zaa (j + kq = h) ∧ zaa (Kd.R Kd.string 9 w' w.heap.size (fun _ => True) v2 (putR l0 t j l m c)) ∧ zaa (Below w.heap.size w w'))
 case atStart => exact ⟨0, by simp, ⟨by omega⟩, ⟨by rw [putR_zero]; simpa using HO2.out⟩, ⟨HB.out⟩⟩
 case round =>
  clear HO2 HB
  obtain ⟨j, rfl, HK, HO, HB⟩ := hrel
  by_cases hj : j < h
  ·have hlt : (t : Int) + j < t + h := by omega
   have hj0 : (0 : Int) ≤ (t : Int) + j := by omega
   have hj1 : (t : Int) + j ≤ 1048576 := by omega
   have hjl : t + j < l0.length := by omega
   have HLR := zaa.mk (putR_length l0 t j l m c)
   have hjl2 : (t : Int) + j < ((putR l0 t j l m c).length : Int) := by have := HLR.out; omega
   obtain ⟨g3, c3, e3, b3, l3, cl3, hg3⟩ := Kd.R_form HO.out (by have := HLR.out; omega)
   subst e3
   clear hg3 l3
   have B3 := zaa.mk b3
   obtain ⟨hx3, hf3⟩ := Kd.R_celln (⟨#[]⟩ : ByteArray) HO.out ((t : Int) + j) (by omega) (by omega)
   rw [show (((t : Int) + j).toNat) = t + j by omega, show rdOf (⟨#[]⟩ : ByteArray) (putR l0 t j l m c) ((t : Int) + j) = l0.getD (t + j) ByteArray.empty by unfold rdOf; rw [show (((t : Int) + j).toNat) = t + j by omega]; exact putR_at l0 t j l m c] at hx3
   rw [show (((t : Int) + j).toNat) = t + j by omega] at hf3
   generalize hs : l0.getD (t + j) ByteArray.empty = s at hx3
   have HSJ := zaa.mk hs
   have hss := HS.out (t + j) hjl
   rw [hs] at hss
   clear hs
   go_wp2_with (first
    | ((with_reducible refine zba (N := 32) rfl ?_); refine conv_event (P := Try.prog) rfl (N := 32) rfl (src := 9) (dst := 32) (e := 5) (s := s) rfl rfl Try.underlying9 Try.underlying32 Try.underlying5 ?_; intro g4 c4 w4 hg4 hrow hb; have HRow := zaa.mk (hrow.lower (zam HB.out)); have n1_ := zaa.mk (zah HB.out hb); have HO4 := zaa.mk (Kd.R_below HO.out hb); clear HB HO; have HB := n1_; have HO := HO4; clear n1_ HO4; clear hb hrow hg4 hx3 hf3))
   go_loopg [16] m (fun kq v16 w' => ∃ i : Nat, v16 = .int .i64 ((l : Int) + i) ∧ zaa (i + kq = m) ∧ zaa (BRow w' w.heap.size g4 c4 5 (putN (bytesOf s) l i c)) ∧ zaa (Kd.string.R 9 w' w.heap.size (fun x => True) (Value.slice (some { block := g3, off := 0 }) (putR l0 t j l m c).length c3) (putR l0 t j l m c)) ∧ zaa (Below w.heap.size w w'))
   case atStart => exact ⟨0, by simp, ⟨by omega⟩, ⟨by rw [putN_zero]; exact HRow.out⟩, HO, HB⟩
   case round =>
    clear HRow HB HO
    obtain ⟨i, rfl, HK2, HRow, HO, HB⟩ := hrel
    by_cases hi : i < m
    ·have hlt2 : (l : Int) + i < l + m := by omega
     have hi0 : (0 : Int) ≤ (l : Int) + i := by omega
     have hi1 : (l : Int) + i ≤ 2097152 := by omega
     have hsz : (l : Int) + i < s.size := by omega
     have hss1 : (s.size : Int) ≤ 1048576 := by omega
     obtain ⟨hx4, hf4⟩ := HRow.out.cell (l + i) (by rw [putN_length, zbj]; omega)
     have HP := zaa.mk (HRow.out.set (l + i) c)
     go_wp2_with (first | ((with_reducible refine gate_store (t := 5) (p := 44) rfl ?_); refine store_event (t := 5) (p := 44) (v := ?vo) (w1 := (wr.setCell ⟨g4, l + i, none⟩ (.int .u8 c))) ?hg ?ho ?hn ?hr ?_; (case ho => rfl); (case hg => rfl); (case hn => rfl); (case hr => first | (go_simp; done) | (go_simp; rfl)); intro w11 hw; have n0_ := zaa.mk (show BRow w11 w.heap.size g4 c4 5 (putN (bytesOf s) l (i + 1) c) by rw [hw, ← putN_succ]; exact HP.out); have n1_ := zaa.mk (show Kd.string.R 9 w11 w.heap.size (fun x => True) (Value.slice (some { block := g3, off := 0 }) (putR l0 t j l m c).length c3) (putR l0 t j l m c) by rw [hw]; exact R_setF HO.out HRow.out.typed.choose_spec.choose_spec (by decide) _ _); have n2_ := zaa.mk (show Below w.heap.size w w11 by rw [hw]; exact zak HB.out HRow.out.base_le); clear HRow HO HB HP; have HRow := n0_; have HO := n1_; have HB := n2_; clear n0_ n1_ n2_; clear hw))
     go_roundg (m - (i + 1))
     case measure => have := HK2.out; omega
     case rel => exact ⟨i + 1, by first | rfl | (congr 1; omega), ⟨by have := HK2.out; omega⟩, HRow, HO, HB⟩
    ·have hge : ¬ ((l : Int) + i < l + m) := by omega
     obtain rfl : i = m := by have := HK2.out; omega
     have hstr := Kd.C_string (P := Try.prog) (src := 32) (dst := 9) (c := c4) Try.underlying32 Try.underlying5 Try.underlying9 (HRow.out.reads (by rw [putN_length, zbj]; omega))
     rw [putN_length, zbj] at hstr
     obtain ⟨hx3, hf3⟩ := Kd.R_celln (⟨#[]⟩ : ByteArray) HO.out ((t : Int) + j) (by omega) (by omega)
     rw [show (((t : Int) + j).toNat) = t + j by omega] at hx3 hf3
     have HP := zaa.mk (Kd.R_putg HO.out ((t : Int) + j) (putS s l i c))
     go_wp2
     go_roundg (h - (j + 1))
     case measure => have := HK.out; omega
     case rel => exact ⟨j + 1, by first | rfl | (congr 1; omega), ⟨by have := HK.out; omega⟩, ⟨by rw [← putR_succ, HSJ.out]; have z := HP.out.1; rw [show (((t : Int) + j).toNat) = t + j by omega] at z; exact z⟩, ⟨zak HB.out B3.out⟩⟩
  ·have hge : ¬ ((t : Int) + j < t + h) := by omega
   obtain rfl : j = h := by have := HK.out; omega
   go_wp2
   go_ret
   exact ⟨_, rfl, HO.out, HB.out⟩
theorem spec_l1Put.calls (A0 : Option Addr) (c0 : Nat) (l0 : List ByteArray) (a1 a2 a3 a4 a5 : Int) (r : List ByteArray) (w : World) (hr0 : Kd.C Kd.string w A0 l0.length l0) (hc0 : l0.length ≤ c0) (h : spec_l1Put.f l0 a1 a2 a3 a4 a5 = some r) :
  Calls Try.prog 127 #[.slice A0 l0.length c0, .int .i64 a1, .int .i64 a2, .int .i64 a3, .int .i64 a4, .int .u8 a5] w fun e w' => ∃ v0_ : Value, e = .returned (v0_) ∧ Kd.R Kd.string 9 w' w.heap.size (fun _ => True) v0_ r ∧ Below w.heap.size w w' := by
 unfold spec_l1Put.f at h
 by_cases hk : putOk l0 a1 a2 a3 a4 a5 = true
 ·rw [if_pos hk] at h
  obtain rfl := Option.some.inj h
  simp only [putOk, Bool.and_eq_true, decide_eq_true_eq, List.all_eq_true] at hk
  obtain ⟨⟨⟨⟨⟨⟨⟨⟨⟨⟨h1, h2⟩, h3⟩, h4⟩, h5⟩, h6⟩, h7⟩, h8⟩, h9⟩, h10⟩, h11⟩ := hk
  obtain ⟨t, rfl⟩ := Int.eq_ofNat_of_zero_le h1
  obtain ⟨l, rfl⟩ := Int.eq_ofNat_of_zero_le h2
  obtain ⟨hh, rfl⟩ := Int.eq_ofNat_of_zero_le h3
  obtain ⟨m, rfl⟩ := Int.eq_ofNat_of_zero_le h4
  simp only [Int.toNat_natCast]
  refine l1Put_walk A0 c0 l0 t l hh m a5 w hr0 hc0 h5 h6 h7 (by omega) (by omega) (by omega) (fun i hi => ?_)
  have := h11 _ (List.getElem_mem hi)
  rw [List.getD_eq_getElem?_getD, List.getElem?_eq_getElem hi]
  simp only [Option.getD_some]
  omega
 ·rw [if_neg hk] at h
  cases h
end Go.Proofs.Ytickdcegnlldjaa.Hd
namespace Go.Proofs.Ytickdcegnlldjaa.SM
open Go.Proofs.Ytickdcegnlldjaa.PB Go.Proofs.Ytickdcegnlldjaa.Hd
open Go.RowKit Go.PW.PrintWords Go.PW.PrintLast Go.PW.PrintMore
attribute [local go_sem] zbx zbv zck zcj zbq zbp zbw zbu   -- for this text's walks alone
def errW : Option Int → Value
 | none => .nilIface
 | some c => .iface 0 (.int .i64 c)
theorem zaq : errW none = .nilIface := rfl
theorem zap (c : Int) : errW (some c) = .iface 0 (.int .i64 c) := rfl
theorem info5 : (Try.prog.info? 5).map (fun i => (i.zero, i.size, i.bytes)) = some (some (.int .u8 0), 1, 1) := by kernel_rfl
theorem info9 : (Try.prog.info? 9).map (fun i => (i.zero, i.size, i.bytes)) = some (some (.string ⟨#[]⟩), 1, 16) := by kernel_rfl
end Go.Proofs.Ytickdcegnlldjaa.SM
