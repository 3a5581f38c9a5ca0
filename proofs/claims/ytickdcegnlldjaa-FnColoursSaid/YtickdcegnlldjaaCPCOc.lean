/- Part 3 of the proof of FnColours: what the program's functions and the reference's compute. -/
import Derived.Test.YtickdcegnlldjaaProg
import Derived.Below
import Derived.Deep.Draws
import Derived.Deep.AppendLies
import Derived.Maps.AppendAt
import Derived.OwnWalk
import Derived.Laws.BytesArg
import Derived.Laws.MakeOwn
import Derived.Laws.OwnMore
import Derived.Deep.OwnRows
import Derived.Tactics
import Derived.Lib.ConvBytes
import Derived.Laws.Slices
import Derived.WalkKit
import Derived.KernelRfl
import Derived.RowKit3
import Derived.Deep.LoopGhost
import Derived.Deep.QuietTactic
import Derived.BigQuiet
import Derived.WideLaws
import Derived.Deep.DeepCutAuto
import Derived.Deep.CutBlock
import Derived.Deep.RegionHeld3
import Derived.Laws.Rows
import Derived.Lib.AppendStr
import Derived.ArgAppend
import Derived.Laws.IdiomCopy
import Derived.OrdersHeld
import Derived.Laws.BitsLemmas
import Derived.RowKit
import Derived.Test.YtickdcegnlldjaaCPCOb
set_option linter.unusedSimpArgs false
set_option linter.unusedVariables false
open List renaming map_toArray → yap, map_cons → yaq, map_nil → yar, length_take → yas, length_drop → yat, getD_eq_getElem?_getD → yau
open ByteArray renaming empty → yav
open Option renaming bind_eq_some_iff → yaw, bind_some → yax
open Nat renaming le_refl → yay
open Go.PW.PrintWords.Kd renaming R_alloc → yaz, R_drewN → yba, R_drew → ybb
namespace Go.Proofs.Ytickdcegnlldjaa.PB
open Go.RowKit Go.PW.PrintWords Go.PW.PrintLast Go.PW.PrintMore
attribute [local go_sem] zby zbw zcl zck zbq zbp zbx zbv   -- for this text's walks alone
def impl_floor_sides.f (s0_0 : List (List Int)) (s0_1 : List (S120)) (a1 : Bool) (a2 : Int) (a3 : Int) : Option (Int × Int) := if a1 = true then (if 0 ≤ (wrap64 (a2 - 1)) then (if (wrap64 (a2 - 1)) < (s0_0.length : Int) then (if 0 ≤ a3 then (if a3 < ((zbt s0_0 (wrap64 (a2 - 1))).length : Int) then (if 0 ≤ a2 then (if a2 < (s0_0.length : Int) then (if a3 < ((zbt s0_0 a2).length : Int) then (some (rd (zbt s0_0 (wrap64 (a2 - 1))) a3, rd (zbt s0_0 a2) a3)) else (none)) else (none)) else (none)) else (none)) else (none)) else (none)) else (none)) else (if 0 ≤ a3 then (if a3 < (s0_0.length : Int) then (if 0 ≤ (wrap64 (a2 - 1)) then (if (wrap64 (a2 - 1)) < ((zbt s0_0 a3).length : Int) then (if 0 ≤ a2 then (if a2 < ((zbt s0_0 a3).length : Int) then (some (rd (zbt s0_0 a3) (wrap64 (a2 - 1)), rd (zbt s0_0 a3) a2)) else (none)) else (none)) else (none)) else (none)) else (none)) else (none))
set_option maxHeartbeats 8000000 in
set_option maxRecDepth 100000 in
theorem impl_floor_sides.calls (g : Nat) (s0_0 : List (List Int)) (s0_1 : List (S120)) (a1 : Bool) (a2 : Int) (a3 : Int) (r1 : Int) (r2 : Int) (w0 w : World) (hI : zaz w0 w g s0_0 s0_1) (hB : Below w0.heap.size w0 w) (h : impl_floor_sides.f s0_0 s0_1 a1 a2 a3 = some (r1, r2)) :
  Calls Try.prog 102 #[.pointer (some ⟨g, 0, none⟩), .bool a1, .int .i64 a2, .int .i64 a3] w fun e w' => e = .returned (.tuple #[.int .i64 r1, .int .i64 r2]) ∧ zaz w0 w' g s0_0 s0_1 ∧ Below w0.heap.size w0 w' ∧ zaf w w' g none := by
 have HI0 := zaa.mk hI
 have HK := zaa.mk (zaf.refl w g none)
 have HL := zaa.mk hB.size
 clear hI
 have HW0 := zaa.mk hB.size
 have HB := zaa.mk hB
 clear hB
 have H : (if a1 = true then (if 0 ≤ (wrap64 (a2 - 1)) then (if (wrap64 (a2 - 1)) < (s0_0.length : Int) then (if 0 ≤ a3 then (if a3 < ((zbt s0_0 (wrap64 (a2 - 1))).length : Int) then (if 0 ≤ a2 then (if a2 < (s0_0.length : Int) then (if a3 < ((zbt s0_0 a2).length : Int) then (some (rd (zbt s0_0 (wrap64 (a2 - 1))) a3, rd (zbt s0_0 a2) a3)) else (none)) else (none)) else (none)) else (none)) else (none)) else (none)) else (none)) else (if 0 ≤ a3 then (if a3 < (s0_0.length : Int) then (if 0 ≤ (wrap64 (a2 - 1)) then (if (wrap64 (a2 - 1)) < ((zbt s0_0 a3).length : Int) then (if 0 ≤ a2 then (if a2 < ((zbt s0_0 a3).length : Int) then (some (rd (zbt s0_0 a3) (wrap64 (a2 - 1)), rd (zbt s0_0 a3) a2)) else (none)) else (none)) else (none)) else (none)) else (none)) else (none))) = some (r1, r2) := h
 clear h
 by_cases c5 : a1 = true
 ·subst c5
  have H1 : (if 0 ≤ (wrap64 (a2 - 1)) then (if (wrap64 (a2 - 1)) < (s0_0.length : Int) then (if 0 ≤ a3 then (if a3 < ((zbt s0_0 (wrap64 (a2 - 1))).length : Int) then (if 0 ≤ a2 then (if a2 < (s0_0.length : Int) then (if a3 < ((zbt s0_0 a2).length : Int) then (some (rd (zbt s0_0 (wrap64 (a2 - 1))) a3, rd (zbt s0_0 a2) a3)) else (none)) else (none)) else (none)) else (none)) else (none)) else (none)) else (none)) = some (r1, r2) := by rw [if_pos rfl] at H; exact H
  clear H
  have H := H1
  clear H1
  obtain ⟨ji6, hji6⟩ : ∃ j_ : Int, (wrap64 (a2 - 1)) = j_ := ⟨_, rfl⟩
  replace H : (if 0 ≤ (ji6) then (if (ji6) < (s0_0.length : Int) then (if 0 ≤ a3 then (if a3 < ((zbt s0_0 (ji6)).length : Int) then (if 0 ≤ a2 then (if a2 < (s0_0.length : Int) then (if a3 < ((zbt s0_0 a2).length : Int) then (some (rd (zbt s0_0 (ji6)) a3, rd (zbt s0_0 a2) a3)) else (none)) else (none)) else (none)) else (none)) else (none)) else (none)) else (none)) = some (r1, r2) := by first | (rw [hji6] at H; exact H) | (simp only [hji6] at H ⊢; exact H)
  have hji6w : (IntKind.i64.wrap (a2 - 1)) = ji6 := (zav _).trans hji6
  by_cases c7 : 0 ≤ (ji6)
  ·rw [if_pos c7] at H
   have c7b0 : decide (0 ≤ (ji6)) = true := decide_eq_true c7
   clear c7
   by_cases c8 : (ji6) < (s0_0.length : Int)
   ·rw [if_pos c8] at H
    have c8b0 : decide ((ji6) < (s0_0.length : Int)) = true := decide_eq_true c8
    clear c8
    by_cases c9 : 0 ≤ a3
    ·rw [if_pos c9] at H
     have c9b0 : decide (0 ≤ a3) = true := decide_eq_true c9
     clear c9
     by_cases c10 : a3 < ((zbt s0_0 (ji6)).length : Int)
     ·rw [if_pos c10] at H
      have c10b0 : decide (a3 < ((zbt s0_0 (ji6)).length : Int)) = true := decide_eq_true c10
      clear c10
      by_cases c11 : 0 ≤ a2
      ·rw [if_pos c11] at H
       have c11b0 : decide (0 ≤ a2) = true := decide_eq_true c11
       clear c11
       by_cases c12 : a2 < (s0_0.length : Int)
       ·rw [if_pos c12] at H
        have c12b0 : decide (a2 < (s0_0.length : Int)) = true := decide_eq_true c12
        clear c12
        by_cases c13 : a3 < ((zbt s0_0 a2).length : Int)
        ·rw [if_pos c13] at H
         have c13b0 : decide (a3 < ((zbt s0_0 a2).length : Int)) = true := decide_eq_true c13
         clear c13
         simp only [Option.some.injEq, Prod.mk.injEq] at H
         obtain ⟨rfl, rfl⟩ := H
         obtain ⟨ASz14_0, cSz14_0, ASz14_1, cSz14_1, HGz14, hgz14, HSz14_0, HSz14_1⟩ := HI0.out
         have hcz14_0 := cellS58_0 HGz14
         have hcz14_1 := cellS58_1 HGz14
         clear HGz14 hgz14
         have p325 : 0 ≤ ((ji6) : Int) := of_decide_eq_true (by assumption)
         have q325 : (ji6) < (s0_0.length : Int) := of_decide_eq_true (by assumption)
         obtain ⟨ad325, A325_0, c325_0, e325, hx325_0, hl325_0, hi325_0⟩ := at_L3 HSz14_0 (ji6) p325 q325
         cases e325
         replace hx325_0 := zam HB.out hx325_0
         have HR325_0 := zaa.mk hi325_0
         have HC325_0 := zaa.mk hl325_0
         clear hi325_0 hl325_0
         replace p325 := eq_true p325
         replace q325 := eq_true q325
         have p326 : 0 ≤ (a3 : Int) := of_decide_eq_true (by assumption)
         have q326 : a3 < ((zbt s0_0 (ji6)).length : Int) := of_decide_eq_true (by assumption)
         obtain ⟨ad326, e326, hx326_0⟩ := Kd.at_int HR325_0.out a3 p326 q326
         cases e326
         first | (replace hx326_0 := zam HB.out hx326_0) | (replace hx326_0 := keep_cell HK.out hx326_0 (by first | (rw [add_block]; exact hf325_0 _ rfl (by omega)) | exact hf325_0 _ rfl (by omega) | exact hf325_0 ad326 rfl (by omega)))
         replace p326 := eq_true p326
         replace q326 := eq_true q326
         have p327 : 0 ≤ (a2 : Int) := of_decide_eq_true (by assumption)
         have q327 : a2 < (s0_0.length : Int) := of_decide_eq_true (by assumption)
         obtain ⟨ad327, A327_0, c327_0, e327, hx327_0, hl327_0, hi327_0⟩ := at_L3 HSz14_0 a2 p327 q327
         obtain rfl : ad325 = ad327 := (by injection e327)
         replace hx327_0 := zam HB.out hx327_0
         have HR327_0 := zaa.mk hi327_0
         have HC327_0 := zaa.mk hl327_0
         clear hi327_0 hl327_0
         replace p327 := eq_true p327
         replace q327 := eq_true q327
         have p328 : 0 ≤ (a3 : Int) := of_decide_eq_true (by assumption)
         have q328 : a3 < ((zbt s0_0 a2).length : Int) := of_decide_eq_true (by assumption)
         obtain ⟨ad328, e328, hx328_0⟩ := Kd.at_int HR327_0.out a3 p328 q328
         cases e328
         first | (replace hx328_0 := zam HB.out hx328_0) | (replace hx328_0 := keep_cell HK.out hx328_0 (by first | (rw [add_block]; exact hf327_0 _ rfl (by omega)) | exact hf327_0 _ rfl (by omega) | exact hf327_0 ad328 rfl (by omega)))
         replace p328 := eq_true p328
         replace q328 := eq_true q328
         go_enter Try.func102, Try.ntmps102
         go_wp2
         repeat (go_quiet (fail); try go_wp2)
         go_ret2
         exact ⟨by first | rfl | (simp [zao, zan] <;> rfl) | (simp only [← hji6]; first | rfl | (simp [zao, zan] <;> rfl)) | (simp [*, zao, zan] <;> rfl), by repeat (first | (with_reducible first | exact HI0.out | apply zaz.alloc | apply zaz.drewN | apply zaz.drew) | exact HI0.out), by repeat (first | (with_reducible first | exact HB.out | apply zac | apply zab | apply zad | refine zaj ?_ (zaz.ge HI0.out)) | exact HB.out), by repeat (first | (with_reducible first | exact HK.out | apply zaf.set_ | apply zah | apply zap | apply zai) | exact HK.out)⟩
        ·rw [if_neg c13] at H
         exact absurd H (by simp)
       ·rw [if_neg c12] at H
        exact absurd H (by simp)
      ·rw [if_neg c11] at H
       exact absurd H (by simp)
     ·rw [if_neg c10] at H
      exact absurd H (by simp)
    ·rw [if_neg c9] at H
     exact absurd H (by simp)
   ·rw [if_neg c8] at H
    exact absurd H (by simp)
  ·rw [if_neg c7] at H
   exact absurd H (by simp)
 ·replace c5 := Bool.eq_false_iff.mpr c5
  subst c5
  have H1 : (if 0 ≤ a3 then (if a3 < (s0_0.length : Int) then (if 0 ≤ (wrap64 (a2 - 1)) then (if (wrap64 (a2 - 1)) < ((zbt s0_0 a3).length : Int) then (if 0 ≤ a2 then (if a2 < ((zbt s0_0 a3).length : Int) then (some (rd (zbt s0_0 a3) (wrap64 (a2 - 1)), rd (zbt s0_0 a3) a2)) else (none)) else (none)) else (none)) else (none)) else (none)) else (none)) = some (r1, r2) := by rw [if_neg (show ¬ (false = true) by decide)] at H; exact H
  clear H
  have H := H1
  clear H1
  by_cases c15 : 0 ≤ a3
  ·rw [if_pos c15] at H
   have c15b0 : decide (0 ≤ a3) = true := decide_eq_true c15
   clear c15
   by_cases c16 : a3 < (s0_0.length : Int)
   ·rw [if_pos c16] at H
    have c16b0 : decide (a3 < (s0_0.length : Int)) = true := decide_eq_true c16
    clear c16
    obtain ⟨ji17, hji17⟩ : ∃ j_ : Int, (wrap64 (a2 - 1)) = j_ := ⟨_, rfl⟩
    replace H : (if 0 ≤ (ji17) then (if (ji17) < ((zbt s0_0 a3).length : Int) then (if 0 ≤ a2 then (if a2 < ((zbt s0_0 a3).length : Int) then (some (rd (zbt s0_0 a3) (ji17), rd (zbt s0_0 a3) a2)) else (none)) else (none)) else (none)) else (none)) = some (r1, r2) := by first | (rw [hji17] at H; exact H) | (simp only [hji17] at H ⊢; exact H)
    have hji17w : (IntKind.i64.wrap (a2 - 1)) = ji17 := (zav _).trans hji17
    by_cases c18 : 0 ≤ (ji17)
    ·rw [if_pos c18] at H
     have c18b0 : decide (0 ≤ (ji17)) = true := decide_eq_true c18
     clear c18
     by_cases c19 : (ji17) < ((zbt s0_0 a3).length : Int)
     ·rw [if_pos c19] at H
      have c19b0 : decide ((ji17) < ((zbt s0_0 a3).length : Int)) = true := decide_eq_true c19
      clear c19
      by_cases c20 : 0 ≤ a2
      ·rw [if_pos c20] at H
       have c20b0 : decide (0 ≤ a2) = true := decide_eq_true c20
       clear c20
       by_cases c21 : a2 < ((zbt s0_0 a3).length : Int)
       ·rw [if_pos c21] at H
        have c21b0 : decide (a2 < ((zbt s0_0 a3).length : Int)) = true := decide_eq_true c21
        clear c21
        simp only [Option.some.injEq, Prod.mk.injEq] at H
        obtain ⟨rfl, rfl⟩ := H
        obtain ⟨ASz22_0, cSz22_0, ASz22_1, cSz22_1, HGz22, hgz22, HSz22_0, HSz22_1⟩ := HI0.out
        have hcz22_0 := cellS58_0 HGz22
        have hcz22_1 := cellS58_1 HGz22
        clear HGz22 hgz22
        have p329 : 0 ≤ (a3 : Int) := of_decide_eq_true (by assumption)
        have q329 : a3 < (s0_0.length : Int) := of_decide_eq_true (by assumption)
        obtain ⟨ad329, A329_0, c329_0, e329, hx329_0, hl329_0, hi329_0⟩ := at_L3 HSz22_0 a3 p329 q329
        cases e329
        replace hx329_0 := zam HB.out hx329_0
        have HR329_0 := zaa.mk hi329_0
        have HC329_0 := zaa.mk hl329_0
        clear hi329_0 hl329_0
        replace p329 := eq_true p329
        replace q329 := eq_true q329
        have p330 : 0 ≤ ((ji17) : Int) := of_decide_eq_true (by assumption)
        have q330 : (ji17) < ((zbt s0_0 a3).length : Int) := of_decide_eq_true (by assumption)
        obtain ⟨ad330, e330, hx330_0⟩ := Kd.at_int HR329_0.out (ji17) p330 q330
        cases e330
        first | (replace hx330_0 := zam HB.out hx330_0) | (replace hx330_0 := keep_cell HK.out hx330_0 (by first | (rw [add_block]; exact hf329_0 _ rfl (by omega)) | exact hf329_0 _ rfl (by omega) | exact hf329_0 ad330 rfl (by omega)))
        replace p330 := eq_true p330
        replace q330 := eq_true q330
        have p331 : 0 ≤ (a3 : Int) := of_decide_eq_true (by assumption)
        have q331 : a3 < (s0_0.length : Int) := of_decide_eq_true (by assumption)
        obtain ⟨ad331, A331_0, c331_0, e331, hx331_0, hl331_0, hi331_0⟩ := at_L3 HSz22_0 a3 p331 q331
        obtain rfl : ad329 = ad331 := (by injection e331)
        replace hx331_0 := zam HB.out hx331_0
        try (have e_ := Option.some.inj (hx329_0.symm.trans hx331_0); injection e_ with e1_ e2_ e3_; subst e1_; subst e3_)
        have HR331_0 := zaa.mk hi331_0
        have HC331_0 := zaa.mk hl331_0
        clear hi331_0 hl331_0
        replace p331 := eq_true p331
        replace q331 := eq_true q331
        have p332 : 0 ≤ (a2 : Int) := of_decide_eq_true (by assumption)
        have q332 : a2 < ((zbt s0_0 a3).length : Int) := of_decide_eq_true (by assumption)
        obtain ⟨ad332, e332, hx332_0⟩ := Kd.at_int HR331_0.out a2 p332 q332
        cases e332
        first | (replace hx332_0 := zam HB.out hx332_0) | (replace hx332_0 := keep_cell HK.out hx332_0 (by first | (rw [add_block]; exact hf331_0 _ rfl (by omega)) | exact hf331_0 _ rfl (by omega) | exact hf331_0 ad332 rfl (by omega)))
        replace p332 := eq_true p332
        replace q332 := eq_true q332
        go_enter Try.func102, Try.ntmps102
        go_wp2
        repeat (go_quiet (fail); try go_wp2)
        go_ret2
        exact ⟨by first | rfl | (simp [zao, zan] <;> rfl) | (simp only [← hji17]; first | rfl | (simp [zao, zan] <;> rfl)) | (simp [*, zao, zan] <;> rfl), by repeat (first | (with_reducible first | exact HI0.out | apply zaz.alloc | apply zaz.drewN | apply zaz.drew) | exact HI0.out), by repeat (first | (with_reducible first | exact HB.out | apply zac | apply zab | apply zad | refine zaj ?_ (zaz.ge HI0.out)) | exact HB.out), by repeat (first | (with_reducible first | exact HK.out | apply zaf.set_ | apply zah | apply zap | apply zai) | exact HK.out)⟩
       ·rw [if_neg c21] at H
        exact absurd H (by simp)
      ·rw [if_neg c20] at H
       exact absurd H (by simp)
     ·rw [if_neg c19] at H
      exact absurd H (by simp)
    ·rw [if_neg c18] at H
     exact absurd H (by simp)
   ·rw [if_neg c16] at H
    exact absurd H (by simp)
  ·rw [if_neg c15] at H
   exact absurd H (by simp)
def impl_floor_differ.f (s0_0 : List (List Int)) (s0_1 : List (S120)) (a1 : Bool) (a2 : Int) (a3 : Int) : Option (Bool) := (impl_floor_sides.f s0_0 s0_1 a1 a2 a3).bind fun bt333 => (some (bt333.1 != bt333.2))
set_option maxHeartbeats 8000000 in
set_option maxRecDepth 100000 in
theorem impl_floor_differ.calls (g : Nat) (s0_0 : List (List Int)) (s0_1 : List (S120)) (a1 : Bool) (a2 : Int) (a3 : Int) (r : Bool) (w0 w : World) (hI : zaz w0 w g s0_0 s0_1) (hB : Below w0.heap.size w0 w) (h : impl_floor_differ.f s0_0 s0_1 a1 a2 a3 = some r) :
  Calls Try.prog 96 #[.pointer (some ⟨g, 0, none⟩), .bool a1, .int .i64 a2, .int .i64 a3] w fun e w' => e = .returned (.bool r) ∧ zaz w0 w' g s0_0 s0_1 ∧ Below w0.heap.size w0 w' ∧ zaf w w' g none := by
 have HI0 := zaa.mk hI
 have HK := zaa.mk (zaf.refl w g none)
 have HL := zaa.mk hB.size
 clear hI
 have HW0 := zaa.mk hB.size
 have HB := zaa.mk hB
 clear hB
 have H : ((impl_floor_sides.f s0_0 s0_1 a1 a2 a3).bind fun bt333 => (some (bt333.1 != bt333.2))) = some r := h
 clear h
 replace H := yaw.mp H
 obtain ⟨⟨t333, t334⟩, A50, H⟩ := H
 replace H : (some (t333 != t334)) = some r := H
 have A5 := zaa.mk A50
 clear A50
 obtain rfl := Option.some.inj H
 go_enter Try.func96, Try.ntmps96
 go_wp2_with (first | ((with_reducible refine zal (f := 102) rfl ?_); refine zbd (some 16) rfl rfl Try.func102 (by kernel_rfl) rfl #[.pointer (some ⟨g, 0, none⟩), .bool a1, .int .i64 a2, .int .i64 a3] rfl (by (try simp only [yap, yaq, yar]); first | done | rfl | (simp only [yat, yas]; rfl)) ?_; (with_reducible refine (impl_floor_sides.calls g s0_0 s0_1 a1 a2 a3 t333 t334 w0 _ ?side1 ?side2 A5.out).mono ?_); (case side1 => repeat (first | (with_reducible first | exact HI0.out | apply zaz.alloc | apply zaz.drewN | apply zaz.drew) | exact HI0.out)); (case side2 => repeat (first | (with_reducible first | exact HB.out | apply zac | apply zab | apply zad | refine zaj ?_ (zaz.ge HI0.out)) | exact HB.out)); rintro e w6 ⟨rfl, hi, hb, hk⟩; refine ⟨_, rfl, ?_⟩; have n0_ := zaa.mk (zaf.trans (by repeat (first | (with_reducible first | exact HK.out | apply zaf.set_ | apply zah | apply zap | apply zai) | exact HK.out)) hk (.inl rfl)); have n1_ := zaa.mk (hb); have n2_ := zaa.mk (hi); clear HK; clear HB; clear HI0; have HK := n0_; have HB := n1_; have HI0 := n2_; clear n0_ n1_ n2_; (try clear hb); (try clear hb2); (try clear hk); (try clear hi)))
 go_ret
 exact ⟨by first | rfl | (simp [zao, zan] <;> rfl) | (simp [*, zao, zan] <;> rfl), by repeat (first | (with_reducible first | exact HI0.out | apply zaz.alloc | apply zaz.drewN | apply zaz.drew) | exact HI0.out), by repeat (first | (with_reducible first | exact HB.out | apply zac | apply zab | apply zad | refine zaj ?_ (zaz.ge HI0.out)) | exact HB.out), by repeat (first | (with_reducible first | exact HK.out | apply zaf.set_ | apply zah | apply zap | apply zai) | exact HK.out)⟩
end Go.Proofs.Ytickdcegnlldjaa.PB
namespace Go.Proofs.Ytickdcegnlldjaa.PB
open Go.RowKit Go.PW.PrintWords Go.PW.PrintLast Go.PW.PrintMore
attribute [local go_sem] zby zbw zcl zck zbq zbp zbx zbv   -- for this text's walks alone
mutual
def impl_floor_walls.l0 : Nat → List (S72) → List Bool → Int → Int → List (List Int) → List (S120) → Option ((List (S72)))
 | 0, _, _, _, _, _, _ => none
 | k + 1, x3, x12, x13, x14, x1000, x1001 => if x14 < x13 then (if 0 ≤ x14 then (if x14 < (x12.length : Int) then ((impl_floor_wide.f x1000 x1001).bind fun t339 => ((impl_floor_high.f x1000 x1001).bind fun t340 => (if rdOf false x12 x14 = true then (impl_floor_walls.j1 k x3 (rdOf false x12 x14) t340 t339 x12 x13 x14 x1000 x1001) else (impl_floor_walls.j1 k x3 (rdOf false x12 x14) t339 t340 x12 x13 x14 x1000 x1001)))) else (none)) else (none)) else (some x3)
def impl_floor_walls.j1 : Nat → List (S72) → Bool → Int → Int → List Bool → Int → Int → List (List Int) → List (S120) → Option ((List (S72)))
 | 0, _, _, _, _, _, _, _, _, _ => none
 | k + 1, x3, x5, x6, x7, x12, x13, x14, x1000, x1001 => impl_floor_walls.l1 k x3 x5 x6 x7 1 x12 x13 x14 x1000 x1001
def impl_floor_walls.l1 : Nat → List (S72) → Bool → Int → Int → Int → List Bool → Int → Int → List (List Int) → List (S120) → Option ((List (S72)))
 | 0, _, _, _, _, _, _, _, _, _, _ => none
 | k + 1, x3, x5, x6, x7, x8, x12, x13, x14, x1000, x1001 => if x8 < x6 then (impl_floor_walls.l2 k x3 x5 x6 x7 x8 false x12 x13 x14 x7 0 x1000 x1001) else (impl_floor_walls.l0 k x3 x12 x13 (wrap64 (x14 + 1)) x1000 x1001)
def impl_floor_walls.l2 : Nat → List (S72) → Bool → Int → Int → Int → Bool → List Bool → Int → Int → Int → Int → List (List Int) → List (S120) → Option ((List (S72)))
 | 0, _, _, _, _, _, _, _, _, _, _, _, _, _ => none
 | k + 1, x3, x5, x6, x7, x8, x9, x12, x13, x14, x30, x31, x1000, x1001 => if x31 < x30 then ((impl_floor_differ.f x1000 x1001 x5 x8 x31).bind fun t341 => (if t341 = true then (impl_floor_walls.j4 k x3 x5 x6 x7 x8 x31 t341 x12 x13 x14 x30 x31 x9 x1000 x1001) else (impl_floor_walls.j4 k x3 x5 x6 x7 x8 x31 t341 x12 x13 x14 x30 x31 false x1000 x1001))) else (impl_floor_walls.l1 k x3 x5 x6 x7 (wrap64 (x8 + 1)) x12 x13 x14 x1000 x1001)
def impl_floor_walls.j4 : Nat → List (S72) → Bool → Int → Int → Int → Int → Bool → List Bool → Int → Int → Int → Int → Bool → List (List Int) → List (S120) → Option ((List (S72)))
 | 0, _, _, _, _, _, _, _, _, _, _, _, _, _, _, _ => none
 | k + 1, x3, x5, x6, x7, x8, x10, x11, x12, x13, x14, x30, x31, x39, x1000, x1001 => if x39 = true then (if 0 ≤ (wrap64 ((x3.length : Int) - 1)) then (if (wrap64 ((x3.length : Int) - 1)) < (x3.length : Int) then (impl_floor_walls.l2 k (x3.set ((wrap64 ((x3.length : Int) - 1)) : Int).toNat (⟨(zcd x3 (wrap64 ((x3.length : Int) - 1))).f0, (zcd x3 (wrap64 ((x3.length : Int) - 1))).f1, (zcd x3 (wrap64 ((x3.length : Int) - 1))).f2, wrap64 (((zcd x3 (wrap64 ((x3.length : Int) - 1))).f3) + 1)⟩ : S72)) x5 x6 x7 x8 x11 x12 x13 x14 x30 (wrap64 (x31 + 1)) x1000 x1001) else (none)) else (none)) else (if x11 = true then (if x3.length < 4398046511104 then (impl_floor_walls.l2 k (x3 ++ [(⟨x5, x8, x10, 1⟩ : S72)]) x5 x6 x7 x8 x11 x12 x13 x14 x30 (wrap64 (x31 + 1)) x1000 x1001) else (none)) else (impl_floor_walls.l2 k x3 x5 x6 x7 x8 x11 x12 x13 x14 x30 (wrap64 (x31 + 1)) x1000 x1001))
end
def impl_floor_walls.f (k : Nat) (s0_0 : List (List Int)) (s0_1 : List (S120)) : Option ((List (S72))) := (some (([false, true] : List Bool) : List Bool)).bind fun y335 => (impl_floor_walls.l0 k ([] : List (S72)) y335 (y335.length : Int) 0 s0_0 s0_1)
set_option maxHeartbeats 8000000 in
set_option maxRecDepth 100000 in
theorem impl_floor_walls.calls (k : Nat) (g : Nat) (s0_0 : List (List Int)) (s0_1 : List (S120)) (r : List (S72)) (w0 w : World) (hI : zaz w0 w g s0_0 s0_1) (hB : Below w0.heap.size w0 w) (h : impl_floor_walls.f k s0_0 s0_1 = some r) :
  Calls Try.prog 61 #[.pointer (some ⟨g, 0, none⟩)] w fun e w' => ∃ v0_ : Value, e = .returned (v0_) ∧ Kd.R k72 72 w' w.heap.size (fun _ => True) v0_ r ∧ zaz w0 w' g s0_0 s0_1 ∧ Below w0.heap.size w0 w' ∧ zaf w w' g none := by
 have hu72 := Try.underlying72
 have HI0 := zaa.mk hI
 have HK := zaa.mk (zaf.refl w g none)
 have HL := zaa.mk hB.size
 clear hI
 have HW0 := zaa.mk hB.size
 have HB := zaa.mk hB
 clear hB
 have H : ((some (([false, true] : List Bool) : List Bool)).bind fun y335 => (impl_floor_walls.l0 k ([] : List (S72)) y335 (y335.length : Int) 0 s0_0 s0_1)) = some r := h
 clear h
 obtain ⟨y335, hy335⟩ : ∃ y_ : List Bool, y_ = (([false, true] : List Bool)) := ⟨_, rfl⟩
 replace H : (impl_floor_walls.l0 k ([] : List (S72)) y335 (y335.length : Int) 0 s0_0 s0_1) = some r := by first | (rw [hy335]; with_reducible exact H) | (have H2_ := (yax _ _).symm.trans H; rw [hy335]; with_reducible exact H2_) | (have H2_ := (yax _ _).symm.trans H; with_reducible exact H2_) | with_reducible exact H | (rw [hy335]; exact H) | exact H
 have Ny335 := zaa.mk hy335
 clear hy335
 have H' := zaa.mk H
 clear H
 go_enter Try.func61, Try.ntmps61
 go_wp2_with (first | ((with_reducible refine zbb (N := 12) rfl ?_); refine Kd.R_lit Kd.bool _ 4 ?hg (N := 12) ?hd (xs := ([false, true] : List Bool)) (inner := [.bool false, .bool true]) (ok := fun _ => True) (okp := fun _ => True) ?hr ?hp (fun _ hk => hk) trivial (Below.refl _ _) (yay _) (by simp) ?_; (case hd => rfl); (case hg => rfl); (case hr => first | (go_simp; done) | (go_simp; rfl)); (case hp => exact (Reps.one (show Kd.M Kd.bool _ _ _ false [.bool false] from rfl) (Reps.one (show Kd.M Kd.bool _ _ _ true [.bool true] from rfl) (Reps.none _ _)))); intro v336 w2 ho3 hb hg_ hnew_; clear hg_ hnew_; (first | rw [← Ny335.out] at ho3 | (simp only [Int.reduceToNat] at ho3; rw [← Ny335.out] at ho3)); have n0_ := zaa.mk (Kd.R_lower ho3 (zbg (w := w) (g := g) (row := none) (by repeat (first | (with_reducible first | exact HK.out | apply zaf.set_ | apply zah | apply zap | apply zai) | exact HK.out)))); have n1_ := zaa.mk (zaz.below (by repeat (first | (with_reducible first | exact HI0.out | apply zaz.alloc | apply zaz.drewN | apply zaz.drew) | exact HI0.out)) hb); have n2_ := zaa.mk (zaf.trans (by repeat (first | (with_reducible first | exact HK.out | apply zaf.set_ | apply zah | apply zap | apply zai) | exact HK.out)) (zaf.of_below hb g none) (.inl rfl)); have n3_ := zaa.mk (zae (by repeat (first | (with_reducible first | exact HB.out | apply zac | apply zab | apply zad | refine zaj ?_ (zaz.ge HI0.out)) | exact HB.out)) hb); clear HI0; clear HK; clear HB; have HO337 := n0_; have HI0 := n1_; have HK := n2_; have HB := n3_; clear n0_ n1_ n2_ n3_; clear hb ho3; obtain ⟨Ao4, co4, eo4⟩ := Kd.R_slice HO337.out; subst eo4))
 go_loopg [3, 14] k (fun kq v3 v14 w' => ∃ (x3_1 : List (S72)) (x14_1 : Int), v14 = .int .i64 x14_1 ∧ zaa (impl_floor_walls.l0 kq x3_1 y335 (y335.length : Int) x14_1 s0_0 s0_1 = some r) ∧ zaa (kq ≤ k) ∧ zaa (Kd.R k72 72 w' w.heap.size (fun _ => True) v3 x3_1) ∧ zaa (Kd.R Kd.bool 4 w' w.heap.size (fun _ => True) (.slice Ao4 y335.length co4) y335) ∧ zaa (zaz w0 w' g s0_0 s0_1) ∧ zaa (zaf w w' g none) ∧ zaa (Below w0.heap.size w0 w'))
 case atStart => exact ⟨(([] : List (S72))), (0), (by first | rfl | (simp; done) | (simp [*]; done)), H', ⟨yay _⟩, ⟨by first | exact Kd.R_nil _ _ _ _ _ | exact Kd.N_nil _ _ _ _ _ | exact Kd.V_nil _ _ _ _ _ | exact Kd.Q_nil _ _ _ _ _ | exact Kd.S_nil _ _ _ _ _⟩, ⟨by (with_reducible repeat (first | apply yaz | apply yba | apply ybb)); exact HO337.out⟩, ⟨by repeat (first | (with_reducible first | exact HI0.out | apply zaz.alloc | apply zaz.drewN | apply zaz.drew) | exact HI0.out)⟩, ⟨by repeat (first | (with_reducible first | exact HK.out | apply zaf.set_ | apply zah | apply zap | apply zai) | exact HK.out)⟩, ⟨by repeat (first | (with_reducible first | exact HB.out | apply zac | apply zab | apply zad | refine zaj ?_ (zaz.ge HI0.out)) | exact HB.out)⟩⟩
 case round =>
  clear H'
  try clear p2
  obtain ⟨x3_1, x14_1, rfl, HA, HK1, HO_3, HO_12, HI0, HK, HB⟩ := hrel
  cases gk with
  | zero => exact absurd HA.out (by simp [impl_floor_walls.l0])
  | succ k1 =>
   have H := HA.out
   clear HA
   simp only [impl_floor_walls.l0] at H
   by_cases c5 : x14_1 < (y335.length : Int)
   ·rw [if_pos c5] at H
    have c5b0 : decide (x14_1 < (y335.length : Int)) = true := decide_eq_true c5
    clear c5
    by_cases c6 : 0 ≤ x14_1
    ·rw [if_pos c6] at H
     have c6b0 : decide (0 ≤ x14_1) = true := decide_eq_true c6
     clear c6
     by_cases c7 : x14_1 < (y335.length : Int)
     ·rw [if_pos c7] at H
      have c7b0 : decide (x14_1 < (y335.length : Int)) = true := decide_eq_true c7
      clear c7
      replace H := yaw.mp H
      obtain ⟨t339, A80, H⟩ := H
      replace H : ((impl_floor_high.f s0_0 s0_1).bind fun t340 => (if rdOf false y335 x14_1 = true then (impl_floor_walls.j1 k1 x3_1 (rdOf false y335 x14_1) t340 t339 y335 (y335.length : Int) x14_1 s0_0 s0_1) else (impl_floor_walls.j1 k1 x3_1 (rdOf false y335 x14_1) t339 t340 y335 (y335.length : Int) x14_1 s0_0 s0_1))) = some r := H
      have A8 := zaa.mk A80
      clear A80
      replace H := yaw.mp H
      obtain ⟨t340, A90, H⟩ := H
      replace H : (if rdOf false y335 x14_1 = true then (impl_floor_walls.j1 k1 x3_1 (rdOf false y335 x14_1) t340 t339 y335 (y335.length : Int) x14_1 s0_0 s0_1) else (impl_floor_walls.j1 k1 x3_1 (rdOf false y335 x14_1) t339 t340 y335 (y335.length : Int) x14_1 s0_0 s0_1)) = some r := H
      have A9 := zaa.mk A90
      clear A90
      have HC10 := zaa.mk H
      clear H
      have p338 : 0 ≤ (x14_1 : Int) := of_decide_eq_true (by assumption)
      have q338 : x14_1 < (y335.length : Int) := of_decide_eq_true (by assumption)
      obtain ⟨ad338, e338, hx338_0⟩ := Kd.at_bool (Kd.R_reads' HO_12.out).2.2 x14_1 p338 q338
      cases e338
      replace p338 := eq_true p338
      replace q338 := eq_true q338
      go_upto_if 22 with (first | ((with_reducible refine zal (f := 51) rfl ?_); refine zbd (some 19) rfl rfl Try.func51 (by kernel_rfl) rfl #[.pointer (some ⟨g, 0, none⟩)] rfl (by (try simp only [yap, yaq, yar]); first | done | rfl | (simp only [yat, yas]; rfl)) ?_; (with_reducible refine (impl_floor_wide.calls g s0_0 s0_1 t339 w0 _ ?side1 ?side2 A8.out).mono ?_); (case side1 => repeat (first | (with_reducible first | exact HI0.out | apply zaz.alloc | apply zaz.drewN | apply zaz.drew) | exact HI0.out)); (case side2 => repeat (first | (with_reducible first | exact HB.out | apply zac | apply zab | apply zad | refine zaj ?_ (zaz.ge HI0.out)) | exact HB.out)); rintro e w11 ⟨rfl, hi, hb, hk⟩; refine ⟨_, rfl, ?_⟩; have n0_ := zaa.mk (Kd.R_mono (Kd.R_keep (zaz.apart (show zaz w0 _ g s0_0 s0_1 from by repeat (first | (with_reducible first | exact HI0.out | apply zaz.alloc | apply zaz.drewN | apply zaz.drew) | exact HI0.out)) (by (with_reducible repeat (first | apply yaz | apply yba | apply ybb)); exact HO_3.out) (by decide)) hk (fun _ h => h.2)) (fun _ h => h.1)); have n1_ := zaa.mk (Kd.R_mono (Kd.R_keep (zaz.apart (show zaz w0 _ g s0_0 s0_1 from by repeat (first | (with_reducible first | exact HI0.out | apply zaz.alloc | apply zaz.drewN | apply zaz.drew) | exact HI0.out)) (by (with_reducible repeat (first | apply yaz | apply yba | apply ybb)); exact HO_12.out) (by decide)) hk (fun _ h => h.2)) (fun _ h => h.1)); have n2_ := zaa.mk (zaf.trans (by repeat (first | (with_reducible first | exact HK.out | apply zaf.set_ | apply zah | apply zap | apply zai) | exact HK.out)) hk (.inl rfl)); have n3_ := zaa.mk (hb); have n4_ := zaa.mk (hi); clear HO_3; clear HO_12; clear HK; clear HB; clear HI0; have HO_3 := n0_; have HO_12 := n1_; have HK := n2_; have HB := n3_; have HI0 := n4_; clear n0_ n1_ n2_ n3_ n4_; (try clear hb); (try clear hb2); (try clear hk); (try clear hi)) | ((with_reducible refine zal (f := 52) rfl ?_); refine zbd (some 21) rfl rfl Try.func52 (by kernel_rfl) rfl #[.pointer (some ⟨g, 0, none⟩)] rfl (by (try simp only [yap, yaq, yar]); first | done | rfl | (simp only [yat, yas]; rfl)) ?_; (with_reducible refine (impl_floor_high.calls g s0_0 s0_1 t340 w0 _ ?side1 ?side2 A9.out).mono ?_); (case side1 => repeat (first | (with_reducible first | exact HI0.out | apply zaz.alloc | apply zaz.drewN | apply zaz.drew) | exact HI0.out)); (case side2 => repeat (first | (with_reducible first | exact HB.out | apply zac | apply zab | apply zad | refine zaj ?_ (zaz.ge HI0.out)) | exact HB.out)); rintro e w12 ⟨rfl, hi, hb, hk⟩; refine ⟨_, rfl, ?_⟩; have n0_ := zaa.mk (Kd.R_mono (Kd.R_keep (zaz.apart (show zaz w0 _ g s0_0 s0_1 from by repeat (first | (with_reducible first | exact HI0.out | apply zaz.alloc | apply zaz.drewN | apply zaz.drew) | exact HI0.out)) (by (with_reducible repeat (first | apply yaz | apply yba | apply ybb)); exact HO_3.out) (by decide)) hk (fun _ h => h.2)) (fun _ h => h.1)); have n1_ := zaa.mk (Kd.R_mono (Kd.R_keep (zaz.apart (show zaz w0 _ g s0_0 s0_1 from by repeat (first | (with_reducible first | exact HI0.out | apply zaz.alloc | apply zaz.drewN | apply zaz.drew) | exact HI0.out)) (by (with_reducible repeat (first | apply yaz | apply yba | apply ybb)); exact HO_12.out) (by decide)) hk (fun _ h => h.2)) (fun _ h => h.1)); have n2_ := zaa.mk (zaf.trans (by repeat (first | (with_reducible first | exact HK.out | apply zaf.set_ | apply zah | apply zap | apply zai) | exact HK.out)) hk (.inl rfl)); have n3_ := zaa.mk (hb); have n4_ := zaa.mk (hi); clear HO_3; clear HO_12; clear HK; clear HB; clear HI0; have HO_3 := n0_; have HO_12 := n1_; have HK := n2_; have HB := n3_; have HI0 := n4_; clear n0_ n1_ n2_ n3_ n4_; (try clear hb); (try clear hb2); (try clear hk); (try clear hi)))
      (try simp only [Act.put, List.setIfInBounds_toArray, List.set_cons_zero, List.set_cons_succ])
      obtain ⟨lv_, hlv_⟩ : ∃ b_ : Bool, b_ = (rdOf false y335 x14_1) := ⟨_, rfl⟩
      rw [← hlv_]
      have Hlv_ := zaa.mk hlv_
      clear hlv_
      go_cut [6, 7] (fun v6 v7 wc => ∃ (kq : Nat) (x6_9 : Int) (x7_9 : Int), v6 = .int .i64 x6_9 ∧ v7 = .int .i64 x7_9 ∧ zaa (impl_floor_walls.j1 kq x3_1 lv_ x6_9 x7_9 y335 (y335.length : Int) x14_1 s0_0 s0_1 = some r) ∧ zaa (kq ≤ k1) ∧ zaa (Kd.R k72 72 wc w.heap.size (fun _ => True) u3 x3_1) ∧ zaa (Kd.R Kd.bool 4 wc w.heap.size (fun _ => True) (.slice (some ad338) y335.length co4) y335) ∧ zaa (zaz w0 wc g s0_0 s0_1) ∧ zaa (zaf w wc g none) ∧ zaa (Below w0.heap.size w0 wc))
      case first =>
       have H := HC10.out
       clear HC10
       obtain ⟨bq13, hbq13⟩ : ∃ b_ : Bool, b_ = (rdOf false y335 x14_1) := ⟨_, rfl⟩
       replace H : (if bq13 = true then (impl_floor_walls.j1 k1 x3_1 bq13 t340 t339 y335 (y335.length : Int) x14_1 s0_0 s0_1) else (impl_floor_walls.j1 k1 x3_1 bq13 t339 t340 y335 (y335.length : Int) x14_1 s0_0 s0_1)) = some r := by rw [← hbq13] at H; exact H
       have Nbq13 := zaa.mk hbq13
       clear hbq13
       obtain rfl : bq13 = lv_ := Nbq13.out.trans Hlv_.out.symm
       by_cases c14 : bq13 = true
       ·subst c14
        have H1 : (impl_floor_walls.j1 k1 x3_1 true t340 t339 y335 (y335.length : Int) x14_1 s0_0 s0_1) = some r := by rw [if_pos rfl] at H; exact H
        clear H
        have H := H1
        clear H1
        have H' := zaa.mk H
        clear H
        go_wp2
        go_meet
        case rel => exact ⟨_, (t340), (t339), (by first | rfl | (simp; done) | (simp [*]; done)), (by first | rfl | (simp; done) | (simp [*]; done)), H', ⟨by have := HK1.out; first | omega | exact yay _⟩, ⟨by (with_reducible repeat (first | apply yaz | apply yba | apply ybb)); exact HO_3.out⟩, ⟨by (with_reducible repeat (first | apply yaz | apply yba | apply ybb)); exact HO_12.out⟩, ⟨by repeat (first | (with_reducible first | exact HI0.out | apply zaz.alloc | apply zaz.drewN | apply zaz.drew) | exact HI0.out)⟩, ⟨by repeat (first | (with_reducible first | exact HK.out | apply zaf.set_ | apply zah | apply zap | apply zai) | exact HK.out)⟩, ⟨by repeat (first | (with_reducible first | exact HB.out | apply zac | apply zab | apply zad | refine zaj ?_ (zaz.ge HI0.out)) | exact HB.out)⟩⟩
       ·replace c14 := Bool.eq_false_iff.mpr c14
        subst c14
        have H1 : (impl_floor_walls.j1 k1 x3_1 false t339 t340 y335 (y335.length : Int) x14_1 s0_0 s0_1) = some r := by rw [if_neg (show ¬ (false = true) by decide)] at H; exact H
        clear H
        have H := H1
        clear H1
        have H' := zaa.mk H
        clear H
        go_wp2
        go_meet
        case rel => exact ⟨_, (t339), (t340), (by first | rfl | (simp; done) | (simp [*]; done)), (by first | rfl | (simp; done) | (simp [*]; done)), H', ⟨by have := HK1.out; first | omega | exact yay _⟩, ⟨by (with_reducible repeat (first | apply yaz | apply yba | apply ybb)); exact HO_3.out⟩, ⟨by (with_reducible repeat (first | apply yaz | apply yba | apply ybb)); exact HO_12.out⟩, ⟨by repeat (first | (with_reducible first | exact HI0.out | apply zaz.alloc | apply zaz.drewN | apply zaz.drew) | exact HI0.out)⟩, ⟨by repeat (first | (with_reducible first | exact HK.out | apply zaf.set_ | apply zah | apply zap | apply zai) | exact HK.out)⟩, ⟨by repeat (first | (with_reducible first | exact HB.out | apply zac | apply zab | apply zad | refine zaj ?_ (zaz.ge HI0.out)) | exact HB.out)⟩⟩
      case rest =>
       have hlv_ := Hlv_.out
       clear Hlv_
       subst hlv_
       clear HC10
       try clear c1
       try clear q1
       try clear p2
       try clear p3
       try clear q3
       try clear hx3
       try clear c5
       try clear c5b0
       try clear c6
       try clear c6b0
       try clear c7
       try clear c7b0
       try clear q13
       try clear c14
       try clear hx338_0
       try clear p2
       try clear p338
       try clear q338
       obtain ⟨kq, x6_9, x7_9, rfl, rfl, HA, HJ9, HO_3, HO_12, HI0, HK, HB⟩ := hcut
       cases kq with
       | zero => exact absurd HA.out (by simp [impl_floor_walls.j1])
       | succ kj9 =>
        have H := HA.out
        clear HA
        simp only [impl_floor_walls.j1] at H
        have H' := zaa.mk H
        clear H
        go_wp2
        go_loopg [3, 8] kj9 (fun kq v3 v8 w' => ∃ (x3_3 : List (S72)) (x8_3 : Int), v8 = .int .i64 x8_3 ∧ zaa (impl_floor_walls.l1 kq x3_3 (rdOf false y335 x14_1) x6_9 x7_9 x8_3 y335 (y335.length : Int) x14_1 s0_0 s0_1 = some r) ∧ zaa (kq ≤ kj9) ∧ zaa (Kd.R k72 72 w' w.heap.size (fun _ => True) v3 x3_3) ∧ zaa (Kd.R Kd.bool 4 w' w.heap.size (fun _ => True) (.slice (some ad338) y335.length co4) y335) ∧ zaa (zaz w0 w' g s0_0 s0_1) ∧ zaa (zaf w w' g none) ∧ zaa (Below w0.heap.size w0 w'))
        case atStart => exact ⟨(x3_1), (1), (by first | rfl | (simp; done) | (simp [*]; done)), H', ⟨yay _⟩, ⟨by (with_reducible repeat (first | apply yaz | apply yba | apply ybb)); exact HO_3.out⟩, ⟨by (with_reducible repeat (first | apply yaz | apply yba | apply ybb)); exact HO_12.out⟩, ⟨by repeat (first | (with_reducible first | exact HI0.out | apply zaz.alloc | apply zaz.drewN | apply zaz.drew) | exact HI0.out)⟩, ⟨by repeat (first | (with_reducible first | exact HK.out | apply zaf.set_ | apply zah | apply zap | apply zai) | exact HK.out)⟩, ⟨by repeat (first | (with_reducible first | exact HB.out | apply zac | apply zab | apply zad | refine zaj ?_ (zaz.ge HI0.out)) | exact HB.out)⟩⟩
        case round =>
         clear H'
         try clear c1
         try clear q1
         try clear p2
         try clear p3
         try clear q3
         try clear hx3
         try clear c5
         try clear c5b0
         try clear c6
         try clear c6b0
         try clear c7
         try clear c7b0
         try clear q13
         try clear c14
         try clear hx338_0
         try clear p2
         try clear p3
         try clear p338
         try clear q1
         try clear q13
         try clear q3
         try clear q338
         obtain ⟨x3_3, x8_3, rfl, HA, HK3, HO_3, HO_12, HI0, HK, HB⟩ := hrel
         cases gk with
         | zero => exact absurd HA.out (by simp [impl_floor_walls.l1])
         | succ k3 =>
          have H := HA.out
          clear HA
          simp only [impl_floor_walls.l1] at H
          by_cases c15 : x8_3 < x6_9
          ·rw [if_pos c15] at H
           have c15b0 : decide (x8_3 < x6_9) = true := decide_eq_true c15
           clear c15
           have H' := zaa.mk H
           clear H
           go_wp2
           go_loopg [3, 9, 31] k3 (fun kq v3 v9 v31 w' => ∃ (x3_4 : List (S72)) (x9_4 : Bool) (x31_4 : Int), v9 = .bool x9_4 ∧ v31 = .int .i64 x31_4 ∧ zaa (impl_floor_walls.l2 kq x3_4 (rdOf false y335 x14_1) x6_9 x7_9 x8_3 x9_4 y335 (y335.length : Int) x14_1 x7_9 x31_4 s0_0 s0_1 = some r) ∧ zaa (kq ≤ k3) ∧ zaa (Kd.R k72 72 w' w.heap.size (fun _ => True) v3 x3_4) ∧ zaa (Kd.R Kd.bool 4 w' w.heap.size (fun _ => True) (.slice (some ad338) y335.length co4) y335) ∧ zaa (zaz w0 w' g s0_0 s0_1) ∧ zaa (zaf w w' g none) ∧ zaa (Below w0.heap.size w0 w'))
           case atStart => exact ⟨(x3_3), (false), (0), (by first | rfl | (simp; done) | (simp [*]; done)), (by first | rfl | (simp; done) | (simp [*]; done)), H', ⟨yay _⟩, ⟨by (with_reducible repeat (first | apply yaz | apply yba | apply ybb)); exact HO_3.out⟩, ⟨by (with_reducible repeat (first | apply yaz | apply yba | apply ybb)); exact HO_12.out⟩, ⟨by repeat (first | (with_reducible first | exact HI0.out | apply zaz.alloc | apply zaz.drewN | apply zaz.drew) | exact HI0.out)⟩, ⟨by repeat (first | (with_reducible first | exact HK.out | apply zaf.set_ | apply zah | apply zap | apply zai) | exact HK.out)⟩, ⟨by repeat (first | (with_reducible first | exact HB.out | apply zac | apply zab | apply zad | refine zaj ?_ (zaz.ge HI0.out)) | exact HB.out)⟩⟩
           case round =>
            clear H'
            try clear c1
            try clear q1
            try clear p2
            try clear p3
            try clear q3
            try clear hx3
            try clear c5
            try clear c5b0
            try clear c6
            try clear c6b0
            try clear c7
            try clear c7b0
            try clear q13
            try clear c14
            try clear c15
            try clear c15b0
            try clear hx338_0
            try clear p2
            try clear p3
            try clear p338
            try clear q1
            try clear q13
            try clear q3
            try clear q338
            obtain ⟨x3_4, x9_4, x31_4, rfl, rfl, HA, HK4, HO_3, HO_12, HI0, HK, HB⟩ := hrel
            cases gk with
            | zero => exact absurd HA.out (by simp [impl_floor_walls.l2])
            | succ k4 =>
             have H := HA.out
             clear HA
             simp only [impl_floor_walls.l2] at H
             by_cases c16 : x31_4 < x7_9
             ·rw [if_pos c16] at H
              have c16b0 : decide (x31_4 < x7_9) = true := decide_eq_true c16
              clear c16
              replace H := yaw.mp H
              obtain ⟨t341, A170, H⟩ := H
              replace H : (if t341 = true then (impl_floor_walls.j4 k4 x3_4 (rdOf false y335 x14_1) x6_9 x7_9 x8_3 x31_4 t341 y335 (y335.length : Int) x14_1 x7_9 x31_4 x9_4 s0_0 s0_1) else (impl_floor_walls.j4 k4 x3_4 (rdOf false y335 x14_1) x6_9 x7_9 x8_3 x31_4 t341 y335 (y335.length : Int) x14_1 x7_9 x31_4 false s0_0 s0_1)) = some r := H
              have A17 := zaa.mk A170
              clear A170
              have HC18 := zaa.mk H
              clear H
              go_upto_region 16 with (first | ((with_reducible refine zal (f := 96) rfl ?_); refine zbd (some 38) rfl rfl Try.func96 (by kernel_rfl) rfl #[.pointer (some ⟨g, 0, none⟩), .bool (rdOf false y335 x14_1), .int .i64 x8_3, .int .i64 x31_4] rfl (by (try simp only [yap, yaq, yar]); first | done | rfl | (simp only [yat, yas]; rfl)) ?_; (with_reducible refine (impl_floor_differ.calls g s0_0 s0_1 (rdOf false y335 x14_1) x8_3 x31_4 t341 w0 _ ?side1 ?side2 A17.out).mono ?_); (case side1 => repeat (first | (with_reducible first | exact HI0.out | apply zaz.alloc | apply zaz.drewN | apply zaz.drew) | exact HI0.out)); (case side2 => repeat (first | (with_reducible first | exact HB.out | apply zac | apply zab | apply zad | refine zaj ?_ (zaz.ge HI0.out)) | exact HB.out)); rintro e w19 ⟨rfl, hi, hb, hk⟩; refine ⟨_, rfl, ?_⟩; have n0_ := zaa.mk (Kd.R_mono (Kd.R_keep (zaz.apart (show zaz w0 _ g s0_0 s0_1 from by repeat (first | (with_reducible first | exact HI0.out | apply zaz.alloc | apply zaz.drewN | apply zaz.drew) | exact HI0.out)) (by (with_reducible repeat (first | apply yaz | apply yba | apply ybb)); exact HO_3.out) (by decide)) hk (fun _ h => h.2)) (fun _ h => h.1)); have n1_ := zaa.mk (Kd.R_mono (Kd.R_keep (zaz.apart (show zaz w0 _ g s0_0 s0_1 from by repeat (first | (with_reducible first | exact HI0.out | apply zaz.alloc | apply zaz.drewN | apply zaz.drew) | exact HI0.out)) (by (with_reducible repeat (first | apply yaz | apply yba | apply ybb)); exact HO_12.out) (by decide)) hk (fun _ h => h.2)) (fun _ h => h.1)); have n2_ := zaa.mk (zaf.trans (by repeat (first | (with_reducible first | exact HK.out | apply zaf.set_ | apply zah | apply zap | apply zai) | exact HK.out)) hk (.inl rfl)); have n3_ := zaa.mk (hb); have n4_ := zaa.mk (hi); clear HO_3; clear HO_12; clear HK; clear HB; clear HI0; have HO_3 := n0_; have HO_12 := n1_; have HK := n2_; have HB := n3_; have HI0 := n4_; clear n0_ n1_ n2_ n3_ n4_; (try clear hb); (try clear hb2); (try clear hk); (try clear hi)))
              (try simp only [Act.put, List.setIfInBounds_toArray, List.set_cons_zero, List.set_cons_succ])
              go_cut [39] (fun v39 wc => ∃ (kq : Nat) (x39_17 : Bool), v39 = .bool x39_17 ∧ zaa (impl_floor_walls.j4 kq x3_4 (rdOf false y335 x14_1) x6_9 x7_9 x8_3 x31_4 t341 y335 (y335.length : Int) x14_1 x7_9 x31_4 x39_17 s0_0 s0_1 = some r) ∧ zaa (kq ≤ k4) ∧ zaa (Kd.R k72 72 wc w.heap.size (fun _ => True) u3 x3_4) ∧ zaa (Kd.R Kd.bool 4 wc w.heap.size (fun _ => True) (.slice (some ad338) y335.length co4) y335) ∧ zaa (zaz w0 wc g s0_0 s0_1) ∧ zaa (zaf w wc g none) ∧ zaa (Below w0.heap.size w0 wc))
              case first =>
               have H := HC18.out
               clear HC18
               by_cases c20 : t341 = true
               ·subst c20
                have H1 : (impl_floor_walls.j4 k4 x3_4 (rdOf false y335 x14_1) x6_9 x7_9 x8_3 x31_4 true y335 (y335.length : Int) x14_1 x7_9 x31_4 x9_4 s0_0 s0_1) = some r := by rw [if_pos rfl] at H; exact H
                clear H
                have H := H1
                clear H1
                have H' := zaa.mk H
                clear H
                go_wp2
                go_meet
                case rel => exact ⟨_, (x9_4), (by first | rfl | (simp; done) | (simp [*]; done)), H', ⟨by have := HK1.out; have := HJ9.out; have := HK3.out; have := HK4.out; first | omega | exact yay _⟩, ⟨by (with_reducible repeat (first | apply yaz | apply yba | apply ybb)); exact HO_3.out⟩, ⟨by (with_reducible repeat (first | apply yaz | apply yba | apply ybb)); exact HO_12.out⟩, ⟨by repeat (first | (with_reducible first | exact HI0.out | apply zaz.alloc | apply zaz.drewN | apply zaz.drew) | exact HI0.out)⟩, ⟨by repeat (first | (with_reducible first | exact HK.out | apply zaf.set_ | apply zah | apply zap | apply zai) | exact HK.out)⟩, ⟨by repeat (first | (with_reducible first | exact HB.out | apply zac | apply zab | apply zad | refine zaj ?_ (zaz.ge HI0.out)) | exact HB.out)⟩⟩
               ·replace c20 := Bool.eq_false_iff.mpr c20
                subst c20
                have H1 : (impl_floor_walls.j4 k4 x3_4 (rdOf false y335 x14_1) x6_9 x7_9 x8_3 x31_4 false y335 (y335.length : Int) x14_1 x7_9 x31_4 false s0_0 s0_1) = some r := by rw [if_neg (show ¬ (false = true) by decide)] at H; exact H
                clear H
                have H := H1
                clear H1
                have H' := zaa.mk H
                clear H
                go_wp2
                go_meet
                case rel => exact ⟨_, (false), (by first | rfl | (simp; done) | (simp [*]; done)), H', ⟨by have := HK1.out; have := HJ9.out; have := HK3.out; have := HK4.out; first | omega | exact yay _⟩, ⟨by (with_reducible repeat (first | apply yaz | apply yba | apply ybb)); exact HO_3.out⟩, ⟨by (with_reducible repeat (first | apply yaz | apply yba | apply ybb)); exact HO_12.out⟩, ⟨by repeat (first | (with_reducible first | exact HI0.out | apply zaz.alloc | apply zaz.drewN | apply zaz.drew) | exact HI0.out)⟩, ⟨by repeat (first | (with_reducible first | exact HK.out | apply zaf.set_ | apply zah | apply zap | apply zai) | exact HK.out)⟩, ⟨by repeat (first | (with_reducible first | exact HB.out | apply zac | apply zab | apply zad | refine zaj ?_ (zaz.ge HI0.out)) | exact HB.out)⟩⟩
              case rest =>
               clear HC18
               try clear c1
               try clear q1
               try clear c2
               try clear p2
               try clear p3
               try clear q3
               try clear hx3
               try clear c5
               try clear c5b0
               try clear c6
               try clear c6b0
               try clear c7
               try clear c7b0
               try clear c9
               try clear q13
               try clear c14
               try clear c15
               try clear c15b0
               try clear c16
               try clear c16b0
               try clear c20
               try clear hx338_0
               try clear p2
               try clear p3
               try clear p338
               try clear q1
               try clear q13
               try clear q3
               try clear q338
               obtain ⟨kq, x39_17, rfl, HA, HJ17, HO_3, HO_12, HI0, HK, HB⟩ := hcut
               cases kq with
               | zero => exact absurd HA.out (by simp [impl_floor_walls.j4])
               | succ kj17 =>
                have H := HA.out
                clear HA
                simp only [impl_floor_walls.j4] at H
                by_cases c21 : x39_17 = true
                ·subst c21
                 have H1 : (if 0 ≤ (wrap64 ((x3_4.length : Int) - 1)) then (if (wrap64 ((x3_4.length : Int) - 1)) < (x3_4.length : Int) then (impl_floor_walls.l2 kj17 (x3_4.set ((wrap64 ((x3_4.length : Int) - 1)) : Int).toNat (⟨(zcd x3_4 (wrap64 ((x3_4.length : Int) - 1))).f0, (zcd x3_4 (wrap64 ((x3_4.length : Int) - 1))).f1, (zcd x3_4 (wrap64 ((x3_4.length : Int) - 1))).f2, wrap64 (((zcd x3_4 (wrap64 ((x3_4.length : Int) - 1))).f3) + 1)⟩ : S72)) (rdOf false y335 x14_1) x6_9 x7_9 x8_3 t341 y335 (y335.length : Int) x14_1 x7_9 (wrap64 (x31_4 + 1)) s0_0 s0_1) else (none)) else (none)) = some r := by rw [if_pos rfl] at H; exact H
                 clear H
                 have H := H1
                 clear H1
                 obtain ⟨ji22, hji22⟩ : ∃ j_ : Int, (wrap64 ((x3_4.length : Int) - 1)) = j_ := ⟨_, rfl⟩
                 replace H : (if 0 ≤ (ji22) then (if (ji22) < (x3_4.length : Int) then (impl_floor_walls.l2 kj17 (x3_4.set ((ji22) : Int).toNat (⟨(zcd x3_4 (ji22)).f0, (zcd x3_4 (ji22)).f1, (zcd x3_4 (ji22)).f2, wrap64 (((zcd x3_4 (ji22)).f3) + 1)⟩ : S72)) (rdOf false y335 x14_1) x6_9 x7_9 x8_3 t341 y335 (y335.length : Int) x14_1 x7_9 (wrap64 (x31_4 + 1)) s0_0 s0_1) else (none)) else (none)) = some r := by first | (rw [hji22] at H; exact H) | (simp only [hji22] at H ⊢; exact H)
                 have hji22w : (IntKind.i64.wrap ((x3_4.length : Int) - 1)) = ji22 := (zav _).trans hji22
                 by_cases c23 : 0 ≤ (ji22)
                 ·rw [if_pos c23] at H
                  have c23b0 : decide (0 ≤ (ji22)) = true := decide_eq_true c23
                  clear c23
                  by_cases c24 : (ji22) < (x3_4.length : Int)
                  ·rw [if_pos c24] at H
                   have c24b0 : decide ((ji22) < (x3_4.length : Int)) = true := decide_eq_true c24
                   clear c24
                   obtain ⟨y343, hy343⟩ : ∃ y_ : List (S72), y_ = (x3_4.set ((ji22) : Int).toNat (⟨(zcd x3_4 (ji22)).f0, (zcd x3_4 (ji22)).f1, (zcd x3_4 (ji22)).f2, wrap64 (((zcd x3_4 (ji22)).f3) + 1)⟩ : S72)) := ⟨_, rfl⟩
                   replace H : (impl_floor_walls.l2 kj17 y343 (rdOf false y335 x14_1) x6_9 x7_9 x8_3 t341 y335 (y335.length : Int) x14_1 x7_9 (wrap64 (x31_4 + 1)) s0_0 s0_1) = some r := by first | (rw [hy343]; with_reducible exact H) | (have H2_ := (yax _ _).symm.trans H; rw [hy343]; with_reducible exact H2_) | (have H2_ := (yax _ _).symm.trans H; with_reducible exact H2_) | with_reducible exact H | (rw [hy343]; exact H) | exact H
                   have Ny343 := zaa.mk hy343
                   clear hy343
                   have H' := zaa.mk H
                   clear H
                   obtain ⟨Ao26, co26, eo26⟩ := Kd.R_slice HO_3.out
                   subst eo26
                   have p342 : 0 ≤ ((ji22) : Int) := of_decide_eq_true (by assumption)
                   have q342 : (ji22) < (x3_4.length : Int) := of_decide_eq_true (by assumption)
                   obtain ⟨ad342, e342, hx342_0, hx342_1, hx342_2, hx342_3⟩ := at_T72 (Kd.R_reads' HO_3.out).2.2 (ji22) p342 q342
                   cases e342
                   replace p342 := eq_true p342
                   replace q342 := eq_true q342
                   have p25 : 0 ≤ ((ji22) : Int) := of_decide_eq_true (by assumption)
                   have q25 : ((ji22) : Int) < ((x3_4.length : Int) : Int) := of_decide_eq_true (by assumption)
                   obtain ⟨go25, co25, eo25, gb25, gl25, cl25, HG25⟩ := Kd.R_form HO_3.out (by omega)
                   (first | cases eo25 | (injection eo25 with ea_ en_ ec_; (first | subst ea_ | (injection ea_ with ea_; subst ea_)); subst ec_; clear en_))
                   have GB25 := zaa.mk gb25
                   have GG25 := zaa.mk HG25
                   clear gb25 gl25 HG25
                   (first | simp only [add_plain] at hx342_0 | skip)
                   (first | simp only [add_plain] at hx342_1 | skip)
                   (first | simp only [add_plain] at hx342_2 | skip)
                   (first | simp only [add_plain] at hx342_3 | skip)
                   obtain ⟨ce25, hcl25, hM25, hcc25, hfr25⟩ := Kd.R_elem HO_3.out z72 ((ji22) : Int) p25 q25
                   obtain rfl := k72_openM hM25
                   have hx25_0 : wc.cell? ⟨go25, ((ji22) : Int).toNat * 4, none⟩ = some (.bool ((zcd x3_4 (ji22)).f0)) := hcc25 0 _ rfl
                   have hx25_1 : wc.cell? ⟨go25, ((ji22) : Int).toNat * 4 + 1, none⟩ = some (.int .i64 ((zcd x3_4 (ji22)).f1)) := hcc25 1 _ rfl
                   have hx25_2 : wc.cell? ⟨go25, ((ji22) : Int).toNat * 4 + 2, none⟩ = some (.int .i64 ((zcd x3_4 (ji22)).f2)) := hcc25 2 _ rfl
                   have hx25_3 : wc.cell? ⟨go25, ((ji22) : Int).toNat * 4 + 3, none⟩ = some (.int .i64 ((zcd x3_4 (ji22)).f3)) := hcc25 3 _ rfl
                   have hf25_0 : wc.frozen? ⟨go25, ((ji22) : Int).toNat * 4, none⟩ = false := hfr25 0
                   have hf25_1 : wc.frozen? ⟨go25, ((ji22) : Int).toNat * 4 + 1, none⟩ = false := hfr25 1
                   have hf25_2 : wc.frozen? ⟨go25, ((ji22) : Int).toNat * 4 + 2, none⟩ = false := hfr25 2
                   have hf25_3 : wc.frozen? ⟨go25, ((ji22) : Int).toNat * 4 + 3, none⟩ = false := hfr25 3
                   clear hcl25 hcc25 hfr25 hM25
                   replace p25 := eq_true p25
                   replace q25 := eq_true q25
                   have HX27 := zaa.mk (show Kd.R k72 72 wc w.heap.size (fun _ => True) (.slice (some ⟨go25, 0, none⟩) x3_4.length co26) x3_4 from (by (with_reducible repeat (first | apply yaz | apply yba | apply ybb)); exact HO_3.out))
                   obtain ⟨ce27, hcl27, hM27, hcc27, hfr27⟩ := Kd.R_elem HX27.out z72 ((ji22) : Int) (of_decide_eq_true (by assumption)) (by have h_ : ((ji22) : Int) < ((x3_4.length : Int) : Int) := of_decide_eq_true (by assumption); first | exact h_ | (have e_ := (Kd.R_reads' HO_3.out).1; omega) | simpa using h_)
                   obtain rfl := k72_openM hM27
                   have HP27 := Kd.R_seg HX27.out ((ji22) : Int) (of_decide_eq_true (by assumption)) (by have h_ : ((ji22) : Int) < ((x3_4.length : Int) : Int) := of_decide_eq_true (by assumption); first | exact h_ | (have e_ := (Kd.R_reads' HO_3.out).1; omega) | simpa using h_) (seg := [.int .i64 (wrap64 (((zcd x3_4 (ji22)).f3) + 1))]) (j := 3) hcl27 hcc27 (show 4 ≤ 4 from by decide) (x' := (⟨(zcd x3_4 (ji22)).f0, (zcd x3_4 (ji22)).f1, (zcd x3_4 (ji22)).f2, wrap64 (((zcd x3_4 (ji22)).f3) + 1)⟩ : S72)) (k72_mkM _ _ _ (⟨(zcd x3_4 (ji22)).f0, (zcd x3_4 (ji22)).f1, (zcd x3_4 (ji22)).f2, wrap64 (((zcd x3_4 (ji22)).f3) + 1)⟩ : S72) ) (fun _ hk => hk)
                   have hx27_3 := hcc27 3 _ rfl
                   (try simp only [show (k72).sz = 4 from rfl, Nat.mul_one, Nat.add_zero] at hx27_3)
                   have hf27_3 := hfr27 3
                   (try simp only [show (k72).sz = 4 from rfl, Nat.mul_one, Nat.add_zero] at hf27_3)
                   clear hcl27 hcc27 hfr27 hM27
                   go_wp2_with (first | ((with_reducible refine gate_store (t := 3) (p := 53) rfl ?_); refine store_event (t := 3) (p := 53) (v := ?vo_w28) (w1 := (wc.setCell ⟨go25, ((ji22) : Int).toNat * 4 + 3, none⟩ (.int .i64 (wrap64 (((zcd x3_4 (ji22)).f3) + 1))))) ?hg ?ho ?hn ?hr ?_; (case ho => rfl); (case hg => rfl); (case hn => rfl); (case hr => first | (go_simp; done) | (go_simp; rfl)); intro w28 hw; have hg : wc.grownBy w28 (some go25) := (by rw [hw]; exact HP27.2); have hp_ : Kd.R k72 72 w28 w.heap.size (fun _ => True) (.slice (some ⟨go25, 0, none⟩) x3_4.length co26) y343 := (by rw [hw, Ny343.out]; exact HP27.1); clear HP27; have n0_ := zaa.mk (hp_); have n1_ := zaa.mk (Kd.R_over' (v := (.slice (some ⟨go25, 0, none⟩) x3_4.length co26)) (by (with_reducible repeat (first | apply yaz | apply yba | apply ybb)); exact HO_12.out) (Kd.R_typed HO_3.out) (by decide) hg); have n2_ := zaa.mk (zaz.grown (by repeat (first | (with_reducible first | exact HI0.out | apply zaz.alloc | apply zaz.drewN | apply zaz.drew) | exact HI0.out)) hg (zaz.own_ne HI0.out HO_3.out (by decide))); have n3_ := zaa.mk ((by rw [hw]; exact zaj (HB.out) (Nat.le_trans HL.out GB25.out) : Below w0.heap.size w0 w28)); have n4_ := zaa.mk (zaf.trans (by repeat (first | (with_reducible first | exact HK.out | apply zaf.set_ | apply zah | apply zap | apply zai) | exact HK.out)) (zaf.of_grown hg g) (Kd.R_base2 HO_3.out)); clear HO_3; clear HO_12; clear HI0; clear HB; clear HK; have HO_3 := n0_; have HO_12 := n1_; have HI0 := n2_; have HB := n3_; have HK := n4_; clear n0_ n1_ n2_ n3_ n4_; clear hg hw hp_))
                   go_roundg kj17
                   case measure => have := HK1.out; have := HJ9.out; have := HK3.out; have := HK4.out; have := HJ17.out; omega
                   case rel => exact ⟨(y343), (t341), (wrap64 (x31_4 + 1)), (by first | rfl | (simp; done) | (simp [*]; done)), (by first | rfl | (simp; done) | (simp [*]; done)), H', ⟨by have := HK1.out; have := HJ9.out; have := HK3.out; have := HK4.out; have := HJ17.out; omega⟩, ⟨by (with_reducible repeat (first | apply yaz | apply yba | apply ybb)); exact HO_3.out⟩, ⟨by (with_reducible repeat (first | apply yaz | apply yba | apply ybb)); exact HO_12.out⟩, ⟨by repeat (first | (with_reducible first | exact HI0.out | apply zaz.alloc | apply zaz.drewN | apply zaz.drew) | exact HI0.out)⟩, ⟨by repeat (first | (with_reducible first | exact HK.out | apply zaf.set_ | apply zah | apply zap | apply zai) | exact HK.out)⟩, ⟨by repeat (first | (with_reducible first | exact HB.out | apply zac | apply zab | apply zad | refine zaj ?_ (zaz.ge HI0.out)) | exact HB.out)⟩⟩
                  ·rw [if_neg c24] at H
                   exact absurd H (by simp)
                 ·rw [if_neg c23] at H
                  exact absurd H (by simp)
                ·replace c21 := Bool.eq_false_iff.mpr c21
                 subst c21
                 have H1 : (if t341 = true then (if x3_4.length < 4398046511104 then (impl_floor_walls.l2 kj17 (x3_4 ++ [(⟨(rdOf false y335 x14_1), x8_3, x31_4, 1⟩ : S72)]) (rdOf false y335 x14_1) x6_9 x7_9 x8_3 t341 y335 (y335.length : Int) x14_1 x7_9 (wrap64 (x31_4 + 1)) s0_0 s0_1) else (none)) else (impl_floor_walls.l2 kj17 x3_4 (rdOf false y335 x14_1) x6_9 x7_9 x8_3 t341 y335 (y335.length : Int) x14_1 x7_9 (wrap64 (x31_4 + 1)) s0_0 s0_1)) = some r := by rw [if_neg (show ¬ (false = true) by decide)] at H; exact H
                 clear H
                 have H := H1
                 clear H1
                 by_cases c29 : t341 = true
                 ·subst c29
                  have H1 : (if x3_4.length < 4398046511104 then (impl_floor_walls.l2 kj17 (x3_4 ++ [(⟨(rdOf false y335 x14_1), x8_3, x31_4, 1⟩ : S72)]) (rdOf false y335 x14_1) x6_9 x7_9 x8_3 true y335 (y335.length : Int) x14_1 x7_9 (wrap64 (x31_4 + 1)) s0_0 s0_1) else (none)) = some r := by rw [if_pos rfl] at H; exact H
                  clear H
                  have H := H1
                  clear H1
                  by_cases c30 : x3_4.length < 4398046511104
                  ·rw [if_pos c30] at H
                   have LMc30 := zaa.mk c30
                   clear c30
                   obtain ⟨y344, hy344⟩ : ∃ y_ : List (S72), y_ = (x3_4 ++ [(⟨(rdOf false y335 x14_1), x8_3, x31_4, 1⟩ : S72)]) := ⟨_, rfl⟩
                   replace H : (impl_floor_walls.l2 kj17 y344 (rdOf false y335 x14_1) x6_9 x7_9 x8_3 true y335 (y335.length : Int) x14_1 x7_9 (wrap64 (x31_4 + 1)) s0_0 s0_1) = some r := by first | (rw [hy344]; with_reducible exact H) | (have H2_ := (yax _ _).symm.trans H; rw [hy344]; with_reducible exact H2_) | (have H2_ := (yax _ _).symm.trans H; with_reducible exact H2_) | with_reducible exact H | (rw [hy344]; exact H) | exact H
                   have Ny344 := zaa.mk hy344
                   clear hy344
                   have H' := zaa.mk H
                   clear H
                   go_wp2_with (first | ((with_reducible refine zba (b := .append) (xs := #[.tmp 56, .tmp 61]) rfl ?_); at_builtin; refine Kd.R_append k72 w.heap.size rfl (.tmp 56) (.tmp 61) 69 72 (.agg #[(.bool false), (.int .i64 0), (.int .i64 0), (.int .i64 0)]) 32 rfl Try.underlying69 info72 rfl (by decide) (by omega) u3 x3_4 (⟨(rdOf false y335 x14_1), x8_3, x31_4, 1⟩ : S72) [.bool (rdOf false y335 x14_1), .int .i64 x8_3, .int .i64 x31_4, .int .i64 1] (fun _ => True) (fun _ => False) rfl rfl ?aP (fun _ hk => hk.elim) ?aF ?aO (Below.refl _ _) ?aS ?aL ?_; (case aP => exact k72_mkM _ _ _ (⟨(rdOf false y335 x14_1), x8_3, x31_4, 1⟩ : S72)); (case aF => exact (fun _ _ => trivial)); (case aO => exact (by (with_reducible repeat (first | apply yaz | apply yba | apply ybb)); exact HO_3.out)); (case aS => exact (zbg (w := w) (g := g) (row := none) (by repeat (first | (with_reducible first | exact HK.out | apply zaf.set_ | apply zah | apply zap | apply zai) | exact HK.out)))); (case aL => have := LMc30.out; omega); intro v345 w31 ho hb hg hat; rw [← Ny344.out] at ho; have n0_ := zaa.mk (Kd.R_over' (by (with_reducible repeat (first | apply yaz | apply yba | apply ybb)); exact HO_12.out) (Kd.R_typed (by (with_reducible repeat (first | apply yaz | apply yba | apply ybb)); exact HO_3.out)) (by decide) hg); have n1_ := zaa.mk (zaz.grown (by repeat (first | (with_reducible first | exact HI0.out | apply zaz.alloc | apply zaz.drewN | apply zaz.drew) | exact HI0.out)) hg (zaz.own_ne HI0.out HO_3.out (by decide))); have n2_ := zaa.mk (below_weaken (by repeat (first | (with_reducible first | exact HB.out | apply zac | apply zab | apply zad | refine zaj ?_ (zaz.ge HI0.out)) | exact HB.out)) HL.out hb); have n3_ := zaa.mk (zaf.trans (by repeat (first | (with_reducible first | exact HK.out | apply zaf.set_ | apply zah | apply zap | apply zai) | exact HK.out)) (zaf.of_grown hg g) (Kd.R_base2 HO_3.out)); have n4_ := zaa.mk (ho); clear HO_12; clear HI0; clear HB; clear HK; clear HO_3; have HO_12 := n0_; have HI0 := n1_; have HB := n2_; have HK := n3_; have HO346 := n4_; clear n0_ n1_ n2_ n3_ n4_; clear ho hb hg hat))
                   go_roundg kj17
                   case measure => have := HK1.out; have := HJ9.out; have := HK3.out; have := HK4.out; have := HJ17.out; omega
                   case rel => exact ⟨(y344), (true), (wrap64 (x31_4 + 1)), (by first | rfl | (simp; done) | (simp [*]; done)), (by first | rfl | (simp; done) | (simp [*]; done)), H', ⟨by have := HK1.out; have := HJ9.out; have := HK3.out; have := HK4.out; have := HJ17.out; omega⟩, ⟨by (with_reducible repeat (first | apply yaz | apply yba | apply ybb)); exact HO346.out⟩, ⟨by (with_reducible repeat (first | apply yaz | apply yba | apply ybb)); exact HO_12.out⟩, ⟨by repeat (first | (with_reducible first | exact HI0.out | apply zaz.alloc | apply zaz.drewN | apply zaz.drew) | exact HI0.out)⟩, ⟨by repeat (first | (with_reducible first | exact HK.out | apply zaf.set_ | apply zah | apply zap | apply zai) | exact HK.out)⟩, ⟨by repeat (first | (with_reducible first | exact HB.out | apply zac | apply zab | apply zad | refine zaj ?_ (zaz.ge HI0.out)) | exact HB.out)⟩⟩
                  ·rw [if_neg c30] at H
                   exact absurd H (by simp)
                 ·replace c29 := Bool.eq_false_iff.mpr c29
                  subst c29
                  have H1 : (impl_floor_walls.l2 kj17 x3_4 (rdOf false y335 x14_1) x6_9 x7_9 x8_3 false y335 (y335.length : Int) x14_1 x7_9 (wrap64 (x31_4 + 1)) s0_0 s0_1) = some r := by rw [if_neg (show ¬ (false = true) by decide)] at H; exact H
                  clear H
                  have H := H1
                  clear H1
                  have H' := zaa.mk H
                  clear H
                  go_wp2
                  go_roundg kj17
                  case measure => have := HK1.out; have := HJ9.out; have := HK3.out; have := HK4.out; have := HJ17.out; omega
                  case rel => exact ⟨(x3_4), (false), (wrap64 (x31_4 + 1)), (by first | rfl | (simp; done) | (simp [*]; done)), (by first | rfl | (simp; done) | (simp [*]; done)), H', ⟨by have := HK1.out; have := HJ9.out; have := HK3.out; have := HK4.out; have := HJ17.out; omega⟩, ⟨by (with_reducible repeat (first | apply yaz | apply yba | apply ybb)); exact HO_3.out⟩, ⟨by (with_reducible repeat (first | apply yaz | apply yba | apply ybb)); exact HO_12.out⟩, ⟨by repeat (first | (with_reducible first | exact HI0.out | apply zaz.alloc | apply zaz.drewN | apply zaz.drew) | exact HI0.out)⟩, ⟨by repeat (first | (with_reducible first | exact HK.out | apply zaf.set_ | apply zah | apply zap | apply zai) | exact HK.out)⟩, ⟨by repeat (first | (with_reducible first | exact HB.out | apply zac | apply zab | apply zad | refine zaj ?_ (zaz.ge HI0.out)) | exact HB.out)⟩⟩
             ·rw [if_neg c16] at H
              have c16b0 : decide (x31_4 < x7_9) = false := decide_eq_false c16
              clear c16
              have H' := zaa.mk H
              clear H
              go_wp2
              go_roundg k4
              case measure => have := HK1.out; have := HJ9.out; have := HK3.out; have := HK4.out; omega
              case rel => exact ⟨(x3_4), (wrap64 (x8_3 + 1)), (by first | rfl | (simp; done) | (simp [*]; done)), H', ⟨by have := HK1.out; have := HJ9.out; have := HK3.out; have := HK4.out; omega⟩, ⟨by (with_reducible repeat (first | apply yaz | apply yba | apply ybb)); exact HO_3.out⟩, ⟨by (with_reducible repeat (first | apply yaz | apply yba | apply ybb)); exact HO_12.out⟩, ⟨by repeat (first | (with_reducible first | exact HI0.out | apply zaz.alloc | apply zaz.drewN | apply zaz.drew) | exact HI0.out)⟩, ⟨by repeat (first | (with_reducible first | exact HK.out | apply zaf.set_ | apply zah | apply zap | apply zai) | exact HK.out)⟩, ⟨by repeat (first | (with_reducible first | exact HB.out | apply zac | apply zab | apply zad | refine zaj ?_ (zaz.ge HI0.out)) | exact HB.out)⟩⟩
          ·rw [if_neg c15] at H
           have c15b0 : decide (x8_3 < x6_9) = false := decide_eq_false c15
           clear c15
           have H' := zaa.mk H
           clear H
           go_wp2
           go_roundg k3
           case measure => have := HK1.out; have := HJ9.out; have := HK3.out; omega
           case rel => exact ⟨(x3_3), (wrap64 (x14_1 + 1)), (by first | rfl | (simp; done) | (simp [*]; done)), H', ⟨by have := HK1.out; have := HJ9.out; have := HK3.out; omega⟩, ⟨by (with_reducible repeat (first | apply yaz | apply yba | apply ybb)); exact HO_3.out⟩, ⟨by (with_reducible repeat (first | apply yaz | apply yba | apply ybb)); exact HO_12.out⟩, ⟨by repeat (first | (with_reducible first | exact HI0.out | apply zaz.alloc | apply zaz.drewN | apply zaz.drew) | exact HI0.out)⟩, ⟨by repeat (first | (with_reducible first | exact HK.out | apply zaf.set_ | apply zah | apply zap | apply zai) | exact HK.out)⟩, ⟨by repeat (first | (with_reducible first | exact HB.out | apply zac | apply zab | apply zad | refine zaj ?_ (zaz.ge HI0.out)) | exact HB.out)⟩⟩
     ·rw [if_neg c7] at H
      exact absurd H (by simp)
    ·rw [if_neg c6] at H
     exact absurd H (by simp)
   ·rw [if_neg c5] at H
    have c5b0 : decide (x14_1 < (y335.length : Int)) = false := decide_eq_false c5
    clear c5
    obtain rfl := Option.some.inj H
    go_wp2
    go_ret
    exact ⟨_, by first | rfl | (simp [zao, zan] <;> rfl) | (simp [*, zao, zan] <;> rfl), by (with_reducible repeat (first | apply yaz | apply yba | apply ybb)); exact HO_3.out, by repeat (first | (with_reducible first | exact HI0.out | apply zaz.alloc | apply zaz.drewN | apply zaz.drew) | exact HI0.out), by repeat (first | (with_reducible first | exact HB.out | apply zac | apply zab | apply zad | refine zaj ?_ (zaz.ge HI0.out)) | exact HB.out), by repeat (first | (with_reducible first | exact HK.out | apply zaf.set_ | apply zah | apply zap | apply zai) | exact HK.out)⟩
end Go.Proofs.Ytickdcegnlldjaa.PB
namespace Go.Proofs.Ytickdcegnlldjaa.PB
open Go.RowKit Go.PW.PrintWords Go.PW.PrintLast Go.PW.PrintMore
attribute [local go_sem] zby zbw zcl zck zbq zbp zbx zbv   -- for this text's walks alone
mutual
def spec_l1Trans.l0 : Nat → List ByteArray → List ByteArray → Int → Option (List ByteArray)
 | 0, _, _, _ => none
 | k + 1, x0, x3, x4 => if 0 < (x0.length : Int) then (if x4 < ((rdOf yav x0 0).size : Int) then (spec_l1Trans.l1 k x0 x3 x4 (([] : List Int)) 0) else (some x3)) else (none)
def spec_l1Trans.l1 : Nat → List ByteArray → List ByteArray → Int → List Int → Int → Option (List ByteArray)
 | 0, _, _, _, _, _ => none
 | k + 1, x0, x3, x4, x5, x6 => if x6 < (x0.length : Int) then (if 0 ≤ x6 then (if 0 ≤ x4 then (if x4 < ((rdOf yav x0 x6).size : Int) then (if x5.length < 140737488355328 then (spec_l1Trans.l1 k x0 x3 x4 (x5 ++ [bt (rdOf yav x0 x6) x4]) (wrap64 (x6 + 1))) else (none)) else (none)) else (none)) else (none)) else (if x3.length < 8796093022208 then (spec_l1Trans.l0 k x0 (x3 ++ [strOfNums x5]) (wrap64 (x4 + 1))) else (none))
end
def spec_l1Trans.f (k : Nat) (l0 : List ByteArray) : Option (List ByteArray) := spec_l1Trans.l0 k l0 (([] : List ByteArray)) 0
set_option maxHeartbeats 8000000 in
set_option maxRecDepth 100000 in
theorem spec_l1Trans.calls (k : Nat) (A0 : Option Addr) (c0 : Nat) (l0 : List ByteArray) (r : List ByteArray) (w : World) (hr0 : Kd.C Kd.string w A0 l0.length l0) (hc0 : l0.length ≤ c0) (h : spec_l1Trans.f k l0 = some r) :
  Calls Try.prog 47 #[.slice A0 l0.length c0] w fun e w' => ∃ v0_ : Value, e = .returned (v0_) ∧ Kd.R Kd.string 9 w' w.heap.size (fun _ => True) v0_ r ∧ Below w.heap.size w w' := by
 have HR0 := zaa.mk hr0
 have HC0 := zaa.mk hc0
 clear hr0 hc0
 have HB := zaa.mk (Below.refl w.heap.size w)
 have H : (spec_l1Trans.l0 k l0 (([] : List ByteArray)) 0) = some r := h
 clear h
 obtain ⟨y166, hy166⟩ : ∃ y_ : List ByteArray, y_ = (([] : List ByteArray)) := ⟨_, rfl⟩
 replace H : (spec_l1Trans.l0 k l0 y166 0) = some r := by first | (rw [hy166]; with_reducible exact H) | (have H2_ := (yax _ _).symm.trans H; rw [hy166]; with_reducible exact H2_) | (have H2_ := (yax _ _).symm.trans H; with_reducible exact H2_) | with_reducible exact H | (rw [hy166]; exact H) | exact H
 have Ny166 := zaa.mk hy166
 clear hy166
 have H' := zaa.mk H
 clear H
 go_enter Try.func47, Try.ntmps47
 go_wp2_with (first | ((with_reducible refine zbb (N := 7) rfl ?_); refine Kd.R_lit Kd.string _ 9 ?hg (N := 7) ?hd (xs := ([] : List ByteArray)) (inner := []) (ok := fun _ => True) (okp := fun _ => True) ?hr ?hp (fun _ hk => hk) trivial (Below.refl _ _) (yay _) (by simp) ?_; (case hd => rfl); (case hg => rfl); (case hr => first | (go_simp; done) | (go_simp; rfl)); (case hp => exact (Reps.none _ _)); intro v167 w2 ho3 hb hg_ hnew_; clear hg_ hnew_; (first | rw [← Ny166.out] at ho3 | (simp only [Int.reduceToNat] at ho3; rw [← Ny166.out] at ho3)); have n0_ := zaa.mk (Kd.R_lower ho3 (zaq (by repeat (first | (with_reducible first | exact HB.out | apply zac | apply zab | apply zad) | exact HB.out)))); have n1_ := zaa.mk (zae (by repeat (first | (with_reducible first | exact HB.out | apply zac | apply zab | apply zad) | exact HB.out)) hb); clear HB; have HO168 := n0_; have HB := n1_; clear n0_ n1_; clear hb ho3))
 go_loopg [3, 4] k (fun kq v3 v4 w' => ∃ (x3_1 : List ByteArray) (x4_1 : Int), v4 = .int .i64 x4_1 ∧ zaa (spec_l1Trans.l0 kq l0 x3_1 x4_1 = some r) ∧ zaa (kq ≤ k) ∧ zaa (Kd.R Kd.string 9 w' w.heap.size (fun _ => True) v3 x3_1) ∧ zaa (Below w.heap.size w w'))
 case atStart => exact ⟨(y166), (0), (by first | rfl | (simp; done) | (simp [*]; done)), H', ⟨yay _⟩, ⟨by (with_reducible repeat (first | apply yaz | apply yba | apply ybb)); exact HO168.out⟩, ⟨by repeat (first | (with_reducible first | exact HB.out | apply zac | apply zab | apply zad) | exact HB.out)⟩⟩
 case round =>
  clear H'
  try clear p2
  obtain ⟨x3_1, x4_1, rfl, HA, HK1, HO_3, HB⟩ := hrel
  cases gk with
  | zero => exact absurd HA.out (by simp [spec_l1Trans.l0])
  | succ k1 =>
   have H := HA.out
   clear HA
   simp only [spec_l1Trans.l0] at H
   by_cases c4 : 0 < (l0.length : Int)
   ·rw [if_pos c4] at H
    have c4b0 : decide (0 < (l0.length : Int)) = true := decide_eq_true c4
    have c4b1 : decide (0 < l0.length) = true := decide_eq_true (by omega)
    clear c4
    by_cases c5 : x4_1 < ((rdOf yav l0 0).size : Int)
    ·rw [if_pos c5] at H
     have c5b0 : decide (x4_1 < ((rdOf yav l0 0).size : Int)) = true := decide_eq_true c5
     clear c5
     obtain ⟨y170, hy170⟩ : ∃ y_ : List Int, y_ = (([] : List Int)) := ⟨_, rfl⟩
     replace H : (spec_l1Trans.l1 k1 l0 x3_1 x4_1 y170 0) = some r := by first | (rw [hy170]; with_reducible exact H) | (have H2_ := (yax _ _).symm.trans H; rw [hy170]; with_reducible exact H2_) | (have H2_ := (yax _ _).symm.trans H; with_reducible exact H2_) | with_reducible exact H | (rw [hy170]; exact H) | exact H
     have Ny170 := zaa.mk hy170
     clear hy170
     have H' := zaa.mk H
     clear H
     have p169 : 0 ≤ (0 : Int) := (by omega)
     have q169 : 0 < (l0.length : Int) := of_decide_eq_true (by assumption)
     obtain ⟨ad169, e169, hx169_0⟩ := Kd.at_string HR0.out 0 p169 q169
     cases e169
     have qi169 : (0 < l0.length) = True := eq_true (by omega)
     (try rw [show ((0 : Int)).toNat = 0 from rfl] at hx169_0)
     (try rw [Addr.add_zero'] at hx169_0)
     replace hx169_0 := (HB.out.cell (World.block_lt_of_cell? w _ hx169_0)).trans hx169_0
     replace p169 := eq_true p169
     replace q169 := eq_true q169
     go_wp2_with (first | ((with_reducible refine zbb (N := 16) rfl ?_); refine Kd.R_lit (Kd.int .u8) _ 5 ?hg (N := 16) ?hd (xs := ([] : List Int)) (inner := []) (ok := fun _ => True) (okp := fun _ => True) ?hr ?hp (fun _ hk => hk) trivial (Below.refl _ _) (yay _) (by simp) ?_; (case hd => rfl); (case hg => rfl); (case hr => first | (go_simp; done) | (go_simp; rfl)); (case hp => exact (Reps.none _ _)); intro v171 w6 ho7 hb hg_ hnew_; clear hg_ hnew_; (first | rw [← Ny170.out] at ho7 | (simp only [Int.reduceToNat] at ho7; rw [← Ny170.out] at ho7)); have n0_ := zaa.mk (Kd.R_below (by (with_reducible repeat (first | apply yaz | apply yba | apply ybb)); exact HO_3.out) hb); have n1_ := zaa.mk (Kd.R_lower ho7 (zaq (by repeat (first | (with_reducible first | exact HB.out | apply zac | apply zab | apply zad) | exact HB.out)))); have n2_ := zaa.mk (zae (by repeat (first | (with_reducible first | exact HB.out | apply zac | apply zab | apply zad) | exact HB.out)) hb); clear HO_3; clear HB; have HO_3 := n0_; have HO172 := n1_; have HB := n2_; clear n0_ n1_ n2_; clear hb ho7))
     go_loopg [5, 6] k1 (fun kq v5 v6 w' => ∃ (x5_2 : List Int) (x6_2 : Int), v6 = .int .i64 x6_2 ∧ zaa (spec_l1Trans.l1 kq l0 x3_1 x4_1 x5_2 x6_2 = some r) ∧ zaa (kq ≤ k1) ∧ zaa (Kd.R Kd.string 9 w' w.heap.size (fun _ => True) u3 x3_1) ∧ zaa (Kd.R (Kd.int .u8) 5 w' w.heap.size (fun _ => True) v5 x5_2) ∧ zaa (Below w.heap.size w w'))
     case atStart => exact ⟨(y170), (0), (by first | rfl | (simp; done) | (simp [*]; done)), H', ⟨yay _⟩, ⟨by (with_reducible repeat (first | apply yaz | apply yba | apply ybb)); exact HO_3.out⟩, ⟨by (with_reducible repeat (first | apply yaz | apply yba | apply ybb)); exact HO172.out⟩, ⟨by repeat (first | (with_reducible first | exact HB.out | apply zac | apply zab | apply zad) | exact HB.out)⟩⟩
     case round =>
      clear H'
      try clear p1
      try clear q1
      try clear hx1
      try clear qi1
      try clear p2
      try clear c4
      try clear c4b0
      try clear c4b1
      try clear c5
      try clear c5b0
      try clear hx169_0
      try clear p169
      try clear p2
      try clear q169
      obtain ⟨x5_2, x6_2, rfl, HA, HK2, HO_3, HO_5, HB⟩ := hrel
      cases gk with
      | zero => exact absurd HA.out (by simp [spec_l1Trans.l1])
      | succ k2 =>
       have H := HA.out
       clear HA
       simp only [spec_l1Trans.l1] at H
       by_cases c8 : x6_2 < (l0.length : Int)
       ·rw [if_pos c8] at H
        have c8b0 : decide (x6_2 < (l0.length : Int)) = true := decide_eq_true c8
        clear c8
        by_cases c9 : 0 ≤ x6_2
        ·rw [if_pos c9] at H
         have c9b0 : decide (0 ≤ x6_2) = true := decide_eq_true c9
         clear c9
         by_cases c10 : 0 ≤ x4_1
         ·rw [if_pos c10] at H
          have c10b0 : decide (0 ≤ x4_1) = true := decide_eq_true c10
          clear c10
          by_cases c11 : x4_1 < ((rdOf yav l0 x6_2).size : Int)
          ·rw [if_pos c11] at H
           have c11b0 : decide (x4_1 < ((rdOf yav l0 x6_2).size : Int)) = true := decide_eq_true c11
           clear c11
           by_cases c13 : x5_2.length < 140737488355328
           ·rw [if_pos c13] at H
            have LMc13 := zaa.mk c13
            clear c13
            obtain ⟨y174, hy174⟩ : ∃ y_ : List Int, y_ = (x5_2 ++ [bt (rdOf yav l0 x6_2) x4_1]) := ⟨_, rfl⟩
            replace H : (spec_l1Trans.l1 k2 l0 x3_1 x4_1 y174 (wrap64 (x6_2 + 1))) = some r := by first | (rw [hy174]; with_reducible exact H) | (have H2_ := (yax _ _).symm.trans H; rw [hy174]; with_reducible exact H2_) | (have H2_ := (yax _ _).symm.trans H; with_reducible exact H2_) | with_reducible exact H | (rw [hy174]; exact H) | exact H
            have Ny174 := zaa.mk hy174
            clear hy174
            have H' := zaa.mk H
            clear H
            have p173 : 0 ≤ (x6_2 : Int) := of_decide_eq_true (by assumption)
            have q173 : x6_2 < (l0.length : Int) := of_decide_eq_true (by assumption)
            obtain ⟨ad173, e173, hx173_0⟩ := Kd.at_string HR0.out x6_2 p173 q173
            obtain rfl : ad169 = ad173 := (by injection e173)
            replace hx173_0 := (HB.out.cell (World.block_lt_of_cell? w _ hx173_0)).trans hx173_0
            replace p173 := eq_true p173
            replace q173 := eq_true q173
            have p12 : 0 ≤ (x4_1 : Int) := of_decide_eq_true (by assumption)
            have q12 : x4_1 < ((rdOf yav l0 x6_2).size : Int) := of_decide_eq_true (by assumption)
            have hx12 := bt_at (rdOf yav l0 x6_2) x4_1
            replace p12 := eq_true p12
            replace q12 := eq_true q12
            go_wp2_with (first | ((with_reducible refine zba (b := .append) (xs := #[.tmp 23, .tmp 30]) rfl ?_); at_builtin; refine Kd.R_append (Kd.int .u8) (w0 := w) w.heap.size rfl (.tmp 23) (.tmp 30) 32 5 (.int .u8 0) 1 rfl Try.underlying32 info5 rfl (by decide) (by omega) u5 x5_2 (bt (rdOf yav l0 x6_2) x4_1) [.int .u8 (bt (rdOf yav l0 x6_2) x4_1)] (fun _ => True) (fun _ => False) rfl rfl ?aP (fun _ hk => hk.elim) ?aF ?aO ?aB ?aS ?aL ?_; (case aP => exact rfl); (case aB => exact (by repeat (first | (with_reducible first | exact HB.out | apply zac | apply zab | apply zad) | exact HB.out))); (case aF => exact (fun _ _ => trivial)); (case aO => exact (by (with_reducible repeat (first | apply yaz | apply yba | apply ybb)); exact HO_5.out)); (case aS => exact (zaq (by repeat (first | (with_reducible first | exact HB.out | apply zac | apply zab | apply zad) | exact HB.out)))); (case aL => have := LMc13.out; omega); intro v175 w14 ho hb hg hat; rw [← Ny174.out] at ho; have n0_ := zaa.mk (Kd.R_over' (by (with_reducible repeat (first | apply yaz | apply yba | apply ybb)); exact HO_3.out) (Kd.R_typed (by (with_reducible repeat (first | apply yaz | apply yba | apply ybb)); exact HO_5.out)) (by decide) hg); have n1_ := zaa.mk (hb); have n2_ := zaa.mk (ho); clear HO_3; clear HB; clear HO_5; have HO_3 := n0_; have HB := n1_; have HO176 := n2_; clear n0_ n1_ n2_; clear ho hb hg hat))
            go_roundg k2
            case measure => have := HK1.out; have := HK2.out; omega
            case rel => exact ⟨(y174), (wrap64 (x6_2 + 1)), (by first | rfl | (simp; done) | (simp [*]; done)), H', ⟨by have := HK1.out; have := HK2.out; omega⟩, ⟨by (with_reducible repeat (first | apply yaz | apply yba | apply ybb)); exact HO_3.out⟩, ⟨by (with_reducible repeat (first | apply yaz | apply yba | apply ybb)); exact HO176.out⟩, ⟨by repeat (first | (with_reducible first | exact HB.out | apply zac | apply zab | apply zad) | exact HB.out)⟩⟩
           ·rw [if_neg c13] at H
            exact absurd H (by simp)
          ·rw [if_neg c11] at H
           exact absurd H (by simp)
         ·rw [if_neg c10] at H
          exact absurd H (by simp)
        ·rw [if_neg c9] at H
         exact absurd H (by simp)
       ·rw [if_neg c8] at H
        have c8b0 : decide (x6_2 < (l0.length : Int)) = false := decide_eq_false c8
        clear c8
        by_cases c15 : x3_1.length < 8796093022208
        ·rw [if_pos c15] at H
         have LMc15 := zaa.mk c15
         clear c15
         obtain ⟨y177, hy177⟩ : ∃ y_ : List ByteArray, y_ = (x3_1 ++ [strOfNums x5_2]) := ⟨_, rfl⟩
         replace H : (spec_l1Trans.l0 k2 l0 y177 (wrap64 (x4_1 + 1))) = some r := by first | (rw [hy177]; with_reducible exact H) | (have H2_ := (yax _ _).symm.trans H; rw [hy177]; with_reducible exact H2_) | (have H2_ := (yax _ _).symm.trans H; with_reducible exact H2_) | with_reducible exact H | (rw [hy177]; exact H) | exact H
         have Ny177 := zaa.mk hy177
         clear hy177
         have H' := zaa.mk H
         clear H
         have hcv16 := own_string (P := Try.prog) Try.underlying32 Try.underlying5 Try.underlying9 (Kd.own_of_R HO_5.out)
         go_wp2_with (first | ((with_reducible refine zba (b := .append) (xs := #[.tmp 32, .tmp 35]) rfl ?_); at_builtin; refine Kd.R_append Kd.string (w0 := w) w.heap.size rfl (.tmp 32) (.tmp 35) 22 9 (.string ⟨#[]⟩) 16 rfl Try.underlying22 info9 rfl (by decide) (by omega) u3 x3_1 (strOfNums x5_2) [.string (strOfNums x5_2)] (fun _ => True) (fun _ => False) rfl rfl ?aP (fun _ hk => hk.elim) ?aF ?aO ?aB ?aS ?aL ?_; (case aP => exact rfl); (case aB => exact (by repeat (first | (with_reducible first | exact HB.out | apply zac | apply zab | apply zad) | exact HB.out))); (case aF => exact (fun _ _ => trivial)); (case aO => exact (by (with_reducible repeat (first | apply yaz | apply yba | apply ybb)); exact HO_3.out)); (case aS => exact (zaq (by repeat (first | (with_reducible first | exact HB.out | apply zac | apply zab | apply zad) | exact HB.out)))); (case aL => have := LMc15.out; omega); intro v178 w17 ho hb hg hat; rw [← Ny177.out] at ho; have n0_ := zaa.mk (Kd.R_over' (by (with_reducible repeat (first | apply yaz | apply yba | apply ybb)); exact HO_5.out) (Kd.R_typed (by (with_reducible repeat (first | apply yaz | apply yba | apply ybb)); exact HO_3.out)) (by decide) hg); have n1_ := zaa.mk (hb); have n2_ := zaa.mk (ho); clear HO_5; clear HB; clear HO_3; have HO_5 := n0_; have HB := n1_; have HO179 := n2_; clear n0_ n1_ n2_; clear ho hb hg hat))
         go_roundg k2
         case measure => have := HK1.out; have := HK2.out; omega
         case rel => exact ⟨(y177), (wrap64 (x4_1 + 1)), (by first | rfl | (simp; done) | (simp [*]; done)), H', ⟨by have := HK1.out; have := HK2.out; omega⟩, ⟨by (with_reducible repeat (first | apply yaz | apply yba | apply ybb)); exact HO179.out⟩, ⟨by repeat (first | (with_reducible first | exact HB.out | apply zac | apply zab | apply zad) | exact HB.out)⟩⟩
        ·rw [if_neg c15] at H
         exact absurd H (by simp)
    ·rw [if_neg c5] at H
     have c5b0 : decide (x4_1 < ((rdOf yav l0 0).size : Int)) = false := decide_eq_false c5
     clear c5
     obtain rfl := Option.some.inj H
     have p169 : 0 ≤ (0 : Int) := (by omega)
     have q169 : 0 < (l0.length : Int) := of_decide_eq_true (by assumption)
     obtain ⟨ad169, e169, hx169_0⟩ := Kd.at_string HR0.out 0 p169 q169
     cases e169
     have qi169 : (0 < l0.length) = True := eq_true (by omega)
     (try rw [show ((0 : Int)).toNat = 0 from rfl] at hx169_0)
     (try rw [Addr.add_zero'] at hx169_0)
     replace hx169_0 := (HB.out.cell (World.block_lt_of_cell? w _ hx169_0)).trans hx169_0
     replace p169 := eq_true p169
     replace q169 := eq_true q169
     go_wp2
     go_ret
     exact ⟨_, by first | rfl | (simp [zao, zan] <;> rfl) | (simp [*, zao, zan] <;> rfl), by (with_reducible repeat (first | apply yaz | apply yba | apply ybb)); exact HO_3.out, by repeat (first | (with_reducible first | exact HB.out | apply zac | apply zab | apply zad) | exact HB.out)⟩
   ·rw [if_neg c4] at H
    exact absurd H (by simp)
end Go.Proofs.Ytickdcegnlldjaa.PB
namespace Go.Proofs.Ytickdcegnlldjaa.PB
open Go.RowKit Go.PW.PrintWords Go.PW.PrintLast Go.PW.PrintMore
attribute [local go_sem] zby zbw zcl zck zbq zbp zbx zbv   -- for this text's walks alone
mutual
def spec_l4Length.l0 : Nat → List ByteArray → Int → Int → Int → Int → Option (Int)
 | 0, _, _, _, _, _ => none
 | k + 1, x0, x1, x2, x7, x8 => if x8 < (x0.length : Int) then (spec_l4Length.l1 k x0 x1 x2 x7 x8 1) else (some x7)
def spec_l4Length.l1 : Nat → List ByteArray → Int → Int → Int → Int → Int → Option (Int)
 | 0, _, _, _, _, _, _ => none
 | k + 1, x0, x1, x2, x7, x8, x9 => if 0 ≤ x8 then (if x8 < (x0.length : Int) then (if x9 < ((rdOf yav x0 x8).size : Int) then (if 0 ≤ (wrap64 (x9 - 1)) then (if (wrap64 (x9 - 1)) < ((rdOf yav x0 x8).size : Int) then (if 0 ≤ x9 then (if (wrap64 ((wrap64 (bt (rdOf yav x0 x8) (wrap64 (x9 - 1)))) - 97)) = x1 then (if (wrap64 ((wrap64 (bt (rdOf yav x0 x8) x9)) - 97)) = x2 then (spec_l4Length.l1 k x0 x1 x2 (wrap64 (x7 + 1)) x8 (wrap64 (x9 + 1))) else (if (wrap64 ((wrap64 (bt (rdOf yav x0 x8) (wrap64 (x9 - 1)))) - 97)) = x2 then (if (wrap64 ((wrap64 (bt (rdOf yav x0 x8) x9)) - 97)) = x1 then (spec_l4Length.l1 k x0 x1 x2 (wrap64 (x7 + 1)) x8 (wrap64 (x9 + 1))) else (spec_l4Length.l1 k x0 x1 x2 x7 x8 (wrap64 (x9 + 1)))) else (spec_l4Length.l1 k x0 x1 x2 x7 x8 (wrap64 (x9 + 1))))) else (if (wrap64 ((wrap64 (bt (rdOf yav x0 x8) (wrap64 (x9 - 1)))) - 97)) = x2 then (if (wrap64 ((wrap64 (bt (rdOf yav x0 x8) x9)) - 97)) = x1 then (spec_l4Length.l1 k x0 x1 x2 (wrap64 (x7 + 1)) x8 (wrap64 (x9 + 1))) else (spec_l4Length.l1 k x0 x1 x2 x7 x8 (wrap64 (x9 + 1)))) else (spec_l4Length.l1 k x0 x1 x2 x7 x8 (wrap64 (x9 + 1))))) else (none)) else (none)) else (none)) else (spec_l4Length.l0 k x0 x1 x2 x7 (wrap64 (x8 + 1)))) else (none)) else (none)
end
def spec_l4Length.f (k : Nat) (l0 : List ByteArray) (a1 : Int) (a2 : Int) : Option (Int) := spec_l4Length.l0 k l0 a1 a2 0 0
set_option maxHeartbeats 8000000 in
set_option maxRecDepth 100000 in
theorem spec_l4Length.calls (k : Nat) (A0 : Option Addr) (c0 : Nat) (l0 : List ByteArray) (a1 : Int) (a2 : Int) (r : Int) (w : World) (hr0 : Kd.C Kd.string w A0 l0.length l0) (hc0 : l0.length ≤ c0) (h : spec_l4Length.f k l0 a1 a2 = some r) :
  Calls Try.prog 123 #[.slice A0 l0.length c0, .int .i64 a1, .int .i64 a2] w fun e w' => e = .returned (.int .i64 r) ∧ zbc w w' := by
 have HR0 := zaa.mk hr0
 have HC0 := zaa.mk hc0
 clear hr0 hc0
 have H : (spec_l4Length.l0 k l0 a1 a2 0 0) = some r := h
 clear h
 have H' := zaa.mk H
 clear H
 go_enter Try.func123, Try.ntmps123
 go_wp2
 go_loopg [7, 8] k (fun kq v7 v8 w' => ∃ (x7_1 : Int) (x8_1 : Int), v7 = .int .i64 x7_1 ∧ v8 = .int .i64 x8_1 ∧ zaa (spec_l4Length.l0 kq l0 a1 a2 x7_1 x8_1 = some r) ∧ zaa (kq ≤ k) ∧ zbc w w')
 case atStart => exact ⟨(0), (0), (by first | rfl | (simp; done) | (simp [*]; done)), (by first | rfl | (simp; done) | (simp [*]; done)), H', ⟨yay _⟩, by repeat (first | exact zbc.refl _ | apply zbc.step)⟩
 case round =>
  clear H'
  try clear c1
  try clear p2
  obtain ⟨x7_1, x8_1, rfl, rfl, HA, HK1, ⟨m1, rfl⟩⟩ := hrel
  cases gk with
  | zero => exact absurd HA.out (by simp [spec_l4Length.l0])
  | succ k1 =>
   have H := HA.out
   clear HA
   simp only [spec_l4Length.l0] at H
   by_cases c4 : x8_1 < (l0.length : Int)
   ·rw [if_pos c4] at H
    have c4b0 : decide (x8_1 < (l0.length : Int)) = true := decide_eq_true c4
    clear c4
    have H' := zaa.mk H
    clear H
    go_wp2
    go_loopg [7, 9] k1 (fun kq v7 v9 w' => ∃ (x7_2 : Int) (x9_2 : Int), v7 = .int .i64 x7_2 ∧ v9 = .int .i64 x9_2 ∧ zaa (spec_l4Length.l1 kq l0 a1 a2 x7_2 x8_1 x9_2 = some r) ∧ zaa (kq ≤ k1) ∧ zbc w w')
    case atStart => exact ⟨(x7_1), (1), (by first | rfl | (simp; done) | (simp [*]; done)), (by first | rfl | (simp; done) | (simp [*]; done)), H', ⟨yay _⟩, by repeat (first | exact zbc.refl _ | apply zbc.step)⟩
    case round =>
     clear H'
     try clear c1
     try clear p2
     try clear c4
     try clear c4b0
     try clear p2
     obtain ⟨x7_2, x9_2, rfl, rfl, HA, HK2, ⟨m2, rfl⟩⟩ := hrel
     cases gk with
     | zero => exact absurd HA.out (by simp [spec_l4Length.l1])
     | succ k2 =>
      have H := HA.out
      clear HA
      simp only [spec_l4Length.l1] at H
      by_cases c5 : 0 ≤ x8_1
      ·rw [if_pos c5] at H
       have c5b0 : decide (0 ≤ x8_1) = true := decide_eq_true c5
       clear c5
       by_cases c6 : x8_1 < (l0.length : Int)
       ·rw [if_pos c6] at H
        have c6b0 : decide (x8_1 < (l0.length : Int)) = true := decide_eq_true c6
        clear c6
        by_cases c7 : x9_2 < ((rdOf yav l0 x8_1).size : Int)
        ·rw [if_pos c7] at H
         have c7b0 : decide (x9_2 < ((rdOf yav l0 x8_1).size : Int)) = true := decide_eq_true c7
         clear c7
         obtain ⟨ji8, hji8⟩ : ∃ j_ : Int, (wrap64 (x9_2 - 1)) = j_ := ⟨_, rfl⟩
         replace H : (if 0 ≤ (ji8) then (if (ji8) < ((rdOf yav l0 x8_1).size : Int) then (if 0 ≤ x9_2 then (if (wrap64 ((wrap64 (bt (rdOf yav l0 x8_1) (ji8))) - 97)) = a1 then (if (wrap64 ((wrap64 (bt (rdOf yav l0 x8_1) x9_2)) - 97)) = a2 then (spec_l4Length.l1 k2 l0 a1 a2 (wrap64 (x7_2 + 1)) x8_1 (wrap64 (x9_2 + 1))) else (if (wrap64 ((wrap64 (bt (rdOf yav l0 x8_1) (ji8))) - 97)) = a2 then (if (wrap64 ((wrap64 (bt (rdOf yav l0 x8_1) x9_2)) - 97)) = a1 then (spec_l4Length.l1 k2 l0 a1 a2 (wrap64 (x7_2 + 1)) x8_1 (wrap64 (x9_2 + 1))) else (spec_l4Length.l1 k2 l0 a1 a2 x7_2 x8_1 (wrap64 (x9_2 + 1)))) else (spec_l4Length.l1 k2 l0 a1 a2 x7_2 x8_1 (wrap64 (x9_2 + 1))))) else (if (wrap64 ((wrap64 (bt (rdOf yav l0 x8_1) (ji8))) - 97)) = a2 then (if (wrap64 ((wrap64 (bt (rdOf yav l0 x8_1) x9_2)) - 97)) = a1 then (spec_l4Length.l1 k2 l0 a1 a2 (wrap64 (x7_2 + 1)) x8_1 (wrap64 (x9_2 + 1))) else (spec_l4Length.l1 k2 l0 a1 a2 x7_2 x8_1 (wrap64 (x9_2 + 1)))) else (spec_l4Length.l1 k2 l0 a1 a2 x7_2 x8_1 (wrap64 (x9_2 + 1))))) else (none)) else (none)) else (none)) = some r := by first | (rw [hji8] at H; exact H) | (simp only [hji8] at H ⊢; exact H)
         have hji8w : (IntKind.i64.wrap (x9_2 - 1)) = ji8 := (zav _).trans hji8
         by_cases c9 : 0 ≤ (ji8)
         ·rw [if_pos c9] at H
          have c9b0 : decide (0 ≤ (ji8)) = true := decide_eq_true c9
          clear c9
          by_cases c10 : (ji8) < ((rdOf yav l0 x8_1).size : Int)
          ·rw [if_pos c10] at H
           have c10b0 : decide ((ji8) < ((rdOf yav l0 x8_1).size : Int)) = true := decide_eq_true c10
           clear c10
           by_cases c12 : 0 ≤ x9_2
           ·rw [if_pos c12] at H
            have c12b0 : decide (0 ≤ x9_2) = true := decide_eq_true c12
            clear c12
            by_cases c14 : (wrap64 ((wrap64 (bt (rdOf yav l0 x8_1) (ji8))) - 97)) = a1
            ·rw [if_pos c14] at H
             have c14b0 : ((wrap64 ((wrap64 (bt (rdOf yav l0 x8_1) (ji8))) - 97)) == a1) = true := beq_iff_eq.mpr c14
             have c14b1 : ((wrap64 ((wrap64 (bt (rdOf yav l0 x8_1) (ji8))) - 97)) != a1) = false := bne_eq_false_iff_eq.mpr c14
             clear c14
             by_cases c15 : (wrap64 ((wrap64 (bt (rdOf yav l0 x8_1) x9_2)) - 97)) = a2
             ·rw [if_pos c15] at H
              have c15b0 : ((wrap64 ((wrap64 (bt (rdOf yav l0 x8_1) x9_2)) - 97)) == a2) = true := beq_iff_eq.mpr c15
              have c15b1 : ((wrap64 ((wrap64 (bt (rdOf yav l0 x8_1) x9_2)) - 97)) != a2) = false := bne_eq_false_iff_eq.mpr c15
              clear c15
              have H' := zaa.mk H
              clear H
              have p498 : 0 ≤ (x8_1 : Int) := of_decide_eq_true (by assumption)
              have q498 : x8_1 < (l0.length : Int) := of_decide_eq_true (by assumption)
              obtain ⟨ad498, e498, hx498_0⟩ := Kd.at_string HR0.out x8_1 p498 q498
              cases e498
              replace p498 := eq_true p498
              replace q498 := eq_true q498
              have p499 : 0 ≤ (x8_1 : Int) := of_decide_eq_true (by assumption)
              have q499 : x8_1 < (l0.length : Int) := of_decide_eq_true (by assumption)
              obtain ⟨ad499, e499, hx499_0⟩ := Kd.at_string HR0.out x8_1 p499 q499
              obtain rfl : ad498 = ad499 := (by injection e499)
              replace p499 := eq_true p499
              replace q499 := eq_true q499
              have p11 : 0 ≤ ((ji8) : Int) := of_decide_eq_true (by assumption)
              have q11 : (ji8) < ((rdOf yav l0 x8_1).size : Int) := of_decide_eq_true (by assumption)
              have hx11 := bt_at (rdOf yav l0 x8_1) (ji8)
              replace p11 := eq_true p11
              replace q11 := eq_true q11
              have p500 : 0 ≤ (x8_1 : Int) := of_decide_eq_true (by assumption)
              have q500 : x8_1 < (l0.length : Int) := of_decide_eq_true (by assumption)
              obtain ⟨ad500, e500, hx500_0⟩ := Kd.at_string HR0.out x8_1 p500 q500
              obtain rfl : ad498 = ad500 := (by injection e500)
              replace p500 := eq_true p500
              replace q500 := eq_true q500
              have p13 : 0 ≤ (x9_2 : Int) := of_decide_eq_true (by assumption)
              have q13 : x9_2 < ((rdOf yav l0 x8_1).size : Int) := of_decide_eq_true (by assumption)
              have hx13 := bt_at (rdOf yav l0 x8_1) x9_2
              replace p13 := eq_true p13
              replace q13 := eq_true q13
              go_wp2
              go_roundg k2
              case measure => have := HK1.out; have := HK2.out; omega
              case rel => exact ⟨(wrap64 (x7_2 + 1)), (wrap64 (x9_2 + 1)), (by first | rfl | (simp; done) | (simp [*]; done)), (by first | rfl | (simp; done) | (simp [*]; done)), H', ⟨by have := HK1.out; have := HK2.out; omega⟩, by repeat (first | exact zbc.refl _ | apply zbc.step)⟩
             ·rw [if_neg c15] at H
              have c15b0 : ((wrap64 ((wrap64 (bt (rdOf yav l0 x8_1) x9_2)) - 97)) == a2) = false := beq_eq_false_iff_ne.mpr c15
              have c15b1 : ((wrap64 ((wrap64 (bt (rdOf yav l0 x8_1) x9_2)) - 97)) != a2) = true := bne_iff_ne.mpr c15
              by_cases c16 : (wrap64 ((wrap64 (bt (rdOf yav l0 x8_1) (ji8))) - 97)) = a2
              ·rw [if_pos c16] at H
               have c16b0 : ((wrap64 ((wrap64 (bt (rdOf yav l0 x8_1) (ji8))) - 97)) == a2) = true := beq_iff_eq.mpr c16
               have c16b1 : ((wrap64 ((wrap64 (bt (rdOf yav l0 x8_1) (ji8))) - 97)) != a2) = false := bne_eq_false_iff_eq.mpr c16
               clear c16
               by_cases c17 : (wrap64 ((wrap64 (bt (rdOf yav l0 x8_1) x9_2)) - 97)) = a1
               ·rw [if_pos c17] at H
                have c17b0 : ((wrap64 ((wrap64 (bt (rdOf yav l0 x8_1) x9_2)) - 97)) == a1) = true := beq_iff_eq.mpr c17
                have c17b1 : ((wrap64 ((wrap64 (bt (rdOf yav l0 x8_1) x9_2)) - 97)) != a1) = false := bne_eq_false_iff_eq.mpr c17
                clear c17
                have H' := zaa.mk H
                clear H
                have p498 : 0 ≤ (x8_1 : Int) := of_decide_eq_true (by assumption)
                have q498 : x8_1 < (l0.length : Int) := of_decide_eq_true (by assumption)
                obtain ⟨ad498, e498, hx498_0⟩ := Kd.at_string HR0.out x8_1 p498 q498
                cases e498
                replace p498 := eq_true p498
                replace q498 := eq_true q498
                have p499 : 0 ≤ (x8_1 : Int) := of_decide_eq_true (by assumption)
                have q499 : x8_1 < (l0.length : Int) := of_decide_eq_true (by assumption)
                obtain ⟨ad499, e499, hx499_0⟩ := Kd.at_string HR0.out x8_1 p499 q499
                obtain rfl : ad498 = ad499 := (by injection e499)
                replace p499 := eq_true p499
                replace q499 := eq_true q499
                have p11 : 0 ≤ ((ji8) : Int) := of_decide_eq_true (by assumption)
                have q11 : (ji8) < ((rdOf yav l0 x8_1).size : Int) := of_decide_eq_true (by assumption)
                have hx11 := bt_at (rdOf yav l0 x8_1) (ji8)
                replace p11 := eq_true p11
                replace q11 := eq_true q11
                have p500 : 0 ≤ (x8_1 : Int) := of_decide_eq_true (by assumption)
                have q500 : x8_1 < (l0.length : Int) := of_decide_eq_true (by assumption)
                obtain ⟨ad500, e500, hx500_0⟩ := Kd.at_string HR0.out x8_1 p500 q500
                obtain rfl : ad498 = ad500 := (by injection e500)
                replace p500 := eq_true p500
                replace q500 := eq_true q500
                have p13 : 0 ≤ (x9_2 : Int) := of_decide_eq_true (by assumption)
                have q13 : x9_2 < ((rdOf yav l0 x8_1).size : Int) := of_decide_eq_true (by assumption)
                have hx13 := bt_at (rdOf yav l0 x8_1) x9_2
                replace p13 := eq_true p13
                replace q13 := eq_true q13
                go_wp2
                go_roundg k2
                case measure => have := HK1.out; have := HK2.out; omega
                case rel => exact ⟨(wrap64 (x7_2 + 1)), (wrap64 (x9_2 + 1)), (by first | rfl | (simp; done) | (simp [*]; done)), (by first | rfl | (simp; done) | (simp [*]; done)), H', ⟨by have := HK1.out; have := HK2.out; omega⟩, by repeat (first | exact zbc.refl _ | apply zbc.step)⟩
               ·rw [if_neg c17] at H
                have c17b0 : ((wrap64 ((wrap64 (bt (rdOf yav l0 x8_1) x9_2)) - 97)) == a1) = false := beq_eq_false_iff_ne.mpr c17
                have c17b1 : ((wrap64 ((wrap64 (bt (rdOf yav l0 x8_1) x9_2)) - 97)) != a1) = true := bne_iff_ne.mpr c17
                have H' := zaa.mk H
                clear H
                have p498 : 0 ≤ (x8_1 : Int) := of_decide_eq_true (by assumption)
                have q498 : x8_1 < (l0.length : Int) := of_decide_eq_true (by assumption)
                obtain ⟨ad498, e498, hx498_0⟩ := Kd.at_string HR0.out x8_1 p498 q498
                cases e498
                replace p498 := eq_true p498
                replace q498 := eq_true q498
                have p499 : 0 ≤ (x8_1 : Int) := of_decide_eq_true (by assumption)
                have q499 : x8_1 < (l0.length : Int) := of_decide_eq_true (by assumption)
                obtain ⟨ad499, e499, hx499_0⟩ := Kd.at_string HR0.out x8_1 p499 q499
                obtain rfl : ad498 = ad499 := (by injection e499)
                replace p499 := eq_true p499
                replace q499 := eq_true q499
                have p11 : 0 ≤ ((ji8) : Int) := of_decide_eq_true (by assumption)
                have q11 : (ji8) < ((rdOf yav l0 x8_1).size : Int) := of_decide_eq_true (by assumption)
                have hx11 := bt_at (rdOf yav l0 x8_1) (ji8)
                replace p11 := eq_true p11
                replace q11 := eq_true q11
                have p500 : 0 ≤ (x8_1 : Int) := of_decide_eq_true (by assumption)
                have q500 : x8_1 < (l0.length : Int) := of_decide_eq_true (by assumption)
                obtain ⟨ad500, e500, hx500_0⟩ := Kd.at_string HR0.out x8_1 p500 q500
                obtain rfl : ad498 = ad500 := (by injection e500)
                replace p500 := eq_true p500
                replace q500 := eq_true q500
                have p13 : 0 ≤ (x9_2 : Int) := of_decide_eq_true (by assumption)
                have q13 : x9_2 < ((rdOf yav l0 x8_1).size : Int) := of_decide_eq_true (by assumption)
                have hx13 := bt_at (rdOf yav l0 x8_1) x9_2
                replace p13 := eq_true p13
                replace q13 := eq_true q13
                go_wp2
                go_roundg k2
                case measure => have := HK1.out; have := HK2.out; omega
                case rel => exact ⟨(x7_2), (wrap64 (x9_2 + 1)), (by first | rfl | (simp; done) | (simp [*]; done)), (by first | rfl | (simp; done) | (simp [*]; done)), H', ⟨by have := HK1.out; have := HK2.out; omega⟩, by repeat (first | exact zbc.refl _ | apply zbc.step)⟩
              ·rw [if_neg c16] at H
               have c16b0 : ((wrap64 ((wrap64 (bt (rdOf yav l0 x8_1) (ji8))) - 97)) == a2) = false := beq_eq_false_iff_ne.mpr c16
               have c16b1 : ((wrap64 ((wrap64 (bt (rdOf yav l0 x8_1) (ji8))) - 97)) != a2) = true := bne_iff_ne.mpr c16
               have H' := zaa.mk H
               clear H
               have p498 : 0 ≤ (x8_1 : Int) := of_decide_eq_true (by assumption)
               have q498 : x8_1 < (l0.length : Int) := of_decide_eq_true (by assumption)
               obtain ⟨ad498, e498, hx498_0⟩ := Kd.at_string HR0.out x8_1 p498 q498
               cases e498
               replace p498 := eq_true p498
               replace q498 := eq_true q498
               have p499 : 0 ≤ (x8_1 : Int) := of_decide_eq_true (by assumption)
               have q499 : x8_1 < (l0.length : Int) := of_decide_eq_true (by assumption)
               obtain ⟨ad499, e499, hx499_0⟩ := Kd.at_string HR0.out x8_1 p499 q499
               obtain rfl : ad498 = ad499 := (by injection e499)
               replace p499 := eq_true p499
               replace q499 := eq_true q499
               have p11 : 0 ≤ ((ji8) : Int) := of_decide_eq_true (by assumption)
               have q11 : (ji8) < ((rdOf yav l0 x8_1).size : Int) := of_decide_eq_true (by assumption)
               have hx11 := bt_at (rdOf yav l0 x8_1) (ji8)
               replace p11 := eq_true p11
               replace q11 := eq_true q11
               have p500 : 0 ≤ (x8_1 : Int) := of_decide_eq_true (by assumption)
               have q500 : x8_1 < (l0.length : Int) := of_decide_eq_true (by assumption)
               obtain ⟨ad500, e500, hx500_0⟩ := Kd.at_string HR0.out x8_1 p500 q500
               obtain rfl : ad498 = ad500 := (by injection e500)
               replace p500 := eq_true p500
               replace q500 := eq_true q500
               have p13 : 0 ≤ (x9_2 : Int) := of_decide_eq_true (by assumption)
               have q13 : x9_2 < ((rdOf yav l0 x8_1).size : Int) := of_decide_eq_true (by assumption)
               have hx13 := bt_at (rdOf yav l0 x8_1) x9_2
               replace p13 := eq_true p13
               replace q13 := eq_true q13
               go_wp2
               go_roundg k2
               case measure => have := HK1.out; have := HK2.out; omega
               case rel => exact ⟨(x7_2), (wrap64 (x9_2 + 1)), (by first | rfl | (simp; done) | (simp [*]; done)), (by first | rfl | (simp; done) | (simp [*]; done)), H', ⟨by have := HK1.out; have := HK2.out; omega⟩, by repeat (first | exact zbc.refl _ | apply zbc.step)⟩
            ·rw [if_neg c14] at H
             have c14b0 : ((wrap64 ((wrap64 (bt (rdOf yav l0 x8_1) (ji8))) - 97)) == a1) = false := beq_eq_false_iff_ne.mpr c14
             have c14b1 : ((wrap64 ((wrap64 (bt (rdOf yav l0 x8_1) (ji8))) - 97)) != a1) = true := bne_iff_ne.mpr c14
             by_cases c18 : (wrap64 ((wrap64 (bt (rdOf yav l0 x8_1) (ji8))) - 97)) = a2
             ·rw [if_pos c18] at H
              have c18b0 : ((wrap64 ((wrap64 (bt (rdOf yav l0 x8_1) (ji8))) - 97)) == a2) = true := beq_iff_eq.mpr c18
              have c18b1 : ((wrap64 ((wrap64 (bt (rdOf yav l0 x8_1) (ji8))) - 97)) != a2) = false := bne_eq_false_iff_eq.mpr c18
              clear c18
              by_cases c19 : (wrap64 ((wrap64 (bt (rdOf yav l0 x8_1) x9_2)) - 97)) = a1
              ·rw [if_pos c19] at H
               have c19b0 : ((wrap64 ((wrap64 (bt (rdOf yav l0 x8_1) x9_2)) - 97)) == a1) = true := beq_iff_eq.mpr c19
               have c19b1 : ((wrap64 ((wrap64 (bt (rdOf yav l0 x8_1) x9_2)) - 97)) != a1) = false := bne_eq_false_iff_eq.mpr c19
               clear c19
               have H' := zaa.mk H
               clear H
               have p498 : 0 ≤ (x8_1 : Int) := of_decide_eq_true (by assumption)
               have q498 : x8_1 < (l0.length : Int) := of_decide_eq_true (by assumption)
               obtain ⟨ad498, e498, hx498_0⟩ := Kd.at_string HR0.out x8_1 p498 q498
               cases e498
               replace p498 := eq_true p498
               replace q498 := eq_true q498
               have p499 : 0 ≤ (x8_1 : Int) := of_decide_eq_true (by assumption)
               have q499 : x8_1 < (l0.length : Int) := of_decide_eq_true (by assumption)
               obtain ⟨ad499, e499, hx499_0⟩ := Kd.at_string HR0.out x8_1 p499 q499
               obtain rfl : ad498 = ad499 := (by injection e499)
               replace p499 := eq_true p499
               replace q499 := eq_true q499
               have p11 : 0 ≤ ((ji8) : Int) := of_decide_eq_true (by assumption)
               have q11 : (ji8) < ((rdOf yav l0 x8_1).size : Int) := of_decide_eq_true (by assumption)
               have hx11 := bt_at (rdOf yav l0 x8_1) (ji8)
               replace p11 := eq_true p11
               replace q11 := eq_true q11
               have p500 : 0 ≤ (x8_1 : Int) := of_decide_eq_true (by assumption)
               have q500 : x8_1 < (l0.length : Int) := of_decide_eq_true (by assumption)
               obtain ⟨ad500, e500, hx500_0⟩ := Kd.at_string HR0.out x8_1 p500 q500
               obtain rfl : ad498 = ad500 := (by injection e500)
               replace p500 := eq_true p500
               replace q500 := eq_true q500
               have p13 : 0 ≤ (x9_2 : Int) := of_decide_eq_true (by assumption)
               have q13 : x9_2 < ((rdOf yav l0 x8_1).size : Int) := of_decide_eq_true (by assumption)
               have hx13 := bt_at (rdOf yav l0 x8_1) x9_2
               replace p13 := eq_true p13
               replace q13 := eq_true q13
               go_wp2
               go_roundg k2
               case measure => have := HK1.out; have := HK2.out; omega
               case rel => exact ⟨(wrap64 (x7_2 + 1)), (wrap64 (x9_2 + 1)), (by first | rfl | (simp; done) | (simp [*]; done)), (by first | rfl | (simp; done) | (simp [*]; done)), H', ⟨by have := HK1.out; have := HK2.out; omega⟩, by repeat (first | exact zbc.refl _ | apply zbc.step)⟩
              ·rw [if_neg c19] at H
               have c19b0 : ((wrap64 ((wrap64 (bt (rdOf yav l0 x8_1) x9_2)) - 97)) == a1) = false := beq_eq_false_iff_ne.mpr c19
               have c19b1 : ((wrap64 ((wrap64 (bt (rdOf yav l0 x8_1) x9_2)) - 97)) != a1) = true := bne_iff_ne.mpr c19
               have H' := zaa.mk H
               clear H
               have p498 : 0 ≤ (x8_1 : Int) := of_decide_eq_true (by assumption)
               have q498 : x8_1 < (l0.length : Int) := of_decide_eq_true (by assumption)
               obtain ⟨ad498, e498, hx498_0⟩ := Kd.at_string HR0.out x8_1 p498 q498
               cases e498
               replace p498 := eq_true p498
               replace q498 := eq_true q498
               have p499 : 0 ≤ (x8_1 : Int) := of_decide_eq_true (by assumption)
               have q499 : x8_1 < (l0.length : Int) := of_decide_eq_true (by assumption)
               obtain ⟨ad499, e499, hx499_0⟩ := Kd.at_string HR0.out x8_1 p499 q499
               obtain rfl : ad498 = ad499 := (by injection e499)
               replace p499 := eq_true p499
               replace q499 := eq_true q499
               have p11 : 0 ≤ ((ji8) : Int) := of_decide_eq_true (by assumption)
               have q11 : (ji8) < ((rdOf yav l0 x8_1).size : Int) := of_decide_eq_true (by assumption)
               have hx11 := bt_at (rdOf yav l0 x8_1) (ji8)
               replace p11 := eq_true p11
               replace q11 := eq_true q11
               have p500 : 0 ≤ (x8_1 : Int) := of_decide_eq_true (by assumption)
               have q500 : x8_1 < (l0.length : Int) := of_decide_eq_true (by assumption)
               obtain ⟨ad500, e500, hx500_0⟩ := Kd.at_string HR0.out x8_1 p500 q500
               obtain rfl : ad498 = ad500 := (by injection e500)
               replace p500 := eq_true p500
               replace q500 := eq_true q500
               have p13 : 0 ≤ (x9_2 : Int) := of_decide_eq_true (by assumption)
               have q13 : x9_2 < ((rdOf yav l0 x8_1).size : Int) := of_decide_eq_true (by assumption)
               have hx13 := bt_at (rdOf yav l0 x8_1) x9_2
               replace p13 := eq_true p13
               replace q13 := eq_true q13
               go_wp2
               go_roundg k2
               case measure => have := HK1.out; have := HK2.out; omega
               case rel => exact ⟨(x7_2), (wrap64 (x9_2 + 1)), (by first | rfl | (simp; done) | (simp [*]; done)), (by first | rfl | (simp; done) | (simp [*]; done)), H', ⟨by have := HK1.out; have := HK2.out; omega⟩, by repeat (first | exact zbc.refl _ | apply zbc.step)⟩
             ·rw [if_neg c18] at H
              have c18b0 : ((wrap64 ((wrap64 (bt (rdOf yav l0 x8_1) (ji8))) - 97)) == a2) = false := beq_eq_false_iff_ne.mpr c18
              have c18b1 : ((wrap64 ((wrap64 (bt (rdOf yav l0 x8_1) (ji8))) - 97)) != a2) = true := bne_iff_ne.mpr c18
              have H' := zaa.mk H
              clear H
              have p498 : 0 ≤ (x8_1 : Int) := of_decide_eq_true (by assumption)
              have q498 : x8_1 < (l0.length : Int) := of_decide_eq_true (by assumption)
              obtain ⟨ad498, e498, hx498_0⟩ := Kd.at_string HR0.out x8_1 p498 q498
              cases e498
              replace p498 := eq_true p498
              replace q498 := eq_true q498
              have p499 : 0 ≤ (x8_1 : Int) := of_decide_eq_true (by assumption)
              have q499 : x8_1 < (l0.length : Int) := of_decide_eq_true (by assumption)
              obtain ⟨ad499, e499, hx499_0⟩ := Kd.at_string HR0.out x8_1 p499 q499
              obtain rfl : ad498 = ad499 := (by injection e499)
              replace p499 := eq_true p499
              replace q499 := eq_true q499
              have p11 : 0 ≤ ((ji8) : Int) := of_decide_eq_true (by assumption)
              have q11 : (ji8) < ((rdOf yav l0 x8_1).size : Int) := of_decide_eq_true (by assumption)
              have hx11 := bt_at (rdOf yav l0 x8_1) (ji8)
              replace p11 := eq_true p11
              replace q11 := eq_true q11
              have p500 : 0 ≤ (x8_1 : Int) := of_decide_eq_true (by assumption)
              have q500 : x8_1 < (l0.length : Int) := of_decide_eq_true (by assumption)
              obtain ⟨ad500, e500, hx500_0⟩ := Kd.at_string HR0.out x8_1 p500 q500
              obtain rfl : ad498 = ad500 := (by injection e500)
              replace p500 := eq_true p500
              replace q500 := eq_true q500
              have p13 : 0 ≤ (x9_2 : Int) := of_decide_eq_true (by assumption)
              have q13 : x9_2 < ((rdOf yav l0 x8_1).size : Int) := of_decide_eq_true (by assumption)
              have hx13 := bt_at (rdOf yav l0 x8_1) x9_2
              replace p13 := eq_true p13
              replace q13 := eq_true q13
              go_wp2
              go_roundg k2
              case measure => have := HK1.out; have := HK2.out; omega
              case rel => exact ⟨(x7_2), (wrap64 (x9_2 + 1)), (by first | rfl | (simp; done) | (simp [*]; done)), (by first | rfl | (simp; done) | (simp [*]; done)), H', ⟨by have := HK1.out; have := HK2.out; omega⟩, by repeat (first | exact zbc.refl _ | apply zbc.step)⟩
           ·rw [if_neg c12] at H
            exact absurd H (by simp)
          ·rw [if_neg c10] at H
           exact absurd H (by simp)
         ·rw [if_neg c9] at H
          exact absurd H (by simp)
        ·rw [if_neg c7] at H
         have c7b0 : decide (x9_2 < ((rdOf yav l0 x8_1).size : Int)) = false := decide_eq_false c7
         clear c7
         have H' := zaa.mk H
         clear H
         have p498 : 0 ≤ (x8_1 : Int) := of_decide_eq_true (by assumption)
         have q498 : x8_1 < (l0.length : Int) := of_decide_eq_true (by assumption)
         obtain ⟨ad498, e498, hx498_0⟩ := Kd.at_string HR0.out x8_1 p498 q498
         cases e498
         replace p498 := eq_true p498
         replace q498 := eq_true q498
         go_wp2
         go_roundg k2
         case measure => have := HK1.out; have := HK2.out; omega
         case rel => exact ⟨(x7_2), (wrap64 (x8_1 + 1)), (by first | rfl | (simp; done) | (simp [*]; done)), (by first | rfl | (simp; done) | (simp [*]; done)), H', ⟨by have := HK1.out; have := HK2.out; omega⟩, by repeat (first | exact zbc.refl _ | apply zbc.step)⟩
       ·rw [if_neg c6] at H
        exact absurd H (by simp)
      ·rw [if_neg c5] at H
       exact absurd H (by simp)
   ·rw [if_neg c4] at H
    have c4b0 : decide (x8_1 < (l0.length : Int)) = false := decide_eq_false c4
    clear c4
    obtain rfl := Option.some.inj H
    go_wp2
    go_ret
    exact ⟨by first | rfl | (simp; done) | (simp [*]; done), by repeat (first | exact zbc.refl _ | apply zbc.step)⟩
end Go.Proofs.Ytickdcegnlldjaa.PB
namespace Go.Proofs.Ytickdcegnlldjaa.PB
open Go.RowKit Go.PW.PrintWords Go.PW.PrintLast Go.PW.PrintMore
attribute [local go_sem] zby zbw zcl zck zbq zbp zbx zbv   -- for this text's walks alone
def spec_l4Beside.f (k : Nat) (l0 : List ByteArray) (a1 : Int) (a2 : Int) : Option (Int) := if a1 = a2 then (some 0) else ((spec_l4Length.f k l0 a1 a2).bind fun t501 => ((spec_l1Trans.f k l0).bind fun t502 => ((spec_l4Length.f k t502 a1 a2).bind fun t505 => (some (wrap64 (t501 + t505))))))
set_option maxHeartbeats 8000000 in
set_option maxRecDepth 100000 in
theorem spec_l4Beside.calls (k : Nat) (A0 : Option Addr) (c0 : Nat) (l0 : List ByteArray) (a1 : Int) (a2 : Int) (r : Int) (w : World) (hr0 : Kd.C Kd.string w A0 l0.length l0) (hc0 : l0.length ≤ c0) (h : spec_l4Beside.f k l0 a1 a2 = some r) :
  Calls Try.prog 114 #[.slice A0 l0.length c0, .int .i64 a1, .int .i64 a2] w fun e w' => e = .returned (.int .i64 r) ∧ Below w.heap.size w w' := by
 have HR0 := zaa.mk hr0
 have HC0 := zaa.mk hc0
 clear hr0 hc0
 have HB := zaa.mk (Below.refl w.heap.size w)
 have H : (if a1 = a2 then (some 0) else ((spec_l4Length.f k l0 a1 a2).bind fun t501 => ((spec_l1Trans.f k l0).bind fun t502 => ((spec_l4Length.f k t502 a1 a2).bind fun t505 => (some (wrap64 (t501 + t505))))))) = some r := h
 clear h
 by_cases c4 : a1 = a2
 ·rw [if_pos c4] at H
  have c4b0 : (a1 == a2) = true := beq_iff_eq.mpr c4
  have c4b1 : (a1 != a2) = false := bne_eq_false_iff_eq.mpr c4
  clear c4
  obtain rfl := Option.some.inj H
  go_enter Try.func114, Try.ntmps114
  go_wp2
  go_ret
  exact ⟨by first | rfl | (simp [zao, zan] <;> rfl) | (simp [*, zao, zan] <;> rfl), by repeat (first | (with_reducible first | exact HB.out | apply zac | apply zab | apply zad) | exact HB.out)⟩
 ·rw [if_neg c4] at H
  have c4b0 : (a1 == a2) = false := beq_eq_false_iff_ne.mpr c4
  have c4b1 : (a1 != a2) = true := bne_iff_ne.mpr c4
  replace H := yaw.mp H
  obtain ⟨t501, A50, H⟩ := H
  replace H : ((spec_l1Trans.f k l0).bind fun t502 => ((spec_l4Length.f k t502 a1 a2).bind fun t505 => (some (wrap64 (t501 + t505))))) = some r := H
  have A5 := zaa.mk A50
  clear A50
  replace H := yaw.mp H
  obtain ⟨t502, A60, H⟩ := H
  replace H : ((spec_l4Length.f k t502 a1 a2).bind fun t505 => (some (wrap64 (t501 + t505)))) = some r := H
  have A6 := zaa.mk A60
  clear A60
  replace H := yaw.mp H
  obtain ⟨t505, A70, H⟩ := H
  replace H : (some (wrap64 (t501 + t505))) = some r := H
  have A7 := zaa.mk A70
  clear A70
  obtain rfl := Option.some.inj H
  go_enter Try.func114, Try.ntmps114
  go_wp2_with (first | ((with_reducible refine zal (f := 123) rfl ?_); refine zbd (some 13) rfl rfl Try.func123 (by kernel_rfl) rfl #[.slice A0 l0.length c0, .int .i64 a1, .int .i64 a2] rfl (by (try simp only [yap, yaq, yar]); first | done | rfl | (simp only [yat, yas]; rfl)) ?_; (with_reducible refine (spec_l4Length.calls k _ _ l0 a1 a2 t501 _ ?side1 ?side2 A5.out).mono ?_); (case side1 => repeat (first | exact HR0.out | (with_reducible refine Kd.C_alloc ?_ _) | (with_reducible refine Kd.C_drewN ?_ _) | (with_reducible refine Kd.C_drew ?_))); (case side2 => exact HC0.out); rintro e w' ⟨rfl, ⟨nd, rfl⟩⟩; refine ⟨_, rfl, ?_⟩) | ((with_reducible refine zal (f := 47) rfl ?_); refine zbd (some 15) rfl rfl Try.func47 (by kernel_rfl) rfl #[.slice A0 l0.length c0] rfl (by (try simp only [yap, yaq, yar]); first | done | rfl | (simp only [yat, yas]; rfl)) ?_; (with_reducible refine (spec_l1Trans.calls k _ _ l0 t502 _ ?side1 ?side2 A6.out).mono ?_); (case side1 => repeat (first | exact HR0.out | (with_reducible refine Kd.C_alloc ?_ _) | (with_reducible refine Kd.C_drewN ?_ _) | (with_reducible refine Kd.C_drew ?_))); (case side2 => exact HC0.out); rintro e w8 ⟨v503, rfl, ho0, hb⟩; refine ⟨_, rfl, ?_⟩; have n0_ := zaa.mk (Kd.R_lower ho0 (zaq (by repeat (first | (with_reducible first | exact HB.out | apply zac | apply zab | apply zad) | exact HB.out)))); have n1_ := zaa.mk (zae (by repeat (first | (with_reducible first | exact HB.out | apply zac | apply zab | apply zad) | exact HB.out)) hb); clear HB; have HO504 := n0_; have HB := n1_; clear n0_ n1_; (try clear hb); (try clear hb2); (try clear hk); (try clear hi); (try clear ho0); obtain ⟨Ao9, co9, eo9⟩ := Kd.R_slice HO504.out; subst eo9) | ((with_reducible refine zal (f := 123) rfl ?_); refine zbd (some 18) rfl rfl Try.func123 (by kernel_rfl) rfl #[.slice Ao9 t502.length co9, .int .i64 a1, .int .i64 a2] rfl (by (try simp only [yap, yaq, yar]); first | done | rfl | (simp only [yat, yas]; rfl)) ?_; (with_reducible refine (spec_l4Length.calls k _ _ t502 a1 a2 t505 _ ?side1 ?side2 A7.out).mono ?_); (case side1 => repeat (first | exact (Kd.R_reads' HO504.out).2.2 | (with_reducible refine Kd.C_alloc ?_ _) | (with_reducible refine Kd.C_drewN ?_ _) | (with_reducible refine Kd.C_drew ?_))); (case side2 => exact (Kd.R_reads' HO504.out).2.1); rintro e w' ⟨rfl, ⟨nd, rfl⟩⟩; refine ⟨_, rfl, ?_⟩))
  go_ret
  exact ⟨by first | rfl | (simp [zao, zan] <;> rfl) | (simp [*, zao, zan] <;> rfl), by repeat (first | (with_reducible first | exact HB.out | apply zac | apply zab | apply zad) | exact HB.out)⟩
mutual
def spec_l4Colour.l0 : Nat → List ByteArray → List Int → Int → Int → Int → Option (List Int × Bool)
 | 0, _, _, _, _, _ => none
 | k + 1, x0, x1, x2, x8, x9 => if x9 < x2 then (spec_l4Colour.l1 k x0 x1 x2 x8 x9 true 0) else (some ((([] : List Int)), false))
def spec_l4Colour.l1 : Nat → List ByteArray → List Int → Int → Int → Int → Bool → Int → Option (List Int × Bool)
 | 0, _, _, _, _, _, _, _ => none
 | k + 1, x0, x1, x2, x8, x9, x10, x11 => if x11 < x8 then (if x10 = true then (if 0 ≤ x11 then (if x11 < (x1.length : Int) then (if (rd x1 x11) = x9 then ((spec_l4Beside.f k x0 x8 x11).bind fun t511 => (spec_l4Colour.l1 k x0 x1 x2 x8 x9 (t511 == 0) (wrap64 (x11 + 1)))) else (spec_l4Colour.l1 k x0 x1 x2 x8 x9 true (wrap64 (x11 + 1)))) else (none)) else (none)) else (spec_l4Colour.l1 k x0 x1 x2 x8 x9 false (wrap64 (x11 + 1)))) else (if x10 = true then ((some (([] : List Int) : List Int)).bind fun y512 => (if y512.length + x1.length < 17592186044416 then ((some (y512 ++ x1 : List Int)).bind fun y515 => (if y515.length < 17592186044416 then ((spec_l4Colour.f k x0 (y515 ++ [x9]) x2).bind fun bt521 => (if bt521.2 = true then (some (bt521.1, true)) else (spec_l4Colour.l0 k x0 x1 x2 x8 (wrap64 (x9 + 1))))) else (none))) else (none))) else (spec_l4Colour.l0 k x0 x1 x2 x8 (wrap64 (x9 + 1))))
def spec_l4Colour.f : Nat → List ByteArray → List Int → Int → Option (List Int × Bool)
 | 0, _, _, _ => none
 | k + 1, l0, l1, a2 => (spec_l1Rooms.f k l0).bind fun t506 => (if (l1.length : Int) = t506 then (some (l1, true)) else (spec_l4Colour.l0 k l0 l1 a2 (l1.length : Int) 0))
end
set_option maxHeartbeats 8000000 in
set_option maxRecDepth 100000 in
theorem spec_l4Colour.calls (k : Nat) : ∀ (A0 : Option Addr) (c0 : Nat) (l0 : List ByteArray) (P1_ : Nat → Prop) (u9000_ : Value) (l1 : List Int) (a2 : Int) (r1 : List Int) (r2 : Bool) (w0 w : World) (hB : Below w0.heap.size w0 w) (hr0 : ∀ W_, Kept w W_ (fun k_ => P1_ k_) → Kd.C Kd.string W_ A0 l0.length l0) (hc0 : l0.length ≤ c0) (ho1 : Kd.R (Kd.int .i64) 3 w w0.heap.size P1_ u9000_ l1) (h : spec_l4Colour.f k l0 l1 a2 = some (r1, r2)),
  Calls Try.prog 100 #[.slice A0 l0.length c0, u9000_, .int .i64 a2] w fun e w' => ∃ v0_ : Value, e = .returned (.tuple #[v0_, .bool r2]) ∧ Kd.R (Kd.int .i64) 3 w' w0.heap.size (fun k_ => (P1_ k_ ∨ w.heap.size ≤ k_)) v0_ r1 ∧ Below w0.heap.size w0 w' ∧ Kept w w' (fun k_ => P1_ k_) := by
 induction k using Nat.strongRecOn with
 | _ k ih =>
 intro A0 c0 l0 P1_ u9000_ l1 a2 r1 r2 w0 w hB hr0 hc0 ho1 h
 cases k with
 | zero => exact absurd h (by simp [spec_l4Colour.f])
 | succ k =>
 simp only [spec_l4Colour.f] at h
 have HR0 := zaa.mk hr0
 have HC0 := zaa.mk hc0
 clear hr0 hc0
 have HO1 := zaa.mk (show Kd.R (Kd.int .i64) 3 w w0.heap.size (fun k_ => (P1_ k_ ∨ w.heap.size ≤ k_)) u9000_ l1 from Kd.R_mono ho1 (fun k_ hk => (.inl hk)))
 have HK := zaa.mk (Kept.refl w (fun k_ => P1_ k_))
 have HW0 := zaa.mk hB.size
 have HB := zaa.mk hB
 clear hB
 have H : ((spec_l1Rooms.f k l0).bind fun t506 => (if (l1.length : Int) = t506 then (some (l1, true)) else (spec_l4Colour.l0 k l0 l1 a2 (l1.length : Int) 0))) = some (r1, r2) := h
 clear h
 replace H := yaw.mp H
 obtain ⟨t506, A40, H⟩ := H
 replace H : (if (l1.length : Int) = t506 then (some (l1, true)) else (spec_l4Colour.l0 k l0 l1 a2 (l1.length : Int) 0)) = some (r1, r2) := H
 have A4 := zaa.mk A40
 clear A40
 by_cases c5 : (l1.length : Int) = t506
 ·rw [if_pos c5] at H
  have c5b0 : ((l1.length : Int) == t506) = true := beq_iff_eq.mpr c5
  have c5b1 : ((l1.length : Int) != t506) = false := bne_eq_false_iff_eq.mpr c5
  clear c5
  simp only [Option.some.injEq, Prod.mk.injEq] at H
  obtain ⟨rfl, rfl⟩ := H
  obtain ⟨Ao6, co6, eo6⟩ := Kd.R_slice HO1.out
  subst eo6
  go_enter Try.func100, Try.ntmps100
  go_wp2_with (first | ((with_reducible refine zal (f := 87) rfl ?_); refine zbd (some 18) rfl rfl Try.func87 (by kernel_rfl) rfl #[.slice A0 l0.length c0] rfl (by (try simp only [yap, yaq, yar]); first | done | rfl | (simp only [yat, yas]; rfl)) ?_; (with_reducible refine (spec_l1Rooms.calls k _ _ l0 t506 _ ?side1 ?side2 A4.out).mono ?_); (case side1 => exact Kd.C_kept_now HR0.out (by repeat (first | (with_reducible first | exact HK.out | apply Kept.alloc | apply Kept.drewN | apply Kept.drew) | exact HK.out))); (case side2 => exact HC0.out); rintro e w7 ⟨rfl, hb⟩; refine ⟨_, rfl, ?_⟩; have n0_ := zaa.mk (Kd.R_below (by (with_reducible repeat (first | apply yaz | apply yba | apply ybb)); exact HO1.out) hb); have n1_ := zaa.mk (Kept.below (S := (fun k_ => P1_ k_)) (by repeat (first | (with_reducible first | exact HK.out | apply Kept.alloc | apply Kept.drewN | apply Kept.drew) | exact HK.out)) hb); have n2_ := zaa.mk (zae (by repeat (first | (with_reducible first | exact HB.out | apply zac | apply zab | apply zad) | exact HB.out)) hb); clear HO1; clear HK; clear HB; have HO1 := n0_; have HK := n1_; have HB := n2_; clear n0_ n1_ n2_; (try clear hb); (try clear hb2); (try clear hk); (try clear hi)))
  go_ret2
  exact ⟨_, by first | rfl | (simp [zao, zan] <;> rfl) | (simp [*, zao, zan] <;> rfl), by (with_reducible repeat (first | apply yaz | apply yba | apply ybb)); exact HO1.out, by repeat (first | (with_reducible first | exact HB.out | apply zac | apply zab | apply zad) | exact HB.out), by repeat (first | (with_reducible first | exact HK.out | apply Kept.alloc | apply Kept.drewN | apply Kept.drew) | exact HK.out)⟩
 ·rw [if_neg c5] at H
  have c5b0 : ((l1.length : Int) == t506) = false := beq_eq_false_iff_ne.mpr c5
  have c5b1 : ((l1.length : Int) != t506) = true := bne_iff_ne.mpr c5
  have H' := zaa.mk H
  clear H
  obtain ⟨Ao8, co8, eo8⟩ := Kd.R_slice HO1.out
  subst eo8
  go_enter Try.func100, Try.ntmps100
  go_wp2_with (first | ((with_reducible refine zal (f := 87) rfl ?_); refine zbd (some 18) rfl rfl Try.func87 (by kernel_rfl) rfl #[.slice A0 l0.length c0] rfl (by (try simp only [yap, yaq, yar]); first | done | rfl | (simp only [yat, yas]; rfl)) ?_; (with_reducible refine (spec_l1Rooms.calls k _ _ l0 t506 _ ?side1 ?side2 A4.out).mono ?_); (case side1 => exact Kd.C_kept_now HR0.out (by repeat (first | (with_reducible first | exact HK.out | apply Kept.alloc | apply Kept.drewN | apply Kept.drew) | exact HK.out))); (case side2 => exact HC0.out); rintro e w9 ⟨rfl, hb⟩; refine ⟨_, rfl, ?_⟩; have n0_ := zaa.mk (Kd.R_below (by (with_reducible repeat (first | apply yaz | apply yba | apply ybb)); exact HO1.out) hb); have n1_ := zaa.mk (Kept.below (S := (fun k_ => P1_ k_)) (by repeat (first | (with_reducible first | exact HK.out | apply Kept.alloc | apply Kept.drewN | apply Kept.drew) | exact HK.out)) hb); have n2_ := zaa.mk (zae (by repeat (first | (with_reducible first | exact HB.out | apply zac | apply zab | apply zad) | exact HB.out)) hb); clear HO1; clear HK; clear HB; have HO1 := n0_; have HK := n1_; have HB := n2_; clear n0_ n1_ n2_; (try clear hb); (try clear hb2); (try clear hk); (try clear hi)))
  go_loopg [9] k (fun kq v9 w' => ∃ (x9_1 : Int), v9 = .int .i64 x9_1 ∧ zaa (spec_l4Colour.l0 kq l0 l1 a2 (l1.length : Int) x9_1 = some (r1, r2)) ∧ zaa (kq ≤ k) ∧ zaa (Kd.R (Kd.int .i64) 3 w' w0.heap.size (fun k_ => (P1_ k_ ∨ w.heap.size ≤ k_)) (.slice Ao8 l1.length co8) l1) ∧ zaa (Kept w w' (fun k_ => P1_ k_)) ∧ zaa (Below w0.heap.size w0 w'))
  case atStart => exact ⟨(0), (by first | rfl | (simp; done) | (simp [*]; done)), H', ⟨yay _⟩, ⟨by (with_reducible repeat (first | apply yaz | apply yba | apply ybb)); exact HO1.out⟩, ⟨by repeat (first | (with_reducible first | exact HK.out | apply Kept.alloc | apply Kept.drewN | apply Kept.drew) | exact HK.out)⟩, ⟨by repeat (first | (with_reducible first | exact HB.out | apply zac | apply zab | apply zad) | exact HB.out)⟩⟩
  case round =>
   clear H'
   try clear c1
   try clear p2
   try clear c5
   try clear c5b0
   try clear c5b1
   try clear c8
   obtain ⟨x9_1, rfl, HA, HK1, HO_1, HK, HB⟩ := hrel
   cases gk with
   | zero => exact absurd HA.out (by simp [spec_l4Colour.l0])
   | succ k1 =>
    have H := HA.out
    clear HA
    simp only [spec_l4Colour.l0] at H
    by_cases c10 : x9_1 < a2
    ·rw [if_pos c10] at H
     have c10b0 : decide (x9_1 < a2) = true := decide_eq_true c10
     clear c10
     have H' := zaa.mk H
     clear H
     go_wp2
     go_loopg [10, 11] k1 (fun kq v10 v11 w' => ∃ (x10_2 : Bool) (x11_2 : Int), v10 = .bool x10_2 ∧ v11 = .int .i64 x11_2 ∧ zaa (spec_l4Colour.l1 kq l0 l1 a2 (l1.length : Int) x9_1 x10_2 x11_2 = some (r1, r2)) ∧ zaa (kq ≤ k1) ∧ zaa (Kd.R (Kd.int .i64) 3 w' w0.heap.size (fun k_ => (P1_ k_ ∨ w.heap.size ≤ k_)) (.slice Ao8 l1.length co8) l1) ∧ zaa (Kept w w' (fun k_ => P1_ k_)) ∧ zaa (Below w0.heap.size w0 w'))
     case atStart => exact ⟨(true), (0), (by first | rfl | (simp; done) | (simp [*]; done)), (by first | rfl | (simp; done) | (simp [*]; done)), H', ⟨yay _⟩, ⟨by (with_reducible repeat (first | apply yaz | apply yba | apply ybb)); exact HO_1.out⟩, ⟨by repeat (first | (with_reducible first | exact HK.out | apply Kept.alloc | apply Kept.drewN | apply Kept.drew) | exact HK.out)⟩, ⟨by repeat (first | (with_reducible first | exact HB.out | apply zac | apply zab | apply zad) | exact HB.out)⟩⟩
     case round =>
      clear H'
      try clear c1
      try clear p2
      try clear c5
      try clear c5b0
      try clear c5b1
      try clear c8
      try clear c10
      try clear c10b0
      try clear p2
      obtain ⟨x10_2, x11_2, rfl, rfl, HA, HK2, HO_1, HK, HB⟩ := hrel
      cases gk with
      | zero => exact absurd HA.out (by simp [spec_l4Colour.l1])
      | succ k2 =>
       have H := HA.out
       clear HA
       simp only [spec_l4Colour.l1] at H
       by_cases c11 : x11_2 < (l1.length : Int)
       ·rw [if_pos c11] at H
        have c11b0 : decide (x11_2 < (l1.length : Int)) = true := decide_eq_true c11
        clear c11
        by_cases c12 : x10_2 = true
        ·subst c12
         have H1 : (if 0 ≤ x11_2 then (if x11_2 < (l1.length : Int) then (if (rd l1 x11_2) = x9_1 then ((spec_l4Beside.f k2 l0 (l1.length : Int) x11_2).bind fun t511 => (spec_l4Colour.l1 k2 l0 l1 a2 (l1.length : Int) x9_1 (t511 == 0) (wrap64 (x11_2 + 1)))) else (spec_l4Colour.l1 k2 l0 l1 a2 (l1.length : Int) x9_1 true (wrap64 (x11_2 + 1)))) else (none)) else (none)) = some (r1, r2) := by rw [if_pos rfl] at H; exact H
         clear H
         have H := H1
         clear H1
         by_cases c13 : 0 ≤ x11_2
         ·rw [if_pos c13] at H
          have c13b0 : decide (0 ≤ x11_2) = true := decide_eq_true c13
          clear c13
          by_cases c14 : x11_2 < (l1.length : Int)
          ·rw [if_pos c14] at H
           have c14b0 : decide (x11_2 < (l1.length : Int)) = true := decide_eq_true c14
           clear c14
           by_cases c15 : (rd l1 x11_2) = x9_1
           ·rw [if_pos c15] at H
            have c15b0 : ((rd l1 x11_2) == x9_1) = true := beq_iff_eq.mpr c15
            have c15b1 : ((rd l1 x11_2) != x9_1) = false := bne_eq_false_iff_eq.mpr c15
            clear c15
            replace H := yaw.mp H
            obtain ⟨t511, A160, H⟩ := H
            replace H : (spec_l4Colour.l1 k2 l0 l1 a2 (l1.length : Int) x9_1 (t511 == 0) (wrap64 (x11_2 + 1))) = some (r1, r2) := H
            have A16 := zaa.mk A160
            clear A160
            have H' := zaa.mk H
            clear H
            have p510 : 0 ≤ (x11_2 : Int) := of_decide_eq_true (by assumption)
            have q510 : x11_2 < (l1.length : Int) := of_decide_eq_true (by assumption)
            obtain ⟨ad510, e510, hx510_0⟩ := Kd.at_int (Kd.R_reads' HO_1.out).2.2 x11_2 p510 q510
            cases e510
            replace p510 := eq_true p510
            replace q510 := eq_true q510
            go_wp2_with (first | (go_at_call 114; (with_reducible refine (spec_l4Beside.calls k2 _ _ l0 (l1.length : Int) x11_2 t511 _ ?side1 ?side2 A16.out).mono ?_); (case side1 => exact Kd.C_kept_now HR0.out (by repeat (first | (with_reducible first | exact HK.out | apply Kept.alloc | apply Kept.drewN | apply Kept.drew) | exact HK.out))); (case side2 => exact HC0.out); rintro e w17 ⟨rfl, hb⟩; have n0_ := zaa.mk (Kd.R_below (by (with_reducible repeat (first | apply yaz | apply yba | apply ybb)); exact HO_1.out) hb); have n1_ := zaa.mk (Kept.below (S := (fun k_ => P1_ k_)) (by repeat (first | (with_reducible first | exact HK.out | apply Kept.alloc | apply Kept.drewN | apply Kept.drew) | exact HK.out)) hb); have n2_ := zaa.mk (zae (by repeat (first | (with_reducible first | exact HB.out | apply zac | apply zab | apply zad) | exact HB.out)) hb); clear HO_1; clear HK; clear HB; have HO_1 := n0_; have HK := n1_; have HB := n2_; clear n0_ n1_ n2_; (try clear hb); (try clear hb2); (try clear hk); (try clear hi)))
            go_roundg k2
            case measure => have := HK1.out; have := HK2.out; omega
            case rel => exact ⟨((t511 == 0)), (wrap64 (x11_2 + 1)), (by first | rfl | (simp; done) | (simp [*]; done)), (by first | rfl | (simp; done) | (simp [*]; done)), H', ⟨by have := HK1.out; have := HK2.out; omega⟩, ⟨by (with_reducible repeat (first | apply yaz | apply yba | apply ybb)); exact HO_1.out⟩, ⟨by repeat (first | (with_reducible first | exact HK.out | apply Kept.alloc | apply Kept.drewN | apply Kept.drew) | exact HK.out)⟩, ⟨by repeat (first | (with_reducible first | exact HB.out | apply zac | apply zab | apply zad) | exact HB.out)⟩⟩
           ·rw [if_neg c15] at H
            have c15b0 : ((rd l1 x11_2) == x9_1) = false := beq_eq_false_iff_ne.mpr c15
            have c15b1 : ((rd l1 x11_2) != x9_1) = true := bne_iff_ne.mpr c15
            have H' := zaa.mk H
            clear H
            have p510 : 0 ≤ (x11_2 : Int) := of_decide_eq_true (by assumption)
            have q510 : x11_2 < (l1.length : Int) := of_decide_eq_true (by assumption)
            obtain ⟨ad510, e510, hx510_0⟩ := Kd.at_int (Kd.R_reads' HO_1.out).2.2 x11_2 p510 q510
            cases e510
            replace p510 := eq_true p510
            replace q510 := eq_true q510
            go_wp2
            go_roundg k2
            case measure => have := HK1.out; have := HK2.out; omega
            case rel => exact ⟨(true), (wrap64 (x11_2 + 1)), (by first | rfl | (simp; done) | (simp [*]; done)), (by first | rfl | (simp; done) | (simp [*]; done)), H', ⟨by have := HK1.out; have := HK2.out; omega⟩, ⟨by (with_reducible repeat (first | apply yaz | apply yba | apply ybb)); exact HO_1.out⟩, ⟨by repeat (first | (with_reducible first | exact HK.out | apply Kept.alloc | apply Kept.drewN | apply Kept.drew) | exact HK.out)⟩, ⟨by repeat (first | (with_reducible first | exact HB.out | apply zac | apply zab | apply zad) | exact HB.out)⟩⟩
          ·rw [if_neg c14] at H
           exact absurd H (by simp)
         ·rw [if_neg c13] at H
          exact absurd H (by simp)
        ·replace c12 := Bool.eq_false_iff.mpr c12
         subst c12
         have H1 : (spec_l4Colour.l1 k2 l0 l1 a2 (l1.length : Int) x9_1 false (wrap64 (x11_2 + 1))) = some (r1, r2) := by rw [if_neg (show ¬ (false = true) by decide)] at H; exact H
         clear H
         have H := H1
         clear H1
         have H' := zaa.mk H
         clear H
         go_wp2
         go_roundg k2
         case measure => have := HK1.out; have := HK2.out; omega
         case rel => exact ⟨(false), (wrap64 (x11_2 + 1)), (by first | rfl | (simp; done) | (simp [*]; done)), (by first | rfl | (simp; done) | (simp [*]; done)), H', ⟨by have := HK1.out; have := HK2.out; omega⟩, ⟨by (with_reducible repeat (first | apply yaz | apply yba | apply ybb)); exact HO_1.out⟩, ⟨by repeat (first | (with_reducible first | exact HK.out | apply Kept.alloc | apply Kept.drewN | apply Kept.drew) | exact HK.out)⟩, ⟨by repeat (first | (with_reducible first | exact HB.out | apply zac | apply zab | apply zad) | exact HB.out)⟩⟩
       ·rw [if_neg c11] at H
        have c11b0 : decide (x11_2 < (l1.length : Int)) = false := decide_eq_false c11
        clear c11
        by_cases c18 : x10_2 = true
        ·subst c18
         have H1 : ((some (([] : List Int) : List Int)).bind fun y512 => (if y512.length + l1.length < 17592186044416 then ((some (y512 ++ l1 : List Int)).bind fun y515 => (if y515.length < 17592186044416 then ((spec_l4Colour.f k2 l0 (y515 ++ [x9_1]) a2).bind fun bt521 => (if bt521.2 = true then (some (bt521.1, true)) else (spec_l4Colour.l0 k2 l0 l1 a2 (l1.length : Int) (wrap64 (x9_1 + 1))))) else (none))) else (none))) = some (r1, r2) := by rw [if_pos rfl] at H; exact H
         clear H
         have H := H1
         clear H1
         obtain ⟨y512, hy512⟩ : ∃ y_ : List Int, y_ = (([] : List Int)) := ⟨_, rfl⟩
         replace H : (if y512.length + l1.length < 17592186044416 then ((some (y512 ++ l1 : List Int)).bind fun y515 => (if y515.length < 17592186044416 then ((spec_l4Colour.f k2 l0 (y515 ++ [x9_1]) a2).bind fun bt521 => (if bt521.2 = true then (some (bt521.1, true)) else (spec_l4Colour.l0 k2 l0 l1 a2 (l1.length : Int) (wrap64 (x9_1 + 1))))) else (none))) else (none)) = some (r1, r2) := by first | (rw [hy512]; with_reducible exact H) | (have H2_ := (yax _ _).symm.trans H; rw [hy512]; with_reducible exact H2_) | (have H2_ := (yax _ _).symm.trans H; with_reducible exact H2_) | with_reducible exact H | (rw [hy512]; exact H) | exact H
         have Ny512 := zaa.mk hy512
         clear hy512
         by_cases c19 : y512.length + l1.length < 17592186044416
         ·rw [if_pos c19] at H
          have LMc19 := zaa.mk c19
          clear c19
          obtain ⟨y515, hy515⟩ : ∃ y_ : List Int, y_ = (y512 ++ l1) := ⟨_, rfl⟩
          replace H : (if y515.length < 17592186044416 then ((spec_l4Colour.f k2 l0 (y515 ++ [x9_1]) a2).bind fun bt521 => (if bt521.2 = true then (some (bt521.1, true)) else (spec_l4Colour.l0 k2 l0 l1 a2 (l1.length : Int) (wrap64 (x9_1 + 1))))) else (none)) = some (r1, r2) := by first | (rw [hy515]; with_reducible exact H) | (have H2_ := (yax _ _).symm.trans H; rw [hy515]; with_reducible exact H2_) | (have H2_ := (yax _ _).symm.trans H; with_reducible exact H2_) | with_reducible exact H | (rw [hy515]; exact H) | exact H
          have Ny515 := zaa.mk hy515
          clear hy515
          by_cases c20 : y515.length < 17592186044416
          ·rw [if_pos c20] at H
           have LMc20 := zaa.mk c20
           clear c20
           obtain ⟨y518, hy518⟩ : ∃ y_ : List Int, y_ = (y515 ++ [x9_1]) := ⟨_, rfl⟩
           replace H : ((spec_l4Colour.f k2 l0 y518 a2).bind fun bt521 => (if bt521.2 = true then (some (bt521.1, true)) else (spec_l4Colour.l0 k2 l0 l1 a2 (l1.length : Int) (wrap64 (x9_1 + 1))))) = some (r1, r2) := by first | (rw [hy518]; with_reducible exact H) | (have H2_ := (yax _ _).symm.trans H; rw [hy518]; with_reducible exact H2_) | (have H2_ := (yax _ _).symm.trans H; with_reducible exact H2_) | with_reducible exact H | (rw [hy518]; exact H) | exact H
           have Ny518 := zaa.mk hy518
           clear hy518
           replace H := yaw.mp H
           obtain ⟨⟨t521, t524⟩, A210, H⟩ := H
           replace H : (if t524 = true then (some (t521, true)) else (spec_l4Colour.l0 k2 l0 l1 a2 (l1.length : Int) (wrap64 (x9_1 + 1)))) = some (r1, r2) := H
           have A21 := zaa.mk A210
           clear A210
           by_cases c22 : t524 = true
           ·subst c22
            have H1 : (some (t521, true)) = some (r1, r2) := by rw [if_pos rfl] at H; exact H
            clear H
            have H := H1
            clear H1
            simp only [Option.some.injEq, Prod.mk.injEq] at H
            obtain ⟨rfl, rfl⟩ := H
            go_wp2_with (first | ((with_reducible refine zbb (N := 50) rfl ?_); refine Kd.R_lit (Kd.int .i64) _ 3 ?hg (N := 50) ?hd (xs := ([] : List Int)) (inner := []) (ok := fun _ => True) (okp := fun _ => True) ?hr ?hp (fun _ hk => hk) trivial (Below.refl _ _) (yay _) (by simp) ?_; (case hd => rfl); (case hg => rfl); (case hr => first | (go_simp; done) | (go_simp; rfl)); (case hp => exact (Reps.none _ _)); intro v513 w23 ho24 hb hg_ hnew_; clear hg_ hnew_; (first | rw [← Ny512.out] at ho24 | (simp only [Int.reduceToNat] at ho24; rw [← Ny512.out] at ho24)); have n0_ := zaa.mk (Kd.R_elder' (by (with_reducible repeat (first | apply yaz | apply yba | apply ybb)); exact HO_1.out) (Kd.R_base ho24) hb); have n1_ := zaa.mk (Kd.R_lower (Kd.R_new' (Kd.R_newM (M := fun k_ => (P1_ k_ ∨ w.heap.size ≤ k_)) ho24 (by first | exact HK.out.1 | exact (show Kept w _ (fun k_ => P1_ k_) from by repeat (first | (with_reducible first | exact HK.out | apply Kept.alloc | apply Kept.drewN | apply Kept.drew) | exact HK.out)).1) (fun k_ h_ => .inr h_)) (Kd.R_lt (by (with_reducible repeat (first | apply yaz | apply yba | apply ybb)); exact HO_1.out))) (zaq (by repeat (first | (with_reducible first | exact HB.out | apply zac | apply zab | apply zad) | exact HB.out)))); have n2_ := zaa.mk (Kept.below (S := (fun k_ => P1_ k_)) (by repeat (first | (with_reducible first | exact HK.out | apply Kept.alloc | apply Kept.drewN | apply Kept.drew) | exact HK.out)) hb); have n3_ := zaa.mk (zae (by repeat (first | (with_reducible first | exact HB.out | apply zac | apply zab | apply zad) | exact HB.out)) hb); clear HO_1; clear HK; clear HB; have HO_1 := n0_; have HO514 := n1_; have HK := n2_; have HB := n3_; clear n0_ n1_ n2_ n3_; clear hb ho24) | ((with_reducible refine zba (b := .append) (xs := #[.tmp 50, .tmp 51]) rfl ?_); at_builtin; refine Kd.R_append_rows (Kd.int .i64) (w0 := w0) w0.heap.size rfl (.tmp 50) (.tmp 51) 24 3 (.int .i64 0) 8 rfl Try.underlying24 info3 rfl (by decide) (by omega) v513 y512 l1 _ _ _ (fun k_ => (P1_ k_ ∨ w.heap.size ≤ k_) ∧ some k_ ≠ (.slice Ao8 l1.length co8 : Value).ownBlock) (fun _ => False) rfl rfl ?aO ?aR (fun _ _ h => h) (fun _ h => h.elim) ?aF ?aB ?aS ?aL ?_; (case aR => repeat (first | exact (Kd.R_reads' HO_1.out).2.2 | (with_reducible refine Kd.C_alloc ?_ _) | (with_reducible refine Kd.C_drewN ?_ _) | (with_reducible refine Kd.C_drew ?_))); (case aB => exact (by repeat (first | (with_reducible first | exact HB.out | apply zac | apply zab | apply zad) | exact HB.out))); (case aF => exact (fun k_ hk => ⟨(.inr (Nat.le_trans (by first | exact HK.out.1 | exact (show Kept w _ (fun k_ => P1_ k_) from by repeat (first | (with_reducible first | exact HK.out | apply Kept.alloc | apply Kept.drewN | apply Kept.drew) | exact HK.out)).1) hk)), Kd.fresh' (Kd.R_lt (by (with_reducible repeat (first | apply yaz | apply yba | apply ybb)); exact HO_1.out)) k_ hk⟩)); (case aO => exact (by (with_reducible repeat (first | apply yaz | apply yba | apply ybb)); exact Kd.R_mono HO514.out (fun _ hk => ⟨hk.1.1, hk.2⟩))); (case aS => exact (zaq (by repeat (first | (with_reducible first | exact HB.out | apply zac | apply zab | apply zad) | exact HB.out)))); (case aL => have := LMc19.out; omega); intro v516 w25 ho hb hg hat; rw [← Ny515.out] at ho; have n0_ := zaa.mk (Kd.R_after (ok := (fun k_ => (P1_ k_ ∨ w.heap.size ≤ k_))) (by (with_reducible repeat (first | apply yaz | apply yba | apply ybb)); exact HO_1.out) hg hat); have n1_ := zaa.mk (hb); have n2_ := zaa.mk (Kept.of_grown (S := (fun k_ => P1_ k_)) hg (by repeat (first | (with_reducible first | exact HK.out | apply Kept.alloc | apply Kept.drewN | apply Kept.drew) | exact HK.out)) (fun k_ e_ => (HO514.out.1 k_ e_).1.1)); have n3_ := zaa.mk (ho); clear HO_1; clear HB; clear HK; clear HO514; have HO_1 := n0_; have HB := n1_; have HK := n2_; have HO517 := n3_; clear n0_ n1_ n2_ n3_; clear ho hb hg hat) | ((with_reducible refine zba (b := .append) (xs := #[.tmp 52, .tmp 54]) rfl ?_); at_builtin; refine Kd.R_append (Kd.int .i64) (w0 := w0) w0.heap.size rfl (.tmp 52) (.tmp 54) 24 3 (.int .i64 0) 8 rfl Try.underlying24 info3 rfl (by decide) (by omega) v516 y515 x9_1 [.int .i64 x9_1] (fun k_ => (P1_ k_ ∨ w.heap.size ≤ k_) ∧ some k_ ≠ (.slice Ao8 l1.length co8 : Value).ownBlock) (fun _ => False) rfl rfl ?aP (fun _ hk => hk.elim) ?aF ?aO ?aB ?aS ?aL ?_; (case aP => exact rfl); (case aB => exact (by repeat (first | (with_reducible first | exact HB.out | apply zac | apply zab | apply zad) | exact HB.out))); (case aF => exact (fun k_ hk => ⟨(.inr (Nat.le_trans (by first | exact HK.out.1 | exact (show Kept w _ (fun k_ => P1_ k_) from by repeat (first | (with_reducible first | exact HK.out | apply Kept.alloc | apply Kept.drewN | apply Kept.drew) | exact HK.out)).1) hk)), Kd.fresh' (Kd.R_lt (by (with_reducible repeat (first | apply yaz | apply yba | apply ybb)); exact HO_1.out)) k_ hk⟩)); (case aO => exact (by (with_reducible repeat (first | apply yaz | apply yba | apply ybb)); exact HO517.out)); (case aS => exact (zaq (by repeat (first | (with_reducible first | exact HB.out | apply zac | apply zab | apply zad) | exact HB.out)))); (case aL => have := LMc20.out; omega); intro v519 w26 ho hb hg hat; rw [← Ny518.out] at ho; have n0_ := zaa.mk (Kd.R_after (ok := (fun k_ => (P1_ k_ ∨ w.heap.size ≤ k_))) (by (with_reducible repeat (first | apply yaz | apply yba | apply ybb)); exact HO_1.out) hg hat); have n1_ := zaa.mk (hb); have n2_ := zaa.mk (Kept.of_grown (S := (fun k_ => P1_ k_)) hg (by repeat (first | (with_reducible first | exact HK.out | apply Kept.alloc | apply Kept.drewN | apply Kept.drew) | exact HK.out)) (fun k_ e_ => (HO517.out.1 k_ e_).1)); have n3_ := zaa.mk (ho); clear HO_1; clear HB; clear HK; clear HO517; have HO_1 := n0_; have HB := n1_; have HK := n2_; have HO520 := n3_; clear n0_ n1_ n2_ n3_; clear ho hb hg hat; obtain ⟨Ao27, co27, eo27⟩ := Kd.R_slice HO520.out; subst eo27) | ((with_reducible refine zal (f := 100) rfl ?_); refine zbd (some 57) rfl rfl Try.func100 (by kernel_rfl) rfl #[.slice A0 l0.length c0, .slice Ao27 y518.length co27, .int .i64 a2] rfl (by (try simp only [yap, yaq, yar]); first | done | rfl | (simp only [yat, yas]; rfl)) ?_; (with_reducible refine (ih k2 (by have := HK1.out; have := HK2.out; omega) _ _ l0 (fun k_ => some k_ = (.slice Ao27 y518.length co27 : Value).ownBlock) (.slice Ao27 y518.length co27) y518 a2 t521 true w0 _ ?side1 ?side2 ?side3 ?side4 A21.out).mono ?_); (case side1 => repeat (first | (with_reducible first | exact HB.out | apply zac | apply zab | apply zad) | exact HB.out)); (case side2 => exact Kd.C_kept_call HR0.out (by repeat (first | (with_reducible first | exact HK.out | apply Kept.alloc | apply Kept.drewN | apply Kept.drew) | exact HK.out)) (fun k_ hs_ => (fun e_ => (HO520.out.1 k_ e_.symm).1) hs_)); (case side3 => exact HC0.out); (case side4 => exact Kd.R_tight rfl HO520.out); rintro e w28 ⟨v522, rfl, ho0, hb, hkp⟩; refine ⟨_, rfl, ?_⟩; have n0_ := zaa.mk (Kd.R_mono (ok' := fun k_ => (P1_ k_ ∨ w.heap.size ≤ k_) ∧ some k_ ≠ (v522 : Value).ownBlock) (Kd.R_keptB (HO_1.out) hkp (fun k_ hk_ hs_ => (hk_.2) hs_)) (fun k_ hk_ => ⟨hk_.1.1, fun e_ => Or.elim (ho0.1 k_ e_.symm) (fun hs_ => hk_.2.1 hs_) (fun hn_ => Nat.not_le.2 hk_.2.2 hn_)⟩)); have n1_ := zaa.mk (Kd.R_mono (ok' := fun k_ => (P1_ k_ ∨ w.heap.size ≤ k_) ∧ some k_ ≠ (.slice Ao8 l1.length co8 : Value).ownBlock) ho0 (fun k_ hk_ => ⟨Or.elim hk_ (fun hs_ => (HO520.out.1 k_ (hs_).symm).1) (fun hn_ => (.inr (Nat.le_trans (by first | exact HK.out.1 | exact (show Kept w _ (fun k_ => P1_ k_) from by repeat (first | (with_reducible first | exact HK.out | apply Kept.alloc | apply Kept.drewN | apply Kept.drew) | exact HK.out)).1) hn_))), Or.elim hk_ (fun hs_ => fun e_ => (((HO_1.out).1 k_ e_.symm).2) hs_) (fun hn_ => (Kd.fresh' (Kd.R_lt (by (with_reducible repeat (first | apply yaz | apply yba | apply ybb)); exact HO_1.out)) k_ hn_))⟩)); have n2_ := zaa.mk (Kept.then_ (S := (fun k_ => P1_ k_)) (by repeat (first | (with_reducible first | exact HK.out | apply Kept.alloc | apply Kept.drewN | apply Kept.drew) | exact HK.out)) hkp (fun k_ hs_ => (fun e_ => (HO520.out.1 k_ e_.symm).1) hs_)); have n3_ := zaa.mk (hb); clear HO_1; clear HK; clear HB; clear HO520; have HO_1 := n0_; have HO523 := n1_; have HK := n2_; have HB := n3_; clear n0_ n1_ n2_ n3_; (try clear hb); (try clear hkp); (try clear ho0)))
            go_ret2
            exact ⟨_, by first | rfl | (simp [zao, zan] <;> rfl) | (simp [*, zao, zan] <;> rfl), by (with_reducible repeat (first | apply yaz | apply yba | apply ybb)); exact Kd.R_mono HO523.out (fun _ hk => hk.1), by repeat (first | (with_reducible first | exact HB.out | apply zac | apply zab | apply zad) | exact HB.out), by repeat (first | (with_reducible first | exact HK.out | apply Kept.alloc | apply Kept.drewN | apply Kept.drew) | exact HK.out)⟩
           ·replace c22 := Bool.eq_false_iff.mpr c22
            subst c22
            have H1 : (spec_l4Colour.l0 k2 l0 l1 a2 (l1.length : Int) (wrap64 (x9_1 + 1))) = some (r1, r2) := by rw [if_neg (show ¬ (false = true) by decide)] at H; exact H
            clear H
            have H := H1
            clear H1
            have H' := zaa.mk H
            clear H
            go_wp2_with (first | ((with_reducible refine zbb (N := 50) rfl ?_); refine Kd.R_lit (Kd.int .i64) _ 3 ?hg (N := 50) ?hd (xs := ([] : List Int)) (inner := []) (ok := fun _ => True) (okp := fun _ => True) ?hr ?hp (fun _ hk => hk) trivial (Below.refl _ _) (yay _) (by simp) ?_; (case hd => rfl); (case hg => rfl); (case hr => first | (go_simp; done) | (go_simp; rfl)); (case hp => exact (Reps.none _ _)); intro v513 w29 ho30 hb hg_ hnew_; clear hg_ hnew_; (first | rw [← Ny512.out] at ho30 | (simp only [Int.reduceToNat] at ho30; rw [← Ny512.out] at ho30)); have n0_ := zaa.mk (Kd.R_elder' (by (with_reducible repeat (first | apply yaz | apply yba | apply ybb)); exact HO_1.out) (Kd.R_base ho30) hb); have n1_ := zaa.mk (Kd.R_lower (Kd.R_new' (Kd.R_newM (M := fun k_ => (P1_ k_ ∨ w.heap.size ≤ k_)) ho30 (by first | exact HK.out.1 | exact (show Kept w _ (fun k_ => P1_ k_) from by repeat (first | (with_reducible first | exact HK.out | apply Kept.alloc | apply Kept.drewN | apply Kept.drew) | exact HK.out)).1) (fun k_ h_ => .inr h_)) (Kd.R_lt (by (with_reducible repeat (first | apply yaz | apply yba | apply ybb)); exact HO_1.out))) (zaq (by repeat (first | (with_reducible first | exact HB.out | apply zac | apply zab | apply zad) | exact HB.out)))); have n2_ := zaa.mk (Kept.below (S := (fun k_ => P1_ k_)) (by repeat (first | (with_reducible first | exact HK.out | apply Kept.alloc | apply Kept.drewN | apply Kept.drew) | exact HK.out)) hb); have n3_ := zaa.mk (zae (by repeat (first | (with_reducible first | exact HB.out | apply zac | apply zab | apply zad) | exact HB.out)) hb); clear HO_1; clear HK; clear HB; have HO_1 := n0_; have HO514 := n1_; have HK := n2_; have HB := n3_; clear n0_ n1_ n2_ n3_; clear hb ho30) | ((with_reducible refine zba (b := .append) (xs := #[.tmp 50, .tmp 51]) rfl ?_); at_builtin; refine Kd.R_append_rows (Kd.int .i64) (w0 := w0) w0.heap.size rfl (.tmp 50) (.tmp 51) 24 3 (.int .i64 0) 8 rfl Try.underlying24 info3 rfl (by decide) (by omega) v513 y512 l1 _ _ _ (fun k_ => (P1_ k_ ∨ w.heap.size ≤ k_) ∧ some k_ ≠ (.slice Ao8 l1.length co8 : Value).ownBlock) (fun _ => False) rfl rfl ?aO ?aR (fun _ _ h => h) (fun _ h => h.elim) ?aF ?aB ?aS ?aL ?_; (case aR => repeat (first | exact (Kd.R_reads' HO_1.out).2.2 | (with_reducible refine Kd.C_alloc ?_ _) | (with_reducible refine Kd.C_drewN ?_ _) | (with_reducible refine Kd.C_drew ?_))); (case aB => exact (by repeat (first | (with_reducible first | exact HB.out | apply zac | apply zab | apply zad) | exact HB.out))); (case aF => exact (fun k_ hk => ⟨(.inr (Nat.le_trans (by first | exact HK.out.1 | exact (show Kept w _ (fun k_ => P1_ k_) from by repeat (first | (with_reducible first | exact HK.out | apply Kept.alloc | apply Kept.drewN | apply Kept.drew) | exact HK.out)).1) hk)), Kd.fresh' (Kd.R_lt (by (with_reducible repeat (first | apply yaz | apply yba | apply ybb)); exact HO_1.out)) k_ hk⟩)); (case aO => exact (by (with_reducible repeat (first | apply yaz | apply yba | apply ybb)); exact Kd.R_mono HO514.out (fun _ hk => ⟨hk.1.1, hk.2⟩))); (case aS => exact (zaq (by repeat (first | (with_reducible first | exact HB.out | apply zac | apply zab | apply zad) | exact HB.out)))); (case aL => have := LMc19.out; omega); intro v516 w31 ho hb hg hat; rw [← Ny515.out] at ho; have n0_ := zaa.mk (Kd.R_after (ok := (fun k_ => (P1_ k_ ∨ w.heap.size ≤ k_))) (by (with_reducible repeat (first | apply yaz | apply yba | apply ybb)); exact HO_1.out) hg hat); have n1_ := zaa.mk (hb); have n2_ := zaa.mk (Kept.of_grown (S := (fun k_ => P1_ k_)) hg (by repeat (first | (with_reducible first | exact HK.out | apply Kept.alloc | apply Kept.drewN | apply Kept.drew) | exact HK.out)) (fun k_ e_ => (HO514.out.1 k_ e_).1.1)); have n3_ := zaa.mk (ho); clear HO_1; clear HB; clear HK; clear HO514; have HO_1 := n0_; have HB := n1_; have HK := n2_; have HO517 := n3_; clear n0_ n1_ n2_ n3_; clear ho hb hg hat) | ((with_reducible refine zba (b := .append) (xs := #[.tmp 52, .tmp 54]) rfl ?_); at_builtin; refine Kd.R_append (Kd.int .i64) (w0 := w0) w0.heap.size rfl (.tmp 52) (.tmp 54) 24 3 (.int .i64 0) 8 rfl Try.underlying24 info3 rfl (by decide) (by omega) v516 y515 x9_1 [.int .i64 x9_1] (fun k_ => (P1_ k_ ∨ w.heap.size ≤ k_) ∧ some k_ ≠ (.slice Ao8 l1.length co8 : Value).ownBlock) (fun _ => False) rfl rfl ?aP (fun _ hk => hk.elim) ?aF ?aO ?aB ?aS ?aL ?_; (case aP => exact rfl); (case aB => exact (by repeat (first | (with_reducible first | exact HB.out | apply zac | apply zab | apply zad) | exact HB.out))); (case aF => exact (fun k_ hk => ⟨(.inr (Nat.le_trans (by first | exact HK.out.1 | exact (show Kept w _ (fun k_ => P1_ k_) from by repeat (first | (with_reducible first | exact HK.out | apply Kept.alloc | apply Kept.drewN | apply Kept.drew) | exact HK.out)).1) hk)), Kd.fresh' (Kd.R_lt (by (with_reducible repeat (first | apply yaz | apply yba | apply ybb)); exact HO_1.out)) k_ hk⟩)); (case aO => exact (by (with_reducible repeat (first | apply yaz | apply yba | apply ybb)); exact HO517.out)); (case aS => exact (zaq (by repeat (first | (with_reducible first | exact HB.out | apply zac | apply zab | apply zad) | exact HB.out)))); (case aL => have := LMc20.out; omega); intro v519 w32 ho hb hg hat; rw [← Ny518.out] at ho; have n0_ := zaa.mk (Kd.R_after (ok := (fun k_ => (P1_ k_ ∨ w.heap.size ≤ k_))) (by (with_reducible repeat (first | apply yaz | apply yba | apply ybb)); exact HO_1.out) hg hat); have n1_ := zaa.mk (hb); have n2_ := zaa.mk (Kept.of_grown (S := (fun k_ => P1_ k_)) hg (by repeat (first | (with_reducible first | exact HK.out | apply Kept.alloc | apply Kept.drewN | apply Kept.drew) | exact HK.out)) (fun k_ e_ => (HO517.out.1 k_ e_).1)); have n3_ := zaa.mk (ho); clear HO_1; clear HB; clear HK; clear HO517; have HO_1 := n0_; have HB := n1_; have HK := n2_; have HO520 := n3_; clear n0_ n1_ n2_ n3_; clear ho hb hg hat; obtain ⟨Ao33, co33, eo33⟩ := Kd.R_slice HO520.out; subst eo33) | ((with_reducible refine zal (f := 100) rfl ?_); refine zbd (some 57) rfl rfl Try.func100 (by kernel_rfl) rfl #[.slice A0 l0.length c0, .slice Ao33 y518.length co33, .int .i64 a2] rfl (by (try simp only [yap, yaq, yar]); first | done | rfl | (simp only [yat, yas]; rfl)) ?_; (with_reducible refine (ih k2 (by have := HK1.out; have := HK2.out; omega) _ _ l0 (fun k_ => some k_ = (.slice Ao33 y518.length co33 : Value).ownBlock) (.slice Ao33 y518.length co33) y518 a2 t521 false w0 _ ?side1 ?side2 ?side3 ?side4 A21.out).mono ?_); (case side1 => repeat (first | (with_reducible first | exact HB.out | apply zac | apply zab | apply zad) | exact HB.out)); (case side2 => exact Kd.C_kept_call HR0.out (by repeat (first | (with_reducible first | exact HK.out | apply Kept.alloc | apply Kept.drewN | apply Kept.drew) | exact HK.out)) (fun k_ hs_ => (fun e_ => (HO520.out.1 k_ e_.symm).1) hs_)); (case side3 => exact HC0.out); (case side4 => exact Kd.R_tight rfl HO520.out); rintro e w34 ⟨v522, rfl, ho0, hb, hkp⟩; refine ⟨_, rfl, ?_⟩; have n0_ := zaa.mk (Kd.R_mono (ok' := fun k_ => (P1_ k_ ∨ w.heap.size ≤ k_) ∧ some k_ ≠ (v522 : Value).ownBlock) (Kd.R_keptB (HO_1.out) hkp (fun k_ hk_ hs_ => (hk_.2) hs_)) (fun k_ hk_ => ⟨hk_.1.1, fun e_ => Or.elim (ho0.1 k_ e_.symm) (fun hs_ => hk_.2.1 hs_) (fun hn_ => Nat.not_le.2 hk_.2.2 hn_)⟩)); have n1_ := zaa.mk (Kd.R_mono (ok' := fun k_ => (P1_ k_ ∨ w.heap.size ≤ k_) ∧ some k_ ≠ (.slice Ao8 l1.length co8 : Value).ownBlock) ho0 (fun k_ hk_ => ⟨Or.elim hk_ (fun hs_ => (HO520.out.1 k_ (hs_).symm).1) (fun hn_ => (.inr (Nat.le_trans (by first | exact HK.out.1 | exact (show Kept w _ (fun k_ => P1_ k_) from by repeat (first | (with_reducible first | exact HK.out | apply Kept.alloc | apply Kept.drewN | apply Kept.drew) | exact HK.out)).1) hn_))), Or.elim hk_ (fun hs_ => fun e_ => (((HO_1.out).1 k_ e_.symm).2) hs_) (fun hn_ => (Kd.fresh' (Kd.R_lt (by (with_reducible repeat (first | apply yaz | apply yba | apply ybb)); exact HO_1.out)) k_ hn_))⟩)); have n2_ := zaa.mk (Kept.then_ (S := (fun k_ => P1_ k_)) (by repeat (first | (with_reducible first | exact HK.out | apply Kept.alloc | apply Kept.drewN | apply Kept.drew) | exact HK.out)) hkp (fun k_ hs_ => (fun e_ => (HO520.out.1 k_ e_.symm).1) hs_)); have n3_ := zaa.mk (hb); clear HO_1; clear HK; clear HB; clear HO520; have HO_1 := n0_; have HO523 := n1_; have HK := n2_; have HB := n3_; clear n0_ n1_ n2_ n3_; (try clear hb); (try clear hkp); (try clear ho0)))
            go_roundg k2
            case measure => have := HK1.out; have := HK2.out; omega
            case rel => exact ⟨(wrap64 (x9_1 + 1)), (by first | rfl | (simp; done) | (simp [*]; done)), H', ⟨by have := HK1.out; have := HK2.out; omega⟩, ⟨by (with_reducible repeat (first | apply yaz | apply yba | apply ybb)); exact Kd.R_mono HO_1.out (fun _ hk => hk.1)⟩, ⟨by repeat (first | (with_reducible first | exact HK.out | apply Kept.alloc | apply Kept.drewN | apply Kept.drew) | exact HK.out)⟩, ⟨by repeat (first | (with_reducible first | exact HB.out | apply zac | apply zab | apply zad) | exact HB.out)⟩⟩
          ·rw [if_neg c20] at H
           exact absurd H (by simp)
         ·rw [if_neg c19] at H
          exact absurd H (by simp)
        ·replace c18 := Bool.eq_false_iff.mpr c18
         subst c18
         have H1 : (spec_l4Colour.l0 k2 l0 l1 a2 (l1.length : Int) (wrap64 (x9_1 + 1))) = some (r1, r2) := by rw [if_neg (show ¬ (false = true) by decide)] at H; exact H
         clear H
         have H := H1
         clear H1
         have H' := zaa.mk H
         clear H
         go_wp2
         go_roundg k2
         case measure => have := HK1.out; have := HK2.out; omega
         case rel => exact ⟨(wrap64 (x9_1 + 1)), (by first | rfl | (simp; done) | (simp [*]; done)), H', ⟨by have := HK1.out; have := HK2.out; omega⟩, ⟨by (with_reducible repeat (first | apply yaz | apply yba | apply ybb)); exact HO_1.out⟩, ⟨by repeat (first | (with_reducible first | exact HK.out | apply Kept.alloc | apply Kept.drewN | apply Kept.drew) | exact HK.out)⟩, ⟨by repeat (first | (with_reducible first | exact HB.out | apply zac | apply zab | apply zad) | exact HB.out)⟩⟩
    ·rw [if_neg c10] at H
     have c10b0 : decide (x9_1 < a2) = false := decide_eq_false c10
     clear c10
     obtain ⟨y507, hy507⟩ : ∃ y_ : List Int, y_ = (([] : List Int)) := ⟨_, rfl⟩
     replace H : (some (y507, false)) = some (r1, r2) := by first | (rw [hy507]; with_reducible exact H) | (have H2_ := (yax _ _).symm.trans H; rw [hy507]; with_reducible exact H2_) | (have H2_ := (yax _ _).symm.trans H; with_reducible exact H2_) | with_reducible exact H | (rw [hy507]; exact H) | exact H
     have Ny507 := zaa.mk hy507
     clear hy507
     simp only [Option.some.injEq, Prod.mk.injEq] at H
     obtain ⟨rfl, rfl⟩ := H
     go_wp2_with (first | ((with_reducible refine zbb (N := 62) rfl ?_); refine Kd.R_lit (Kd.int .i64) _ 3 ?hg (N := 62) ?hd (xs := ([] : List Int)) (inner := []) (ok := fun _ => True) (okp := fun _ => True) ?hr ?hp (fun _ hk => hk) trivial (Below.refl _ _) (yay _) (by simp) ?_; (case hd => rfl); (case hg => rfl); (case hr => first | (go_simp; done) | (go_simp; rfl)); (case hp => exact (Reps.none _ _)); intro v508 w35 ho36 hb hg_ hnew_; clear hg_ hnew_; (first | rw [← Ny507.out] at ho36 | (simp only [Int.reduceToNat] at ho36; rw [← Ny507.out] at ho36)); have n0_ := zaa.mk (Kd.R_elder' (by (with_reducible repeat (first | apply yaz | apply yba | apply ybb)); exact HO_1.out) (Kd.R_base ho36) hb); have n1_ := zaa.mk (Kd.R_lower (Kd.R_new' (Kd.R_newM (M := fun k_ => (P1_ k_ ∨ w.heap.size ≤ k_)) ho36 (by first | exact HK.out.1 | exact (show Kept w _ (fun k_ => P1_ k_) from by repeat (first | (with_reducible first | exact HK.out | apply Kept.alloc | apply Kept.drewN | apply Kept.drew) | exact HK.out)).1) (fun k_ h_ => .inr h_)) (Kd.R_lt (by (with_reducible repeat (first | apply yaz | apply yba | apply ybb)); exact HO_1.out))) (zaq (by repeat (first | (with_reducible first | exact HB.out | apply zac | apply zab | apply zad) | exact HB.out)))); have n2_ := zaa.mk (Kept.below (S := (fun k_ => P1_ k_)) (by repeat (first | (with_reducible first | exact HK.out | apply Kept.alloc | apply Kept.drewN | apply Kept.drew) | exact HK.out)) hb); have n3_ := zaa.mk (zae (by repeat (first | (with_reducible first | exact HB.out | apply zac | apply zab | apply zad) | exact HB.out)) hb); clear HO_1; clear HK; clear HB; have HO_1 := n0_; have HO509 := n1_; have HK := n2_; have HB := n3_; clear n0_ n1_ n2_ n3_; clear hb ho36))
     go_ret2
     exact ⟨_, by first | rfl | (simp [zao, zan] <;> rfl) | (simp [*, zao, zan] <;> rfl), by (with_reducible repeat (first | apply yaz | apply yba | apply ybb)); exact Kd.R_mono HO509.out (fun _ hk => hk.1.1), by repeat (first | (with_reducible first | exact HB.out | apply zac | apply zab | apply zad) | exact HB.out), by repeat (first | (with_reducible first | exact HK.out | apply Kept.alloc | apply Kept.drewN | apply Kept.drew) | exact HK.out)⟩
end Go.Proofs.Ytickdcegnlldjaa.PB
namespace Go.Proofs.Ytickdcegnlldjaa.PB
open Go.RowKit Go.PW.PrintWords Go.PW.PrintLast Go.PW.PrintMore
attribute [local go_sem] zby zbw zcl zck zbq zbp zbx zbv   -- for this text's walks alone
def spec_l4Least.l0 : Nat → List ByteArray → Int → List Int → Bool → Option (Int × List Int)
 | 0, _, _, _, _ => none
 | k + 1, x0, x4, x5, x6 => if x6 = true then (some (x4, x5)) else ((spec_l4Colour.f k x0 (([] : List Int)) (wrap64 (x4 + 1))).bind fun bt535 => (spec_l4Least.l0 k x0 (wrap64 (x4 + 1)) bt535.1 bt535.2))
def spec_l4Least.f (k : Nat) (l0 : List ByteArray) : Option (Int × List Int) := (spec_l4Colour.f k l0 (([] : List Int)) 1).bind fun bt528 => (spec_l4Least.l0 k l0 1 bt528.1 bt528.2)
set_option maxHeartbeats 8000000 in
set_option maxRecDepth 100000 in
theorem spec_l4Least.calls (k : Nat) (A0 : Option Addr) (c0 : Nat) (l0 : List ByteArray) (r1 : Int) (r2 : List Int) (w : World) (hr0 : Kd.C Kd.string w A0 l0.length l0) (hc0 : l0.length ≤ c0) (h : spec_l4Least.f k l0 = some (r1, r2)) :
  Calls Try.prog 79 #[.slice A0 l0.length c0] w fun e w' => ∃ v1_ : Value, e = .returned (.tuple #[.int .i64 r1, v1_]) ∧ Kd.R (Kd.int .i64) 3 w' w.heap.size (fun _ => True) v1_ r2 ∧ Below w.heap.size w w' := by
 have HR0 := zaa.mk hr0
 have HC0 := zaa.mk hc0
 clear hr0 hc0
 have HB := zaa.mk (Below.refl w.heap.size w)
 have H : ((spec_l4Colour.f k l0 (([] : List Int)) 1).bind fun bt528 => (spec_l4Least.l0 k l0 1 bt528.1 bt528.2)) = some (r1, r2) := h
 clear h
 obtain ⟨y525, hy525⟩ : ∃ y_ : List Int, y_ = (([] : List Int)) := ⟨_, rfl⟩
 replace H : ((spec_l4Colour.f k l0 y525 1).bind fun bt528 => (spec_l4Least.l0 k l0 1 bt528.1 bt528.2)) = some (r1, r2) := by first | (rw [hy525]; with_reducible exact H) | (have H2_ := (yax _ _).symm.trans H; rw [hy525]; with_reducible exact H2_) | (have H2_ := (yax _ _).symm.trans H; with_reducible exact H2_) | with_reducible exact H | (rw [hy525]; exact H) | exact H
 have Ny525 := zaa.mk hy525
 clear hy525
 replace H := yaw.mp H
 obtain ⟨⟨t528, t531⟩, A20, H⟩ := H
 replace H : (spec_l4Least.l0 k l0 1 t528 t531) = some (r1, r2) := H
 have A2 := zaa.mk A20
 clear A20
 have H' := zaa.mk H
 clear H
 go_enter Try.func79, Try.ntmps79
 go_wp2_with (first | ((with_reducible refine zbb (N := 9) rfl ?_); refine Kd.R_lit (Kd.int .i64) _ 3 ?hg (N := 9) ?hd (xs := ([] : List Int)) (inner := []) (ok := fun _ => True) (okp := fun _ => True) ?hr ?hp (fun _ hk => hk) trivial (Below.refl _ _) (yay _) (by simp) ?_; (case hd => rfl); (case hg => rfl); (case hr => first | (go_simp; done) | (go_simp; rfl)); (case hp => exact (Reps.none _ _)); intro v526 w3 ho4 hb hg_ hnew_; clear hg_ hnew_; (first | rw [← Ny525.out] at ho4 | (simp only [Int.reduceToNat] at ho4; rw [← Ny525.out] at ho4)); have n0_ := zaa.mk (Kd.R_lower ho4 (zaq (by repeat (first | (with_reducible first | exact HB.out | apply zac | apply zab | apply zad) | exact HB.out)))); have n1_ := zaa.mk (zae (by repeat (first | (with_reducible first | exact HB.out | apply zac | apply zab | apply zad) | exact HB.out)) hb); clear HB; have HO527 := n0_; have HB := n1_; clear n0_ n1_; clear hb ho4; obtain ⟨Ao5, co5, eo5⟩ := Kd.R_slice HO527.out; subst eo5) | ((with_reducible refine zal (f := 100) rfl ?_); refine zbd (some 11) rfl rfl Try.func100 (by kernel_rfl) rfl #[.slice A0 l0.length c0, .slice Ao5 y525.length co5, .int .i64 1] rfl (by (try simp only [yap, yaq, yar]); first | done | rfl | (simp only [yat, yas]; rfl)) ?_; (with_reducible refine (spec_l4Colour.calls k _ _ l0 (fun k_ => some k_ = (.slice Ao5 y525.length co5 : Value).ownBlock) (.slice Ao5 y525.length co5) y525 1 t528 t531 w _ ?side1 ?side2 ?side3 ?side4 A2.out).mono ?_); (case side1 => repeat (first | (with_reducible first | exact HB.out | apply zac | apply zab | apply zad) | exact HB.out)); (case side2 => exact Kd.C_kept_came Kd.heap_string HR0.out (by repeat (first | (with_reducible first | exact HB.out | apply zac | apply zab | apply zad) | exact HB.out)) (fun k_ hs_ => (fun e_ => Kd.R_base HO527.out k_ e_.symm) hs_)); (case side3 => exact HC0.out); (case side4 => exact Kd.R_tight rfl HO527.out); rintro e w6 ⟨v529, rfl, ho0, hb, hkp⟩; refine ⟨_, rfl, ?_⟩; have n0_ := zaa.mk (Kd.R_mono (ok' := fun k_ => True) ho0 (fun k_ hk_ => trivial)); have n1_ := zaa.mk (hb); clear HB; clear HO527; have HO530 := n0_; have HB := n1_; clear n0_ n1_; (try clear hb); (try clear hkp); (try clear ho0)))
 go_loopg [4, 5, 6] k (fun kq v4 v5 v6 w' => ∃ (x4_1 : Int) (x5_1 : List Int) (x6_1 : Bool), v4 = .int .i64 x4_1 ∧ v6 = .bool x6_1 ∧ zaa (spec_l4Least.l0 kq l0 x4_1 x5_1 x6_1 = some (r1, r2)) ∧ zaa (kq ≤ k) ∧ zaa (Kd.R (Kd.int .i64) 3 w' w.heap.size (fun _ => True) v5 x5_1) ∧ zaa (Below w.heap.size w w'))
 case atStart => exact ⟨(1), (t528), (t531), (by first | rfl | (simp; done) | (simp [*]; done)), (by first | rfl | (simp; done) | (simp [*]; done)), H', ⟨yay _⟩, ⟨by (with_reducible repeat (first | apply yaz | apply yba | apply ybb)); exact HO530.out⟩, ⟨by repeat (first | (with_reducible first | exact HB.out | apply zac | apply zab | apply zad) | exact HB.out)⟩⟩
 case round =>
  clear H'
  try clear c1
  try clear p2
  obtain ⟨x4_1, x5_1, x6_1, rfl, rfl, HA, HK1, HO_5, HB⟩ := hrel
  cases gk with
  | zero => exact absurd HA.out (by simp [spec_l4Least.l0])
  | succ k1 =>
   have H := HA.out
   clear HA
   simp only [spec_l4Least.l0] at H
   by_cases c7 : x6_1 = true
   ·subst c7
    have H1 : (some (x4_1, x5_1)) = some (r1, r2) := by rw [if_pos rfl] at H; exact H
    clear H
    have H := H1
    clear H1
    simp only [Option.some.injEq, Prod.mk.injEq] at H
    obtain ⟨rfl, rfl⟩ := H
    go_wp2
    go_ret2
    exact ⟨_, by first | rfl | (simp [zao, zan] <;> rfl) | (simp [*, zao, zan] <;> rfl), by (with_reducible repeat (first | apply yaz | apply yba | apply ybb)); exact HO_5.out, by repeat (first | (with_reducible first | exact HB.out | apply zac | apply zab | apply zad) | exact HB.out)⟩
   ·replace c7 := Bool.eq_false_iff.mpr c7
    subst c7
    have H1 : ((spec_l4Colour.f k1 l0 (([] : List Int)) (wrap64 (x4_1 + 1))).bind fun bt535 => (spec_l4Least.l0 k1 l0 (wrap64 (x4_1 + 1)) bt535.1 bt535.2)) = some (r1, r2) := by rw [if_neg (show ¬ (false = true) by decide)] at H; exact H
    clear H
    have H := H1
    clear H1
    obtain ⟨y532, hy532⟩ : ∃ y_ : List Int, y_ = (([] : List Int)) := ⟨_, rfl⟩
    replace H : ((spec_l4Colour.f k1 l0 y532 (wrap64 (x4_1 + 1))).bind fun bt535 => (spec_l4Least.l0 k1 l0 (wrap64 (x4_1 + 1)) bt535.1 bt535.2)) = some (r1, r2) := by first | (rw [hy532]; with_reducible exact H) | (have H2_ := (yax _ _).symm.trans H; rw [hy532]; with_reducible exact H2_) | (have H2_ := (yax _ _).symm.trans H; with_reducible exact H2_) | with_reducible exact H | (rw [hy532]; exact H) | exact H
    have Ny532 := zaa.mk hy532
    clear hy532
    replace H := yaw.mp H
    obtain ⟨⟨t535, t538⟩, A80, H⟩ := H
    replace H : (spec_l4Least.l0 k1 l0 (wrap64 (x4_1 + 1)) t535 t538) = some (r1, r2) := H
    have A8 := zaa.mk A80
    clear A80
    have H' := zaa.mk H
    clear H
    go_wp2_with (first | ((with_reducible refine zbb (N := 20) rfl ?_); refine Kd.R_lit (Kd.int .i64) _ 3 ?hg (N := 20) ?hd (xs := ([] : List Int)) (inner := []) (ok := fun _ => True) (okp := fun _ => True) ?hr ?hp (fun _ hk => hk) trivial (Below.refl _ _) (yay _) (by simp) ?_; (case hd => rfl); (case hg => rfl); (case hr => first | (go_simp; done) | (go_simp; rfl)); (case hp => exact (Reps.none _ _)); intro v533 w9 ho10 hb hg_ hnew_; clear hg_ hnew_; (first | rw [← Ny532.out] at ho10 | (simp only [Int.reduceToNat] at ho10; rw [← Ny532.out] at ho10)); have n0_ := zaa.mk (Kd.R_elder' (by (with_reducible repeat (first | apply yaz | apply yba | apply ybb)); exact HO_5.out) (Kd.R_base ho10) hb); have n1_ := zaa.mk (Kd.R_lower (Kd.R_new' ho10 (Kd.R_lt (by (with_reducible repeat (first | apply yaz | apply yba | apply ybb)); exact HO_5.out))) (zaq (by repeat (first | (with_reducible first | exact HB.out | apply zac | apply zab | apply zad) | exact HB.out)))); have n2_ := zaa.mk (zae (by repeat (first | (with_reducible first | exact HB.out | apply zac | apply zab | apply zad) | exact HB.out)) hb); clear HO_5; clear HB; have HO_5 := n0_; have HO534 := n1_; have HB := n2_; clear n0_ n1_ n2_; clear hb ho10; obtain ⟨Ao11, co11, eo11⟩ := Kd.R_slice HO534.out; subst eo11) | ((with_reducible refine zal (f := 100) rfl ?_); refine zbd (some 22) rfl rfl Try.func100 (by kernel_rfl) rfl #[.slice A0 l0.length c0, .slice Ao11 y532.length co11, .int .i64 (wrap64 (x4_1 + 1))] rfl (by (try simp only [yap, yaq, yar]); first | done | rfl | (simp only [yat, yas]; rfl)) ?_; (with_reducible refine (spec_l4Colour.calls k1 _ _ l0 (fun k_ => some k_ = (.slice Ao11 y532.length co11 : Value).ownBlock) (.slice Ao11 y532.length co11) y532 (wrap64 (x4_1 + 1)) t535 t538 w _ ?side1 ?side2 ?side3 ?side4 A8.out).mono ?_); (case side1 => repeat (first | (with_reducible first | exact HB.out | apply zac | apply zab | apply zad) | exact HB.out)); (case side2 => exact Kd.C_kept_came Kd.heap_string HR0.out (by repeat (first | (with_reducible first | exact HB.out | apply zac | apply zab | apply zad) | exact HB.out)) (fun k_ hs_ => (fun e_ => Kd.R_base HO534.out k_ e_.symm) hs_)); (case side3 => exact HC0.out); (case side4 => exact Kd.R_tight rfl HO534.out); rintro e w12 ⟨v536, rfl, ho0, hb, hkp⟩; refine ⟨_, rfl, ?_⟩; have n0_ := zaa.mk (Kd.R_mono (ok' := fun k_ => some k_ ≠ (v536 : Value).ownBlock) (Kd.R_keptB (HO_5.out) hkp (fun k_ hk_ hs_ => (hk_.2) hs_)) (fun k_ hk_ => fun e_ => Or.elim (ho0.1 k_ e_.symm) (fun hs_ => hk_.2.1 hs_) (fun hn_ => Nat.not_le.2 hk_.2.2 hn_))); have n1_ := zaa.mk (Kd.R_mono (ok' := fun k_ => some k_ ≠ (u5 : Value).ownBlock) ho0 (fun k_ hk_ => Or.elim hk_ (fun hs_ => fun e_ => (((HO_5.out).1 k_ e_.symm).2) hs_) (fun hn_ => (Kd.fresh' (Kd.R_lt (by (with_reducible repeat (first | apply yaz | apply yba | apply ybb)); exact HO_5.out)) k_ hn_)))); have n2_ := zaa.mk (hb); clear HO_5; clear HB; clear HO534; have HO_5 := n0_; have HO537 := n1_; have HB := n2_; clear n0_ n1_ n2_; (try clear hb); (try clear hkp); (try clear ho0)))
    go_roundg k1
    case measure => have := HK1.out; omega
    case rel => exact ⟨(wrap64 (x4_1 + 1)), (t535), (t538), (by first | rfl | (simp; done) | (simp [*]; done)), (by first | rfl | (simp; done) | (simp [*]; done)), H', ⟨by have := HK1.out; omega⟩, ⟨by (with_reducible repeat (first | apply yaz | apply yba | apply ybb)); exact Kd.R_mono HO537.out (fun _ hk => trivial)⟩, ⟨by repeat (first | (with_reducible first | exact HB.out | apply zac | apply zab | apply zad) | exact HB.out)⟩⟩
def spec_NearColours.f (k : Nat) (l0 : List ByteArray) : Option (Int × Bool) := (spec_PlanIn.f k l0).bind fun t558 => (if t558 = true then ((spec_l4Least.f k l0).bind fun bt559 => (some (bt559.1, true))) else (some (0, false)))
set_option maxHeartbeats 8000000 in
set_option maxRecDepth 100000 in
theorem spec_NearColours.calls (k : Nat) (A0 : Option Addr) (c0 : Nat) (l0 : List ByteArray) (r1 : Int) (r2 : Bool) (w : World) (hr0 : Kd.C Kd.string w A0 l0.length l0) (hc0 : l0.length ≤ c0) (h : spec_NearColours.f k l0 = some (r1, r2)) :
  Calls Try.prog 41 #[.slice A0 l0.length c0] w fun e w' => e = .returned (.tuple #[.int .i64 r1, .bool r2]) ∧ Below w.heap.size w w' := by
 have HR0 := zaa.mk hr0
 have HC0 := zaa.mk hc0
 clear hr0 hc0
 have HB := zaa.mk (Below.refl w.heap.size w)
 have H : ((spec_PlanIn.f k l0).bind fun t558 => (if t558 = true then ((spec_l4Least.f k l0).bind fun bt559 => (some (bt559.1, true))) else (some (0, false)))) = some (r1, r2) := h
 clear h
 replace H := yaw.mp H
 obtain ⟨t558, A20, H⟩ := H
 replace H : (if t558 = true then ((spec_l4Least.f k l0).bind fun bt559 => (some (bt559.1, true))) else (some (0, false))) = some (r1, r2) := H
 have A2 := zaa.mk A20
 clear A20
 by_cases c3 : t558 = true
 ·subst c3
  have H1 : ((spec_l4Least.f k l0).bind fun bt559 => (some (bt559.1, true))) = some (r1, r2) := by rw [if_pos rfl] at H; exact H
  clear H
  have H := H1
  clear H1
  replace H := yaw.mp H
  obtain ⟨⟨t559, t560⟩, A40, H⟩ := H
  replace H : (some (t559, true)) = some (r1, r2) := H
  have A4 := zaa.mk A40
  clear A40
  simp only [Option.some.injEq, Prod.mk.injEq] at H
  obtain ⟨rfl, rfl⟩ := H
  go_enter Try.func41, Try.ntmps41
  go_wp2_with (first | ((with_reducible refine zal (f := 45) rfl ?_); refine zbd (some 7) rfl rfl Try.func45 (by kernel_rfl) rfl #[.slice A0 l0.length c0] rfl (by (try simp only [yap, yaq, yar]); first | done | rfl | (simp only [yat, yas]; rfl)) ?_; (with_reducible refine (spec_PlanIn.calls k _ _ l0 true _ ?side1 ?side2 A2.out).mono ?_); (case side1 => repeat (first | exact HR0.out | (with_reducible refine Kd.C_alloc ?_ _) | (with_reducible refine Kd.C_drewN ?_ _) | (with_reducible refine Kd.C_drew ?_))); (case side2 => exact HC0.out); rintro e w5 ⟨rfl, hb⟩; refine ⟨_, rfl, ?_⟩; have n0_ := zaa.mk (zae (by repeat (first | (with_reducible first | exact HB.out | apply zac | apply zab | apply zad) | exact HB.out)) hb); clear HB; have HB := n0_; clear n0_; (try clear hb); (try clear hb2); (try clear hk); (try clear hi)) | ((with_reducible refine zal (f := 79) rfl ?_); refine zbd (some 11) rfl rfl Try.func79 (by kernel_rfl) rfl #[.slice A0 l0.length c0] rfl (by (try simp only [yap, yaq, yar]); first | done | rfl | (simp only [yat, yas]; rfl)) ?_; (with_reducible refine (spec_l4Least.calls k _ _ l0 t559 t560 _ ?side1 ?side2 A4.out).mono ?_); (case side1 => repeat (first | exact (Kd.C_below HR0.out HB.out) | (with_reducible refine Kd.C_alloc ?_ _) | (with_reducible refine Kd.C_drewN ?_ _) | (with_reducible refine Kd.C_drew ?_))); (case side2 => exact HC0.out); rintro e w6 ⟨v561, rfl, ho0, hb⟩; refine ⟨_, rfl, ?_⟩; have n0_ := zaa.mk (Kd.R_lower ho0 (zaq (by repeat (first | (with_reducible first | exact HB.out | apply zac | apply zab | apply zad) | exact HB.out)))); have n1_ := zaa.mk (zae (by repeat (first | (with_reducible first | exact HB.out | apply zac | apply zab | apply zad) | exact HB.out)) hb); clear HB; have HO562 := n0_; have HB := n1_; clear n0_ n1_; (try clear hb); (try clear hb2); (try clear hk); (try clear hi); (try clear ho0)))
  go_ret2
  exact ⟨by first | rfl | (simp [zao, zan] <;> rfl) | (simp [*, zao, zan] <;> rfl), by repeat (first | (with_reducible first | exact HB.out | apply zac | apply zab | apply zad) | exact HB.out)⟩
 ·replace c3 := Bool.eq_false_iff.mpr c3
  subst c3
  have H1 : (some (0, false)) = some (r1, r2) := by rw [if_neg (show ¬ (false = true) by decide)] at H; exact H
  clear H
  have H := H1
  clear H1
  simp only [Option.some.injEq, Prod.mk.injEq] at H
  obtain ⟨rfl, rfl⟩ := H
  go_enter Try.func41, Try.ntmps41
  go_wp2_with (first | ((with_reducible refine zal (f := 45) rfl ?_); refine zbd (some 7) rfl rfl Try.func45 (by kernel_rfl) rfl #[.slice A0 l0.length c0] rfl (by (try simp only [yap, yaq, yar]); first | done | rfl | (simp only [yat, yas]; rfl)) ?_; (with_reducible refine (spec_PlanIn.calls k _ _ l0 false _ ?side1 ?side2 A2.out).mono ?_); (case side1 => repeat (first | exact HR0.out | (with_reducible refine Kd.C_alloc ?_ _) | (with_reducible refine Kd.C_drewN ?_ _) | (with_reducible refine Kd.C_drew ?_))); (case side2 => exact HC0.out); rintro e w7 ⟨rfl, hb⟩; refine ⟨_, rfl, ?_⟩; have n0_ := zaa.mk (zae (by repeat (first | (with_reducible first | exact HB.out | apply zac | apply zab | apply zad) | exact HB.out)) hb); clear HB; have HB := n0_; clear n0_; (try clear hb); (try clear hb2); (try clear hk); (try clear hi)))
  go_ret2
  exact ⟨by first | rfl | (simp [zao, zan] <;> rfl) | (simp [*, zao, zan] <;> rfl), by repeat (first | (with_reducible first | exact HB.out | apply zac | apply zab | apply zad) | exact HB.out)⟩
def slices_Max_int_int.l0 : Nat → List Int → Int → Int → Option (Int)
 | 0, _, _, _ => none
 | k + 1, x0, x3, x4 => if x4 < (x0.length : Int) then (if 0 ≤ x4 then (slices_Max_int_int.l0 k x0 (mx x3 (rd x0 x4)) (wrap64 (x4 + 1))) else (none)) else (some x3)
def slices_Max_int_int.f (k : Nat) (l0 : List Int) : Option (Int) := if (l0.length : Int) < 1 then (none) else (if 0 < (l0.length : Int) then (slices_Max_int_int.l0 k l0 (rd l0 0) 1) else (none))
set_option maxHeartbeats 8000000 in
set_option maxRecDepth 100000 in
theorem slices_Max_int_int.calls (k : Nat) (A0 : Option Addr) (c0 : Nat) (l0 : List Int) (r : Int) (w : World) (hr0 : Kd.C (Kd.int .i64) w A0 l0.length l0) (hc0 : l0.length ≤ c0) (h : slices_Max_int_int.f k l0 = some r) :
  Calls Try.prog 82 #[.slice A0 l0.length c0] w fun e w' => e = .returned (.int .i64 r) ∧ Below w.heap.size w w' := by
 have HR0 := zaa.mk hr0
 have HC0 := zaa.mk hc0
 clear hr0 hc0
 have HB := zaa.mk (Below.refl w.heap.size w)
 have H : (if (l0.length : Int) < 1 then (none) else (if 0 < (l0.length : Int) then (slices_Max_int_int.l0 k l0 (rd l0 0) 1) else (none))) = some r := h
 clear h
 by_cases c2 : (l0.length : Int) < 1
 ·rw [if_pos c2] at H
  exact absurd H (by simp)
 ·rw [if_neg c2] at H
  have c2b0 : decide ((l0.length : Int) < 1) = false := decide_eq_false c2
  have c2b1 : decide (l0.length < 1) = false := decide_eq_false (by omega)
  clear c2
  by_cases c3 : 0 < (l0.length : Int)
  ·rw [if_pos c3] at H
   have c3b0 : decide (0 < (l0.length : Int)) = true := decide_eq_true c3
   have c3b1 : decide (0 < l0.length) = true := decide_eq_true (by omega)
   clear c3
   have H' := zaa.mk H
   clear H
   have p563 : 0 ≤ (0 : Int) := (by omega)
   have q563 : 0 < (l0.length : Int) := of_decide_eq_true (by assumption)
   obtain ⟨ad563, e563, hx563_0⟩ := Kd.at_int HR0.out 0 p563 q563
   cases e563
   have qi563 : (0 < l0.length) = True := eq_true (by omega)
   (try rw [show ((0 : Int)).toNat = 0 from rfl] at hx563_0)
   (try rw [Addr.add_zero'] at hx563_0)
   replace p563 := eq_true p563
   replace q563 := eq_true q563
   go_enter Try.func82, Try.ntmps82
   go_wp2
   go_loopg [3, 4] k (fun kq v3 v4 w' => ∃ (x3_1 : Int) (x4_1 : Int), v3 = .int .i64 x3_1 ∧ v4 = .int .i64 x4_1 ∧ zaa (slices_Max_int_int.l0 kq l0 x3_1 x4_1 = some r) ∧ zaa (kq ≤ k) ∧ zaa (Below w.heap.size w w'))
   case atStart => exact ⟨(rd l0 0), (1), (by first | rfl | (simp; done) | (simp [*]; done)), (by first | rfl | (simp; done) | (simp [*]; done)), H', ⟨yay _⟩, ⟨by repeat (first | (with_reducible first | exact HB.out | apply zac | apply zab | apply zad) | exact HB.out)⟩⟩
   case round =>
    clear H'
    try clear c2
    try clear c2b0
    try clear c2b1
    try clear p2
    try clear c3
    try clear c3b0
    try clear c3b1
    try clear hx563_0
    try clear p563
    try clear q563
    obtain ⟨x3_1, x4_1, rfl, rfl, HA, HK1, HB⟩ := hrel
    cases gk with
    | zero => exact absurd HA.out (by simp [slices_Max_int_int.l0])
    | succ k1 =>
     have H := HA.out
     clear HA
     simp only [slices_Max_int_int.l0] at H
     by_cases c4 : x4_1 < (l0.length : Int)
     ·rw [if_pos c4] at H
      have c4b0 : decide (x4_1 < (l0.length : Int)) = true := decide_eq_true c4
      clear c4
      by_cases c5 : 0 ≤ x4_1
      ·rw [if_pos c5] at H
       have c5b0 : decide (0 ≤ x4_1) = true := decide_eq_true c5
       clear c5
       obtain ⟨ji6, hji6⟩ : ∃ j_ : Int, (mx x3_1 (rd l0 x4_1)) = j_ := ⟨_, rfl⟩
       replace H : (slices_Max_int_int.l0 k1 l0 ji6 (wrap64 (x4_1 + 1))) = some r := by first | (rw [hji6] at H; exact H) | (simp only [hji6] at H ⊢; exact H)
       have hji6_ : (if x3_1 < (rd l0 x4_1) then (rd l0 x4_1) else x3_1) = ji6 := hji6
       have H' := zaa.mk H
       clear H
       have p564 : 0 ≤ (x4_1 : Int) := of_decide_eq_true (by assumption)
       have q564 : x4_1 < (l0.length : Int) := of_decide_eq_true (by assumption)
       obtain ⟨ad564, e564, hx564_0⟩ := Kd.at_int HR0.out x4_1 p564 q564
       obtain rfl : ad563 = ad564 := (by injection e564)
       replace hx564_0 := (HB.out.cell (World.block_lt_of_cell? w _ hx564_0)).trans hx564_0
       replace p564 := eq_true p564
       replace q564 := eq_true q564
       go_wp2
       go_roundg k1
       case measure => have := HK1.out; omega
       case rel => exact ⟨(ji6), (wrap64 (x4_1 + 1)), (by first | rfl | (simp; done) | (simp only [← hji6] <;> (first | rfl | simp)) | (simp [*]; done)), (by first | rfl | (simp; done) | (simp [*]; done)), H', ⟨by have := HK1.out; omega⟩, ⟨by repeat (first | (with_reducible first | exact HB.out | apply zac | apply zab | apply zad) | exact HB.out)⟩⟩
      ·rw [if_neg c5] at H
       exact absurd H (by simp)
     ·rw [if_neg c4] at H
      have c4b0 : decide (x4_1 < (l0.length : Int)) = false := decide_eq_false c4
      clear c4
      obtain rfl := Option.some.inj H
      go_wp2
      go_ret
      exact ⟨by first | rfl | (simp [zao, zan] <;> rfl) | (simp [*, zao, zan] <;> rfl), by repeat (first | (with_reducible first | exact HB.out | apply zac | apply zab | apply zad) | exact HB.out)⟩
  ·rw [if_neg c3] at H
   exact absurd H (by simp)
end Go.Proofs.Ytickdcegnlldjaa.PB
namespace Go.Proofs.Ytickdcegnlldjaa.PB
open Go.RowKit Go.PW.PrintWords Go.PW.PrintLast Go.PW.PrintMore
attribute [local go_sem] zby zbw zcl zck zbq zbp zbx zbv   -- for this text's walks alone
def impl_near.l0 : Nat → List Int → List Int → Int → Int → Option (List Int)
 | 0, _, _, _, _ => none
 | k + 1, x5, x11, x12, x13 => if x13 < x12 then (if 0 ≤ x13 then (if x13 < (x11.length : Int) then (if (rd x11 x13) > 0 then (if x5.length < 17592186044416 then (impl_near.l0 k (x5 ++ [x13]) x11 x12 (wrap64 (x13 + 1))) else (none)) else (impl_near.l0 k x5 x11 x12 (wrap64 (x13 + 1)))) else (none)) else (none)) else (some x5)
def impl_near.f (k : Nat) (l0 : List (List Int)) (a1 : Int) : Option (List Int) := if 0 ≤ a1 then (if a1 < (l0.length : Int) then (impl_near.l0 k ([] : List Int) (zbt l0 a1) ((zbt l0 a1).length : Int) 0) else (none)) else (none)
set_option maxHeartbeats 8000000 in
set_option maxRecDepth 100000 in
theorem impl_near.calls (k : Nat) (A0 : Option Addr) (c0 : Nat) (l0 : List (List Int)) (a1 : Int) (r : List Int) (w : World) (hr0 : Kd.C (Kd.slice 3 (Kd.int .i64)) w A0 l0.length l0) (hc0 : l0.length ≤ c0) (h : impl_near.f k l0 a1 = some r) :
  Calls Try.prog 106 #[.slice A0 l0.length c0, .int .i64 a1] w fun e w' => ∃ v0_ : Value, e = .returned (v0_) ∧ Kd.R (Kd.int .i64) 3 w' w.heap.size (fun _ => True) v0_ r ∧ Below w.heap.size w w' := by
 have HR0 := zaa.mk hr0
 have HC0 := zaa.mk hc0
 clear hr0 hc0
 have HB := zaa.mk (Below.refl w.heap.size w)
 have H : (if 0 ≤ a1 then (if a1 < (l0.length : Int) then (impl_near.l0 k ([] : List Int) (zbt l0 a1) ((zbt l0 a1).length : Int) 0) else (none)) else (none)) = some r := h
 clear h
 by_cases c3 : 0 ≤ a1
 ·rw [if_pos c3] at H
  have c3b0 : decide (0 ≤ a1) = true := decide_eq_true c3
  clear c3
  by_cases c4 : a1 < (l0.length : Int)
  ·rw [if_pos c4] at H
   have c4b0 : decide (a1 < (l0.length : Int)) = true := decide_eq_true c4
   clear c4
   have H' := zaa.mk H
   clear H
   have p574 : 0 ≤ (a1 : Int) := of_decide_eq_true (by assumption)
   have q574 : a1 < (l0.length : Int) := of_decide_eq_true (by assumption)
   obtain ⟨ad574, A574_0, c574_0, e574, hx574_0, hl574_0, hi574_0⟩ := at_L3 HR0.out a1 p574 q574
   cases e574
   have HR574_0 := zaa.mk hi574_0
   have HC574_0 := zaa.mk hl574_0
   clear hi574_0 hl574_0
   replace p574 := eq_true p574
   replace q574 := eq_true q574
   go_enter Try.func106, Try.ntmps106
   go_wp2
   go_loopg [5, 13] k (fun kq v5 v13 w' => ∃ (x5_1 : List Int) (x13_1 : Int), v13 = .int .i64 x13_1 ∧ zaa (impl_near.l0 kq x5_1 (zbt l0 a1) ((zbt l0 a1).length : Int) x13_1 = some r) ∧ zaa (kq ≤ k) ∧ zaa (Kd.R (Kd.int .i64) 3 w' w.heap.size (fun _ => True) v5 x5_1) ∧ zaa (Below w.heap.size w w'))
   case atStart => exact ⟨(([] : List Int)), (0), (by first | rfl | (simp; done) | (simp [*]; done)), H', ⟨yay _⟩, ⟨by first | exact Kd.R_nil _ _ _ _ _ | exact Kd.N_nil _ _ _ _ _ | exact Kd.V_nil _ _ _ _ _ | exact Kd.Q_nil _ _ _ _ _ | exact Kd.S_nil _ _ _ _ _⟩, ⟨by repeat (first | (with_reducible first | exact HB.out | apply zac | apply zab | apply zad) | exact HB.out)⟩⟩
   case round =>
    clear H'
    try clear c1
    try clear p2
    try clear c3
    try clear c3b0
    try clear c4
    try clear c4b0
    try clear hx574_0
    try clear p574
    try clear q574
    obtain ⟨x5_1, x13_1, rfl, HA, HK1, HO_5, HB⟩ := hrel
    cases gk with
    | zero => exact absurd HA.out (by simp [impl_near.l0])
    | succ k1 =>
     have H := HA.out
     clear HA
     simp only [impl_near.l0] at H
     by_cases c5 : x13_1 < ((zbt l0 a1).length : Int)
     ·rw [if_pos c5] at H
      have c5b0 : decide (x13_1 < ((zbt l0 a1).length : Int)) = true := decide_eq_true c5
      clear c5
      by_cases c6 : 0 ≤ x13_1
      ·rw [if_pos c6] at H
       have c6b0 : decide (0 ≤ x13_1) = true := decide_eq_true c6
       clear c6
       by_cases c7 : x13_1 < ((zbt l0 a1).length : Int)
       ·rw [if_pos c7] at H
        have c7b0 : decide (x13_1 < ((zbt l0 a1).length : Int)) = true := decide_eq_true c7
        clear c7
        by_cases c8 : (rd (zbt l0 a1) x13_1) > 0
        ·rw [if_pos c8] at H
         have c8b0 : decide (0 < (rd (zbt l0 a1) x13_1)) = true := decide_eq_true c8
         clear c8
         by_cases c9 : x5_1.length < 17592186044416
         ·rw [if_pos c9] at H
          have LMc9 := zaa.mk c9
          clear c9
          obtain ⟨y576, hy576⟩ : ∃ y_ : List Int, y_ = (x5_1 ++ [x13_1]) := ⟨_, rfl⟩
          replace H : (impl_near.l0 k1 y576 (zbt l0 a1) ((zbt l0 a1).length : Int) (wrap64 (x13_1 + 1))) = some r := by first | (rw [hy576]; with_reducible exact H) | (have H2_ := (yax _ _).symm.trans H; rw [hy576]; with_reducible exact H2_) | (have H2_ := (yax _ _).symm.trans H; with_reducible exact H2_) | with_reducible exact H | (rw [hy576]; exact H) | exact H
          have Ny576 := zaa.mk hy576
          clear hy576
          have H' := zaa.mk H
          clear H
          have p575 : 0 ≤ (x13_1 : Int) := of_decide_eq_true (by assumption)
          have q575 : x13_1 < ((zbt l0 a1).length : Int) := of_decide_eq_true (by assumption)
          obtain ⟨ad575, e575, hx575_0⟩ := Kd.at_int HR574_0.out x13_1 p575 q575
          cases e575
          replace hx575_0 := (HB.out.cell (World.block_lt_of_cell? w _ hx575_0)).trans hx575_0
          replace p575 := eq_true p575
          replace q575 := eq_true q575
          go_wp2_with (first | ((with_reducible refine zba (b := .append) (xs := #[.tmp 20, .tmp 22]) rfl ?_); at_builtin; refine Kd.R_append (Kd.int .i64) (w0 := w) w.heap.size rfl (.tmp 20) (.tmp 22) 24 3 (.int .i64 0) 8 rfl Try.underlying24 info3 rfl (by decide) (by omega) u5 x5_1 x13_1 [.int .i64 x13_1] (fun _ => True) (fun _ => False) rfl rfl ?aP (fun _ hk => hk.elim) ?aF ?aO ?aB ?aS ?aL ?_; (case aP => exact rfl); (case aB => exact (by repeat (first | (with_reducible first | exact HB.out | apply zac | apply zab | apply zad) | exact HB.out))); (case aF => exact (fun _ _ => trivial)); (case aO => exact (by (with_reducible repeat (first | apply yaz | apply yba | apply ybb)); exact HO_5.out)); (case aS => exact (zaq (by repeat (first | (with_reducible first | exact HB.out | apply zac | apply zab | apply zad) | exact HB.out)))); (case aL => have := LMc9.out; omega); intro v577 w10 ho hb hg hat; rw [← Ny576.out] at ho; have n0_ := zaa.mk (hb); have n1_ := zaa.mk (ho); clear HB; clear HO_5; have HB := n0_; have HO578 := n1_; clear n0_ n1_; clear ho hb hg hat))
          go_roundg k1
          case measure => have := HK1.out; omega
          case rel => exact ⟨(y576), (wrap64 (x13_1 + 1)), (by first | rfl | (simp; done) | (simp [*]; done)), H', ⟨by have := HK1.out; omega⟩, ⟨by (with_reducible repeat (first | apply yaz | apply yba | apply ybb)); exact HO578.out⟩, ⟨by repeat (first | (with_reducible first | exact HB.out | apply zac | apply zab | apply zad) | exact HB.out)⟩⟩
         ·rw [if_neg c9] at H
          exact absurd H (by simp)
        ·rw [if_neg c8] at H
         have c8b0 : decide (0 < (rd (zbt l0 a1) x13_1)) = false := decide_eq_false c8
         clear c8
         have H' := zaa.mk H
         clear H
         have p575 : 0 ≤ (x13_1 : Int) := of_decide_eq_true (by assumption)
         have q575 : x13_1 < ((zbt l0 a1).length : Int) := of_decide_eq_true (by assumption)
         obtain ⟨ad575, e575, hx575_0⟩ := Kd.at_int HR574_0.out x13_1 p575 q575
         cases e575
         replace hx575_0 := (HB.out.cell (World.block_lt_of_cell? w _ hx575_0)).trans hx575_0
         replace p575 := eq_true p575
         replace q575 := eq_true q575
         go_wp2
         go_roundg k1
         case measure => have := HK1.out; omega
         case rel => exact ⟨(x5_1), (wrap64 (x13_1 + 1)), (by first | rfl | (simp; done) | (simp [*]; done)), H', ⟨by have := HK1.out; omega⟩, ⟨by (with_reducible repeat (first | apply yaz | apply yba | apply ybb)); exact HO_5.out⟩, ⟨by repeat (first | (with_reducible first | exact HB.out | apply zac | apply zab | apply zad) | exact HB.out)⟩⟩
       ·rw [if_neg c7] at H
        exact absurd H (by simp)
      ·rw [if_neg c6] at H
       exact absurd H (by simp)
     ·rw [if_neg c5] at H
      have c5b0 : decide (x13_1 < ((zbt l0 a1).length : Int)) = false := decide_eq_false c5
      clear c5
      obtain rfl := Option.some.inj H
      go_wp2
      go_ret
      exact ⟨_, by first | rfl | (simp [zao, zan] <;> rfl) | (simp [*, zao, zan] <;> rfl), by (with_reducible repeat (first | apply yaz | apply yba | apply ybb)); exact HO_5.out, by repeat (first | (with_reducible first | exact HB.out | apply zac | apply zab | apply zad) | exact HB.out)⟩
  ·rw [if_neg c4] at H
   exact absurd H (by simp)
 ·rw [if_neg c3] at H
  exact absurd H (by simp)
end Go.Proofs.Ytickdcegnlldjaa.PB
namespace Go.Proofs.Ytickdcegnlldjaa.PC
open Go.RowKit Go.PW.PrintWords Go.PW.PrintLast Go.PW.PrintMore
attribute [local go_sem] zby zbw zcl zck zbq zbp zbx zbv   -- for this text's walks alone
def errW : Option Int → Value
 | none => .nilIface
 | some c => .iface 0 (.int .i64 c)
theorem zao : errW none = .nilIface := rfl
theorem zan (c : Int) : errW (some c) = .iface 0 (.int .i64 c) := rfl
end Go.Proofs.Ytickdcegnlldjaa.PC
namespace Go.Proofs.Ytickdcegnlldjaa.PC
open Go.RowKit Go.PW.PrintWords Go.PW.PrintLast Go.PW.PrintMore
attribute [local go_sem] zby zbw zcl zck zbq zbp zbx zbv   -- for this text's walks alone
def impl_rect_both.f (a0_0 : Int) (a0_1 : Int) (a0_2 : Int) (a0_3 : Int) (a1_0 : Int) (a1_1 : Int) (a1_2 : Int) (a1_3 : Int) : Option (Int × Int × Int × Int) := some (mn a0_0 a1_0, mn a0_1 a1_1, wrap64 ((mx (wrap64 (a0_0 + a0_2)) (wrap64 (a1_0 + a1_2))) - (mn a0_0 a1_0)), wrap64 ((mx (wrap64 (a0_1 + a0_3)) (wrap64 (a1_1 + a1_3))) - (mn a0_1 a1_1)))
set_option maxHeartbeats 8000000 in
set_option maxRecDepth 100000 in
theorem impl_rect_both.calls (a0_0 : Int) (a0_1 : Int) (a0_2 : Int) (a0_3 : Int) (a1_0 : Int) (a1_1 : Int) (a1_2 : Int) (a1_3 : Int) (r1 : Int) (r2 : Int) (r3 : Int) (r4 : Int) (w : World) (h : impl_rect_both.f a0_0 a0_1 a0_2 a0_3 a1_0 a1_1 a1_2 a1_3 = some (r1, r2, r3, r4)) :
  Calls Try.prog 118 #[.agg #[.int .i64 a0_0, .int .i64 a0_1, .int .i64 a0_2, .int .i64 a0_3], .agg #[.int .i64 a1_0, .int .i64 a1_1, .int .i64 a1_2, .int .i64 a1_3]] w fun e w' => e = .returned (.agg #[.int .i64 r1, .int .i64 r2, .int .i64 r3, .int .i64 r4]) ∧ Below w.heap.size w w' := by
 have hu120 := Try.underlying120
 have HB := zaa.mk (Below.refl w.heap.size w)
 have H : (some (mn a0_0 a1_0, mn a0_1 a1_1, wrap64 ((mx (wrap64 (a0_0 + a0_2)) (wrap64 (a1_0 + a1_2))) - (mn a0_0 a1_0)), wrap64 ((mx (wrap64 (a0_1 + a0_3)) (wrap64 (a1_1 + a1_3))) - (mn a0_1 a1_1)))) = some (r1, r2, r3, r4) := h
 clear h
 obtain ⟨ji3, hji3⟩ : ∃ j_ : Int, (mn a0_0 a1_0) = j_ := ⟨_, rfl⟩
 replace H : (some (ji3, mn a0_1 a1_1, wrap64 ((mx (wrap64 (a0_0 + a0_2)) (wrap64 (a1_0 + a1_2))) - (ji3)), wrap64 ((mx (wrap64 (a0_1 + a0_3)) (wrap64 (a1_1 + a1_3))) - (mn a0_1 a1_1)))) = some (r1, r2, r3, r4) := by first | (rw [hji3] at H; exact H) | (simp only [hji3] at H ⊢; exact H)
 have hji3_ : (if a1_0 < a0_0 then a1_0 else a0_0) = ji3 := hji3
 obtain ⟨ji4, hji4⟩ : ∃ j_ : Int, (mn a0_1 a1_1) = j_ := ⟨_, rfl⟩
 replace H : (some (ji3, ji4, wrap64 ((mx (wrap64 (a0_0 + a0_2)) (wrap64 (a1_0 + a1_2))) - (ji3)), wrap64 ((mx (wrap64 (a0_1 + a0_3)) (wrap64 (a1_1 + a1_3))) - (ji4)))) = some (r1, r2, r3, r4) := by first | (rw [hji4] at H; exact H) | (simp only [hji4] at H ⊢; exact H)
 have hji4_ : (if a1_1 < a0_1 then a1_1 else a0_1) = ji4 := hji4
 obtain ⟨ji5, hji5⟩ : ∃ j_ : Int, (mx (wrap64 (a0_0 + a0_2)) (wrap64 (a1_0 + a1_2))) = j_ := ⟨_, rfl⟩
 replace H : (some (ji3, ji4, wrap64 ((ji5) - (ji3)), wrap64 ((mx (wrap64 (a0_1 + a0_3)) (wrap64 (a1_1 + a1_3))) - (ji4)))) = some (r1, r2, r3, r4) := by first | (rw [hji5] at H; exact H) | (simp only [hji5] at H ⊢; exact H)
 have hji5_ : (if (wrap64 (a0_0 + a0_2)) < (wrap64 (a1_0 + a1_2)) then (wrap64 (a1_0 + a1_2)) else (wrap64 (a0_0 + a0_2))) = ji5 := hji5
 obtain ⟨ji6, hji6⟩ : ∃ j_ : Int, (mx (wrap64 (a0_1 + a0_3)) (wrap64 (a1_1 + a1_3))) = j_ := ⟨_, rfl⟩
 replace H : (some (ji3, ji4, wrap64 ((ji5) - (ji3)), wrap64 ((ji6) - (ji4)))) = some (r1, r2, r3, r4) := by first | (rw [hji6] at H; exact H) | (simp only [hji6] at H ⊢; exact H)
 have hji6_ : (if (wrap64 (a0_1 + a0_3)) < (wrap64 (a1_1 + a1_3)) then (wrap64 (a1_1 + a1_3)) else (wrap64 (a0_1 + a0_3))) = ji6 := hji6
 simp only [Option.some.injEq, Prod.mk.injEq] at H
 obtain ⟨rfl, rfl, rfl, rfl⟩ := H
 go_enter Try.func118, Try.ntmps118
 go_wp2_with (first | ((with_reducible refine zbb (N := 2) rfl ?_); refine zcb ?hg (N := 2) ?hd (cs := #[.int .i64 a0_0, .int .i64 a0_1, .int .i64 a0_2, .int .i64 a0_3]) (t := 120) ?hr ?_; (case hd => rfl); (case hg => rfl); (case hr => first | (go_simp; done) | (go_simp; rfl)); intro gb101 hg w7 hbox hb; have n0_ := zaa.mk (zae (by repeat (first | (with_reducible first | exact HB.out | apply zac | apply zab | apply zad) | exact HB.out)) hb); have n1_ := zaa.mk (hbox); have n2_ := zaa.mk ((by rw [hg]; exact (zaq (by repeat (first | (with_reducible first | exact HB.out | apply zac | apply zab | apply zad) | exact HB.out))) : w.heap.size ≤ gb101)); have n3_ := zaa.mk ((by rw [hg]; exact (zaq (by repeat (first | (with_reducible first | exact HB.out | apply zac | apply zab | apply zad) | exact HB.out))) : w.heap.size ≤ gb101)); clear HB; have HB := n0_; have BK101 := n1_; have GW101 := n2_; have GE101 := n3_; clear n0_ n1_ n2_ n3_; clear hb hbox hg) | ((with_reducible refine zbb (N := 3) rfl ?_); refine zcb ?hg (N := 3) ?hd (cs := #[.int .i64 a1_0, .int .i64 a1_1, .int .i64 a1_2, .int .i64 a1_3]) (t := 120) ?hr ?_; (case hd => rfl); (case hg => rfl); (case hr => first | (go_simp; done) | (go_simp; rfl)); intro gb102 hg w8 hbox hb; have n0_ := zaa.mk (blk_below (g := gb101) (o := .cells #[.int .i64 a0_0, .int .i64 a0_1, .int .i64 a0_2, .int .i64 a0_3] 120 (0, 0)) (by (with_reducible repeat (first | refine zbl ?_ _ | refine zbn ?_ | refine zbm ?_ _)); exact BK101.out) hb); have n1_ := zaa.mk (zae (by repeat (first | (with_reducible first | exact HB.out | apply zac | apply zab | apply zad | refine zaj ?_ GE101.out) | exact HB.out)) hb); have n2_ := zaa.mk (hbox); have n3_ := zaa.mk ((by rw [hg]; exact (zaq (by repeat (first | (with_reducible first | exact HB.out | apply zac | apply zab | apply zad | refine zaj ?_ GE101.out) | exact HB.out))) : w.heap.size ≤ gb102)); have n4_ := zaa.mk ((by rw [hg]; exact (zaq (by repeat (first | (with_reducible first | exact HB.out | apply zac | apply zab | apply zad | refine zaj ?_ GE101.out) | exact HB.out))) : w.heap.size ≤ gb102)); have n5_ := zaa.mk ((by rw [hg]; exact Nat.ne_of_lt (zca (g := gb101) (o := .cells #[.int .i64 a0_0, .int .i64 a0_1, .int .i64 a0_2, .int .i64 a0_3] 120 (0, 0)) (by (with_reducible repeat (first | refine zbl ?_ _ | refine zbn ?_ | refine zbm ?_ _)); exact BK101.out)) : gb101 ≠ gb102)); have n6_ := zaa.mk ((by rw [hg]; exact Nat.ne_of_gt (zca (g := gb101) (o := .cells #[.int .i64 a0_0, .int .i64 a0_1, .int .i64 a0_2, .int .i64 a0_3] 120 (0, 0)) (by (with_reducible repeat (first | refine zbl ?_ _ | refine zbn ?_ | refine zbm ?_ _)); exact BK101.out)) : gb102 ≠ gb101)); clear BK101; clear HB; have BK101 := n0_; have HB := n1_; have BK102 := n2_; have GW102 := n3_; have GE102 := n4_; have NB101_102 := n5_; have NB102_101 := n6_; clear n0_ n1_ n2_ n3_ n4_ n5_ n6_; clear hb hbox hg) | ((with_reducible refine zbb (N := 4) rfl ?_); refine zcb ?hg (N := 4) ?hd (cs := #[.int .i64 0, .int .i64 0, .int .i64 0, .int .i64 0]) (t := 120) ?hr ?_; (case hd => rfl); (case hg => rfl); (case hr => first | (go_simp; done) | (go_simp; rfl)); intro gb103 hg w9 hbox hb; have n0_ := zaa.mk (blk_below (g := gb101) (o := .cells #[.int .i64 a0_0, .int .i64 a0_1, .int .i64 a0_2, .int .i64 a0_3] 120 (0, 0)) (by (with_reducible repeat (first | refine zbl ?_ _ | refine zbn ?_ | refine zbm ?_ _)); exact BK101.out) hb); have n1_ := zaa.mk (blk_below (g := gb102) (o := .cells #[.int .i64 a1_0, .int .i64 a1_1, .int .i64 a1_2, .int .i64 a1_3] 120 (0, 0)) (by (with_reducible repeat (first | refine zbl ?_ _ | refine zbn ?_ | refine zbm ?_ _)); exact BK102.out) hb); have n2_ := zaa.mk (zae (by repeat (first | (with_reducible first | exact HB.out | apply zac | apply zab | apply zad | refine zaj ?_ GE101.out | refine zaj ?_ GE102.out) | exact HB.out)) hb); have n3_ := zaa.mk (hbox); have n4_ := zaa.mk ((by rw [hg]; exact (zaq (by repeat (first | (with_reducible first | exact HB.out | apply zac | apply zab | apply zad | refine zaj ?_ GE101.out | refine zaj ?_ GE102.out) | exact HB.out))) : w.heap.size ≤ gb103)); have n5_ := zaa.mk ((by rw [hg]; exact (zaq (by repeat (first | (with_reducible first | exact HB.out | apply zac | apply zab | apply zad | refine zaj ?_ GE101.out | refine zaj ?_ GE102.out) | exact HB.out))) : w.heap.size ≤ gb103)); have n6_ := zaa.mk ((by rw [hg]; exact Nat.ne_of_lt (zca (g := gb101) (o := .cells #[.int .i64 a0_0, .int .i64 a0_1, .int .i64 a0_2, .int .i64 a0_3] 120 (0, 0)) (by (with_reducible repeat (first | refine zbl ?_ _ | refine zbn ?_ | refine zbm ?_ _)); exact BK101.out)) : gb101 ≠ gb103)); have n7_ := zaa.mk ((by rw [hg]; exact Nat.ne_of_gt (zca (g := gb101) (o := .cells #[.int .i64 a0_0, .int .i64 a0_1, .int .i64 a0_2, .int .i64 a0_3] 120 (0, 0)) (by (with_reducible repeat (first | refine zbl ?_ _ | refine zbn ?_ | refine zbm ?_ _)); exact BK101.out)) : gb103 ≠ gb101)); have n8_ := zaa.mk ((by rw [hg]; exact Nat.ne_of_lt (zca (g := gb102) (o := .cells #[.int .i64 a1_0, .int .i64 a1_1, .int .i64 a1_2, .int .i64 a1_3] 120 (0, 0)) (by (with_reducible repeat (first | refine zbl ?_ _ | refine zbn ?_ | refine zbm ?_ _)); exact BK102.out)) : gb102 ≠ gb103)); have n9_ := zaa.mk ((by rw [hg]; exact Nat.ne_of_gt (zca (g := gb102) (o := .cells #[.int .i64 a1_0, .int .i64 a1_1, .int .i64 a1_2, .int .i64 a1_3] 120 (0, 0)) (by (with_reducible repeat (first | refine zbl ?_ _ | refine zbn ?_ | refine zbm ?_ _)); exact BK102.out)) : gb103 ≠ gb102)); clear BK101; clear BK102; clear HB; have BK101 := n0_; have BK102 := n1_; have HB := n2_; have BK103 := n3_; have GW103 := n4_; have GE103 := n5_; have NB101_103 := n6_; have NB103_101 := n7_; have NB102_103 := n8_; have NB103_102 := n9_; clear n0_ n1_ n2_ n3_ n4_ n5_ n6_ n7_ n8_ n9_; clear hb hbox hg; have hnb10 := NB101_102.out; have hnc10 := NB102_101.out; have hnb11 := NB101_103.out; have hnc11 := NB103_101.out; have hcz12_0 : w9.cell? ⟨gb101, 0, none⟩ = some (.int .i64 a0_0) := (zat BK101.out 0).trans rfl; have hcz12_1 : w9.cell? ⟨gb101, 1, none⟩ = some (.int .i64 a0_1) := (zat BK101.out 1).trans rfl; have hcz12_2 : w9.cell? ⟨gb101, 2, none⟩ = some (.int .i64 a0_2) := (zat BK101.out 2).trans rfl; have hcz12_3 : w9.cell? ⟨gb101, 3, none⟩ = some (.int .i64 a0_3) := (zat BK101.out 3).trans rfl; have hfz12_0 := zay BK101.out 0; have hfz12_1 := zay BK101.out 1; have hfz12_2 := zay BK101.out 2; have hfz12_3 := zay BK101.out 3; have hnb13 := NB102_103.out; have hnc13 := NB103_102.out; have hcz14_0 : w9.cell? ⟨gb102, 0, none⟩ = some (.int .i64 a1_0) := (zat BK102.out 0).trans rfl; have hcz14_1 : w9.cell? ⟨gb102, 1, none⟩ = some (.int .i64 a1_1) := (zat BK102.out 1).trans rfl; have hcz14_2 : w9.cell? ⟨gb102, 2, none⟩ = some (.int .i64 a1_2) := (zat BK102.out 2).trans rfl; have hcz14_3 : w9.cell? ⟨gb102, 3, none⟩ = some (.int .i64 a1_3) := (zat BK102.out 3).trans rfl; have hfz14_0 := zay BK102.out 0; have hfz14_1 := zay BK102.out 1; have hfz14_2 := zay BK102.out 2; have hfz14_3 := zay BK102.out 3; have hcz15_0 : w9.cell? ⟨gb103, 0, none⟩ = some (.int .i64 0) := (zat BK103.out 0).trans rfl; have hcz15_1 : w9.cell? ⟨gb103, 1, none⟩ = some (.int .i64 0) := (zat BK103.out 1).trans rfl; have hcz15_2 : w9.cell? ⟨gb103, 2, none⟩ = some (.int .i64 0) := (zat BK103.out 2).trans rfl; have hcz15_3 : w9.cell? ⟨gb103, 3, none⟩ = some (.int .i64 0) := (zat BK103.out 3).trans rfl; have hfz15_0 := zay BK103.out 0; have hfz15_1 := zay BK103.out 1; have hfz15_2 := zay BK103.out 2; have hfz15_3 := zay BK103.out 3))
 repeat (go_quiet (first | ((with_reducible refine zbb (N := 2) rfl ?_); refine zcb ?hg (N := 2) ?hd (cs := #[.int .i64 a0_0, .int .i64 a0_1, .int .i64 a0_2, .int .i64 a0_3]) (t := 120) ?hr ?_; (case hd => rfl); (case hg => rfl); (case hr => first | (go_simp; done) | (go_simp; rfl)); intro gb101 hg w7 hbox hb; have n0_ := zaa.mk (zae (by repeat (first | (with_reducible first | exact HB.out | apply zac | apply zab | apply zad) | exact HB.out)) hb); have n1_ := zaa.mk (hbox); have n2_ := zaa.mk ((by rw [hg]; exact (zaq (by repeat (first | (with_reducible first | exact HB.out | apply zac | apply zab | apply zad) | exact HB.out))) : w.heap.size ≤ gb101)); have n3_ := zaa.mk ((by rw [hg]; exact (zaq (by repeat (first | (with_reducible first | exact HB.out | apply zac | apply zab | apply zad) | exact HB.out))) : w.heap.size ≤ gb101)); clear HB; have HB := n0_; have BK101 := n1_; have GW101 := n2_; have GE101 := n3_; clear n0_ n1_ n2_ n3_; clear hb hbox hg) | ((with_reducible refine zbb (N := 3) rfl ?_); refine zcb ?hg (N := 3) ?hd (cs := #[.int .i64 a1_0, .int .i64 a1_1, .int .i64 a1_2, .int .i64 a1_3]) (t := 120) ?hr ?_; (case hd => rfl); (case hg => rfl); (case hr => first | (go_simp; done) | (go_simp; rfl)); intro gb102 hg w8 hbox hb; have n0_ := zaa.mk (blk_below (g := gb101) (o := .cells #[.int .i64 a0_0, .int .i64 a0_1, .int .i64 a0_2, .int .i64 a0_3] 120 (0, 0)) (by (with_reducible repeat (first | refine zbl ?_ _ | refine zbn ?_ | refine zbm ?_ _)); exact BK101.out) hb); have n1_ := zaa.mk (zae (by repeat (first | (with_reducible first | exact HB.out | apply zac | apply zab | apply zad | refine zaj ?_ GE101.out) | exact HB.out)) hb); have n2_ := zaa.mk (hbox); have n3_ := zaa.mk ((by rw [hg]; exact (zaq (by repeat (first | (with_reducible first | exact HB.out | apply zac | apply zab | apply zad | refine zaj ?_ GE101.out) | exact HB.out))) : w.heap.size ≤ gb102)); have n4_ := zaa.mk ((by rw [hg]; exact (zaq (by repeat (first | (with_reducible first | exact HB.out | apply zac | apply zab | apply zad | refine zaj ?_ GE101.out) | exact HB.out))) : w.heap.size ≤ gb102)); have n5_ := zaa.mk ((by rw [hg]; exact Nat.ne_of_lt (zca (g := gb101) (o := .cells #[.int .i64 a0_0, .int .i64 a0_1, .int .i64 a0_2, .int .i64 a0_3] 120 (0, 0)) (by (with_reducible repeat (first | refine zbl ?_ _ | refine zbn ?_ | refine zbm ?_ _)); exact BK101.out)) : gb101 ≠ gb102)); have n6_ := zaa.mk ((by rw [hg]; exact Nat.ne_of_gt (zca (g := gb101) (o := .cells #[.int .i64 a0_0, .int .i64 a0_1, .int .i64 a0_2, .int .i64 a0_3] 120 (0, 0)) (by (with_reducible repeat (first | refine zbl ?_ _ | refine zbn ?_ | refine zbm ?_ _)); exact BK101.out)) : gb102 ≠ gb101)); clear BK101; clear HB; have BK101 := n0_; have HB := n1_; have BK102 := n2_; have GW102 := n3_; have GE102 := n4_; have NB101_102 := n5_; have NB102_101 := n6_; clear n0_ n1_ n2_ n3_ n4_ n5_ n6_; clear hb hbox hg) | ((with_reducible refine zbb (N := 4) rfl ?_); refine zcb ?hg (N := 4) ?hd (cs := #[.int .i64 0, .int .i64 0, .int .i64 0, .int .i64 0]) (t := 120) ?hr ?_; (case hd => rfl); (case hg => rfl); (case hr => first | (go_simp; done) | (go_simp; rfl)); intro gb103 hg w9 hbox hb; have n0_ := zaa.mk (blk_below (g := gb101) (o := .cells #[.int .i64 a0_0, .int .i64 a0_1, .int .i64 a0_2, .int .i64 a0_3] 120 (0, 0)) (by (with_reducible repeat (first | refine zbl ?_ _ | refine zbn ?_ | refine zbm ?_ _)); exact BK101.out) hb); have n1_ := zaa.mk (blk_below (g := gb102) (o := .cells #[.int .i64 a1_0, .int .i64 a1_1, .int .i64 a1_2, .int .i64 a1_3] 120 (0, 0)) (by (with_reducible repeat (first | refine zbl ?_ _ | refine zbn ?_ | refine zbm ?_ _)); exact BK102.out) hb); have n2_ := zaa.mk (zae (by repeat (first | (with_reducible first | exact HB.out | apply zac | apply zab | apply zad | refine zaj ?_ GE101.out | refine zaj ?_ GE102.out) | exact HB.out)) hb); have n3_ := zaa.mk (hbox); have n4_ := zaa.mk ((by rw [hg]; exact (zaq (by repeat (first | (with_reducible first | exact HB.out | apply zac | apply zab | apply zad | refine zaj ?_ GE101.out | refine zaj ?_ GE102.out) | exact HB.out))) : w.heap.size ≤ gb103)); have n5_ := zaa.mk ((by rw [hg]; exact (zaq (by repeat (first | (with_reducible first | exact HB.out | apply zac | apply zab | apply zad | refine zaj ?_ GE101.out | refine zaj ?_ GE102.out) | exact HB.out))) : w.heap.size ≤ gb103)); have n6_ := zaa.mk ((by rw [hg]; exact Nat.ne_of_lt (zca (g := gb101) (o := .cells #[.int .i64 a0_0, .int .i64 a0_1, .int .i64 a0_2, .int .i64 a0_3] 120 (0, 0)) (by (with_reducible repeat (first | refine zbl ?_ _ | refine zbn ?_ | refine zbm ?_ _)); exact BK101.out)) : gb101 ≠ gb103)); have n7_ := zaa.mk ((by rw [hg]; exact Nat.ne_of_gt (zca (g := gb101) (o := .cells #[.int .i64 a0_0, .int .i64 a0_1, .int .i64 a0_2, .int .i64 a0_3] 120 (0, 0)) (by (with_reducible repeat (first | refine zbl ?_ _ | refine zbn ?_ | refine zbm ?_ _)); exact BK101.out)) : gb103 ≠ gb101)); have n8_ := zaa.mk ((by rw [hg]; exact Nat.ne_of_lt (zca (g := gb102) (o := .cells #[.int .i64 a1_0, .int .i64 a1_1, .int .i64 a1_2, .int .i64 a1_3] 120 (0, 0)) (by (with_reducible repeat (first | refine zbl ?_ _ | refine zbn ?_ | refine zbm ?_ _)); exact BK102.out)) : gb102 ≠ gb103)); have n9_ := zaa.mk ((by rw [hg]; exact Nat.ne_of_gt (zca (g := gb102) (o := .cells #[.int .i64 a1_0, .int .i64 a1_1, .int .i64 a1_2, .int .i64 a1_3] 120 (0, 0)) (by (with_reducible repeat (first | refine zbl ?_ _ | refine zbn ?_ | refine zbm ?_ _)); exact BK102.out)) : gb103 ≠ gb102)); clear BK101; clear BK102; clear HB; have BK101 := n0_; have BK102 := n1_; have HB := n2_; have BK103 := n3_; have GW103 := n4_; have GE103 := n5_; have NB101_103 := n6_; have NB103_101 := n7_; have NB102_103 := n8_; have NB103_102 := n9_; clear n0_ n1_ n2_ n3_ n4_ n5_ n6_ n7_ n8_ n9_; clear hb hbox hg; have hnb10 := NB101_102.out; have hnc10 := NB102_101.out; have hnb11 := NB101_103.out; have hnc11 := NB103_101.out; have hcz12_0 : w9.cell? ⟨gb101, 0, none⟩ = some (.int .i64 a0_0) := (zat BK101.out 0).trans rfl; have hcz12_1 : w9.cell? ⟨gb101, 1, none⟩ = some (.int .i64 a0_1) := (zat BK101.out 1).trans rfl; have hcz12_2 : w9.cell? ⟨gb101, 2, none⟩ = some (.int .i64 a0_2) := (zat BK101.out 2).trans rfl; have hcz12_3 : w9.cell? ⟨gb101, 3, none⟩ = some (.int .i64 a0_3) := (zat BK101.out 3).trans rfl; have hfz12_0 := zay BK101.out 0; have hfz12_1 := zay BK101.out 1; have hfz12_2 := zay BK101.out 2; have hfz12_3 := zay BK101.out 3; have hnb13 := NB102_103.out; have hnc13 := NB103_102.out; have hcz14_0 : w9.cell? ⟨gb102, 0, none⟩ = some (.int .i64 a1_0) := (zat BK102.out 0).trans rfl; have hcz14_1 : w9.cell? ⟨gb102, 1, none⟩ = some (.int .i64 a1_1) := (zat BK102.out 1).trans rfl; have hcz14_2 : w9.cell? ⟨gb102, 2, none⟩ = some (.int .i64 a1_2) := (zat BK102.out 2).trans rfl; have hcz14_3 : w9.cell? ⟨gb102, 3, none⟩ = some (.int .i64 a1_3) := (zat BK102.out 3).trans rfl; have hfz14_0 := zay BK102.out 0; have hfz14_1 := zay BK102.out 1; have hfz14_2 := zay BK102.out 2; have hfz14_3 := zay BK102.out 3; have hcz15_0 : w9.cell? ⟨gb103, 0, none⟩ = some (.int .i64 0) := (zat BK103.out 0).trans rfl; have hcz15_1 : w9.cell? ⟨gb103, 1, none⟩ = some (.int .i64 0) := (zat BK103.out 1).trans rfl; have hcz15_2 : w9.cell? ⟨gb103, 2, none⟩ = some (.int .i64 0) := (zat BK103.out 2).trans rfl; have hcz15_3 : w9.cell? ⟨gb103, 3, none⟩ = some (.int .i64 0) := (zat BK103.out 3).trans rfl; have hfz15_0 := zay BK103.out 0; have hfz15_1 := zay BK103.out 1; have hfz15_2 := zay BK103.out 2; have hfz15_3 := zay BK103.out 3)); try go_wp2_with (first | ((with_reducible refine zbb (N := 2) rfl ?_); refine zcb ?hg (N := 2) ?hd (cs := #[.int .i64 a0_0, .int .i64 a0_1, .int .i64 a0_2, .int .i64 a0_3]) (t := 120) ?hr ?_; (case hd => rfl); (case hg => rfl); (case hr => first | (go_simp; done) | (go_simp; rfl)); intro gb101 hg w7 hbox hb; have n0_ := zaa.mk (zae (by repeat (first | (with_reducible first | exact HB.out | apply zac | apply zab | apply zad) | exact HB.out)) hb); have n1_ := zaa.mk (hbox); have n2_ := zaa.mk ((by rw [hg]; exact (zaq (by repeat (first | (with_reducible first | exact HB.out | apply zac | apply zab | apply zad) | exact HB.out))) : w.heap.size ≤ gb101)); have n3_ := zaa.mk ((by rw [hg]; exact (zaq (by repeat (first | (with_reducible first | exact HB.out | apply zac | apply zab | apply zad) | exact HB.out))) : w.heap.size ≤ gb101)); clear HB; have HB := n0_; have BK101 := n1_; have GW101 := n2_; have GE101 := n3_; clear n0_ n1_ n2_ n3_; clear hb hbox hg) | ((with_reducible refine zbb (N := 3) rfl ?_); refine zcb ?hg (N := 3) ?hd (cs := #[.int .i64 a1_0, .int .i64 a1_1, .int .i64 a1_2, .int .i64 a1_3]) (t := 120) ?hr ?_; (case hd => rfl); (case hg => rfl); (case hr => first | (go_simp; done) | (go_simp; rfl)); intro gb102 hg w8 hbox hb; have n0_ := zaa.mk (blk_below (g := gb101) (o := .cells #[.int .i64 a0_0, .int .i64 a0_1, .int .i64 a0_2, .int .i64 a0_3] 120 (0, 0)) (by (with_reducible repeat (first | refine zbl ?_ _ | refine zbn ?_ | refine zbm ?_ _)); exact BK101.out) hb); have n1_ := zaa.mk (zae (by repeat (first | (with_reducible first | exact HB.out | apply zac | apply zab | apply zad | refine zaj ?_ GE101.out) | exact HB.out)) hb); have n2_ := zaa.mk (hbox); have n3_ := zaa.mk ((by rw [hg]; exact (zaq (by repeat (first | (with_reducible first | exact HB.out | apply zac | apply zab | apply zad | refine zaj ?_ GE101.out) | exact HB.out))) : w.heap.size ≤ gb102)); have n4_ := zaa.mk ((by rw [hg]; exact (zaq (by repeat (first | (with_reducible first | exact HB.out | apply zac | apply zab | apply zad | refine zaj ?_ GE101.out) | exact HB.out))) : w.heap.size ≤ gb102)); have n5_ := zaa.mk ((by rw [hg]; exact Nat.ne_of_lt (zca (g := gb101) (o := .cells #[.int .i64 a0_0, .int .i64 a0_1, .int .i64 a0_2, .int .i64 a0_3] 120 (0, 0)) (by (with_reducible repeat (first | refine zbl ?_ _ | refine zbn ?_ | refine zbm ?_ _)); exact BK101.out)) : gb101 ≠ gb102)); have n6_ := zaa.mk ((by rw [hg]; exact Nat.ne_of_gt (zca (g := gb101) (o := .cells #[.int .i64 a0_0, .int .i64 a0_1, .int .i64 a0_2, .int .i64 a0_3] 120 (0, 0)) (by (with_reducible repeat (first | refine zbl ?_ _ | refine zbn ?_ | refine zbm ?_ _)); exact BK101.out)) : gb102 ≠ gb101)); clear BK101; clear HB; have BK101 := n0_; have HB := n1_; have BK102 := n2_; have GW102 := n3_; have GE102 := n4_; have NB101_102 := n5_; have NB102_101 := n6_; clear n0_ n1_ n2_ n3_ n4_ n5_ n6_; clear hb hbox hg) | ((with_reducible refine zbb (N := 4) rfl ?_); refine zcb ?hg (N := 4) ?hd (cs := #[.int .i64 0, .int .i64 0, .int .i64 0, .int .i64 0]) (t := 120) ?hr ?_; (case hd => rfl); (case hg => rfl); (case hr => first | (go_simp; done) | (go_simp; rfl)); intro gb103 hg w9 hbox hb; have n0_ := zaa.mk (blk_below (g := gb101) (o := .cells #[.int .i64 a0_0, .int .i64 a0_1, .int .i64 a0_2, .int .i64 a0_3] 120 (0, 0)) (by (with_reducible repeat (first | refine zbl ?_ _ | refine zbn ?_ | refine zbm ?_ _)); exact BK101.out) hb); have n1_ := zaa.mk (blk_below (g := gb102) (o := .cells #[.int .i64 a1_0, .int .i64 a1_1, .int .i64 a1_2, .int .i64 a1_3] 120 (0, 0)) (by (with_reducible repeat (first | refine zbl ?_ _ | refine zbn ?_ | refine zbm ?_ _)); exact BK102.out) hb); have n2_ := zaa.mk (zae (by repeat (first | (with_reducible first | exact HB.out | apply zac | apply zab | apply zad | refine zaj ?_ GE101.out | refine zaj ?_ GE102.out) | exact HB.out)) hb); have n3_ := zaa.mk (hbox); have n4_ := zaa.mk ((by rw [hg]; exact (zaq (by repeat (first | (with_reducible first | exact HB.out | apply zac | apply zab | apply zad | refine zaj ?_ GE101.out | refine zaj ?_ GE102.out) | exact HB.out))) : w.heap.size ≤ gb103)); have n5_ := zaa.mk ((by rw [hg]; exact (zaq (by repeat (first | (with_reducible first | exact HB.out | apply zac | apply zab | apply zad | refine zaj ?_ GE101.out | refine zaj ?_ GE102.out) | exact HB.out))) : w.heap.size ≤ gb103)); have n6_ := zaa.mk ((by rw [hg]; exact Nat.ne_of_lt (zca (g := gb101) (o := .cells #[.int .i64 a0_0, .int .i64 a0_1, .int .i64 a0_2, .int .i64 a0_3] 120 (0, 0)) (by (with_reducible repeat (first | refine zbl ?_ _ | refine zbn ?_ | refine zbm ?_ _)); exact BK101.out)) : gb101 ≠ gb103)); have n7_ := zaa.mk ((by rw [hg]; exact Nat.ne_of_gt (zca (g := gb101) (o := .cells #[.int .i64 a0_0, .int .i64 a0_1, .int .i64 a0_2, .int .i64 a0_3] 120 (0, 0)) (by (with_reducible repeat (first | refine zbl ?_ _ | refine zbn ?_ | refine zbm ?_ _)); exact BK101.out)) : gb103 ≠ gb101)); have n8_ := zaa.mk ((by rw [hg]; exact Nat.ne_of_lt (zca (g := gb102) (o := .cells #[.int .i64 a1_0, .int .i64 a1_1, .int .i64 a1_2, .int .i64 a1_3] 120 (0, 0)) (by (with_reducible repeat (first | refine zbl ?_ _ | refine zbn ?_ | refine zbm ?_ _)); exact BK102.out)) : gb102 ≠ gb103)); have n9_ := zaa.mk ((by rw [hg]; exact Nat.ne_of_gt (zca (g := gb102) (o := .cells #[.int .i64 a1_0, .int .i64 a1_1, .int .i64 a1_2, .int .i64 a1_3] 120 (0, 0)) (by (with_reducible repeat (first | refine zbl ?_ _ | refine zbn ?_ | refine zbm ?_ _)); exact BK102.out)) : gb103 ≠ gb102)); clear BK101; clear BK102; clear HB; have BK101 := n0_; have BK102 := n1_; have HB := n2_; have BK103 := n3_; have GW103 := n4_; have GE103 := n5_; have NB101_103 := n6_; have NB103_101 := n7_; have NB102_103 := n8_; have NB103_102 := n9_; clear n0_ n1_ n2_ n3_ n4_ n5_ n6_ n7_ n8_ n9_; clear hb hbox hg; have hnb10 := NB101_102.out; have hnc10 := NB102_101.out; have hnb11 := NB101_103.out; have hnc11 := NB103_101.out; have hcz12_0 : w9.cell? ⟨gb101, 0, none⟩ = some (.int .i64 a0_0) := (zat BK101.out 0).trans rfl; have hcz12_1 : w9.cell? ⟨gb101, 1, none⟩ = some (.int .i64 a0_1) := (zat BK101.out 1).trans rfl; have hcz12_2 : w9.cell? ⟨gb101, 2, none⟩ = some (.int .i64 a0_2) := (zat BK101.out 2).trans rfl; have hcz12_3 : w9.cell? ⟨gb101, 3, none⟩ = some (.int .i64 a0_3) := (zat BK101.out 3).trans rfl; have hfz12_0 := zay BK101.out 0; have hfz12_1 := zay BK101.out 1; have hfz12_2 := zay BK101.out 2; have hfz12_3 := zay BK101.out 3; have hnb13 := NB102_103.out; have hnc13 := NB103_102.out; have hcz14_0 : w9.cell? ⟨gb102, 0, none⟩ = some (.int .i64 a1_0) := (zat BK102.out 0).trans rfl; have hcz14_1 : w9.cell? ⟨gb102, 1, none⟩ = some (.int .i64 a1_1) := (zat BK102.out 1).trans rfl; have hcz14_2 : w9.cell? ⟨gb102, 2, none⟩ = some (.int .i64 a1_2) := (zat BK102.out 2).trans rfl; have hcz14_3 : w9.cell? ⟨gb102, 3, none⟩ = some (.int .i64 a1_3) := (zat BK102.out 3).trans rfl; have hfz14_0 := zay BK102.out 0; have hfz14_1 := zay BK102.out 1; have hfz14_2 := zay BK102.out 2; have hfz14_3 := zay BK102.out 3; have hcz15_0 : w9.cell? ⟨gb103, 0, none⟩ = some (.int .i64 0) := (zat BK103.out 0).trans rfl; have hcz15_1 : w9.cell? ⟨gb103, 1, none⟩ = some (.int .i64 0) := (zat BK103.out 1).trans rfl; have hcz15_2 : w9.cell? ⟨gb103, 2, none⟩ = some (.int .i64 0) := (zat BK103.out 2).trans rfl; have hcz15_3 : w9.cell? ⟨gb103, 3, none⟩ = some (.int .i64 0) := (zat BK103.out 3).trans rfl; have hfz15_0 := zay BK103.out 0; have hfz15_1 := zay BK103.out 1; have hfz15_2 := zay BK103.out 2; have hfz15_3 := zay BK103.out 3)))
 refine bodyPost_ret (results_cell_row rfl _ _ gb103 120 #[.int .i64 ji3, .int .i64 ji4, .int .i64 (wrap64 ((ji5) - (ji3))), .int .i64 (wrap64 ((ji6) - (ji4)))] (0, 0) _ rfl (by (with_reducible repeat (first | refine zbl ?_ _ | refine zbn ?_ | refine zbm ?_ _)); refine blk_put (cs := #[.int .i64 ji3, .int .i64 ji4, .int .i64 (wrap64 ((ji5) - (ji3))), .int .i64 0]) ?_ 3 _ rfl; (with_reducible repeat (first | refine zbl ?_ _ | refine zbn ?_ | refine zbm ?_ _)); refine blk_put (cs := #[.int .i64 ji3, .int .i64 ji4, .int .i64 0, .int .i64 0]) ?_ 2 _ rfl; (with_reducible repeat (first | refine zbl ?_ _ | refine zbn ?_ | refine zbm ?_ _)); refine blk_put (cs := #[.int .i64 ji3, .int .i64 0, .int .i64 0, .int .i64 0]) ?_ 1 _ rfl; (with_reducible repeat (first | refine zbl ?_ _ | refine zbn ?_ | refine zbm ?_ _)); refine blk_put (cs := #[.int .i64 0, .int .i64 0, .int .i64 0, .int .i64 0]) ?_ 0 _ rfl; (with_reducible repeat (first | refine zbl ?_ _ | refine zbn ?_ | refine zbm ?_ _)); exact BK103.out) Try.underlying120 rfl (by kernel_rfl)) rfl ?_
 exact ⟨by first | rfl | (simp [zao, zan] <;> rfl) | (simp only [← hji3, ← hji4, ← hji5, ← hji6]; first | rfl | (simp [zao, zan] <;> rfl)) | (simp [*, zao, zan] <;> rfl), by repeat (first | (with_reducible first | exact HB.out | apply zac | apply zab | apply zad | refine zaj ?_ GE101.out | refine zaj ?_ GE102.out | refine zaj ?_ GE103.out) | exact HB.out)⟩
end Go.Proofs.Ytickdcegnlldjaa.PC
namespace Go.Proofs.Ytickdcegnlldjaa.Hd
open Go.RowKit Go.PW.PrintWords Go.PW.PrintLast Go.PW.PrintMore
def BRow (W : World) (base : Nat) (g : Nat) (cap : Nat) (e : TypeId) (xs : List Int) : Prop :=
 ∃ (cur : Array Value), base ≤ g ∧ W.heap[g]? = some (.cells cur e (cur.size, cur.size + 1)) ∧ xs.length ≤ cur.size ∧ cur.toList.take xs.length = nums .u8 xs
section
variable {W : World} {base g cap : Nat} {e : TypeId} {xs : List Int}
theorem BRow.cell (h : BRow W base g cap e xs) (i : Nat) (hi : i < xs.length) : W.cell? ⟨g, i, none⟩ = some (.int .u8 (xs.getD i 0)) ∧ W.frozen? ⟨g, i, none⟩ = false := by
 obtain ⟨cur, hb, hg, hl, ht⟩ := h
 have h1 : cur.toList[i]? = some (.int .u8 (xs.getD i 0)) := by
  have h2 : (cur.toList.take xs.length)[i]? = some (.int .u8 (xs.getD i 0)) := by
   rw [ht]; simp [nums, yau, hi]
  rw [List.getElem?_take] at h2
  simpa [hi] using h2
 constructor
 ·simp only [World.cell?, hg]
  simpa using h1
 ·have : ¬ cur.size ≤ i := by omega
  simp [World.frozen?, hg, this]
theorem BRow.set (h : BRow W base g cap e xs) (i : Nat) (x : Int) : BRow (W.setCell ⟨g, i, none⟩ (.int .u8 x)) base g cap e (xs.set i x) := by
 obtain ⟨cur, hb, hg, hl, ht⟩ := h
 refine ⟨cur.setIfInBounds i (.int .u8 x), hb, ?_, ?_, ?_⟩
 ·simp [World.setCell, Array.getElem?_modify, hg]
 ·simpa using hl
 ·rw [Array.toList_setIfInBounds, List.length_set, List.take_set, ht]
  simp [nums]
theorem BRow.typed (h : BRow W base g cap e xs) : ∃ cur fz, W.heap[g]? = some (.cells cur e fz) := by
 obtain ⟨cur, hb, hg, hl, ht⟩ := h
 exact ⟨cur, _, hg⟩
theorem BRow.base_le (h : BRow W base g cap e xs) : base ≤ g := h.choose_spec.1
theorem BRow.lt (h : BRow W base g cap e xs) : g < W.heap.size := by
 obtain ⟨cur, hb, hg, hl, ht⟩ := h
 exact (Array.getElem?_eq_some_iff.1 hg).1
theorem BRow.move (h : BRow W base g cap e xs) {W1 : World} (hm : W1.heap[g]? = W.heap[g]?) : BRow W1 base g cap e xs := by
 obtain ⟨cur, hb, hg, hl, ht⟩ := h
 exact ⟨cur, hb, hm.trans hg, hl, ht⟩
theorem BRow.lower (h : BRow W base g cap e xs) {base' : Nat} (hb' : base' ≤ base) : BRow W base' g cap e xs := by
 obtain ⟨cur, hb, hg, hl, ht⟩ := h
 exact ⟨cur, Nat.le_trans hb' hb, hg, hl, ht⟩
theorem BRow.reads (h : BRow W base g cap e xs) (hm : xs.length ≤ 9223372036854775807) : (Kd.int .u8).C W (some ⟨g, 0, none⟩) xs.length xs := by
 refine ⟨rfl, hm, fun _ => ⟨_, rfl, fun j p hj => ?_⟩⟩
 have hjl := (List.getElem?_eq_some_iff.1 hj).1
 refine ⟨[.int .u8 p], rfl, rfl, fun i u hu => ?_⟩
 have hi : i = 0 := by
  rcases Nat.eq_zero_or_pos i with h0 | h0
  ·exact h0
  ·rw [List.getElem?_eq_none (by simp; omega)] at hu; cases hu
 subst hi
 have hu' : Value.int .u8 p = u := by simpa using hu
 subst hu'
 have h1 := (h.cell j hjl).1
 rw [yau, hj] at h1
 show W.cell? ((⟨g, 0, none⟩ : Addr).add (j * 1 + 0)) = _
 rw [Nat.mul_one, Nat.add_zero, add_plain]
 exact h1
end
theorem R_typesF {α : Type} {d : Kd α} {e : Nat} {w : World} {base : Nat} {ok : Nat → Prop} {v : Value} {xs : List α} (h : d.R e w base ok v xs) {g t : Nat} {cells : Array Value} {fz : Nat × Nat} (hb : w.heap[g]? = some (.cells cells t fz)) (ht : ∀ q, q ∈ e :: d.E → q ≠ t) : d.R e w base (fun k => ok k ∧ k ≠ g) v xs :=
 Kd.R_mono (Kd.R_bound h) (fun k hk => ⟨hk.1, by
  obtain ⟨_, _, _, q, hq, cells', hc⟩ := hk
  rintro rfl
  rw [hc] at hb
  injection hb with hb
  injection hb with _ hb
  exact ht q hq hb⟩)
theorem R_setF {α : Type} {d : Kd α} {e : Nat} {w : World} {base : Nat} {ok : Nat → Prop} {v : Value} {xs : List α} (h : d.R e w base ok v xs) {g t : Nat} {cells : Array Value} {fz : Nat × Nat} (hb : w.heap[g]? = some (.cells cells t fz)) (ht : ∀ q, q ∈ e :: d.E → q ≠ t) (j : Nat) (u : Value) : d.R e (w.setCell ⟨g, j, none⟩ u) base ok v xs :=
 Kd.R_mono (Kd.R_far (p := ⟨g, j, none⟩) (R_typesF h hb ht) (fun _ hk => hk.2) u) (fun _ hk => hk.1)
section
variable {P : Program} {ops : Array Oper} {rest : List Oper} {o : Oper} {a : Act} {Q : Exit → Act → World → Prop}
theorem conv_event {W : World} (hgd : o.guard = none) {N : Tmp} (_hd : o.dst = some N) {src dst e : TypeId} {x : Operand} {s : ByteArray} {u : TypeDesc} (ho : o.op = .convert src dst x) (hx : a.eval x = .string s)
  (hs : P.underlying src = some u) (hdst : P.underlying dst = some (.slice e)) (he : P.underlying e = some (.int .u8))
  (h : ∀ g cap w1, g = W.heap.size → BRow w1 W.heap.size g cap e (bytesOf s) → Below W.heap.size W w1 → wpList P ops Q rest (a.put o.dst (.slice (some ⟨g, 0, none⟩) s.size cap)) w1) : wpList P ops Q (o :: rest) a W := by
 refine Kd.event_run hgd (w1 := Lib.bytesWorld W e s) ?_ (h W.heap.size (grownCap W s.size 0 e) _ rfl ?_ ?_)
 ·simp only [execOp, ho, hx]
  have := Lib.run_convert_string_bytes (P := P) W src dst e s hs hdst he
  simp [this]
 ·refine ⟨Lib.bytesCells W e s, yay _, Lib.bytesWorld_at_new W e s, ?_, ?_⟩
  ·simp [Lib.bytesCells, bytesOf]
  ·simp [Lib.bytesCells, bytesOf, nums]
 ·refine ⟨?_, ?_, ?_, ?_, fun k hk => Lib.bytesWorld_at_old W e s k hk⟩
  ·simp [Lib.bytesWorld, World.freeze, World.alloc, World.drew, -World.alloc_eq, -World.drew_eq]
  ·simp [Lib.bytesWorld, World.freeze, World.alloc, World.drew, -World.alloc_eq, -World.drew_eq]
  ·simp [Lib.bytesWorld, World.freeze, World.alloc, World.drew, -World.alloc_eq, -World.drew_eq]
  ·rw [Lib.bytesWorld_size]; omega
end
end Go.Proofs.Ytickdcegnlldjaa.Hd
namespace Go.Proofs.Ytickdcegnlldjaa.Hd
open Go.RowKit Go.PW.PrintWords Go.PW.PrintLast Go.PW.PrintMore Go.Proofs.Ytickdcegnlldjaa.PB
def putN (xs : List Int) (l n : Nat) (c : Int) : List Int := xs.mapIdx fun k x => if l ≤ k ∧ k < l + n then c else x
def putS (s : ByteArray) (l n : Nat) (c : Int) : ByteArray := strOfNums (putN (bytesOf s) l n c)
def putR (xs : List ByteArray) (t n l m : Nat) (c : Int) : List ByteArray := xs.mapIdx fun k s => if t ≤ k ∧ k < t + n then putS s l m c else s
theorem putN_length (xs : List Int) (l n : Nat) (c : Int) : (putN xs l n c).length = xs.length := by simp [putN]
theorem putN_zero (xs : List Int) (l : Nat) (c : Int) : putN xs l 0 c = xs := by
 unfold putN
 apply List.ext_getElem
 ·simp
 ·intro i h1 h2
  simp only [List.getElem_mapIdx]
  rw [if_neg (by omega)]
theorem putN_succ (xs : List Int) (l n : Nat) (c : Int) : (putN xs l n c).set (l + n) c = putN xs l (n + 1) c := by
 unfold putN
 apply List.ext_getElem
 ·simp
 ·intro i h1 h2
  rw [List.getElem_set]
  simp only [List.getElem_mapIdx]
  by_cases h : l + n = i
  ·rw [if_pos h, if_pos (by omega)]
  ·rw [if_neg h]
   by_cases h3 : l ≤ i ∧ i < l + n
   ·rw [if_pos h3, if_pos (by omega)]
   ·rw [if_neg h3, if_neg (by omega)]
theorem putR_length (xs : List ByteArray) (t n l m : Nat) (c : Int) : (putR xs t n l m c).length = xs.length := by simp [putR]
theorem putR_zero (xs : List ByteArray) (t l m : Nat) (c : Int) : putR xs t 0 l m c = xs := by
 unfold putR
 apply List.ext_getElem
 ·simp
 ·intro i h1 h2
  simp only [List.getElem_mapIdx]
  rw [if_neg (by omega)]
theorem putR_succ (xs : List ByteArray) (t n l m : Nat) (c : Int) : (putR xs t n l m c).set (t + n) (putS (xs.getD (t + n) yav) l m c) = putR xs t (n + 1) l m c := by
 unfold putR
 apply List.ext_getElem
 ·simp
 ·intro i h1 h2
  rw [List.getElem_set]
  simp only [List.getElem_mapIdx]
  by_cases h : t + n = i
  ·subst h
   rw [if_pos rfl, if_pos (by omega)]
   congr 1
   have h3 : t + n < xs.length := by simpa using h2
   simp [yau, h3]
  ·rw [if_neg h]
   by_cases h3 : t ≤ i ∧ i < t + n
   ·rw [if_pos h3, if_pos (by omega)]
   ·rw [if_neg h3, if_neg (by omega)]
theorem putR_at (xs : List ByteArray) (t n l m : Nat) (c : Int) : (putR xs t n l m c).getD (t + n) yav = xs.getD (t + n) yav := by
 unfold putR
 simp only [yau, List.getElem?_mapIdx]
 cases h : xs[t + n]? with
 | none => rfl
 | some x =>
  simp only [Option.map_some, Option.getD_some]
  rw [if_neg (by omega)]
def putOk (l0 : List ByteArray) (t l h m : Int) (c : Int) : Bool :=
 decide (0 ≤ t) && decide (0 ≤ l) && decide (0 ≤ h) && decide (0 ≤ m) && decide (0 ≤ c) && decide (c ≤ 255) && decide (l0.length ≤ 1048576) && decide (t + h ≤ l0.length) && decide (l ≤ 1048576) && decide (m ≤ 1048576) && (l0.all fun s => decide (l + m ≤ s.size) && decide (s.size ≤ 1048576))
def spec_l1Put.f (l0 : List ByteArray) (a1 a2 a3 a4 a5 : Int) : Option (List ByteArray) :=
 if putOk l0 a1 a2 a3 a4 a5 = true then some (putR l0 a1.toNat a3.toNat a2.toNat a4.toNat a5) else none
set_option maxHeartbeats 4000000 in
set_option maxRecDepth 100000 in
theorem l1Put_walk (A0 : Option Addr) (c0 : Nat) (l0 : List ByteArray) (t l h m : Nat) (c : Int) (w : World) (hr0 : Kd.C Kd.string w A0 l0.length l0) (hc0 : l0.length ≤ c0)
  (hc : 0 ≤ c) (hc2 : c ≤ 255) (hlen : l0.length ≤ 1048576) (hth : t + h ≤ l0.length) (hlb : l ≤ 1048576) (hmb : m ≤ 1048576) (hs : ∀ i, i < l0.length → l + m ≤ (l0.getD i yav).size ∧ (l0.getD i yav).size ≤ 1048576) :
  Calls Try.prog 127 #[.slice A0 l0.length c0, .int .i64 t, .int .i64 l, .int .i64 h, .int .i64 m, .int .u8 c] w fun e w' => ∃ v0_ : Value, e = .returned (v0_) ∧ Kd.R Kd.string 9 w' w.heap.size (fun _ => True) v0_ (putR l0 t h l m c) ∧ Below w.heap.size w w' := by
 have HR0 := zaa.mk hr0
 have HC0 := zaa.mk hc0
 have HS := zaa.mk hs
 clear hr0 hc0 hs
 have HB := zaa.mk (Below.refl w.heap.size w)
 have ht0 : (0 : Int) ≤ t := by omega
 have ht1 : (t : Int) ≤ 1048576 := by omega
 have hh0 : (0 : Int) ≤ h := by omega
 have hh1 : (h : Int) ≤ 1048576 := by omega
 have hl0 : (0 : Int) ≤ l := by omega
 have hl1 : (l : Int) ≤ 1048576 := by omega
 have hm0 : (0 : Int) ≤ m := by omega
 have hm1 : (m : Int) ≤ 1048576 := by omega
 go_enter Try.func127, Try.ntmps127
 go_wp2_with (first
  | ((with_reducible refine zbb (N := 17) rfl ?_); refine Kd.R_lit Kd.string _ 9 ?hg (N := 17) ?hd (xs := ([] : List ByteArray)) (inner := []) (ok := fun _ => True) (okp := fun _ => True) ?hr ?hp (fun _ hk => hk) trivial (Below.refl _ _) (yay _) (by simp) ?_; (case hd => rfl); (case hg => rfl); (case hr => first | (go_simp; done) | (go_simp; rfl)); (case hp => exact (Reps.none _ _)); intro v1 w1 ho hb hg_ hnew_; clear hg_ hnew_; have HO1 := zaa.mk (Kd.R_lower ho (zaq HB.out)); have n1_ := zaa.mk (zae HB.out hb); clear HB; have HB := n1_; clear n1_; clear hb ho)
  | ((with_reducible refine zba (b := .append) (xs := #[.tmp 17, .tmp 18]) rfl ?_); at_builtin; refine Kd.R_append_rows Kd.string (w0 := w) w.heap.size rfl (.tmp 17) (.tmp 18) 22 9 (.string ⟨#[]⟩) 16 rfl Try.underlying22 info9 rfl (by decide) (by omega) v1 [] l0 _ _ _ (fun _ => True) (fun _ => False) rfl rfl ?aO ?aR (fun _ _ h => h) (fun _ h => h.elim) ?aF ?aB ?aS ?aL ?_; (case aR => exact Kd.C_below HR0.out HB.out); (case aB => exact HB.out); (case aF => exact (fun _ _ => trivial)); (case aO => exact HO1.out); (case aS => exact zaq HB.out); (case aL => simp; omega); intro v2 w2 ho hb hg hat; have n0_ := zaa.mk hb; have HO2 := zaa.mk ho; clear HB; clear HO1; have HB := n0_; clear n0_; clear ho hb hg hat))
 go_loopg [14] h (fun kq v14 w' => ∃ j : Nat, v14 = .int .i64 ((t : Int) + j) ∧ zaa (j + kq = h) ∧ zaa (Kd.R Kd.string 9 w' w.heap.size (fun _ => True) v2 (putR l0 t j l m c)) ∧ zaa (Below w.heap.size w w'))
 case atStart => exact ⟨0, by simp, ⟨by omega⟩, ⟨by rw [putR_zero]; simpa using HO2.out⟩, ⟨HB.out⟩⟩
 case round =>
  clear HO2 HB
  obtain ⟨j, rfl, HK, HO, HB⟩ := hrel
  by_cases hj : j < h
  ·have hlt : (t : Int) + j < t + h := by omega
   have hj0 : (0 : Int) ≤ (t : Int) + j := by omega
   have hj1 : (t : Int) + j ≤ 1048576 := by omega
   have hjl : t + j < l0.length := by omega
   have HLR := zaa.mk (putR_length l0 t j l m c)
   have hjl2 : (t : Int) + j < ((putR l0 t j l m c).length : Int) := by have := HLR.out; omega
   obtain ⟨g3, c3, e3, b3, l3, cl3, hg3⟩ := Kd.R_form HO.out (by have := HLR.out; omega)
   subst e3
   clear hg3 l3
   have B3 := zaa.mk b3
   obtain ⟨hx3, hf3⟩ := Kd.R_celln (⟨#[]⟩ : ByteArray) HO.out ((t : Int) + j) (by omega) (by omega)
   rw [show (((t : Int) + j).toNat) = t + j by omega, show rdOf (⟨#[]⟩ : ByteArray) (putR l0 t j l m c) ((t : Int) + j) = l0.getD (t + j) yav by unfold rdOf; rw [show (((t : Int) + j).toNat) = t + j by omega]; exact putR_at l0 t j l m c] at hx3
   rw [show (((t : Int) + j).toNat) = t + j by omega] at hf3
   generalize hs : l0.getD (t + j) yav = s at hx3
   have HSJ := zaa.mk hs
   have hss := HS.out (t + j) hjl
   rw [hs] at hss
   clear hs
   go_wp2_with (first
    | ((with_reducible refine zbb (N := 32) rfl ?_); refine conv_event (P := Try.prog) rfl (N := 32) rfl (src := 9) (dst := 32) (e := 5) (s := s) rfl rfl Try.underlying9 Try.underlying32 Try.underlying5 ?_; intro g4 c4 w4 hg4 hrow hb; have HRow := zaa.mk (hrow.lower (zaq HB.out)); have n1_ := zaa.mk (zae HB.out hb); have HO4 := zaa.mk (Kd.R_below HO.out hb); clear HB HO; have HB := n1_; have HO := HO4; clear n1_ HO4; clear hb hrow hg4 hx3 hf3))
   go_loopg [16] m (fun kq v16 w' => ∃ i : Nat, v16 = .int .i64 ((l : Int) + i) ∧ zaa (i + kq = m) ∧ zaa (BRow w' w.heap.size g4 c4 5 (putN (bytesOf s) l i c)) ∧ zaa (Kd.string.R 9 w' w.heap.size (fun x => True) (Value.slice (some { block := g3, off := 0 }) (putR l0 t j l m c).length c3) (putR l0 t j l m c)) ∧ zaa (Below w.heap.size w w'))
   case atStart => exact ⟨0, by simp, ⟨by omega⟩, ⟨by rw [putN_zero]; exact HRow.out⟩, HO, HB⟩
   case round =>
    clear HRow HB HO
    obtain ⟨i, rfl, HK2, HRow, HO, HB⟩ := hrel
    by_cases hi : i < m
    ·have hlt2 : (l : Int) + i < l + m := by omega
     have hi0 : (0 : Int) ≤ (l : Int) + i := by omega
     have hi1 : (l : Int) + i ≤ 2097152 := by omega
     have hsz : (l : Int) + i < s.size := by omega
     have hss1 : (s.size : Int) ≤ 1048576 := by omega
     obtain ⟨hx4, hf4⟩ := HRow.out.cell (l + i) (by rw [putN_length, zbh]; omega)
     have HP := zaa.mk (HRow.out.set (l + i) c)
     go_wp2_with (first | ((with_reducible refine gate_store (t := 5) (p := 44) rfl ?_); refine store_event (t := 5) (p := 44) (v := ?vo) (w1 := (wr.setCell ⟨g4, l + i, none⟩ (.int .u8 c))) ?hg ?ho ?hn ?hr ?_; (case ho => rfl); (case hg => rfl); (case hn => rfl); (case hr => first | (go_simp; done) | (go_simp; rfl)); intro w11 hw; have n0_ := zaa.mk (show BRow w11 w.heap.size g4 c4 5 (putN (bytesOf s) l (i + 1) c) by rw [hw, ← putN_succ]; exact HP.out); have n1_ := zaa.mk (show Kd.string.R 9 w11 w.heap.size (fun x => True) (Value.slice (some { block := g3, off := 0 }) (putR l0 t j l m c).length c3) (putR l0 t j l m c) by rw [hw]; exact R_setF HO.out HRow.out.typed.choose_spec.choose_spec (by decide) _ _); have n2_ := zaa.mk (show Below w.heap.size w w11 by rw [hw]; exact zaj HB.out HRow.out.base_le); clear HRow HO HB HP; have HRow := n0_; have HO := n1_; have HB := n2_; clear n0_ n1_ n2_; clear hw))
     go_roundg (m - (i + 1))
     case measure => have := HK2.out; omega
     case rel => exact ⟨i + 1, by first | rfl | (congr 1; omega), ⟨by have := HK2.out; omega⟩, HRow, HO, HB⟩
    ·have hge : ¬ ((l : Int) + i < l + m) := by omega
     obtain rfl : i = m := by have := HK2.out; omega
     have hstr := Kd.C_string (P := Try.prog) (src := 32) (dst := 9) (c := c4) Try.underlying32 Try.underlying5 Try.underlying9 (HRow.out.reads (by rw [putN_length, zbh]; omega))
     rw [putN_length, zbh] at hstr
     obtain ⟨hx3, hf3⟩ := Kd.R_celln (⟨#[]⟩ : ByteArray) HO.out ((t : Int) + j) (by omega) (by omega)
     rw [show (((t : Int) + j).toNat) = t + j by omega] at hx3 hf3
     have HP := zaa.mk (Kd.R_putg HO.out ((t : Int) + j) (putS s l i c))
     go_wp2
     go_roundg (h - (j + 1))
     case measure => have := HK.out; omega
     case rel => exact ⟨j + 1, by first | rfl | (congr 1; omega), ⟨by have := HK.out; omega⟩, ⟨by rw [← putR_succ, HSJ.out]; have z := HP.out.1; rw [show (((t : Int) + j).toNat) = t + j by omega] at z; exact z⟩, ⟨zaj HB.out B3.out⟩⟩
  ·have hge : ¬ ((t : Int) + j < t + h) := by omega
   obtain rfl : j = h := by have := HK.out; omega
   go_wp2
   go_ret
   exact ⟨_, rfl, HO.out, HB.out⟩
theorem spec_l1Put.calls (A0 : Option Addr) (c0 : Nat) (l0 : List ByteArray) (a1 a2 a3 a4 a5 : Int) (r : List ByteArray) (w : World) (hr0 : Kd.C Kd.string w A0 l0.length l0) (hc0 : l0.length ≤ c0) (h : spec_l1Put.f l0 a1 a2 a3 a4 a5 = some r) :
  Calls Try.prog 127 #[.slice A0 l0.length c0, .int .i64 a1, .int .i64 a2, .int .i64 a3, .int .i64 a4, .int .u8 a5] w fun e w' => ∃ v0_ : Value, e = .returned (v0_) ∧ Kd.R Kd.string 9 w' w.heap.size (fun _ => True) v0_ r ∧ Below w.heap.size w w' := by
 unfold spec_l1Put.f at h
 by_cases hk : putOk l0 a1 a2 a3 a4 a5 = true
 ·rw [if_pos hk] at h
  obtain rfl := Option.some.inj h
  simp only [putOk, Bool.and_eq_true, decide_eq_true_eq, List.all_eq_true] at hk
  obtain ⟨⟨⟨⟨⟨⟨⟨⟨⟨⟨h1, h2⟩, h3⟩, h4⟩, h5⟩, h6⟩, h7⟩, h8⟩, h9⟩, h10⟩, h11⟩ := hk
  obtain ⟨t, rfl⟩ := Int.eq_ofNat_of_zero_le h1
  obtain ⟨l, rfl⟩ := Int.eq_ofNat_of_zero_le h2
  obtain ⟨hh, rfl⟩ := Int.eq_ofNat_of_zero_le h3
  obtain ⟨m, rfl⟩ := Int.eq_ofNat_of_zero_le h4
  simp only [Int.toNat_natCast]
  refine l1Put_walk A0 c0 l0 t l hh m a5 w hr0 hc0 h5 h6 h7 (by omega) (by omega) (by omega) (fun i hi => ?_)
  have := h11 _ (List.getElem_mem hi)
  rw [yau, List.getElem?_eq_getElem hi]
  simp only [Option.getD_some]
  omega
 ·rw [if_neg hk] at h
  cases h
end Go.Proofs.Ytickdcegnlldjaa.Hd
namespace Go.Proofs.Ytickdcegnlldjaa.SM
open Go.Proofs.Ytickdcegnlldjaa.PB Go.Proofs.Ytickdcegnlldjaa.Hd
open Go.RowKit Go.PW.PrintWords Go.PW.PrintLast Go.PW.PrintMore
attribute [local go_sem] zby zbw zcl zck zbq zbp zbx zbv   -- for this text's walks alone
def errW : Option Int → Value
 | none => .nilIface
 | some c => .iface 0 (.int .i64 c)
theorem zao : errW none = .nilIface := rfl
theorem zan (c : Int) : errW (some c) = .iface 0 (.int .i64 c) := rfl
theorem info5 : (Try.prog.info? 5).map (fun i => (i.zero, i.size, i.bytes)) = some (some (.int .u8 0), 1, 1) := by kernel_rfl
theorem info9 : (Try.prog.info? 9).map (fun i => (i.zero, i.size, i.bytes)) = some (some (.string ⟨#[]⟩), 1, 16) := by kernel_rfl
end Go.Proofs.Ytickdcegnlldjaa.SM
