/- Part 3 of the proof of FnCutFirst: what the program's functions and the reference's compute. -/
import Derived.Test.YtaepgogafkmooaaProg
import Derived.Below
import Derived.Deep.Draws
import Derived.Deep.AppendLies
import Derived.Maps.AppendAt
import Derived.OwnWalk
import Derived.Laws.BytesArg
import Derived.Laws.MakeOwn
import Derived.Laws.OwnMore
import Derived.Deep.OwnRows
import Derived.Tactics
import Derived.Lib.ConvBytes
import Derived.Laws.Slices
import Derived.WalkKit
import Derived.KernelRfl
import Derived.RowKit3
import Derived.Deep.LoopGhost
import Derived.Deep.QuietTactic
import Derived.BigQuiet
import Derived.WideLaws
import Derived.Deep.DeepCutAuto
import Derived.Deep.CutBlock
import Derived.Deep.RegionHeld3
import Derived.Laws.Rows
import Derived.Lib.AppendStr
import Derived.ArgAppend
import Derived.Laws.IdiomCopy
import Derived.OrdersHeld
import Derived.Laws.BitsLemmas
import Derived.RowKit
import Derived.Test.YtaepgogafkmooaaCPCAb
set_option linter.unusedSimpArgs false
set_option linter.unusedVariables false
namespace Go.Proofs.Ytaepgogafkmooaa.PB
open Go.RowKit Go.PW.PrintWords Go.PW.PrintLast Go.PW.PrintMore
attribute [local go_sem] zca zby zcj zci zbp zbo zbz zbx   -- for this text's walks alone
mutual
def spec_l1Grid.l0 : Nat → List ByteArray → Int → Option (Bool)
 | 0, _, _ => none
 | k + 1, x0, x3 => if x3 < (x0.length : Int) then (if 0 ≤ x3 then (if 0 < (x0.length : Int) then (if ((rdOf ByteArray.empty x0 x3).size : Int) = ((rdOf ByteArray.empty x0 0).size : Int) then ((spec_l6In.f ((rdOf ByteArray.empty x0 x3).size : Int) 1 6).bind fun t116 => (spec_l1Grid.j1 k x0 x3 (!t116))) else (spec_l1Grid.j1 k x0 x3 true)) else (none)) else (none)) else ((spec_l6In.f (x0.length : Int) 1 6).bind fun t112 => (some t112))
def spec_l1Grid.j1 : Nat → List ByteArray → Int → Bool → Option (Bool)
 | 0, _, _, _ => none
 | k + 1, x0, x3, x29 => if x29 = true then (some false) else (spec_l1Grid.l1 k x0 x3 0)
def spec_l1Grid.l1 : Nat → List ByteArray → Int → Int → Option (Bool)
 | 0, _, _, _ => none
 | k + 1, x0, x3, x4 => if 0 ≤ x3 then (if x3 < (x0.length : Int) then (if x4 < ((rdOf ByteArray.empty x0 x3).size : Int) then (if 0 ≤ x4 then (if (bt (rdOf ByteArray.empty x0 x3) x4) < 97 then (some false) else (if (bt (rdOf ByteArray.empty x0 x3) x4) > 122 then (some false) else (spec_l1Grid.l1 k x0 x3 (wrap64 (x4 + 1))))) else (none)) else (spec_l1Grid.l0 k x0 (wrap64 (x3 + 1)))) else (none)) else (none)
end
def spec_l1Grid.f (k : Nat) (l0 : List ByteArray) : Option (Bool) := spec_l1Grid.l0 k l0 0
set_option maxHeartbeats 8000000 in
set_option maxRecDepth 100000 in
theorem spec_l1Grid.calls (k : Nat) (A0 : Option Addr) (c0 : Nat) (l0 : List ByteArray) (r : Bool) (w : World) (hr0 : Kd.C Kd.string w A0 l0.length l0) (hc0 : l0.length ≤ c0) (h : spec_l1Grid.f k l0 = some r) :
  Calls Try.prog 121 #[.slice A0 l0.length c0] w fun e w' => e = .returned (.bool r) ∧ zbf w w' := by
 have HR0 := zab.mk hr0
 have HC0 := zab.mk hc0
 clear hr0 hc0
 have H : (spec_l1Grid.l0 k l0 0) = some r := h
 clear h
 have H' := zab.mk H
 clear H
 go_enter Try.func121, Try.ntmps121
 go_wp2
 repeat (go_quiet (fail); try go_wp2)
 go_loopg [3] k (fun kq v3 w' => ∃ (x3_1 : Int), v3 = .int .i64 x3_1 ∧ zab (spec_l1Grid.l0 kq l0 x3_1 = some r) ∧ zab (kq ≤ k) ∧ zbf w w')
 case atStart => exact ⟨(0), (by first | rfl | (simp; done) | (simp [*]; done)), H', ⟨Nat.le_refl _⟩, by repeat (first | exact zbf.refl _ | apply zbf.step)⟩
 case round =>
  clear H'
  try clear c1
  obtain ⟨x3_1, rfl, HA, HK1, ⟨m1, rfl⟩⟩ := hrel
  cases gk with
  | zero => exact absurd HA.out (by simp [spec_l1Grid.l0])
  | succ k1 =>
   have H := HA.out
   clear HA
   simp only [spec_l1Grid.l0] at H
   by_cases c2 : x3_1 < (l0.length : Int)
   ·rw [if_pos c2] at H
    have c2b0 : decide (x3_1 < (l0.length : Int)) = true := decide_eq_true c2
    clear c2
    have HC3 := zab.mk H
    clear H
    go_upto_region 4 with (fail)
    repeat (go_quiet (fail); go_upto_region 4 with (fail))
    go_cut [29] (fun v29 wc => ∃ (kq : Nat) (x29_2 : Bool), v29 = .bool x29_2 ∧ zab (spec_l1Grid.j1 kq l0 x3_1 x29_2 = some r) ∧ zab (kq ≤ k1) ∧ zbf w wc)
    case first =>
     have H := HC3.out
     clear HC3
     by_cases c4 : 0 ≤ x3_1
     ·rw [if_pos c4] at H
      have c4b0 : decide (0 ≤ x3_1) = true := decide_eq_true c4
      clear c4
      (first | rw [c4b0] | (simp only [zbc, zbe]; rw [c4b0]) | skip)
      by_cases c5 : 0 < (l0.length : Int)
      ·rw [if_pos c5] at H
       have c5b0 : decide (0 < (l0.length : Int)) = true := decide_eq_true c5
       have c5b1 : decide (0 < l0.length) = true := decide_eq_true (by omega)
       clear c5
       by_cases c6 : ((rdOf ByteArray.empty l0 x3_1).size : Int) = ((rdOf ByteArray.empty l0 0).size : Int)
       ·rw [if_pos c6] at H
        have c6b0 : (((rdOf ByteArray.empty l0 x3_1).size : Int) == ((rdOf ByteArray.empty l0 0).size : Int)) = true := beq_iff_eq.mpr c6
        have c6b1 : (((rdOf ByteArray.empty l0 x3_1).size : Int) != ((rdOf ByteArray.empty l0 0).size : Int)) = false := bne_eq_false_iff_eq.mpr c6
        have c6b2 : ((rdOf ByteArray.empty l0 x3_1).size == (rdOf ByteArray.empty l0 0).size) = true := by first | simpa using c6 | (simp at c6 ⊢; omega)
        clear c6
        replace H := Option.bind_eq_some_iff.mp H
        obtain ⟨t116, A70, H⟩ := H
        replace H : (spec_l1Grid.j1 k1 l0 x3_1 (!t116)) = some r := H
        have A7 := zab.mk A70
        clear A70
        have H' := zab.mk H
        clear H
        have p113 : 0 ≤ (x3_1 : Int) := of_decide_eq_true (by first | (with_reducible assumption) | assumption)
        have q113 : x3_1 < (l0.length : Int) := of_decide_eq_true (by first | (with_reducible assumption) | assumption)
        obtain ⟨ad113, e113, hx113_0⟩ := Kd.at_string HR0.out x3_1 p113 q113
        cases e113
        replace p113 := eq_true p113
        replace q113 := eq_true q113
        have p114 : 0 ≤ (0 : Int) := (by omega)
        have q114 : 0 < (l0.length : Int) := of_decide_eq_true (by first | (with_reducible assumption) | assumption)
        obtain ⟨ad114, e114, hx114_0⟩ := Kd.at_string HR0.out 0 p114 q114
        obtain rfl : ad113 = ad114 := (by injection e114)
        have qi114 : (0 < l0.length) = True := eq_true (by omega)
        (try rw [show ((0 : Int)).toNat = 0 from rfl] at hx114_0)
        (try rw [Addr.add_zero'] at hx114_0)
        replace p114 := eq_true p114
        replace q114 := eq_true q114
        have p115 : 0 ≤ (x3_1 : Int) := of_decide_eq_true (by first | (with_reducible assumption) | assumption)
        have q115 : x3_1 < (l0.length : Int) := of_decide_eq_true (by first | (with_reducible assumption) | assumption)
        obtain ⟨ad115, e115, hx115_0⟩ := Kd.at_string HR0.out x3_1 p115 q115
        obtain rfl : ad113 = ad115 := (by injection e115)
        replace p115 := eq_true p115
        replace q115 := eq_true q115
        go_wp2_with (first | (go_at_call 91; (with_reducible refine (spec_l6In.calls ((rdOf ByteArray.empty l0 x3_1).size : Int) 1 6 t116 _ A7.out).mono ?_); rintro e w' ⟨rfl, ⟨nd, rfl⟩⟩; (try first | exact ⟨rfl, _, World.drewN_drewN _ _ _⟩ | exact ⟨rfl, _, Eq.trans (World.drewN_drewN _ _ _) (congrArg (World.drewN _) (Nat.add_assoc _ _ _))⟩)))
        repeat (go_quiet (first | (go_at_call 91; (with_reducible refine (spec_l6In.calls ((rdOf ByteArray.empty l0 x3_1).size : Int) 1 6 t116 _ A7.out).mono ?_); rintro e w' ⟨rfl, ⟨nd, rfl⟩⟩; (try first | exact ⟨rfl, _, World.drewN_drewN _ _ _⟩ | exact ⟨rfl, _, Eq.trans (World.drewN_drewN _ _ _) (congrArg (World.drewN _) (Nat.add_assoc _ _ _))⟩))); try go_wp2_with (first | (go_at_call 91; (with_reducible refine (spec_l6In.calls ((rdOf ByteArray.empty l0 x3_1).size : Int) 1 6 t116 _ A7.out).mono ?_); rintro e w' ⟨rfl, ⟨nd, rfl⟩⟩; (try first | exact ⟨rfl, _, World.drewN_drewN _ _ _⟩ | exact ⟨rfl, _, Eq.trans (World.drewN_drewN _ _ _) (congrArg (World.drewN _) (Nat.add_assoc _ _ _))⟩))))
        go_meet
        case rel => exact ⟨_, (!t116), (by first | rfl | (simp; done) | (simp [*]; done)), H', ⟨by have := HK1.out; first | omega | exact Nat.le_refl _⟩, by repeat (first | exact zbf.refl _ | apply zbf.step)⟩
       ·rw [if_neg c6] at H
        have c6b0 : (((rdOf ByteArray.empty l0 x3_1).size : Int) == ((rdOf ByteArray.empty l0 0).size : Int)) = false := beq_eq_false_iff_ne.mpr c6
        have c6b1 : (((rdOf ByteArray.empty l0 x3_1).size : Int) != ((rdOf ByteArray.empty l0 0).size : Int)) = true := bne_iff_ne.mpr c6
        have c6b2 : ((rdOf ByteArray.empty l0 x3_1).size == (rdOf ByteArray.empty l0 0).size) = false := by first | simpa using c6 | (simp at c6 ⊢; omega)
        have H' := zab.mk H
        clear H
        have p113 : 0 ≤ (x3_1 : Int) := of_decide_eq_true (by first | (with_reducible assumption) | assumption)
        have q113 : x3_1 < (l0.length : Int) := of_decide_eq_true (by first | (with_reducible assumption) | assumption)
        obtain ⟨ad113, e113, hx113_0⟩ := Kd.at_string HR0.out x3_1 p113 q113
        cases e113
        replace p113 := eq_true p113
        replace q113 := eq_true q113
        have p114 : 0 ≤ (0 : Int) := (by omega)
        have q114 : 0 < (l0.length : Int) := of_decide_eq_true (by first | (with_reducible assumption) | assumption)
        obtain ⟨ad114, e114, hx114_0⟩ := Kd.at_string HR0.out 0 p114 q114
        obtain rfl : ad113 = ad114 := (by injection e114)
        have qi114 : (0 < l0.length) = True := eq_true (by omega)
        (try rw [show ((0 : Int)).toNat = 0 from rfl] at hx114_0)
        (try rw [Addr.add_zero'] at hx114_0)
        replace p114 := eq_true p114
        replace q114 := eq_true q114
        go_wp2
        repeat (go_quiet (fail); try go_wp2)
        go_meet
        case rel => exact ⟨_, (true), (by first | rfl | (simp; done) | (simp [*]; done)), H', ⟨by have := HK1.out; first | omega | exact Nat.le_refl _⟩, by repeat (first | exact zbf.refl _ | apply zbf.step)⟩
      ·rw [if_neg c5] at H
       exact absurd H (by simp)
     ·rw [if_neg c4] at H
      exact absurd H (by simp)
    case rest =>
     clear HC3
     try clear c1
     try clear p1
     try clear q1
     try clear hx1
     try clear qi1
     try clear c2
     try clear c2b0
     try clear p2
     try clear c4
     try clear c4b0
     try clear c5
     try clear c5b0
     try clear c5b1
     try clear c6
     try clear c6b0
     try clear c6b1
     try clear c6b2
     try clear hx113_0
     try clear hx114_0
     try clear hx115_0
     try clear p113
     try clear p114
     try clear p115
     try clear q113
     try clear q114
     try clear q115
     obtain ⟨kq, x29_2, rfl, HA, HJ2, ⟨mc2, rfl⟩⟩ := hcut
     cases kq with
     | zero => exact absurd HA.out (by simp [spec_l1Grid.j1])
     | succ kj2 =>
      have H := HA.out
      clear HA
      simp only [spec_l1Grid.j1] at H
      by_cases c8 : x29_2 = true
      ·subst c8
       have H1 : (some false) = some r := by rw [if_pos rfl] at H; exact H
       clear H
       have H := H1
       clear H1
       obtain rfl := Option.some.inj H
       go_wp2
       repeat (go_quiet (fail); try go_wp2)
       go_ret
       exact ⟨by first | rfl | (simp; done) | (simp [*]; done), by repeat (first | exact zbf.refl _ | apply zbf.step)⟩
      ·replace c8 := Bool.eq_false_iff.mpr c8
       subst c8
       have H1 : (spec_l1Grid.l1 kj2 l0 x3_1 0) = some r := by rw [if_neg (show ¬ (false = true) by decide)] at H; exact H
       clear H
       have H := H1
       clear H1
       have H' := zab.mk H
       clear H
       go_wp2
       repeat (go_quiet (fail); try go_wp2)
       go_loopg [4] kj2 (fun kq v4 w' => ∃ (x4_3 : Int), v4 = .int .i64 x4_3 ∧ zab (spec_l1Grid.l1 kq l0 x3_1 x4_3 = some r) ∧ zab (kq ≤ kj2) ∧ zbf w w')
       case atStart => exact ⟨(0), (by first | rfl | (simp; done) | (simp [*]; done)), H', ⟨Nat.le_refl _⟩, by repeat (first | exact zbf.refl _ | apply zbf.step)⟩
       case round =>
        clear H'
        try clear c1
        try clear p1
        try clear q1
        try clear hx1
        try clear qi1
        try clear c2
        try clear c2b0
        try clear p2
        try clear c4
        try clear c4b0
        try clear c5
        try clear c5b0
        try clear c5b1
        try clear c6
        try clear c6b0
        try clear c6b1
        try clear c6b2
        try clear c8
        try clear hx113_0
        try clear hx114_0
        try clear hx115_0
        try clear p1
        try clear p113
        try clear p114
        try clear p115
        try clear p2
        try clear q1
        try clear q113
        try clear q114
        try clear q115
        obtain ⟨x4_3, rfl, HA, HK3, ⟨m3, rfl⟩⟩ := hrel
        cases gk with
        | zero => exact absurd HA.out (by simp [spec_l1Grid.l1])
        | succ k3 =>
         have H := HA.out
         clear HA
         simp only [spec_l1Grid.l1] at H
         by_cases c9 : 0 ≤ x3_1
         ·rw [if_pos c9] at H
          have c9b0 : decide (0 ≤ x3_1) = true := decide_eq_true c9
          clear c9
          by_cases c10 : x3_1 < (l0.length : Int)
          ·rw [if_pos c10] at H
           have c10b0 : decide (x3_1 < (l0.length : Int)) = true := decide_eq_true c10
           clear c10
           by_cases c11 : x4_3 < ((rdOf ByteArray.empty l0 x3_1).size : Int)
           ·rw [if_pos c11] at H
            have c11b0 : decide (x4_3 < ((rdOf ByteArray.empty l0 x3_1).size : Int)) = true := decide_eq_true c11
            clear c11
            by_cases c12 : 0 ≤ x4_3
            ·rw [if_pos c12] at H
             have c12b0 : decide (0 ≤ x4_3) = true := decide_eq_true c12
             clear c12
             by_cases c14 : (bt (rdOf ByteArray.empty l0 x3_1) x4_3) < 97
             ·rw [if_pos c14] at H
              have c14b0 : decide ((bt (rdOf ByteArray.empty l0 x3_1) x4_3) < 97) = true := decide_eq_true c14
              clear c14
              obtain rfl := Option.some.inj H
              have p117 : 0 ≤ (x3_1 : Int) := of_decide_eq_true (by first | (with_reducible assumption) | assumption)
              have q117 : x3_1 < (l0.length : Int) := of_decide_eq_true (by first | (with_reducible assumption) | assumption)
              obtain ⟨ad117, e117, hx117_0⟩ := Kd.at_string HR0.out x3_1 p117 q117
              cases e117
              replace p117 := eq_true p117
              replace q117 := eq_true q117
              have p118 : 0 ≤ (x3_1 : Int) := of_decide_eq_true (by first | (with_reducible assumption) | assumption)
              have q118 : x3_1 < (l0.length : Int) := of_decide_eq_true (by first | (with_reducible assumption) | assumption)
              obtain ⟨ad118, e118, hx118_0⟩ := Kd.at_string HR0.out x3_1 p118 q118
              obtain rfl : ad117 = ad118 := (by injection e118)
              replace p118 := eq_true p118
              replace q118 := eq_true q118
              have p13 : 0 ≤ (x4_3 : Int) := of_decide_eq_true (by first | (with_reducible assumption) | assumption)
              have q13 : x4_3 < ((rdOf ByteArray.empty l0 x3_1).size : Int) := of_decide_eq_true (by first | (with_reducible assumption) | assumption)
              have hx13 := bt_at (rdOf ByteArray.empty l0 x3_1) x4_3
              replace p13 := eq_true p13
              replace q13 := eq_true q13
              go_wp2
              repeat (go_quiet (fail); try go_wp2)
              go_ret
              exact ⟨by first | rfl | (simp; done) | (simp [*]; done), by repeat (first | exact zbf.refl _ | apply zbf.step)⟩
             ·rw [if_neg c14] at H
              have c14b0 : decide ((bt (rdOf ByteArray.empty l0 x3_1) x4_3) < 97) = false := decide_eq_false c14
              clear c14
              by_cases c16 : (bt (rdOf ByteArray.empty l0 x3_1) x4_3) > 122
              ·rw [if_pos c16] at H
               have c16b0 : decide (122 < (bt (rdOf ByteArray.empty l0 x3_1) x4_3)) = true := decide_eq_true c16
               clear c16
               obtain rfl := Option.some.inj H
               have p117 : 0 ≤ (x3_1 : Int) := of_decide_eq_true (by first | (with_reducible assumption) | assumption)
               have q117 : x3_1 < (l0.length : Int) := of_decide_eq_true (by first | (with_reducible assumption) | assumption)
               obtain ⟨ad117, e117, hx117_0⟩ := Kd.at_string HR0.out x3_1 p117 q117
               cases e117
               replace p117 := eq_true p117
               replace q117 := eq_true q117
               have p118 : 0 ≤ (x3_1 : Int) := of_decide_eq_true (by first | (with_reducible assumption) | assumption)
               have q118 : x3_1 < (l0.length : Int) := of_decide_eq_true (by first | (with_reducible assumption) | assumption)
               obtain ⟨ad118, e118, hx118_0⟩ := Kd.at_string HR0.out x3_1 p118 q118
               obtain rfl : ad117 = ad118 := (by injection e118)
               replace p118 := eq_true p118
               replace q118 := eq_true q118
               have p13 : 0 ≤ (x4_3 : Int) := of_decide_eq_true (by first | (with_reducible assumption) | assumption)
               have q13 : x4_3 < ((rdOf ByteArray.empty l0 x3_1).size : Int) := of_decide_eq_true (by first | (with_reducible assumption) | assumption)
               have hx13 := bt_at (rdOf ByteArray.empty l0 x3_1) x4_3
               replace p13 := eq_true p13
               replace q13 := eq_true q13
               have p119 : 0 ≤ (x3_1 : Int) := of_decide_eq_true (by first | (with_reducible assumption) | assumption)
               have q119 : x3_1 < (l0.length : Int) := of_decide_eq_true (by first | (with_reducible assumption) | assumption)
               obtain ⟨ad119, e119, hx119_0⟩ := Kd.at_string HR0.out x3_1 p119 q119
               obtain rfl : ad117 = ad119 := (by injection e119)
               replace p119 := eq_true p119
               replace q119 := eq_true q119
               have p15 : 0 ≤ (x4_3 : Int) := of_decide_eq_true (by first | (with_reducible assumption) | assumption)
               have q15 : x4_3 < ((rdOf ByteArray.empty l0 x3_1).size : Int) := of_decide_eq_true (by first | (with_reducible assumption) | assumption)
               have hx15 := bt_at (rdOf ByteArray.empty l0 x3_1) x4_3
               replace p15 := eq_true p15
               replace q15 := eq_true q15
               go_wp2
               repeat (go_quiet (fail); try go_wp2)
               go_ret
               exact ⟨by first | rfl | (simp; done) | (simp [*]; done), by repeat (first | exact zbf.refl _ | apply zbf.step)⟩
              ·rw [if_neg c16] at H
               have c16b0 : decide (122 < (bt (rdOf ByteArray.empty l0 x3_1) x4_3)) = false := decide_eq_false c16
               clear c16
               have H' := zab.mk H
               clear H
               have p117 : 0 ≤ (x3_1 : Int) := of_decide_eq_true (by first | (with_reducible assumption) | assumption)
               have q117 : x3_1 < (l0.length : Int) := of_decide_eq_true (by first | (with_reducible assumption) | assumption)
               obtain ⟨ad117, e117, hx117_0⟩ := Kd.at_string HR0.out x3_1 p117 q117
               cases e117
               replace p117 := eq_true p117
               replace q117 := eq_true q117
               have p118 : 0 ≤ (x3_1 : Int) := of_decide_eq_true (by first | (with_reducible assumption) | assumption)
               have q118 : x3_1 < (l0.length : Int) := of_decide_eq_true (by first | (with_reducible assumption) | assumption)
               obtain ⟨ad118, e118, hx118_0⟩ := Kd.at_string HR0.out x3_1 p118 q118
               obtain rfl : ad117 = ad118 := (by injection e118)
               replace p118 := eq_true p118
               replace q118 := eq_true q118
               have p13 : 0 ≤ (x4_3 : Int) := of_decide_eq_true (by first | (with_reducible assumption) | assumption)
               have q13 : x4_3 < ((rdOf ByteArray.empty l0 x3_1).size : Int) := of_decide_eq_true (by first | (with_reducible assumption) | assumption)
               have hx13 := bt_at (rdOf ByteArray.empty l0 x3_1) x4_3
               replace p13 := eq_true p13
               replace q13 := eq_true q13
               have p119 : 0 ≤ (x3_1 : Int) := of_decide_eq_true (by first | (with_reducible assumption) | assumption)
               have q119 : x3_1 < (l0.length : Int) := of_decide_eq_true (by first | (with_reducible assumption) | assumption)
               obtain ⟨ad119, e119, hx119_0⟩ := Kd.at_string HR0.out x3_1 p119 q119
               obtain rfl : ad117 = ad119 := (by injection e119)
               replace p119 := eq_true p119
               replace q119 := eq_true q119
               have p15 : 0 ≤ (x4_3 : Int) := of_decide_eq_true (by first | (with_reducible assumption) | assumption)
               have q15 : x4_3 < ((rdOf ByteArray.empty l0 x3_1).size : Int) := of_decide_eq_true (by first | (with_reducible assumption) | assumption)
               have hx15 := bt_at (rdOf ByteArray.empty l0 x3_1) x4_3
               replace p15 := eq_true p15
               replace q15 := eq_true q15
               go_wp2
               repeat (go_quiet (fail); try go_wp2)
               go_roundg k3
               case measure => have := HK1.out; have := HJ2.out; have := HK3.out; omega
               case rel => exact ⟨(wrap64 (x4_3 + 1)), (by first | rfl | (simp; done) | (simp [*]; done)), H', ⟨by have := HK1.out; have := HJ2.out; have := HK3.out; omega⟩, by repeat (first | exact zbf.refl _ | apply zbf.step)⟩
            ·rw [if_neg c12] at H
             exact absurd H (by simp)
           ·rw [if_neg c11] at H
            have c11b0 : decide (x4_3 < ((rdOf ByteArray.empty l0 x3_1).size : Int)) = false := decide_eq_false c11
            clear c11
            have H' := zab.mk H
            clear H
            have p117 : 0 ≤ (x3_1 : Int) := of_decide_eq_true (by first | (with_reducible assumption) | assumption)
            have q117 : x3_1 < (l0.length : Int) := of_decide_eq_true (by first | (with_reducible assumption) | assumption)
            obtain ⟨ad117, e117, hx117_0⟩ := Kd.at_string HR0.out x3_1 p117 q117
            cases e117
            replace p117 := eq_true p117
            replace q117 := eq_true q117
            go_wp2
            repeat (go_quiet (fail); try go_wp2)
            go_roundg k3
            case measure => have := HK1.out; have := HJ2.out; have := HK3.out; omega
            case rel => exact ⟨(wrap64 (x3_1 + 1)), (by first | rfl | (simp; done) | (simp [*]; done)), H', ⟨by have := HK1.out; have := HJ2.out; have := HK3.out; omega⟩, by repeat (first | exact zbf.refl _ | apply zbf.step)⟩
          ·rw [if_neg c10] at H
           exact absurd H (by simp)
         ·rw [if_neg c9] at H
          exact absurd H (by simp)
   ·rw [if_neg c2] at H
    have c2b0 : decide (x3_1 < (l0.length : Int)) = false := decide_eq_false c2
    clear c2
    replace H := Option.bind_eq_some_iff.mp H
    obtain ⟨t112, A170, H⟩ := H
    replace H : (some t112) = some r := H
    have A17 := zab.mk A170
    clear A170
    obtain rfl := Option.some.inj H
    go_wp2_with (first | (go_at_call 91; (with_reducible refine (spec_l6In.calls (l0.length : Int) 1 6 t112 _ A17.out).mono ?_); rintro e w' ⟨rfl, ⟨nd, rfl⟩⟩; (try first | exact ⟨rfl, _, World.drewN_drewN _ _ _⟩ | exact ⟨rfl, _, Eq.trans (World.drewN_drewN _ _ _) (congrArg (World.drewN _) (Nat.add_assoc _ _ _))⟩)))
    repeat (go_quiet (first | (go_at_call 91; (with_reducible refine (spec_l6In.calls (l0.length : Int) 1 6 t112 _ A17.out).mono ?_); rintro e w' ⟨rfl, ⟨nd, rfl⟩⟩; (try first | exact ⟨rfl, _, World.drewN_drewN _ _ _⟩ | exact ⟨rfl, _, Eq.trans (World.drewN_drewN _ _ _) (congrArg (World.drewN _) (Nat.add_assoc _ _ _))⟩))); try go_wp2_with (first | (go_at_call 91; (with_reducible refine (spec_l6In.calls (l0.length : Int) 1 6 t112 _ A17.out).mono ?_); rintro e w' ⟨rfl, ⟨nd, rfl⟩⟩; (try first | exact ⟨rfl, _, World.drewN_drewN _ _ _⟩ | exact ⟨rfl, _, Eq.trans (World.drewN_drewN _ _ _) (congrArg (World.drewN _) (Nat.add_assoc _ _ _))⟩))))
    go_ret
    exact ⟨by first | rfl | (simp; done) | (simp [*]; done), by repeat (first | exact zbf.refl _ | apply zbf.step)⟩
end Go.Proofs.Ytaepgogafkmooaa.PB
namespace Go.Proofs.Ytaepgogafkmooaa.PB
open Go.RowKit Go.PW.PrintWords Go.PW.PrintLast Go.PW.PrintMore
attribute [local go_sem] zca zby zcj zci zbp zbo zbz zbx   -- for this text's walks alone
mutual
def spec_l1Names.l0 : Nat → List ByteArray → List Int → List ByteArray → Int → Option (List ByteArray)
 | 0, _, _, _, _ => none
 | k + 1, x0, x3, x4, x5 => if x5 < (x0.length : Int) then (spec_l1Names.l1 k x0 x3 x4 x5 (([] : List Int)) 0) else (some x4)
def spec_l1Names.l1 : Nat → List ByteArray → List Int → List ByteArray → Int → List Int → Int → Option (List ByteArray)
 | 0, _, _, _, _, _, _ => none
 | k + 1, x0, x3, x4, x5, x6, x7 => if 0 ≤ x5 then (if x5 < (x0.length : Int) then (if x7 < ((rdOf ByteArray.empty x0 x5).size : Int) then (spec_l1Names.l2 k x0 x3 x4 x5 x6 x7 0) else (if x4.length < 8796093022208 then (spec_l1Names.l0 k x0 x3 (x4 ++ [strOfNums x6]) (wrap64 (x5 + 1))) else (none))) else (none)) else (none)
def spec_l1Names.l2 : Nat → List ByteArray → List Int → List ByteArray → Int → List Int → Int → Int → Option (List ByteArray)
 | 0, _, _, _, _, _, _, _ => none
 | k + 1, x0, x3, x4, x5, x6, x7, x8 => if x8 < (x3.length : Int) then (if 0 ≤ x8 then (if 0 ≤ x5 then (if x5 < (x0.length : Int) then (if 0 ≤ x7 then (if x7 < ((rdOf ByteArray.empty x0 x5).size : Int) then (if (rd x3 x8) = (bt (rdOf ByteArray.empty x0 x5) x7) then (if x8 = (x3.length : Int) then (if x3.length < 140737488355328 then (if x6.length < 140737488355328 then (spec_l1Names.l1 k x0 (x3 ++ [bt (rdOf ByteArray.empty x0 x5) x7]) x4 x5 (x6 ++ [(wrap64 (97 + x8)) % 256]) (wrap64 (x7 + 1))) else (none)) else (none)) else (if x6.length < 140737488355328 then (spec_l1Names.l1 k x0 x3 x4 x5 (x6 ++ [(wrap64 (97 + x8)) % 256]) (wrap64 (x7 + 1))) else (none))) else (spec_l1Names.l2 k x0 x3 x4 x5 x6 x7 (wrap64 (x8 + 1)))) else (none)) else (none)) else (none)) else (none)) else (none)) else (if x8 = (x3.length : Int) then (if 0 ≤ x5 then (if x5 < (x0.length : Int) then (if 0 ≤ x7 then (if x7 < ((rdOf ByteArray.empty x0 x5).size : Int) then (if x3.length < 140737488355328 then (if x6.length < 140737488355328 then (spec_l1Names.l1 k x0 (x3 ++ [bt (rdOf ByteArray.empty x0 x5) x7]) x4 x5 (x6 ++ [(wrap64 (97 + x8)) % 256]) (wrap64 (x7 + 1))) else (none)) else (none)) else (none)) else (none)) else (none)) else (none)) else (if x6.length < 140737488355328 then (spec_l1Names.l1 k x0 x3 x4 x5 (x6 ++ [(wrap64 (97 + x8)) % 256]) (wrap64 (x7 + 1))) else (none)))
end
def spec_l1Names.f (k : Nat) (l0 : List ByteArray) : Option (List ByteArray) := spec_l1Names.l0 k l0 (([] : List Int)) (([] : List ByteArray)) 0
set_option maxHeartbeats 8000000 in
set_option maxRecDepth 100000 in
theorem spec_l1Names.calls (k : Nat) (A0 : Option Addr) (c0 : Nat) (l0 : List ByteArray) (r : List ByteArray) (w : World) (hr0 : Kd.C Kd.string w A0 l0.length l0) (hc0 : l0.length ≤ c0) (h : spec_l1Names.f k l0 = some r) :
  Calls Try.prog 122 #[.slice A0 l0.length c0] w fun e w' => ∃ v0_ : Value, e = .returned (v0_) ∧ Kd.R Kd.string 9 w' w.heap.size (fun _ => True) v0_ r ∧ Below w.heap.size w w' := by
 have HR0 := zab.mk hr0
 have HC0 := zab.mk hc0
 clear hr0 hc0
 have HB := zab.mk (Below.refl w.heap.size w)
 have H : (spec_l1Names.l0 k l0 (([] : List Int)) (([] : List ByteArray)) 0) = some r := h
 clear h
 obtain ⟨y120, hy120⟩ : ∃ y_ : List Int, y_ = (([] : List Int)) := ⟨_, rfl⟩
 replace H : (spec_l1Names.l0 k l0 y120 (([] : List ByteArray)) 0) = some r := by first | (rw [hy120]; with_reducible exact H) | (have H2_ := (Option.bind_some _ _).symm.trans H; rw [hy120]; with_reducible exact H2_) | (have H2_ := (Option.bind_some _ _).symm.trans H; with_reducible exact H2_) | with_reducible exact H | (rw [hy120]; exact H) | exact H
 have Ny120 := zab.mk hy120
 clear hy120
 obtain ⟨y123, hy123⟩ : ∃ y_ : List ByteArray, y_ = (([] : List ByteArray)) := ⟨_, rfl⟩
 replace H : (spec_l1Names.l0 k l0 y120 y123 0) = some r := by first | (rw [hy123]; with_reducible exact H) | (have H2_ := (Option.bind_some _ _).symm.trans H; rw [hy123]; with_reducible exact H2_) | (have H2_ := (Option.bind_some _ _).symm.trans H; with_reducible exact H2_) | with_reducible exact H | (rw [hy123]; exact H) | exact H
 have Ny123 := zab.mk hy123
 clear hy123
 have H' := zab.mk H
 clear H
 go_enter Try.func122, Try.ntmps122
 go_wp2_with (first | ((with_reducible refine zay (N := 9) rfl ?_); refine Kd.R_lit (Kd.int .u8) _ 5 ?hg (N := 9) ?hd (xs := ([] : List Int)) (inner := []) (ok := fun _ => True) (okp := fun _ => True) ?hr ?hp (fun _ hk => hk) trivial (Below.refl _ _) (Nat.le_refl _) (by simp) ?_; (case hd => rfl); (case hg => rfl); (case hr => first | (go_simp; done) | (go_simp; rfl)); (case hp => exact (Reps.none _ _)); intro v121 w2 ho3 hb hg_ hnew_; clear hg_ hnew_; (first | rw [← Ny120.out] at ho3 | (simp only [Int.reduceToNat] at ho3; rw [← Ny120.out] at ho3)); have n0_ := zab.mk (Kd.R_lower ho3 (zaj (by repeat (first | (with_reducible first | exact HB.out | apply zac | apply zaa | apply zad) | exact HB.out)))); have n1_ := zab.mk (zag (by repeat (first | (with_reducible first | exact HB.out | apply zac | apply zaa | apply zad) | exact HB.out)) hb); clear HB; have HO122 := n0_; have HB := n1_; clear n0_ n1_; clear hb ho3) | ((with_reducible refine zay (N := 10) rfl ?_); refine Kd.R_lit Kd.string _ 9 ?hg (N := 10) ?hd (xs := ([] : List ByteArray)) (inner := []) (ok := fun _ => True) (okp := fun _ => True) ?hr ?hp (fun _ hk => hk) trivial (Below.refl _ _) (Nat.le_refl _) (by simp) ?_; (case hd => rfl); (case hg => rfl); (case hr => first | (go_simp; done) | (go_simp; rfl)); (case hp => exact (Reps.none _ _)); intro v124 w4 ho5 hb hg_ hnew_; clear hg_ hnew_; (first | rw [← Ny123.out] at ho5 | (simp only [Int.reduceToNat] at ho5; rw [← Ny123.out] at ho5)); have n0_ := zab.mk (Kd.R_below (by (with_reducible repeat (first | apply Kd.R_alloc | apply Kd.R_drewN | apply Kd.R_drew)); exact HO122.out) hb); have n1_ := zab.mk (Kd.R_lower ho5 (zaj (by repeat (first | (with_reducible first | exact HB.out | apply zac | apply zaa | apply zad) | exact HB.out)))); have n2_ := zab.mk (zag (by repeat (first | (with_reducible first | exact HB.out | apply zac | apply zaa | apply zad) | exact HB.out)) hb); clear HO122; clear HB; have HO122 := n0_; have HO125 := n1_; have HB := n2_; clear n0_ n1_ n2_; clear hb ho5))
 repeat (go_quiet (first | ((with_reducible refine zay (N := 9) rfl ?_); refine Kd.R_lit (Kd.int .u8) _ 5 ?hg (N := 9) ?hd (xs := ([] : List Int)) (inner := []) (ok := fun _ => True) (okp := fun _ => True) ?hr ?hp (fun _ hk => hk) trivial (Below.refl _ _) (Nat.le_refl _) (by simp) ?_; (case hd => rfl); (case hg => rfl); (case hr => first | (go_simp; done) | (go_simp; rfl)); (case hp => exact (Reps.none _ _)); intro v121 w2 ho3 hb hg_ hnew_; clear hg_ hnew_; (first | rw [← Ny120.out] at ho3 | (simp only [Int.reduceToNat] at ho3; rw [← Ny120.out] at ho3)); have n0_ := zab.mk (Kd.R_lower ho3 (zaj (by repeat (first | (with_reducible first | exact HB.out | apply zac | apply zaa | apply zad) | exact HB.out)))); have n1_ := zab.mk (zag (by repeat (first | (with_reducible first | exact HB.out | apply zac | apply zaa | apply zad) | exact HB.out)) hb); clear HB; have HO122 := n0_; have HB := n1_; clear n0_ n1_; clear hb ho3) | ((with_reducible refine zay (N := 10) rfl ?_); refine Kd.R_lit Kd.string _ 9 ?hg (N := 10) ?hd (xs := ([] : List ByteArray)) (inner := []) (ok := fun _ => True) (okp := fun _ => True) ?hr ?hp (fun _ hk => hk) trivial (Below.refl _ _) (Nat.le_refl _) (by simp) ?_; (case hd => rfl); (case hg => rfl); (case hr => first | (go_simp; done) | (go_simp; rfl)); (case hp => exact (Reps.none _ _)); intro v124 w4 ho5 hb hg_ hnew_; clear hg_ hnew_; (first | rw [← Ny123.out] at ho5 | (simp only [Int.reduceToNat] at ho5; rw [← Ny123.out] at ho5)); have n0_ := zab.mk (Kd.R_below (by (with_reducible repeat (first | apply Kd.R_alloc | apply Kd.R_drewN | apply Kd.R_drew)); exact HO122.out) hb); have n1_ := zab.mk (Kd.R_lower ho5 (zaj (by repeat (first | (with_reducible first | exact HB.out | apply zac | apply zaa | apply zad) | exact HB.out)))); have n2_ := zab.mk (zag (by repeat (first | (with_reducible first | exact HB.out | apply zac | apply zaa | apply zad) | exact HB.out)) hb); clear HO122; clear HB; have HO122 := n0_; have HO125 := n1_; have HB := n2_; clear n0_ n1_ n2_; clear hb ho5)); try go_wp2_with (first | ((with_reducible refine zay (N := 9) rfl ?_); refine Kd.R_lit (Kd.int .u8) _ 5 ?hg (N := 9) ?hd (xs := ([] : List Int)) (inner := []) (ok := fun _ => True) (okp := fun _ => True) ?hr ?hp (fun _ hk => hk) trivial (Below.refl _ _) (Nat.le_refl _) (by simp) ?_; (case hd => rfl); (case hg => rfl); (case hr => first | (go_simp; done) | (go_simp; rfl)); (case hp => exact (Reps.none _ _)); intro v121 w2 ho3 hb hg_ hnew_; clear hg_ hnew_; (first | rw [← Ny120.out] at ho3 | (simp only [Int.reduceToNat] at ho3; rw [← Ny120.out] at ho3)); have n0_ := zab.mk (Kd.R_lower ho3 (zaj (by repeat (first | (with_reducible first | exact HB.out | apply zac | apply zaa | apply zad) | exact HB.out)))); have n1_ := zab.mk (zag (by repeat (first | (with_reducible first | exact HB.out | apply zac | apply zaa | apply zad) | exact HB.out)) hb); clear HB; have HO122 := n0_; have HB := n1_; clear n0_ n1_; clear hb ho3) | ((with_reducible refine zay (N := 10) rfl ?_); refine Kd.R_lit Kd.string _ 9 ?hg (N := 10) ?hd (xs := ([] : List ByteArray)) (inner := []) (ok := fun _ => True) (okp := fun _ => True) ?hr ?hp (fun _ hk => hk) trivial (Below.refl _ _) (Nat.le_refl _) (by simp) ?_; (case hd => rfl); (case hg => rfl); (case hr => first | (go_simp; done) | (go_simp; rfl)); (case hp => exact (Reps.none _ _)); intro v124 w4 ho5 hb hg_ hnew_; clear hg_ hnew_; (first | rw [← Ny123.out] at ho5 | (simp only [Int.reduceToNat] at ho5; rw [← Ny123.out] at ho5)); have n0_ := zab.mk (Kd.R_below (by (with_reducible repeat (first | apply Kd.R_alloc | apply Kd.R_drewN | apply Kd.R_drew)); exact HO122.out) hb); have n1_ := zab.mk (Kd.R_lower ho5 (zaj (by repeat (first | (with_reducible first | exact HB.out | apply zac | apply zaa | apply zad) | exact HB.out)))); have n2_ := zab.mk (zag (by repeat (first | (with_reducible first | exact HB.out | apply zac | apply zaa | apply zad) | exact HB.out)) hb); clear HO122; clear HB; have HO122 := n0_; have HO125 := n1_; have HB := n2_; clear n0_ n1_ n2_; clear hb ho5)))
 go_loopg [3, 4, 5] k (fun kq v3 v4 v5 w' => ∃ (x3_1 : List Int) (x4_1 : List ByteArray) (x5_1 : Int), v5 = .int .i64 x5_1 ∧ zab (spec_l1Names.l0 kq l0 x3_1 x4_1 x5_1 = some r) ∧ zab (kq ≤ k) ∧ zab (Kd.R (Kd.int .u8) 5 w' w.heap.size (fun _ => True) v3 x3_1) ∧ zab (Kd.R Kd.string 9 w' w.heap.size (fun _ => True) v4 x4_1) ∧ zab (Below w.heap.size w w'))
 case atStart => exact ⟨(y120), (y123), (0), (by first | rfl | (simp; done) | (simp [*]; done)), H', ⟨Nat.le_refl _⟩, ⟨by (with_reducible repeat (first | apply Kd.R_alloc | apply Kd.R_drewN | apply Kd.R_drew)); exact HO122.out⟩, ⟨by (with_reducible repeat (first | apply Kd.R_alloc | apply Kd.R_drewN | apply Kd.R_drew)); exact HO125.out⟩, ⟨by repeat (first | (with_reducible first | exact HB.out | apply zac | apply zaa | apply zad) | exact HB.out)⟩⟩
 case round =>
  clear H'
  try clear c1
  try clear p2
  obtain ⟨x3_1, x4_1, x5_1, rfl, HA, HK1, HO_3, HO_4, HB⟩ := hrel
  cases gk with
  | zero => exact absurd HA.out (by simp [spec_l1Names.l0])
  | succ k1 =>
   have H := HA.out
   clear HA
   simp only [spec_l1Names.l0] at H
   by_cases c6 : x5_1 < (l0.length : Int)
   ·rw [if_pos c6] at H
    have c6b0 : decide (x5_1 < (l0.length : Int)) = true := decide_eq_true c6
    clear c6
    obtain ⟨y126, hy126⟩ : ∃ y_ : List Int, y_ = (([] : List Int)) := ⟨_, rfl⟩
    replace H : (spec_l1Names.l1 k1 l0 x3_1 x4_1 x5_1 y126 0) = some r := by first | (rw [hy126]; with_reducible exact H) | (have H2_ := (Option.bind_some _ _).symm.trans H; rw [hy126]; with_reducible exact H2_) | (have H2_ := (Option.bind_some _ _).symm.trans H; with_reducible exact H2_) | with_reducible exact H | (rw [hy126]; exact H) | exact H
    have Ny126 := zab.mk hy126
    clear hy126
    have H' := zab.mk H
    clear H
    go_wp2_with (first | ((with_reducible refine zay (N := 17) rfl ?_); refine Kd.R_lit (Kd.int .u8) _ 5 ?hg (N := 17) ?hd (xs := ([] : List Int)) (inner := []) (ok := fun _ => True) (okp := fun _ => True) ?hr ?hp (fun _ hk => hk) trivial (Below.refl _ _) (Nat.le_refl _) (by simp) ?_; (case hd => rfl); (case hg => rfl); (case hr => first | (go_simp; done) | (go_simp; rfl)); (case hp => exact (Reps.none _ _)); intro v127 w7 ho8 hb hg_ hnew_; clear hg_ hnew_; (first | rw [← Ny126.out] at ho8 | (simp only [Int.reduceToNat] at ho8; rw [← Ny126.out] at ho8)); have n0_ := zab.mk (Kd.R_elder' (by (with_reducible repeat (first | apply Kd.R_alloc | apply Kd.R_drewN | apply Kd.R_drew)); exact HO_3.out) (Kd.R_base ho8) hb); have n1_ := zab.mk (Kd.R_below (by (with_reducible repeat (first | apply Kd.R_alloc | apply Kd.R_drewN | apply Kd.R_drew)); exact HO_4.out) hb); have n2_ := zab.mk (Kd.R_lower (Kd.R_new' ho8 (Kd.R_lt (by (with_reducible repeat (first | apply Kd.R_alloc | apply Kd.R_drewN | apply Kd.R_drew)); exact HO_3.out))) (zaj (by repeat (first | (with_reducible first | exact HB.out | apply zac | apply zaa | apply zad) | exact HB.out)))); have n3_ := zab.mk (zag (by repeat (first | (with_reducible first | exact HB.out | apply zac | apply zaa | apply zad) | exact HB.out)) hb); clear HO_3; clear HO_4; clear HB; have HO_3 := n0_; have HO_4 := n1_; have HO128 := n2_; have HB := n3_; clear n0_ n1_ n2_ n3_; clear hb ho8))
    repeat (go_quiet (first | ((with_reducible refine zay (N := 17) rfl ?_); refine Kd.R_lit (Kd.int .u8) _ 5 ?hg (N := 17) ?hd (xs := ([] : List Int)) (inner := []) (ok := fun _ => True) (okp := fun _ => True) ?hr ?hp (fun _ hk => hk) trivial (Below.refl _ _) (Nat.le_refl _) (by simp) ?_; (case hd => rfl); (case hg => rfl); (case hr => first | (go_simp; done) | (go_simp; rfl)); (case hp => exact (Reps.none _ _)); intro v127 w7 ho8 hb hg_ hnew_; clear hg_ hnew_; (first | rw [← Ny126.out] at ho8 | (simp only [Int.reduceToNat] at ho8; rw [← Ny126.out] at ho8)); have n0_ := zab.mk (Kd.R_elder' (by (with_reducible repeat (first | apply Kd.R_alloc | apply Kd.R_drewN | apply Kd.R_drew)); exact HO_3.out) (Kd.R_base ho8) hb); have n1_ := zab.mk (Kd.R_below (by (with_reducible repeat (first | apply Kd.R_alloc | apply Kd.R_drewN | apply Kd.R_drew)); exact HO_4.out) hb); have n2_ := zab.mk (Kd.R_lower (Kd.R_new' ho8 (Kd.R_lt (by (with_reducible repeat (first | apply Kd.R_alloc | apply Kd.R_drewN | apply Kd.R_drew)); exact HO_3.out))) (zaj (by repeat (first | (with_reducible first | exact HB.out | apply zac | apply zaa | apply zad) | exact HB.out)))); have n3_ := zab.mk (zag (by repeat (first | (with_reducible first | exact HB.out | apply zac | apply zaa | apply zad) | exact HB.out)) hb); clear HO_3; clear HO_4; clear HB; have HO_3 := n0_; have HO_4 := n1_; have HO128 := n2_; have HB := n3_; clear n0_ n1_ n2_ n3_; clear hb ho8)); try go_wp2_with (first | ((with_reducible refine zay (N := 17) rfl ?_); refine Kd.R_lit (Kd.int .u8) _ 5 ?hg (N := 17) ?hd (xs := ([] : List Int)) (inner := []) (ok := fun _ => True) (okp := fun _ => True) ?hr ?hp (fun _ hk => hk) trivial (Below.refl _ _) (Nat.le_refl _) (by simp) ?_; (case hd => rfl); (case hg => rfl); (case hr => first | (go_simp; done) | (go_simp; rfl)); (case hp => exact (Reps.none _ _)); intro v127 w7 ho8 hb hg_ hnew_; clear hg_ hnew_; (first | rw [← Ny126.out] at ho8 | (simp only [Int.reduceToNat] at ho8; rw [← Ny126.out] at ho8)); have n0_ := zab.mk (Kd.R_elder' (by (with_reducible repeat (first | apply Kd.R_alloc | apply Kd.R_drewN | apply Kd.R_drew)); exact HO_3.out) (Kd.R_base ho8) hb); have n1_ := zab.mk (Kd.R_below (by (with_reducible repeat (first | apply Kd.R_alloc | apply Kd.R_drewN | apply Kd.R_drew)); exact HO_4.out) hb); have n2_ := zab.mk (Kd.R_lower (Kd.R_new' ho8 (Kd.R_lt (by (with_reducible repeat (first | apply Kd.R_alloc | apply Kd.R_drewN | apply Kd.R_drew)); exact HO_3.out))) (zaj (by repeat (first | (with_reducible first | exact HB.out | apply zac | apply zaa | apply zad) | exact HB.out)))); have n3_ := zab.mk (zag (by repeat (first | (with_reducible first | exact HB.out | apply zac | apply zaa | apply zad) | exact HB.out)) hb); clear HO_3; clear HO_4; clear HB; have HO_3 := n0_; have HO_4 := n1_; have HO128 := n2_; have HB := n3_; clear n0_ n1_ n2_ n3_; clear hb ho8)))
    go_loopg [3, 6, 7] k1 (fun kq v3 v6 v7 w' => ∃ (x3_2 : List Int) (x6_2 : List Int) (x7_2 : Int), v7 = .int .i64 x7_2 ∧ zab (spec_l1Names.l1 kq l0 x3_2 x4_1 x5_1 x6_2 x7_2 = some r) ∧ zab (kq ≤ k1) ∧ zab (Kd.R (Kd.int .u8) 5 w' w.heap.size (fun k_ => some k_ ≠ (v6 : Value).ownBlock) v3 x3_2) ∧ zab (Kd.R Kd.string 9 w' w.heap.size (fun _ => True) u4 x4_1) ∧ zab (Kd.R (Kd.int .u8) 5 w' w.heap.size (fun k_ => some k_ ≠ (v3 : Value).ownBlock) v6 x6_2) ∧ zab (Below w.heap.size w w'))
    case atStart => exact ⟨(x3_1), (y126), (0), (by first | rfl | (simp; done) | (simp [*]; done)), H', ⟨Nat.le_refl _⟩, ⟨by (with_reducible repeat (first | apply Kd.R_alloc | apply Kd.R_drewN | apply Kd.R_drew)); exact Kd.R_mono HO_3.out (fun _ hk => hk.2)⟩, ⟨by (with_reducible repeat (first | apply Kd.R_alloc | apply Kd.R_drewN | apply Kd.R_drew)); exact HO_4.out⟩, ⟨by (with_reducible repeat (first | apply Kd.R_alloc | apply Kd.R_drewN | apply Kd.R_drew)); exact Kd.R_mono HO128.out (fun _ hk => hk.2)⟩, ⟨by repeat (first | (with_reducible first | exact HB.out | apply zac | apply zaa | apply zad) | exact HB.out)⟩⟩
    case round =>
     clear H'
     try clear c1
     try clear p2
     try clear c6
     try clear c6b0
     try clear p2
     obtain ⟨x3_2, x6_2, x7_2, rfl, HA, HK2, HO_3, HO_4, HO_6, HB⟩ := hrel
     cases gk with
     | zero => exact absurd HA.out (by simp [spec_l1Names.l1])
     | succ k2 =>
      have H := HA.out
      clear HA
      simp only [spec_l1Names.l1] at H
      by_cases c9 : 0 ≤ x5_1
      ·rw [if_pos c9] at H
       have c9b0 : decide (0 ≤ x5_1) = true := decide_eq_true c9
       clear c9
       by_cases c10 : x5_1 < (l0.length : Int)
       ·rw [if_pos c10] at H
        have c10b0 : decide (x5_1 < (l0.length : Int)) = true := decide_eq_true c10
        clear c10
        by_cases c11 : x7_2 < ((rdOf ByteArray.empty l0 x5_1).size : Int)
        ·rw [if_pos c11] at H
         have c11b0 : decide (x7_2 < ((rdOf ByteArray.empty l0 x5_1).size : Int)) = true := decide_eq_true c11
         clear c11
         have H' := zab.mk H
         clear H
         have p129 : 0 ≤ (x5_1 : Int) := of_decide_eq_true (by first | (with_reducible assumption) | assumption)
         have q129 : x5_1 < (l0.length : Int) := of_decide_eq_true (by first | (with_reducible assumption) | assumption)
         obtain ⟨ad129, e129, hx129_0⟩ := Kd.at_string HR0.out x5_1 p129 q129
         cases e129
         replace hx129_0 := (HB.out.cell (World.block_lt_of_cell? w _ hx129_0)).trans hx129_0
         replace p129 := eq_true p129
         replace q129 := eq_true q129
         go_wp2
         repeat (go_quiet (fail); try go_wp2)
         go_loopg [8] k2 (fun kq v8 w' => ∃ (x8_3 : Int), v8 = .int .i64 x8_3 ∧ zab (spec_l1Names.l2 kq l0 x3_2 x4_1 x5_1 x6_2 x7_2 x8_3 = some r) ∧ zab (kq ≤ k2) ∧ zab (Kd.R (Kd.int .u8) 5 w' w.heap.size (fun k_ => some k_ ≠ (u6 : Value).ownBlock) u3 x3_2) ∧ zab (Kd.R Kd.string 9 w' w.heap.size (fun _ => True) u4 x4_1) ∧ zab (Kd.R (Kd.int .u8) 5 w' w.heap.size (fun k_ => some k_ ≠ (u3 : Value).ownBlock) u6 x6_2) ∧ zab (Below w.heap.size w w'))
         case atStart => exact ⟨(0), (by first | rfl | (simp; done) | (simp [*]; done)), H', ⟨Nat.le_refl _⟩, ⟨by (with_reducible repeat (first | apply Kd.R_alloc | apply Kd.R_drewN | apply Kd.R_drew)); exact HO_3.out⟩, ⟨by (with_reducible repeat (first | apply Kd.R_alloc | apply Kd.R_drewN | apply Kd.R_drew)); exact HO_4.out⟩, ⟨by (with_reducible repeat (first | apply Kd.R_alloc | apply Kd.R_drewN | apply Kd.R_drew)); exact HO_6.out⟩, ⟨by repeat (first | (with_reducible first | exact HB.out | apply zac | apply zaa | apply zad) | exact HB.out)⟩⟩
         case round =>
          clear H'
          try clear c1
          try clear p1
          try clear q1
          try clear hx1
          try clear p2
          try clear c6
          try clear c6b0
          try clear c9
          try clear c9b0
          try clear c10
          try clear c10b0
          try clear c11
          try clear c11b0
          try clear hx129_0
          try clear p129
          try clear p2
          try clear q129
          obtain ⟨x8_3, rfl, HA, HK3, HO_3, HO_4, HO_6, HB⟩ := hrel
          cases gk with
          | zero => exact absurd HA.out (by simp [spec_l1Names.l2])
          | succ k3 =>
           have H := HA.out
           clear HA
           simp only [spec_l1Names.l2] at H
           by_cases c12 : x8_3 < (x3_2.length : Int)
           ·rw [if_pos c12] at H
            have c12b0 : decide (x8_3 < (x3_2.length : Int)) = true := decide_eq_true c12
            clear c12
            by_cases c13 : 0 ≤ x8_3
            ·rw [if_pos c13] at H
             have c13b0 : decide (0 ≤ x8_3) = true := decide_eq_true c13
             clear c13
             by_cases c14 : 0 ≤ x5_1
             ·rw [if_pos c14] at H
              have c14b0 : decide (0 ≤ x5_1) = true := decide_eq_true c14
              clear c14
              by_cases c15 : x5_1 < (l0.length : Int)
              ·rw [if_pos c15] at H
               have c15b0 : decide (x5_1 < (l0.length : Int)) = true := decide_eq_true c15
               clear c15
               by_cases c16 : 0 ≤ x7_2
               ·rw [if_pos c16] at H
                have c16b0 : decide (0 ≤ x7_2) = true := decide_eq_true c16
                clear c16
                by_cases c17 : x7_2 < ((rdOf ByteArray.empty l0 x5_1).size : Int)
                ·rw [if_pos c17] at H
                 have c17b0 : decide (x7_2 < ((rdOf ByteArray.empty l0 x5_1).size : Int)) = true := decide_eq_true c17
                 clear c17
                 by_cases c19 : (rd x3_2 x8_3) = (bt (rdOf ByteArray.empty l0 x5_1) x7_2)
                 ·rw [if_pos c19] at H
                  have c19b0 : ((rd x3_2 x8_3) == (bt (rdOf ByteArray.empty l0 x5_1) x7_2)) = true := beq_iff_eq.mpr c19
                  have c19b1 : ((rd x3_2 x8_3) != (bt (rdOf ByteArray.empty l0 x5_1) x7_2)) = false := bne_eq_false_iff_eq.mpr c19
                  clear c19
                  by_cases c20 : x8_3 = (x3_2.length : Int)
                  ·rw [if_pos c20] at H
                   have c20b0 : (x8_3 == (x3_2.length : Int)) = true := beq_iff_eq.mpr c20
                   have c20b1 : (x8_3 != (x3_2.length : Int)) = false := bne_eq_false_iff_eq.mpr c20
                   clear c20
                   by_cases c22 : x3_2.length < 140737488355328
                   ·rw [if_pos c22] at H
                    have LMc22 := zab.mk c22
                    clear c22
                    obtain ⟨y136, hy136⟩ : ∃ y_ : List Int, y_ = (x3_2 ++ [bt (rdOf ByteArray.empty l0 x5_1) x7_2]) := ⟨_, rfl⟩
                    replace H : (if x6_2.length < 140737488355328 then (spec_l1Names.l1 k3 l0 y136 x4_1 x5_1 (x6_2 ++ [(wrap64 (97 + x8_3)) % 256]) (wrap64 (x7_2 + 1))) else (none)) = some r := by first | (rw [hy136]; with_reducible exact H) | (have H2_ := (Option.bind_some _ _).symm.trans H; rw [hy136]; with_reducible exact H2_) | (have H2_ := (Option.bind_some _ _).symm.trans H; with_reducible exact H2_) | with_reducible exact H | (rw [hy136]; exact H) | exact H
                    have Ny136 := zab.mk hy136
                    clear hy136
                    by_cases c23 : x6_2.length < 140737488355328
                    ·rw [if_pos c23] at H
                     have LMc23 := zab.mk c23
                     clear c23
                     obtain ⟨y139, hy139⟩ : ∃ y_ : List Int, y_ = (x6_2 ++ [(wrap64 (97 + x8_3)) % 256]) := ⟨_, rfl⟩
                     replace H : (spec_l1Names.l1 k3 l0 y136 x4_1 x5_1 y139 (wrap64 (x7_2 + 1))) = some r := by first | (rw [hy139]; with_reducible exact H) | (have H2_ := (Option.bind_some _ _).symm.trans H; rw [hy139]; with_reducible exact H2_) | (have H2_ := (Option.bind_some _ _).symm.trans H; with_reducible exact H2_) | with_reducible exact H | (rw [hy139]; exact H) | exact H
                     have Ny139 := zab.mk hy139
                     clear hy139
                     have H' := zab.mk H
                     clear H
                     obtain ⟨Ao24, co24, eo24⟩ := Kd.R_slice HO_3.out
                     subst eo24
                     have p133 : 0 ≤ (x8_3 : Int) := of_decide_eq_true (by first | (with_reducible assumption) | assumption)
                     have q133 : x8_3 < (x3_2.length : Int) := of_decide_eq_true (by first | (with_reducible assumption) | assumption)
                     obtain ⟨ad133, e133, hx133_0⟩ := Kd.at_int (Kd.R_reads' HO_3.out).2.2 x8_3 p133 q133
                     cases e133
                     replace p133 := eq_true p133
                     replace q133 := eq_true q133
                     have p134 : 0 ≤ (x5_1 : Int) := of_decide_eq_true (by first | (with_reducible assumption) | assumption)
                     have q134 : x5_1 < (l0.length : Int) := of_decide_eq_true (by first | (with_reducible assumption) | assumption)
                     obtain ⟨ad134, e134, hx134_0⟩ := Kd.at_string HR0.out x5_1 p134 q134
                     obtain rfl : ad129 = ad134 := (by injection e134)
                     replace hx134_0 := (HB.out.cell (World.block_lt_of_cell? w _ hx134_0)).trans hx134_0
                     replace p134 := eq_true p134
                     replace q134 := eq_true q134
                     have p18 : 0 ≤ (x7_2 : Int) := of_decide_eq_true (by first | (with_reducible assumption) | assumption)
                     have q18 : x7_2 < ((rdOf ByteArray.empty l0 x5_1).size : Int) := of_decide_eq_true (by first | (with_reducible assumption) | assumption)
                     have hx18 := bt_at (rdOf ByteArray.empty l0 x5_1) x7_2
                     replace p18 := eq_true p18
                     replace q18 := eq_true q18
                     have p135 : 0 ≤ (x5_1 : Int) := of_decide_eq_true (by first | (with_reducible assumption) | assumption)
                     have q135 : x5_1 < (l0.length : Int) := of_decide_eq_true (by first | (with_reducible assumption) | assumption)
                     obtain ⟨ad135, e135, hx135_0⟩ := Kd.at_string HR0.out x5_1 p135 q135
                     obtain rfl : ad129 = ad135 := (by injection e135)
                     replace hx135_0 := (HB.out.cell (World.block_lt_of_cell? w _ hx135_0)).trans hx135_0
                     replace p135 := eq_true p135
                     replace q135 := eq_true q135
                     have p21 : 0 ≤ (x7_2 : Int) := of_decide_eq_true (by first | (with_reducible assumption) | assumption)
                     have q21 : x7_2 < ((rdOf ByteArray.empty l0 x5_1).size : Int) := of_decide_eq_true (by first | (with_reducible assumption) | assumption)
                     have hx21 := bt_at (rdOf ByteArray.empty l0 x5_1) x7_2
                     replace p21 := eq_true p21
                     replace q21 := eq_true q21
                     go_wp2_with (first | ((with_reducible refine zax (b := .append) (xs := #[.tmp 50, .tmp 57]) rfl ?_); at_builtin; refine Kd.R_append (Kd.int .u8) (w0 := w) w.heap.size rfl (.tmp 50) (.tmp 57) 22 5 (.int .u8 0) 1 rfl Try.underlying22 info5 rfl (by decide) (by omega) (.slice (some ad133) x3_2.length co24) x3_2 (bt (rdOf ByteArray.empty l0 x5_1) x7_2) [.int .u8 (bt (rdOf ByteArray.empty l0 x5_1) x7_2)] (fun k_ => some k_ ≠ (u6 : Value).ownBlock) (fun _ => False) rfl rfl ?aP (fun _ hk => hk.elim) ?aF ?aO ?aB ?aS ?aL ?_; (case aP => exact rfl); (case aB => exact (by repeat (first | (with_reducible first | exact HB.out | apply zac | apply zaa | apply zad) | exact HB.out))); (case aF => exact (fun k_ hk => Kd.fresh' (Kd.R_lt (by (with_reducible repeat (first | apply Kd.R_alloc | apply Kd.R_drewN | apply Kd.R_drew)); exact HO_6.out)) k_ hk)); (case aO => exact (by (with_reducible repeat (first | apply Kd.R_alloc | apply Kd.R_drewN | apply Kd.R_drew)); exact HO_3.out)); (case aS => exact (zaj (by repeat (first | (with_reducible first | exact HB.out | apply zac | apply zaa | apply zad) | exact HB.out)))); (case aL => have := LMc22.out; omega); intro v137 w25 ho hb hg hat; rw [← Ny136.out] at ho; have n0_ := zab.mk (Kd.R_over' (by (with_reducible repeat (first | apply Kd.R_alloc | apply Kd.R_drewN | apply Kd.R_drew)); exact HO_4.out) (Kd.R_typed (by (with_reducible repeat (first | apply Kd.R_alloc | apply Kd.R_drewN | apply Kd.R_drew)); exact HO_3.out)) (by decide) hg); have n1_ := zab.mk (Kd.R_after (ok := (fun _ => True)) (by (with_reducible repeat (first | apply Kd.R_alloc | apply Kd.R_drewN | apply Kd.R_drew)); exact Kd.R_mono HO_6.out (fun _ hk => ⟨trivial, hk⟩)) hg hat); have n2_ := zab.mk (hb); have n3_ := zab.mk (ho); clear HO_4; clear HO_6; clear HB; clear HO_3; have HO_4 := n0_; have HO_6 := n1_; have HB := n2_; have HO138 := n3_; clear n0_ n1_ n2_ n3_; clear ho hb hg hat) | ((with_reducible refine zax (b := .append) (xs := #[.tmp 59, .tmp 63]) rfl ?_); at_builtin; refine Kd.R_append (Kd.int .u8) (w0 := w) w.heap.size rfl (.tmp 59) (.tmp 63) 22 5 (.int .u8 0) 1 rfl Try.underlying22 info5 rfl (by decide) (by omega) u6 x6_2 ((wrap64 (97 + x8_3)) % 256) [.int .u8 ((wrap64 (97 + x8_3)) % 256)] (fun k_ => some k_ ≠ (v137 : Value).ownBlock) (fun _ => False) rfl rfl ?aP (fun _ hk => hk.elim) ?aF ?aO ?aB ?aS ?aL ?_; (case aP => exact rfl); (case aB => exact (by repeat (first | (with_reducible first | exact HB.out | apply zac | apply zaa | apply zad) | exact HB.out))); (case aF => exact (fun k_ hk => Kd.fresh' (Kd.R_lt (by (with_reducible repeat (first | apply Kd.R_alloc | apply Kd.R_drewN | apply Kd.R_drew)); exact HO138.out)) k_ hk)); (case aO => exact (by (with_reducible repeat (first | apply Kd.R_alloc | apply Kd.R_drewN | apply Kd.R_drew)); exact Kd.R_mono HO_6.out (fun _ hk => hk.2))); (case aS => exact (zaj (by repeat (first | (with_reducible first | exact HB.out | apply zac | apply zaa | apply zad) | exact HB.out)))); (case aL => have := LMc23.out; omega); intro v140 w26 ho hb hg hat; rw [← Ny139.out] at ho; have n0_ := zab.mk (Kd.R_over' (by (with_reducible repeat (first | apply Kd.R_alloc | apply Kd.R_drewN | apply Kd.R_drew)); exact HO_4.out) (Kd.R_typed (by (with_reducible repeat (first | apply Kd.R_alloc | apply Kd.R_drewN | apply Kd.R_drew)); exact HO_6.out)) (by decide) hg); have n1_ := zab.mk (Kd.R_after (ok := (fun _ => True)) (by (with_reducible repeat (first | apply Kd.R_alloc | apply Kd.R_drewN | apply Kd.R_drew)); exact Kd.R_mono HO138.out (fun _ hk => ⟨trivial, hk⟩)) hg hat); have n2_ := zab.mk (hb); have n3_ := zab.mk (ho); clear HO_4; clear HO138; clear HB; clear HO_6; have HO_4 := n0_; have HO138 := n1_; have HB := n2_; have HO141 := n3_; clear n0_ n1_ n2_ n3_; clear ho hb hg hat))
                     repeat (go_quiet (first | ((with_reducible refine zax (b := .append) (xs := #[.tmp 50, .tmp 57]) rfl ?_); at_builtin; refine Kd.R_append (Kd.int .u8) (w0 := w) w.heap.size rfl (.tmp 50) (.tmp 57) 22 5 (.int .u8 0) 1 rfl Try.underlying22 info5 rfl (by decide) (by omega) (.slice (some ad133) x3_2.length co24) x3_2 (bt (rdOf ByteArray.empty l0 x5_1) x7_2) [.int .u8 (bt (rdOf ByteArray.empty l0 x5_1) x7_2)] (fun k_ => some k_ ≠ (u6 : Value).ownBlock) (fun _ => False) rfl rfl ?aP (fun _ hk => hk.elim) ?aF ?aO ?aB ?aS ?aL ?_; (case aP => exact rfl); (case aB => exact (by repeat (first | (with_reducible first | exact HB.out | apply zac | apply zaa | apply zad) | exact HB.out))); (case aF => exact (fun k_ hk => Kd.fresh' (Kd.R_lt (by (with_reducible repeat (first | apply Kd.R_alloc | apply Kd.R_drewN | apply Kd.R_drew)); exact HO_6.out)) k_ hk)); (case aO => exact (by (with_reducible repeat (first | apply Kd.R_alloc | apply Kd.R_drewN | apply Kd.R_drew)); exact HO_3.out)); (case aS => exact (zaj (by repeat (first | (with_reducible first | exact HB.out | apply zac | apply zaa | apply zad) | exact HB.out)))); (case aL => have := LMc22.out; omega); intro v137 w25 ho hb hg hat; rw [← Ny136.out] at ho; have n0_ := zab.mk (Kd.R_over' (by (with_reducible repeat (first | apply Kd.R_alloc | apply Kd.R_drewN | apply Kd.R_drew)); exact HO_4.out) (Kd.R_typed (by (with_reducible repeat (first | apply Kd.R_alloc | apply Kd.R_drewN | apply Kd.R_drew)); exact HO_3.out)) (by decide) hg); have n1_ := zab.mk (Kd.R_after (ok := (fun _ => True)) (by (with_reducible repeat (first | apply Kd.R_alloc | apply Kd.R_drewN | apply Kd.R_drew)); exact Kd.R_mono HO_6.out (fun _ hk => ⟨trivial, hk⟩)) hg hat); have n2_ := zab.mk (hb); have n3_ := zab.mk (ho); clear HO_4; clear HO_6; clear HB; clear HO_3; have HO_4 := n0_; have HO_6 := n1_; have HB := n2_; have HO138 := n3_; clear n0_ n1_ n2_ n3_; clear ho hb hg hat) | ((with_reducible refine zax (b := .append) (xs := #[.tmp 59, .tmp 63]) rfl ?_); at_builtin; refine Kd.R_append (Kd.int .u8) (w0 := w) w.heap.size rfl (.tmp 59) (.tmp 63) 22 5 (.int .u8 0) 1 rfl Try.underlying22 info5 rfl (by decide) (by omega) u6 x6_2 ((wrap64 (97 + x8_3)) % 256) [.int .u8 ((wrap64 (97 + x8_3)) % 256)] (fun k_ => some k_ ≠ (v137 : Value).ownBlock) (fun _ => False) rfl rfl ?aP (fun _ hk => hk.elim) ?aF ?aO ?aB ?aS ?aL ?_; (case aP => exact rfl); (case aB => exact (by repeat (first | (with_reducible first | exact HB.out | apply zac | apply zaa | apply zad) | exact HB.out))); (case aF => exact (fun k_ hk => Kd.fresh' (Kd.R_lt (by (with_reducible repeat (first | apply Kd.R_alloc | apply Kd.R_drewN | apply Kd.R_drew)); exact HO138.out)) k_ hk)); (case aO => exact (by (with_reducible repeat (first | apply Kd.R_alloc | apply Kd.R_drewN | apply Kd.R_drew)); exact Kd.R_mono HO_6.out (fun _ hk => hk.2))); (case aS => exact (zaj (by repeat (first | (with_reducible first | exact HB.out | apply zac | apply zaa | apply zad) | exact HB.out)))); (case aL => have := LMc23.out; omega); intro v140 w26 ho hb hg hat; rw [← Ny139.out] at ho; have n0_ := zab.mk (Kd.R_over' (by (with_reducible repeat (first | apply Kd.R_alloc | apply Kd.R_drewN | apply Kd.R_drew)); exact HO_4.out) (Kd.R_typed (by (with_reducible repeat (first | apply Kd.R_alloc | apply Kd.R_drewN | apply Kd.R_drew)); exact HO_6.out)) (by decide) hg); have n1_ := zab.mk (Kd.R_after (ok := (fun _ => True)) (by (with_reducible repeat (first | apply Kd.R_alloc | apply Kd.R_drewN | apply Kd.R_drew)); exact Kd.R_mono HO138.out (fun _ hk => ⟨trivial, hk⟩)) hg hat); have n2_ := zab.mk (hb); have n3_ := zab.mk (ho); clear HO_4; clear HO138; clear HB; clear HO_6; have HO_4 := n0_; have HO138 := n1_; have HB := n2_; have HO141 := n3_; clear n0_ n1_ n2_ n3_; clear ho hb hg hat)); try go_wp2_with (first | ((with_reducible refine zax (b := .append) (xs := #[.tmp 50, .tmp 57]) rfl ?_); at_builtin; refine Kd.R_append (Kd.int .u8) (w0 := w) w.heap.size rfl (.tmp 50) (.tmp 57) 22 5 (.int .u8 0) 1 rfl Try.underlying22 info5 rfl (by decide) (by omega) (.slice (some ad133) x3_2.length co24) x3_2 (bt (rdOf ByteArray.empty l0 x5_1) x7_2) [.int .u8 (bt (rdOf ByteArray.empty l0 x5_1) x7_2)] (fun k_ => some k_ ≠ (u6 : Value).ownBlock) (fun _ => False) rfl rfl ?aP (fun _ hk => hk.elim) ?aF ?aO ?aB ?aS ?aL ?_; (case aP => exact rfl); (case aB => exact (by repeat (first | (with_reducible first | exact HB.out | apply zac | apply zaa | apply zad) | exact HB.out))); (case aF => exact (fun k_ hk => Kd.fresh' (Kd.R_lt (by (with_reducible repeat (first | apply Kd.R_alloc | apply Kd.R_drewN | apply Kd.R_drew)); exact HO_6.out)) k_ hk)); (case aO => exact (by (with_reducible repeat (first | apply Kd.R_alloc | apply Kd.R_drewN | apply Kd.R_drew)); exact HO_3.out)); (case aS => exact (zaj (by repeat (first | (with_reducible first | exact HB.out | apply zac | apply zaa | apply zad) | exact HB.out)))); (case aL => have := LMc22.out; omega); intro v137 w25 ho hb hg hat; rw [← Ny136.out] at ho; have n0_ := zab.mk (Kd.R_over' (by (with_reducible repeat (first | apply Kd.R_alloc | apply Kd.R_drewN | apply Kd.R_drew)); exact HO_4.out) (Kd.R_typed (by (with_reducible repeat (first | apply Kd.R_alloc | apply Kd.R_drewN | apply Kd.R_drew)); exact HO_3.out)) (by decide) hg); have n1_ := zab.mk (Kd.R_after (ok := (fun _ => True)) (by (with_reducible repeat (first | apply Kd.R_alloc | apply Kd.R_drewN | apply Kd.R_drew)); exact Kd.R_mono HO_6.out (fun _ hk => ⟨trivial, hk⟩)) hg hat); have n2_ := zab.mk (hb); have n3_ := zab.mk (ho); clear HO_4; clear HO_6; clear HB; clear HO_3; have HO_4 := n0_; have HO_6 := n1_; have HB := n2_; have HO138 := n3_; clear n0_ n1_ n2_ n3_; clear ho hb hg hat) | ((with_reducible refine zax (b := .append) (xs := #[.tmp 59, .tmp 63]) rfl ?_); at_builtin; refine Kd.R_append (Kd.int .u8) (w0 := w) w.heap.size rfl (.tmp 59) (.tmp 63) 22 5 (.int .u8 0) 1 rfl Try.underlying22 info5 rfl (by decide) (by omega) u6 x6_2 ((wrap64 (97 + x8_3)) % 256) [.int .u8 ((wrap64 (97 + x8_3)) % 256)] (fun k_ => some k_ ≠ (v137 : Value).ownBlock) (fun _ => False) rfl rfl ?aP (fun _ hk => hk.elim) ?aF ?aO ?aB ?aS ?aL ?_; (case aP => exact rfl); (case aB => exact (by repeat (first | (with_reducible first | exact HB.out | apply zac | apply zaa | apply zad) | exact HB.out))); (case aF => exact (fun k_ hk => Kd.fresh' (Kd.R_lt (by (with_reducible repeat (first | apply Kd.R_alloc | apply Kd.R_drewN | apply Kd.R_drew)); exact HO138.out)) k_ hk)); (case aO => exact (by (with_reducible repeat (first | apply Kd.R_alloc | apply Kd.R_drewN | apply Kd.R_drew)); exact Kd.R_mono HO_6.out (fun _ hk => hk.2))); (case aS => exact (zaj (by repeat (first | (with_reducible first | exact HB.out | apply zac | apply zaa | apply zad) | exact HB.out)))); (case aL => have := LMc23.out; omega); intro v140 w26 ho hb hg hat; rw [← Ny139.out] at ho; have n0_ := zab.mk (Kd.R_over' (by (with_reducible repeat (first | apply Kd.R_alloc | apply Kd.R_drewN | apply Kd.R_drew)); exact HO_4.out) (Kd.R_typed (by (with_reducible repeat (first | apply Kd.R_alloc | apply Kd.R_drewN | apply Kd.R_drew)); exact HO_6.out)) (by decide) hg); have n1_ := zab.mk (Kd.R_after (ok := (fun _ => True)) (by (with_reducible repeat (first | apply Kd.R_alloc | apply Kd.R_drewN | apply Kd.R_drew)); exact Kd.R_mono HO138.out (fun _ hk => ⟨trivial, hk⟩)) hg hat); have n2_ := zab.mk (hb); have n3_ := zab.mk (ho); clear HO_4; clear HO138; clear HB; clear HO_6; have HO_4 := n0_; have HO138 := n1_; have HB := n2_; have HO141 := n3_; clear n0_ n1_ n2_ n3_; clear ho hb hg hat)))
                     go_roundg k3
                     case measure => have := HK1.out; have := HK2.out; have := HK3.out; omega
                     case rel => exact ⟨(y136), (y139), (wrap64 (x7_2 + 1)), (by first | rfl | (simp; done) | (simp [*]; done)), H', ⟨by have := HK1.out; have := HK2.out; have := HK3.out; omega⟩, ⟨by (with_reducible repeat (first | apply Kd.R_alloc | apply Kd.R_drewN | apply Kd.R_drew)); exact Kd.R_mono HO138.out (fun _ hk => hk.2)⟩, ⟨by (with_reducible repeat (first | apply Kd.R_alloc | apply Kd.R_drewN | apply Kd.R_drew)); exact HO_4.out⟩, ⟨by (with_reducible repeat (first | apply Kd.R_alloc | apply Kd.R_drewN | apply Kd.R_drew)); exact HO141.out⟩, ⟨by repeat (first | (with_reducible first | exact HB.out | apply zac | apply zaa | apply zad) | exact HB.out)⟩⟩
                    ·rw [if_neg c23] at H
                     exact absurd H (by simp)
                   ·rw [if_neg c22] at H
                    exact absurd H (by simp)
                  ·rw [if_neg c20] at H
                   have c20b0 : (x8_3 == (x3_2.length : Int)) = false := beq_eq_false_iff_ne.mpr c20
                   have c20b1 : (x8_3 != (x3_2.length : Int)) = true := bne_iff_ne.mpr c20
                   by_cases c27 : x6_2.length < 140737488355328
                   ·rw [if_pos c27] at H
                    have LMc27 := zab.mk c27
                    clear c27
                    obtain ⟨y142, hy142⟩ : ∃ y_ : List Int, y_ = (x6_2 ++ [(wrap64 (97 + x8_3)) % 256]) := ⟨_, rfl⟩
                    replace H : (spec_l1Names.l1 k3 l0 x3_2 x4_1 x5_1 y142 (wrap64 (x7_2 + 1))) = some r := by first | (rw [hy142]; with_reducible exact H) | (have H2_ := (Option.bind_some _ _).symm.trans H; rw [hy142]; with_reducible exact H2_) | (have H2_ := (Option.bind_some _ _).symm.trans H; with_reducible exact H2_) | with_reducible exact H | (rw [hy142]; exact H) | exact H
                    have Ny142 := zab.mk hy142
                    clear hy142
                    have H' := zab.mk H
                    clear H
                    obtain ⟨Ao28, co28, eo28⟩ := Kd.R_slice HO_3.out
                    subst eo28
                    have p133 : 0 ≤ (x8_3 : Int) := of_decide_eq_true (by first | (with_reducible assumption) | assumption)
                    have q133 : x8_3 < (x3_2.length : Int) := of_decide_eq_true (by first | (with_reducible assumption) | assumption)
                    obtain ⟨ad133, e133, hx133_0⟩ := Kd.at_int (Kd.R_reads' HO_3.out).2.2 x8_3 p133 q133
                    cases e133
                    replace p133 := eq_true p133
                    replace q133 := eq_true q133
                    have p134 : 0 ≤ (x5_1 : Int) := of_decide_eq_true (by first | (with_reducible assumption) | assumption)
                    have q134 : x5_1 < (l0.length : Int) := of_decide_eq_true (by first | (with_reducible assumption) | assumption)
                    obtain ⟨ad134, e134, hx134_0⟩ := Kd.at_string HR0.out x5_1 p134 q134
                    obtain rfl : ad129 = ad134 := (by injection e134)
                    replace hx134_0 := (HB.out.cell (World.block_lt_of_cell? w _ hx134_0)).trans hx134_0
                    replace p134 := eq_true p134
                    replace q134 := eq_true q134
                    have p18 : 0 ≤ (x7_2 : Int) := of_decide_eq_true (by first | (with_reducible assumption) | assumption)
                    have q18 : x7_2 < ((rdOf ByteArray.empty l0 x5_1).size : Int) := of_decide_eq_true (by first | (with_reducible assumption) | assumption)
                    have hx18 := bt_at (rdOf ByteArray.empty l0 x5_1) x7_2
                    replace p18 := eq_true p18
                    replace q18 := eq_true q18
                    go_wp2_with (first | ((with_reducible refine zax (b := .append) (xs := #[.tmp 59, .tmp 63]) rfl ?_); at_builtin; refine Kd.R_append (Kd.int .u8) (w0 := w) w.heap.size rfl (.tmp 59) (.tmp 63) 22 5 (.int .u8 0) 1 rfl Try.underlying22 info5 rfl (by decide) (by omega) u6 x6_2 ((wrap64 (97 + x8_3)) % 256) [.int .u8 ((wrap64 (97 + x8_3)) % 256)] (fun k_ => some k_ ≠ (.slice (some ad133) x3_2.length co28 : Value).ownBlock) (fun _ => False) rfl rfl ?aP (fun _ hk => hk.elim) ?aF ?aO ?aB ?aS ?aL ?_; (case aP => exact rfl); (case aB => exact (by repeat (first | (with_reducible first | exact HB.out | apply zac | apply zaa | apply zad) | exact HB.out))); (case aF => exact (fun k_ hk => Kd.fresh' (Kd.R_lt (by (with_reducible repeat (first | apply Kd.R_alloc | apply Kd.R_drewN | apply Kd.R_drew)); exact HO_3.out)) k_ hk)); (case aO => exact (by (with_reducible repeat (first | apply Kd.R_alloc | apply Kd.R_drewN | apply Kd.R_drew)); exact HO_6.out)); (case aS => exact (zaj (by repeat (first | (with_reducible first | exact HB.out | apply zac | apply zaa | apply zad) | exact HB.out)))); (case aL => have := LMc27.out; omega); intro v143 w29 ho hb hg hat; rw [← Ny142.out] at ho; have n0_ := zab.mk (Kd.R_after (ok := (fun _ => True)) (by (with_reducible repeat (first | apply Kd.R_alloc | apply Kd.R_drewN | apply Kd.R_drew)); exact Kd.R_mono HO_3.out (fun _ hk => ⟨trivial, hk⟩)) hg hat); have n1_ := zab.mk (Kd.R_over' (by (with_reducible repeat (first | apply Kd.R_alloc | apply Kd.R_drewN | apply Kd.R_drew)); exact HO_4.out) (Kd.R_typed (by (with_reducible repeat (first | apply Kd.R_alloc | apply Kd.R_drewN | apply Kd.R_drew)); exact HO_6.out)) (by decide) hg); have n2_ := zab.mk (hb); have n3_ := zab.mk (ho); clear HO_3; clear HO_4; clear HB; clear HO_6; have HO_3 := n0_; have HO_4 := n1_; have HB := n2_; have HO144 := n3_; clear n0_ n1_ n2_ n3_; clear ho hb hg hat))
                    repeat (go_quiet (first | ((with_reducible refine zax (b := .append) (xs := #[.tmp 59, .tmp 63]) rfl ?_); at_builtin; refine Kd.R_append (Kd.int .u8) (w0 := w) w.heap.size rfl (.tmp 59) (.tmp 63) 22 5 (.int .u8 0) 1 rfl Try.underlying22 info5 rfl (by decide) (by omega) u6 x6_2 ((wrap64 (97 + x8_3)) % 256) [.int .u8 ((wrap64 (97 + x8_3)) % 256)] (fun k_ => some k_ ≠ (.slice (some ad133) x3_2.length co28 : Value).ownBlock) (fun _ => False) rfl rfl ?aP (fun _ hk => hk.elim) ?aF ?aO ?aB ?aS ?aL ?_; (case aP => exact rfl); (case aB => exact (by repeat (first | (with_reducible first | exact HB.out | apply zac | apply zaa | apply zad) | exact HB.out))); (case aF => exact (fun k_ hk => Kd.fresh' (Kd.R_lt (by (with_reducible repeat (first | apply Kd.R_alloc | apply Kd.R_drewN | apply Kd.R_drew)); exact HO_3.out)) k_ hk)); (case aO => exact (by (with_reducible repeat (first | apply Kd.R_alloc | apply Kd.R_drewN | apply Kd.R_drew)); exact HO_6.out)); (case aS => exact (zaj (by repeat (first | (with_reducible first | exact HB.out | apply zac | apply zaa | apply zad) | exact HB.out)))); (case aL => have := LMc27.out; omega); intro v143 w29 ho hb hg hat; rw [← Ny142.out] at ho; have n0_ := zab.mk (Kd.R_after (ok := (fun _ => True)) (by (with_reducible repeat (first | apply Kd.R_alloc | apply Kd.R_drewN | apply Kd.R_drew)); exact Kd.R_mono HO_3.out (fun _ hk => ⟨trivial, hk⟩)) hg hat); have n1_ := zab.mk (Kd.R_over' (by (with_reducible repeat (first | apply Kd.R_alloc | apply Kd.R_drewN | apply Kd.R_drew)); exact HO_4.out) (Kd.R_typed (by (with_reducible repeat (first | apply Kd.R_alloc | apply Kd.R_drewN | apply Kd.R_drew)); exact HO_6.out)) (by decide) hg); have n2_ := zab.mk (hb); have n3_ := zab.mk (ho); clear HO_3; clear HO_4; clear HB; clear HO_6; have HO_3 := n0_; have HO_4 := n1_; have HB := n2_; have HO144 := n3_; clear n0_ n1_ n2_ n3_; clear ho hb hg hat)); try go_wp2_with (first | ((with_reducible refine zax (b := .append) (xs := #[.tmp 59, .tmp 63]) rfl ?_); at_builtin; refine Kd.R_append (Kd.int .u8) (w0 := w) w.heap.size rfl (.tmp 59) (.tmp 63) 22 5 (.int .u8 0) 1 rfl Try.underlying22 info5 rfl (by decide) (by omega) u6 x6_2 ((wrap64 (97 + x8_3)) % 256) [.int .u8 ((wrap64 (97 + x8_3)) % 256)] (fun k_ => some k_ ≠ (.slice (some ad133) x3_2.length co28 : Value).ownBlock) (fun _ => False) rfl rfl ?aP (fun _ hk => hk.elim) ?aF ?aO ?aB ?aS ?aL ?_; (case aP => exact rfl); (case aB => exact (by repeat (first | (with_reducible first | exact HB.out | apply zac | apply zaa | apply zad) | exact HB.out))); (case aF => exact (fun k_ hk => Kd.fresh' (Kd.R_lt (by (with_reducible repeat (first | apply Kd.R_alloc | apply Kd.R_drewN | apply Kd.R_drew)); exact HO_3.out)) k_ hk)); (case aO => exact (by (with_reducible repeat (first | apply Kd.R_alloc | apply Kd.R_drewN | apply Kd.R_drew)); exact HO_6.out)); (case aS => exact (zaj (by repeat (first | (with_reducible first | exact HB.out | apply zac | apply zaa | apply zad) | exact HB.out)))); (case aL => have := LMc27.out; omega); intro v143 w29 ho hb hg hat; rw [← Ny142.out] at ho; have n0_ := zab.mk (Kd.R_after (ok := (fun _ => True)) (by (with_reducible repeat (first | apply Kd.R_alloc | apply Kd.R_drewN | apply Kd.R_drew)); exact Kd.R_mono HO_3.out (fun _ hk => ⟨trivial, hk⟩)) hg hat); have n1_ := zab.mk (Kd.R_over' (by (with_reducible repeat (first | apply Kd.R_alloc | apply Kd.R_drewN | apply Kd.R_drew)); exact HO_4.out) (Kd.R_typed (by (with_reducible repeat (first | apply Kd.R_alloc | apply Kd.R_drewN | apply Kd.R_drew)); exact HO_6.out)) (by decide) hg); have n2_ := zab.mk (hb); have n3_ := zab.mk (ho); clear HO_3; clear HO_4; clear HB; clear HO_6; have HO_3 := n0_; have HO_4 := n1_; have HB := n2_; have HO144 := n3_; clear n0_ n1_ n2_ n3_; clear ho hb hg hat)))
                    go_roundg k3
                    case measure => have := HK1.out; have := HK2.out; have := HK3.out; omega
                    case rel => exact ⟨(x3_2), (y142), (wrap64 (x7_2 + 1)), (by first | rfl | (simp; done) | (simp [*]; done)), H', ⟨by have := HK1.out; have := HK2.out; have := HK3.out; omega⟩, ⟨by (with_reducible repeat (first | apply Kd.R_alloc | apply Kd.R_drewN | apply Kd.R_drew)); exact Kd.R_mono HO_3.out (fun _ hk => hk.2)⟩, ⟨by (with_reducible repeat (first | apply Kd.R_alloc | apply Kd.R_drewN | apply Kd.R_drew)); exact HO_4.out⟩, ⟨by (with_reducible repeat (first | apply Kd.R_alloc | apply Kd.R_drewN | apply Kd.R_drew)); exact HO144.out⟩, ⟨by repeat (first | (with_reducible first | exact HB.out | apply zac | apply zaa | apply zad) | exact HB.out)⟩⟩
                   ·rw [if_neg c27] at H
                    exact absurd H (by simp)
                 ·rw [if_neg c19] at H
                  have c19b0 : ((rd x3_2 x8_3) == (bt (rdOf ByteArray.empty l0 x5_1) x7_2)) = false := beq_eq_false_iff_ne.mpr c19
                  have c19b1 : ((rd x3_2 x8_3) != (bt (rdOf ByteArray.empty l0 x5_1) x7_2)) = true := bne_iff_ne.mpr c19
                  have H' := zab.mk H
                  clear H
                  obtain ⟨Ao30, co30, eo30⟩ := Kd.R_slice HO_3.out
                  subst eo30
                  have p133 : 0 ≤ (x8_3 : Int) := of_decide_eq_true (by first | (with_reducible assumption) | assumption)
                  have q133 : x8_3 < (x3_2.length : Int) := of_decide_eq_true (by first | (with_reducible assumption) | assumption)
                  obtain ⟨ad133, e133, hx133_0⟩ := Kd.at_int (Kd.R_reads' HO_3.out).2.2 x8_3 p133 q133
                  cases e133
                  replace p133 := eq_true p133
                  replace q133 := eq_true q133
                  have p134 : 0 ≤ (x5_1 : Int) := of_decide_eq_true (by first | (with_reducible assumption) | assumption)
                  have q134 : x5_1 < (l0.length : Int) := of_decide_eq_true (by first | (with_reducible assumption) | assumption)
                  obtain ⟨ad134, e134, hx134_0⟩ := Kd.at_string HR0.out x5_1 p134 q134
                  obtain rfl : ad129 = ad134 := (by injection e134)
                  replace hx134_0 := (HB.out.cell (World.block_lt_of_cell? w _ hx134_0)).trans hx134_0
                  replace p134 := eq_true p134
                  replace q134 := eq_true q134
                  have p18 : 0 ≤ (x7_2 : Int) := of_decide_eq_true (by first | (with_reducible assumption) | assumption)
                  have q18 : x7_2 < ((rdOf ByteArray.empty l0 x5_1).size : Int) := of_decide_eq_true (by first | (with_reducible assumption) | assumption)
                  have hx18 := bt_at (rdOf ByteArray.empty l0 x5_1) x7_2
                  replace p18 := eq_true p18
                  replace q18 := eq_true q18
                  go_wp2
                  repeat (go_quiet (fail); try go_wp2)
                  go_roundg k3
                  case measure => have := HK1.out; have := HK2.out; have := HK3.out; omega
                  case rel => exact ⟨(wrap64 (x8_3 + 1)), (by first | rfl | (simp; done) | (simp [*]; done)), H', ⟨by have := HK1.out; have := HK2.out; have := HK3.out; omega⟩, ⟨by (with_reducible repeat (first | apply Kd.R_alloc | apply Kd.R_drewN | apply Kd.R_drew)); exact HO_3.out⟩, ⟨by (with_reducible repeat (first | apply Kd.R_alloc | apply Kd.R_drewN | apply Kd.R_drew)); exact HO_4.out⟩, ⟨by (with_reducible repeat (first | apply Kd.R_alloc | apply Kd.R_drewN | apply Kd.R_drew)); exact HO_6.out⟩, ⟨by repeat (first | (with_reducible first | exact HB.out | apply zac | apply zaa | apply zad) | exact HB.out)⟩⟩
                ·rw [if_neg c17] at H
                 exact absurd H (by simp)
               ·rw [if_neg c16] at H
                exact absurd H (by simp)
              ·rw [if_neg c15] at H
               exact absurd H (by simp)
             ·rw [if_neg c14] at H
              exact absurd H (by simp)
            ·rw [if_neg c13] at H
             exact absurd H (by simp)
           ·rw [if_neg c12] at H
            have c12b0 : decide (x8_3 < (x3_2.length : Int)) = false := decide_eq_false c12
            clear c12
            by_cases c31 : x8_3 = (x3_2.length : Int)
            ·rw [if_pos c31] at H
             have c31b0 : (x8_3 == (x3_2.length : Int)) = true := beq_iff_eq.mpr c31
             have c31b1 : (x8_3 != (x3_2.length : Int)) = false := bne_eq_false_iff_eq.mpr c31
             clear c31
             by_cases c32 : 0 ≤ x5_1
             ·rw [if_pos c32] at H
              have c32b0 : decide (0 ≤ x5_1) = true := decide_eq_true c32
              clear c32
              by_cases c33 : x5_1 < (l0.length : Int)
              ·rw [if_pos c33] at H
               have c33b0 : decide (x5_1 < (l0.length : Int)) = true := decide_eq_true c33
               clear c33
               by_cases c34 : 0 ≤ x7_2
               ·rw [if_pos c34] at H
                have c34b0 : decide (0 ≤ x7_2) = true := decide_eq_true c34
                clear c34
                by_cases c35 : x7_2 < ((rdOf ByteArray.empty l0 x5_1).size : Int)
                ·rw [if_pos c35] at H
                 have c35b0 : decide (x7_2 < ((rdOf ByteArray.empty l0 x5_1).size : Int)) = true := decide_eq_true c35
                 clear c35
                 by_cases c37 : x3_2.length < 140737488355328
                 ·rw [if_pos c37] at H
                  have LMc37 := zab.mk c37
                  clear c37
                  obtain ⟨y146, hy146⟩ : ∃ y_ : List Int, y_ = (x3_2 ++ [bt (rdOf ByteArray.empty l0 x5_1) x7_2]) := ⟨_, rfl⟩
                  replace H : (if x6_2.length < 140737488355328 then (spec_l1Names.l1 k3 l0 y146 x4_1 x5_1 (x6_2 ++ [(wrap64 (97 + x8_3)) % 256]) (wrap64 (x7_2 + 1))) else (none)) = some r := by first | (rw [hy146]; with_reducible exact H) | (have H2_ := (Option.bind_some _ _).symm.trans H; rw [hy146]; with_reducible exact H2_) | (have H2_ := (Option.bind_some _ _).symm.trans H; with_reducible exact H2_) | with_reducible exact H | (rw [hy146]; exact H) | exact H
                  have Ny146 := zab.mk hy146
                  clear hy146
                  by_cases c38 : x6_2.length < 140737488355328
                  ·rw [if_pos c38] at H
                   have LMc38 := zab.mk c38
                   clear c38
                   obtain ⟨y149, hy149⟩ : ∃ y_ : List Int, y_ = (x6_2 ++ [(wrap64 (97 + x8_3)) % 256]) := ⟨_, rfl⟩
                   replace H : (spec_l1Names.l1 k3 l0 y146 x4_1 x5_1 y149 (wrap64 (x7_2 + 1))) = some r := by first | (rw [hy149]; with_reducible exact H) | (have H2_ := (Option.bind_some _ _).symm.trans H; rw [hy149]; with_reducible exact H2_) | (have H2_ := (Option.bind_some _ _).symm.trans H; with_reducible exact H2_) | with_reducible exact H | (rw [hy149]; exact H) | exact H
                   have Ny149 := zab.mk hy149
                   clear hy149
                   have H' := zab.mk H
                   clear H
                   obtain ⟨Ao39, co39, eo39⟩ := Kd.R_slice HO_3.out
                   subst eo39
                   have p145 : 0 ≤ (x5_1 : Int) := of_decide_eq_true (by first | (with_reducible assumption) | assumption)
                   have q145 : x5_1 < (l0.length : Int) := of_decide_eq_true (by first | (with_reducible assumption) | assumption)
                   obtain ⟨ad145, e145, hx145_0⟩ := Kd.at_string HR0.out x5_1 p145 q145
                   obtain rfl : ad129 = ad145 := (by injection e145)
                   replace hx145_0 := (HB.out.cell (World.block_lt_of_cell? w _ hx145_0)).trans hx145_0
                   replace p145 := eq_true p145
                   replace q145 := eq_true q145
                   have p36 : 0 ≤ (x7_2 : Int) := of_decide_eq_true (by first | (with_reducible assumption) | assumption)
                   have q36 : x7_2 < ((rdOf ByteArray.empty l0 x5_1).size : Int) := of_decide_eq_true (by first | (with_reducible assumption) | assumption)
                   have hx36 := bt_at (rdOf ByteArray.empty l0 x5_1) x7_2
                   replace p36 := eq_true p36
                   replace q36 := eq_true q36
                   go_wp2_with (first | ((with_reducible refine zax (b := .append) (xs := #[.tmp 50, .tmp 57]) rfl ?_); at_builtin; refine Kd.R_append (Kd.int .u8) (w0 := w) w.heap.size rfl (.tmp 50) (.tmp 57) 22 5 (.int .u8 0) 1 rfl Try.underlying22 info5 rfl (by decide) (by omega) (.slice Ao39 x3_2.length co39) x3_2 (bt (rdOf ByteArray.empty l0 x5_1) x7_2) [.int .u8 (bt (rdOf ByteArray.empty l0 x5_1) x7_2)] (fun k_ => some k_ ≠ (u6 : Value).ownBlock) (fun _ => False) rfl rfl ?aP (fun _ hk => hk.elim) ?aF ?aO ?aB ?aS ?aL ?_; (case aP => exact rfl); (case aB => exact (by repeat (first | (with_reducible first | exact HB.out | apply zac | apply zaa | apply zad) | exact HB.out))); (case aF => exact (fun k_ hk => Kd.fresh' (Kd.R_lt (by (with_reducible repeat (first | apply Kd.R_alloc | apply Kd.R_drewN | apply Kd.R_drew)); exact HO_6.out)) k_ hk)); (case aO => exact (by (with_reducible repeat (first | apply Kd.R_alloc | apply Kd.R_drewN | apply Kd.R_drew)); exact HO_3.out)); (case aS => exact (zaj (by repeat (first | (with_reducible first | exact HB.out | apply zac | apply zaa | apply zad) | exact HB.out)))); (case aL => have := LMc37.out; omega); intro v147 w40 ho hb hg hat; rw [← Ny146.out] at ho; have n0_ := zab.mk (Kd.R_over' (by (with_reducible repeat (first | apply Kd.R_alloc | apply Kd.R_drewN | apply Kd.R_drew)); exact HO_4.out) (Kd.R_typed (by (with_reducible repeat (first | apply Kd.R_alloc | apply Kd.R_drewN | apply Kd.R_drew)); exact HO_3.out)) (by decide) hg); have n1_ := zab.mk (Kd.R_after (ok := (fun _ => True)) (by (with_reducible repeat (first | apply Kd.R_alloc | apply Kd.R_drewN | apply Kd.R_drew)); exact Kd.R_mono HO_6.out (fun _ hk => ⟨trivial, hk⟩)) hg hat); have n2_ := zab.mk (hb); have n3_ := zab.mk (ho); clear HO_4; clear HO_6; clear HB; clear HO_3; have HO_4 := n0_; have HO_6 := n1_; have HB := n2_; have HO148 := n3_; clear n0_ n1_ n2_ n3_; clear ho hb hg hat) | ((with_reducible refine zax (b := .append) (xs := #[.tmp 59, .tmp 63]) rfl ?_); at_builtin; refine Kd.R_append (Kd.int .u8) (w0 := w) w.heap.size rfl (.tmp 59) (.tmp 63) 22 5 (.int .u8 0) 1 rfl Try.underlying22 info5 rfl (by decide) (by omega) u6 x6_2 ((wrap64 (97 + x8_3)) % 256) [.int .u8 ((wrap64 (97 + x8_3)) % 256)] (fun k_ => some k_ ≠ (v147 : Value).ownBlock) (fun _ => False) rfl rfl ?aP (fun _ hk => hk.elim) ?aF ?aO ?aB ?aS ?aL ?_; (case aP => exact rfl); (case aB => exact (by repeat (first | (with_reducible first | exact HB.out | apply zac | apply zaa | apply zad) | exact HB.out))); (case aF => exact (fun k_ hk => Kd.fresh' (Kd.R_lt (by (with_reducible repeat (first | apply Kd.R_alloc | apply Kd.R_drewN | apply Kd.R_drew)); exact HO148.out)) k_ hk)); (case aO => exact (by (with_reducible repeat (first | apply Kd.R_alloc | apply Kd.R_drewN | apply Kd.R_drew)); exact Kd.R_mono HO_6.out (fun _ hk => hk.2))); (case aS => exact (zaj (by repeat (first | (with_reducible first | exact HB.out | apply zac | apply zaa | apply zad) | exact HB.out)))); (case aL => have := LMc38.out; omega); intro v150 w41 ho hb hg hat; rw [← Ny149.out] at ho; have n0_ := zab.mk (Kd.R_over' (by (with_reducible repeat (first | apply Kd.R_alloc | apply Kd.R_drewN | apply Kd.R_drew)); exact HO_4.out) (Kd.R_typed (by (with_reducible repeat (first | apply Kd.R_alloc | apply Kd.R_drewN | apply Kd.R_drew)); exact HO_6.out)) (by decide) hg); have n1_ := zab.mk (Kd.R_after (ok := (fun _ => True)) (by (with_reducible repeat (first | apply Kd.R_alloc | apply Kd.R_drewN | apply Kd.R_drew)); exact Kd.R_mono HO148.out (fun _ hk => ⟨trivial, hk⟩)) hg hat); have n2_ := zab.mk (hb); have n3_ := zab.mk (ho); clear HO_4; clear HO148; clear HB; clear HO_6; have HO_4 := n0_; have HO148 := n1_; have HB := n2_; have HO151 := n3_; clear n0_ n1_ n2_ n3_; clear ho hb hg hat))
                   repeat (go_quiet (first | ((with_reducible refine zax (b := .append) (xs := #[.tmp 50, .tmp 57]) rfl ?_); at_builtin; refine Kd.R_append (Kd.int .u8) (w0 := w) w.heap.size rfl (.tmp 50) (.tmp 57) 22 5 (.int .u8 0) 1 rfl Try.underlying22 info5 rfl (by decide) (by omega) (.slice Ao39 x3_2.length co39) x3_2 (bt (rdOf ByteArray.empty l0 x5_1) x7_2) [.int .u8 (bt (rdOf ByteArray.empty l0 x5_1) x7_2)] (fun k_ => some k_ ≠ (u6 : Value).ownBlock) (fun _ => False) rfl rfl ?aP (fun _ hk => hk.elim) ?aF ?aO ?aB ?aS ?aL ?_; (case aP => exact rfl); (case aB => exact (by repeat (first | (with_reducible first | exact HB.out | apply zac | apply zaa | apply zad) | exact HB.out))); (case aF => exact (fun k_ hk => Kd.fresh' (Kd.R_lt (by (with_reducible repeat (first | apply Kd.R_alloc | apply Kd.R_drewN | apply Kd.R_drew)); exact HO_6.out)) k_ hk)); (case aO => exact (by (with_reducible repeat (first | apply Kd.R_alloc | apply Kd.R_drewN | apply Kd.R_drew)); exact HO_3.out)); (case aS => exact (zaj (by repeat (first | (with_reducible first | exact HB.out | apply zac | apply zaa | apply zad) | exact HB.out)))); (case aL => have := LMc37.out; omega); intro v147 w40 ho hb hg hat; rw [← Ny146.out] at ho; have n0_ := zab.mk (Kd.R_over' (by (with_reducible repeat (first | apply Kd.R_alloc | apply Kd.R_drewN | apply Kd.R_drew)); exact HO_4.out) (Kd.R_typed (by (with_reducible repeat (first | apply Kd.R_alloc | apply Kd.R_drewN | apply Kd.R_drew)); exact HO_3.out)) (by decide) hg); have n1_ := zab.mk (Kd.R_after (ok := (fun _ => True)) (by (with_reducible repeat (first | apply Kd.R_alloc | apply Kd.R_drewN | apply Kd.R_drew)); exact Kd.R_mono HO_6.out (fun _ hk => ⟨trivial, hk⟩)) hg hat); have n2_ := zab.mk (hb); have n3_ := zab.mk (ho); clear HO_4; clear HO_6; clear HB; clear HO_3; have HO_4 := n0_; have HO_6 := n1_; have HB := n2_; have HO148 := n3_; clear n0_ n1_ n2_ n3_; clear ho hb hg hat) | ((with_reducible refine zax (b := .append) (xs := #[.tmp 59, .tmp 63]) rfl ?_); at_builtin; refine Kd.R_append (Kd.int .u8) (w0 := w) w.heap.size rfl (.tmp 59) (.tmp 63) 22 5 (.int .u8 0) 1 rfl Try.underlying22 info5 rfl (by decide) (by omega) u6 x6_2 ((wrap64 (97 + x8_3)) % 256) [.int .u8 ((wrap64 (97 + x8_3)) % 256)] (fun k_ => some k_ ≠ (v147 : Value).ownBlock) (fun _ => False) rfl rfl ?aP (fun _ hk => hk.elim) ?aF ?aO ?aB ?aS ?aL ?_; (case aP => exact rfl); (case aB => exact (by repeat (first | (with_reducible first | exact HB.out | apply zac | apply zaa | apply zad) | exact HB.out))); (case aF => exact (fun k_ hk => Kd.fresh' (Kd.R_lt (by (with_reducible repeat (first | apply Kd.R_alloc | apply Kd.R_drewN | apply Kd.R_drew)); exact HO148.out)) k_ hk)); (case aO => exact (by (with_reducible repeat (first | apply Kd.R_alloc | apply Kd.R_drewN | apply Kd.R_drew)); exact Kd.R_mono HO_6.out (fun _ hk => hk.2))); (case aS => exact (zaj (by repeat (first | (with_reducible first | exact HB.out | apply zac | apply zaa | apply zad) | exact HB.out)))); (case aL => have := LMc38.out; omega); intro v150 w41 ho hb hg hat; rw [← Ny149.out] at ho; have n0_ := zab.mk (Kd.R_over' (by (with_reducible repeat (first | apply Kd.R_alloc | apply Kd.R_drewN | apply Kd.R_drew)); exact HO_4.out) (Kd.R_typed (by (with_reducible repeat (first | apply Kd.R_alloc | apply Kd.R_drewN | apply Kd.R_drew)); exact HO_6.out)) (by decide) hg); have n1_ := zab.mk (Kd.R_after (ok := (fun _ => True)) (by (with_reducible repeat (first | apply Kd.R_alloc | apply Kd.R_drewN | apply Kd.R_drew)); exact Kd.R_mono HO148.out (fun _ hk => ⟨trivial, hk⟩)) hg hat); have n2_ := zab.mk (hb); have n3_ := zab.mk (ho); clear HO_4; clear HO148; clear HB; clear HO_6; have HO_4 := n0_; have HO148 := n1_; have HB := n2_; have HO151 := n3_; clear n0_ n1_ n2_ n3_; clear ho hb hg hat)); try go_wp2_with (first | ((with_reducible refine zax (b := .append) (xs := #[.tmp 50, .tmp 57]) rfl ?_); at_builtin; refine Kd.R_append (Kd.int .u8) (w0 := w) w.heap.size rfl (.tmp 50) (.tmp 57) 22 5 (.int .u8 0) 1 rfl Try.underlying22 info5 rfl (by decide) (by omega) (.slice Ao39 x3_2.length co39) x3_2 (bt (rdOf ByteArray.empty l0 x5_1) x7_2) [.int .u8 (bt (rdOf ByteArray.empty l0 x5_1) x7_2)] (fun k_ => some k_ ≠ (u6 : Value).ownBlock) (fun _ => False) rfl rfl ?aP (fun _ hk => hk.elim) ?aF ?aO ?aB ?aS ?aL ?_; (case aP => exact rfl); (case aB => exact (by repeat (first | (with_reducible first | exact HB.out | apply zac | apply zaa | apply zad) | exact HB.out))); (case aF => exact (fun k_ hk => Kd.fresh' (Kd.R_lt (by (with_reducible repeat (first | apply Kd.R_alloc | apply Kd.R_drewN | apply Kd.R_drew)); exact HO_6.out)) k_ hk)); (case aO => exact (by (with_reducible repeat (first | apply Kd.R_alloc | apply Kd.R_drewN | apply Kd.R_drew)); exact HO_3.out)); (case aS => exact (zaj (by repeat (first | (with_reducible first | exact HB.out | apply zac | apply zaa | apply zad) | exact HB.out)))); (case aL => have := LMc37.out; omega); intro v147 w40 ho hb hg hat; rw [← Ny146.out] at ho; have n0_ := zab.mk (Kd.R_over' (by (with_reducible repeat (first | apply Kd.R_alloc | apply Kd.R_drewN | apply Kd.R_drew)); exact HO_4.out) (Kd.R_typed (by (with_reducible repeat (first | apply Kd.R_alloc | apply Kd.R_drewN | apply Kd.R_drew)); exact HO_3.out)) (by decide) hg); have n1_ := zab.mk (Kd.R_after (ok := (fun _ => True)) (by (with_reducible repeat (first | apply Kd.R_alloc | apply Kd.R_drewN | apply Kd.R_drew)); exact Kd.R_mono HO_6.out (fun _ hk => ⟨trivial, hk⟩)) hg hat); have n2_ := zab.mk (hb); have n3_ := zab.mk (ho); clear HO_4; clear HO_6; clear HB; clear HO_3; have HO_4 := n0_; have HO_6 := n1_; have HB := n2_; have HO148 := n3_; clear n0_ n1_ n2_ n3_; clear ho hb hg hat) | ((with_reducible refine zax (b := .append) (xs := #[.tmp 59, .tmp 63]) rfl ?_); at_builtin; refine Kd.R_append (Kd.int .u8) (w0 := w) w.heap.size rfl (.tmp 59) (.tmp 63) 22 5 (.int .u8 0) 1 rfl Try.underlying22 info5 rfl (by decide) (by omega) u6 x6_2 ((wrap64 (97 + x8_3)) % 256) [.int .u8 ((wrap64 (97 + x8_3)) % 256)] (fun k_ => some k_ ≠ (v147 : Value).ownBlock) (fun _ => False) rfl rfl ?aP (fun _ hk => hk.elim) ?aF ?aO ?aB ?aS ?aL ?_; (case aP => exact rfl); (case aB => exact (by repeat (first | (with_reducible first | exact HB.out | apply zac | apply zaa | apply zad) | exact HB.out))); (case aF => exact (fun k_ hk => Kd.fresh' (Kd.R_lt (by (with_reducible repeat (first | apply Kd.R_alloc | apply Kd.R_drewN | apply Kd.R_drew)); exact HO148.out)) k_ hk)); (case aO => exact (by (with_reducible repeat (first | apply Kd.R_alloc | apply Kd.R_drewN | apply Kd.R_drew)); exact Kd.R_mono HO_6.out (fun _ hk => hk.2))); (case aS => exact (zaj (by repeat (first | (with_reducible first | exact HB.out | apply zac | apply zaa | apply zad) | exact HB.out)))); (case aL => have := LMc38.out; omega); intro v150 w41 ho hb hg hat; rw [← Ny149.out] at ho; have n0_ := zab.mk (Kd.R_over' (by (with_reducible repeat (first | apply Kd.R_alloc | apply Kd.R_drewN | apply Kd.R_drew)); exact HO_4.out) (Kd.R_typed (by (with_reducible repeat (first | apply Kd.R_alloc | apply Kd.R_drewN | apply Kd.R_drew)); exact HO_6.out)) (by decide) hg); have n1_ := zab.mk (Kd.R_after (ok := (fun _ => True)) (by (with_reducible repeat (first | apply Kd.R_alloc | apply Kd.R_drewN | apply Kd.R_drew)); exact Kd.R_mono HO148.out (fun _ hk => ⟨trivial, hk⟩)) hg hat); have n2_ := zab.mk (hb); have n3_ := zab.mk (ho); clear HO_4; clear HO148; clear HB; clear HO_6; have HO_4 := n0_; have HO148 := n1_; have HB := n2_; have HO151 := n3_; clear n0_ n1_ n2_ n3_; clear ho hb hg hat)))
                   go_roundg k3
                   case measure => have := HK1.out; have := HK2.out; have := HK3.out; omega
                   case rel => exact ⟨(y146), (y149), (wrap64 (x7_2 + 1)), (by first | rfl | (simp; done) | (simp [*]; done)), H', ⟨by have := HK1.out; have := HK2.out; have := HK3.out; omega⟩, ⟨by (with_reducible repeat (first | apply Kd.R_alloc | apply Kd.R_drewN | apply Kd.R_drew)); exact Kd.R_mono HO148.out (fun _ hk => hk.2)⟩, ⟨by (with_reducible repeat (first | apply Kd.R_alloc | apply Kd.R_drewN | apply Kd.R_drew)); exact HO_4.out⟩, ⟨by (with_reducible repeat (first | apply Kd.R_alloc | apply Kd.R_drewN | apply Kd.R_drew)); exact HO151.out⟩, ⟨by repeat (first | (with_reducible first | exact HB.out | apply zac | apply zaa | apply zad) | exact HB.out)⟩⟩
                  ·rw [if_neg c38] at H
                   exact absurd H (by simp)
                 ·rw [if_neg c37] at H
                  exact absurd H (by simp)
                ·rw [if_neg c35] at H
                 exact absurd H (by simp)
               ·rw [if_neg c34] at H
                exact absurd H (by simp)
              ·rw [if_neg c33] at H
               exact absurd H (by simp)
             ·rw [if_neg c32] at H
              exact absurd H (by simp)
            ·rw [if_neg c31] at H
             have c31b0 : (x8_3 == (x3_2.length : Int)) = false := beq_eq_false_iff_ne.mpr c31
             have c31b1 : (x8_3 != (x3_2.length : Int)) = true := bne_iff_ne.mpr c31
             by_cases c42 : x6_2.length < 140737488355328
             ·rw [if_pos c42] at H
              have LMc42 := zab.mk c42
              clear c42
              obtain ⟨y152, hy152⟩ : ∃ y_ : List Int, y_ = (x6_2 ++ [(wrap64 (97 + x8_3)) % 256]) := ⟨_, rfl⟩
              replace H : (spec_l1Names.l1 k3 l0 x3_2 x4_1 x5_1 y152 (wrap64 (x7_2 + 1))) = some r := by first | (rw [hy152]; with_reducible exact H) | (have H2_ := (Option.bind_some _ _).symm.trans H; rw [hy152]; with_reducible exact H2_) | (have H2_ := (Option.bind_some _ _).symm.trans H; with_reducible exact H2_) | with_reducible exact H | (rw [hy152]; exact H) | exact H
              have Ny152 := zab.mk hy152
              clear hy152
              have H' := zab.mk H
              clear H
              obtain ⟨Ao43, co43, eo43⟩ := Kd.R_slice HO_3.out
              subst eo43
              go_wp2_with (first | ((with_reducible refine zax (b := .append) (xs := #[.tmp 59, .tmp 63]) rfl ?_); at_builtin; refine Kd.R_append (Kd.int .u8) (w0 := w) w.heap.size rfl (.tmp 59) (.tmp 63) 22 5 (.int .u8 0) 1 rfl Try.underlying22 info5 rfl (by decide) (by omega) u6 x6_2 ((wrap64 (97 + x8_3)) % 256) [.int .u8 ((wrap64 (97 + x8_3)) % 256)] (fun k_ => some k_ ≠ (.slice Ao43 x3_2.length co43 : Value).ownBlock) (fun _ => False) rfl rfl ?aP (fun _ hk => hk.elim) ?aF ?aO ?aB ?aS ?aL ?_; (case aP => exact rfl); (case aB => exact (by repeat (first | (with_reducible first | exact HB.out | apply zac | apply zaa | apply zad) | exact HB.out))); (case aF => exact (fun k_ hk => Kd.fresh' (Kd.R_lt (by (with_reducible repeat (first | apply Kd.R_alloc | apply Kd.R_drewN | apply Kd.R_drew)); exact HO_3.out)) k_ hk)); (case aO => exact (by (with_reducible repeat (first | apply Kd.R_alloc | apply Kd.R_drewN | apply Kd.R_drew)); exact HO_6.out)); (case aS => exact (zaj (by repeat (first | (with_reducible first | exact HB.out | apply zac | apply zaa | apply zad) | exact HB.out)))); (case aL => have := LMc42.out; omega); intro v153 w44 ho hb hg hat; rw [← Ny152.out] at ho; have n0_ := zab.mk (Kd.R_after (ok := (fun _ => True)) (by (with_reducible repeat (first | apply Kd.R_alloc | apply Kd.R_drewN | apply Kd.R_drew)); exact Kd.R_mono HO_3.out (fun _ hk => ⟨trivial, hk⟩)) hg hat); have n1_ := zab.mk (Kd.R_over' (by (with_reducible repeat (first | apply Kd.R_alloc | apply Kd.R_drewN | apply Kd.R_drew)); exact HO_4.out) (Kd.R_typed (by (with_reducible repeat (first | apply Kd.R_alloc | apply Kd.R_drewN | apply Kd.R_drew)); exact HO_6.out)) (by decide) hg); have n2_ := zab.mk (hb); have n3_ := zab.mk (ho); clear HO_3; clear HO_4; clear HB; clear HO_6; have HO_3 := n0_; have HO_4 := n1_; have HB := n2_; have HO154 := n3_; clear n0_ n1_ n2_ n3_; clear ho hb hg hat))
              repeat (go_quiet (first | ((with_reducible refine zax (b := .append) (xs := #[.tmp 59, .tmp 63]) rfl ?_); at_builtin; refine Kd.R_append (Kd.int .u8) (w0 := w) w.heap.size rfl (.tmp 59) (.tmp 63) 22 5 (.int .u8 0) 1 rfl Try.underlying22 info5 rfl (by decide) (by omega) u6 x6_2 ((wrap64 (97 + x8_3)) % 256) [.int .u8 ((wrap64 (97 + x8_3)) % 256)] (fun k_ => some k_ ≠ (.slice Ao43 x3_2.length co43 : Value).ownBlock) (fun _ => False) rfl rfl ?aP (fun _ hk => hk.elim) ?aF ?aO ?aB ?aS ?aL ?_; (case aP => exact rfl); (case aB => exact (by repeat (first | (with_reducible first | exact HB.out | apply zac | apply zaa | apply zad) | exact HB.out))); (case aF => exact (fun k_ hk => Kd.fresh' (Kd.R_lt (by (with_reducible repeat (first | apply Kd.R_alloc | apply Kd.R_drewN | apply Kd.R_drew)); exact HO_3.out)) k_ hk)); (case aO => exact (by (with_reducible repeat (first | apply Kd.R_alloc | apply Kd.R_drewN | apply Kd.R_drew)); exact HO_6.out)); (case aS => exact (zaj (by repeat (first | (with_reducible first | exact HB.out | apply zac | apply zaa | apply zad) | exact HB.out)))); (case aL => have := LMc42.out; omega); intro v153 w44 ho hb hg hat; rw [← Ny152.out] at ho; have n0_ := zab.mk (Kd.R_after (ok := (fun _ => True)) (by (with_reducible repeat (first | apply Kd.R_alloc | apply Kd.R_drewN | apply Kd.R_drew)); exact Kd.R_mono HO_3.out (fun _ hk => ⟨trivial, hk⟩)) hg hat); have n1_ := zab.mk (Kd.R_over' (by (with_reducible repeat (first | apply Kd.R_alloc | apply Kd.R_drewN | apply Kd.R_drew)); exact HO_4.out) (Kd.R_typed (by (with_reducible repeat (first | apply Kd.R_alloc | apply Kd.R_drewN | apply Kd.R_drew)); exact HO_6.out)) (by decide) hg); have n2_ := zab.mk (hb); have n3_ := zab.mk (ho); clear HO_3; clear HO_4; clear HB; clear HO_6; have HO_3 := n0_; have HO_4 := n1_; have HB := n2_; have HO154 := n3_; clear n0_ n1_ n2_ n3_; clear ho hb hg hat)); try go_wp2_with (first | ((with_reducible refine zax (b := .append) (xs := #[.tmp 59, .tmp 63]) rfl ?_); at_builtin; refine Kd.R_append (Kd.int .u8) (w0 := w) w.heap.size rfl (.tmp 59) (.tmp 63) 22 5 (.int .u8 0) 1 rfl Try.underlying22 info5 rfl (by decide) (by omega) u6 x6_2 ((wrap64 (97 + x8_3)) % 256) [.int .u8 ((wrap64 (97 + x8_3)) % 256)] (fun k_ => some k_ ≠ (.slice Ao43 x3_2.length co43 : Value).ownBlock) (fun _ => False) rfl rfl ?aP (fun _ hk => hk.elim) ?aF ?aO ?aB ?aS ?aL ?_; (case aP => exact rfl); (case aB => exact (by repeat (first | (with_reducible first | exact HB.out | apply zac | apply zaa | apply zad) | exact HB.out))); (case aF => exact (fun k_ hk => Kd.fresh' (Kd.R_lt (by (with_reducible repeat (first | apply Kd.R_alloc | apply Kd.R_drewN | apply Kd.R_drew)); exact HO_3.out)) k_ hk)); (case aO => exact (by (with_reducible repeat (first | apply Kd.R_alloc | apply Kd.R_drewN | apply Kd.R_drew)); exact HO_6.out)); (case aS => exact (zaj (by repeat (first | (with_reducible first | exact HB.out | apply zac | apply zaa | apply zad) | exact HB.out)))); (case aL => have := LMc42.out; omega); intro v153 w44 ho hb hg hat; rw [← Ny152.out] at ho; have n0_ := zab.mk (Kd.R_after (ok := (fun _ => True)) (by (with_reducible repeat (first | apply Kd.R_alloc | apply Kd.R_drewN | apply Kd.R_drew)); exact Kd.R_mono HO_3.out (fun _ hk => ⟨trivial, hk⟩)) hg hat); have n1_ := zab.mk (Kd.R_over' (by (with_reducible repeat (first | apply Kd.R_alloc | apply Kd.R_drewN | apply Kd.R_drew)); exact HO_4.out) (Kd.R_typed (by (with_reducible repeat (first | apply Kd.R_alloc | apply Kd.R_drewN | apply Kd.R_drew)); exact HO_6.out)) (by decide) hg); have n2_ := zab.mk (hb); have n3_ := zab.mk (ho); clear HO_3; clear HO_4; clear HB; clear HO_6; have HO_3 := n0_; have HO_4 := n1_; have HB := n2_; have HO154 := n3_; clear n0_ n1_ n2_ n3_; clear ho hb hg hat)))
              go_roundg k3
              case measure => have := HK1.out; have := HK2.out; have := HK3.out; omega
              case rel => exact ⟨(x3_2), (y152), (wrap64 (x7_2 + 1)), (by first | rfl | (simp; done) | (simp [*]; done)), H', ⟨by have := HK1.out; have := HK2.out; have := HK3.out; omega⟩, ⟨by (with_reducible repeat (first | apply Kd.R_alloc | apply Kd.R_drewN | apply Kd.R_drew)); exact Kd.R_mono HO_3.out (fun _ hk => hk.2)⟩, ⟨by (with_reducible repeat (first | apply Kd.R_alloc | apply Kd.R_drewN | apply Kd.R_drew)); exact HO_4.out⟩, ⟨by (with_reducible repeat (first | apply Kd.R_alloc | apply Kd.R_drewN | apply Kd.R_drew)); exact HO154.out⟩, ⟨by repeat (first | (with_reducible first | exact HB.out | apply zac | apply zaa | apply zad) | exact HB.out)⟩⟩
             ·rw [if_neg c42] at H
              exact absurd H (by simp)
        ·rw [if_neg c11] at H
         have c11b0 : decide (x7_2 < ((rdOf ByteArray.empty l0 x5_1).size : Int)) = false := decide_eq_false c11
         clear c11
         by_cases c45 : x4_1.length < 8796093022208
         ·rw [if_pos c45] at H
          have LMc45 := zab.mk c45
          clear c45
          obtain ⟨y130, hy130⟩ : ∃ y_ : List ByteArray, y_ = (x4_1 ++ [strOfNums x6_2]) := ⟨_, rfl⟩
          replace H : (spec_l1Names.l0 k2 l0 x3_2 y130 (wrap64 (x5_1 + 1))) = some r := by first | (rw [hy130]; with_reducible exact H) | (have H2_ := (Option.bind_some _ _).symm.trans H; rw [hy130]; with_reducible exact H2_) | (have H2_ := (Option.bind_some _ _).symm.trans H; with_reducible exact H2_) | with_reducible exact H | (rw [hy130]; exact H) | exact H
          have Ny130 := zab.mk hy130
          clear hy130
          have H' := zab.mk H
          clear H
          have p129 : 0 ≤ (x5_1 : Int) := of_decide_eq_true (by first | (with_reducible assumption) | assumption)
          have q129 : x5_1 < (l0.length : Int) := of_decide_eq_true (by first | (with_reducible assumption) | assumption)
          obtain ⟨ad129, e129, hx129_0⟩ := Kd.at_string HR0.out x5_1 p129 q129
          cases e129
          replace hx129_0 := (HB.out.cell (World.block_lt_of_cell? w _ hx129_0)).trans hx129_0
          replace p129 := eq_true p129
          replace q129 := eq_true q129
          have hcv46 := own_string (P := Try.prog) Try.underlying22 Try.underlying5 Try.underlying9 (Kd.own_of_R HO_6.out)
          go_wp2_with (first | ((with_reducible refine zax (b := .append) (xs := #[.tmp 65, .tmp 68]) rfl ?_); at_builtin; refine Kd.R_append Kd.string (w0 := w) w.heap.size rfl (.tmp 65) (.tmp 68) 23 9 (.string ⟨#[]⟩) 16 rfl Try.underlying23 info9 rfl (by decide) (by omega) u4 x4_1 (strOfNums x6_2) [.string (strOfNums x6_2)] (fun _ => True) (fun _ => False) rfl rfl ?aP (fun _ hk => hk.elim) ?aF ?aO ?aB ?aS ?aL ?_; (case aP => exact rfl); (case aB => exact (by repeat (first | (with_reducible first | exact HB.out | apply zac | apply zaa | apply zad) | exact HB.out))); (case aF => exact (fun _ _ => trivial)); (case aO => exact (by (with_reducible repeat (first | apply Kd.R_alloc | apply Kd.R_drewN | apply Kd.R_drew)); exact HO_4.out)); (case aS => exact (zaj (by repeat (first | (with_reducible first | exact HB.out | apply zac | apply zaa | apply zad) | exact HB.out)))); (case aL => have := LMc45.out; omega); intro v131 w47 ho hb hg hat; rw [← Ny130.out] at ho; have n0_ := zab.mk (Kd.R_over' (by (with_reducible repeat (first | apply Kd.R_alloc | apply Kd.R_drewN | apply Kd.R_drew)); exact HO_3.out) (Kd.R_typed (by (with_reducible repeat (first | apply Kd.R_alloc | apply Kd.R_drewN | apply Kd.R_drew)); exact HO_4.out)) (by decide) hg); have n1_ := zab.mk (Kd.R_over' (by (with_reducible repeat (first | apply Kd.R_alloc | apply Kd.R_drewN | apply Kd.R_drew)); exact HO_6.out) (Kd.R_typed (by (with_reducible repeat (first | apply Kd.R_alloc | apply Kd.R_drewN | apply Kd.R_drew)); exact HO_4.out)) (by decide) hg); have n2_ := zab.mk (hb); have n3_ := zab.mk (ho); clear HO_3; clear HO_6; clear HB; clear HO_4; have HO_3 := n0_; have HO_6 := n1_; have HB := n2_; have HO132 := n3_; clear n0_ n1_ n2_ n3_; clear ho hb hg hat))
          repeat (go_quiet (first | ((with_reducible refine zax (b := .append) (xs := #[.tmp 65, .tmp 68]) rfl ?_); at_builtin; refine Kd.R_append Kd.string (w0 := w) w.heap.size rfl (.tmp 65) (.tmp 68) 23 9 (.string ⟨#[]⟩) 16 rfl Try.underlying23 info9 rfl (by decide) (by omega) u4 x4_1 (strOfNums x6_2) [.string (strOfNums x6_2)] (fun _ => True) (fun _ => False) rfl rfl ?aP (fun _ hk => hk.elim) ?aF ?aO ?aB ?aS ?aL ?_; (case aP => exact rfl); (case aB => exact (by repeat (first | (with_reducible first | exact HB.out | apply zac | apply zaa | apply zad) | exact HB.out))); (case aF => exact (fun _ _ => trivial)); (case aO => exact (by (with_reducible repeat (first | apply Kd.R_alloc | apply Kd.R_drewN | apply Kd.R_drew)); exact HO_4.out)); (case aS => exact (zaj (by repeat (first | (with_reducible first | exact HB.out | apply zac | apply zaa | apply zad) | exact HB.out)))); (case aL => have := LMc45.out; omega); intro v131 w47 ho hb hg hat; rw [← Ny130.out] at ho; have n0_ := zab.mk (Kd.R_over' (by (with_reducible repeat (first | apply Kd.R_alloc | apply Kd.R_drewN | apply Kd.R_drew)); exact HO_3.out) (Kd.R_typed (by (with_reducible repeat (first | apply Kd.R_alloc | apply Kd.R_drewN | apply Kd.R_drew)); exact HO_4.out)) (by decide) hg); have n1_ := zab.mk (Kd.R_over' (by (with_reducible repeat (first | apply Kd.R_alloc | apply Kd.R_drewN | apply Kd.R_drew)); exact HO_6.out) (Kd.R_typed (by (with_reducible repeat (first | apply Kd.R_alloc | apply Kd.R_drewN | apply Kd.R_drew)); exact HO_4.out)) (by decide) hg); have n2_ := zab.mk (hb); have n3_ := zab.mk (ho); clear HO_3; clear HO_6; clear HB; clear HO_4; have HO_3 := n0_; have HO_6 := n1_; have HB := n2_; have HO132 := n3_; clear n0_ n1_ n2_ n3_; clear ho hb hg hat)); try go_wp2_with (first | ((with_reducible refine zax (b := .append) (xs := #[.tmp 65, .tmp 68]) rfl ?_); at_builtin; refine Kd.R_append Kd.string (w0 := w) w.heap.size rfl (.tmp 65) (.tmp 68) 23 9 (.string ⟨#[]⟩) 16 rfl Try.underlying23 info9 rfl (by decide) (by omega) u4 x4_1 (strOfNums x6_2) [.string (strOfNums x6_2)] (fun _ => True) (fun _ => False) rfl rfl ?aP (fun _ hk => hk.elim) ?aF ?aO ?aB ?aS ?aL ?_; (case aP => exact rfl); (case aB => exact (by repeat (first | (with_reducible first | exact HB.out | apply zac | apply zaa | apply zad) | exact HB.out))); (case aF => exact (fun _ _ => trivial)); (case aO => exact (by (with_reducible repeat (first | apply Kd.R_alloc | apply Kd.R_drewN | apply Kd.R_drew)); exact HO_4.out)); (case aS => exact (zaj (by repeat (first | (with_reducible first | exact HB.out | apply zac | apply zaa | apply zad) | exact HB.out)))); (case aL => have := LMc45.out; omega); intro v131 w47 ho hb hg hat; rw [← Ny130.out] at ho; have n0_ := zab.mk (Kd.R_over' (by (with_reducible repeat (first | apply Kd.R_alloc | apply Kd.R_drewN | apply Kd.R_drew)); exact HO_3.out) (Kd.R_typed (by (with_reducible repeat (first | apply Kd.R_alloc | apply Kd.R_drewN | apply Kd.R_drew)); exact HO_4.out)) (by decide) hg); have n1_ := zab.mk (Kd.R_over' (by (with_reducible repeat (first | apply Kd.R_alloc | apply Kd.R_drewN | apply Kd.R_drew)); exact HO_6.out) (Kd.R_typed (by (with_reducible repeat (first | apply Kd.R_alloc | apply Kd.R_drewN | apply Kd.R_drew)); exact HO_4.out)) (by decide) hg); have n2_ := zab.mk (hb); have n3_ := zab.mk (ho); clear HO_3; clear HO_6; clear HB; clear HO_4; have HO_3 := n0_; have HO_6 := n1_; have HB := n2_; have HO132 := n3_; clear n0_ n1_ n2_ n3_; clear ho hb hg hat)))
          go_roundg k2
          case measure => have := HK1.out; have := HK2.out; omega
          case rel => exact ⟨(x3_2), (y130), (wrap64 (x5_1 + 1)), (by first | rfl | (simp; done) | (simp [*]; done)), H', ⟨by have := HK1.out; have := HK2.out; omega⟩, ⟨by (with_reducible repeat (first | apply Kd.R_alloc | apply Kd.R_drewN | apply Kd.R_drew)); exact Kd.R_mono HO_3.out (fun _ hk => trivial)⟩, ⟨by (with_reducible repeat (first | apply Kd.R_alloc | apply Kd.R_drewN | apply Kd.R_drew)); exact HO132.out⟩, ⟨by repeat (first | (with_reducible first | exact HB.out | apply zac | apply zaa | apply zad) | exact HB.out)⟩⟩
         ·rw [if_neg c45] at H
          exact absurd H (by simp)
       ·rw [if_neg c10] at H
        exact absurd H (by simp)
      ·rw [if_neg c9] at H
       exact absurd H (by simp)
   ·rw [if_neg c6] at H
    have c6b0 : decide (x5_1 < (l0.length : Int)) = false := decide_eq_false c6
    clear c6
    obtain rfl := Option.some.inj H
    go_wp2
    repeat (go_quiet (fail); try go_wp2)
    go_ret
    exact ⟨_, by first | rfl | (simp [zan, zam] <;> rfl) | (simp [*, zan, zam] <;> rfl), by (with_reducible repeat (first | apply Kd.R_alloc | apply Kd.R_drewN | apply Kd.R_drew)); exact HO_4.out, by repeat (first | (with_reducible first | exact HB.out | apply zac | apply zaa | apply zad) | exact HB.out)⟩
end Go.Proofs.Ytaepgogafkmooaa.PB
namespace Go.Proofs.Ytaepgogafkmooaa.PB
open Go.RowKit Go.PW.PrintWords Go.PW.PrintLast Go.PW.PrintMore
attribute [local go_sem] zca zby zcj zci zbp zbo zbz zbx   -- for this text's walks alone
def spec_l1Same.l0 : Nat → List ByteArray → List ByteArray → Int → Option (Bool)
 | 0, _, _, _ => none
 | k + 1, x0, x1, x5 => if x5 < (x0.length : Int) then (if 0 ≤ x5 then (if x5 < (x1.length : Int) then (if (rdOf ByteArray.empty x0 x5).toList = (rdOf ByteArray.empty x1 x5).toList then (spec_l1Same.l0 k x0 x1 (wrap64 (x5 + 1))) else (some false)) else (none)) else (none)) else (some true)
def spec_l1Same.f (k : Nat) (l0 : List ByteArray) (l1 : List ByteArray) : Option (Bool) := if (l0.length : Int) = (l1.length : Int) then (spec_l1Same.l0 k l0 l1 0) else (some false)
set_option maxHeartbeats 8000000 in
set_option maxRecDepth 100000 in
theorem spec_l1Same.calls (k : Nat) (A0 : Option Addr) (c0 : Nat) (l0 : List ByteArray) (A1 : Option Addr) (c1 : Nat) (l1 : List ByteArray) (r : Bool) (w : World) (hr0 : Kd.C Kd.string w A0 l0.length l0) (hc0 : l0.length ≤ c0) (hr1 : Kd.C Kd.string w A1 l1.length l1) (hc1 : l1.length ≤ c1) (h : spec_l1Same.f k l0 l1 = some r) :
  Calls Try.prog 124 #[.slice A0 l0.length c0, .slice A1 l1.length c1] w fun e w' => e = .returned (.bool r) ∧ zbf w w' := by
 have HR0 := zab.mk hr0
 have HC0 := zab.mk hc0
 clear hr0 hc0
 have HR1 := zab.mk hr1
 have HC1 := zab.mk hc1
 clear hr1 hc1
 have H : (if (l0.length : Int) = (l1.length : Int) then (spec_l1Same.l0 k l0 l1 0) else (some false)) = some r := h
 clear h
 by_cases c3 : (l0.length : Int) = (l1.length : Int)
 ·rw [if_pos c3] at H
  have c3b0 : ((l0.length : Int) == (l1.length : Int)) = true := beq_iff_eq.mpr c3
  have c3b1 : ((l0.length : Int) != (l1.length : Int)) = false := bne_eq_false_iff_eq.mpr c3
  have c3b2 : (l0.length == l1.length) = true := by first | simpa using c3 | (simp at c3 ⊢; omega)
  clear c3
  have H' := zab.mk H
  clear H
  go_enter Try.func124, Try.ntmps124
  go_wp2
  repeat (go_quiet (fail); try go_wp2)
  go_loopg [5] k (fun kq v5 w' => ∃ (x5_1 : Int), v5 = .int .i64 x5_1 ∧ zab (spec_l1Same.l0 kq l0 l1 x5_1 = some r) ∧ zab (kq ≤ k) ∧ zbf w w')
  case atStart => exact ⟨(0), (by first | rfl | (simp; done) | (simp [*]; done)), H', ⟨Nat.le_refl _⟩, by repeat (first | exact zbf.refl _ | apply zbf.step)⟩
  case round =>
   clear H'
   try clear c1
   try clear p2
   try clear c3
   try clear c3b0
   try clear c3b1
   try clear c3b2
   obtain ⟨x5_1, rfl, HA, HK1, ⟨m1, rfl⟩⟩ := hrel
   cases gk with
   | zero => exact absurd HA.out (by simp [spec_l1Same.l0])
   | succ k1 =>
    have H := HA.out
    clear HA
    simp only [spec_l1Same.l0] at H
    by_cases c4 : x5_1 < (l0.length : Int)
    ·rw [if_pos c4] at H
     have c4b0 : decide (x5_1 < (l0.length : Int)) = true := decide_eq_true c4
     clear c4
     by_cases c5 : 0 ≤ x5_1
     ·rw [if_pos c5] at H
      have c5b0 : decide (0 ≤ x5_1) = true := decide_eq_true c5
      clear c5
      by_cases c6 : x5_1 < (l1.length : Int)
      ·rw [if_pos c6] at H
       have c6b0 : decide (x5_1 < (l1.length : Int)) = true := decide_eq_true c6
       clear c6
       by_cases c7 : (rdOf ByteArray.empty l0 x5_1).toList = (rdOf ByteArray.empty l1 x5_1).toList
       ·rw [if_pos c7] at H
        have c7b0 : ((rdOf ByteArray.empty l0 x5_1).toList == (rdOf ByteArray.empty l1 x5_1).toList) = true := beq_iff_eq.mpr c7
        have c7b1 : ((rdOf ByteArray.empty l0 x5_1).toList != (rdOf ByteArray.empty l1 x5_1).toList) = false := bne_eq_false_iff_eq.mpr c7
        clear c7
        have H' := zab.mk H
        clear H
        have p155 : 0 ≤ (x5_1 : Int) := of_decide_eq_true (by first | (with_reducible assumption) | assumption)
        have q155 : x5_1 < (l0.length : Int) := of_decide_eq_true (by first | (with_reducible assumption) | assumption)
        obtain ⟨ad155, e155, hx155_0⟩ := Kd.at_string HR0.out x5_1 p155 q155
        cases e155
        replace p155 := eq_true p155
        replace q155 := eq_true q155
        have p156 : 0 ≤ (x5_1 : Int) := of_decide_eq_true (by first | (with_reducible assumption) | assumption)
        have q156 : x5_1 < (l1.length : Int) := of_decide_eq_true (by first | (with_reducible assumption) | assumption)
        obtain ⟨ad156, e156, hx156_0⟩ := Kd.at_string HR1.out x5_1 p156 q156
        cases e156
        replace p156 := eq_true p156
        replace q156 := eq_true q156
        go_wp2
        repeat (go_quiet (fail); try go_wp2)
        go_roundg k1
        case measure => have := HK1.out; omega
        case rel => exact ⟨(wrap64 (x5_1 + 1)), (by first | rfl | (simp; done) | (simp [*]; done)), H', ⟨by have := HK1.out; omega⟩, by repeat (first | exact zbf.refl _ | apply zbf.step)⟩
       ·rw [if_neg c7] at H
        have c7b0 : ((rdOf ByteArray.empty l0 x5_1).toList == (rdOf ByteArray.empty l1 x5_1).toList) = false := beq_eq_false_iff_ne.mpr c7
        have c7b1 : ((rdOf ByteArray.empty l0 x5_1).toList != (rdOf ByteArray.empty l1 x5_1).toList) = true := bne_iff_ne.mpr c7
        obtain rfl := Option.some.inj H
        have p155 : 0 ≤ (x5_1 : Int) := of_decide_eq_true (by first | (with_reducible assumption) | assumption)
        have q155 : x5_1 < (l0.length : Int) := of_decide_eq_true (by first | (with_reducible assumption) | assumption)
        obtain ⟨ad155, e155, hx155_0⟩ := Kd.at_string HR0.out x5_1 p155 q155
        cases e155
        replace p155 := eq_true p155
        replace q155 := eq_true q155
        have p156 : 0 ≤ (x5_1 : Int) := of_decide_eq_true (by first | (with_reducible assumption) | assumption)
        have q156 : x5_1 < (l1.length : Int) := of_decide_eq_true (by first | (with_reducible assumption) | assumption)
        obtain ⟨ad156, e156, hx156_0⟩ := Kd.at_string HR1.out x5_1 p156 q156
        cases e156
        replace p156 := eq_true p156
        replace q156 := eq_true q156
        go_wp2
        repeat (go_quiet (fail); try go_wp2)
        go_ret
        exact ⟨by first | rfl | (simp; done) | (simp [*]; done), by repeat (first | exact zbf.refl _ | apply zbf.step)⟩
      ·rw [if_neg c6] at H
       exact absurd H (by simp)
     ·rw [if_neg c5] at H
      exact absurd H (by simp)
    ·rw [if_neg c4] at H
     have c4b0 : decide (x5_1 < (l0.length : Int)) = false := decide_eq_false c4
     clear c4
     obtain rfl := Option.some.inj H
     go_wp2
     repeat (go_quiet (fail); try go_wp2)
     go_ret
     exact ⟨by first | rfl | (simp; done) | (simp [*]; done), by repeat (first | exact zbf.refl _ | apply zbf.step)⟩
 ·rw [if_neg c3] at H
  have c3b0 : ((l0.length : Int) == (l1.length : Int)) = false := beq_eq_false_iff_ne.mpr c3
  have c3b1 : ((l0.length : Int) != (l1.length : Int)) = true := bne_iff_ne.mpr c3
  have c3b2 : (l0.length == l1.length) = false := by first | simpa using c3 | (simp at c3 ⊢; omega)
  obtain rfl := Option.some.inj H
  go_enter Try.func124, Try.ntmps124
  go_wp2
  repeat (go_quiet (fail); try go_wp2)
  go_ret
  exact ⟨by first | rfl | (simp; done) | (simp [*]; done), by repeat (first | exact zbf.refl _ | apply zbf.step)⟩
mutual
def spec_l1Cells.l0 : Nat → List ByteArray → Int → Int → Int → Option (Int)
 | 0, _, _, _, _ => none
 | k + 1, x0, x1, x5, x6 => if x6 < (x0.length : Int) then (spec_l1Cells.l1 k x0 x1 x5 x6 0) else (some x5)
def spec_l1Cells.l1 : Nat → List ByteArray → Int → Int → Int → Int → Option (Int)
 | 0, _, _, _, _, _ => none
 | k + 1, x0, x1, x5, x6, x7 => if 0 ≤ x6 then (if x6 < (x0.length : Int) then (if x7 < ((rdOf ByteArray.empty x0 x6).size : Int) then (if 0 ≤ x7 then (if (wrap64 ((wrap64 (bt (rdOf ByteArray.empty x0 x6) x7)) - 97)) = x1 then (spec_l1Cells.l1 k x0 x1 (wrap64 (x5 + 1)) x6 (wrap64 (x7 + 1))) else (spec_l1Cells.l1 k x0 x1 x5 x6 (wrap64 (x7 + 1)))) else (none)) else (spec_l1Cells.l0 k x0 x1 x5 (wrap64 (x6 + 1)))) else (none)) else (none)
end
def spec_l1Cells.f (k : Nat) (l0 : List ByteArray) (a1 : Int) : Option (Int) := spec_l1Cells.l0 k l0 a1 0 0
set_option maxHeartbeats 8000000 in
set_option maxRecDepth 100000 in
theorem spec_l1Cells.calls (k : Nat) (A0 : Option Addr) (c0 : Nat) (l0 : List ByteArray) (a1 : Int) (r : Int) (w : World) (hr0 : Kd.C Kd.string w A0 l0.length l0) (hc0 : l0.length ≤ c0) (h : spec_l1Cells.f k l0 a1 = some r) :
  Calls Try.prog 125 #[.slice A0 l0.length c0, .int .i64 a1] w fun e w' => e = .returned (.int .i64 r) ∧ zbf w w' := by
 have HR0 := zab.mk hr0
 have HC0 := zab.mk hc0
 clear hr0 hc0
 have H : (spec_l1Cells.l0 k l0 a1 0 0) = some r := h
 clear h
 have H' := zab.mk H
 clear H
 go_enter Try.func125, Try.ntmps125
 go_wp2
 go_loopg [5, 6] k (fun kq v5 v6 w' => ∃ (x5_1 : Int) (x6_1 : Int), v5 = .int .i64 x5_1 ∧ v6 = .int .i64 x6_1 ∧ zab (spec_l1Cells.l0 kq l0 a1 x5_1 x6_1 = some r) ∧ zab (kq ≤ k) ∧ zbf w w')
 case atStart => exact ⟨(0), (0), (by first | rfl | (simp; done) | (simp [*]; done)), (by first | rfl | (simp; done) | (simp [*]; done)), H', ⟨Nat.le_refl _⟩, by repeat (first | exact zbf.refl _ | apply zbf.step)⟩
 case round =>
  clear H'
  try clear c1
  try clear p2
  obtain ⟨x5_1, x6_1, rfl, rfl, HA, HK1, ⟨m1, rfl⟩⟩ := hrel
  cases gk with
  | zero => exact absurd HA.out (by simp [spec_l1Cells.l0])
  | succ k1 =>
   have H := HA.out
   clear HA
   simp only [spec_l1Cells.l0] at H
   by_cases c3 : x6_1 < (l0.length : Int)
   ·rw [if_pos c3] at H
    have c3b0 : decide (x6_1 < (l0.length : Int)) = true := decide_eq_true c3
    clear c3
    have H' := zab.mk H
    clear H
    go_wp2
    go_loopg [5, 7] k1 (fun kq v5 v7 w' => ∃ (x5_2 : Int) (x7_2 : Int), v5 = .int .i64 x5_2 ∧ v7 = .int .i64 x7_2 ∧ zab (spec_l1Cells.l1 kq l0 a1 x5_2 x6_1 x7_2 = some r) ∧ zab (kq ≤ k1) ∧ zbf w w')
    case atStart => exact ⟨(x5_1), (0), (by first | rfl | (simp; done) | (simp [*]; done)), (by first | rfl | (simp; done) | (simp [*]; done)), H', ⟨Nat.le_refl _⟩, by repeat (first | exact zbf.refl _ | apply zbf.step)⟩
    case round =>
     clear H'
     try clear c1
     try clear p2
     try clear c3
     try clear c3b0
     try clear p2
     obtain ⟨x5_2, x7_2, rfl, rfl, HA, HK2, ⟨m2, rfl⟩⟩ := hrel
     cases gk with
     | zero => exact absurd HA.out (by simp [spec_l1Cells.l1])
     | succ k2 =>
      have H := HA.out
      clear HA
      simp only [spec_l1Cells.l1] at H
      by_cases c4 : 0 ≤ x6_1
      ·rw [if_pos c4] at H
       have c4b0 : decide (0 ≤ x6_1) = true := decide_eq_true c4
       clear c4
       by_cases c5 : x6_1 < (l0.length : Int)
       ·rw [if_pos c5] at H
        have c5b0 : decide (x6_1 < (l0.length : Int)) = true := decide_eq_true c5
        clear c5
        by_cases c6 : x7_2 < ((rdOf ByteArray.empty l0 x6_1).size : Int)
        ·rw [if_pos c6] at H
         have c6b0 : decide (x7_2 < ((rdOf ByteArray.empty l0 x6_1).size : Int)) = true := decide_eq_true c6
         clear c6
         by_cases c7 : 0 ≤ x7_2
         ·rw [if_pos c7] at H
          have c7b0 : decide (0 ≤ x7_2) = true := decide_eq_true c7
          clear c7
          by_cases c9 : (wrap64 ((wrap64 (bt (rdOf ByteArray.empty l0 x6_1) x7_2)) - 97)) = a1
          ·rw [if_pos c9] at H
           have c9b0 : ((wrap64 ((wrap64 (bt (rdOf ByteArray.empty l0 x6_1) x7_2)) - 97)) == a1) = true := beq_iff_eq.mpr c9
           have c9b1 : ((wrap64 ((wrap64 (bt (rdOf ByteArray.empty l0 x6_1) x7_2)) - 97)) != a1) = false := bne_eq_false_iff_eq.mpr c9
           clear c9
           have H' := zab.mk H
           clear H
           have p157 : 0 ≤ (x6_1 : Int) := of_decide_eq_true (by first | (with_reducible assumption) | assumption)
           have q157 : x6_1 < (l0.length : Int) := of_decide_eq_true (by first | (with_reducible assumption) | assumption)
           obtain ⟨ad157, e157, hx157_0⟩ := Kd.at_string HR0.out x6_1 p157 q157
           cases e157
           replace p157 := eq_true p157
           replace q157 := eq_true q157
           have p158 : 0 ≤ (x6_1 : Int) := of_decide_eq_true (by first | (with_reducible assumption) | assumption)
           have q158 : x6_1 < (l0.length : Int) := of_decide_eq_true (by first | (with_reducible assumption) | assumption)
           obtain ⟨ad158, e158, hx158_0⟩ := Kd.at_string HR0.out x6_1 p158 q158
           obtain rfl : ad157 = ad158 := (by injection e158)
           replace p158 := eq_true p158
           replace q158 := eq_true q158
           have p8 : 0 ≤ (x7_2 : Int) := of_decide_eq_true (by first | (with_reducible assumption) | assumption)
           have q8 : x7_2 < ((rdOf ByteArray.empty l0 x6_1).size : Int) := of_decide_eq_true (by first | (with_reducible assumption) | assumption)
           have hx8 := bt_at (rdOf ByteArray.empty l0 x6_1) x7_2
           replace p8 := eq_true p8
           replace q8 := eq_true q8
           go_wp2
           go_roundg k2
           case measure => have := HK1.out; have := HK2.out; omega
           case rel => exact ⟨(wrap64 (x5_2 + 1)), (wrap64 (x7_2 + 1)), (by first | rfl | (simp; done) | (simp [*]; done)), (by first | rfl | (simp; done) | (simp [*]; done)), H', ⟨by have := HK1.out; have := HK2.out; omega⟩, by repeat (first | exact zbf.refl _ | apply zbf.step)⟩
          ·rw [if_neg c9] at H
           have c9b0 : ((wrap64 ((wrap64 (bt (rdOf ByteArray.empty l0 x6_1) x7_2)) - 97)) == a1) = false := beq_eq_false_iff_ne.mpr c9
           have c9b1 : ((wrap64 ((wrap64 (bt (rdOf ByteArray.empty l0 x6_1) x7_2)) - 97)) != a1) = true := bne_iff_ne.mpr c9
           have H' := zab.mk H
           clear H
           have p157 : 0 ≤ (x6_1 : Int) := of_decide_eq_true (by first | (with_reducible assumption) | assumption)
           have q157 : x6_1 < (l0.length : Int) := of_decide_eq_true (by first | (with_reducible assumption) | assumption)
           obtain ⟨ad157, e157, hx157_0⟩ := Kd.at_string HR0.out x6_1 p157 q157
           cases e157
           replace p157 := eq_true p157
           replace q157 := eq_true q157
           have p158 : 0 ≤ (x6_1 : Int) := of_decide_eq_true (by first | (with_reducible assumption) | assumption)
           have q158 : x6_1 < (l0.length : Int) := of_decide_eq_true (by first | (with_reducible assumption) | assumption)
           obtain ⟨ad158, e158, hx158_0⟩ := Kd.at_string HR0.out x6_1 p158 q158
           obtain rfl : ad157 = ad158 := (by injection e158)
           replace p158 := eq_true p158
           replace q158 := eq_true q158
           have p8 : 0 ≤ (x7_2 : Int) := of_decide_eq_true (by first | (with_reducible assumption) | assumption)
           have q8 : x7_2 < ((rdOf ByteArray.empty l0 x6_1).size : Int) := of_decide_eq_true (by first | (with_reducible assumption) | assumption)
           have hx8 := bt_at (rdOf ByteArray.empty l0 x6_1) x7_2
           replace p8 := eq_true p8
           replace q8 := eq_true q8
           go_wp2
           go_roundg k2
           case measure => have := HK1.out; have := HK2.out; omega
           case rel => exact ⟨(x5_2), (wrap64 (x7_2 + 1)), (by first | rfl | (simp; done) | (simp [*]; done)), (by first | rfl | (simp; done) | (simp [*]; done)), H', ⟨by have := HK1.out; have := HK2.out; omega⟩, by repeat (first | exact zbf.refl _ | apply zbf.step)⟩
         ·rw [if_neg c7] at H
          exact absurd H (by simp)
        ·rw [if_neg c6] at H
         have c6b0 : decide (x7_2 < ((rdOf ByteArray.empty l0 x6_1).size : Int)) = false := decide_eq_false c6
         clear c6
         have H' := zab.mk H
         clear H
         have p157 : 0 ≤ (x6_1 : Int) := of_decide_eq_true (by first | (with_reducible assumption) | assumption)
         have q157 : x6_1 < (l0.length : Int) := of_decide_eq_true (by first | (with_reducible assumption) | assumption)
         obtain ⟨ad157, e157, hx157_0⟩ := Kd.at_string HR0.out x6_1 p157 q157
         cases e157
         replace p157 := eq_true p157
         replace q157 := eq_true q157
         go_wp2
         go_roundg k2
         case measure => have := HK1.out; have := HK2.out; omega
         case rel => exact ⟨(x5_2), (wrap64 (x6_1 + 1)), (by first | rfl | (simp; done) | (simp [*]; done)), (by first | rfl | (simp; done) | (simp [*]; done)), H', ⟨by have := HK1.out; have := HK2.out; omega⟩, by repeat (first | exact zbf.refl _ | apply zbf.step)⟩
       ·rw [if_neg c5] at H
        exact absurd H (by simp)
      ·rw [if_neg c4] at H
       exact absurd H (by simp)
   ·rw [if_neg c3] at H
    have c3b0 : decide (x6_1 < (l0.length : Int)) = false := decide_eq_false c3
    clear c3
    obtain rfl := Option.some.inj H
    go_wp2
    go_ret
    exact ⟨by first | rfl | (simp; done) | (simp [*]; done), by repeat (first | exact zbf.refl _ | apply zbf.step)⟩
end Go.Proofs.Ytaepgogafkmooaa.PB
namespace Go.Proofs.Ytaepgogafkmooaa.PB
open Go.RowKit Go.PW.PrintWords Go.PW.PrintLast Go.PW.PrintMore
attribute [local go_sem] zca zby zcj zci zbp zbo zbz zbx   -- for this text's walks alone
mutual
def spec_PlanIn.j0 : Nat → List ByteArray → Bool → Option (Bool)
 | 0, _, _ => none
 | k + 1, x0, x22 => if x22 = true then (some false) else (spec_PlanIn.l0 k x0 0)
def spec_PlanIn.l0 : Nat → List ByteArray → Int → Option (Bool)
 | 0, _, _ => none
 | k + 1, x0, x3 => (spec_l1Rooms.f k x0).bind fun t165 => (if x3 < t165 then ((spec_l1Room.f k x0 x3).bind fun bt166 => ((spec_l1Cells.f k x0 x3).bind fun t170 => (if t170 = (wrap64 (bt166.2.2.1 * bt166.2.2.2)) then (spec_PlanIn.l0 k x0 (wrap64 (x3 + 1))) else (some false)))) else (some true))
end
def spec_PlanIn.f (k : Nat) (l0 : List ByteArray) : Option (Bool) := (spec_l1Grid.f k l0).bind fun t159 => (if t159 = true then ((spec_l1Names.f k l0).bind fun t160 => ((spec_l1Same.f k t160 l0).bind fun t163 => (if t163 = true then ((spec_l1Rooms.f k l0).bind fun t164 => (spec_PlanIn.j0 k l0 (decide (t164 > 9)))) else (spec_PlanIn.j0 k l0 true)))) else (spec_PlanIn.j0 k l0 true))
set_option maxHeartbeats 8000000 in
set_option maxRecDepth 100000 in
theorem spec_PlanIn.calls (k : Nat) (A0 : Option Addr) (c0 : Nat) (l0 : List ByteArray) (r : Bool) (w : World) (hr0 : Kd.C Kd.string w A0 l0.length l0) (hc0 : l0.length ≤ c0) (h : spec_PlanIn.f k l0 = some r) :
  Calls Try.prog 81 #[.slice A0 l0.length c0] w fun e w' => e = .returned (.bool r) ∧ Below w.heap.size w w' := by
 have HR0 := zab.mk hr0
 have HC0 := zab.mk hc0
 clear hr0 hc0
 have HB := zab.mk (Below.refl w.heap.size w)
 have H : ((spec_l1Grid.f k l0).bind fun t159 => (if t159 = true then ((spec_l1Names.f k l0).bind fun t160 => ((spec_l1Same.f k t160 l0).bind fun t163 => (if t163 = true then ((spec_l1Rooms.f k l0).bind fun t164 => (spec_PlanIn.j0 k l0 (decide (t164 > 9)))) else (spec_PlanIn.j0 k l0 true)))) else (spec_PlanIn.j0 k l0 true))) = some r := h
 clear h
 have HC2 := zab.mk H
 clear H
 go_enter Try.func81, Try.ntmps81
 go_upto_region 1 with (fail)
 go_cut [22] (fun v22 wc => ∃ (kq : Nat) (x22_1 : Bool), v22 = .bool x22_1 ∧ zab (spec_PlanIn.j0 kq l0 x22_1 = some r) ∧ zab (kq ≤ k) ∧ zab (Below w.heap.size w wc))
 case first =>
  have H := HC2.out
  clear HC2
  replace H := Option.bind_eq_some_iff.mp H
  obtain ⟨t159, A30, H⟩ := H
  replace H : (if t159 = true then ((spec_l1Names.f k l0).bind fun t160 => ((spec_l1Same.f k t160 l0).bind fun t163 => (if t163 = true then ((spec_l1Rooms.f k l0).bind fun t164 => (spec_PlanIn.j0 k l0 (decide (t164 > 9)))) else (spec_PlanIn.j0 k l0 true)))) else (spec_PlanIn.j0 k l0 true)) = some r := H
  have A3 := zab.mk A30
  clear A30
  by_cases c4 : t159 = true
  ·subst c4
   have H1 : ((spec_l1Names.f k l0).bind fun t160 => ((spec_l1Same.f k t160 l0).bind fun t163 => (if t163 = true then ((spec_l1Rooms.f k l0).bind fun t164 => (spec_PlanIn.j0 k l0 (decide (t164 > 9)))) else (spec_PlanIn.j0 k l0 true)))) = some r := by rw [if_pos rfl] at H; exact H
   clear H
   have H := H1
   clear H1
   replace H := Option.bind_eq_some_iff.mp H
   obtain ⟨t160, A50, H⟩ := H
   replace H : ((spec_l1Same.f k t160 l0).bind fun t163 => (if t163 = true then ((spec_l1Rooms.f k l0).bind fun t164 => (spec_PlanIn.j0 k l0 (decide (t164 > 9)))) else (spec_PlanIn.j0 k l0 true))) = some r := H
   have A5 := zab.mk A50
   clear A50
   replace H := Option.bind_eq_some_iff.mp H
   obtain ⟨t163, A60, H⟩ := H
   replace H : (if t163 = true then ((spec_l1Rooms.f k l0).bind fun t164 => (spec_PlanIn.j0 k l0 (decide (t164 > 9)))) else (spec_PlanIn.j0 k l0 true)) = some r := H
   have A6 := zab.mk A60
   clear A60
   by_cases c7 : t163 = true
   ·subst c7
    have H1 : ((spec_l1Rooms.f k l0).bind fun t164 => (spec_PlanIn.j0 k l0 (decide (t164 > 9)))) = some r := by rw [if_pos rfl] at H; exact H
    clear H
    have H := H1
    clear H1
    replace H := Option.bind_eq_some_iff.mp H
    obtain ⟨t164, A80, H⟩ := H
    replace H : (spec_PlanIn.j0 k l0 (decide (t164 > 9))) = some r := H
    have A8 := zab.mk A80
    clear A80
    have H' := zab.mk H
    clear H
    go_wp2_with (first | ((with_reducible refine zar (f := 121) rfl ?_); refine zbj (some 9) rfl rfl Try.func121 (by kernel_rfl) rfl #[.slice A0 l0.length c0] rfl (by (try simp only [List.map_toArray, List.map_cons, List.map_nil]); first | done | rfl | (simp only [List.length_drop, List.length_take]; rfl)) ?_; (with_reducible refine (spec_l1Grid.calls k _ _ l0 true _ ?side1 ?side2 A3.out).mono ?_); (case side1 => repeat (first | exact (Kd.C_below HR0.out HB.out) | (with_reducible refine Kd.C_alloc ?_ _) | (with_reducible refine Kd.C_drewN ?_ _) | (with_reducible refine Kd.C_drew ?_))); (case side2 => exact HC0.out); rintro e w' ⟨rfl, ⟨nd, rfl⟩⟩; refine ⟨_, rfl, ?_⟩) | (go_at_call 122; (with_reducible refine (spec_l1Names.calls k _ _ l0 t160 _ ?side1 ?side2 A5.out).mono ?_); (case side1 => repeat (first | exact (Kd.C_below HR0.out (by repeat (first | (with_reducible first | exact HB.out | apply zac | apply zaa | apply zad) | exact HB.out))) | (with_reducible refine Kd.C_alloc ?_ _) | (with_reducible refine Kd.C_drewN ?_ _) | (with_reducible refine Kd.C_drew ?_))); (case side2 => exact HC0.out); rintro e w9 ⟨v161, rfl, ho0, hb⟩; have n0_ := zab.mk (Kd.R_lower ho0 (zaj (by repeat (first | (with_reducible first | exact HB.out | apply zac | apply zaa | apply zad) | exact HB.out)))); have n1_ := zab.mk (zag (by repeat (first | (with_reducible first | exact HB.out | apply zac | apply zaa | apply zad) | exact HB.out)) hb); clear HB; have HO162 := n0_; have HB := n1_; clear n0_ n1_; (try clear hb); (try clear hb2); (try clear hk); (try clear hi); (try clear ho0); obtain ⟨Ao10, co10, eo10⟩ := Kd.R_slice HO162.out; subst eo10) | (go_at_call 124; (with_reducible refine (spec_l1Same.calls k _ _ t160 _ _ l0 true _ ?side1 ?side2 ?side3 ?side4 A6.out).mono ?_); (case side1 => repeat (first | exact (Kd.R_reads' HO162.out).2.2 | (with_reducible refine Kd.C_alloc ?_ _) | (with_reducible refine Kd.C_drewN ?_ _) | (with_reducible refine Kd.C_drew ?_))); (case side2 => exact (Kd.R_reads' HO162.out).2.1); (case side3 => repeat (first | exact (Kd.C_below HR0.out HB.out) | (with_reducible refine Kd.C_alloc ?_ _) | (with_reducible refine Kd.C_drewN ?_ _) | (with_reducible refine Kd.C_drew ?_))); (case side4 => exact HC0.out); rintro e w' ⟨rfl, ⟨nd, rfl⟩⟩) | (go_at_call 64; (with_reducible refine (spec_l1Rooms.calls k _ _ l0 t164 _ ?side1 ?side2 A8.out).mono ?_); (case side1 => repeat (first | exact (Kd.C_below HR0.out (by repeat (first | (with_reducible first | exact HB.out | apply zac | apply zaa | apply zad) | exact HB.out))) | (with_reducible refine Kd.C_alloc ?_ _) | (with_reducible refine Kd.C_drewN ?_ _) | (with_reducible refine Kd.C_drew ?_))); (case side2 => exact HC0.out); rintro e w11 ⟨rfl, hb⟩; have n0_ := zab.mk (Kd.R_below (by (with_reducible repeat (first | apply Kd.R_alloc | apply Kd.R_drewN | apply Kd.R_drew)); exact HO162.out) hb); have n1_ := zab.mk (zag (by repeat (first | (with_reducible first | exact HB.out | apply zac | apply zaa | apply zad) | exact HB.out)) hb); clear HO162; clear HB; have HO162 := n0_; have HB := n1_; clear n0_ n1_; (try clear hb); (try clear hb2); (try clear hk); (try clear hi)))
    go_meet
    case rel => exact ⟨_, (decide (t164 > 9)), (by first | rfl | (simp; done) | (simp [*]; done)), H', ⟨by first | omega | exact Nat.le_refl _⟩, ⟨by repeat (first | (with_reducible first | exact HB.out | apply zac | apply zaa | apply zad) | exact HB.out)⟩⟩
   ·replace c7 := Bool.eq_false_iff.mpr c7
    subst c7
    have H1 : (spec_PlanIn.j0 k l0 true) = some r := by rw [if_neg (show ¬ (false = true) by decide)] at H; exact H
    clear H
    have H := H1
    clear H1
    have H' := zab.mk H
    clear H
    go_wp2_with (first | ((with_reducible refine zar (f := 121) rfl ?_); refine zbj (some 9) rfl rfl Try.func121 (by kernel_rfl) rfl #[.slice A0 l0.length c0] rfl (by (try simp only [List.map_toArray, List.map_cons, List.map_nil]); first | done | rfl | (simp only [List.length_drop, List.length_take]; rfl)) ?_; (with_reducible refine (spec_l1Grid.calls k _ _ l0 true _ ?side1 ?side2 A3.out).mono ?_); (case side1 => repeat (first | exact (Kd.C_below HR0.out HB.out) | (with_reducible refine Kd.C_alloc ?_ _) | (with_reducible refine Kd.C_drewN ?_ _) | (with_reducible refine Kd.C_drew ?_))); (case side2 => exact HC0.out); rintro e w' ⟨rfl, ⟨nd, rfl⟩⟩; refine ⟨_, rfl, ?_⟩) | (go_at_call 122; (with_reducible refine (spec_l1Names.calls k _ _ l0 t160 _ ?side1 ?side2 A5.out).mono ?_); (case side1 => repeat (first | exact (Kd.C_below HR0.out (by repeat (first | (with_reducible first | exact HB.out | apply zac | apply zaa | apply zad) | exact HB.out))) | (with_reducible refine Kd.C_alloc ?_ _) | (with_reducible refine Kd.C_drewN ?_ _) | (with_reducible refine Kd.C_drew ?_))); (case side2 => exact HC0.out); rintro e w12 ⟨v161, rfl, ho0, hb⟩; have n0_ := zab.mk (Kd.R_lower ho0 (zaj (by repeat (first | (with_reducible first | exact HB.out | apply zac | apply zaa | apply zad) | exact HB.out)))); have n1_ := zab.mk (zag (by repeat (first | (with_reducible first | exact HB.out | apply zac | apply zaa | apply zad) | exact HB.out)) hb); clear HB; have HO162 := n0_; have HB := n1_; clear n0_ n1_; (try clear hb); (try clear hb2); (try clear hk); (try clear hi); (try clear ho0); obtain ⟨Ao13, co13, eo13⟩ := Kd.R_slice HO162.out; subst eo13) | (go_at_call 124; (with_reducible refine (spec_l1Same.calls k _ _ t160 _ _ l0 false _ ?side1 ?side2 ?side3 ?side4 A6.out).mono ?_); (case side1 => repeat (first | exact (Kd.R_reads' HO162.out).2.2 | (with_reducible refine Kd.C_alloc ?_ _) | (with_reducible refine Kd.C_drewN ?_ _) | (with_reducible refine Kd.C_drew ?_))); (case side2 => exact (Kd.R_reads' HO162.out).2.1); (case side3 => repeat (first | exact (Kd.C_below HR0.out HB.out) | (with_reducible refine Kd.C_alloc ?_ _) | (with_reducible refine Kd.C_drewN ?_ _) | (with_reducible refine Kd.C_drew ?_))); (case side4 => exact HC0.out); rintro e w' ⟨rfl, ⟨nd, rfl⟩⟩))
    go_meet
    case rel => exact ⟨_, (true), (by first | rfl | (simp; done) | (simp [*]; done)), H', ⟨by first | omega | exact Nat.le_refl _⟩, ⟨by repeat (first | (with_reducible first | exact HB.out | apply zac | apply zaa | apply zad) | exact HB.out)⟩⟩
  ·replace c4 := Bool.eq_false_iff.mpr c4
   subst c4
   have H1 : (spec_PlanIn.j0 k l0 true) = some r := by rw [if_neg (show ¬ (false = true) by decide)] at H; exact H
   clear H
   have H := H1
   clear H1
   have H' := zab.mk H
   clear H
   go_wp2_with (first | ((with_reducible refine zar (f := 121) rfl ?_); refine zbj (some 9) rfl rfl Try.func121 (by kernel_rfl) rfl #[.slice A0 l0.length c0] rfl (by (try simp only [List.map_toArray, List.map_cons, List.map_nil]); first | done | rfl | (simp only [List.length_drop, List.length_take]; rfl)) ?_; (with_reducible refine (spec_l1Grid.calls k _ _ l0 false _ ?side1 ?side2 A3.out).mono ?_); (case side1 => repeat (first | exact (Kd.C_below HR0.out HB.out) | (with_reducible refine Kd.C_alloc ?_ _) | (with_reducible refine Kd.C_drewN ?_ _) | (with_reducible refine Kd.C_drew ?_))); (case side2 => exact HC0.out); rintro e w' ⟨rfl, ⟨nd, rfl⟩⟩; refine ⟨_, rfl, ?_⟩))
   go_meet
   case rel => exact ⟨_, (true), (by first | rfl | (simp; done) | (simp [*]; done)), H', ⟨by first | omega | exact Nat.le_refl _⟩, ⟨by repeat (first | (with_reducible first | exact HB.out | apply zac | apply zaa | apply zad) | exact HB.out)⟩⟩
 case rest =>
  clear HC2
  try clear c1
  try clear p2
  try clear c4
  try clear c7
  try clear c8
  try clear c12
  obtain ⟨kq, x22_1, rfl, HA, HJ1, HB⟩ := hcut
  cases kq with
  | zero => exact absurd HA.out (by simp [spec_PlanIn.j0])
  | succ kj1 =>
   have H := HA.out
   clear HA
   simp only [spec_PlanIn.j0] at H
   by_cases c14 : x22_1 = true
   ·subst c14
    have H1 : (some false) = some r := by rw [if_pos rfl] at H; exact H
    clear H
    have H := H1
    clear H1
    obtain rfl := Option.some.inj H
    go_wp2
    go_ret
    exact ⟨by first | rfl | (simp [zan, zam] <;> rfl) | (simp [*, zan, zam] <;> rfl), by repeat (first | (with_reducible first | exact HB.out | apply zac | apply zaa | apply zad) | exact HB.out)⟩
   ·replace c14 := Bool.eq_false_iff.mpr c14
    subst c14
    have H1 : (spec_PlanIn.l0 kj1 l0 0) = some r := by rw [if_neg (show ¬ (false = true) by decide)] at H; exact H
    clear H
    have H := H1
    clear H1
    have H' := zab.mk H
    clear H
    go_wp2
    go_loopg [3] kj1 (fun kq v3 w' => ∃ (x3_2 : Int), v3 = .int .i64 x3_2 ∧ zab (spec_PlanIn.l0 kq l0 x3_2 = some r) ∧ zab (kq ≤ kj1) ∧ zab (Below w.heap.size w w'))
    case atStart => exact ⟨(0), (by first | rfl | (simp; done) | (simp [*]; done)), H', ⟨Nat.le_refl _⟩, ⟨by repeat (first | (with_reducible first | exact HB.out | apply zac | apply zaa | apply zad) | exact HB.out)⟩⟩
    case round =>
     clear H'
     try clear c1
     try clear p2
     try clear c4
     try clear c7
     try clear c8
     try clear c12
     try clear c14
     try clear p2
     obtain ⟨x3_2, rfl, HA, HK2, HB⟩ := hrel
     cases gk with
     | zero => exact absurd HA.out (by simp [spec_PlanIn.l0])
     | succ k2 =>
      have H := HA.out
      clear HA
      simp only [spec_PlanIn.l0] at H
      replace H := Option.bind_eq_some_iff.mp H
      obtain ⟨t165, A150, H⟩ := H
      replace H : (if x3_2 < t165 then ((spec_l1Room.f k2 l0 x3_2).bind fun bt166 => ((spec_l1Cells.f k2 l0 x3_2).bind fun t170 => (if t170 = (wrap64 (bt166.2.2.1 * bt166.2.2.2)) then (spec_PlanIn.l0 k2 l0 (wrap64 (x3_2 + 1))) else (some false)))) else (some true)) = some r := H
      have A15 := zab.mk A150
      clear A150
      by_cases c16 : x3_2 < t165
      ·rw [if_pos c16] at H
       have c16b0 : decide (x3_2 < t165) = true := decide_eq_true c16
       clear c16
       replace H := Option.bind_eq_some_iff.mp H
       obtain ⟨⟨t166, t167, t168, t169⟩, A170, H⟩ := H
       replace H : ((spec_l1Cells.f k2 l0 x3_2).bind fun t170 => (if t170 = (wrap64 (t168 * t169)) then (spec_PlanIn.l0 k2 l0 (wrap64 (x3_2 + 1))) else (some false))) = some r := H
       have A17 := zab.mk A170
       clear A170
       replace H := Option.bind_eq_some_iff.mp H
       obtain ⟨t170, A180, H⟩ := H
       replace H : (if t170 = (wrap64 (t168 * t169)) then (spec_PlanIn.l0 k2 l0 (wrap64 (x3_2 + 1))) else (some false)) = some r := H
       have A18 := zab.mk A180
       clear A180
       by_cases c19 : t170 = (wrap64 (t168 * t169))
       ·rw [if_pos c19] at H
        have c19b0 : (t170 == (wrap64 (t168 * t169))) = true := beq_iff_eq.mpr c19
        have c19b1 : (t170 != (wrap64 (t168 * t169))) = false := bne_eq_false_iff_eq.mpr c19
        clear c19
        have H' := zab.mk H
        clear H
        go_wp2_with (first | ((with_reducible refine zar (f := 64) rfl ?_); refine zbj (some 25) rfl rfl Try.func64 (by kernel_rfl) rfl #[.slice A0 l0.length c0] rfl (by (try simp only [List.map_toArray, List.map_cons, List.map_nil]); first | done | rfl | (simp only [List.length_drop, List.length_take]; rfl)) ?_; (with_reducible refine (spec_l1Rooms.calls k2 _ _ l0 t165 _ ?side1 ?side2 A15.out).mono ?_); (case side1 => repeat (first | exact (Kd.C_below HR0.out HB.out) | (with_reducible refine Kd.C_alloc ?_ _) | (with_reducible refine Kd.C_drewN ?_ _) | (with_reducible refine Kd.C_drew ?_))); (case side2 => exact HC0.out); rintro e w20 ⟨rfl, hb⟩; refine ⟨_, rfl, ?_⟩; have n0_ := zab.mk (zag (by repeat (first | (with_reducible first | exact HB.out | apply zac | apply zaa | apply zad) | exact HB.out)) hb); clear HB; have HB := n0_; clear n0_; (try clear hb); (try clear hb2); (try clear hk); (try clear hi)) | ((with_reducible refine zar (f := 75) rfl ?_); refine zbj (some 32) rfl rfl Try.func75 (by kernel_rfl) rfl #[.slice A0 l0.length c0, .int .i64 x3_2] rfl (by (try simp only [List.map_toArray, List.map_cons, List.map_nil]); first | done | rfl | (simp only [List.length_drop, List.length_take]; rfl)) ?_; (with_reducible refine (spec_l1Room.calls k2 _ _ l0 x3_2 t166 t167 t168 t169 _ ?side1 ?side2 A17.out).mono ?_); (case side1 => repeat (first | exact (Kd.C_below HR0.out HB.out) | (with_reducible refine Kd.C_alloc ?_ _) | (with_reducible refine Kd.C_drewN ?_ _) | (with_reducible refine Kd.C_drew ?_))); (case side2 => exact HC0.out); rintro e w21 ⟨rfl, hb⟩; refine ⟨_, rfl, ?_⟩; have n0_ := zab.mk (zag (by repeat (first | (with_reducible first | exact HB.out | apply zac | apply zaa | apply zad) | exact HB.out)) hb); clear HB; have HB := n0_; clear n0_; (try clear hb); (try clear hb2); (try clear hk); (try clear hi)) | ((with_reducible refine zar (f := 125) rfl ?_); refine zbj (some 39) rfl rfl Try.func125 (by kernel_rfl) rfl #[.slice A0 l0.length c0, .int .i64 x3_2] rfl (by (try simp only [List.map_toArray, List.map_cons, List.map_nil]); first | done | rfl | (simp only [List.length_drop, List.length_take]; rfl)) ?_; (with_reducible refine (spec_l1Cells.calls k2 _ _ l0 x3_2 t170 _ ?side1 ?side2 A18.out).mono ?_); (case side1 => repeat (first | exact (Kd.C_below HR0.out HB.out) | (with_reducible refine Kd.C_alloc ?_ _) | (with_reducible refine Kd.C_drewN ?_ _) | (with_reducible refine Kd.C_drew ?_))); (case side2 => exact HC0.out); rintro e w' ⟨rfl, ⟨nd, rfl⟩⟩; refine ⟨_, rfl, ?_⟩))
        go_roundg k2
        case measure => have := HJ1.out; have := HK2.out; omega
        case rel => exact ⟨(wrap64 (x3_2 + 1)), (by first | rfl | (simp; done) | (simp [*]; done)), H', ⟨by have := HJ1.out; have := HK2.out; omega⟩, ⟨by repeat (first | (with_reducible first | exact HB.out | apply zac | apply zaa | apply zad) | exact HB.out)⟩⟩
       ·rw [if_neg c19] at H
        have c19b0 : (t170 == (wrap64 (t168 * t169))) = false := beq_eq_false_iff_ne.mpr c19
        have c19b1 : (t170 != (wrap64 (t168 * t169))) = true := bne_iff_ne.mpr c19
        obtain rfl := Option.some.inj H
        go_wp2_with (first | ((with_reducible refine zar (f := 64) rfl ?_); refine zbj (some 25) rfl rfl Try.func64 (by kernel_rfl) rfl #[.slice A0 l0.length c0] rfl (by (try simp only [List.map_toArray, List.map_cons, List.map_nil]); first | done | rfl | (simp only [List.length_drop, List.length_take]; rfl)) ?_; (with_reducible refine (spec_l1Rooms.calls k2 _ _ l0 t165 _ ?side1 ?side2 A15.out).mono ?_); (case side1 => repeat (first | exact (Kd.C_below HR0.out HB.out) | (with_reducible refine Kd.C_alloc ?_ _) | (with_reducible refine Kd.C_drewN ?_ _) | (with_reducible refine Kd.C_drew ?_))); (case side2 => exact HC0.out); rintro e w22 ⟨rfl, hb⟩; refine ⟨_, rfl, ?_⟩; have n0_ := zab.mk (zag (by repeat (first | (with_reducible first | exact HB.out | apply zac | apply zaa | apply zad) | exact HB.out)) hb); clear HB; have HB := n0_; clear n0_; (try clear hb); (try clear hb2); (try clear hk); (try clear hi)) | ((with_reducible refine zar (f := 75) rfl ?_); refine zbj (some 32) rfl rfl Try.func75 (by kernel_rfl) rfl #[.slice A0 l0.length c0, .int .i64 x3_2] rfl (by (try simp only [List.map_toArray, List.map_cons, List.map_nil]); first | done | rfl | (simp only [List.length_drop, List.length_take]; rfl)) ?_; (with_reducible refine (spec_l1Room.calls k2 _ _ l0 x3_2 t166 t167 t168 t169 _ ?side1 ?side2 A17.out).mono ?_); (case side1 => repeat (first | exact (Kd.C_below HR0.out HB.out) | (with_reducible refine Kd.C_alloc ?_ _) | (with_reducible refine Kd.C_drewN ?_ _) | (with_reducible refine Kd.C_drew ?_))); (case side2 => exact HC0.out); rintro e w23 ⟨rfl, hb⟩; refine ⟨_, rfl, ?_⟩; have n0_ := zab.mk (zag (by repeat (first | (with_reducible first | exact HB.out | apply zac | apply zaa | apply zad) | exact HB.out)) hb); clear HB; have HB := n0_; clear n0_; (try clear hb); (try clear hb2); (try clear hk); (try clear hi)) | ((with_reducible refine zar (f := 125) rfl ?_); refine zbj (some 39) rfl rfl Try.func125 (by kernel_rfl) rfl #[.slice A0 l0.length c0, .int .i64 x3_2] rfl (by (try simp only [List.map_toArray, List.map_cons, List.map_nil]); first | done | rfl | (simp only [List.length_drop, List.length_take]; rfl)) ?_; (with_reducible refine (spec_l1Cells.calls k2 _ _ l0 x3_2 t170 _ ?side1 ?side2 A18.out).mono ?_); (case side1 => repeat (first | exact (Kd.C_below HR0.out HB.out) | (with_reducible refine Kd.C_alloc ?_ _) | (with_reducible refine Kd.C_drewN ?_ _) | (with_reducible refine Kd.C_drew ?_))); (case side2 => exact HC0.out); rintro e w' ⟨rfl, ⟨nd, rfl⟩⟩; refine ⟨_, rfl, ?_⟩))
        go_ret
        exact ⟨by first | rfl | (simp [zan, zam] <;> rfl) | (simp [*, zan, zam] <;> rfl), by repeat (first | (with_reducible first | exact HB.out | apply zac | apply zaa | apply zad) | exact HB.out)⟩
      ·rw [if_neg c16] at H
       have c16b0 : decide (x3_2 < t165) = false := decide_eq_false c16
       clear c16
       obtain rfl := Option.some.inj H
       go_wp2_with (first | ((with_reducible refine zar (f := 64) rfl ?_); refine zbj (some 25) rfl rfl Try.func64 (by kernel_rfl) rfl #[.slice A0 l0.length c0] rfl (by (try simp only [List.map_toArray, List.map_cons, List.map_nil]); first | done | rfl | (simp only [List.length_drop, List.length_take]; rfl)) ?_; (with_reducible refine (spec_l1Rooms.calls k2 _ _ l0 t165 _ ?side1 ?side2 A15.out).mono ?_); (case side1 => repeat (first | exact (Kd.C_below HR0.out HB.out) | (with_reducible refine Kd.C_alloc ?_ _) | (with_reducible refine Kd.C_drewN ?_ _) | (with_reducible refine Kd.C_drew ?_))); (case side2 => exact HC0.out); rintro e w24 ⟨rfl, hb⟩; refine ⟨_, rfl, ?_⟩; have n0_ := zab.mk (zag (by repeat (first | (with_reducible first | exact HB.out | apply zac | apply zaa | apply zad) | exact HB.out)) hb); clear HB; have HB := n0_; clear n0_; (try clear hb); (try clear hb2); (try clear hk); (try clear hi)))
       go_ret
       exact ⟨by first | rfl | (simp [zan, zam] <;> rfl) | (simp [*, zan, zam] <;> rfl), by repeat (first | (with_reducible first | exact HB.out | apply zac | apply zaa | apply zad) | exact HB.out)⟩
def spec_l1Given.f (k : Nat) (l0 : List ByteArray) (a1 : Int) : Option (Bool) := (spec_PlanIn.f k l0).bind fun t171 => (if t171 = true then ((spec_l1Rooms.f k l0).bind fun t172 => ((spec_l6In.f a1 0 (wrap64 (t172 - 1))).bind fun t173 => (some t173))) else (some false))
set_option maxHeartbeats 8000000 in
set_option maxRecDepth 100000 in
theorem spec_l1Given.calls (k : Nat) (A0 : Option Addr) (c0 : Nat) (l0 : List ByteArray) (a1 : Int) (r : Bool) (w : World) (hr0 : Kd.C Kd.string w A0 l0.length l0) (hc0 : l0.length ≤ c0) (h : spec_l1Given.f k l0 a1 = some r) :
  Calls Try.prog 73 #[.slice A0 l0.length c0, .int .i64 a1] w fun e w' => e = .returned (.bool r) ∧ Below w.heap.size w w' := by
 have HR0 := zab.mk hr0
 have HC0 := zab.mk hc0
 clear hr0 hc0
 have HB := zab.mk (Below.refl w.heap.size w)
 have H : ((spec_PlanIn.f k l0).bind fun t171 => (if t171 = true then ((spec_l1Rooms.f k l0).bind fun t172 => ((spec_l6In.f a1 0 (wrap64 (t172 - 1))).bind fun t173 => (some t173))) else (some false))) = some r := h
 clear h
 replace H := Option.bind_eq_some_iff.mp H
 obtain ⟨t171, A30, H⟩ := H
 replace H : (if t171 = true then ((spec_l1Rooms.f k l0).bind fun t172 => ((spec_l6In.f a1 0 (wrap64 (t172 - 1))).bind fun t173 => (some t173))) else (some false)) = some r := H
 have A3 := zab.mk A30
 clear A30
 by_cases c4 : t171 = true
 ·subst c4
  have H1 : ((spec_l1Rooms.f k l0).bind fun t172 => ((spec_l6In.f a1 0 (wrap64 (t172 - 1))).bind fun t173 => (some t173))) = some r := by rw [if_pos rfl] at H; exact H
  clear H
  have H := H1
  clear H1
  replace H := Option.bind_eq_some_iff.mp H
  obtain ⟨t172, A50, H⟩ := H
  replace H : ((spec_l6In.f a1 0 (wrap64 (t172 - 1))).bind fun t173 => (some t173)) = some r := H
  have A5 := zab.mk A50
  clear A50
  replace H := Option.bind_eq_some_iff.mp H
  obtain ⟨t173, A60, H⟩ := H
  replace H : (some t173) = some r := H
  have A6 := zab.mk A60
  clear A60
  obtain rfl := Option.some.inj H
  go_enter Try.func73, Try.ntmps73
  go_wp2_with (first | ((with_reducible refine zar (f := 81) rfl ?_); refine zbj (some 6) rfl rfl Try.func81 (by kernel_rfl) rfl #[.slice A0 l0.length c0] rfl (by (try simp only [List.map_toArray, List.map_cons, List.map_nil]); first | done | rfl | (simp only [List.length_drop, List.length_take]; rfl)) ?_; (with_reducible refine (spec_PlanIn.calls k _ _ l0 true _ ?side1 ?side2 A3.out).mono ?_); (case side1 => repeat (first | exact HR0.out | (with_reducible refine Kd.C_alloc ?_ _) | (with_reducible refine Kd.C_drewN ?_ _) | (with_reducible refine Kd.C_drew ?_))); (case side2 => exact HC0.out); rintro e w7 ⟨rfl, hb⟩; refine ⟨_, rfl, ?_⟩; have n0_ := zab.mk (zag (by repeat (first | (with_reducible first | exact HB.out | apply zac | apply zaa | apply zad) | exact HB.out)) hb); clear HB; have HB := n0_; clear n0_; (try clear hb); (try clear hb2); (try clear hk); (try clear hi)) | (go_at_call 64; (with_reducible refine (spec_l1Rooms.calls k _ _ l0 t172 _ ?side1 ?side2 A5.out).mono ?_); (case side1 => repeat (first | exact (Kd.C_below HR0.out HB.out) | (with_reducible refine Kd.C_alloc ?_ _) | (with_reducible refine Kd.C_drewN ?_ _) | (with_reducible refine Kd.C_drew ?_))); (case side2 => exact HC0.out); rintro e w8 ⟨rfl, hb⟩; have n0_ := zab.mk (zag (by repeat (first | (with_reducible first | exact HB.out | apply zac | apply zaa | apply zad) | exact HB.out)) hb); clear HB; have HB := n0_; clear n0_; (try clear hb); (try clear hb2); (try clear hk); (try clear hi)) | (go_at_call 91; (with_reducible refine (spec_l6In.calls a1 0 (wrap64 (t172 - 1)) t173 _ A6.out).mono ?_); rintro e w' ⟨rfl, ⟨nd, rfl⟩⟩))
  go_ret
  exact ⟨by first | rfl | (simp [zan, zam] <;> rfl) | (simp [*, zan, zam] <;> rfl), by repeat (first | (with_reducible first | exact HB.out | apply zac | apply zaa | apply zad) | exact HB.out)⟩
 ·replace c4 := Bool.eq_false_iff.mpr c4
  subst c4
  have H1 : (some false) = some r := by rw [if_neg (show ¬ (false = true) by decide)] at H; exact H
  clear H
  have H := H1
  clear H1
  obtain rfl := Option.some.inj H
  go_enter Try.func73, Try.ntmps73
  go_wp2_with (first | ((with_reducible refine zar (f := 81) rfl ?_); refine zbj (some 6) rfl rfl Try.func81 (by kernel_rfl) rfl #[.slice A0 l0.length c0] rfl (by (try simp only [List.map_toArray, List.map_cons, List.map_nil]); first | done | rfl | (simp only [List.length_drop, List.length_take]; rfl)) ?_; (with_reducible refine (spec_PlanIn.calls k _ _ l0 false _ ?side1 ?side2 A3.out).mono ?_); (case side1 => repeat (first | exact HR0.out | (with_reducible refine Kd.C_alloc ?_ _) | (with_reducible refine Kd.C_drewN ?_ _) | (with_reducible refine Kd.C_drew ?_))); (case side2 => exact HC0.out); rintro e w9 ⟨rfl, hb⟩; refine ⟨_, rfl, ?_⟩; have n0_ := zab.mk (zag (by repeat (first | (with_reducible first | exact HB.out | apply zac | apply zaa | apply zad) | exact HB.out)) hb); clear HB; have HB := n0_; clear n0_; (try clear hb); (try clear hb2); (try clear hk); (try clear hi)))
  go_ret
  exact ⟨by first | rfl | (simp [zan, zam] <;> rfl) | (simp [*, zan, zam] <;> rfl), by repeat (first | (with_reducible first | exact HB.out | apply zac | apply zaa | apply zad) | exact HB.out)⟩
def spec_l1None.f  : Option (List ByteArray × Bool) := some ((([] : List ByteArray)), false)
set_option maxHeartbeats 8000000 in
set_option maxRecDepth 100000 in
theorem spec_l1None.calls  (r1 : List ByteArray) (r2 : Bool) (w : World) (h : spec_l1None.f  = some (r1, r2)) :
  Calls Try.prog 74 #[] w fun e w' => ∃ v0_ : Value, e = .returned (.tuple #[v0_, .bool r2]) ∧ Kd.R Kd.string 9 w' w.heap.size (fun _ => True) v0_ r1 ∧ Below w.heap.size w w' := by
 have HB := zab.mk (Below.refl w.heap.size w)
 have H : (some ((([] : List ByteArray)), false)) = some (r1, r2) := h
 clear h
 obtain ⟨y174, hy174⟩ : ∃ y_ : List ByteArray, y_ = (([] : List ByteArray)) := ⟨_, rfl⟩
 replace H : (some (y174, false)) = some (r1, r2) := by first | (rw [hy174]; with_reducible exact H) | (have H2_ := (Option.bind_some _ _).symm.trans H; rw [hy174]; with_reducible exact H2_) | (have H2_ := (Option.bind_some _ _).symm.trans H; with_reducible exact H2_) | with_reducible exact H | (rw [hy174]; exact H) | exact H
 have Ny174 := zab.mk hy174
 clear hy174
 simp only [Option.some.injEq, Prod.mk.injEq] at H
 obtain ⟨rfl, rfl⟩ := H
 go_enter Try.func74, Try.ntmps74
 go_wp2_with (first | ((with_reducible refine zay (N := 2) rfl ?_); refine Kd.R_lit Kd.string _ 9 ?hg (N := 2) ?hd (xs := ([] : List ByteArray)) (inner := []) (ok := fun _ => True) (okp := fun _ => True) ?hr ?hp (fun _ hk => hk) trivial (Below.refl _ _) (Nat.le_refl _) (by simp) ?_; (case hd => rfl); (case hg => rfl); (case hr => first | (go_simp; done) | (go_simp; rfl)); (case hp => exact (Reps.none _ _)); intro v175 w1 ho2 hb hg_ hnew_; clear hg_ hnew_; (first | rw [← Ny174.out] at ho2 | (simp only [Int.reduceToNat] at ho2; rw [← Ny174.out] at ho2)); have n0_ := zab.mk (Kd.R_lower ho2 (zaj (by repeat (first | (with_reducible first | exact HB.out | apply zac | apply zaa | apply zad) | exact HB.out)))); have n1_ := zab.mk (zag (by repeat (first | (with_reducible first | exact HB.out | apply zac | apply zaa | apply zad) | exact HB.out)) hb); clear HB; have HO176 := n0_; have HB := n1_; clear n0_ n1_; clear hb ho2))
 go_ret2
 exact ⟨_, by first | rfl | (simp [zan, zam] <;> rfl) | (simp [*, zan, zam] <;> rfl), by (with_reducible repeat (first | apply Kd.R_alloc | apply Kd.R_drewN | apply Kd.R_drew)); exact HO176.out, by repeat (first | (with_reducible first | exact HB.out | apply zac | apply zaa | apply zad) | exact HB.out)⟩
end Go.Proofs.Ytaepgogafkmooaa.PB
namespace Go.Proofs.Ytaepgogafkmooaa.PB
open Go.RowKit Go.PW.PrintWords Go.PW.PrintLast Go.PW.PrintMore
attribute [local go_sem] zca zby zcj zci zbp zbo zbz zbx   -- for this text's walks alone
def impl_floor_end.f (s0_0 : List (List Int)) (s0_1 : List (S131)) (a1_0 : Bool) (a1_1 : Int) (a1_2 : Int) (a1_3 : Int) : Option (Int) := if a1_0 = true then ((impl_floor_wide.f s0_0 s0_1).bind fun t397 => (some t397)) else ((impl_floor_high.f s0_0 s0_1).bind fun t398 => (some t398))
set_option maxHeartbeats 8000000 in
set_option maxRecDepth 100000 in
theorem impl_floor_end.calls (g : Nat) (s0_0 : List (List Int)) (s0_1 : List (S131)) (a1_0 : Bool) (a1_1 : Int) (a1_2 : Int) (a1_3 : Int) (r : Int) (w0 w : World) (hI : zap w0 w g s0_0 s0_1) (hB : Below w0.heap.size w0 w) (h : impl_floor_end.f s0_0 s0_1 a1_0 a1_1 a1_2 a1_3 = some r) :
  Calls Try.prog 83 #[.pointer (some ⟨g, 0, none⟩), .agg #[.bool a1_0, .int .i64 a1_1, .int .i64 a1_2, .int .i64 a1_3]] w fun e w' => e = .returned (.int .i64 r) ∧ zap w0 w' g s0_0 s0_1 ∧ Below w0.heap.size w0 w' ∧ zaf w w' g none := by
 have hu79 := Try.underlying79
 have HI0 := zab.mk hI
 have HK := zab.mk (zaf.refl w g none)
 have HL := zab.mk hB.size
 clear hI
 have HW0 := zab.mk hB.size
 have HB := zab.mk hB
 clear hB
 have H : (if a1_0 = true then ((impl_floor_wide.f s0_0 s0_1).bind fun t397 => (some t397)) else ((impl_floor_high.f s0_0 s0_1).bind fun t398 => (some t398))) = some r := h
 clear h
 by_cases c3 : a1_0 = true
 ·subst c3
  have H1 : ((impl_floor_wide.f s0_0 s0_1).bind fun t397 => (some t397)) = some r := by rw [if_pos rfl] at H; exact H
  clear H
  have H := H1
  clear H1
  replace H := Option.bind_eq_some_iff.mp H
  obtain ⟨t397, A40, H⟩ := H
  replace H : (some t397) = some r := H
  have A4 := zab.mk A40
  clear A40
  obtain rfl := Option.some.inj H
  go_enter Try.func83, Try.ntmps83
  go_wp2_with (first | ((with_reducible refine zay (N := 3) rfl ?_); refine zbv ?hg (N := 3) ?hd (cs := #[.bool true, .int .i64 a1_1, .int .i64 a1_2, .int .i64 a1_3]) (t := 79) ?hr ?_; (case hd => rfl); (case hg => rfl); (case hr => first | (go_simp; done) | (go_simp; rfl)); intro gb396 hg w5 hbox hb; have n0_ := zab.mk (zap.below (by repeat (first | (with_reducible first | exact HI0.out | apply zap.alloc | apply zap.drewN | apply zap.drew) | exact HI0.out)) hb); have n1_ := zab.mk (zaf.trans (by repeat (first | (with_reducible first | exact HK.out | apply zaf.set_ | apply zah | apply zal | apply zai) | exact HK.out)) (zaf.of_below hb g none) (.inl rfl)); have n2_ := zab.mk (zag (by repeat (first | (with_reducible first | exact HB.out | apply zac | apply zaa | apply zad | refine zak ?_ (zap.ge HI0.out)) | exact HB.out)) hb); have n3_ := zab.mk (hbox); have n4_ := zab.mk ((by rw [hg]; exact (zbd (w := w) (g := g) (row := none) (by repeat (first | (with_reducible first | exact HK.out | apply zaf.set_ | apply zah | apply zal | apply zai) | exact HK.out))) : w.heap.size ≤ gb396)); have n5_ := zab.mk ((Nat.le_trans HW0.out (by rw [hg]; exact (zbd (w := w) (g := g) (row := none) (by repeat (first | (with_reducible first | exact HK.out | apply zaf.set_ | apply zah | apply zal | apply zai) | exact HK.out))) : w.heap.size ≤ gb396) : w0.heap.size ≤ gb396)); have n6_ := zab.mk ((by rw [hg]; exact Nat.ne_of_lt (zap.lt (show zap w0 _ g s0_0 s0_1 from by repeat (first | (with_reducible first | exact HI0.out | apply zap.alloc | apply zap.drewN | apply zap.drew) | exact HI0.out))) : g ≠ gb396)); have n7_ := zab.mk ((by rw [hg]; exact Nat.ne_of_gt (zap.lt (show zap w0 _ g s0_0 s0_1 from by repeat (first | (with_reducible first | exact HI0.out | apply zap.alloc | apply zap.drewN | apply zap.drew) | exact HI0.out))) : gb396 ≠ g)); clear HI0; clear HK; clear HB; have HI0 := n0_; have HK := n1_; have HB := n2_; have BK396 := n3_; have GW396 := n4_; have GE396 := n5_; have NB0_396 := n6_; have NB396_0 := n7_; clear n0_ n1_ n2_ n3_ n4_ n5_ n6_ n7_; clear hb hbox hg; have hnb6 := NB396_0.out; have hnc6 := NB0_396.out; have hcz7_0 : w5.cell? ⟨gb396, 0, none⟩ = some (.bool true) := (zat BK396.out 0).trans rfl; have hcz7_1 : w5.cell? ⟨gb396, 1, none⟩ = some (.int .i64 a1_1) := (zat BK396.out 1).trans rfl; have hcz7_2 : w5.cell? ⟨gb396, 2, none⟩ = some (.int .i64 a1_2) := (zat BK396.out 2).trans rfl; have hcz7_3 : w5.cell? ⟨gb396, 3, none⟩ = some (.int .i64 a1_3) := (zat BK396.out 3).trans rfl; have hfz7_0 := zaw BK396.out 0; have hfz7_1 := zaw BK396.out 1; have hfz7_2 := zaw BK396.out 2; have hfz7_3 := zaw BK396.out 3) | ((with_reducible refine zar (f := 70) rfl ?_); refine zbj (some 8) rfl rfl Try.func70 (by kernel_rfl) rfl #[.pointer (some ⟨g, 0, none⟩)] rfl (by (try simp only [List.map_toArray, List.map_cons, List.map_nil]); first | done | rfl | (simp only [List.length_drop, List.length_take]; rfl)) ?_; (with_reducible refine (impl_floor_wide.calls g s0_0 s0_1 t397 w0 _ ?side1 ?side2 A4.out).mono ?_); (case side1 => repeat (first | (with_reducible first | exact HI0.out | apply zap.alloc | apply zap.drewN | apply zap.drew | refine zap.far ?_ NB0_396.out _) | exact HI0.out)); (case side2 => repeat (first | (with_reducible first | exact HB.out | apply zac | apply zaa | apply zad | refine zak ?_ (zap.ge HI0.out) | refine zak ?_ GE396.out) | exact HB.out)); rintro e w8 ⟨rfl, hi, hb, hk⟩; refine ⟨_, rfl, ?_⟩; have n0_ := zab.mk (zaf.blk hk (g' := gb396) (o := .cells #[.bool true, .int .i64 a1_1, .int .i64 a1_2, .int .i64 a1_3] 79 (0, 0)) (by (with_reducible repeat (first | refine zba ?_ _ | refine zbg ?_ | refine zbb ?_ _)); exact BK396.out) NB396_0.out (by simp)); have n1_ := zab.mk (zaf.trans (by repeat (first | (with_reducible first | exact HK.out | apply zaf.set_ | apply zah | apply zal | apply zai | refine keep_far ?_ GW396.out _) | exact HK.out)) hk (.inl rfl)); have n2_ := zab.mk (hb); have n3_ := zab.mk (hi); clear BK396; clear HK; clear HB; clear HI0; have BK396 := n0_; have HK := n1_; have HB := n2_; have HI0 := n3_; clear n0_ n1_ n2_ n3_; (try clear hb); (try clear hb2); (try clear hk); (try clear hi)))
  go_ret
  exact ⟨by first | rfl | (simp [zan, zam] <;> rfl) | (simp [*, zan, zam] <;> rfl), by repeat (first | (with_reducible first | exact HI0.out | apply zap.alloc | apply zap.drewN | apply zap.drew | refine zap.far ?_ NB0_396.out _) | exact HI0.out), by repeat (first | (with_reducible first | exact HB.out | apply zac | apply zaa | apply zad | refine zak ?_ (zap.ge HI0.out) | refine zak ?_ GE396.out) | exact HB.out), by repeat (first | (with_reducible first | exact HK.out | apply zaf.set_ | apply zah | apply zal | apply zai | refine keep_far ?_ GW396.out _) | exact HK.out)⟩
 ·replace c3 := Bool.eq_false_iff.mpr c3
  subst c3
  have H1 : ((impl_floor_high.f s0_0 s0_1).bind fun t398 => (some t398)) = some r := by rw [if_neg (show ¬ (false = true) by decide)] at H; exact H
  clear H
  have H := H1
  clear H1
  replace H := Option.bind_eq_some_iff.mp H
  obtain ⟨t398, A90, H⟩ := H
  replace H : (some t398) = some r := H
  have A9 := zab.mk A90
  clear A90
  obtain rfl := Option.some.inj H
  go_enter Try.func83, Try.ntmps83
  go_wp2_with (first | ((with_reducible refine zay (N := 3) rfl ?_); refine zbv ?hg (N := 3) ?hd (cs := #[.bool false, .int .i64 a1_1, .int .i64 a1_2, .int .i64 a1_3]) (t := 79) ?hr ?_; (case hd => rfl); (case hg => rfl); (case hr => first | (go_simp; done) | (go_simp; rfl)); intro gb396 hg w10 hbox hb; have n0_ := zab.mk (zap.below (by repeat (first | (with_reducible first | exact HI0.out | apply zap.alloc | apply zap.drewN | apply zap.drew) | exact HI0.out)) hb); have n1_ := zab.mk (zaf.trans (by repeat (first | (with_reducible first | exact HK.out | apply zaf.set_ | apply zah | apply zal | apply zai) | exact HK.out)) (zaf.of_below hb g none) (.inl rfl)); have n2_ := zab.mk (zag (by repeat (first | (with_reducible first | exact HB.out | apply zac | apply zaa | apply zad | refine zak ?_ (zap.ge HI0.out)) | exact HB.out)) hb); have n3_ := zab.mk (hbox); have n4_ := zab.mk ((by rw [hg]; exact (zbd (w := w) (g := g) (row := none) (by repeat (first | (with_reducible first | exact HK.out | apply zaf.set_ | apply zah | apply zal | apply zai) | exact HK.out))) : w.heap.size ≤ gb396)); have n5_ := zab.mk ((Nat.le_trans HW0.out (by rw [hg]; exact (zbd (w := w) (g := g) (row := none) (by repeat (first | (with_reducible first | exact HK.out | apply zaf.set_ | apply zah | apply zal | apply zai) | exact HK.out))) : w.heap.size ≤ gb396) : w0.heap.size ≤ gb396)); have n6_ := zab.mk ((by rw [hg]; exact Nat.ne_of_lt (zap.lt (show zap w0 _ g s0_0 s0_1 from by repeat (first | (with_reducible first | exact HI0.out | apply zap.alloc | apply zap.drewN | apply zap.drew) | exact HI0.out))) : g ≠ gb396)); have n7_ := zab.mk ((by rw [hg]; exact Nat.ne_of_gt (zap.lt (show zap w0 _ g s0_0 s0_1 from by repeat (first | (with_reducible first | exact HI0.out | apply zap.alloc | apply zap.drewN | apply zap.drew) | exact HI0.out))) : gb396 ≠ g)); clear HI0; clear HK; clear HB; have HI0 := n0_; have HK := n1_; have HB := n2_; have BK396 := n3_; have GW396 := n4_; have GE396 := n5_; have NB0_396 := n6_; have NB396_0 := n7_; clear n0_ n1_ n2_ n3_ n4_ n5_ n6_ n7_; clear hb hbox hg; have hnb11 := NB396_0.out; have hnc11 := NB0_396.out; have hcz12_0 : w10.cell? ⟨gb396, 0, none⟩ = some (.bool false) := (zat BK396.out 0).trans rfl; have hcz12_1 : w10.cell? ⟨gb396, 1, none⟩ = some (.int .i64 a1_1) := (zat BK396.out 1).trans rfl; have hcz12_2 : w10.cell? ⟨gb396, 2, none⟩ = some (.int .i64 a1_2) := (zat BK396.out 2).trans rfl; have hcz12_3 : w10.cell? ⟨gb396, 3, none⟩ = some (.int .i64 a1_3) := (zat BK396.out 3).trans rfl; have hfz12_0 := zaw BK396.out 0; have hfz12_1 := zaw BK396.out 1; have hfz12_2 := zaw BK396.out 2; have hfz12_3 := zaw BK396.out 3) | ((with_reducible refine zar (f := 69) rfl ?_); refine zbj (some 10) rfl rfl Try.func69 (by kernel_rfl) rfl #[.pointer (some ⟨g, 0, none⟩)] rfl (by (try simp only [List.map_toArray, List.map_cons, List.map_nil]); first | done | rfl | (simp only [List.length_drop, List.length_take]; rfl)) ?_; (with_reducible refine (impl_floor_high.calls g s0_0 s0_1 t398 w0 _ ?side1 ?side2 A9.out).mono ?_); (case side1 => repeat (first | (with_reducible first | exact HI0.out | apply zap.alloc | apply zap.drewN | apply zap.drew | refine zap.far ?_ NB0_396.out _) | exact HI0.out)); (case side2 => repeat (first | (with_reducible first | exact HB.out | apply zac | apply zaa | apply zad | refine zak ?_ (zap.ge HI0.out) | refine zak ?_ GE396.out) | exact HB.out)); rintro e w13 ⟨rfl, hi, hb, hk⟩; refine ⟨_, rfl, ?_⟩; have n0_ := zab.mk (zaf.blk hk (g' := gb396) (o := .cells #[.bool false, .int .i64 a1_1, .int .i64 a1_2, .int .i64 a1_3] 79 (0, 0)) (by (with_reducible repeat (first | refine zba ?_ _ | refine zbg ?_ | refine zbb ?_ _)); exact BK396.out) NB396_0.out (by simp)); have n1_ := zab.mk (zaf.trans (by repeat (first | (with_reducible first | exact HK.out | apply zaf.set_ | apply zah | apply zal | apply zai | refine keep_far ?_ GW396.out _) | exact HK.out)) hk (.inl rfl)); have n2_ := zab.mk (hb); have n3_ := zab.mk (hi); clear BK396; clear HK; clear HB; clear HI0; have BK396 := n0_; have HK := n1_; have HB := n2_; have HI0 := n3_; clear n0_ n1_ n2_ n3_; (try clear hb); (try clear hb2); (try clear hk); (try clear hi)))
  go_ret
  exact ⟨by first | rfl | (simp [zan, zam] <;> rfl) | (simp [*, zan, zam] <;> rfl), by repeat (first | (with_reducible first | exact HI0.out | apply zap.alloc | apply zap.drewN | apply zap.drew | refine zap.far ?_ NB0_396.out _) | exact HI0.out), by repeat (first | (with_reducible first | exact HB.out | apply zac | apply zaa | apply zad | refine zak ?_ (zap.ge HI0.out) | refine zak ?_ GE396.out) | exact HB.out), by repeat (first | (with_reducible first | exact HK.out | apply zaf.set_ | apply zah | apply zal | apply zai | refine keep_far ?_ GW396.out _) | exact HK.out)⟩
end Go.Proofs.Ytaepgogafkmooaa.PB
namespace Go.Proofs.Ytaepgogafkmooaa.PB
open Go.RowKit Go.PW.PrintWords Go.PW.PrintLast Go.PW.PrintMore
attribute [local go_sem] zca zby zcj zci zbp zbo zbz zbx   -- for this text's walks alone
def impl_floor_cutting.l0 : Nat → List Int → List (S79) → Int → Int → List (List Int) → List (S131) → Option (List Int)
 | 0, _, _, _, _, _, _ => none
 | k + 1, x3, x7, x8, x9, x1000, x1001 => if x9 < x8 then (if 0 ≤ x9 then (if x9 < (x7.length : Int) then ((impl_floor_end.f x1000 x1001 ((zas x7 x9).f0) ((zas x7 x9).f1) ((zas x7 x9).f2) ((zas x7 x9).f3)).bind fun t542 => (if ((zas x7 x9).f3) = t542 then (if x3.length < 17592186044416 then (impl_floor_cutting.l0 k (x3 ++ [x9]) x7 x8 (wrap64 (x9 + 1)) x1000 x1001) else (none)) else (impl_floor_cutting.l0 k x3 x7 x8 (wrap64 (x9 + 1)) x1000 x1001))) else (none)) else (none)) else (some x3)
def impl_floor_cutting.f (k : Nat) (s0_0 : List (List Int)) (s0_1 : List (S131)) : Option (List Int) := (impl_floor_walls.f k s0_0 s0_1).bind fun t537 => (impl_floor_cutting.l0 k ([] : List Int) t537 (t537.length : Int) 0 s0_0 s0_1)
set_option maxHeartbeats 8000000 in
set_option maxRecDepth 100000 in
theorem impl_floor_cutting.calls (k : Nat) (g : Nat) (s0_0 : List (List Int)) (s0_1 : List (S131)) (r : List Int) (w0 w : World) (hI : zap w0 w g s0_0 s0_1) (hB : Below w0.heap.size w0 w) (h : impl_floor_cutting.f k s0_0 s0_1 = some r) :
  Calls Try.prog 97 #[.pointer (some ⟨g, 0, none⟩)] w fun e w' => ∃ v0_ : Value, e = .returned (v0_) ∧ Kd.R (Kd.int .i64) 3 w' w.heap.size (fun _ => True) v0_ r ∧ zap w0 w' g s0_0 s0_1 ∧ Below w0.heap.size w0 w' ∧ zaf w w' g none := by
 have hu79 := Try.underlying79
 have HI0 := zab.mk hI
 have HK := zab.mk (zaf.refl w g none)
 have HL := zab.mk hB.size
 clear hI
 have HW0 := zab.mk hB.size
 have HB := zab.mk hB
 clear hB
 have H : ((impl_floor_walls.f k s0_0 s0_1).bind fun t537 => (impl_floor_cutting.l0 k ([] : List Int) t537 (t537.length : Int) 0 s0_0 s0_1)) = some r := h
 clear h
 replace H := Option.bind_eq_some_iff.mp H
 obtain ⟨t537, A20, H⟩ := H
 replace H : (impl_floor_cutting.l0 k ([] : List Int) t537 (t537.length : Int) 0 s0_0 s0_1) = some r := H
 have A2 := zab.mk A20
 clear A20
 have H' := zab.mk H
 clear H
 go_enter Try.func97, Try.ntmps97
 go_wp2_with (first | ((with_reducible refine zar (f := 80) rfl ?_); refine zbj (some 7) rfl rfl Try.func80 (by kernel_rfl) rfl #[.pointer (some ⟨g, 0, none⟩)] rfl (by (try simp only [List.map_toArray, List.map_cons, List.map_nil]); first | done | rfl | (simp only [List.length_drop, List.length_take]; rfl)) ?_; (with_reducible refine (impl_floor_walls.calls k g s0_0 s0_1 t537 w0 _ ?side1 ?side2 A2.out).mono ?_); (case side1 => repeat (first | (with_reducible first | exact HI0.out | apply zap.alloc | apply zap.drewN | apply zap.drew) | exact HI0.out)); (case side2 => repeat (first | (with_reducible first | exact HB.out | apply zac | apply zaa | apply zad | refine zak ?_ (zap.ge HI0.out)) | exact HB.out)); rintro e w3 ⟨v538, rfl, ho0, hi, hb, hk⟩; refine ⟨_, rfl, ?_⟩; have n0_ := zab.mk (Kd.R_lower ho0 (zbd (w := w) (g := g) (row := none) (by repeat (first | (with_reducible first | exact HK.out | apply zaf.set_ | apply zah | apply zal | apply zai) | exact HK.out)))); have n1_ := zab.mk (zaf.trans (by repeat (first | (with_reducible first | exact HK.out | apply zaf.set_ | apply zah | apply zal | apply zai) | exact HK.out)) hk (.inl rfl)); have n2_ := zab.mk (hb); have n3_ := zab.mk (hi); clear HK; clear HB; clear HI0; have HO539 := n0_; have HK := n1_; have HB := n2_; have HI0 := n3_; clear n0_ n1_ n2_ n3_; (try clear hb); (try clear hb2); (try clear hk); (try clear hi); (try clear ho0); obtain ⟨Ao4, co4, eo4⟩ := Kd.R_slice HO539.out; subst eo4))
 go_loopg [3, 9] k (fun kq v3 v9 w' => ∃ (x3_1 : List Int) (x9_1 : Int), v9 = .int .i64 x9_1 ∧ zab (impl_floor_cutting.l0 kq x3_1 t537 (t537.length : Int) x9_1 s0_0 s0_1 = some r) ∧ zab (kq ≤ k) ∧ zab (Kd.R (Kd.int .i64) 3 w' w.heap.size (fun _ => True) v3 x3_1) ∧ zab (Kd.R k79 79 w' w.heap.size (fun _ => True) (.slice Ao4 t537.length co4) t537) ∧ zab (zap w0 w' g s0_0 s0_1) ∧ zab (zaf w w' g none) ∧ zab (Below w0.heap.size w0 w'))
 case atStart => exact ⟨(([] : List Int)), (0), (by first | rfl | (simp; done) | (simp [*]; done)), H', ⟨Nat.le_refl _⟩, ⟨by first | exact Kd.R_nil _ _ _ _ _ | exact Kd.N_nil _ _ _ _ _ | exact Kd.V_nil _ _ _ _ _ | exact Kd.Q_nil _ _ _ _ _ | exact Kd.S_nil _ _ _ _ _⟩, ⟨by (with_reducible repeat (first | apply Kd.R_alloc | apply Kd.R_drewN | apply Kd.R_drew)); exact HO539.out⟩, ⟨by repeat (first | (with_reducible first | exact HI0.out | apply zap.alloc | apply zap.drewN | apply zap.drew) | exact HI0.out)⟩, ⟨by repeat (first | (with_reducible first | exact HK.out | apply zaf.set_ | apply zah | apply zal | apply zai) | exact HK.out)⟩, ⟨by repeat (first | (with_reducible first | exact HB.out | apply zac | apply zaa | apply zad | refine zak ?_ (zap.ge HI0.out)) | exact HB.out)⟩⟩
 case round =>
  clear H'
  try clear p2
  obtain ⟨x3_1, x9_1, rfl, HA, HK1, HO_3, HO_7, HI0, HK, HB⟩ := hrel
  cases gk with
  | zero => exact absurd HA.out (by simp [impl_floor_cutting.l0])
  | succ k1 =>
   have H := HA.out
   clear HA
   simp only [impl_floor_cutting.l0] at H
   by_cases c5 : x9_1 < (t537.length : Int)
   ·rw [if_pos c5] at H
    have c5b0 : decide (x9_1 < (t537.length : Int)) = true := decide_eq_true c5
    clear c5
    by_cases c6 : 0 ≤ x9_1
    ·rw [if_pos c6] at H
     have c6b0 : decide (0 ≤ x9_1) = true := decide_eq_true c6
     clear c6
     by_cases c7 : x9_1 < (t537.length : Int)
     ·rw [if_pos c7] at H
      have c7b0 : decide (x9_1 < (t537.length : Int)) = true := decide_eq_true c7
      clear c7
      replace H := Option.bind_eq_some_iff.mp H
      obtain ⟨t542, A80, H⟩ := H
      replace H : (if ((zas t537 x9_1).f3) = t542 then (if x3_1.length < 17592186044416 then (impl_floor_cutting.l0 k1 (x3_1 ++ [x9_1]) t537 (t537.length : Int) (wrap64 (x9_1 + 1)) s0_0 s0_1) else (none)) else (impl_floor_cutting.l0 k1 x3_1 t537 (t537.length : Int) (wrap64 (x9_1 + 1)) s0_0 s0_1)) = some r := H
      have A8 := zab.mk A80
      clear A80
      by_cases c9 : ((zas t537 x9_1).f3) = t542
      ·rw [if_pos c9] at H
       have c9b0 : (((zas t537 x9_1).f3) == t542) = true := beq_iff_eq.mpr c9
       have c9b1 : (((zas t537 x9_1).f3) != t542) = false := bne_eq_false_iff_eq.mpr c9
       clear c9
       by_cases c10 : x3_1.length < 17592186044416
       ·rw [if_pos c10] at H
        have LMc10 := zab.mk c10
        clear c10
        obtain ⟨y543, hy543⟩ : ∃ y_ : List Int, y_ = (x3_1 ++ [x9_1]) := ⟨_, rfl⟩
        replace H : (impl_floor_cutting.l0 k1 y543 t537 (t537.length : Int) (wrap64 (x9_1 + 1)) s0_0 s0_1) = some r := by first | (rw [hy543]; with_reducible exact H) | (have H2_ := (Option.bind_some _ _).symm.trans H; rw [hy543]; with_reducible exact H2_) | (have H2_ := (Option.bind_some _ _).symm.trans H; with_reducible exact H2_) | with_reducible exact H | (rw [hy543]; exact H) | exact H
        have Ny543 := zab.mk hy543
        clear hy543
        have H' := zab.mk H
        clear H
        have p540 : 0 ≤ (x9_1 : Int) := of_decide_eq_true (by first | (with_reducible assumption) | assumption)
        have q540 : x9_1 < (t537.length : Int) := of_decide_eq_true (by first | (with_reducible assumption) | assumption)
        obtain ⟨ad540, e540, hx540_0, hx540_1, hx540_2, hx540_3⟩ := at_T79 (Kd.R_reads' HO_7.out).2.2 x9_1 p540 q540
        cases e540
        replace p540 := eq_true p540
        replace q540 := eq_true q540
        try go_wp2_with (first | ((with_reducible refine zay (N := 5) rfl ?_); refine zbv ?hg (N := 5) ?hd (cs := #[.bool false, .int .i64 0, .int .i64 0, .int .i64 0]) (t := 79) ?hr ?_; (case hd => rfl); (case hg => rfl); (case hr => first | (go_simp; done) | (go_simp; rfl)); intro gb541 hg w11 hbox hb; have n0_ := zab.mk (Kd.R_below (by (with_reducible repeat (first | apply Kd.R_alloc | apply Kd.R_drewN | apply Kd.R_drew)); exact HO_3.out) hb); have n1_ := zab.mk (Kd.R_below (Kd.R_elderB (by (with_reducible repeat (first | apply Kd.R_alloc | apply Kd.R_drewN | apply Kd.R_drew)); exact HO_7.out) gb541 (Nat.le_of_eq hg.symm)) hb); have n2_ := zab.mk (zap.below (by repeat (first | (with_reducible first | exact HI0.out | apply zap.alloc | apply zap.drewN | apply zap.drew) | exact HI0.out)) hb); have n3_ := zab.mk (zaf.trans (by repeat (first | (with_reducible first | exact HK.out | apply zaf.set_ | apply zah | apply zal | apply zai) | exact HK.out)) (zaf.of_below hb g none) (.inl rfl)); have n4_ := zab.mk (zag (by repeat (first | (with_reducible first | exact HB.out | apply zac | apply zaa | apply zad | refine zak ?_ (zap.ge HI0.out)) | exact HB.out)) hb); have n5_ := zab.mk (hbox); have n6_ := zab.mk ((by rw [hg]; exact (zbd (w := w) (g := g) (row := none) (by repeat (first | (with_reducible first | exact HK.out | apply zaf.set_ | apply zah | apply zal | apply zai) | exact HK.out))) : w.heap.size ≤ gb541)); have n7_ := zab.mk ((Nat.le_trans HW0.out (by rw [hg]; exact (zbd (w := w) (g := g) (row := none) (by repeat (first | (with_reducible first | exact HK.out | apply zaf.set_ | apply zah | apply zal | apply zai) | exact HK.out))) : w.heap.size ≤ gb541) : w0.heap.size ≤ gb541)); have n8_ := zab.mk ((by rw [hg]; exact Nat.ne_of_lt (zap.lt (show zap w0 _ g s0_0 s0_1 from by repeat (first | (with_reducible first | exact HI0.out | apply zap.alloc | apply zap.drewN | apply zap.drew) | exact HI0.out))) : g ≠ gb541)); have n9_ := zab.mk ((by rw [hg]; exact Nat.ne_of_gt (zap.lt (show zap w0 _ g s0_0 s0_1 from by repeat (first | (with_reducible first | exact HI0.out | apply zap.alloc | apply zap.drewN | apply zap.drew) | exact HI0.out))) : gb541 ≠ g)); clear HO_3; clear HO_7; clear HI0; clear HK; clear HB; have HO_3 := n0_; have HO_7 := n1_; have HI0 := n2_; have HK := n3_; have HB := n4_; have BK541 := n5_; have GW541 := n6_; have GE541 := n7_; have NB0_541 := n8_; have NB541_0 := n9_; clear n0_ n1_ n2_ n3_ n4_ n5_ n6_ n7_ n8_ n9_; clear hb hbox hg; have hnb12 := NB541_0.out; have hnc12 := NB0_541.out; have hcz13_0 : w11.cell? ⟨gb541, 0, none⟩ = some (.bool false) := (zat BK541.out 0).trans rfl; have hcz13_1 : w11.cell? ⟨gb541, 1, none⟩ = some (.int .i64 0) := (zat BK541.out 1).trans rfl; have hcz13_2 : w11.cell? ⟨gb541, 2, none⟩ = some (.int .i64 0) := (zat BK541.out 2).trans rfl; have hcz13_3 : w11.cell? ⟨gb541, 3, none⟩ = some (.int .i64 0) := (zat BK541.out 3).trans rfl; have hfz13_0 := zaw BK541.out 0; have hfz13_1 := zaw BK541.out 1; have hfz13_2 := zaw BK541.out 2; have hfz13_3 := zaw BK541.out 3))
        have n0_ : zab (Kd.R (Kd.int .i64) 3 ((((w11.setCell ⟨gb541, 0, none⟩ (.bool ((zas t537 x9_1).f0))).setCell ⟨gb541, 1, none⟩ (.int .i64 ((zas t537 x9_1).f1))).setCell ⟨gb541, 2, none⟩ (.int .i64 ((zas t537 x9_1).f2))).setCell ⟨gb541, 3, none⟩ (.int .i64 ((zas t537 x9_1).f3))) w.heap.size (fun _ => True) u3 x3_1) := ⟨by (with_reducible repeat (first | apply Kd.R_alloc | apply Kd.R_drewN | apply Kd.R_drew)); exact Kd.R_mono (Kd.R_far (p := ⟨gb541, 3, none⟩) (Kd.R_far (p := ⟨gb541, 2, none⟩) (Kd.R_far (p := ⟨gb541, 1, none⟩) (Kd.R_far (p := ⟨gb541, 0, none⟩) (Kd.R_types HO_3.out BK541.out (by decide)) (fun _ hk => hk.2) (.bool ((zas t537 x9_1).f0))) (fun _ hk => hk.2) (.int .i64 ((zas t537 x9_1).f1))) (fun _ hk => hk.2) (.int .i64 ((zas t537 x9_1).f2))) (fun _ hk => hk.2) (.int .i64 ((zas t537 x9_1).f3))) (fun _ hk => trivial)⟩
        have n1_ : zab (Kd.R k79 79 ((((w11.setCell ⟨gb541, 0, none⟩ (.bool ((zas t537 x9_1).f0))).setCell ⟨gb541, 1, none⟩ (.int .i64 ((zas t537 x9_1).f1))).setCell ⟨gb541, 2, none⟩ (.int .i64 ((zas t537 x9_1).f2))).setCell ⟨gb541, 3, none⟩ (.int .i64 ((zas t537 x9_1).f3))) w.heap.size (fun k_ => k_ ≠ gb541) (.slice (some ad540) t537.length co4) t537) := ⟨by (with_reducible repeat (first | apply Kd.R_alloc | apply Kd.R_drewN | apply Kd.R_drew)); exact Kd.R_mono (Kd.R_far (p := ⟨gb541, 3, none⟩) (Kd.R_far (p := ⟨gb541, 2, none⟩) (Kd.R_far (p := ⟨gb541, 1, none⟩) (Kd.R_far (p := ⟨gb541, 0, none⟩) (Kd.R_mono HO_7.out (fun k_ hk => (⟨hk, hk.2⟩ : _ ∧ k_ ≠ gb541))) (fun _ hk => hk.2) (.bool ((zas t537 x9_1).f0))) (fun _ hk => hk.2) (.int .i64 ((zas t537 x9_1).f1))) (fun _ hk => hk.2) (.int .i64 ((zas t537 x9_1).f2))) (fun _ hk => hk.2) (.int .i64 ((zas t537 x9_1).f3))) (fun _ hk => hk.1.2)⟩
        have n2_ : zab (((((w11.setCell ⟨gb541, 0, none⟩ (.bool ((zas t537 x9_1).f0))).setCell ⟨gb541, 1, none⟩ (.int .i64 ((zas t537 x9_1).f1))).setCell ⟨gb541, 2, none⟩ (.int .i64 ((zas t537 x9_1).f2))).setCell ⟨gb541, 3, none⟩ (.int .i64 ((zas t537 x9_1).f3))).heap[gb541]? = some (.cells #[.bool ((zas t537 x9_1).f0), .int .i64 ((zas t537 x9_1).f1), .int .i64 ((zas t537 x9_1).f2), .int .i64 ((zas t537 x9_1).f3)] 79 (0, 0))) := ⟨by (with_reducible repeat (first | refine zba ?_ _ | refine zbg ?_ | refine zbb ?_ _)); refine blk_put (cs := #[.bool ((zas t537 x9_1).f0), .int .i64 ((zas t537 x9_1).f1), .int .i64 ((zas t537 x9_1).f2), .int .i64 0]) ?_ 3 _ rfl; (with_reducible repeat (first | refine zba ?_ _ | refine zbg ?_ | refine zbb ?_ _)); refine blk_put (cs := #[.bool ((zas t537 x9_1).f0), .int .i64 ((zas t537 x9_1).f1), .int .i64 0, .int .i64 0]) ?_ 2 _ rfl; (with_reducible repeat (first | refine zba ?_ _ | refine zbg ?_ | refine zbb ?_ _)); refine blk_put (cs := #[.bool ((zas t537 x9_1).f0), .int .i64 0, .int .i64 0, .int .i64 0]) ?_ 1 _ rfl; (with_reducible repeat (first | refine zba ?_ _ | refine zbg ?_ | refine zbb ?_ _)); refine blk_put (cs := #[.bool false, .int .i64 0, .int .i64 0, .int .i64 0]) ?_ 0 _ rfl; (with_reducible repeat (first | refine zba ?_ _ | refine zbg ?_ | refine zbb ?_ _)); exact BK541.out⟩
        have n3_ : zab (zap w0 ((((w11.setCell ⟨gb541, 0, none⟩ (.bool ((zas t537 x9_1).f0))).setCell ⟨gb541, 1, none⟩ (.int .i64 ((zas t537 x9_1).f1))).setCell ⟨gb541, 2, none⟩ (.int .i64 ((zas t537 x9_1).f2))).setCell ⟨gb541, 3, none⟩ (.int .i64 ((zas t537 x9_1).f3))) g s0_0 s0_1) := ⟨by repeat (first | (with_reducible first | exact HI0.out | apply zap.alloc | apply zap.drewN | apply zap.drew | refine zap.far ?_ NB0_541.out _) | exact HI0.out)⟩
        have n4_ : zab (zaf w ((((w11.setCell ⟨gb541, 0, none⟩ (.bool ((zas t537 x9_1).f0))).setCell ⟨gb541, 1, none⟩ (.int .i64 ((zas t537 x9_1).f1))).setCell ⟨gb541, 2, none⟩ (.int .i64 ((zas t537 x9_1).f2))).setCell ⟨gb541, 3, none⟩ (.int .i64 ((zas t537 x9_1).f3))) g none) := ⟨by repeat (first | (with_reducible first | exact HK.out | apply zaf.set_ | apply zah | apply zal | apply zai | refine keep_far ?_ GW541.out _) | exact HK.out)⟩
        have n5_ : zab (Below w0.heap.size w0 ((((w11.setCell ⟨gb541, 0, none⟩ (.bool ((zas t537 x9_1).f0))).setCell ⟨gb541, 1, none⟩ (.int .i64 ((zas t537 x9_1).f1))).setCell ⟨gb541, 2, none⟩ (.int .i64 ((zas t537 x9_1).f2))).setCell ⟨gb541, 3, none⟩ (.int .i64 ((zas t537 x9_1).f3)))) := ⟨by repeat (first | (with_reducible first | exact HB.out | apply zac | apply zaa | apply zad | refine zak ?_ (zap.ge HI0.out) | refine zak ?_ GE541.out) | exact HB.out)⟩
        (try clear HO_3)
        (try clear HO_7)
        (try clear BK541)
        (try clear HI0)
        (try clear HK)
        (try clear HB)
        generalize ((((w11.setCell ⟨gb541, 0, none⟩ (.bool ((zas t537 x9_1).f0))).setCell ⟨gb541, 1, none⟩ (.int .i64 ((zas t537 x9_1).f1))).setCell ⟨gb541, 2, none⟩ (.int .i64 ((zas t537 x9_1).f2))).setCell ⟨gb541, 3, none⟩ (.int .i64 ((zas t537 x9_1).f3))) = w14 at n0_ n1_ n2_ n3_ n4_ n5_ ⊢
        have HO_3 := n0_
        have HO_7 := n1_
        have BK541 := n2_
        have HI0 := n3_
        have HK := n4_
        have HB := n5_
        clear n0_ n1_ n2_ n3_ n4_ n5_
        have n0_ := zab.mk (Kd.R_drew HO_3.out)
        have n1_ := zab.mk (Kd.R_drew HO_7.out)
        have n2_ := zab.mk (zbg BK541.out)
        have n3_ := zab.mk (zap.drew HI0.out)
        have n4_ := zab.mk (zal HK.out)
        have n5_ := zab.mk (zad HB.out)
        clear HO_3
        clear HO_7
        clear BK541
        clear HI0
        clear HK
        clear HB
        have HO_3 := n0_
        have HO_7 := n1_
        have BK541 := n2_
        have HI0 := n3_
        have HK := n4_
        have HB := n5_
        clear n0_ n1_ n2_ n3_ n4_ n5_
        refine start_ (n := 6) (S := fun w' => w'.cell? ⟨gb541, 0, none⟩ = some (.bool ((zas t537 x9_1).f0)) ∧ w'.cell? ⟨gb541, 1, none⟩ = some (.int .i64 ((zas t537 x9_1).f1)) ∧ w'.cell? ⟨gb541, 2, none⟩ = some (.int .i64 ((zas t537 x9_1).f2)) ∧ w'.cell? ⟨gb541, 3, none⟩ = some (.int .i64 ((zas t537 x9_1).f3))) (ds := []) #[false, false, false, false, false, false] (by kernel_rfl) rfl rfl ⟨(zat BK541.out 0).trans rfl, (zat BK541.out 1).trans rfl, (zat BK541.out 2).trans rfl, (zat BK541.out 3).trans rfl⟩ (fun hHeld => ?_)
        generalize w14.drew = w15 at HO_3 HO_7 BK541 HI0 HK HB hHeld ⊢
        refine zbs (i := 0) (N := some 14) (v := ?_) (a' := ?_) #[true, false, false, false, false, false] rfl rfl (by kernel_rfl) (fun _ _ _ h => h) (Or.inl ⟨by rfl, ?_⟩) ?_ ?_
        rotate_left
        ·intro w'
         go_simp
         with_reducible rfl
        rotate_left
        ·simp only [Act.put, List.setIfInBounds_toArray, List.set_cons_zero, List.set_cons_succ, zbc, zbe]
         rfl
        refine zbs (i := 2) (N := some 16) (v := ?_) (a' := ?_) #[true, false, true, false, false, false] rfl rfl (by kernel_rfl) (fun _ _ _ h => h) (Or.inl ⟨by rfl, ?_⟩) ?_ ?_
        rotate_left
        ·intro w'
         go_simp
         with_reducible rfl
        rotate_left
        ·simp only [Act.put, List.setIfInBounds_toArray, List.set_cons_zero, List.set_cons_succ, zbc, zbe]
         rfl
        refine take_ (i := 1) (N := some 15) (v := ?_) (a' := ?_) #[true, true, true, false, false, false] rfl rfl (by kernel_rfl) (fun _ _ _ h => h) (Or.inl ⟨by rfl, ?_⟩) hHeld ?_ ?_
        rotate_left
        ·rintro w' ⟨s0, s1, s2, s3⟩
         go_simp
         with_reducible rfl
        rotate_left
        ·simp only [Act.put, List.setIfInBounds_toArray, List.set_cons_zero, List.set_cons_succ, zbc, zbe]
         rfl
        refine take_ (i := 3) (N := some 17) (v := ?_) (a' := ?_) #[true, true, true, true, false, false] rfl rfl (by kernel_rfl) (fun _ _ _ h => h) (Or.inl ⟨by rfl, ?_⟩) hHeld ?_ ?_
        rotate_left
        ·rintro w' ⟨s0, s1, s2, s3⟩
         go_simp
         with_reducible rfl
        rotate_left
        ·simp only [Act.put, List.setIfInBounds_toArray, List.set_cons_zero, List.set_cons_succ, zbc, zbe]
         rfl
        refine one_ (i := 4) (N := some 18) #[true, true, true, true, true, false] rfl rfl (by kernel_rfl) (by decide) (fun K hK => ?_)
        refine goes_ Try.func83 (by kernel_rfl) rfl #[.pointer (some ⟨g, 0, none⟩), .agg #[.bool ((zas t537 x9_1).f0), .int .i64 ((zas t537 x9_1).f1), .int .i64 ((zas t537 x9_1).f2), .int .i64 ((zas t537 x9_1).f3)]] (by rfl) rfl rfl (by (try simp only [List.map_toArray, List.map_cons, List.map_nil]); first | done | rfl | (simp only [List.length_drop, List.length_take]; rfl)) ?_
        with_reducible refine (impl_floor_end.calls g s0_0 s0_1 ((zas t537 x9_1).f0) ((zas t537 x9_1).f1) ((zas t537 x9_1).f2) ((zas t537 x9_1).f3) t542 w0 _ ?side1 ?side2 A8.out).mono ?_
        (case side1 => repeat (first | (with_reducible first | exact HI0.out | apply zap.alloc | apply zap.drewN | apply zap.drew | refine zap.far ?_ NB0_541.out _) | exact HI0.out))
        (case side2 => repeat (first | (with_reducible first | exact HB.out | apply zac | apply zaa | apply zad | refine zak ?_ (zap.ge HI0.out) | refine zak ?_ GE541.out) | exact HB.out))
        rintro e w16 ⟨rfl, hi, hb, hk⟩
        refine ⟨_, rfl, ?_⟩
        have n0_ := zab.mk (Kd.R_mono (Kd.R_keep (zap.apart (show zap w0 _ g s0_0 s0_1 from by repeat (first | (with_reducible first | exact HI0.out | apply zap.alloc | apply zap.drewN | apply zap.drew | refine zap.far ?_ NB0_541.out _) | exact HI0.out)) (by (with_reducible repeat (first | apply Kd.R_alloc | apply Kd.R_drewN | apply Kd.R_drew)); exact HO_3.out) (by decide)) hk (fun _ h => h.2)) (fun _ h => h.1))
        have n1_ := zab.mk (Kd.R_mono (Kd.R_keep (zap.apart (show zap w0 _ g s0_0 s0_1 from by repeat (first | (with_reducible first | exact HI0.out | apply zap.alloc | apply zap.drewN | apply zap.drew | refine zap.far ?_ NB0_541.out _) | exact HI0.out)) (by (with_reducible repeat (first | apply Kd.R_alloc | apply Kd.R_drewN | apply Kd.R_drew)); exact HO_7.out) (by decide)) hk (fun _ h => h.2)) (fun _ h => h.1))
        have n2_ := zab.mk (zaf.blk hk (g' := gb541) (o := .cells #[.bool ((zas t537 x9_1).f0), .int .i64 ((zas t537 x9_1).f1), .int .i64 ((zas t537 x9_1).f2), .int .i64 ((zas t537 x9_1).f3)] 79 (0, 0)) (by (with_reducible repeat (first | refine zba ?_ _ | refine zbg ?_ | refine zbb ?_ _)); exact BK541.out) NB541_0.out (by simp))
        have n3_ := zab.mk (zaf.trans (by repeat (first | (with_reducible first | exact HK.out | apply zaf.set_ | apply zah | apply zal | apply zai | refine keep_far ?_ GW541.out _) | exact HK.out)) hk (.inl rfl))
        have n4_ := zab.mk (hb)
        have n5_ := zab.mk (hi)
        clear HO_3
        clear HO_7
        clear BK541
        clear HK
        clear HB
        clear HI0
        have HO_3 := n0_
        have HO_7 := n1_
        have BK541 := n2_
        have HK := n3_
        have HB := n4_
        have HI0 := n5_
        clear n0_ n1_ n2_ n3_ n4_ n5_
        (try clear hb)
        (try clear hb2)
        (try clear hk)
        (try clear hi)
        refine hK.out _ _ ⟨(zat BK541.out 0).trans rfl, (zat BK541.out 1).trans rfl, (zat BK541.out 2).trans rfl, (zat BK541.out 3).trans rfl⟩ (fun hHeld => ?_)
        clear hK K
        refine norm_ (a' := ?_) ?_ ?_
        rotate_left
        ·show Act.put _ (some 18) _ = _
         simp only [Act.put, List.setIfInBounds_toArray, List.set_cons_zero, List.set_cons_succ, zbc, zbe]
         rfl
        refine zbs (i := 5) (N := some 19) (v := ?_) (a' := ?_) #[true, true, true, true, true, true] rfl rfl (by kernel_rfl) (fun _ _ _ h => h) (Or.inl ⟨by rfl, ?_⟩) ?_ ?_
        rotate_left
        ·intro w'
         go_simp
         with_reducible rfl
        rotate_left
        ·simp only [Act.put, List.setIfInBounds_toArray, List.set_cons_zero, List.set_cons_succ, zbc, zbe]
         rfl
        refine done_ (by kernel_rfl) ?_
        try go_wp2_with (first | ((with_reducible refine zax (b := .append) (xs := #[.tmp 20, .tmp 22]) rfl ?_); at_builtin; refine Kd.R_append (Kd.int .i64) w.heap.size rfl (.tmp 20) (.tmp 22) 39 3 (.int .i64 0) 8 rfl Try.underlying39 info3 rfl (by decide) (by omega) u3 x3_1 x9_1 [.int .i64 x9_1] (fun _ => True) (fun _ => False) rfl rfl ?aP (fun _ hk => hk.elim) ?aF ?aO (Below.refl _ _) ?aS ?aL ?_; (case aP => exact rfl); (case aF => exact (fun _ _ => trivial)); (case aO => exact (by (with_reducible repeat (first | apply Kd.R_alloc | apply Kd.R_drewN | apply Kd.R_drew)); exact HO_3.out)); (case aS => exact (zbd (w := w) (g := g) (row := none) (by repeat (first | (with_reducible first | exact HK.out | apply zaf.set_ | apply zah | apply zal | apply zai | refine keep_far ?_ GW541.out _) | exact HK.out)))); (case aL => have := LMc10.out; omega); intro v544 w17 ho hb hg hat; rw [← Ny543.out] at ho; have n0_ := zab.mk (Kd.R_over' (by (with_reducible repeat (first | apply Kd.R_alloc | apply Kd.R_drewN | apply Kd.R_drew)); exact HO_7.out) (Kd.R_typed (by (with_reducible repeat (first | apply Kd.R_alloc | apply Kd.R_drewN | apply Kd.R_drew)); exact HO_3.out)) (by decide) hg); have n1_ := zab.mk (zap.grown (by repeat (first | (with_reducible first | exact HI0.out | apply zap.alloc | apply zap.drewN | apply zap.drew | refine zap.far ?_ NB0_541.out _) | exact HI0.out)) hg (zap.own_ne HI0.out HO_3.out (by decide))); have n2_ := zab.mk (blk_grown (g := gb541) (o := .cells #[.bool ((zas t537 x9_1).f0), .int .i64 ((zas t537 x9_1).f1), .int .i64 ((zas t537 x9_1).f2), .int .i64 ((zas t537 x9_1).f3)] 79 (0, 0)) (by (with_reducible repeat (first | refine zba ?_ _ | refine zbg ?_ | refine zbb ?_ _)); exact BK541.out) hg (Kd.R_ne HO_3.out BK541.out (by decide))); have n3_ := zab.mk (below_weaken (by repeat (first | (with_reducible first | exact HB.out | apply zac | apply zaa | apply zad | refine zak ?_ (zap.ge HI0.out) | refine zak ?_ GE541.out) | exact HB.out)) HL.out hb); have n4_ := zab.mk (zaf.trans (by repeat (first | (with_reducible first | exact HK.out | apply zaf.set_ | apply zah | apply zal | apply zai | refine keep_far ?_ GW541.out _) | exact HK.out)) (zaf.of_grown hg g) (Kd.R_base2 HO_3.out)); have n5_ := zab.mk (ho); clear HO_7; clear HI0; clear BK541; clear HB; clear HK; clear HO_3; have HO_7 := n0_; have HI0 := n1_; have BK541 := n2_; have HB := n3_; have HK := n4_; have HO545 := n5_; clear n0_ n1_ n2_ n3_ n4_ n5_; clear ho hb hg hat))
        go_roundg k1
        case measure => have := HK1.out; omega
        case rel => exact ⟨(y543), (wrap64 (x9_1 + 1)), (by first | rfl | (simp; done) | (simp [*]; done)), H', ⟨by have := HK1.out; omega⟩, ⟨by (with_reducible repeat (first | apply Kd.R_alloc | apply Kd.R_drewN | apply Kd.R_drew)); exact HO545.out⟩, ⟨by (with_reducible repeat (first | apply Kd.R_alloc | apply Kd.R_drewN | apply Kd.R_drew)); exact Kd.R_mono HO_7.out (fun _ hk => trivial)⟩, ⟨by repeat (first | (with_reducible first | exact HI0.out | apply zap.alloc | apply zap.drewN | apply zap.drew | refine zap.far ?_ NB0_541.out _) | exact HI0.out)⟩, ⟨by repeat (first | (with_reducible first | exact HK.out | apply zaf.set_ | apply zah | apply zal | apply zai | refine keep_far ?_ GW541.out _) | exact HK.out)⟩, ⟨by repeat (first | (with_reducible first | exact HB.out | apply zac | apply zaa | apply zad | refine zak ?_ (zap.ge HI0.out) | refine zak ?_ GE541.out) | exact HB.out)⟩⟩
       ·rw [if_neg c10] at H
        exact absurd H (by simp)
      ·rw [if_neg c9] at H
       have c9b0 : (((zas t537 x9_1).f3) == t542) = false := beq_eq_false_iff_ne.mpr c9
       have c9b1 : (((zas t537 x9_1).f3) != t542) = true := bne_iff_ne.mpr c9
       have H' := zab.mk H
       clear H
       have p540 : 0 ≤ (x9_1 : Int) := of_decide_eq_true (by first | (with_reducible assumption) | assumption)
       have q540 : x9_1 < (t537.length : Int) := of_decide_eq_true (by first | (with_reducible assumption) | assumption)
       obtain ⟨ad540, e540, hx540_0, hx540_1, hx540_2, hx540_3⟩ := at_T79 (Kd.R_reads' HO_7.out).2.2 x9_1 p540 q540
       cases e540
       replace p540 := eq_true p540
       replace q540 := eq_true q540
       try go_wp2_with (first | ((with_reducible refine zay (N := 5) rfl ?_); refine zbv ?hg (N := 5) ?hd (cs := #[.bool false, .int .i64 0, .int .i64 0, .int .i64 0]) (t := 79) ?hr ?_; (case hd => rfl); (case hg => rfl); (case hr => first | (go_simp; done) | (go_simp; rfl)); intro gb541 hg w18 hbox hb; have n0_ := zab.mk (Kd.R_below (by (with_reducible repeat (first | apply Kd.R_alloc | apply Kd.R_drewN | apply Kd.R_drew)); exact HO_3.out) hb); have n1_ := zab.mk (Kd.R_below (Kd.R_elderB (by (with_reducible repeat (first | apply Kd.R_alloc | apply Kd.R_drewN | apply Kd.R_drew)); exact HO_7.out) gb541 (Nat.le_of_eq hg.symm)) hb); have n2_ := zab.mk (zap.below (by repeat (first | (with_reducible first | exact HI0.out | apply zap.alloc | apply zap.drewN | apply zap.drew) | exact HI0.out)) hb); have n3_ := zab.mk (zaf.trans (by repeat (first | (with_reducible first | exact HK.out | apply zaf.set_ | apply zah | apply zal | apply zai) | exact HK.out)) (zaf.of_below hb g none) (.inl rfl)); have n4_ := zab.mk (zag (by repeat (first | (with_reducible first | exact HB.out | apply zac | apply zaa | apply zad | refine zak ?_ (zap.ge HI0.out)) | exact HB.out)) hb); have n5_ := zab.mk (hbox); have n6_ := zab.mk ((by rw [hg]; exact (zbd (w := w) (g := g) (row := none) (by repeat (first | (with_reducible first | exact HK.out | apply zaf.set_ | apply zah | apply zal | apply zai) | exact HK.out))) : w.heap.size ≤ gb541)); have n7_ := zab.mk ((Nat.le_trans HW0.out (by rw [hg]; exact (zbd (w := w) (g := g) (row := none) (by repeat (first | (with_reducible first | exact HK.out | apply zaf.set_ | apply zah | apply zal | apply zai) | exact HK.out))) : w.heap.size ≤ gb541) : w0.heap.size ≤ gb541)); have n8_ := zab.mk ((by rw [hg]; exact Nat.ne_of_lt (zap.lt (show zap w0 _ g s0_0 s0_1 from by repeat (first | (with_reducible first | exact HI0.out | apply zap.alloc | apply zap.drewN | apply zap.drew) | exact HI0.out))) : g ≠ gb541)); have n9_ := zab.mk ((by rw [hg]; exact Nat.ne_of_gt (zap.lt (show zap w0 _ g s0_0 s0_1 from by repeat (first | (with_reducible first | exact HI0.out | apply zap.alloc | apply zap.drewN | apply zap.drew) | exact HI0.out))) : gb541 ≠ g)); clear HO_3; clear HO_7; clear HI0; clear HK; clear HB; have HO_3 := n0_; have HO_7 := n1_; have HI0 := n2_; have HK := n3_; have HB := n4_; have BK541 := n5_; have GW541 := n6_; have GE541 := n7_; have NB0_541 := n8_; have NB541_0 := n9_; clear n0_ n1_ n2_ n3_ n4_ n5_ n6_ n7_ n8_ n9_; clear hb hbox hg; have hnb19 := NB541_0.out; have hnc19 := NB0_541.out; have hcz20_0 : w18.cell? ⟨gb541, 0, none⟩ = some (.bool false) := (zat BK541.out 0).trans rfl; have hcz20_1 : w18.cell? ⟨gb541, 1, none⟩ = some (.int .i64 0) := (zat BK541.out 1).trans rfl; have hcz20_2 : w18.cell? ⟨gb541, 2, none⟩ = some (.int .i64 0) := (zat BK541.out 2).trans rfl; have hcz20_3 : w18.cell? ⟨gb541, 3, none⟩ = some (.int .i64 0) := (zat BK541.out 3).trans rfl; have hfz20_0 := zaw BK541.out 0; have hfz20_1 := zaw BK541.out 1; have hfz20_2 := zaw BK541.out 2; have hfz20_3 := zaw BK541.out 3))
       have n0_ : zab (Kd.R (Kd.int .i64) 3 ((((w18.setCell ⟨gb541, 0, none⟩ (.bool ((zas t537 x9_1).f0))).setCell ⟨gb541, 1, none⟩ (.int .i64 ((zas t537 x9_1).f1))).setCell ⟨gb541, 2, none⟩ (.int .i64 ((zas t537 x9_1).f2))).setCell ⟨gb541, 3, none⟩ (.int .i64 ((zas t537 x9_1).f3))) w.heap.size (fun _ => True) u3 x3_1) := ⟨by (with_reducible repeat (first | apply Kd.R_alloc | apply Kd.R_drewN | apply Kd.R_drew)); exact Kd.R_mono (Kd.R_far (p := ⟨gb541, 3, none⟩) (Kd.R_far (p := ⟨gb541, 2, none⟩) (Kd.R_far (p := ⟨gb541, 1, none⟩) (Kd.R_far (p := ⟨gb541, 0, none⟩) (Kd.R_types HO_3.out BK541.out (by decide)) (fun _ hk => hk.2) (.bool ((zas t537 x9_1).f0))) (fun _ hk => hk.2) (.int .i64 ((zas t537 x9_1).f1))) (fun _ hk => hk.2) (.int .i64 ((zas t537 x9_1).f2))) (fun _ hk => hk.2) (.int .i64 ((zas t537 x9_1).f3))) (fun _ hk => trivial)⟩
       have n1_ : zab (Kd.R k79 79 ((((w18.setCell ⟨gb541, 0, none⟩ (.bool ((zas t537 x9_1).f0))).setCell ⟨gb541, 1, none⟩ (.int .i64 ((zas t537 x9_1).f1))).setCell ⟨gb541, 2, none⟩ (.int .i64 ((zas t537 x9_1).f2))).setCell ⟨gb541, 3, none⟩ (.int .i64 ((zas t537 x9_1).f3))) w.heap.size (fun k_ => k_ ≠ gb541) (.slice (some ad540) t537.length co4) t537) := ⟨by (with_reducible repeat (first | apply Kd.R_alloc | apply Kd.R_drewN | apply Kd.R_drew)); exact Kd.R_mono (Kd.R_far (p := ⟨gb541, 3, none⟩) (Kd.R_far (p := ⟨gb541, 2, none⟩) (Kd.R_far (p := ⟨gb541, 1, none⟩) (Kd.R_far (p := ⟨gb541, 0, none⟩) (Kd.R_mono HO_7.out (fun k_ hk => (⟨hk, hk.2⟩ : _ ∧ k_ ≠ gb541))) (fun _ hk => hk.2) (.bool ((zas t537 x9_1).f0))) (fun _ hk => hk.2) (.int .i64 ((zas t537 x9_1).f1))) (fun _ hk => hk.2) (.int .i64 ((zas t537 x9_1).f2))) (fun _ hk => hk.2) (.int .i64 ((zas t537 x9_1).f3))) (fun _ hk => hk.1.2)⟩
       have n2_ : zab (((((w18.setCell ⟨gb541, 0, none⟩ (.bool ((zas t537 x9_1).f0))).setCell ⟨gb541, 1, none⟩ (.int .i64 ((zas t537 x9_1).f1))).setCell ⟨gb541, 2, none⟩ (.int .i64 ((zas t537 x9_1).f2))).setCell ⟨gb541, 3, none⟩ (.int .i64 ((zas t537 x9_1).f3))).heap[gb541]? = some (.cells #[.bool ((zas t537 x9_1).f0), .int .i64 ((zas t537 x9_1).f1), .int .i64 ((zas t537 x9_1).f2), .int .i64 ((zas t537 x9_1).f3)] 79 (0, 0))) := ⟨by (with_reducible repeat (first | refine zba ?_ _ | refine zbg ?_ | refine zbb ?_ _)); refine blk_put (cs := #[.bool ((zas t537 x9_1).f0), .int .i64 ((zas t537 x9_1).f1), .int .i64 ((zas t537 x9_1).f2), .int .i64 0]) ?_ 3 _ rfl; (with_reducible repeat (first | refine zba ?_ _ | refine zbg ?_ | refine zbb ?_ _)); refine blk_put (cs := #[.bool ((zas t537 x9_1).f0), .int .i64 ((zas t537 x9_1).f1), .int .i64 0, .int .i64 0]) ?_ 2 _ rfl; (with_reducible repeat (first | refine zba ?_ _ | refine zbg ?_ | refine zbb ?_ _)); refine blk_put (cs := #[.bool ((zas t537 x9_1).f0), .int .i64 0, .int .i64 0, .int .i64 0]) ?_ 1 _ rfl; (with_reducible repeat (first | refine zba ?_ _ | refine zbg ?_ | refine zbb ?_ _)); refine blk_put (cs := #[.bool false, .int .i64 0, .int .i64 0, .int .i64 0]) ?_ 0 _ rfl; (with_reducible repeat (first | refine zba ?_ _ | refine zbg ?_ | refine zbb ?_ _)); exact BK541.out⟩
       have n3_ : zab (zap w0 ((((w18.setCell ⟨gb541, 0, none⟩ (.bool ((zas t537 x9_1).f0))).setCell ⟨gb541, 1, none⟩ (.int .i64 ((zas t537 x9_1).f1))).setCell ⟨gb541, 2, none⟩ (.int .i64 ((zas t537 x9_1).f2))).setCell ⟨gb541, 3, none⟩ (.int .i64 ((zas t537 x9_1).f3))) g s0_0 s0_1) := ⟨by repeat (first | (with_reducible first | exact HI0.out | apply zap.alloc | apply zap.drewN | apply zap.drew | refine zap.far ?_ NB0_541.out _) | exact HI0.out)⟩
       have n4_ : zab (zaf w ((((w18.setCell ⟨gb541, 0, none⟩ (.bool ((zas t537 x9_1).f0))).setCell ⟨gb541, 1, none⟩ (.int .i64 ((zas t537 x9_1).f1))).setCell ⟨gb541, 2, none⟩ (.int .i64 ((zas t537 x9_1).f2))).setCell ⟨gb541, 3, none⟩ (.int .i64 ((zas t537 x9_1).f3))) g none) := ⟨by repeat (first | (with_reducible first | exact HK.out | apply zaf.set_ | apply zah | apply zal | apply zai | refine keep_far ?_ GW541.out _) | exact HK.out)⟩
       have n5_ : zab (Below w0.heap.size w0 ((((w18.setCell ⟨gb541, 0, none⟩ (.bool ((zas t537 x9_1).f0))).setCell ⟨gb541, 1, none⟩ (.int .i64 ((zas t537 x9_1).f1))).setCell ⟨gb541, 2, none⟩ (.int .i64 ((zas t537 x9_1).f2))).setCell ⟨gb541, 3, none⟩ (.int .i64 ((zas t537 x9_1).f3)))) := ⟨by repeat (first | (with_reducible first | exact HB.out | apply zac | apply zaa | apply zad | refine zak ?_ (zap.ge HI0.out) | refine zak ?_ GE541.out) | exact HB.out)⟩
       (try clear HO_3)
       (try clear HO_7)
       (try clear BK541)
       (try clear HI0)
       (try clear HK)
       (try clear HB)
       generalize ((((w18.setCell ⟨gb541, 0, none⟩ (.bool ((zas t537 x9_1).f0))).setCell ⟨gb541, 1, none⟩ (.int .i64 ((zas t537 x9_1).f1))).setCell ⟨gb541, 2, none⟩ (.int .i64 ((zas t537 x9_1).f2))).setCell ⟨gb541, 3, none⟩ (.int .i64 ((zas t537 x9_1).f3))) = w21 at n0_ n1_ n2_ n3_ n4_ n5_ ⊢
       have HO_3 := n0_
       have HO_7 := n1_
       have BK541 := n2_
       have HI0 := n3_
       have HK := n4_
       have HB := n5_
       clear n0_ n1_ n2_ n3_ n4_ n5_
       have n0_ := zab.mk (Kd.R_drew HO_3.out)
       have n1_ := zab.mk (Kd.R_drew HO_7.out)
       have n2_ := zab.mk (zbg BK541.out)
       have n3_ := zab.mk (zap.drew HI0.out)
       have n4_ := zab.mk (zal HK.out)
       have n5_ := zab.mk (zad HB.out)
       clear HO_3
       clear HO_7
       clear BK541
       clear HI0
       clear HK
       clear HB
       have HO_3 := n0_
       have HO_7 := n1_
       have BK541 := n2_
       have HI0 := n3_
       have HK := n4_
       have HB := n5_
       clear n0_ n1_ n2_ n3_ n4_ n5_
       refine start_ (n := 6) (S := fun w' => w'.cell? ⟨gb541, 0, none⟩ = some (.bool ((zas t537 x9_1).f0)) ∧ w'.cell? ⟨gb541, 1, none⟩ = some (.int .i64 ((zas t537 x9_1).f1)) ∧ w'.cell? ⟨gb541, 2, none⟩ = some (.int .i64 ((zas t537 x9_1).f2)) ∧ w'.cell? ⟨gb541, 3, none⟩ = some (.int .i64 ((zas t537 x9_1).f3))) (ds := []) #[false, false, false, false, false, false] (by kernel_rfl) rfl rfl ⟨(zat BK541.out 0).trans rfl, (zat BK541.out 1).trans rfl, (zat BK541.out 2).trans rfl, (zat BK541.out 3).trans rfl⟩ (fun hHeld => ?_)
       generalize w21.drew = w22 at HO_3 HO_7 BK541 HI0 HK HB hHeld ⊢
       refine zbs (i := 0) (N := some 14) (v := ?_) (a' := ?_) #[true, false, false, false, false, false] rfl rfl (by kernel_rfl) (fun _ _ _ h => h) (Or.inl ⟨by rfl, ?_⟩) ?_ ?_
       rotate_left
       ·intro w'
        go_simp
        with_reducible rfl
       rotate_left
       ·simp only [Act.put, List.setIfInBounds_toArray, List.set_cons_zero, List.set_cons_succ, zbc, zbe]
        rfl
       refine zbs (i := 2) (N := some 16) (v := ?_) (a' := ?_) #[true, false, true, false, false, false] rfl rfl (by kernel_rfl) (fun _ _ _ h => h) (Or.inl ⟨by rfl, ?_⟩) ?_ ?_
       rotate_left
       ·intro w'
        go_simp
        with_reducible rfl
       rotate_left
       ·simp only [Act.put, List.setIfInBounds_toArray, List.set_cons_zero, List.set_cons_succ, zbc, zbe]
        rfl
       refine take_ (i := 1) (N := some 15) (v := ?_) (a' := ?_) #[true, true, true, false, false, false] rfl rfl (by kernel_rfl) (fun _ _ _ h => h) (Or.inl ⟨by rfl, ?_⟩) hHeld ?_ ?_
       rotate_left
       ·rintro w' ⟨s0, s1, s2, s3⟩
        go_simp
        with_reducible rfl
       rotate_left
       ·simp only [Act.put, List.setIfInBounds_toArray, List.set_cons_zero, List.set_cons_succ, zbc, zbe]
        rfl
       refine take_ (i := 3) (N := some 17) (v := ?_) (a' := ?_) #[true, true, true, true, false, false] rfl rfl (by kernel_rfl) (fun _ _ _ h => h) (Or.inl ⟨by rfl, ?_⟩) hHeld ?_ ?_
       rotate_left
       ·rintro w' ⟨s0, s1, s2, s3⟩
        go_simp
        with_reducible rfl
       rotate_left
       ·simp only [Act.put, List.setIfInBounds_toArray, List.set_cons_zero, List.set_cons_succ, zbc, zbe]
        rfl
       refine one_ (i := 4) (N := some 18) #[true, true, true, true, true, false] rfl rfl (by kernel_rfl) (by decide) (fun K hK => ?_)
       refine goes_ Try.func83 (by kernel_rfl) rfl #[.pointer (some ⟨g, 0, none⟩), .agg #[.bool ((zas t537 x9_1).f0), .int .i64 ((zas t537 x9_1).f1), .int .i64 ((zas t537 x9_1).f2), .int .i64 ((zas t537 x9_1).f3)]] (by rfl) rfl rfl (by (try simp only [List.map_toArray, List.map_cons, List.map_nil]); first | done | rfl | (simp only [List.length_drop, List.length_take]; rfl)) ?_
       with_reducible refine (impl_floor_end.calls g s0_0 s0_1 ((zas t537 x9_1).f0) ((zas t537 x9_1).f1) ((zas t537 x9_1).f2) ((zas t537 x9_1).f3) t542 w0 _ ?side1 ?side2 A8.out).mono ?_
       (case side1 => repeat (first | (with_reducible first | exact HI0.out | apply zap.alloc | apply zap.drewN | apply zap.drew | refine zap.far ?_ NB0_541.out _) | exact HI0.out))
       (case side2 => repeat (first | (with_reducible first | exact HB.out | apply zac | apply zaa | apply zad | refine zak ?_ (zap.ge HI0.out) | refine zak ?_ GE541.out) | exact HB.out))
       rintro e w23 ⟨rfl, hi, hb, hk⟩
       refine ⟨_, rfl, ?_⟩
       have n0_ := zab.mk (Kd.R_mono (Kd.R_keep (zap.apart (show zap w0 _ g s0_0 s0_1 from by repeat (first | (with_reducible first | exact HI0.out | apply zap.alloc | apply zap.drewN | apply zap.drew | refine zap.far ?_ NB0_541.out _) | exact HI0.out)) (by (with_reducible repeat (first | apply Kd.R_alloc | apply Kd.R_drewN | apply Kd.R_drew)); exact HO_3.out) (by decide)) hk (fun _ h => h.2)) (fun _ h => h.1))
       have n1_ := zab.mk (Kd.R_mono (Kd.R_keep (zap.apart (show zap w0 _ g s0_0 s0_1 from by repeat (first | (with_reducible first | exact HI0.out | apply zap.alloc | apply zap.drewN | apply zap.drew | refine zap.far ?_ NB0_541.out _) | exact HI0.out)) (by (with_reducible repeat (first | apply Kd.R_alloc | apply Kd.R_drewN | apply Kd.R_drew)); exact HO_7.out) (by decide)) hk (fun _ h => h.2)) (fun _ h => h.1))
       have n2_ := zab.mk (zaf.blk hk (g' := gb541) (o := .cells #[.bool ((zas t537 x9_1).f0), .int .i64 ((zas t537 x9_1).f1), .int .i64 ((zas t537 x9_1).f2), .int .i64 ((zas t537 x9_1).f3)] 79 (0, 0)) (by (with_reducible repeat (first | refine zba ?_ _ | refine zbg ?_ | refine zbb ?_ _)); exact BK541.out) NB541_0.out (by simp))
       have n3_ := zab.mk (zaf.trans (by repeat (first | (with_reducible first | exact HK.out | apply zaf.set_ | apply zah | apply zal | apply zai | refine keep_far ?_ GW541.out _) | exact HK.out)) hk (.inl rfl))
       have n4_ := zab.mk (hb)
       have n5_ := zab.mk (hi)
       clear HO_3
       clear HO_7
       clear BK541
       clear HK
       clear HB
       clear HI0
       have HO_3 := n0_
       have HO_7 := n1_
       have BK541 := n2_
       have HK := n3_
       have HB := n4_
       have HI0 := n5_
       clear n0_ n1_ n2_ n3_ n4_ n5_
       (try clear hb)
       (try clear hb2)
       (try clear hk)
       (try clear hi)
       refine hK.out _ _ ⟨(zat BK541.out 0).trans rfl, (zat BK541.out 1).trans rfl, (zat BK541.out 2).trans rfl, (zat BK541.out 3).trans rfl⟩ (fun hHeld => ?_)
       clear hK K
       refine norm_ (a' := ?_) ?_ ?_
       rotate_left
       ·show Act.put _ (some 18) _ = _
        simp only [Act.put, List.setIfInBounds_toArray, List.set_cons_zero, List.set_cons_succ, zbc, zbe]
        rfl
       refine zbs (i := 5) (N := some 19) (v := ?_) (a' := ?_) #[true, true, true, true, true, true] rfl rfl (by kernel_rfl) (fun _ _ _ h => h) (Or.inl ⟨by rfl, ?_⟩) ?_ ?_
       rotate_left
       ·intro w'
        go_simp
        with_reducible rfl
       rotate_left
       ·simp only [Act.put, List.setIfInBounds_toArray, List.set_cons_zero, List.set_cons_succ, zbc, zbe]
        rfl
       refine done_ (by kernel_rfl) ?_
       try go_wp2
       go_roundg k1
       case measure => have := HK1.out; omega
       case rel => exact ⟨(x3_1), (wrap64 (x9_1 + 1)), (by first | rfl | (simp; done) | (simp [*]; done)), H', ⟨by have := HK1.out; omega⟩, ⟨by (with_reducible repeat (first | apply Kd.R_alloc | apply Kd.R_drewN | apply Kd.R_drew)); exact HO_3.out⟩, ⟨by (with_reducible repeat (first | apply Kd.R_alloc | apply Kd.R_drewN | apply Kd.R_drew)); exact Kd.R_mono HO_7.out (fun _ hk => trivial)⟩, ⟨by repeat (first | (with_reducible first | exact HI0.out | apply zap.alloc | apply zap.drewN | apply zap.drew | refine zap.far ?_ NB0_541.out _) | exact HI0.out)⟩, ⟨by repeat (first | (with_reducible first | exact HK.out | apply zaf.set_ | apply zah | apply zal | apply zai | refine keep_far ?_ GW541.out _) | exact HK.out)⟩, ⟨by repeat (first | (with_reducible first | exact HB.out | apply zac | apply zaa | apply zad | refine zak ?_ (zap.ge HI0.out) | refine zak ?_ GE541.out) | exact HB.out)⟩⟩
     ·rw [if_neg c7] at H
      exact absurd H (by simp)
    ·rw [if_neg c6] at H
     exact absurd H (by simp)
   ·rw [if_neg c5] at H
    have c5b0 : decide (x9_1 < (t537.length : Int)) = false := decide_eq_false c5
    clear c5
    obtain rfl := Option.some.inj H
    go_wp2
    go_ret
    exact ⟨_, by first | rfl | (simp [zan, zam] <;> rfl) | (simp [*, zan, zam] <;> rfl), by (with_reducible repeat (first | apply Kd.R_alloc | apply Kd.R_drewN | apply Kd.R_drew)); exact HO_3.out, by repeat (first | (with_reducible first | exact HI0.out | apply zap.alloc | apply zap.drewN | apply zap.drew) | exact HI0.out), by repeat (first | (with_reducible first | exact HB.out | apply zac | apply zaa | apply zad | refine zak ?_ (zap.ge HI0.out)) | exact HB.out), by repeat (first | (with_reducible first | exact HK.out | apply zaf.set_ | apply zah | apply zal | apply zai) | exact HK.out)⟩
end Go.Proofs.Ytaepgogafkmooaa.PB
namespace Go.Proofs.Ytaepgogafkmooaa.PB
open Go.RowKit Go.PW.PrintWords Go.PW.PrintLast Go.PW.PrintMore
attribute [local go_sem] zca zby zcj zci zbp zbo zbz zbx   -- for this text's walks alone
def spec_l3Long.f (l0 : List ByteArray) (l1 : List Int) : Option (Bool) := if 0 < (l1.length : Int) then (if (rd l1 0) = 0 then (if 3 < (l1.length : Int) then (if (rd l1 3) = (l0.length : Int) then (some true) else (if (rd l1 0) = 1 then (if 0 < (l0.length : Int) then (some ((rd l1 3) == ((rdOf ByteArray.empty l0 0).size : Int))) else (none)) else (some false))) else (none)) else (if (rd l1 0) = 1 then (if 3 < (l1.length : Int) then (if 0 < (l0.length : Int) then (some ((rd l1 3) == ((rdOf ByteArray.empty l0 0).size : Int))) else (none)) else (none)) else (some false))) else (none)
set_option maxHeartbeats 8000000 in
set_option maxRecDepth 100000 in
theorem spec_l3Long.calls (A0 : Option Addr) (c0 : Nat) (l0 : List ByteArray) (A1 : Option Addr) (c1 : Nat) (l1 : List Int) (r : Bool) (w : World) (hr0 : Kd.C Kd.string w A0 l0.length l0) (hc0 : l0.length ≤ c0) (hr1 : Kd.C (Kd.int .i64) w A1 l1.length l1) (hc1 : l1.length ≤ c1) (h : spec_l3Long.f l0 l1 = some r) :
  Calls Try.prog 98 #[.slice A0 l0.length c0, .slice A1 l1.length c1] w fun e w' => e = .returned (.bool r) ∧ zbf w w' := by
 have HR0 := zab.mk hr0
 have HC0 := zab.mk hc0
 clear hr0 hc0
 have HR1 := zab.mk hr1
 have HC1 := zab.mk hc1
 clear hr1 hc1
 have H : (if 0 < (l1.length : Int) then (if (rd l1 0) = 0 then (if 3 < (l1.length : Int) then (if (rd l1 3) = (l0.length : Int) then (some true) else (if (rd l1 0) = 1 then (if 0 < (l0.length : Int) then (some ((rd l1 3) == ((rdOf ByteArray.empty l0 0).size : Int))) else (none)) else (some false))) else (none)) else (if (rd l1 0) = 1 then (if 3 < (l1.length : Int) then (if 0 < (l0.length : Int) then (some ((rd l1 3) == ((rdOf ByteArray.empty l0 0).size : Int))) else (none)) else (none)) else (some false))) else (none)) = some r := h
 clear h
 by_cases c3 : 0 < (l1.length : Int)
 ·rw [if_pos c3] at H
  have c3b0 : decide (0 < (l1.length : Int)) = true := decide_eq_true c3
  have c3b1 : decide (0 < l1.length) = true := decide_eq_true (by omega)
  clear c3
  by_cases c4 : (rd l1 0) = 0
  ·rw [if_pos c4] at H
   have c4b0 : ((rd l1 0) == 0) = true := beq_iff_eq.mpr c4
   have c4b1 : ((rd l1 0) != 0) = false := bne_eq_false_iff_eq.mpr c4
   clear c4
   by_cases c5 : 3 < (l1.length : Int)
   ·rw [if_pos c5] at H
    have c5b0 : decide (3 < (l1.length : Int)) = true := decide_eq_true c5
    have c5b1 : decide (3 < l1.length) = true := decide_eq_true (by omega)
    clear c5
    by_cases c6 : (rd l1 3) = (l0.length : Int)
    ·rw [if_pos c6] at H
     have c6b0 : ((rd l1 3) == (l0.length : Int)) = true := beq_iff_eq.mpr c6
     have c6b1 : ((rd l1 3) != (l0.length : Int)) = false := bne_eq_false_iff_eq.mpr c6
     clear c6
     obtain rfl := Option.some.inj H
     have p546 : 0 ≤ (0 : Int) := (by omega)
     have q546 : 0 < (l1.length : Int) := of_decide_eq_true (by first | (with_reducible assumption) | assumption)
     obtain ⟨ad546, e546, hx546_0⟩ := Kd.at_int HR1.out 0 p546 q546
     cases e546
     have qi546 : (0 < l1.length) = True := eq_true (by omega)
     (try rw [show ((0 : Int)).toNat = 0 from rfl] at hx546_0)
     (try rw [Addr.add_zero'] at hx546_0)
     replace p546 := eq_true p546
     replace q546 := eq_true q546
     have p547 : 0 ≤ (3 : Int) := (by omega)
     have q547 : 3 < (l1.length : Int) := of_decide_eq_true (by first | (with_reducible assumption) | assumption)
     obtain ⟨ad547, e547, hx547_0⟩ := Kd.at_int HR1.out 3 p547 q547
     obtain rfl : ad546 = ad547 := (by injection e547)
     (try simp only [show (3 : Int).toNat = 3 from rfl, Nat.reduceMul, Nat.reduceEqDiff, Go.Addr.add, ↓reduceIte] at hx547_0)
     have qi547 : (3 < l1.length) = True := eq_true (by omega)
     (try rw [show ((3 : Int)).toNat = 3 from rfl] at hx547_0)
     replace p547 := eq_true p547
     replace q547 := eq_true q547
     go_enter Try.func98, Try.ntmps98
     go_wp2
     repeat (go_quiet (fail); try go_wp2)
     go_ret
     exact ⟨by first | rfl | (simp; done) | (simp [*]; done), by repeat (first | exact zbf.refl _ | apply zbf.step)⟩
    ·rw [if_neg c6] at H
     have c6b0 : ((rd l1 3) == (l0.length : Int)) = false := beq_eq_false_iff_ne.mpr c6
     have c6b1 : ((rd l1 3) != (l0.length : Int)) = true := bne_iff_ne.mpr c6
     by_cases c7 : (rd l1 0) = 1
     ·rw [if_pos c7] at H
      have c7b0 : ((rd l1 0) == 1) = true := beq_iff_eq.mpr c7
      have c7b1 : ((rd l1 0) != 1) = false := bne_eq_false_iff_eq.mpr c7
      clear c7
      by_cases c8 : 0 < (l0.length : Int)
      ·rw [if_pos c8] at H
       have c8b0 : decide (0 < (l0.length : Int)) = true := decide_eq_true c8
       have c8b1 : decide (0 < l0.length) = true := decide_eq_true (by omega)
       clear c8
       obtain rfl := Option.some.inj H
       have p546 : 0 ≤ (0 : Int) := (by omega)
       have q546 : 0 < (l1.length : Int) := of_decide_eq_true (by first | (with_reducible assumption) | assumption)
       obtain ⟨ad546, e546, hx546_0⟩ := Kd.at_int HR1.out 0 p546 q546
       cases e546
       have qi546 : (0 < l1.length) = True := eq_true (by omega)
       (try rw [show ((0 : Int)).toNat = 0 from rfl] at hx546_0)
       (try rw [Addr.add_zero'] at hx546_0)
       replace p546 := eq_true p546
       replace q546 := eq_true q546
       have p547 : 0 ≤ (3 : Int) := (by omega)
       have q547 : 3 < (l1.length : Int) := of_decide_eq_true (by first | (with_reducible assumption) | assumption)
       obtain ⟨ad547, e547, hx547_0⟩ := Kd.at_int HR1.out 3 p547 q547
       obtain rfl : ad546 = ad547 := (by injection e547)
       (try simp only [show (3 : Int).toNat = 3 from rfl, Nat.reduceMul, Nat.reduceEqDiff, Go.Addr.add, ↓reduceIte] at hx547_0)
       have qi547 : (3 < l1.length) = True := eq_true (by omega)
       (try rw [show ((3 : Int)).toNat = 3 from rfl] at hx547_0)
       replace p547 := eq_true p547
       replace q547 := eq_true q547
       have p548 : 0 ≤ (0 : Int) := (by omega)
       have q548 : 0 < (l1.length : Int) := of_decide_eq_true (by first | (with_reducible assumption) | assumption)
       obtain ⟨ad548, e548, hx548_0⟩ := Kd.at_int HR1.out 0 p548 q548
       obtain rfl : ad546 = ad548 := (by injection e548)
       have qi548 : (0 < l1.length) = True := eq_true (by omega)
       (try rw [show ((0 : Int)).toNat = 0 from rfl] at hx548_0)
       (try rw [Addr.add_zero'] at hx548_0)
       replace p548 := eq_true p548
       replace q548 := eq_true q548
       have p549 : 0 ≤ (3 : Int) := (by omega)
       have q549 : 3 < (l1.length : Int) := of_decide_eq_true (by first | (with_reducible assumption) | assumption)
       obtain ⟨ad549, e549, hx549_0⟩ := Kd.at_int HR1.out 3 p549 q549
       obtain rfl : ad546 = ad549 := (by injection e549)
       (try simp only [show (3 : Int).toNat = 3 from rfl, Nat.reduceMul, Nat.reduceEqDiff, Go.Addr.add, ↓reduceIte] at hx549_0)
       have qi549 : (3 < l1.length) = True := eq_true (by omega)
       (try rw [show ((3 : Int)).toNat = 3 from rfl] at hx549_0)
       replace p549 := eq_true p549
       replace q549 := eq_true q549
       have p550 : 0 ≤ (0 : Int) := (by omega)
       have q550 : 0 < (l0.length : Int) := of_decide_eq_true (by first | (with_reducible assumption) | assumption)
       obtain ⟨ad550, e550, hx550_0⟩ := Kd.at_string HR0.out 0 p550 q550
       cases e550
       have qi550 : (0 < l0.length) = True := eq_true (by omega)
       (try rw [show ((0 : Int)).toNat = 0 from rfl] at hx550_0)
       (try rw [Addr.add_zero'] at hx550_0)
       replace p550 := eq_true p550
       replace q550 := eq_true q550
       go_enter Try.func98, Try.ntmps98
       go_wp2
       repeat (go_quiet (fail); try go_wp2)
       go_ret
       exact ⟨by first | rfl | (simp; done) | (simp [*]; done), by repeat (first | exact zbf.refl _ | apply zbf.step)⟩
      ·rw [if_neg c8] at H
       exact absurd H (by simp)
     ·rw [if_neg c7] at H
      have c7b0 : ((rd l1 0) == 1) = false := beq_eq_false_iff_ne.mpr c7
      have c7b1 : ((rd l1 0) != 1) = true := bne_iff_ne.mpr c7
      obtain rfl := Option.some.inj H
      have p546 : 0 ≤ (0 : Int) := (by omega)
      have q546 : 0 < (l1.length : Int) := of_decide_eq_true (by first | (with_reducible assumption) | assumption)
      obtain ⟨ad546, e546, hx546_0⟩ := Kd.at_int HR1.out 0 p546 q546
      cases e546
      have qi546 : (0 < l1.length) = True := eq_true (by omega)
      (try rw [show ((0 : Int)).toNat = 0 from rfl] at hx546_0)
      (try rw [Addr.add_zero'] at hx546_0)
      replace p546 := eq_true p546
      replace q546 := eq_true q546
      have p547 : 0 ≤ (3 : Int) := (by omega)
      have q547 : 3 < (l1.length : Int) := of_decide_eq_true (by first | (with_reducible assumption) | assumption)
      obtain ⟨ad547, e547, hx547_0⟩ := Kd.at_int HR1.out 3 p547 q547
      obtain rfl : ad546 = ad547 := (by injection e547)
      (try simp only [show (3 : Int).toNat = 3 from rfl, Nat.reduceMul, Nat.reduceEqDiff, Go.Addr.add, ↓reduceIte] at hx547_0)
      have qi547 : (3 < l1.length) = True := eq_true (by omega)
      (try rw [show ((3 : Int)).toNat = 3 from rfl] at hx547_0)
      replace p547 := eq_true p547
      replace q547 := eq_true q547
      have p548 : 0 ≤ (0 : Int) := (by omega)
      have q548 : 0 < (l1.length : Int) := of_decide_eq_true (by first | (with_reducible assumption) | assumption)
      obtain ⟨ad548, e548, hx548_0⟩ := Kd.at_int HR1.out 0 p548 q548
      obtain rfl : ad546 = ad548 := (by injection e548)
      have qi548 : (0 < l1.length) = True := eq_true (by omega)
      (try rw [show ((0 : Int)).toNat = 0 from rfl] at hx548_0)
      (try rw [Addr.add_zero'] at hx548_0)
      replace p548 := eq_true p548
      replace q548 := eq_true q548
      go_enter Try.func98, Try.ntmps98
      go_wp2
      repeat (go_quiet (fail); try go_wp2)
      go_ret
      exact ⟨by first | rfl | (simp; done) | (simp [*]; done), by repeat (first | exact zbf.refl _ | apply zbf.step)⟩
   ·rw [if_neg c5] at H
    exact absurd H (by simp)
  ·rw [if_neg c4] at H
   have c4b0 : ((rd l1 0) == 0) = false := beq_eq_false_iff_ne.mpr c4
   have c4b1 : ((rd l1 0) != 0) = true := bne_iff_ne.mpr c4
   by_cases c9 : (rd l1 0) = 1
   ·rw [if_pos c9] at H
    have c9b0 : ((rd l1 0) == 1) = true := beq_iff_eq.mpr c9
    have c9b1 : ((rd l1 0) != 1) = false := bne_eq_false_iff_eq.mpr c9
    clear c9
    by_cases c10 : 3 < (l1.length : Int)
    ·rw [if_pos c10] at H
     have c10b0 : decide (3 < (l1.length : Int)) = true := decide_eq_true c10
     have c10b1 : decide (3 < l1.length) = true := decide_eq_true (by omega)
     clear c10
     by_cases c11 : 0 < (l0.length : Int)
     ·rw [if_pos c11] at H
      have c11b0 : decide (0 < (l0.length : Int)) = true := decide_eq_true c11
      have c11b1 : decide (0 < l0.length) = true := decide_eq_true (by omega)
      clear c11
      obtain rfl := Option.some.inj H
      have p546 : 0 ≤ (0 : Int) := (by omega)
      have q546 : 0 < (l1.length : Int) := of_decide_eq_true (by first | (with_reducible assumption) | assumption)
      obtain ⟨ad546, e546, hx546_0⟩ := Kd.at_int HR1.out 0 p546 q546
      cases e546
      have qi546 : (0 < l1.length) = True := eq_true (by omega)
      (try rw [show ((0 : Int)).toNat = 0 from rfl] at hx546_0)
      (try rw [Addr.add_zero'] at hx546_0)
      replace p546 := eq_true p546
      replace q546 := eq_true q546
      have p551 : 0 ≤ (0 : Int) := (by omega)
      have q551 : 0 < (l1.length : Int) := of_decide_eq_true (by first | (with_reducible assumption) | assumption)
      obtain ⟨ad551, e551, hx551_0⟩ := Kd.at_int HR1.out 0 p551 q551
      obtain rfl : ad546 = ad551 := (by injection e551)
      have qi551 : (0 < l1.length) = True := eq_true (by omega)
      (try rw [show ((0 : Int)).toNat = 0 from rfl] at hx551_0)
      (try rw [Addr.add_zero'] at hx551_0)
      replace p551 := eq_true p551
      replace q551 := eq_true q551
      have p552 : 0 ≤ (3 : Int) := (by omega)
      have q552 : 3 < (l1.length : Int) := of_decide_eq_true (by first | (with_reducible assumption) | assumption)
      obtain ⟨ad552, e552, hx552_0⟩ := Kd.at_int HR1.out 3 p552 q552
      obtain rfl : ad546 = ad552 := (by injection e552)
      (try simp only [show (3 : Int).toNat = 3 from rfl, Nat.reduceMul, Nat.reduceEqDiff, Go.Addr.add, ↓reduceIte] at hx552_0)
      have qi552 : (3 < l1.length) = True := eq_true (by omega)
      (try rw [show ((3 : Int)).toNat = 3 from rfl] at hx552_0)
      replace p552 := eq_true p552
      replace q552 := eq_true q552
      have p553 : 0 ≤ (0 : Int) := (by omega)
      have q553 : 0 < (l0.length : Int) := of_decide_eq_true (by first | (with_reducible assumption) | assumption)
      obtain ⟨ad553, e553, hx553_0⟩ := Kd.at_string HR0.out 0 p553 q553
      cases e553
      have qi553 : (0 < l0.length) = True := eq_true (by omega)
      (try rw [show ((0 : Int)).toNat = 0 from rfl] at hx553_0)
      (try rw [Addr.add_zero'] at hx553_0)
      replace p553 := eq_true p553
      replace q553 := eq_true q553
      go_enter Try.func98, Try.ntmps98
      go_wp2
      repeat (go_quiet (fail); try go_wp2)
      go_ret
      exact ⟨by first | rfl | (simp; done) | (simp [*]; done), by repeat (first | exact zbf.refl _ | apply zbf.step)⟩
     ·rw [if_neg c11] at H
      exact absurd H (by simp)
    ·rw [if_neg c10] at H
     exact absurd H (by simp)
   ·rw [if_neg c9] at H
    have c9b0 : ((rd l1 0) == 1) = false := beq_eq_false_iff_ne.mpr c9
    have c9b1 : ((rd l1 0) != 1) = true := bne_iff_ne.mpr c9
    obtain rfl := Option.some.inj H
    have p546 : 0 ≤ (0 : Int) := (by omega)
    have q546 : 0 < (l1.length : Int) := of_decide_eq_true (by first | (with_reducible assumption) | assumption)
    obtain ⟨ad546, e546, hx546_0⟩ := Kd.at_int HR1.out 0 p546 q546
    cases e546
    have qi546 : (0 < l1.length) = True := eq_true (by omega)
    (try rw [show ((0 : Int)).toNat = 0 from rfl] at hx546_0)
    (try rw [Addr.add_zero'] at hx546_0)
    replace p546 := eq_true p546
    replace q546 := eq_true q546
    have p551 : 0 ≤ (0 : Int) := (by omega)
    have q551 : 0 < (l1.length : Int) := of_decide_eq_true (by first | (with_reducible assumption) | assumption)
    obtain ⟨ad551, e551, hx551_0⟩ := Kd.at_int HR1.out 0 p551 q551
    obtain rfl : ad546 = ad551 := (by injection e551)
    have qi551 : (0 < l1.length) = True := eq_true (by omega)
    (try rw [show ((0 : Int)).toNat = 0 from rfl] at hx551_0)
    (try rw [Addr.add_zero'] at hx551_0)
    replace p551 := eq_true p551
    replace q551 := eq_true q551
    go_enter Try.func98, Try.ntmps98
    go_wp2
    repeat (go_quiet (fail); try go_wp2)
    go_ret
    exact ⟨by first | rfl | (simp; done) | (simp [*]; done), by repeat (first | exact zbf.refl _ | apply zbf.step)⟩
 ·rw [if_neg c3] at H
  exact absurd H (by simp)
end Go.Proofs.Ytaepgogafkmooaa.PB
namespace Go.Proofs.Ytaepgogafkmooaa.PB
open Go.RowKit Go.PW.PrintWords Go.PW.PrintLast Go.PW.PrintMore
attribute [local go_sem] zca zby zcj zci zbp zbo zbz zbx   -- for this text's walks alone
def spec_CutFirst.l0 : Nat → List ByteArray → List (List Int) → Int → Option (Int × Bool)
 | 0, _, _, _ => none
 | k + 1, x0, x4, x5 => if x5 < (x4.length : Int) then (if 0 ≤ x5 then ((spec_l3Long.f x0 (zbl x4 x5)).bind fun t559 => (if t559 = true then (some (x5, true)) else (spec_CutFirst.l0 k x0 x4 (wrap64 (x5 + 1))))) else (none)) else (some (0, false))
def spec_CutFirst.f (k : Nat) (l0 : List ByteArray) : Option (Int × Bool) := (spec_PlanIn.f k l0).bind fun t554 => (if t554 = true then ((spec_l2Walls.f k l0).bind fun t555 => (spec_CutFirst.l0 k l0 t555 0)) else (some (0, false)))
set_option maxHeartbeats 8000000 in
set_option maxRecDepth 100000 in
theorem spec_CutFirst.calls (k : Nat) (A0 : Option Addr) (c0 : Nat) (l0 : List ByteArray) (r1 : Int) (r2 : Bool) (w : World) (hr0 : Kd.C Kd.string w A0 l0.length l0) (hc0 : l0.length ≤ c0) (h : spec_CutFirst.f k l0 = some (r1, r2)) :
  Calls Try.prog 44 #[.slice A0 l0.length c0] w fun e w' => e = .returned (.tuple #[.int .i64 r1, .bool r2]) ∧ Below w.heap.size w w' := by
 have HR0 := zab.mk hr0
 have HC0 := zab.mk hc0
 clear hr0 hc0
 have HB := zab.mk (Below.refl w.heap.size w)
 have H : ((spec_PlanIn.f k l0).bind fun t554 => (if t554 = true then ((spec_l2Walls.f k l0).bind fun t555 => (spec_CutFirst.l0 k l0 t555 0)) else (some (0, false)))) = some (r1, r2) := h
 clear h
 replace H := Option.bind_eq_some_iff.mp H
 obtain ⟨t554, A20, H⟩ := H
 replace H : (if t554 = true then ((spec_l2Walls.f k l0).bind fun t555 => (spec_CutFirst.l0 k l0 t555 0)) else (some (0, false))) = some (r1, r2) := H
 have A2 := zab.mk A20
 clear A20
 by_cases c3 : t554 = true
 ·subst c3
  have H1 : ((spec_l2Walls.f k l0).bind fun t555 => (spec_CutFirst.l0 k l0 t555 0)) = some (r1, r2) := by rw [if_pos rfl] at H; exact H
  clear H
  have H := H1
  clear H1
  replace H := Option.bind_eq_some_iff.mp H
  obtain ⟨t555, A40, H⟩ := H
  replace H : (spec_CutFirst.l0 k l0 t555 0) = some (r1, r2) := H
  have A4 := zab.mk A40
  clear A40
  have H' := zab.mk H
  clear H
  go_enter Try.func44, Try.ntmps44
  go_wp2_with (first | ((with_reducible refine zar (f := 81) rfl ?_); refine zbj (some 7) rfl rfl Try.func81 (by kernel_rfl) rfl #[.slice A0 l0.length c0] rfl (by (try simp only [List.map_toArray, List.map_cons, List.map_nil]); first | done | rfl | (simp only [List.length_drop, List.length_take]; rfl)) ?_; (with_reducible refine (spec_PlanIn.calls k _ _ l0 true _ ?side1 ?side2 A2.out).mono ?_); (case side1 => repeat (first | exact HR0.out | (with_reducible refine Kd.C_alloc ?_ _) | (with_reducible refine Kd.C_drewN ?_ _) | (with_reducible refine Kd.C_drew ?_))); (case side2 => exact HC0.out); rintro e w5 ⟨rfl, hb⟩; refine ⟨_, rfl, ?_⟩; have n0_ := zab.mk (zag (by repeat (first | (with_reducible first | exact HB.out | apply zac | apply zaa | apply zad) | exact HB.out)) hb); clear HB; have HB := n0_; clear n0_; (try clear hb); (try clear hb2); (try clear hk); (try clear hi)) | ((with_reducible refine zar (f := 82) rfl ?_); refine zbj (some 10) rfl rfl Try.func82 (by kernel_rfl) rfl #[.slice A0 l0.length c0] rfl (by (try simp only [List.map_toArray, List.map_cons, List.map_nil]); first | done | rfl | (simp only [List.length_drop, List.length_take]; rfl)) ?_; (with_reducible refine (spec_l2Walls.calls k _ _ l0 t555 _ ?side1 ?side2 A4.out).mono ?_); (case side1 => repeat (first | exact (Kd.C_below HR0.out HB.out) | (with_reducible refine Kd.C_alloc ?_ _) | (with_reducible refine Kd.C_drewN ?_ _) | (with_reducible refine Kd.C_drew ?_))); (case side2 => exact HC0.out); rintro e w6 ⟨v556, rfl, ho0, hb⟩; refine ⟨_, rfl, ?_⟩; have n0_ := zab.mk (Kd.S_lower ho0 (zaj (by repeat (first | (with_reducible first | exact HB.out | apply zac | apply zaa | apply zad) | exact HB.out)))); have n1_ := zab.mk (zag (by repeat (first | (with_reducible first | exact HB.out | apply zac | apply zaa | apply zad) | exact HB.out)) hb); clear HB; have HO557 := n0_; have HB := n1_; clear n0_ n1_; (try clear hb); (try clear hb2); (try clear hk); (try clear hi); (try clear ho0)))
  go_loopg [5] k (fun kq v5 w' => ∃ (x5_1 : Int), v5 = .int .i64 x5_1 ∧ zab (spec_CutFirst.l0 kq l0 t555 x5_1 = some (r1, r2)) ∧ zab (kq ≤ k) ∧ zab (Kd.S (Kd.slice 3 (Kd.int .i64)) 39 w' w.heap.size (fun _ => True) v556 t555) ∧ zab (Below w.heap.size w w'))
  case atStart => exact ⟨(0), (by first | rfl | (simp; done) | (simp [*]; done)), H', ⟨Nat.le_refl _⟩, ⟨by (with_reducible repeat (first | apply Kd.S_alloc | apply Kd.S_drewN | apply Kd.S_drew)); exact HO557.out⟩, ⟨by repeat (first | (with_reducible first | exact HB.out | apply zac | apply zaa | apply zad) | exact HB.out)⟩⟩
  case round =>
   clear H'
   try clear p2
   try clear c3
   try clear c4
   obtain ⟨x5_1, rfl, HA, HK1, HO_4, HB⟩ := hrel
   cases gk with
   | zero => exact absurd HA.out (by simp [spec_CutFirst.l0])
   | succ k1 =>
    have H := HA.out
    clear HA
    simp only [spec_CutFirst.l0] at H
    by_cases c7 : x5_1 < (t555.length : Int)
    ·rw [if_pos c7] at H
     have c7b0 : decide (x5_1 < (t555.length : Int)) = true := decide_eq_true c7
     clear c7
     by_cases c8 : 0 ≤ x5_1
     ·rw [if_pos c8] at H
      have c8b0 : decide (0 ≤ x5_1) = true := decide_eq_true c8
      clear c8
      replace H := Option.bind_eq_some_iff.mp H
      obtain ⟨t559, A90, H⟩ := H
      replace H : (if t559 = true then (some (x5_1, true)) else (spec_CutFirst.l0 k1 l0 t555 (wrap64 (x5_1 + 1)))) = some (r1, r2) := H
      have A9 := zab.mk A90
      clear A90
      by_cases c10 : t559 = true
      ·subst c10
       have H1 : (some (x5_1, true)) = some (r1, r2) := by rw [if_pos rfl] at H; exact H
       clear H
       have H := H1
       clear H1
       simp only [Option.some.injEq, Prod.mk.injEq] at H
       obtain ⟨rfl, rfl⟩ := H
       obtain ⟨Ao11, co11, eo11⟩ := Kd.S_slice HO_4.out
       subst eo11
       have p558 : 0 ≤ (x5_1 : Int) := of_decide_eq_true (by first | (with_reducible assumption) | assumption)
       have q558 : x5_1 < (t555.length : Int) := of_decide_eq_true (by first | (with_reducible assumption) | assumption)
       obtain ⟨ad558, A558_0, c558_0, e558, hx558_0, hl558_0, hi558_0⟩ := at_L3 (Kd.S_reads' HO_4.out).2.2 x5_1 p558 q558
       cases e558
       obtain ⟨ce558, hce558, hMe558, hcc558⟩ := Kd.S_get HO_4.out [] x5_1 p558 (by first | exact q558 | exact of_decide_eq_true (by first | (with_reducible assumption) | assumption) | (have e_ := (Kd.S_reads' HO_4.out).1; omega))
       obtain ⟨ve558_0, rfl, ge558_0⟩ := hMe558
       have hv558_0 := hcc558 0 _ rfl
       rw [Nat.add_zero, show ((Kd.slice 3 (Kd.int .i64))).sz = 1 from rfl, Nat.mul_one] at hv558_0
       replace hv558_0 := Option.some.inj (hv558_0.symm.trans hx558_0)
       rw [hv558_0] at ge558_0
       have HL558_0 := zab.mk (show Kd.R (Kd.int .i64) 3 _ _ _ _ (zbl t555 x5_1) from ge558_0)
       clear hv558_0 ge558_0
       clear hcc558 hce558
       have HR558_0 := zab.mk hi558_0
       have HC558_0 := zab.mk hl558_0
       clear hi558_0 hl558_0
       replace p558 := eq_true p558
       replace q558 := eq_true q558
       go_wp2_with (first | ((with_reducible refine zar (f := 98) rfl ?_); refine zbj (some 22) rfl rfl Try.func98 (by kernel_rfl) rfl #[.slice A0 l0.length c0, .slice A558_0 (zbl t555 x5_1).length c558_0] rfl (by (try simp only [List.map_toArray, List.map_cons, List.map_nil]); first | done | rfl | (simp only [List.length_drop, List.length_take]; rfl)) ?_; (with_reducible refine (spec_l3Long.calls _ _ l0 _ _ (zbl t555 x5_1) true _ ?side1 ?side2 ?side3 ?side4 A9.out).mono ?_); (case side1 => repeat (first | exact (Kd.C_below HR0.out HB.out) | (with_reducible refine Kd.C_alloc ?_ _) | (with_reducible refine Kd.C_drewN ?_ _) | (with_reducible refine Kd.C_drew ?_))); (case side2 => exact HC0.out); (case side3 => repeat (first | exact (by repeat (first | (with_reducible exact HR558_0.out) | (with_reducible refine Kd.C_alloc ?_ _) | (with_reducible refine Kd.C_drewN ?_ _) | (with_reducible refine Kd.C_drew ?_) | exact HR558_0.out)) | (with_reducible refine Kd.C_alloc ?_ _) | (with_reducible refine Kd.C_drewN ?_ _) | (with_reducible refine Kd.C_drew ?_))); (case side4 => exact HC558_0.out); rintro e w' ⟨rfl, ⟨nd, rfl⟩⟩; refine ⟨_, rfl, ?_⟩))
       go_ret2
       exact ⟨by first | rfl | (simp [zan, zam] <;> rfl) | (simp [*, zan, zam] <;> rfl), by repeat (first | (with_reducible first | exact HB.out | apply zac | apply zaa | apply zad) | exact HB.out)⟩
      ·replace c10 := Bool.eq_false_iff.mpr c10
       subst c10
       have H1 : (spec_CutFirst.l0 k1 l0 t555 (wrap64 (x5_1 + 1))) = some (r1, r2) := by rw [if_neg (show ¬ (false = true) by decide)] at H; exact H
       clear H
       have H := H1
       clear H1
       have H' := zab.mk H
       clear H
       obtain ⟨Ao12, co12, eo12⟩ := Kd.S_slice HO_4.out
       subst eo12
       have p558 : 0 ≤ (x5_1 : Int) := of_decide_eq_true (by first | (with_reducible assumption) | assumption)
       have q558 : x5_1 < (t555.length : Int) := of_decide_eq_true (by first | (with_reducible assumption) | assumption)
       obtain ⟨ad558, A558_0, c558_0, e558, hx558_0, hl558_0, hi558_0⟩ := at_L3 (Kd.S_reads' HO_4.out).2.2 x5_1 p558 q558
       cases e558
       obtain ⟨ce558, hce558, hMe558, hcc558⟩ := Kd.S_get HO_4.out [] x5_1 p558 (by first | exact q558 | exact of_decide_eq_true (by first | (with_reducible assumption) | assumption) | (have e_ := (Kd.S_reads' HO_4.out).1; omega))
       obtain ⟨ve558_0, rfl, ge558_0⟩ := hMe558
       have hv558_0 := hcc558 0 _ rfl
       rw [Nat.add_zero, show ((Kd.slice 3 (Kd.int .i64))).sz = 1 from rfl, Nat.mul_one] at hv558_0
       replace hv558_0 := Option.some.inj (hv558_0.symm.trans hx558_0)
       rw [hv558_0] at ge558_0
       have HL558_0 := zab.mk (show Kd.R (Kd.int .i64) 3 _ _ _ _ (zbl t555 x5_1) from ge558_0)
       clear hv558_0 ge558_0
       clear hcc558 hce558
       have HR558_0 := zab.mk hi558_0
       have HC558_0 := zab.mk hl558_0
       clear hi558_0 hl558_0
       replace p558 := eq_true p558
       replace q558 := eq_true q558
       go_wp2_with (first | ((with_reducible refine zar (f := 98) rfl ?_); refine zbj (some 22) rfl rfl Try.func98 (by kernel_rfl) rfl #[.slice A0 l0.length c0, .slice A558_0 (zbl t555 x5_1).length c558_0] rfl (by (try simp only [List.map_toArray, List.map_cons, List.map_nil]); first | done | rfl | (simp only [List.length_drop, List.length_take]; rfl)) ?_; (with_reducible refine (spec_l3Long.calls _ _ l0 _ _ (zbl t555 x5_1) false _ ?side1 ?side2 ?side3 ?side4 A9.out).mono ?_); (case side1 => repeat (first | exact (Kd.C_below HR0.out HB.out) | (with_reducible refine Kd.C_alloc ?_ _) | (with_reducible refine Kd.C_drewN ?_ _) | (with_reducible refine Kd.C_drew ?_))); (case side2 => exact HC0.out); (case side3 => repeat (first | exact (by repeat (first | (with_reducible exact HR558_0.out) | (with_reducible refine Kd.C_alloc ?_ _) | (with_reducible refine Kd.C_drewN ?_ _) | (with_reducible refine Kd.C_drew ?_) | exact HR558_0.out)) | (with_reducible refine Kd.C_alloc ?_ _) | (with_reducible refine Kd.C_drewN ?_ _) | (with_reducible refine Kd.C_drew ?_))); (case side4 => exact HC558_0.out); rintro e w' ⟨rfl, ⟨nd, rfl⟩⟩; refine ⟨_, rfl, ?_⟩))
       go_roundg k1
       case measure => have := HK1.out; omega
       case rel => exact ⟨(wrap64 (x5_1 + 1)), (by first | rfl | (simp; done) | (simp [*]; done)), H', ⟨by have := HK1.out; omega⟩, ⟨by (with_reducible repeat (first | apply Kd.S_alloc | apply Kd.S_drewN | apply Kd.S_drew)); exact HO_4.out⟩, ⟨by repeat (first | (with_reducible first | exact HB.out | apply zac | apply zaa | apply zad) | exact HB.out)⟩⟩
     ·rw [if_neg c8] at H
      exact absurd H (by simp)
    ·rw [if_neg c7] at H
     have c7b0 : decide (x5_1 < (t555.length : Int)) = false := decide_eq_false c7
     clear c7
     simp only [Option.some.injEq, Prod.mk.injEq] at H
     obtain ⟨rfl, rfl⟩ := H
     obtain ⟨Ao13, co13, eo13⟩ := Kd.S_slice HO_4.out
     subst eo13
     go_wp2
     go_ret2
     exact ⟨by first | rfl | (simp [zan, zam] <;> rfl) | (simp [*, zan, zam] <;> rfl), by repeat (first | (with_reducible first | exact HB.out | apply zac | apply zaa | apply zad) | exact HB.out)⟩
 ·replace c3 := Bool.eq_false_iff.mpr c3
  subst c3
  have H1 : (some (0, false)) = some (r1, r2) := by rw [if_neg (show ¬ (false = true) by decide)] at H; exact H
  clear H
  have H := H1
  clear H1
  simp only [Option.some.injEq, Prod.mk.injEq] at H
  obtain ⟨rfl, rfl⟩ := H
  go_enter Try.func44, Try.ntmps44
  go_wp2_with (first | ((with_reducible refine zar (f := 81) rfl ?_); refine zbj (some 7) rfl rfl Try.func81 (by kernel_rfl) rfl #[.slice A0 l0.length c0] rfl (by (try simp only [List.map_toArray, List.map_cons, List.map_nil]); first | done | rfl | (simp only [List.length_drop, List.length_take]; rfl)) ?_; (with_reducible refine (spec_PlanIn.calls k _ _ l0 false _ ?side1 ?side2 A2.out).mono ?_); (case side1 => repeat (first | exact HR0.out | (with_reducible refine Kd.C_alloc ?_ _) | (with_reducible refine Kd.C_drewN ?_ _) | (with_reducible refine Kd.C_drew ?_))); (case side2 => exact HC0.out); rintro e w14 ⟨rfl, hb⟩; refine ⟨_, rfl, ?_⟩; have n0_ := zab.mk (zag (by repeat (first | (with_reducible first | exact HB.out | apply zac | apply zaa | apply zad) | exact HB.out)) hb); clear HB; have HB := n0_; clear n0_; (try clear hb); (try clear hb2); (try clear hk); (try clear hi)))
  go_ret2
  exact ⟨by first | rfl | (simp [zan, zam] <;> rfl) | (simp [*, zan, zam] <;> rfl), by repeat (first | (with_reducible first | exact HB.out | apply zac | apply zaa | apply zad) | exact HB.out)⟩
end Go.Proofs.Ytaepgogafkmooaa.PB
namespace Go.Proofs.Ytaepgogafkmooaa.PB
open Go.RowKit Go.PW.PrintWords Go.PW.PrintLast Go.PW.PrintMore
attribute [local go_sem] zca zby zcj zci zbp zbo zbz zbx   -- for this text's walks alone
def spec_l1Done.j0 : Nat → List ByteArray → Bool → Option (List ByteArray × Bool)
 | 0, _, _ => none
 | k + 1, x0, x12 => if x12 = true then ((spec_l1None.f).bind fun bt182 => (some (bt182.1, bt182.2))) else ((spec_l1Names.f k x0).bind fun t186 => (some (t186, true)))
def spec_l1Done.f (k : Nat) (l0 : List ByteArray) : Option (List ByteArray × Bool) := (spec_l1Grid.f k l0).bind fun t177 => (if t177 = true then ((spec_l1Names.f k l0).bind fun t178 => ((spec_PlanIn.f k t178).bind fun t181 => (spec_l1Done.j0 k l0 (!t181)))) else (spec_l1Done.j0 k l0 true))
set_option maxHeartbeats 8000000 in
set_option maxRecDepth 100000 in
theorem spec_l1Done.calls (k : Nat) (A0 : Option Addr) (c0 : Nat) (l0 : List ByteArray) (r1 : List ByteArray) (r2 : Bool) (w : World) (hr0 : Kd.C Kd.string w A0 l0.length l0) (hc0 : l0.length ≤ c0) (h : spec_l1Done.f k l0 = some (r1, r2)) :
  Calls Try.prog 76 #[.slice A0 l0.length c0] w fun e w' => ∃ v0_ : Value, e = .returned (.tuple #[v0_, .bool r2]) ∧ Kd.R Kd.string 9 w' w.heap.size (fun _ => True) v0_ r1 ∧ Below w.heap.size w w' := by
 have HR0 := zab.mk hr0
 have HC0 := zab.mk hc0
 clear hr0 hc0
 have HB := zab.mk (Below.refl w.heap.size w)
 have H : ((spec_l1Grid.f k l0).bind fun t177 => (if t177 = true then ((spec_l1Names.f k l0).bind fun t178 => ((spec_PlanIn.f k t178).bind fun t181 => (spec_l1Done.j0 k l0 (!t181)))) else (spec_l1Done.j0 k l0 true))) = some (r1, r2) := h
 clear h
 have HC2 := zab.mk H
 clear H
 go_enter Try.func76, Try.ntmps76
 go_upto_region 1 with (fail)
 go_cut [12] (fun v12 wc => ∃ (kq : Nat) (x12_1 : Bool), v12 = .bool x12_1 ∧ zab (spec_l1Done.j0 kq l0 x12_1 = some (r1, r2)) ∧ zab (kq ≤ k) ∧ zab (Below w.heap.size w wc))
 case first =>
  have H := HC2.out
  clear HC2
  replace H := Option.bind_eq_some_iff.mp H
  obtain ⟨t177, A30, H⟩ := H
  replace H : (if t177 = true then ((spec_l1Names.f k l0).bind fun t178 => ((spec_PlanIn.f k t178).bind fun t181 => (spec_l1Done.j0 k l0 (!t181)))) else (spec_l1Done.j0 k l0 true)) = some (r1, r2) := H
  have A3 := zab.mk A30
  clear A30
  by_cases c4 : t177 = true
  ·subst c4
   have H1 : ((spec_l1Names.f k l0).bind fun t178 => ((spec_PlanIn.f k t178).bind fun t181 => (spec_l1Done.j0 k l0 (!t181)))) = some (r1, r2) := by rw [if_pos rfl] at H; exact H
   clear H
   have H := H1
   clear H1
   replace H := Option.bind_eq_some_iff.mp H
   obtain ⟨t178, A50, H⟩ := H
   replace H : ((spec_PlanIn.f k t178).bind fun t181 => (spec_l1Done.j0 k l0 (!t181))) = some (r1, r2) := H
   have A5 := zab.mk A50
   clear A50
   replace H := Option.bind_eq_some_iff.mp H
   obtain ⟨t181, A60, H⟩ := H
   replace H : (spec_l1Done.j0 k l0 (!t181)) = some (r1, r2) := H
   have A6 := zab.mk A60
   clear A60
   have H' := zab.mk H
   clear H
   go_wp2_with (first | ((with_reducible refine zar (f := 121) rfl ?_); refine zbj (some 5) rfl rfl Try.func121 (by kernel_rfl) rfl #[.slice A0 l0.length c0] rfl (by (try simp only [List.map_toArray, List.map_cons, List.map_nil]); first | done | rfl | (simp only [List.length_drop, List.length_take]; rfl)) ?_; (with_reducible refine (spec_l1Grid.calls k _ _ l0 true _ ?side1 ?side2 A3.out).mono ?_); (case side1 => repeat (first | exact (Kd.C_below HR0.out HB.out) | (with_reducible refine Kd.C_alloc ?_ _) | (with_reducible refine Kd.C_drewN ?_ _) | (with_reducible refine Kd.C_drew ?_))); (case side2 => exact HC0.out); rintro e w' ⟨rfl, ⟨nd, rfl⟩⟩; refine ⟨_, rfl, ?_⟩) | (go_at_call 122; (with_reducible refine (spec_l1Names.calls k _ _ l0 t178 _ ?side1 ?side2 A5.out).mono ?_); (case side1 => repeat (first | exact (Kd.C_below HR0.out (by repeat (first | (with_reducible first | exact HB.out | apply zac | apply zaa | apply zad) | exact HB.out))) | (with_reducible refine Kd.C_alloc ?_ _) | (with_reducible refine Kd.C_drewN ?_ _) | (with_reducible refine Kd.C_drew ?_))); (case side2 => exact HC0.out); rintro e w7 ⟨v179, rfl, ho0, hb⟩; have n0_ := zab.mk (Kd.R_lower ho0 (zaj (by repeat (first | (with_reducible first | exact HB.out | apply zac | apply zaa | apply zad) | exact HB.out)))); have n1_ := zab.mk (zag (by repeat (first | (with_reducible first | exact HB.out | apply zac | apply zaa | apply zad) | exact HB.out)) hb); clear HB; have HO180 := n0_; have HB := n1_; clear n0_ n1_; (try clear hb); (try clear hb2); (try clear hk); (try clear hi); (try clear ho0); obtain ⟨Ao8, co8, eo8⟩ := Kd.R_slice HO180.out; subst eo8) | (go_at_call 81; (with_reducible refine (spec_PlanIn.calls k _ _ t178 t181 _ ?side1 ?side2 A6.out).mono ?_); (case side1 => repeat (first | exact (Kd.R_reads' HO180.out).2.2 | (with_reducible refine Kd.C_alloc ?_ _) | (with_reducible refine Kd.C_drewN ?_ _) | (with_reducible refine Kd.C_drew ?_))); (case side2 => exact (Kd.R_reads' HO180.out).2.1); rintro e w9 ⟨rfl, hb⟩; have n0_ := zab.mk (Kd.R_below (by (with_reducible repeat (first | apply Kd.R_alloc | apply Kd.R_drewN | apply Kd.R_drew)); exact HO180.out) hb); have n1_ := zab.mk (zag (by repeat (first | (with_reducible first | exact HB.out | apply zac | apply zaa | apply zad) | exact HB.out)) hb); clear HO180; clear HB; have HO180 := n0_; have HB := n1_; clear n0_ n1_; (try clear hb); (try clear hb2); (try clear hk); (try clear hi)))
   go_meet
   case rel => exact ⟨_, (!t181), (by first | rfl | (simp; done) | (simp [*]; done)), H', ⟨by first | omega | exact Nat.le_refl _⟩, ⟨by repeat (first | (with_reducible first | exact HB.out | apply zac | apply zaa | apply zad) | exact HB.out)⟩⟩
  ·replace c4 := Bool.eq_false_iff.mpr c4
   subst c4
   have H1 : (spec_l1Done.j0 k l0 true) = some (r1, r2) := by rw [if_neg (show ¬ (false = true) by decide)] at H; exact H
   clear H
   have H := H1
   clear H1
   have H' := zab.mk H
   clear H
   go_wp2_with (first | ((with_reducible refine zar (f := 121) rfl ?_); refine zbj (some 5) rfl rfl Try.func121 (by kernel_rfl) rfl #[.slice A0 l0.length c0] rfl (by (try simp only [List.map_toArray, List.map_cons, List.map_nil]); first | done | rfl | (simp only [List.length_drop, List.length_take]; rfl)) ?_; (with_reducible refine (spec_l1Grid.calls k _ _ l0 false _ ?side1 ?side2 A3.out).mono ?_); (case side1 => repeat (first | exact (Kd.C_below HR0.out HB.out) | (with_reducible refine Kd.C_alloc ?_ _) | (with_reducible refine Kd.C_drewN ?_ _) | (with_reducible refine Kd.C_drew ?_))); (case side2 => exact HC0.out); rintro e w' ⟨rfl, ⟨nd, rfl⟩⟩; refine ⟨_, rfl, ?_⟩))
   go_meet
   case rel => exact ⟨_, (true), (by first | rfl | (simp; done) | (simp [*]; done)), H', ⟨by first | omega | exact Nat.le_refl _⟩, ⟨by repeat (first | (with_reducible first | exact HB.out | apply zac | apply zaa | apply zad) | exact HB.out)⟩⟩
 case rest =>
  clear HC2
  try clear c1
  try clear p2
  try clear c4
  try clear c7
  obtain ⟨kq, x12_1, rfl, HA, HJ1, HB⟩ := hcut
  cases kq with
  | zero => exact absurd HA.out (by simp [spec_l1Done.j0])
  | succ kj1 =>
   have H := HA.out
   clear HA
   simp only [spec_l1Done.j0] at H
   by_cases c10 : x12_1 = true
   ·subst c10
    have H1 : ((spec_l1None.f).bind fun bt182 => (some (bt182.1, bt182.2))) = some (r1, r2) := by rw [if_pos rfl] at H; exact H
    clear H
    have H := H1
    clear H1
    replace H := Option.bind_eq_some_iff.mp H
    obtain ⟨⟨t182, t183⟩, A110, H⟩ := H
    replace H : (some (t182, t183)) = some (r1, r2) := H
    have A11 := zab.mk A110
    clear A110
    simp only [Option.some.injEq, Prod.mk.injEq] at H
    obtain ⟨rfl, rfl⟩ := H
    go_wp2_with (first | ((with_reducible refine zar (f := 74) rfl ?_); refine zbj (some 13) rfl rfl Try.func74 (by kernel_rfl) rfl #[] rfl (by (try simp only [List.map_toArray, List.map_cons, List.map_nil]); first | done | rfl | (simp only [List.length_drop, List.length_take]; rfl)) ?_; (with_reducible refine (spec_l1None.calls  t182 t183 _ A11.out).mono ?_); rintro e w12 ⟨v184, rfl, ho0, hb⟩; refine ⟨_, rfl, ?_⟩; have n0_ := zab.mk (Kd.R_lower ho0 (zaj (by repeat (first | (with_reducible first | exact HB.out | apply zac | apply zaa | apply zad) | exact HB.out)))); have n1_ := zab.mk (zag (by repeat (first | (with_reducible first | exact HB.out | apply zac | apply zaa | apply zad) | exact HB.out)) hb); clear HB; have HO185 := n0_; have HB := n1_; clear n0_ n1_; (try clear hb); (try clear hb2); (try clear hk); (try clear hi); (try clear ho0)))
    go_ret2
    exact ⟨_, by first | rfl | (simp [zan, zam] <;> rfl) | (simp [*, zan, zam] <;> rfl), by (with_reducible repeat (first | apply Kd.R_alloc | apply Kd.R_drewN | apply Kd.R_drew)); exact HO185.out, by repeat (first | (with_reducible first | exact HB.out | apply zac | apply zaa | apply zad) | exact HB.out)⟩
   ·replace c10 := Bool.eq_false_iff.mpr c10
    subst c10
    have H1 : ((spec_l1Names.f kj1 l0).bind fun t186 => (some (t186, true))) = some (r1, r2) := by rw [if_neg (show ¬ (false = true) by decide)] at H; exact H
    clear H
    have H := H1
    clear H1
    replace H := Option.bind_eq_some_iff.mp H
    obtain ⟨t186, A130, H⟩ := H
    replace H : (some (t186, true)) = some (r1, r2) := H
    have A13 := zab.mk A130
    clear A130
    simp only [Option.some.injEq, Prod.mk.injEq] at H
    obtain ⟨rfl, rfl⟩ := H
    go_wp2_with (first | ((with_reducible refine zar (f := 122) rfl ?_); refine zbj (some 17) rfl rfl Try.func122 (by kernel_rfl) rfl #[.slice A0 l0.length c0] rfl (by (try simp only [List.map_toArray, List.map_cons, List.map_nil]); first | done | rfl | (simp only [List.length_drop, List.length_take]; rfl)) ?_; (with_reducible refine (spec_l1Names.calls kj1 _ _ l0 t186 _ ?side1 ?side2 A13.out).mono ?_); (case side1 => repeat (first | exact (Kd.C_below HR0.out HB.out) | (with_reducible refine Kd.C_alloc ?_ _) | (with_reducible refine Kd.C_drewN ?_ _) | (with_reducible refine Kd.C_drew ?_))); (case side2 => exact HC0.out); rintro e w14 ⟨v187, rfl, ho0, hb⟩; refine ⟨_, rfl, ?_⟩; have n0_ := zab.mk (Kd.R_lower ho0 (zaj (by repeat (first | (with_reducible first | exact HB.out | apply zac | apply zaa | apply zad) | exact HB.out)))); have n1_ := zab.mk (zag (by repeat (first | (with_reducible first | exact HB.out | apply zac | apply zaa | apply zad) | exact HB.out)) hb); clear HB; have HO188 := n0_; have HB := n1_; clear n0_ n1_; (try clear hb); (try clear hb2); (try clear hk); (try clear hi); (try clear ho0)))
    go_ret2
    exact ⟨_, by first | rfl | (simp [zan, zam] <;> rfl) | (simp [*, zan, zam] <;> rfl), by (with_reducible repeat (first | apply Kd.R_alloc | apply Kd.R_drewN | apply Kd.R_drew)); exact HO188.out, by repeat (first | (with_reducible first | exact HB.out | apply zac | apply zaa | apply zad) | exact HB.out)⟩
def spec_l6Rd_of.f (k : Nat) (s0_0 : List Int) (s0_1 : Int) (l1 : List ByteArray) : Option (ByteArray × Int) := (spec_l6Rd_pick.f k s0_0 s0_1 (l1.length : Int)).bind fun bt206 => (if 0 ≤ bt206.1 then (if bt206.1 < (l1.length : Int) then (some (rdOf ByteArray.empty l1 bt206.1, bt206.2)) else (none)) else (none))
set_option maxHeartbeats 8000000 in
set_option maxRecDepth 100000 in
theorem spec_l6Rd_of.calls (k : Nat) (g : Nat) (s0_0 : List Int) (s0_1 : Int) (A1 : Option Addr) (c1 : Nat) (l1 : List ByteArray) (r1 : ByteArray) (r2 : Int) (w0 w : World) (hI : zae w0 w g s0_0 s0_1) (hB : Below w0.heap.size w0 w) (hr1 : Kd.C Kd.string w A1 l1.length l1) (hc1 : l1.length ≤ c1) (hf1 : ∀ ad, A1 = some ad → 0 < l1.length → ad.block ≠ g) (h : spec_l6Rd_of.f k s0_0 s0_1 l1 = some (r1, r2)) :
  Calls Try.prog 148 #[.pointer (some ⟨g, 0, none⟩), .slice A1 l1.length c1] w fun e w' => e = .returned (.string r1) ∧ zae w0 w' g s0_0 r2 ∧ Below w0.heap.size w0 w' ∧ zaf w w' g none := by
 have HR1 := zab.mk hr1
 have HC1 := zab.mk hc1
 clear hr1 hc1
 have HI0 := zab.mk hI
 have HK := zab.mk (zaf.refl w g none)
 have HL := zab.mk hB.size
 clear hI
 have HW0 := zab.mk hB.size
 have HB := zab.mk hB
 clear hB
 have H : ((spec_l6Rd_pick.f k s0_0 s0_1 (l1.length : Int)).bind fun bt206 => (if 0 ≤ bt206.1 then (if bt206.1 < (l1.length : Int) then (some (rdOf ByteArray.empty l1 bt206.1, bt206.2)) else (none)) else (none))) = some (r1, r2) := h
 clear h
 replace H := Option.bind_eq_some_iff.mp H
 obtain ⟨⟨t206, t207⟩, A30, H⟩ := H
 replace H : (if 0 ≤ t206 then (if t206 < (l1.length : Int) then (some (rdOf ByteArray.empty l1 t206, t207)) else (none)) else (none)) = some (r1, r2) := H
 have A3 := zab.mk A30
 clear A30
 by_cases c4 : 0 ≤ t206
 ·rw [if_pos c4] at H
  have c4b0 : decide (0 ≤ t206) = true := decide_eq_true c4
  clear c4
  by_cases c5 : t206 < (l1.length : Int)
  ·rw [if_pos c5] at H
   have c5b0 : decide (t206 < (l1.length : Int)) = true := decide_eq_true c5
   clear c5
   simp only [Option.some.injEq, Prod.mk.injEq] at H
   obtain ⟨rfl, rfl⟩ := H
   go_enter Try.func148, Try.ntmps148
   go_wp2_with (first | ((with_reducible refine zar (f := 63) rfl ?_); refine zbj (some 9) rfl rfl Try.func63 (by kernel_rfl) rfl #[.pointer (some ⟨g, 0, none⟩), .int .i64 (l1.length : Int)] rfl (by (try simp only [List.map_toArray, List.map_cons, List.map_nil]); first | done | rfl | (simp only [List.length_drop, List.length_take]; rfl)) ?_; (with_reducible refine (spec_l6Rd_pick.calls k g s0_0 s0_1 (l1.length : Int) t206 t207 w0 _ ?side1 ?side2 A3.out).mono ?_); (case side1 => repeat (first | (with_reducible first | exact HI0.out | apply zae.alloc | apply zae.drewN | apply zae.drew | apply zae.set_1) | exact HI0.out)); (case side2 => repeat (first | (with_reducible first | exact HB.out | apply zac | apply zaa | apply zad | refine zak ?_ (zae.ge HI0.out)) | exact HB.out)); rintro e w6 ⟨rfl, hi, hb, hk⟩; refine ⟨_, rfl, ?_⟩; have n0_ := zab.mk (zaf.trans (by repeat (first | (with_reducible first | exact HK.out | apply zaf.set_ | apply zah | apply zal | apply zai) | exact HK.out)) hk (.inl rfl)); have n1_ := zab.mk (hb); have n2_ := zab.mk (hi); clear HK; clear HB; clear HI0; have HK := n0_; have HB := n1_; have HI0 := n2_; clear n0_ n1_ n2_; (try clear hb); (try clear hb2); (try clear hk); (try clear hi); have p208 : 0 ≤ (t206 : Int) := of_decide_eq_true (by first | (with_reducible assumption) | assumption); have q208 : t206 < (l1.length : Int) := of_decide_eq_true (by first | (with_reducible assumption) | assumption); obtain ⟨ad208, e208, hx208_0⟩ := Kd.at_string HR1.out t206 p208 q208; cases e208; first | (replace hx208_0 := zau HB.out hx208_0) | (replace hx208_0 := keep_cell HK.out hx208_0 (by first | (rw [add_block]; exact hf1 _ rfl (by omega)) | exact hf1 _ rfl (by omega) | exact hf1 ad208 rfl (by omega))); replace p208 := eq_true p208; replace q208 := eq_true q208))
   go_ret
   exact ⟨by first | rfl | (simp [zan, zam] <;> rfl) | (simp [*, zan, zam] <;> rfl), by repeat (first | (with_reducible first | exact HI0.out | apply zae.alloc | apply zae.drewN | apply zae.drew | apply zae.set_1) | exact HI0.out), by repeat (first | (with_reducible first | exact HB.out | apply zac | apply zaa | apply zad | refine zak ?_ (zae.ge HI0.out)) | exact HB.out), by repeat (first | (with_reducible first | exact HK.out | apply zaf.set_ | apply zah | apply zal | apply zai) | exact HK.out)⟩
  ·rw [if_neg c5] at H
   exact absurd H (by simp)
 ·rw [if_neg c4] at H
  exact absurd H (by simp)
mutual
def spec_l91Empty.l0 : Nat → Int → Int → List ByteArray → Int → Option (List ByteArray)
 | 0, _, _, _, _ => none
 | k + 1, x0, x1, x5, x6 => if x6 < x0 then (spec_l91Empty.l1 k x0 x1 x5 x6 (([] : List Int)) 0) else (some x5)
def spec_l91Empty.l1 : Nat → Int → Int → List ByteArray → Int → List Int → Int → Option (List ByteArray)
 | 0, _, _, _, _, _, _ => none
 | k + 1, x0, x1, x5, x6, x7, x8 => if x8 < x1 then (if x7.length < 140737488355328 then (spec_l91Empty.l1 k x0 x1 x5 x6 (x7 ++ [97]) (wrap64 (x8 + 1))) else (none)) else (if x5.length < 8796093022208 then (spec_l91Empty.l0 k x0 x1 (x5 ++ [strOfNums x7]) (wrap64 (x6 + 1))) else (none))
end
def spec_l91Empty.f (k : Nat) (a0 : Int) (a1 : Int) : Option (List ByteArray) := spec_l91Empty.l0 k a0 a1 (([] : List ByteArray)) 0
set_option maxHeartbeats 8000000 in
set_option maxRecDepth 100000 in
theorem spec_l91Empty.calls (k : Nat) (a0 : Int) (a1 : Int) (r : List ByteArray) (w : World) (h : spec_l91Empty.f k a0 a1 = some r) :
  Calls Try.prog 135 #[.int .i64 a0, .int .i64 a1] w fun e w' => ∃ v0_ : Value, e = .returned (v0_) ∧ Kd.R Kd.string 9 w' w.heap.size (fun _ => True) v0_ r ∧ Below w.heap.size w w' := by
 have HB := zab.mk (Below.refl w.heap.size w)
 have H : (spec_l91Empty.l0 k a0 a1 (([] : List ByteArray)) 0) = some r := h
 clear h
 obtain ⟨y219, hy219⟩ : ∃ y_ : List ByteArray, y_ = (([] : List ByteArray)) := ⟨_, rfl⟩
 replace H : (spec_l91Empty.l0 k a0 a1 y219 0) = some r := by first | (rw [hy219]; with_reducible exact H) | (have H2_ := (Option.bind_some _ _).symm.trans H; rw [hy219]; with_reducible exact H2_) | (have H2_ := (Option.bind_some _ _).symm.trans H; with_reducible exact H2_) | with_reducible exact H | (rw [hy219]; exact H) | exact H
 have Ny219 := zab.mk hy219
 clear hy219
 have H' := zab.mk H
 clear H
 go_enter Try.func135, Try.ntmps135
 go_wp2_with (first | ((with_reducible refine zay (N := 9) rfl ?_); refine Kd.R_lit Kd.string _ 9 ?hg (N := 9) ?hd (xs := ([] : List ByteArray)) (inner := []) (ok := fun _ => True) (okp := fun _ => True) ?hr ?hp (fun _ hk => hk) trivial (Below.refl _ _) (Nat.le_refl _) (by simp) ?_; (case hd => rfl); (case hg => rfl); (case hr => first | (go_simp; done) | (go_simp; rfl)); (case hp => exact (Reps.none _ _)); intro v220 w3 ho4 hb hg_ hnew_; clear hg_ hnew_; (first | rw [← Ny219.out] at ho4 | (simp only [Int.reduceToNat] at ho4; rw [← Ny219.out] at ho4)); have n0_ := zab.mk (Kd.R_lower ho4 (zaj (by repeat (first | (with_reducible first | exact HB.out | apply zac | apply zaa | apply zad) | exact HB.out)))); have n1_ := zab.mk (zag (by repeat (first | (with_reducible first | exact HB.out | apply zac | apply zaa | apply zad) | exact HB.out)) hb); clear HB; have HO221 := n0_; have HB := n1_; clear n0_ n1_; clear hb ho4))
 go_loopg [5, 6] k (fun kq v5 v6 w' => ∃ (x5_1 : List ByteArray) (x6_1 : Int), v6 = .int .i64 x6_1 ∧ zab (spec_l91Empty.l0 kq a0 a1 x5_1 x6_1 = some r) ∧ zab (kq ≤ k) ∧ zab (Kd.R Kd.string 9 w' w.heap.size (fun _ => True) v5 x5_1) ∧ zab (Below w.heap.size w w'))
 case atStart => exact ⟨(y219), (0), (by first | rfl | (simp; done) | (simp [*]; done)), H', ⟨Nat.le_refl _⟩, ⟨by (with_reducible repeat (first | apply Kd.R_alloc | apply Kd.R_drewN | apply Kd.R_drew)); exact HO221.out⟩, ⟨by repeat (first | (with_reducible first | exact HB.out | apply zac | apply zaa | apply zad) | exact HB.out)⟩⟩
 case round =>
  clear H'
  try clear c1
  try clear p2
  obtain ⟨x5_1, x6_1, rfl, HA, HK1, HO_5, HB⟩ := hrel
  cases gk with
  | zero => exact absurd HA.out (by simp [spec_l91Empty.l0])
  | succ k1 =>
   have H := HA.out
   clear HA
   simp only [spec_l91Empty.l0] at H
   by_cases c5 : x6_1 < a0
   ·rw [if_pos c5] at H
    have c5b0 : decide (x6_1 < a0) = true := decide_eq_true c5
    clear c5
    obtain ⟨y222, hy222⟩ : ∃ y_ : List Int, y_ = (([] : List Int)) := ⟨_, rfl⟩
    replace H : (spec_l91Empty.l1 k1 a0 a1 x5_1 x6_1 y222 0) = some r := by first | (rw [hy222]; with_reducible exact H) | (have H2_ := (Option.bind_some _ _).symm.trans H; rw [hy222]; with_reducible exact H2_) | (have H2_ := (Option.bind_some _ _).symm.trans H; with_reducible exact H2_) | with_reducible exact H | (rw [hy222]; exact H) | exact H
    have Ny222 := zab.mk hy222
    clear hy222
    have H' := zab.mk H
    clear H
    go_wp2_with (first | ((with_reducible refine zay (N := 15) rfl ?_); refine Kd.R_lit (Kd.int .u8) _ 5 ?hg (N := 15) ?hd (xs := ([] : List Int)) (inner := []) (ok := fun _ => True) (okp := fun _ => True) ?hr ?hp (fun _ hk => hk) trivial (Below.refl _ _) (Nat.le_refl _) (by simp) ?_; (case hd => rfl); (case hg => rfl); (case hr => first | (go_simp; done) | (go_simp; rfl)); (case hp => exact (Reps.none _ _)); intro v223 w6 ho7 hb hg_ hnew_; clear hg_ hnew_; (first | rw [← Ny222.out] at ho7 | (simp only [Int.reduceToNat] at ho7; rw [← Ny222.out] at ho7)); have n0_ := zab.mk (Kd.R_below (by (with_reducible repeat (first | apply Kd.R_alloc | apply Kd.R_drewN | apply Kd.R_drew)); exact HO_5.out) hb); have n1_ := zab.mk (Kd.R_lower ho7 (zaj (by repeat (first | (with_reducible first | exact HB.out | apply zac | apply zaa | apply zad) | exact HB.out)))); have n2_ := zab.mk (zag (by repeat (first | (with_reducible first | exact HB.out | apply zac | apply zaa | apply zad) | exact HB.out)) hb); clear HO_5; clear HB; have HO_5 := n0_; have HO224 := n1_; have HB := n2_; clear n0_ n1_ n2_; clear hb ho7))
    go_loopg [7, 8] k1 (fun kq v7 v8 w' => ∃ (x7_2 : List Int) (x8_2 : Int), v8 = .int .i64 x8_2 ∧ zab (spec_l91Empty.l1 kq a0 a1 x5_1 x6_1 x7_2 x8_2 = some r) ∧ zab (kq ≤ k1) ∧ zab (Kd.R Kd.string 9 w' w.heap.size (fun _ => True) u5 x5_1) ∧ zab (Kd.R (Kd.int .u8) 5 w' w.heap.size (fun _ => True) v7 x7_2) ∧ zab (Below w.heap.size w w'))
    case atStart => exact ⟨(y222), (0), (by first | rfl | (simp; done) | (simp [*]; done)), H', ⟨Nat.le_refl _⟩, ⟨by (with_reducible repeat (first | apply Kd.R_alloc | apply Kd.R_drewN | apply Kd.R_drew)); exact HO_5.out⟩, ⟨by (with_reducible repeat (first | apply Kd.R_alloc | apply Kd.R_drewN | apply Kd.R_drew)); exact HO224.out⟩, ⟨by repeat (first | (with_reducible first | exact HB.out | apply zac | apply zaa | apply zad) | exact HB.out)⟩⟩
    case round =>
     clear H'
     try clear c1
     try clear p2
     try clear c5
     try clear c5b0
     try clear p2
     obtain ⟨x7_2, x8_2, rfl, HA, HK2, HO_5, HO_7, HB⟩ := hrel
     cases gk with
     | zero => exact absurd HA.out (by simp [spec_l91Empty.l1])
     | succ k2 =>
      have H := HA.out
      clear HA
      simp only [spec_l91Empty.l1] at H
      by_cases c8 : x8_2 < a1
      ·rw [if_pos c8] at H
       have c8b0 : decide (x8_2 < a1) = true := decide_eq_true c8
       clear c8
       by_cases c9 : x7_2.length < 140737488355328
       ·rw [if_pos c9] at H
        have LMc9 := zab.mk c9
        clear c9
        obtain ⟨y225, hy225⟩ : ∃ y_ : List Int, y_ = (x7_2 ++ [97]) := ⟨_, rfl⟩
        replace H : (spec_l91Empty.l1 k2 a0 a1 x5_1 x6_1 y225 (wrap64 (x8_2 + 1))) = some r := by first | (rw [hy225]; with_reducible exact H) | (have H2_ := (Option.bind_some _ _).symm.trans H; rw [hy225]; with_reducible exact H2_) | (have H2_ := (Option.bind_some _ _).symm.trans H; with_reducible exact H2_) | with_reducible exact H | (rw [hy225]; exact H) | exact H
        have Ny225 := zab.mk hy225
        clear hy225
        have H' := zab.mk H
        clear H
        go_wp2_with (first | ((with_reducible refine zax (b := .append) (xs := #[.tmp 21, .tmp 22]) rfl ?_); at_builtin; refine Kd.R_append (Kd.int .u8) (w0 := w) w.heap.size rfl (.tmp 21) (.tmp 22) 22 5 (.int .u8 0) 1 rfl Try.underlying22 info5 rfl (by decide) (by omega) u7 x7_2 97 [.int .u8 97] (fun _ => True) (fun _ => False) rfl rfl ?aP (fun _ hk => hk.elim) ?aF ?aO ?aB ?aS ?aL ?_; (case aP => exact rfl); (case aB => exact (by repeat (first | (with_reducible first | exact HB.out | apply zac | apply zaa | apply zad) | exact HB.out))); (case aF => exact (fun _ _ => trivial)); (case aO => exact (by (with_reducible repeat (first | apply Kd.R_alloc | apply Kd.R_drewN | apply Kd.R_drew)); exact HO_7.out)); (case aS => exact (zaj (by repeat (first | (with_reducible first | exact HB.out | apply zac | apply zaa | apply zad) | exact HB.out)))); (case aL => have := LMc9.out; omega); intro v226 w10 ho hb hg hat; rw [← Ny225.out] at ho; have n0_ := zab.mk (Kd.R_over' (by (with_reducible repeat (first | apply Kd.R_alloc | apply Kd.R_drewN | apply Kd.R_drew)); exact HO_5.out) (Kd.R_typed (by (with_reducible repeat (first | apply Kd.R_alloc | apply Kd.R_drewN | apply Kd.R_drew)); exact HO_7.out)) (by decide) hg); have n1_ := zab.mk (hb); have n2_ := zab.mk (ho); clear HO_5; clear HB; clear HO_7; have HO_5 := n0_; have HB := n1_; have HO227 := n2_; clear n0_ n1_ n2_; clear ho hb hg hat))
        go_roundg k2
        case measure => have := HK1.out; have := HK2.out; omega
        case rel => exact ⟨(y225), (wrap64 (x8_2 + 1)), (by first | rfl | (simp; done) | (simp [*]; done)), H', ⟨by have := HK1.out; have := HK2.out; omega⟩, ⟨by (with_reducible repeat (first | apply Kd.R_alloc | apply Kd.R_drewN | apply Kd.R_drew)); exact HO_5.out⟩, ⟨by (with_reducible repeat (first | apply Kd.R_alloc | apply Kd.R_drewN | apply Kd.R_drew)); exact HO227.out⟩, ⟨by repeat (first | (with_reducible first | exact HB.out | apply zac | apply zaa | apply zad) | exact HB.out)⟩⟩
       ·rw [if_neg c9] at H
        exact absurd H (by simp)
      ·rw [if_neg c8] at H
       have c8b0 : decide (x8_2 < a1) = false := decide_eq_false c8
       clear c8
       by_cases c11 : x5_1.length < 8796093022208
       ·rw [if_pos c11] at H
        have LMc11 := zab.mk c11
        clear c11
        obtain ⟨y228, hy228⟩ : ∃ y_ : List ByteArray, y_ = (x5_1 ++ [strOfNums x7_2]) := ⟨_, rfl⟩
        replace H : (spec_l91Empty.l0 k2 a0 a1 y228 (wrap64 (x6_1 + 1))) = some r := by first | (rw [hy228]; with_reducible exact H) | (have H2_ := (Option.bind_some _ _).symm.trans H; rw [hy228]; with_reducible exact H2_) | (have H2_ := (Option.bind_some _ _).symm.trans H; with_reducible exact H2_) | with_reducible exact H | (rw [hy228]; exact H) | exact H
        have Ny228 := zab.mk hy228
        clear hy228
        have H' := zab.mk H
        clear H
        have hcv12 := own_string (P := Try.prog) Try.underlying22 Try.underlying5 Try.underlying9 (Kd.own_of_R HO_7.out)
        go_wp2_with (first | ((with_reducible refine zax (b := .append) (xs := #[.tmp 24, .tmp 27]) rfl ?_); at_builtin; refine Kd.R_append Kd.string (w0 := w) w.heap.size rfl (.tmp 24) (.tmp 27) 23 9 (.string ⟨#[]⟩) 16 rfl Try.underlying23 info9 rfl (by decide) (by omega) u5 x5_1 (strOfNums x7_2) [.string (strOfNums x7_2)] (fun _ => True) (fun _ => False) rfl rfl ?aP (fun _ hk => hk.elim) ?aF ?aO ?aB ?aS ?aL ?_; (case aP => exact rfl); (case aB => exact (by repeat (first | (with_reducible first | exact HB.out | apply zac | apply zaa | apply zad) | exact HB.out))); (case aF => exact (fun _ _ => trivial)); (case aO => exact (by (with_reducible repeat (first | apply Kd.R_alloc | apply Kd.R_drewN | apply Kd.R_drew)); exact HO_5.out)); (case aS => exact (zaj (by repeat (first | (with_reducible first | exact HB.out | apply zac | apply zaa | apply zad) | exact HB.out)))); (case aL => have := LMc11.out; omega); intro v229 w13 ho hb hg hat; rw [← Ny228.out] at ho; have n0_ := zab.mk (Kd.R_over' (by (with_reducible repeat (first | apply Kd.R_alloc | apply Kd.R_drewN | apply Kd.R_drew)); exact HO_7.out) (Kd.R_typed (by (with_reducible repeat (first | apply Kd.R_alloc | apply Kd.R_drewN | apply Kd.R_drew)); exact HO_5.out)) (by decide) hg); have n1_ := zab.mk (hb); have n2_ := zab.mk (ho); clear HO_7; clear HB; clear HO_5; have HO_7 := n0_; have HB := n1_; have HO230 := n2_; clear n0_ n1_ n2_; clear ho hb hg hat))
        go_roundg k2
        case measure => have := HK1.out; have := HK2.out; omega
        case rel => exact ⟨(y228), (wrap64 (x6_1 + 1)), (by first | rfl | (simp; done) | (simp [*]; done)), H', ⟨by have := HK1.out; have := HK2.out; omega⟩, ⟨by (with_reducible repeat (first | apply Kd.R_alloc | apply Kd.R_drewN | apply Kd.R_drew)); exact HO230.out⟩, ⟨by repeat (first | (with_reducible first | exact HB.out | apply zac | apply zaa | apply zad) | exact HB.out)⟩⟩
       ·rw [if_neg c11] at H
        exact absurd H (by simp)
   ·rw [if_neg c5] at H
    have c5b0 : decide (x6_1 < a0) = false := decide_eq_false c5
    clear c5
    obtain rfl := Option.some.inj H
    go_wp2
    go_ret
    exact ⟨_, by first | rfl | (simp [zan, zam] <;> rfl) | (simp [*, zan, zam] <;> rfl), by (with_reducible repeat (first | apply Kd.R_alloc | apply Kd.R_drewN | apply Kd.R_drew)); exact HO_5.out, by repeat (first | (with_reducible first | exact HB.out | apply zac | apply zaa | apply zad) | exact HB.out)⟩
end Go.Proofs.Ytaepgogafkmooaa.PB
namespace Go.Proofs.Ytaepgogafkmooaa.PC
open Go.RowKit Go.PW.PrintWords Go.PW.PrintLast Go.PW.PrintMore
attribute [local go_sem] zca zby zcj zci zbp zbo zbz zbx   -- for this text's walks alone
def errW : Option Int → Value
 | none => .nilIface
 | some c => .iface 0 (.int .i64 c)
theorem zan : errW none = .nilIface := rfl
theorem zam (c : Int) : errW (some c) = .iface 0 (.int .i64 c) := rfl
end Go.Proofs.Ytaepgogafkmooaa.PC
