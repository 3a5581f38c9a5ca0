/- Part 3 of the proof of FnSides: what the program's functions and the reference's compute. -/
import Derived.Test.YtaepgogafkmooaaCPLDb
set_option linter.unusedSimpArgs false
set_option linter.unusedVariables false
open Bool renaming true → zt, false → zf
open List renaming setIfInBounds_toArray → yan, set_cons_zero → yao, set_cons_succ → yap, map_toArray → yaq, map_cons → yar, map_nil → yas, length_take → yat, length_drop → yau
open ByteArray renaming empty → yav
open Option renaming bind_eq_some_iff → yaw, bind_some → yax
open Nat renaming le_refl → yay
open Go.PW.PrintWords.Kd renaming R_alloc → yaz, R_drewN → yba, R_drew → ybb, C_alloc → ybc, C_drewN → ybd, C_drew → ybe
namespace Go.Proofs.Ytaepgogafkmooaa.PB
open Go.RowKit Go.PW.PrintWords Go.PW.PrintLast Go.PW.PrintMore
attribute [local go_sem] zcb zbz max_two min_two zbs zbr zca zby   -- for this text's walks alone
mutual
def spec_l1Grid.l0 : Nat → List ByteArray → Int → Option (Bool)
 | 0, _, _ => none
 | k + 1, x0, x3 => if x3 < (x0.length : Int) then (if 0 ≤ x3 then (if 0 < (x0.length : Int) then (if ((rdOf yav x0 x3).size : Int) = ((rdOf yav x0 0).size : Int) then ((spec_l6In.f ((rdOf yav x0 x3).size : Int) 1 6).bind fun t116 => (spec_l1Grid.j1 k x0 x3 (!t116))) else (spec_l1Grid.j1 k x0 x3 true)) else (none)) else (none)) else ((spec_l6In.f (x0.length : Int) 1 6).bind fun t112 => (some t112))
def spec_l1Grid.j1 : Nat → List ByteArray → Int → Bool → Option (Bool)
 | 0, _, _, _ => none
 | k + 1, x0, x3, x29 => if x29 = true then (some false) else (spec_l1Grid.l1 k x0 x3 0)
def spec_l1Grid.l1 : Nat → List ByteArray → Int → Int → Option (Bool)
 | 0, _, _, _ => none
 | k + 1, x0, x3, x4 => if 0 ≤ x3 then (if x3 < (x0.length : Int) then (if x4 < ((rdOf yav x0 x3).size : Int) then (if 0 ≤ x4 then (if (bt (rdOf yav x0 x3) x4) < 97 then (some false) else (if (bt (rdOf yav x0 x3) x4) > 122 then (some false) else (spec_l1Grid.l1 k x0 x3 (wrap64 (x4 + 1))))) else (none)) else (spec_l1Grid.l0 k x0 (wrap64 (x3 + 1)))) else (none)) else (none)
end
def spec_l1Grid.f (k : Nat) (l0 : List ByteArray) : Option (Bool) := spec_l1Grid.l0 k l0 0
set_option maxHeartbeats 8000000 in
set_option maxRecDepth 100000 in
theorem spec_l1Grid.calls (k : Nat) (A0 : Option Addr) (c0 : Nat) (l0 : List ByteArray) (r : Bool) (w : World) (hr0 : Kd.C Kd.string w A0 l0.length l0) (hc0 : l0.length ≤ c0) (h : spec_l1Grid.f k l0 = some r) :
  Calls Try.prog 121 #[.slice A0 l0.length c0] w fun e w' => e = .returned (.bool r) ∧ zbe w w' := by
 have HR0 := zaa.mk hr0
 have HC0 := zaa.mk hc0
 clear hr0 hc0
 have H : (spec_l1Grid.l0 k l0 0) = some r := h
 clear h
 have H' := zaa.mk H
 clear H
 go_enter Try.func121, Try.ntmps121
 go_wp2
 repeat (go_quiet (fail); try go_wp2)
 go_loopg [3] k (fun kq v3 w' => ∃ (x3_1 : Int), v3 = .int .i64 x3_1 ∧ zaa (spec_l1Grid.l0 kq l0 x3_1 = some r) ∧ zaa (kq ≤ k) ∧ zbe w w')
 case atStart => exact ⟨(0), (by first | rfl | (simp; done) | (simp [*]; done)), H', ⟨yay _⟩, by repeat (first | exact zbe.refl _ | apply zbe.step)⟩
 case round =>
  clear H'
  try clear c1
  obtain ⟨x3_1, rfl, HA, HK1, ⟨m1, rfl⟩⟩ := hrel
  cases gk with
  | zero => exact absurd HA.out (by simp [spec_l1Grid.l0])
  | succ k1 =>
   have H := HA.out
   clear HA
   simp only [spec_l1Grid.l0] at H
   by_cases c2 : x3_1 < (l0.length : Int)
   ·rw [if_pos c2] at H
    have c2b0 : decide (x3_1 < (l0.length : Int)) = true := decide_eq_true c2
    clear c2
    have HC3 := zaa.mk H
    clear H
    go_upto_region 4 with (fail)
    repeat (go_quiet (fail); go_upto_region 4 with (fail))
    go_cut [29] (fun v29 wc => ∃ (kq : Nat) (x29_2 : Bool), v29 = .bool x29_2 ∧ zaa (spec_l1Grid.j1 kq l0 x3_1 x29_2 = some r) ∧ zaa (kq ≤ k1) ∧ zbe w wc)
    case first =>
     have H := HC3.out
     clear HC3
     by_cases c4 : 0 ≤ x3_1
     ·rw [if_pos c4] at H
      have c4b0 : decide (0 ≤ x3_1) = true := decide_eq_true c4
      clear c4
      (first | rw [c4b0] | (simp only [zar, zas]; rw [c4b0]) | skip)
      by_cases c5 : 0 < (l0.length : Int)
      ·rw [if_pos c5] at H
       have c5b0 : decide (0 < (l0.length : Int)) = true := decide_eq_true c5
       have c5b1 : decide (0 < l0.length) = true := decide_eq_true (by omega)
       clear c5
       by_cases c6 : ((rdOf yav l0 x3_1).size : Int) = ((rdOf yav l0 0).size : Int)
       ·rw [if_pos c6] at H
        have c6b0 : (((rdOf yav l0 x3_1).size : Int) == ((rdOf yav l0 0).size : Int)) = true := beq_iff_eq.mpr c6
        have c6b1 : (((rdOf yav l0 x3_1).size : Int) != ((rdOf yav l0 0).size : Int)) = false := bne_eq_false_iff_eq.mpr c6
        have c6b2 : ((rdOf yav l0 x3_1).size == (rdOf yav l0 0).size) = true := by first | simpa using c6 | (simp at c6 ⊢; omega)
        clear c6
        replace H := yaw.mp H
        obtain ⟨t116, A70, H⟩ := H
        replace H : (spec_l1Grid.j1 k1 l0 x3_1 (!t116)) = some r := H
        have A7 := zaa.mk A70
        clear A70
        have H' := zaa.mk H
        clear H
        have p113 : 0 ≤ (x3_1 : Int) := of_decide_eq_true (by assumption)
        have q113 : x3_1 < (l0.length : Int) := of_decide_eq_true (by assumption)
        obtain ⟨ad113, e113, hx113_0⟩ := Kd.at_string HR0.out x3_1 p113 q113
        cases e113
        replace p113 := eq_true p113
        replace q113 := eq_true q113
        have p114 : 0 ≤ (0 : Int) := (by omega)
        have q114 : 0 < (l0.length : Int) := of_decide_eq_true (by assumption)
        obtain ⟨ad114, e114, hx114_0⟩ := Kd.at_string HR0.out 0 p114 q114
        obtain rfl : ad113 = ad114 := (by injection e114)
        have qi114 : (0 < l0.length) = True := eq_true (by omega)
        (try rw [show ((0 : Int)).toNat = 0 from rfl] at hx114_0)
        (try rw [Addr.add_zero'] at hx114_0)
        replace p114 := eq_true p114
        replace q114 := eq_true q114
        have p115 : 0 ≤ (x3_1 : Int) := of_decide_eq_true (by assumption)
        have q115 : x3_1 < (l0.length : Int) := of_decide_eq_true (by assumption)
        obtain ⟨ad115, e115, hx115_0⟩ := Kd.at_string HR0.out x3_1 p115 q115
        obtain rfl : ad113 = ad115 := (by injection e115)
        replace p115 := eq_true p115
        replace q115 := eq_true q115
        go_wp2_with (fail)
        repeat (go_quiet (first | (go_at_call 91; (with_reducible refine (spec_l6In.calls ((rdOf yav l0 x3_1).size : Int) 1 6 t116 _ A7.out).mono ?_); rintro e w' ⟨rfl, ⟨nd, rfl⟩⟩; (try first | exact ⟨rfl, _, World.drewN_drewN _ _ _⟩ | exact ⟨rfl, _, Eq.trans (World.drewN_drewN _ _ _) (congrArg (World.drewN _) (Nat.add_assoc _ _ _))⟩))); try go_wp2_with (fail))
        go_meet
        case rel => exact ⟨_, (!t116), (by first | rfl | (simp; done) | (simp [*]; done)), H', ⟨by have := HK1.out; first | omega | exact yay _⟩, by repeat (first | exact zbe.refl _ | apply zbe.step)⟩
       ·rw [if_neg c6] at H
        have c6b0 : (((rdOf yav l0 x3_1).size : Int) == ((rdOf yav l0 0).size : Int)) = false := beq_eq_false_iff_ne.mpr c6
        have c6b1 : (((rdOf yav l0 x3_1).size : Int) != ((rdOf yav l0 0).size : Int)) = true := bne_iff_ne.mpr c6
        have c6b2 : ((rdOf yav l0 x3_1).size == (rdOf yav l0 0).size) = false := by first | simpa using c6 | (simp at c6 ⊢; omega)
        have H' := zaa.mk H
        clear H
        have p113 : 0 ≤ (x3_1 : Int) := of_decide_eq_true (by assumption)
        have q113 : x3_1 < (l0.length : Int) := of_decide_eq_true (by assumption)
        obtain ⟨ad113, e113, hx113_0⟩ := Kd.at_string HR0.out x3_1 p113 q113
        cases e113
        replace p113 := eq_true p113
        replace q113 := eq_true q113
        have p114 : 0 ≤ (0 : Int) := (by omega)
        have q114 : 0 < (l0.length : Int) := of_decide_eq_true (by assumption)
        obtain ⟨ad114, e114, hx114_0⟩ := Kd.at_string HR0.out 0 p114 q114
        obtain rfl : ad113 = ad114 := (by injection e114)
        have qi114 : (0 < l0.length) = True := eq_true (by omega)
        (try rw [show ((0 : Int)).toNat = 0 from rfl] at hx114_0)
        (try rw [Addr.add_zero'] at hx114_0)
        replace p114 := eq_true p114
        replace q114 := eq_true q114
        go_wp2
        repeat (go_quiet (fail); try go_wp2)
        go_meet
        case rel => exact ⟨_, (true), (by first | rfl | (simp; done) | (simp [*]; done)), H', ⟨by have := HK1.out; first | omega | exact yay _⟩, by repeat (first | exact zbe.refl _ | apply zbe.step)⟩
      ·rw [if_neg c5] at H
       exact absurd H (by simp)
     ·rw [if_neg c4] at H
      exact absurd H (by simp)
    case rest =>
     clear HC3
     try clear c1
     try clear p1
     try clear q1
     try clear hx1
     try clear qi1
     try clear c2
     try clear c2b0
     try clear p2
     try clear c4
     try clear c4b0
     try clear c5
     try clear c5b0
     try clear c5b1
     try clear c6
     try clear c6b0
     try clear c6b1
     try clear c6b2
     try clear hx113_0
     try clear hx114_0
     try clear hx115_0
     try clear p113
     try clear p114
     try clear p115
     try clear q113
     try clear q114
     try clear q115
     obtain ⟨kq, x29_2, rfl, HA, HJ2, ⟨mc2, rfl⟩⟩ := hcut
     cases kq with
     | zero => exact absurd HA.out (by simp [spec_l1Grid.j1])
     | succ kj2 =>
      have H := HA.out
      clear HA
      simp only [spec_l1Grid.j1] at H
      by_cases c8 : x29_2 = true
      ·subst c8
       have H1 : (some false) = some r := by rw [if_pos rfl] at H; exact H
       clear H
       have H := H1
       clear H1
       obtain rfl := Option.some.inj H
       go_wp2
       repeat (go_quiet (fail); try go_wp2)
       go_ret
       exact ⟨by first | rfl | (simp; done) | (simp [*]; done), by repeat (first | exact zbe.refl _ | apply zbe.step)⟩
      ·replace c8 := Bool.eq_false_iff.mpr c8
       subst c8
       have H1 : (spec_l1Grid.l1 kj2 l0 x3_1 0) = some r := by rw [if_neg (show ¬ (false = true) by decide)] at H; exact H
       clear H
       have H := H1
       clear H1
       have H' := zaa.mk H
       clear H
       go_wp2
       repeat (go_quiet (fail); try go_wp2)
       go_loopg [4] kj2 (fun kq v4 w' => ∃ (x4_3 : Int), v4 = .int .i64 x4_3 ∧ zaa (spec_l1Grid.l1 kq l0 x3_1 x4_3 = some r) ∧ zaa (kq ≤ kj2) ∧ zbe w w')
       case atStart => exact ⟨(0), (by first | rfl | (simp; done) | (simp [*]; done)), H', ⟨yay _⟩, by repeat (first | exact zbe.refl _ | apply zbe.step)⟩
       case round =>
        clear H'
        try clear c1
        try clear p1
        try clear q1
        try clear hx1
        try clear qi1
        try clear c2
        try clear c2b0
        try clear p2
        try clear c4
        try clear c4b0
        try clear c5
        try clear c5b0
        try clear c5b1
        try clear c6
        try clear c6b0
        try clear c6b1
        try clear c6b2
        try clear c8
        try clear hx113_0
        try clear hx114_0
        try clear hx115_0
        try clear p1
        try clear p113
        try clear p114
        try clear p115
        try clear p2
        try clear q1
        try clear q113
        try clear q114
        try clear q115
        obtain ⟨x4_3, rfl, HA, HK3, ⟨m3, rfl⟩⟩ := hrel
        cases gk with
        | zero => exact absurd HA.out (by simp [spec_l1Grid.l1])
        | succ k3 =>
         have H := HA.out
         clear HA
         simp only [spec_l1Grid.l1] at H
         by_cases c9 : 0 ≤ x3_1
         ·rw [if_pos c9] at H
          have c9b0 : decide (0 ≤ x3_1) = true := decide_eq_true c9
          clear c9
          by_cases c10 : x3_1 < (l0.length : Int)
          ·rw [if_pos c10] at H
           have c10b0 : decide (x3_1 < (l0.length : Int)) = true := decide_eq_true c10
           clear c10
           by_cases c11 : x4_3 < ((rdOf yav l0 x3_1).size : Int)
           ·rw [if_pos c11] at H
            have c11b0 : decide (x4_3 < ((rdOf yav l0 x3_1).size : Int)) = true := decide_eq_true c11
            clear c11
            by_cases c12 : 0 ≤ x4_3
            ·rw [if_pos c12] at H
             have c12b0 : decide (0 ≤ x4_3) = true := decide_eq_true c12
             clear c12
             by_cases c14 : (bt (rdOf yav l0 x3_1) x4_3) < 97
             ·rw [if_pos c14] at H
              have c14b0 : decide ((bt (rdOf yav l0 x3_1) x4_3) < 97) = true := decide_eq_true c14
              clear c14
              obtain rfl := Option.some.inj H
              have p117 : 0 ≤ (x3_1 : Int) := of_decide_eq_true (by assumption)
              have q117 : x3_1 < (l0.length : Int) := of_decide_eq_true (by assumption)
              obtain ⟨ad117, e117, hx117_0⟩ := Kd.at_string HR0.out x3_1 p117 q117
              cases e117
              replace p117 := eq_true p117
              replace q117 := eq_true q117
              have p118 : 0 ≤ (x3_1 : Int) := of_decide_eq_true (by assumption)
              have q118 : x3_1 < (l0.length : Int) := of_decide_eq_true (by assumption)
              obtain ⟨ad118, e118, hx118_0⟩ := Kd.at_string HR0.out x3_1 p118 q118
              obtain rfl : ad117 = ad118 := (by injection e118)
              replace p118 := eq_true p118
              replace q118 := eq_true q118
              have p13 : 0 ≤ (x4_3 : Int) := of_decide_eq_true (by assumption)
              have q13 : x4_3 < ((rdOf yav l0 x3_1).size : Int) := of_decide_eq_true (by assumption)
              have hx13 := bt_at (rdOf yav l0 x3_1) x4_3
              replace p13 := eq_true p13
              replace q13 := eq_true q13
              go_wp2
              repeat (go_quiet (fail); try go_wp2)
              go_ret
              exact ⟨by first | rfl | (simp; done) | (simp [*]; done), by repeat (first | exact zbe.refl _ | apply zbe.step)⟩
             ·rw [if_neg c14] at H
              have c14b0 : decide ((bt (rdOf yav l0 x3_1) x4_3) < 97) = false := decide_eq_false c14
              clear c14
              by_cases c16 : (bt (rdOf yav l0 x3_1) x4_3) > 122
              ·rw [if_pos c16] at H
               have c16b0 : decide (122 < (bt (rdOf yav l0 x3_1) x4_3)) = true := decide_eq_true c16
               clear c16
               obtain rfl := Option.some.inj H
               have p117 : 0 ≤ (x3_1 : Int) := of_decide_eq_true (by assumption)
               have q117 : x3_1 < (l0.length : Int) := of_decide_eq_true (by assumption)
               obtain ⟨ad117, e117, hx117_0⟩ := Kd.at_string HR0.out x3_1 p117 q117
               cases e117
               replace p117 := eq_true p117
               replace q117 := eq_true q117
               have p118 : 0 ≤ (x3_1 : Int) := of_decide_eq_true (by assumption)
               have q118 : x3_1 < (l0.length : Int) := of_decide_eq_true (by assumption)
               obtain ⟨ad118, e118, hx118_0⟩ := Kd.at_string HR0.out x3_1 p118 q118
               obtain rfl : ad117 = ad118 := (by injection e118)
               replace p118 := eq_true p118
               replace q118 := eq_true q118
               have p13 : 0 ≤ (x4_3 : Int) := of_decide_eq_true (by assumption)
               have q13 : x4_3 < ((rdOf yav l0 x3_1).size : Int) := of_decide_eq_true (by assumption)
               have hx13 := bt_at (rdOf yav l0 x3_1) x4_3
               replace p13 := eq_true p13
               replace q13 := eq_true q13
               have p119 : 0 ≤ (x3_1 : Int) := of_decide_eq_true (by assumption)
               have q119 : x3_1 < (l0.length : Int) := of_decide_eq_true (by assumption)
               obtain ⟨ad119, e119, hx119_0⟩ := Kd.at_string HR0.out x3_1 p119 q119
               obtain rfl : ad117 = ad119 := (by injection e119)
               replace p119 := eq_true p119
               replace q119 := eq_true q119
               have p15 : 0 ≤ (x4_3 : Int) := of_decide_eq_true (by assumption)
               have q15 : x4_3 < ((rdOf yav l0 x3_1).size : Int) := of_decide_eq_true (by assumption)
               have hx15 := bt_at (rdOf yav l0 x3_1) x4_3
               replace p15 := eq_true p15
               replace q15 := eq_true q15
               go_wp2
               repeat (go_quiet (fail); try go_wp2)
               go_ret
               exact ⟨by first | rfl | (simp; done) | (simp [*]; done), by repeat (first | exact zbe.refl _ | apply zbe.step)⟩
              ·rw [if_neg c16] at H
               have c16b0 : decide (122 < (bt (rdOf yav l0 x3_1) x4_3)) = false := decide_eq_false c16
               clear c16
               have H' := zaa.mk H
               clear H
               have p117 : 0 ≤ (x3_1 : Int) := of_decide_eq_true (by assumption)
               have q117 : x3_1 < (l0.length : Int) := of_decide_eq_true (by assumption)
               obtain ⟨ad117, e117, hx117_0⟩ := Kd.at_string HR0.out x3_1 p117 q117
               cases e117
               replace p117 := eq_true p117
               replace q117 := eq_true q117
               have p118 : 0 ≤ (x3_1 : Int) := of_decide_eq_true (by assumption)
               have q118 : x3_1 < (l0.length : Int) := of_decide_eq_true (by assumption)
               obtain ⟨ad118, e118, hx118_0⟩ := Kd.at_string HR0.out x3_1 p118 q118
               obtain rfl : ad117 = ad118 := (by injection e118)
               replace p118 := eq_true p118
               replace q118 := eq_true q118
               have p13 : 0 ≤ (x4_3 : Int) := of_decide_eq_true (by assumption)
               have q13 : x4_3 < ((rdOf yav l0 x3_1).size : Int) := of_decide_eq_true (by assumption)
               have hx13 := bt_at (rdOf yav l0 x3_1) x4_3
               replace p13 := eq_true p13
               replace q13 := eq_true q13
               have p119 : 0 ≤ (x3_1 : Int) := of_decide_eq_true (by assumption)
               have q119 : x3_1 < (l0.length : Int) := of_decide_eq_true (by assumption)
               obtain ⟨ad119, e119, hx119_0⟩ := Kd.at_string HR0.out x3_1 p119 q119
               obtain rfl : ad117 = ad119 := (by injection e119)
               replace p119 := eq_true p119
               replace q119 := eq_true q119
               have p15 : 0 ≤ (x4_3 : Int) := of_decide_eq_true (by assumption)
               have q15 : x4_3 < ((rdOf yav l0 x3_1).size : Int) := of_decide_eq_true (by assumption)
               have hx15 := bt_at (rdOf yav l0 x3_1) x4_3
               replace p15 := eq_true p15
               replace q15 := eq_true q15
               go_wp2
               repeat (go_quiet (fail); try go_wp2)
               go_roundg k3
               case measure => have := HK1.out; have := HJ2.out; have := HK3.out; omega
               case rel => exact ⟨(wrap64 (x4_3 + 1)), (by first | rfl | (simp; done) | (simp [*]; done)), H', ⟨by have := HK1.out; have := HJ2.out; have := HK3.out; omega⟩, by repeat (first | exact zbe.refl _ | apply zbe.step)⟩
            ·rw [if_neg c12] at H
             exact absurd H (by simp)
           ·rw [if_neg c11] at H
            have c11b0 : decide (x4_3 < ((rdOf yav l0 x3_1).size : Int)) = false := decide_eq_false c11
            clear c11
            have H' := zaa.mk H
            clear H
            have p117 : 0 ≤ (x3_1 : Int) := of_decide_eq_true (by assumption)
            have q117 : x3_1 < (l0.length : Int) := of_decide_eq_true (by assumption)
            obtain ⟨ad117, e117, hx117_0⟩ := Kd.at_string HR0.out x3_1 p117 q117
            cases e117
            replace p117 := eq_true p117
            replace q117 := eq_true q117
            go_wp2
            repeat (go_quiet (fail); try go_wp2)
            go_roundg k3
            case measure => have := HK1.out; have := HJ2.out; have := HK3.out; omega
            case rel => exact ⟨(wrap64 (x3_1 + 1)), (by first | rfl | (simp; done) | (simp [*]; done)), H', ⟨by have := HK1.out; have := HJ2.out; have := HK3.out; omega⟩, by repeat (first | exact zbe.refl _ | apply zbe.step)⟩
          ·rw [if_neg c10] at H
           exact absurd H (by simp)
         ·rw [if_neg c9] at H
          exact absurd H (by simp)
   ·rw [if_neg c2] at H
    have c2b0 : decide (x3_1 < (l0.length : Int)) = false := decide_eq_false c2
    clear c2
    replace H := yaw.mp H
    obtain ⟨t112, A170, H⟩ := H
    replace H : (some t112) = some r := H
    have A17 := zaa.mk A170
    clear A170
    obtain rfl := Option.some.inj H
    go_wp2_with (first | (go_at_call 91; (with_reducible refine (spec_l6In.calls (l0.length : Int) 1 6 t112 _ A17.out).mono ?_); rintro e w' ⟨rfl, ⟨nd, rfl⟩⟩; (try first | exact ⟨rfl, _, World.drewN_drewN _ _ _⟩ | exact ⟨rfl, _, Eq.trans (World.drewN_drewN _ _ _) (congrArg (World.drewN _) (Nat.add_assoc _ _ _))⟩)))
    repeat (go_quiet (fail); try go_wp2_with (fail))
    go_ret
    exact ⟨by first | rfl | (simp; done) | (simp [*]; done), by repeat (first | exact zbe.refl _ | apply zbe.step)⟩
end Go.Proofs.Ytaepgogafkmooaa.PB
namespace Go.Proofs.Ytaepgogafkmooaa.PB
open Go.RowKit Go.PW.PrintWords Go.PW.PrintLast Go.PW.PrintMore
attribute [local go_sem] zcb zbz max_two min_two zbs zbr zca zby   -- for this text's walks alone
mutual
def spec_l1Names.l0 : Nat → List ByteArray → List Int → List ByteArray → Int → Option (List ByteArray)
 | 0, _, _, _, _ => none
 | k + 1, x0, x3, x4, x5 => if x5 < (x0.length : Int) then (spec_l1Names.l1 k x0 x3 x4 x5 (([] : List Int)) 0) else (some x4)
def spec_l1Names.l1 : Nat → List ByteArray → List Int → List ByteArray → Int → List Int → Int → Option (List ByteArray)
 | 0, _, _, _, _, _, _ => none
 | k + 1, x0, x3, x4, x5, x6, x7 => if 0 ≤ x5 then (if x5 < (x0.length : Int) then (if x7 < ((rdOf yav x0 x5).size : Int) then (spec_l1Names.l2 k x0 x3 x4 x5 x6 x7 0) else (if x4.length < 8796093022208 then (spec_l1Names.l0 k x0 x3 (x4 ++ [strOfNums x6]) (wrap64 (x5 + 1))) else (none))) else (none)) else (none)
def spec_l1Names.l2 : Nat → List ByteArray → List Int → List ByteArray → Int → List Int → Int → Int → Option (List ByteArray)
 | 0, _, _, _, _, _, _, _ => none
 | k + 1, x0, x3, x4, x5, x6, x7, x8 => if x8 < (x3.length : Int) then (if 0 ≤ x8 then (if 0 ≤ x5 then (if x5 < (x0.length : Int) then (if 0 ≤ x7 then (if x7 < ((rdOf yav x0 x5).size : Int) then (if (rd x3 x8) = (bt (rdOf yav x0 x5) x7) then (if x8 = (x3.length : Int) then (if x3.length < 140737488355328 then (if x6.length < 140737488355328 then (spec_l1Names.l1 k x0 (x3 ++ [bt (rdOf yav x0 x5) x7]) x4 x5 (x6 ++ [(wrap64 (97 + x8)) % 256]) (wrap64 (x7 + 1))) else (none)) else (none)) else (if x6.length < 140737488355328 then (spec_l1Names.l1 k x0 x3 x4 x5 (x6 ++ [(wrap64 (97 + x8)) % 256]) (wrap64 (x7 + 1))) else (none))) else (spec_l1Names.l2 k x0 x3 x4 x5 x6 x7 (wrap64 (x8 + 1)))) else (none)) else (none)) else (none)) else (none)) else (none)) else (if x8 = (x3.length : Int) then (if 0 ≤ x5 then (if x5 < (x0.length : Int) then (if 0 ≤ x7 then (if x7 < ((rdOf yav x0 x5).size : Int) then (if x3.length < 140737488355328 then (if x6.length < 140737488355328 then (spec_l1Names.l1 k x0 (x3 ++ [bt (rdOf yav x0 x5) x7]) x4 x5 (x6 ++ [(wrap64 (97 + x8)) % 256]) (wrap64 (x7 + 1))) else (none)) else (none)) else (none)) else (none)) else (none)) else (none)) else (if x6.length < 140737488355328 then (spec_l1Names.l1 k x0 x3 x4 x5 (x6 ++ [(wrap64 (97 + x8)) % 256]) (wrap64 (x7 + 1))) else (none)))
end
def spec_l1Names.f (k : Nat) (l0 : List ByteArray) : Option (List ByteArray) := spec_l1Names.l0 k l0 (([] : List Int)) (([] : List ByteArray)) 0
set_option maxHeartbeats 8000000 in
set_option maxRecDepth 100000 in
theorem spec_l1Names.calls (k : Nat) (A0 : Option Addr) (c0 : Nat) (l0 : List ByteArray) (r : List ByteArray) (w : World) (hr0 : Kd.C Kd.string w A0 l0.length l0) (hc0 : l0.length ≤ c0) (h : spec_l1Names.f k l0 = some r) :
  Calls Try.prog 122 #[.slice A0 l0.length c0] w fun e w' => ∃ v0_ : Value, e = .returned (v0_) ∧ Kd.R Kd.string 9 w' w.heap.size (fun _ => True) v0_ r ∧ Below w.heap.size w w' := by
 have HR0 := zaa.mk hr0
 have HC0 := zaa.mk hc0
 clear hr0 hc0
 have HB := zaa.mk (Below.refl w.heap.size w)
 have H : (spec_l1Names.l0 k l0 (([] : List Int)) (([] : List ByteArray)) 0) = some r := h
 clear h
 obtain ⟨y120, hy120⟩ : ∃ y_ : List Int, y_ = (([] : List Int)) := ⟨_, rfl⟩
 replace H : (spec_l1Names.l0 k l0 y120 (([] : List ByteArray)) 0) = some r := by first | (rw [hy120]; with_reducible exact H) | (have H2_ := (yax _ _).symm.trans H; rw [hy120]; with_reducible exact H2_) | (have H2_ := (yax _ _).symm.trans H; with_reducible exact H2_) | with_reducible exact H | (rw [hy120]; exact H) | exact H
 have Ny120 := zaa.mk hy120
 clear hy120
 obtain ⟨y123, hy123⟩ : ∃ y_ : List ByteArray, y_ = (([] : List ByteArray)) := ⟨_, rfl⟩
 replace H : (spec_l1Names.l0 k l0 y120 y123 0) = some r := by first | (rw [hy123]; with_reducible exact H) | (have H2_ := (yax _ _).symm.trans H; rw [hy123]; with_reducible exact H2_) | (have H2_ := (yax _ _).symm.trans H; with_reducible exact H2_) | with_reducible exact H | (rw [hy123]; exact H) | exact H
 have Ny123 := zaa.mk hy123
 clear hy123
 have H' := zaa.mk H
 clear H
 go_enter Try.func122, Try.ntmps122
 go_wp2_with (first | ((with_reducible refine zbc (N := 9) rfl ?_); refine Kd.R_lit (Kd.int .u8) _ 5 ?hg (N := 9) ?hd (xs := ([] : List Int)) (inner := []) (ok := fun _ => True) (okp := fun _ => True) ?hr ?hp (fun _ hk => hk) trivial (Below.refl _ _) (yay _) (by simp) ?_; (case hd => rfl); (case hg => rfl); (case hr => first | (go_simp; done) | (go_simp; rfl)); (case hp => exact (Reps.none _ _)); intro v121 w2 ho3 hb hg_ hnew_; clear hg_ hnew_; (first | rw [← Ny120.out] at ho3 | (simp only [Int.reduceToNat] at ho3; rw [← Ny120.out] at ho3)); have n0_ := zaa.mk (Kd.R_lower ho3 (zai (by repeat (first | (with_reducible first | exact HB.out | apply zac | apply zab | apply zad) | exact HB.out)))); have n1_ := zaa.mk (zag (by repeat (first | (with_reducible first | exact HB.out | apply zac | apply zab | apply zad) | exact HB.out)) hb); clear HB; have HO122 := n0_; have HB := n1_; clear n0_ n1_; clear hb ho3) | ((with_reducible refine zbc (N := 10) rfl ?_); refine Kd.R_lit Kd.string _ 9 ?hg (N := 10) ?hd (xs := ([] : List ByteArray)) (inner := []) (ok := fun _ => True) (okp := fun _ => True) ?hr ?hp (fun _ hk => hk) trivial (Below.refl _ _) (yay _) (by simp) ?_; (case hd => rfl); (case hg => rfl); (case hr => first | (go_simp; done) | (go_simp; rfl)); (case hp => exact (Reps.none _ _)); intro v124 w4 ho5 hb hg_ hnew_; clear hg_ hnew_; (first | rw [← Ny123.out] at ho5 | (simp only [Int.reduceToNat] at ho5; rw [← Ny123.out] at ho5)); have n0_ := zaa.mk (Kd.R_below (by (with_reducible repeat (first | apply yaz | apply yba | apply ybb)); exact HO122.out) hb); have n1_ := zaa.mk (Kd.R_lower ho5 (zai (by repeat (first | (with_reducible first | exact HB.out | apply zac | apply zab | apply zad) | exact HB.out)))); have n2_ := zaa.mk (zag (by repeat (first | (with_reducible first | exact HB.out | apply zac | apply zab | apply zad) | exact HB.out)) hb); clear HO122; clear HB; have HO122 := n0_; have HO125 := n1_; have HB := n2_; clear n0_ n1_ n2_; clear hb ho5))
 repeat (go_quiet (fail); try go_wp2_with (fail))
 go_loopg [3, 4, 5] k (fun kq v3 v4 v5 w' => ∃ (x3_1 : List Int) (x4_1 : List ByteArray) (x5_1 : Int), v5 = .int .i64 x5_1 ∧ zaa (spec_l1Names.l0 kq l0 x3_1 x4_1 x5_1 = some r) ∧ zaa (kq ≤ k) ∧ zaa (Kd.R (Kd.int .u8) 5 w' w.heap.size (fun _ => True) v3 x3_1) ∧ zaa (Kd.R Kd.string 9 w' w.heap.size (fun _ => True) v4 x4_1) ∧ zaa (Below w.heap.size w w'))
 case atStart => exact ⟨(y120), (y123), (0), (by first | rfl | (simp; done) | (simp [*]; done)), H', ⟨yay _⟩, ⟨by (with_reducible repeat (first | apply yaz | apply yba | apply ybb)); exact HO122.out⟩, ⟨by (with_reducible repeat (first | apply yaz | apply yba | apply ybb)); exact HO125.out⟩, ⟨by repeat (first | (with_reducible first | exact HB.out | apply zac | apply zab | apply zad) | exact HB.out)⟩⟩
 case round =>
  clear H'
  try clear c1
  try clear p2
  obtain ⟨x3_1, x4_1, x5_1, rfl, HA, HK1, HO_3, HO_4, HB⟩ := hrel
  cases gk with
  | zero => exact absurd HA.out (by simp [spec_l1Names.l0])
  | succ k1 =>
   have H := HA.out
   clear HA
   simp only [spec_l1Names.l0] at H
   by_cases c6 : x5_1 < (l0.length : Int)
   ·rw [if_pos c6] at H
    have c6b0 : decide (x5_1 < (l0.length : Int)) = true := decide_eq_true c6
    clear c6
    obtain ⟨y126, hy126⟩ : ∃ y_ : List Int, y_ = (([] : List Int)) := ⟨_, rfl⟩
    replace H : (spec_l1Names.l1 k1 l0 x3_1 x4_1 x5_1 y126 0) = some r := by first | (rw [hy126]; with_reducible exact H) | (have H2_ := (yax _ _).symm.trans H; rw [hy126]; with_reducible exact H2_) | (have H2_ := (yax _ _).symm.trans H; with_reducible exact H2_) | with_reducible exact H | (rw [hy126]; exact H) | exact H
    have Ny126 := zaa.mk hy126
    clear hy126
    have H' := zaa.mk H
    clear H
    go_wp2_with (first | ((with_reducible refine zbc (N := 17) rfl ?_); refine Kd.R_lit (Kd.int .u8) _ 5 ?hg (N := 17) ?hd (xs := ([] : List Int)) (inner := []) (ok := fun _ => True) (okp := fun _ => True) ?hr ?hp (fun _ hk => hk) trivial (Below.refl _ _) (yay _) (by simp) ?_; (case hd => rfl); (case hg => rfl); (case hr => first | (go_simp; done) | (go_simp; rfl)); (case hp => exact (Reps.none _ _)); intro v127 w7 ho8 hb hg_ hnew_; clear hg_ hnew_; (first | rw [← Ny126.out] at ho8 | (simp only [Int.reduceToNat] at ho8; rw [← Ny126.out] at ho8)); have n0_ := zaa.mk (Kd.R_elder' (by (with_reducible repeat (first | apply yaz | apply yba | apply ybb)); exact HO_3.out) (Kd.R_base ho8) hb); have n1_ := zaa.mk (Kd.R_below (by (with_reducible repeat (first | apply yaz | apply yba | apply ybb)); exact HO_4.out) hb); have n2_ := zaa.mk (Kd.R_lower (Kd.R_new' ho8 (Kd.R_lt (by (with_reducible repeat (first | apply yaz | apply yba | apply ybb)); exact HO_3.out))) (zai (by repeat (first | (with_reducible first | exact HB.out | apply zac | apply zab | apply zad) | exact HB.out)))); have n3_ := zaa.mk (zag (by repeat (first | (with_reducible first | exact HB.out | apply zac | apply zab | apply zad) | exact HB.out)) hb); clear HO_3; clear HO_4; clear HB; have HO_3 := n0_; have HO_4 := n1_; have HO128 := n2_; have HB := n3_; clear n0_ n1_ n2_ n3_; clear hb ho8))
    repeat (go_quiet (fail); try go_wp2_with (fail))
    go_loopg [3, 6, 7] k1 (fun kq v3 v6 v7 w' => ∃ (x3_2 : List Int) (x6_2 : List Int) (x7_2 : Int), v7 = .int .i64 x7_2 ∧ zaa (spec_l1Names.l1 kq l0 x3_2 x4_1 x5_1 x6_2 x7_2 = some r) ∧ zaa (kq ≤ k1) ∧ zaa (Kd.R (Kd.int .u8) 5 w' w.heap.size (fun k_ => some k_ ≠ (v6 : Value).ownBlock) v3 x3_2) ∧ zaa (Kd.R Kd.string 9 w' w.heap.size (fun _ => True) u4 x4_1) ∧ zaa (Kd.R (Kd.int .u8) 5 w' w.heap.size (fun k_ => some k_ ≠ (v3 : Value).ownBlock) v6 x6_2) ∧ zaa (Below w.heap.size w w'))
    case atStart => exact ⟨(x3_1), (y126), (0), (by first | rfl | (simp; done) | (simp [*]; done)), H', ⟨yay _⟩, ⟨by (with_reducible repeat (first | apply yaz | apply yba | apply ybb)); exact Kd.R_mono HO_3.out (fun _ hk => hk.2)⟩, ⟨by (with_reducible repeat (first | apply yaz | apply yba | apply ybb)); exact HO_4.out⟩, ⟨by (with_reducible repeat (first | apply yaz | apply yba | apply ybb)); exact Kd.R_mono HO128.out (fun _ hk => hk.2)⟩, ⟨by repeat (first | (with_reducible first | exact HB.out | apply zac | apply zab | apply zad) | exact HB.out)⟩⟩
    case round =>
     clear H'
     try clear c1
     try clear p2
     try clear c6
     try clear c6b0
     try clear p2
     obtain ⟨x3_2, x6_2, x7_2, rfl, HA, HK2, HO_3, HO_4, HO_6, HB⟩ := hrel
     cases gk with
     | zero => exact absurd HA.out (by simp [spec_l1Names.l1])
     | succ k2 =>
      have H := HA.out
      clear HA
      simp only [spec_l1Names.l1] at H
      by_cases c9 : 0 ≤ x5_1
      ·rw [if_pos c9] at H
       have c9b0 : decide (0 ≤ x5_1) = true := decide_eq_true c9
       clear c9
       by_cases c10 : x5_1 < (l0.length : Int)
       ·rw [if_pos c10] at H
        have c10b0 : decide (x5_1 < (l0.length : Int)) = true := decide_eq_true c10
        clear c10
        by_cases c11 : x7_2 < ((rdOf yav l0 x5_1).size : Int)
        ·rw [if_pos c11] at H
         have c11b0 : decide (x7_2 < ((rdOf yav l0 x5_1).size : Int)) = true := decide_eq_true c11
         clear c11
         have H' := zaa.mk H
         clear H
         have p129 : 0 ≤ (x5_1 : Int) := of_decide_eq_true (by assumption)
         have q129 : x5_1 < (l0.length : Int) := of_decide_eq_true (by assumption)
         obtain ⟨ad129, e129, hx129_0⟩ := Kd.at_string HR0.out x5_1 p129 q129
         cases e129
         replace hx129_0 := (HB.out.cell (World.block_lt_of_cell? w _ hx129_0)).trans hx129_0
         replace p129 := eq_true p129
         replace q129 := eq_true q129
         go_wp2
         repeat (go_quiet (fail); try go_wp2)
         go_loopg [8] k2 (fun kq v8 w' => ∃ (x8_3 : Int), v8 = .int .i64 x8_3 ∧ zaa (spec_l1Names.l2 kq l0 x3_2 x4_1 x5_1 x6_2 x7_2 x8_3 = some r) ∧ zaa (kq ≤ k2) ∧ zaa (Kd.R (Kd.int .u8) 5 w' w.heap.size (fun k_ => some k_ ≠ (u6 : Value).ownBlock) u3 x3_2) ∧ zaa (Kd.R Kd.string 9 w' w.heap.size (fun _ => True) u4 x4_1) ∧ zaa (Kd.R (Kd.int .u8) 5 w' w.heap.size (fun k_ => some k_ ≠ (u3 : Value).ownBlock) u6 x6_2) ∧ zaa (Below w.heap.size w w'))
         case atStart => exact ⟨(0), (by first | rfl | (simp; done) | (simp [*]; done)), H', ⟨yay _⟩, ⟨by (with_reducible repeat (first | apply yaz | apply yba | apply ybb)); exact HO_3.out⟩, ⟨by (with_reducible repeat (first | apply yaz | apply yba | apply ybb)); exact HO_4.out⟩, ⟨by (with_reducible repeat (first | apply yaz | apply yba | apply ybb)); exact HO_6.out⟩, ⟨by repeat (first | (with_reducible first | exact HB.out | apply zac | apply zab | apply zad) | exact HB.out)⟩⟩
         case round =>
          clear H'
          try clear c1
          try clear p1
          try clear q1
          try clear hx1
          try clear p2
          try clear c6
          try clear c6b0
          try clear c9
          try clear c9b0
          try clear c10
          try clear c10b0
          try clear c11
          try clear c11b0
          try clear hx129_0
          try clear p129
          try clear p2
          try clear q129
          obtain ⟨x8_3, rfl, HA, HK3, HO_3, HO_4, HO_6, HB⟩ := hrel
          cases gk with
          | zero => exact absurd HA.out (by simp [spec_l1Names.l2])
          | succ k3 =>
           have H := HA.out
           clear HA
           simp only [spec_l1Names.l2] at H
           by_cases c12 : x8_3 < (x3_2.length : Int)
           ·rw [if_pos c12] at H
            have c12b0 : decide (x8_3 < (x3_2.length : Int)) = true := decide_eq_true c12
            clear c12
            by_cases c13 : 0 ≤ x8_3
            ·rw [if_pos c13] at H
             have c13b0 : decide (0 ≤ x8_3) = true := decide_eq_true c13
             clear c13
             by_cases c14 : 0 ≤ x5_1
             ·rw [if_pos c14] at H
              have c14b0 : decide (0 ≤ x5_1) = true := decide_eq_true c14
              clear c14
              by_cases c15 : x5_1 < (l0.length : Int)
              ·rw [if_pos c15] at H
               have c15b0 : decide (x5_1 < (l0.length : Int)) = true := decide_eq_true c15
               clear c15
               by_cases c16 : 0 ≤ x7_2
               ·rw [if_pos c16] at H
                have c16b0 : decide (0 ≤ x7_2) = true := decide_eq_true c16
                clear c16
                by_cases c17 : x7_2 < ((rdOf yav l0 x5_1).size : Int)
                ·rw [if_pos c17] at H
                 have c17b0 : decide (x7_2 < ((rdOf yav l0 x5_1).size : Int)) = true := decide_eq_true c17
                 clear c17
                 by_cases c19 : (rd x3_2 x8_3) = (bt (rdOf yav l0 x5_1) x7_2)
                 ·rw [if_pos c19] at H
                  have c19b0 : ((rd x3_2 x8_3) == (bt (rdOf yav l0 x5_1) x7_2)) = true := beq_iff_eq.mpr c19
                  have c19b1 : ((rd x3_2 x8_3) != (bt (rdOf yav l0 x5_1) x7_2)) = false := bne_eq_false_iff_eq.mpr c19
                  clear c19
                  by_cases c20 : x8_3 = (x3_2.length : Int)
                  ·rw [if_pos c20] at H
                   have c20b0 : (x8_3 == (x3_2.length : Int)) = true := beq_iff_eq.mpr c20
                   have c20b1 : (x8_3 != (x3_2.length : Int)) = false := bne_eq_false_iff_eq.mpr c20
                   clear c20
                   by_cases c22 : x3_2.length < 140737488355328
                   ·rw [if_pos c22] at H
                    have LMc22 := zaa.mk c22
                    clear c22
                    obtain ⟨y136, hy136⟩ : ∃ y_ : List Int, y_ = (x3_2 ++ [bt (rdOf yav l0 x5_1) x7_2]) := ⟨_, rfl⟩
                    replace H : (if x6_2.length < 140737488355328 then (spec_l1Names.l1 k3 l0 y136 x4_1 x5_1 (x6_2 ++ [(wrap64 (97 + x8_3)) % 256]) (wrap64 (x7_2 + 1))) else (none)) = some r := by first | (rw [hy136]; with_reducible exact H) | (have H2_ := (yax _ _).symm.trans H; rw [hy136]; with_reducible exact H2_) | (have H2_ := (yax _ _).symm.trans H; with_reducible exact H2_) | with_reducible exact H | (rw [hy136]; exact H) | exact H
                    have Ny136 := zaa.mk hy136
                    clear hy136
                    by_cases c23 : x6_2.length < 140737488355328
                    ·rw [if_pos c23] at H
                     have LMc23 := zaa.mk c23
                     clear c23
                     obtain ⟨y139, hy139⟩ : ∃ y_ : List Int, y_ = (x6_2 ++ [(wrap64 (97 + x8_3)) % 256]) := ⟨_, rfl⟩
                     replace H : (spec_l1Names.l1 k3 l0 y136 x4_1 x5_1 y139 (wrap64 (x7_2 + 1))) = some r := by first | (rw [hy139]; with_reducible exact H) | (have H2_ := (yax _ _).symm.trans H; rw [hy139]; with_reducible exact H2_) | (have H2_ := (yax _ _).symm.trans H; with_reducible exact H2_) | with_reducible exact H | (rw [hy139]; exact H) | exact H
                     have Ny139 := zaa.mk hy139
                     clear hy139
                     have H' := zaa.mk H
                     clear H
                     obtain ⟨Ao24, co24, eo24⟩ := Kd.R_slice HO_3.out
                     subst eo24
                     have p133 : 0 ≤ (x8_3 : Int) := of_decide_eq_true (by assumption)
                     have q133 : x8_3 < (x3_2.length : Int) := of_decide_eq_true (by assumption)
                     obtain ⟨ad133, e133, hx133_0⟩ := Kd.at_int (Kd.R_reads' HO_3.out).2.2 x8_3 p133 q133
                     cases e133
                     replace p133 := eq_true p133
                     replace q133 := eq_true q133
                     have p134 : 0 ≤ (x5_1 : Int) := of_decide_eq_true (by assumption)
                     have q134 : x5_1 < (l0.length : Int) := of_decide_eq_true (by assumption)
                     obtain ⟨ad134, e134, hx134_0⟩ := Kd.at_string HR0.out x5_1 p134 q134
                     obtain rfl : ad129 = ad134 := (by injection e134)
                     replace hx134_0 := (HB.out.cell (World.block_lt_of_cell? w _ hx134_0)).trans hx134_0
                     replace p134 := eq_true p134
                     replace q134 := eq_true q134
                     have p18 : 0 ≤ (x7_2 : Int) := of_decide_eq_true (by assumption)
                     have q18 : x7_2 < ((rdOf yav l0 x5_1).size : Int) := of_decide_eq_true (by assumption)
                     have hx18 := bt_at (rdOf yav l0 x5_1) x7_2
                     replace p18 := eq_true p18
                     replace q18 := eq_true q18
                     have p135 : 0 ≤ (x5_1 : Int) := of_decide_eq_true (by assumption)
                     have q135 : x5_1 < (l0.length : Int) := of_decide_eq_true (by assumption)
                     obtain ⟨ad135, e135, hx135_0⟩ := Kd.at_string HR0.out x5_1 p135 q135
                     obtain rfl : ad129 = ad135 := (by injection e135)
                     replace hx135_0 := (HB.out.cell (World.block_lt_of_cell? w _ hx135_0)).trans hx135_0
                     replace p135 := eq_true p135
                     replace q135 := eq_true q135
                     have p21 : 0 ≤ (x7_2 : Int) := of_decide_eq_true (by assumption)
                     have q21 : x7_2 < ((rdOf yav l0 x5_1).size : Int) := of_decide_eq_true (by assumption)
                     have hx21 := bt_at (rdOf yav l0 x5_1) x7_2
                     replace p21 := eq_true p21
                     replace q21 := eq_true q21
                     go_wp2_with (fail)
                     repeat (go_quiet (fail); try go_wp2_with (first | ((with_reducible refine zay (b := .append) (xs := #[.tmp 50, .tmp 57]) rfl ?_); at_builtin; refine Kd.R_append (Kd.int .u8) (w0 := w) w.heap.size rfl (.tmp 50) (.tmp 57) 22 5 (.int .u8 0) 1 rfl Try.underlying22 info5 rfl (by decide) (by omega) (.slice (some ad133) x3_2.length co24) x3_2 (bt (rdOf yav l0 x5_1) x7_2) [.int .u8 (bt (rdOf yav l0 x5_1) x7_2)] (fun k_ => some k_ ≠ (u6 : Value).ownBlock) (fun _ => False) rfl rfl ?aP (fun _ hk => hk.elim) ?aF ?aO ?aB ?aS ?aL ?_; (case aP => exact rfl); (case aB => exact (by repeat (first | (with_reducible first | exact HB.out | apply zac | apply zab | apply zad) | exact HB.out))); (case aF => exact (fun k_ hk => Kd.fresh' (Kd.R_lt (by (with_reducible repeat (first | apply yaz | apply yba | apply ybb)); exact HO_6.out)) k_ hk)); (case aO => exact (by (with_reducible repeat (first | apply yaz | apply yba | apply ybb)); exact HO_3.out)); (case aS => exact (zai (by repeat (first | (with_reducible first | exact HB.out | apply zac | apply zab | apply zad) | exact HB.out)))); (case aL => have := LMc22.out; omega); intro v137 w25 ho hb hg hat; rw [← Ny136.out] at ho; have n0_ := zaa.mk (Kd.R_over' (by (with_reducible repeat (first | apply yaz | apply yba | apply ybb)); exact HO_4.out) (Kd.R_typed (by (with_reducible repeat (first | apply yaz | apply yba | apply ybb)); exact HO_3.out)) (by decide) hg); have n1_ := zaa.mk (Kd.R_after (ok := (fun _ => True)) (by (with_reducible repeat (first | apply yaz | apply yba | apply ybb)); exact Kd.R_mono HO_6.out (fun _ hk => ⟨trivial, hk⟩)) hg hat); have n2_ := zaa.mk (hb); have n3_ := zaa.mk (ho); clear HO_4; clear HO_6; clear HB; clear HO_3; have HO_4 := n0_; have HO_6 := n1_; have HB := n2_; have HO138 := n3_; clear n0_ n1_ n2_ n3_; clear ho hb hg hat) | ((with_reducible refine zay (b := .append) (xs := #[.tmp 59, .tmp 63]) rfl ?_); at_builtin; refine Kd.R_append (Kd.int .u8) (w0 := w) w.heap.size rfl (.tmp 59) (.tmp 63) 22 5 (.int .u8 0) 1 rfl Try.underlying22 info5 rfl (by decide) (by omega) u6 x6_2 ((wrap64 (97 + x8_3)) % 256) [.int .u8 ((wrap64 (97 + x8_3)) % 256)] (fun k_ => some k_ ≠ (v137 : Value).ownBlock) (fun _ => False) rfl rfl ?aP (fun _ hk => hk.elim) ?aF ?aO ?aB ?aS ?aL ?_; (case aP => exact rfl); (case aB => exact (by repeat (first | (with_reducible first | exact HB.out | apply zac | apply zab | apply zad) | exact HB.out))); (case aF => exact (fun k_ hk => Kd.fresh' (Kd.R_lt (by (with_reducible repeat (first | apply yaz | apply yba | apply ybb)); exact HO138.out)) k_ hk)); (case aO => exact (by (with_reducible repeat (first | apply yaz | apply yba | apply ybb)); exact Kd.R_mono HO_6.out (fun _ hk => hk.2))); (case aS => exact (zai (by repeat (first | (with_reducible first | exact HB.out | apply zac | apply zab | apply zad) | exact HB.out)))); (case aL => have := LMc23.out; omega); intro v140 w26 ho hb hg hat; rw [← Ny139.out] at ho; have n0_ := zaa.mk (Kd.R_over' (by (with_reducible repeat (first | apply yaz | apply yba | apply ybb)); exact HO_4.out) (Kd.R_typed (by (with_reducible repeat (first | apply yaz | apply yba | apply ybb)); exact HO_6.out)) (by decide) hg); have n1_ := zaa.mk (Kd.R_after (ok := (fun _ => True)) (by (with_reducible repeat (first | apply yaz | apply yba | apply ybb)); exact Kd.R_mono HO138.out (fun _ hk => ⟨trivial, hk⟩)) hg hat); have n2_ := zaa.mk (hb); have n3_ := zaa.mk (ho); clear HO_4; clear HO138; clear HB; clear HO_6; have HO_4 := n0_; have HO138 := n1_; have HB := n2_; have HO141 := n3_; clear n0_ n1_ n2_ n3_; clear ho hb hg hat)))
                     go_roundg k3
                     case measure => have := HK1.out; have := HK2.out; have := HK3.out; omega
                     case rel => exact ⟨(y136), (y139), (wrap64 (x7_2 + 1)), (by first | rfl | (simp; done) | (simp [*]; done)), H', ⟨by have := HK1.out; have := HK2.out; have := HK3.out; omega⟩, ⟨by (with_reducible repeat (first | apply yaz | apply yba | apply ybb)); exact Kd.R_mono HO138.out (fun _ hk => hk.2)⟩, ⟨by (with_reducible repeat (first | apply yaz | apply yba | apply ybb)); exact HO_4.out⟩, ⟨by (with_reducible repeat (first | apply yaz | apply yba | apply ybb)); exact HO141.out⟩, ⟨by repeat (first | (with_reducible first | exact HB.out | apply zac | apply zab | apply zad) | exact HB.out)⟩⟩
                    ·rw [if_neg c23] at H
                     exact absurd H (by simp)
                   ·rw [if_neg c22] at H
                    exact absurd H (by simp)
                  ·rw [if_neg c20] at H
                   have c20b0 : (x8_3 == (x3_2.length : Int)) = false := beq_eq_false_iff_ne.mpr c20
                   have c20b1 : (x8_3 != (x3_2.length : Int)) = true := bne_iff_ne.mpr c20
                   by_cases c27 : x6_2.length < 140737488355328
                   ·rw [if_pos c27] at H
                    have LMc27 := zaa.mk c27
                    clear c27
                    obtain ⟨y142, hy142⟩ : ∃ y_ : List Int, y_ = (x6_2 ++ [(wrap64 (97 + x8_3)) % 256]) := ⟨_, rfl⟩
                    replace H : (spec_l1Names.l1 k3 l0 x3_2 x4_1 x5_1 y142 (wrap64 (x7_2 + 1))) = some r := by first | (rw [hy142]; with_reducible exact H) | (have H2_ := (yax _ _).symm.trans H; rw [hy142]; with_reducible exact H2_) | (have H2_ := (yax _ _).symm.trans H; with_reducible exact H2_) | with_reducible exact H | (rw [hy142]; exact H) | exact H
                    have Ny142 := zaa.mk hy142
                    clear hy142
                    have H' := zaa.mk H
                    clear H
                    obtain ⟨Ao28, co28, eo28⟩ := Kd.R_slice HO_3.out
                    subst eo28
                    have p133 : 0 ≤ (x8_3 : Int) := of_decide_eq_true (by assumption)
                    have q133 : x8_3 < (x3_2.length : Int) := of_decide_eq_true (by assumption)
                    obtain ⟨ad133, e133, hx133_0⟩ := Kd.at_int (Kd.R_reads' HO_3.out).2.2 x8_3 p133 q133
                    cases e133
                    replace p133 := eq_true p133
                    replace q133 := eq_true q133
                    have p134 : 0 ≤ (x5_1 : Int) := of_decide_eq_true (by assumption)
                    have q134 : x5_1 < (l0.length : Int) := of_decide_eq_true (by assumption)
                    obtain ⟨ad134, e134, hx134_0⟩ := Kd.at_string HR0.out x5_1 p134 q134
                    obtain rfl : ad129 = ad134 := (by injection e134)
                    replace hx134_0 := (HB.out.cell (World.block_lt_of_cell? w _ hx134_0)).trans hx134_0
                    replace p134 := eq_true p134
                    replace q134 := eq_true q134
                    have p18 : 0 ≤ (x7_2 : Int) := of_decide_eq_true (by assumption)
                    have q18 : x7_2 < ((rdOf yav l0 x5_1).size : Int) := of_decide_eq_true (by assumption)
                    have hx18 := bt_at (rdOf yav l0 x5_1) x7_2
                    replace p18 := eq_true p18
                    replace q18 := eq_true q18
                    go_wp2_with (fail)
                    repeat (go_quiet (fail); try go_wp2_with (first | ((with_reducible refine zay (b := .append) (xs := #[.tmp 59, .tmp 63]) rfl ?_); at_builtin; refine Kd.R_append (Kd.int .u8) (w0 := w) w.heap.size rfl (.tmp 59) (.tmp 63) 22 5 (.int .u8 0) 1 rfl Try.underlying22 info5 rfl (by decide) (by omega) u6 x6_2 ((wrap64 (97 + x8_3)) % 256) [.int .u8 ((wrap64 (97 + x8_3)) % 256)] (fun k_ => some k_ ≠ (.slice (some ad133) x3_2.length co28 : Value).ownBlock) (fun _ => False) rfl rfl ?aP (fun _ hk => hk.elim) ?aF ?aO ?aB ?aS ?aL ?_; (case aP => exact rfl); (case aB => exact (by repeat (first | (with_reducible first | exact HB.out | apply zac | apply zab | apply zad) | exact HB.out))); (case aF => exact (fun k_ hk => Kd.fresh' (Kd.R_lt (by (with_reducible repeat (first | apply yaz | apply yba | apply ybb)); exact HO_3.out)) k_ hk)); (case aO => exact (by (with_reducible repeat (first | apply yaz | apply yba | apply ybb)); exact HO_6.out)); (case aS => exact (zai (by repeat (first | (with_reducible first | exact HB.out | apply zac | apply zab | apply zad) | exact HB.out)))); (case aL => have := LMc27.out; omega); intro v143 w29 ho hb hg hat; rw [← Ny142.out] at ho; have n0_ := zaa.mk (Kd.R_after (ok := (fun _ => True)) (by (with_reducible repeat (first | apply yaz | apply yba | apply ybb)); exact Kd.R_mono HO_3.out (fun _ hk => ⟨trivial, hk⟩)) hg hat); have n1_ := zaa.mk (Kd.R_over' (by (with_reducible repeat (first | apply yaz | apply yba | apply ybb)); exact HO_4.out) (Kd.R_typed (by (with_reducible repeat (first | apply yaz | apply yba | apply ybb)); exact HO_6.out)) (by decide) hg); have n2_ := zaa.mk (hb); have n3_ := zaa.mk (ho); clear HO_3; clear HO_4; clear HB; clear HO_6; have HO_3 := n0_; have HO_4 := n1_; have HB := n2_; have HO144 := n3_; clear n0_ n1_ n2_ n3_; clear ho hb hg hat)))
                    go_roundg k3
                    case measure => have := HK1.out; have := HK2.out; have := HK3.out; omega
                    case rel => exact ⟨(x3_2), (y142), (wrap64 (x7_2 + 1)), (by first | rfl | (simp; done) | (simp [*]; done)), H', ⟨by have := HK1.out; have := HK2.out; have := HK3.out; omega⟩, ⟨by (with_reducible repeat (first | apply yaz | apply yba | apply ybb)); exact Kd.R_mono HO_3.out (fun _ hk => hk.2)⟩, ⟨by (with_reducible repeat (first | apply yaz | apply yba | apply ybb)); exact HO_4.out⟩, ⟨by (with_reducible repeat (first | apply yaz | apply yba | apply ybb)); exact HO144.out⟩, ⟨by repeat (first | (with_reducible first | exact HB.out | apply zac | apply zab | apply zad) | exact HB.out)⟩⟩
                   ·rw [if_neg c27] at H
                    exact absurd H (by simp)
                 ·rw [if_neg c19] at H
                  have c19b0 : ((rd x3_2 x8_3) == (bt (rdOf yav l0 x5_1) x7_2)) = false := beq_eq_false_iff_ne.mpr c19
                  have c19b1 : ((rd x3_2 x8_3) != (bt (rdOf yav l0 x5_1) x7_2)) = true := bne_iff_ne.mpr c19
                  have H' := zaa.mk H
                  clear H
                  obtain ⟨Ao30, co30, eo30⟩ := Kd.R_slice HO_3.out
                  subst eo30
                  have p133 : 0 ≤ (x8_3 : Int) := of_decide_eq_true (by assumption)
                  have q133 : x8_3 < (x3_2.length : Int) := of_decide_eq_true (by assumption)
                  obtain ⟨ad133, e133, hx133_0⟩ := Kd.at_int (Kd.R_reads' HO_3.out).2.2 x8_3 p133 q133
                  cases e133
                  replace p133 := eq_true p133
                  replace q133 := eq_true q133
                  have p134 : 0 ≤ (x5_1 : Int) := of_decide_eq_true (by assumption)
                  have q134 : x5_1 < (l0.length : Int) := of_decide_eq_true (by assumption)
                  obtain ⟨ad134, e134, hx134_0⟩ := Kd.at_string HR0.out x5_1 p134 q134
                  obtain rfl : ad129 = ad134 := (by injection e134)
                  replace hx134_0 := (HB.out.cell (World.block_lt_of_cell? w _ hx134_0)).trans hx134_0
                  replace p134 := eq_true p134
                  replace q134 := eq_true q134
                  have p18 : 0 ≤ (x7_2 : Int) := of_decide_eq_true (by assumption)
                  have q18 : x7_2 < ((rdOf yav l0 x5_1).size : Int) := of_decide_eq_true (by assumption)
                  have hx18 := bt_at (rdOf yav l0 x5_1) x7_2
                  replace p18 := eq_true p18
                  replace q18 := eq_true q18
                  go_wp2
                  repeat (go_quiet (fail); try go_wp2)
                  go_roundg k3
                  case measure => have := HK1.out; have := HK2.out; have := HK3.out; omega
                  case rel => exact ⟨(wrap64 (x8_3 + 1)), (by first | rfl | (simp; done) | (simp [*]; done)), H', ⟨by have := HK1.out; have := HK2.out; have := HK3.out; omega⟩, ⟨by (with_reducible repeat (first | apply yaz | apply yba | apply ybb)); exact HO_3.out⟩, ⟨by (with_reducible repeat (first | apply yaz | apply yba | apply ybb)); exact HO_4.out⟩, ⟨by (with_reducible repeat (first | apply yaz | apply yba | apply ybb)); exact HO_6.out⟩, ⟨by repeat (first | (with_reducible first | exact HB.out | apply zac | apply zab | apply zad) | exact HB.out)⟩⟩
                ·rw [if_neg c17] at H
                 exact absurd H (by simp)
               ·rw [if_neg c16] at H
                exact absurd H (by simp)
              ·rw [if_neg c15] at H
               exact absurd H (by simp)
             ·rw [if_neg c14] at H
              exact absurd H (by simp)
            ·rw [if_neg c13] at H
             exact absurd H (by simp)
           ·rw [if_neg c12] at H
            have c12b0 : decide (x8_3 < (x3_2.length : Int)) = false := decide_eq_false c12
            clear c12
            by_cases c31 : x8_3 = (x3_2.length : Int)
            ·rw [if_pos c31] at H
             have c31b0 : (x8_3 == (x3_2.length : Int)) = true := beq_iff_eq.mpr c31
             have c31b1 : (x8_3 != (x3_2.length : Int)) = false := bne_eq_false_iff_eq.mpr c31
             clear c31
             by_cases c32 : 0 ≤ x5_1
             ·rw [if_pos c32] at H
              have c32b0 : decide (0 ≤ x5_1) = true := decide_eq_true c32
              clear c32
              by_cases c33 : x5_1 < (l0.length : Int)
              ·rw [if_pos c33] at H
               have c33b0 : decide (x5_1 < (l0.length : Int)) = true := decide_eq_true c33
               clear c33
               by_cases c34 : 0 ≤ x7_2
               ·rw [if_pos c34] at H
                have c34b0 : decide (0 ≤ x7_2) = true := decide_eq_true c34
                clear c34
                by_cases c35 : x7_2 < ((rdOf yav l0 x5_1).size : Int)
                ·rw [if_pos c35] at H
                 have c35b0 : decide (x7_2 < ((rdOf yav l0 x5_1).size : Int)) = true := decide_eq_true c35
                 clear c35
                 by_cases c37 : x3_2.length < 140737488355328
                 ·rw [if_pos c37] at H
                  have LMc37 := zaa.mk c37
                  clear c37
                  obtain ⟨y146, hy146⟩ : ∃ y_ : List Int, y_ = (x3_2 ++ [bt (rdOf yav l0 x5_1) x7_2]) := ⟨_, rfl⟩
                  replace H : (if x6_2.length < 140737488355328 then (spec_l1Names.l1 k3 l0 y146 x4_1 x5_1 (x6_2 ++ [(wrap64 (97 + x8_3)) % 256]) (wrap64 (x7_2 + 1))) else (none)) = some r := by first | (rw [hy146]; with_reducible exact H) | (have H2_ := (yax _ _).symm.trans H; rw [hy146]; with_reducible exact H2_) | (have H2_ := (yax _ _).symm.trans H; with_reducible exact H2_) | with_reducible exact H | (rw [hy146]; exact H) | exact H
                  have Ny146 := zaa.mk hy146
                  clear hy146
                  by_cases c38 : x6_2.length < 140737488355328
                  ·rw [if_pos c38] at H
                   have LMc38 := zaa.mk c38
                   clear c38
                   obtain ⟨y149, hy149⟩ : ∃ y_ : List Int, y_ = (x6_2 ++ [(wrap64 (97 + x8_3)) % 256]) := ⟨_, rfl⟩
                   replace H : (spec_l1Names.l1 k3 l0 y146 x4_1 x5_1 y149 (wrap64 (x7_2 + 1))) = some r := by first | (rw [hy149]; with_reducible exact H) | (have H2_ := (yax _ _).symm.trans H; rw [hy149]; with_reducible exact H2_) | (have H2_ := (yax _ _).symm.trans H; with_reducible exact H2_) | with_reducible exact H | (rw [hy149]; exact H) | exact H
                   have Ny149 := zaa.mk hy149
                   clear hy149
                   have H' := zaa.mk H
                   clear H
                   obtain ⟨Ao39, co39, eo39⟩ := Kd.R_slice HO_3.out
                   subst eo39
                   have p145 : 0 ≤ (x5_1 : Int) := of_decide_eq_true (by assumption)
                   have q145 : x5_1 < (l0.length : Int) := of_decide_eq_true (by assumption)
                   obtain ⟨ad145, e145, hx145_0⟩ := Kd.at_string HR0.out x5_1 p145 q145
                   obtain rfl : ad129 = ad145 := (by injection e145)
                   replace hx145_0 := (HB.out.cell (World.block_lt_of_cell? w _ hx145_0)).trans hx145_0
                   replace p145 := eq_true p145
                   replace q145 := eq_true q145
                   have p36 : 0 ≤ (x7_2 : Int) := of_decide_eq_true (by assumption)
                   have q36 : x7_2 < ((rdOf yav l0 x5_1).size : Int) := of_decide_eq_true (by assumption)
                   have hx36 := bt_at (rdOf yav l0 x5_1) x7_2
                   replace p36 := eq_true p36
                   replace q36 := eq_true q36
                   go_wp2_with (fail)
                   repeat (go_quiet (fail); try go_wp2_with (first | ((with_reducible refine zay (b := .append) (xs := #[.tmp 50, .tmp 57]) rfl ?_); at_builtin; refine Kd.R_append (Kd.int .u8) (w0 := w) w.heap.size rfl (.tmp 50) (.tmp 57) 22 5 (.int .u8 0) 1 rfl Try.underlying22 info5 rfl (by decide) (by omega) (.slice Ao39 x3_2.length co39) x3_2 (bt (rdOf yav l0 x5_1) x7_2) [.int .u8 (bt (rdOf yav l0 x5_1) x7_2)] (fun k_ => some k_ ≠ (u6 : Value).ownBlock) (fun _ => False) rfl rfl ?aP (fun _ hk => hk.elim) ?aF ?aO ?aB ?aS ?aL ?_; (case aP => exact rfl); (case aB => exact (by repeat (first | (with_reducible first | exact HB.out | apply zac | apply zab | apply zad) | exact HB.out))); (case aF => exact (fun k_ hk => Kd.fresh' (Kd.R_lt (by (with_reducible repeat (first | apply yaz | apply yba | apply ybb)); exact HO_6.out)) k_ hk)); (case aO => exact (by (with_reducible repeat (first | apply yaz | apply yba | apply ybb)); exact HO_3.out)); (case aS => exact (zai (by repeat (first | (with_reducible first | exact HB.out | apply zac | apply zab | apply zad) | exact HB.out)))); (case aL => have := LMc37.out; omega); intro v147 w40 ho hb hg hat; rw [← Ny146.out] at ho; have n0_ := zaa.mk (Kd.R_over' (by (with_reducible repeat (first | apply yaz | apply yba | apply ybb)); exact HO_4.out) (Kd.R_typed (by (with_reducible repeat (first | apply yaz | apply yba | apply ybb)); exact HO_3.out)) (by decide) hg); have n1_ := zaa.mk (Kd.R_after (ok := (fun _ => True)) (by (with_reducible repeat (first | apply yaz | apply yba | apply ybb)); exact Kd.R_mono HO_6.out (fun _ hk => ⟨trivial, hk⟩)) hg hat); have n2_ := zaa.mk (hb); have n3_ := zaa.mk (ho); clear HO_4; clear HO_6; clear HB; clear HO_3; have HO_4 := n0_; have HO_6 := n1_; have HB := n2_; have HO148 := n3_; clear n0_ n1_ n2_ n3_; clear ho hb hg hat) | ((with_reducible refine zay (b := .append) (xs := #[.tmp 59, .tmp 63]) rfl ?_); at_builtin; refine Kd.R_append (Kd.int .u8) (w0 := w) w.heap.size rfl (.tmp 59) (.tmp 63) 22 5 (.int .u8 0) 1 rfl Try.underlying22 info5 rfl (by decide) (by omega) u6 x6_2 ((wrap64 (97 + x8_3)) % 256) [.int .u8 ((wrap64 (97 + x8_3)) % 256)] (fun k_ => some k_ ≠ (v147 : Value).ownBlock) (fun _ => False) rfl rfl ?aP (fun _ hk => hk.elim) ?aF ?aO ?aB ?aS ?aL ?_; (case aP => exact rfl); (case aB => exact (by repeat (first | (with_reducible first | exact HB.out | apply zac | apply zab | apply zad) | exact HB.out))); (case aF => exact (fun k_ hk => Kd.fresh' (Kd.R_lt (by (with_reducible repeat (first | apply yaz | apply yba | apply ybb)); exact HO148.out)) k_ hk)); (case aO => exact (by (with_reducible repeat (first | apply yaz | apply yba | apply ybb)); exact Kd.R_mono HO_6.out (fun _ hk => hk.2))); (case aS => exact (zai (by repeat (first | (with_reducible first | exact HB.out | apply zac | apply zab | apply zad) | exact HB.out)))); (case aL => have := LMc38.out; omega); intro v150 w41 ho hb hg hat; rw [← Ny149.out] at ho; have n0_ := zaa.mk (Kd.R_over' (by (with_reducible repeat (first | apply yaz | apply yba | apply ybb)); exact HO_4.out) (Kd.R_typed (by (with_reducible repeat (first | apply yaz | apply yba | apply ybb)); exact HO_6.out)) (by decide) hg); have n1_ := zaa.mk (Kd.R_after (ok := (fun _ => True)) (by (with_reducible repeat (first | apply yaz | apply yba | apply ybb)); exact Kd.R_mono HO148.out (fun _ hk => ⟨trivial, hk⟩)) hg hat); have n2_ := zaa.mk (hb); have n3_ := zaa.mk (ho); clear HO_4; clear HO148; clear HB; clear HO_6; have HO_4 := n0_; have HO148 := n1_; have HB := n2_; have HO151 := n3_; clear n0_ n1_ n2_ n3_; clear ho hb hg hat)))
                   go_roundg k3
                   case measure => have := HK1.out; have := HK2.out; have := HK3.out; omega
                   case rel => exact ⟨(y146), (y149), (wrap64 (x7_2 + 1)), (by first | rfl | (simp; done) | (simp [*]; done)), H', ⟨by have := HK1.out; have := HK2.out; have := HK3.out; omega⟩, ⟨by (with_reducible repeat (first | apply yaz | apply yba | apply ybb)); exact Kd.R_mono HO148.out (fun _ hk => hk.2)⟩, ⟨by (with_reducible repeat (first | apply yaz | apply yba | apply ybb)); exact HO_4.out⟩, ⟨by (with_reducible repeat (first | apply yaz | apply yba | apply ybb)); exact HO151.out⟩, ⟨by repeat (first | (with_reducible first | exact HB.out | apply zac | apply zab | apply zad) | exact HB.out)⟩⟩
                  ·rw [if_neg c38] at H
                   exact absurd H (by simp)
                 ·rw [if_neg c37] at H
                  exact absurd H (by simp)
                ·rw [if_neg c35] at H
                 exact absurd H (by simp)
               ·rw [if_neg c34] at H
                exact absurd H (by simp)
              ·rw [if_neg c33] at H
               exact absurd H (by simp)
             ·rw [if_neg c32] at H
              exact absurd H (by simp)
            ·rw [if_neg c31] at H
             have c31b0 : (x8_3 == (x3_2.length : Int)) = false := beq_eq_false_iff_ne.mpr c31
             have c31b1 : (x8_3 != (x3_2.length : Int)) = true := bne_iff_ne.mpr c31
             by_cases c42 : x6_2.length < 140737488355328
             ·rw [if_pos c42] at H
              have LMc42 := zaa.mk c42
              clear c42
              obtain ⟨y152, hy152⟩ : ∃ y_ : List Int, y_ = (x6_2 ++ [(wrap64 (97 + x8_3)) % 256]) := ⟨_, rfl⟩
              replace H : (spec_l1Names.l1 k3 l0 x3_2 x4_1 x5_1 y152 (wrap64 (x7_2 + 1))) = some r := by first | (rw [hy152]; with_reducible exact H) | (have H2_ := (yax _ _).symm.trans H; rw [hy152]; with_reducible exact H2_) | (have H2_ := (yax _ _).symm.trans H; with_reducible exact H2_) | with_reducible exact H | (rw [hy152]; exact H) | exact H
              have Ny152 := zaa.mk hy152
              clear hy152
              have H' := zaa.mk H
              clear H
              obtain ⟨Ao43, co43, eo43⟩ := Kd.R_slice HO_3.out
              subst eo43
              go_wp2_with (fail)
              repeat (go_quiet (fail); try go_wp2_with (first | ((with_reducible refine zay (b := .append) (xs := #[.tmp 59, .tmp 63]) rfl ?_); at_builtin; refine Kd.R_append (Kd.int .u8) (w0 := w) w.heap.size rfl (.tmp 59) (.tmp 63) 22 5 (.int .u8 0) 1 rfl Try.underlying22 info5 rfl (by decide) (by omega) u6 x6_2 ((wrap64 (97 + x8_3)) % 256) [.int .u8 ((wrap64 (97 + x8_3)) % 256)] (fun k_ => some k_ ≠ (.slice Ao43 x3_2.length co43 : Value).ownBlock) (fun _ => False) rfl rfl ?aP (fun _ hk => hk.elim) ?aF ?aO ?aB ?aS ?aL ?_; (case aP => exact rfl); (case aB => exact (by repeat (first | (with_reducible first | exact HB.out | apply zac | apply zab | apply zad) | exact HB.out))); (case aF => exact (fun k_ hk => Kd.fresh' (Kd.R_lt (by (with_reducible repeat (first | apply yaz | apply yba | apply ybb)); exact HO_3.out)) k_ hk)); (case aO => exact (by (with_reducible repeat (first | apply yaz | apply yba | apply ybb)); exact HO_6.out)); (case aS => exact (zai (by repeat (first | (with_reducible first | exact HB.out | apply zac | apply zab | apply zad) | exact HB.out)))); (case aL => have := LMc42.out; omega); intro v153 w44 ho hb hg hat; rw [← Ny152.out] at ho; have n0_ := zaa.mk (Kd.R_after (ok := (fun _ => True)) (by (with_reducible repeat (first | apply yaz | apply yba | apply ybb)); exact Kd.R_mono HO_3.out (fun _ hk => ⟨trivial, hk⟩)) hg hat); have n1_ := zaa.mk (Kd.R_over' (by (with_reducible repeat (first | apply yaz | apply yba | apply ybb)); exact HO_4.out) (Kd.R_typed (by (with_reducible repeat (first | apply yaz | apply yba | apply ybb)); exact HO_6.out)) (by decide) hg); have n2_ := zaa.mk (hb); have n3_ := zaa.mk (ho); clear HO_3; clear HO_4; clear HB; clear HO_6; have HO_3 := n0_; have HO_4 := n1_; have HB := n2_; have HO154 := n3_; clear n0_ n1_ n2_ n3_; clear ho hb hg hat)))
              go_roundg k3
              case measure => have := HK1.out; have := HK2.out; have := HK3.out; omega
              case rel => exact ⟨(x3_2), (y152), (wrap64 (x7_2 + 1)), (by first | rfl | (simp; done) | (simp [*]; done)), H', ⟨by have := HK1.out; have := HK2.out; have := HK3.out; omega⟩, ⟨by (with_reducible repeat (first | apply yaz | apply yba | apply ybb)); exact Kd.R_mono HO_3.out (fun _ hk => hk.2)⟩, ⟨by (with_reducible repeat (first | apply yaz | apply yba | apply ybb)); exact HO_4.out⟩, ⟨by (with_reducible repeat (first | apply yaz | apply yba | apply ybb)); exact HO154.out⟩, ⟨by repeat (first | (with_reducible first | exact HB.out | apply zac | apply zab | apply zad) | exact HB.out)⟩⟩
             ·rw [if_neg c42] at H
              exact absurd H (by simp)
        ·rw [if_neg c11] at H
         have c11b0 : decide (x7_2 < ((rdOf yav l0 x5_1).size : Int)) = false := decide_eq_false c11
         clear c11
         by_cases c45 : x4_1.length < 8796093022208
         ·rw [if_pos c45] at H
          have LMc45 := zaa.mk c45
          clear c45
          obtain ⟨y130, hy130⟩ : ∃ y_ : List ByteArray, y_ = (x4_1 ++ [strOfNums x6_2]) := ⟨_, rfl⟩
          replace H : (spec_l1Names.l0 k2 l0 x3_2 y130 (wrap64 (x5_1 + 1))) = some r := by first | (rw [hy130]; with_reducible exact H) | (have H2_ := (yax _ _).symm.trans H; rw [hy130]; with_reducible exact H2_) | (have H2_ := (yax _ _).symm.trans H; with_reducible exact H2_) | with_reducible exact H | (rw [hy130]; exact H) | exact H
          have Ny130 := zaa.mk hy130
          clear hy130
          have H' := zaa.mk H
          clear H
          have p129 : 0 ≤ (x5_1 : Int) := of_decide_eq_true (by assumption)
          have q129 : x5_1 < (l0.length : Int) := of_decide_eq_true (by assumption)
          obtain ⟨ad129, e129, hx129_0⟩ := Kd.at_string HR0.out x5_1 p129 q129
          cases e129
          replace hx129_0 := (HB.out.cell (World.block_lt_of_cell? w _ hx129_0)).trans hx129_0
          replace p129 := eq_true p129
          replace q129 := eq_true q129
          have hcv46 := own_string (P := Try.prog) Try.underlying22 Try.underlying5 Try.underlying9 (Kd.own_of_R HO_6.out)
          go_wp2_with (first | ((with_reducible refine zay (b := .append) (xs := #[.tmp 65, .tmp 68]) rfl ?_); at_builtin; refine Kd.R_append Kd.string (w0 := w) w.heap.size rfl (.tmp 65) (.tmp 68) 23 9 (.string ⟨#[]⟩) 16 rfl Try.underlying23 info9 rfl (by decide) (by omega) u4 x4_1 (strOfNums x6_2) [.string (strOfNums x6_2)] (fun _ => True) (fun _ => False) rfl rfl ?aP (fun _ hk => hk.elim) ?aF ?aO ?aB ?aS ?aL ?_; (case aP => exact rfl); (case aB => exact (by repeat (first | (with_reducible first | exact HB.out | apply zac | apply zab | apply zad) | exact HB.out))); (case aF => exact (fun _ _ => trivial)); (case aO => exact (by (with_reducible repeat (first | apply yaz | apply yba | apply ybb)); exact HO_4.out)); (case aS => exact (zai (by repeat (first | (with_reducible first | exact HB.out | apply zac | apply zab | apply zad) | exact HB.out)))); (case aL => have := LMc45.out; omega); intro v131 w47 ho hb hg hat; rw [← Ny130.out] at ho; have n0_ := zaa.mk (Kd.R_over' (by (with_reducible repeat (first | apply yaz | apply yba | apply ybb)); exact HO_3.out) (Kd.R_typed (by (with_reducible repeat (first | apply yaz | apply yba | apply ybb)); exact HO_4.out)) (by decide) hg); have n1_ := zaa.mk (Kd.R_over' (by (with_reducible repeat (first | apply yaz | apply yba | apply ybb)); exact HO_6.out) (Kd.R_typed (by (with_reducible repeat (first | apply yaz | apply yba | apply ybb)); exact HO_4.out)) (by decide) hg); have n2_ := zaa.mk (hb); have n3_ := zaa.mk (ho); clear HO_3; clear HO_6; clear HB; clear HO_4; have HO_3 := n0_; have HO_6 := n1_; have HB := n2_; have HO132 := n3_; clear n0_ n1_ n2_ n3_; clear ho hb hg hat))
          repeat (go_quiet (fail); try go_wp2_with (fail))
          go_roundg k2
          case measure => have := HK1.out; have := HK2.out; omega
          case rel => exact ⟨(x3_2), (y130), (wrap64 (x5_1 + 1)), (by first | rfl | (simp; done) | (simp [*]; done)), H', ⟨by have := HK1.out; have := HK2.out; omega⟩, ⟨by (with_reducible repeat (first | apply yaz | apply yba | apply ybb)); exact Kd.R_mono HO_3.out (fun _ hk => trivial)⟩, ⟨by (with_reducible repeat (first | apply yaz | apply yba | apply ybb)); exact HO132.out⟩, ⟨by repeat (first | (with_reducible first | exact HB.out | apply zac | apply zab | apply zad) | exact HB.out)⟩⟩
         ·rw [if_neg c45] at H
          exact absurd H (by simp)
       ·rw [if_neg c10] at H
        exact absurd H (by simp)
      ·rw [if_neg c9] at H
       exact absurd H (by simp)
   ·rw [if_neg c6] at H
    have c6b0 : decide (x5_1 < (l0.length : Int)) = false := decide_eq_false c6
    clear c6
    obtain rfl := Option.some.inj H
    go_wp2
    repeat (go_quiet (fail); try go_wp2)
    go_ret
    exact ⟨_, by first | rfl | (simp [zan, zam] <;> rfl) | (simp [*, zan, zam] <;> rfl), by (with_reducible repeat (first | apply yaz | apply yba | apply ybb)); exact HO_4.out, by repeat (first | (with_reducible first | exact HB.out | apply zac | apply zab | apply zad) | exact HB.out)⟩
end Go.Proofs.Ytaepgogafkmooaa.PB
namespace Go.Proofs.Ytaepgogafkmooaa.PB
open Go.RowKit Go.PW.PrintWords Go.PW.PrintLast Go.PW.PrintMore
attribute [local go_sem] zcb zbz max_two min_two zbs zbr zca zby   -- for this text's walks alone
def spec_l1Same.l0 : Nat → List ByteArray → List ByteArray → Int → Option (Bool)
 | 0, _, _, _ => none
 | k + 1, x0, x1, x5 => if x5 < (x0.length : Int) then (if 0 ≤ x5 then (if x5 < (x1.length : Int) then (if (rdOf yav x0 x5).toList = (rdOf yav x1 x5).toList then (spec_l1Same.l0 k x0 x1 (wrap64 (x5 + 1))) else (some false)) else (none)) else (none)) else (some true)
def spec_l1Same.f (k : Nat) (l0 : List ByteArray) (l1 : List ByteArray) : Option (Bool) := if (l0.length : Int) = (l1.length : Int) then (spec_l1Same.l0 k l0 l1 0) else (some false)
set_option maxHeartbeats 8000000 in
set_option maxRecDepth 100000 in
theorem spec_l1Same.calls (k : Nat) (A0 : Option Addr) (c0 : Nat) (l0 : List ByteArray) (A1 : Option Addr) (c1 : Nat) (l1 : List ByteArray) (r : Bool) (w : World) (hr0 : Kd.C Kd.string w A0 l0.length l0) (hc0 : l0.length ≤ c0) (hr1 : Kd.C Kd.string w A1 l1.length l1) (hc1 : l1.length ≤ c1) (h : spec_l1Same.f k l0 l1 = some r) :
  Calls Try.prog 124 #[.slice A0 l0.length c0, .slice A1 l1.length c1] w fun e w' => e = .returned (.bool r) ∧ zbe w w' := by
 have HR0 := zaa.mk hr0
 have HC0 := zaa.mk hc0
 clear hr0 hc0
 have HR1 := zaa.mk hr1
 have HC1 := zaa.mk hc1
 clear hr1 hc1
 have H : (if (l0.length : Int) = (l1.length : Int) then (spec_l1Same.l0 k l0 l1 0) else (some false)) = some r := h
 clear h
 by_cases c3 : (l0.length : Int) = (l1.length : Int)
 ·rw [if_pos c3] at H
  have c3b0 : ((l0.length : Int) == (l1.length : Int)) = true := beq_iff_eq.mpr c3
  have c3b1 : ((l0.length : Int) != (l1.length : Int)) = false := bne_eq_false_iff_eq.mpr c3
  have c3b2 : (l0.length == l1.length) = true := by first | simpa using c3 | (simp at c3 ⊢; omega)
  clear c3
  have H' := zaa.mk H
  clear H
  go_enter Try.func124, Try.ntmps124
  go_wp2
  repeat (go_quiet (fail); try go_wp2)
  go_loopg [5] k (fun kq v5 w' => ∃ (x5_1 : Int), v5 = .int .i64 x5_1 ∧ zaa (spec_l1Same.l0 kq l0 l1 x5_1 = some r) ∧ zaa (kq ≤ k) ∧ zbe w w')
  case atStart => exact ⟨(0), (by first | rfl | (simp; done) | (simp [*]; done)), H', ⟨yay _⟩, by repeat (first | exact zbe.refl _ | apply zbe.step)⟩
  case round =>
   clear H'
   try clear c1
   try clear p2
   try clear c3
   try clear c3b0
   try clear c3b1
   try clear c3b2
   obtain ⟨x5_1, rfl, HA, HK1, ⟨m1, rfl⟩⟩ := hrel
   cases gk with
   | zero => exact absurd HA.out (by simp [spec_l1Same.l0])
   | succ k1 =>
    have H := HA.out
    clear HA
    simp only [spec_l1Same.l0] at H
    by_cases c4 : x5_1 < (l0.length : Int)
    ·rw [if_pos c4] at H
     have c4b0 : decide (x5_1 < (l0.length : Int)) = true := decide_eq_true c4
     clear c4
     by_cases c5 : 0 ≤ x5_1
     ·rw [if_pos c5] at H
      have c5b0 : decide (0 ≤ x5_1) = true := decide_eq_true c5
      clear c5
      by_cases c6 : x5_1 < (l1.length : Int)
      ·rw [if_pos c6] at H
       have c6b0 : decide (x5_1 < (l1.length : Int)) = true := decide_eq_true c6
       clear c6
       by_cases c7 : (rdOf yav l0 x5_1).toList = (rdOf yav l1 x5_1).toList
       ·rw [if_pos c7] at H
        have c7b0 : ((rdOf yav l0 x5_1).toList == (rdOf yav l1 x5_1).toList) = true := beq_iff_eq.mpr c7
        have c7b1 : ((rdOf yav l0 x5_1).toList != (rdOf yav l1 x5_1).toList) = false := bne_eq_false_iff_eq.mpr c7
        clear c7
        have H' := zaa.mk H
        clear H
        have p155 : 0 ≤ (x5_1 : Int) := of_decide_eq_true (by assumption)
        have q155 : x5_1 < (l0.length : Int) := of_decide_eq_true (by assumption)
        obtain ⟨ad155, e155, hx155_0⟩ := Kd.at_string HR0.out x5_1 p155 q155
        cases e155
        replace p155 := eq_true p155
        replace q155 := eq_true q155
        have p156 : 0 ≤ (x5_1 : Int) := of_decide_eq_true (by assumption)
        have q156 : x5_1 < (l1.length : Int) := of_decide_eq_true (by assumption)
        obtain ⟨ad156, e156, hx156_0⟩ := Kd.at_string HR1.out x5_1 p156 q156
        cases e156
        replace p156 := eq_true p156
        replace q156 := eq_true q156
        go_wp2
        repeat (go_quiet (fail); try go_wp2)
        go_roundg k1
        case measure => have := HK1.out; omega
        case rel => exact ⟨(wrap64 (x5_1 + 1)), (by first | rfl | (simp; done) | (simp [*]; done)), H', ⟨by have := HK1.out; omega⟩, by repeat (first | exact zbe.refl _ | apply zbe.step)⟩
       ·rw [if_neg c7] at H
        have c7b0 : ((rdOf yav l0 x5_1).toList == (rdOf yav l1 x5_1).toList) = false := beq_eq_false_iff_ne.mpr c7
        have c7b1 : ((rdOf yav l0 x5_1).toList != (rdOf yav l1 x5_1).toList) = true := bne_iff_ne.mpr c7
        obtain rfl := Option.some.inj H
        have p155 : 0 ≤ (x5_1 : Int) := of_decide_eq_true (by assumption)
        have q155 : x5_1 < (l0.length : Int) := of_decide_eq_true (by assumption)
        obtain ⟨ad155, e155, hx155_0⟩ := Kd.at_string HR0.out x5_1 p155 q155
        cases e155
        replace p155 := eq_true p155
        replace q155 := eq_true q155
        have p156 : 0 ≤ (x5_1 : Int) := of_decide_eq_true (by assumption)
        have q156 : x5_1 < (l1.length : Int) := of_decide_eq_true (by assumption)
        obtain ⟨ad156, e156, hx156_0⟩ := Kd.at_string HR1.out x5_1 p156 q156
        cases e156
        replace p156 := eq_true p156
        replace q156 := eq_true q156
        go_wp2
        repeat (go_quiet (fail); try go_wp2)
        go_ret
        exact ⟨by first | rfl | (simp; done) | (simp [*]; done), by repeat (first | exact zbe.refl _ | apply zbe.step)⟩
      ·rw [if_neg c6] at H
       exact absurd H (by simp)
     ·rw [if_neg c5] at H
      exact absurd H (by simp)
    ·rw [if_neg c4] at H
     have c4b0 : decide (x5_1 < (l0.length : Int)) = false := decide_eq_false c4
     clear c4
     obtain rfl := Option.some.inj H
     go_wp2
     repeat (go_quiet (fail); try go_wp2)
     go_ret
     exact ⟨by first | rfl | (simp; done) | (simp [*]; done), by repeat (first | exact zbe.refl _ | apply zbe.step)⟩
 ·rw [if_neg c3] at H
  have c3b0 : ((l0.length : Int) == (l1.length : Int)) = false := beq_eq_false_iff_ne.mpr c3
  have c3b1 : ((l0.length : Int) != (l1.length : Int)) = true := bne_iff_ne.mpr c3
  have c3b2 : (l0.length == l1.length) = false := by first | simpa using c3 | (simp at c3 ⊢; omega)
  obtain rfl := Option.some.inj H
  go_enter Try.func124, Try.ntmps124
  go_wp2
  repeat (go_quiet (fail); try go_wp2)
  go_ret
  exact ⟨by first | rfl | (simp; done) | (simp [*]; done), by repeat (first | exact zbe.refl _ | apply zbe.step)⟩
mutual
def spec_l1Cells.l0 : Nat → List ByteArray → Int → Int → Int → Option (Int)
 | 0, _, _, _, _ => none
 | k + 1, x0, x1, x5, x6 => if x6 < (x0.length : Int) then (spec_l1Cells.l1 k x0 x1 x5 x6 0) else (some x5)
def spec_l1Cells.l1 : Nat → List ByteArray → Int → Int → Int → Int → Option (Int)
 | 0, _, _, _, _, _ => none
 | k + 1, x0, x1, x5, x6, x7 => if 0 ≤ x6 then (if x6 < (x0.length : Int) then (if x7 < ((rdOf yav x0 x6).size : Int) then (if 0 ≤ x7 then (if (wrap64 ((wrap64 (bt (rdOf yav x0 x6) x7)) - 97)) = x1 then (spec_l1Cells.l1 k x0 x1 (wrap64 (x5 + 1)) x6 (wrap64 (x7 + 1))) else (spec_l1Cells.l1 k x0 x1 x5 x6 (wrap64 (x7 + 1)))) else (none)) else (spec_l1Cells.l0 k x0 x1 x5 (wrap64 (x6 + 1)))) else (none)) else (none)
end
def spec_l1Cells.f (k : Nat) (l0 : List ByteArray) (a1 : Int) : Option (Int) := spec_l1Cells.l0 k l0 a1 0 0
set_option maxHeartbeats 8000000 in
set_option maxRecDepth 100000 in
theorem spec_l1Cells.calls (k : Nat) (A0 : Option Addr) (c0 : Nat) (l0 : List ByteArray) (a1 : Int) (r : Int) (w : World) (hr0 : Kd.C Kd.string w A0 l0.length l0) (hc0 : l0.length ≤ c0) (h : spec_l1Cells.f k l0 a1 = some r) :
  Calls Try.prog 125 #[.slice A0 l0.length c0, .int .i64 a1] w fun e w' => e = .returned (.int .i64 r) ∧ zbe w w' := by
 have HR0 := zaa.mk hr0
 have HC0 := zaa.mk hc0
 clear hr0 hc0
 have H : (spec_l1Cells.l0 k l0 a1 0 0) = some r := h
 clear h
 have H' := zaa.mk H
 clear H
 go_enter Try.func125, Try.ntmps125
 go_wp2
 go_loopg [5, 6] k (fun kq v5 v6 w' => ∃ (x5_1 : Int) (x6_1 : Int), v5 = .int .i64 x5_1 ∧ v6 = .int .i64 x6_1 ∧ zaa (spec_l1Cells.l0 kq l0 a1 x5_1 x6_1 = some r) ∧ zaa (kq ≤ k) ∧ zbe w w')
 case atStart => exact ⟨(0), (0), (by first | rfl | (simp; done) | (simp [*]; done)), (by first | rfl | (simp; done) | (simp [*]; done)), H', ⟨yay _⟩, by repeat (first | exact zbe.refl _ | apply zbe.step)⟩
 case round =>
  clear H'
  try clear c1
  try clear p2
  obtain ⟨x5_1, x6_1, rfl, rfl, HA, HK1, ⟨m1, rfl⟩⟩ := hrel
  cases gk with
  | zero => exact absurd HA.out (by simp [spec_l1Cells.l0])
  | succ k1 =>
   have H := HA.out
   clear HA
   simp only [spec_l1Cells.l0] at H
   by_cases c3 : x6_1 < (l0.length : Int)
   ·rw [if_pos c3] at H
    have c3b0 : decide (x6_1 < (l0.length : Int)) = true := decide_eq_true c3
    clear c3
    have H' := zaa.mk H
    clear H
    go_wp2
    go_loopg [5, 7] k1 (fun kq v5 v7 w' => ∃ (x5_2 : Int) (x7_2 : Int), v5 = .int .i64 x5_2 ∧ v7 = .int .i64 x7_2 ∧ zaa (spec_l1Cells.l1 kq l0 a1 x5_2 x6_1 x7_2 = some r) ∧ zaa (kq ≤ k1) ∧ zbe w w')
    case atStart => exact ⟨(x5_1), (0), (by first | rfl | (simp; done) | (simp [*]; done)), (by first | rfl | (simp; done) | (simp [*]; done)), H', ⟨yay _⟩, by repeat (first | exact zbe.refl _ | apply zbe.step)⟩
    case round =>
     clear H'
     try clear c1
     try clear p2
     try clear c3
     try clear c3b0
     try clear p2
     obtain ⟨x5_2, x7_2, rfl, rfl, HA, HK2, ⟨m2, rfl⟩⟩ := hrel
     cases gk with
     | zero => exact absurd HA.out (by simp [spec_l1Cells.l1])
     | succ k2 =>
      have H := HA.out
      clear HA
      simp only [spec_l1Cells.l1] at H
      by_cases c4 : 0 ≤ x6_1
      ·rw [if_pos c4] at H
       have c4b0 : decide (0 ≤ x6_1) = true := decide_eq_true c4
       clear c4
       by_cases c5 : x6_1 < (l0.length : Int)
       ·rw [if_pos c5] at H
        have c5b0 : decide (x6_1 < (l0.length : Int)) = true := decide_eq_true c5
        clear c5
        by_cases c6 : x7_2 < ((rdOf yav l0 x6_1).size : Int)
        ·rw [if_pos c6] at H
         have c6b0 : decide (x7_2 < ((rdOf yav l0 x6_1).size : Int)) = true := decide_eq_true c6
         clear c6
         by_cases c7 : 0 ≤ x7_2
         ·rw [if_pos c7] at H
          have c7b0 : decide (0 ≤ x7_2) = true := decide_eq_true c7
          clear c7
          by_cases c9 : (wrap64 ((wrap64 (bt (rdOf yav l0 x6_1) x7_2)) - 97)) = a1
          ·rw [if_pos c9] at H
           have c9b0 : ((wrap64 ((wrap64 (bt (rdOf yav l0 x6_1) x7_2)) - 97)) == a1) = true := beq_iff_eq.mpr c9
           have c9b1 : ((wrap64 ((wrap64 (bt (rdOf yav l0 x6_1) x7_2)) - 97)) != a1) = false := bne_eq_false_iff_eq.mpr c9
           clear c9
           have H' := zaa.mk H
           clear H
           have p157 : 0 ≤ (x6_1 : Int) := of_decide_eq_true (by assumption)
           have q157 : x6_1 < (l0.length : Int) := of_decide_eq_true (by assumption)
           obtain ⟨ad157, e157, hx157_0⟩ := Kd.at_string HR0.out x6_1 p157 q157
           cases e157
           replace p157 := eq_true p157
           replace q157 := eq_true q157
           have p158 : 0 ≤ (x6_1 : Int) := of_decide_eq_true (by assumption)
           have q158 : x6_1 < (l0.length : Int) := of_decide_eq_true (by assumption)
           obtain ⟨ad158, e158, hx158_0⟩ := Kd.at_string HR0.out x6_1 p158 q158
           obtain rfl : ad157 = ad158 := (by injection e158)
           replace p158 := eq_true p158
           replace q158 := eq_true q158
           have p8 : 0 ≤ (x7_2 : Int) := of_decide_eq_true (by assumption)
           have q8 : x7_2 < ((rdOf yav l0 x6_1).size : Int) := of_decide_eq_true (by assumption)
           have hx8 := bt_at (rdOf yav l0 x6_1) x7_2
           replace p8 := eq_true p8
           replace q8 := eq_true q8
           go_wp2
           go_roundg k2
           case measure => have := HK1.out; have := HK2.out; omega
           case rel => exact ⟨(wrap64 (x5_2 + 1)), (wrap64 (x7_2 + 1)), (by first | rfl | (simp; done) | (simp [*]; done)), (by first | rfl | (simp; done) | (simp [*]; done)), H', ⟨by have := HK1.out; have := HK2.out; omega⟩, by repeat (first | exact zbe.refl _ | apply zbe.step)⟩
          ·rw [if_neg c9] at H
           have c9b0 : ((wrap64 ((wrap64 (bt (rdOf yav l0 x6_1) x7_2)) - 97)) == a1) = false := beq_eq_false_iff_ne.mpr c9
           have c9b1 : ((wrap64 ((wrap64 (bt (rdOf yav l0 x6_1) x7_2)) - 97)) != a1) = true := bne_iff_ne.mpr c9
           have H' := zaa.mk H
           clear H
           have p157 : 0 ≤ (x6_1 : Int) := of_decide_eq_true (by assumption)
           have q157 : x6_1 < (l0.length : Int) := of_decide_eq_true (by assumption)
           obtain ⟨ad157, e157, hx157_0⟩ := Kd.at_string HR0.out x6_1 p157 q157
           cases e157
           replace p157 := eq_true p157
           replace q157 := eq_true q157
           have p158 : 0 ≤ (x6_1 : Int) := of_decide_eq_true (by assumption)
           have q158 : x6_1 < (l0.length : Int) := of_decide_eq_true (by assumption)
           obtain ⟨ad158, e158, hx158_0⟩ := Kd.at_string HR0.out x6_1 p158 q158
           obtain rfl : ad157 = ad158 := (by injection e158)
           replace p158 := eq_true p158
           replace q158 := eq_true q158
           have p8 : 0 ≤ (x7_2 : Int) := of_decide_eq_true (by assumption)
           have q8 : x7_2 < ((rdOf yav l0 x6_1).size : Int) := of_decide_eq_true (by assumption)
           have hx8 := bt_at (rdOf yav l0 x6_1) x7_2
           replace p8 := eq_true p8
           replace q8 := eq_true q8
           go_wp2
           go_roundg k2
           case measure => have := HK1.out; have := HK2.out; omega
           case rel => exact ⟨(x5_2), (wrap64 (x7_2 + 1)), (by first | rfl | (simp; done) | (simp [*]; done)), (by first | rfl | (simp; done) | (simp [*]; done)), H', ⟨by have := HK1.out; have := HK2.out; omega⟩, by repeat (first | exact zbe.refl _ | apply zbe.step)⟩
         ·rw [if_neg c7] at H
          exact absurd H (by simp)
        ·rw [if_neg c6] at H
         have c6b0 : decide (x7_2 < ((rdOf yav l0 x6_1).size : Int)) = false := decide_eq_false c6
         clear c6
         have H' := zaa.mk H
         clear H
         have p157 : 0 ≤ (x6_1 : Int) := of_decide_eq_true (by assumption)
         have q157 : x6_1 < (l0.length : Int) := of_decide_eq_true (by assumption)
         obtain ⟨ad157, e157, hx157_0⟩ := Kd.at_string HR0.out x6_1 p157 q157
         cases e157
         replace p157 := eq_true p157
         replace q157 := eq_true q157
         go_wp2
         go_roundg k2
         case measure => have := HK1.out; have := HK2.out; omega
         case rel => exact ⟨(x5_2), (wrap64 (x6_1 + 1)), (by first | rfl | (simp; done) | (simp [*]; done)), (by first | rfl | (simp; done) | (simp [*]; done)), H', ⟨by have := HK1.out; have := HK2.out; omega⟩, by repeat (first | exact zbe.refl _ | apply zbe.step)⟩
       ·rw [if_neg c5] at H
        exact absurd H (by simp)
      ·rw [if_neg c4] at H
       exact absurd H (by simp)
   ·rw [if_neg c3] at H
    have c3b0 : decide (x6_1 < (l0.length : Int)) = false := decide_eq_false c3
    clear c3
    obtain rfl := Option.some.inj H
    go_wp2
    go_ret
    exact ⟨by first | rfl | (simp; done) | (simp [*]; done), by repeat (first | exact zbe.refl _ | apply zbe.step)⟩
end Go.Proofs.Ytaepgogafkmooaa.PB
namespace Go.Proofs.Ytaepgogafkmooaa.PB
open Go.RowKit Go.PW.PrintWords Go.PW.PrintLast Go.PW.PrintMore
attribute [local go_sem] zcb zbz max_two min_two zbs zbr zca zby   -- for this text's walks alone
mutual
def spec_PlanIn.j0 : Nat → List ByteArray → Bool → Option (Bool)
 | 0, _, _ => none
 | k + 1, x0, x22 => if x22 = true then (some false) else (spec_PlanIn.l0 k x0 0)
def spec_PlanIn.l0 : Nat → List ByteArray → Int → Option (Bool)
 | 0, _, _ => none
 | k + 1, x0, x3 => (spec_l1Rooms.f k x0).bind fun t165 => (if x3 < t165 then ((spec_l1Room.f k x0 x3).bind fun bt166 => ((spec_l1Cells.f k x0 x3).bind fun t170 => (if t170 = (wrap64 (bt166.2.2.1 * bt166.2.2.2)) then (spec_PlanIn.l0 k x0 (wrap64 (x3 + 1))) else (some false)))) else (some true))
end
def spec_PlanIn.f (k : Nat) (l0 : List ByteArray) : Option (Bool) := (spec_l1Grid.f k l0).bind fun t159 => (if t159 = true then ((spec_l1Names.f k l0).bind fun t160 => ((spec_l1Same.f k t160 l0).bind fun t163 => (if t163 = true then ((spec_l1Rooms.f k l0).bind fun t164 => (spec_PlanIn.j0 k l0 (decide (t164 > 9)))) else (spec_PlanIn.j0 k l0 true)))) else (spec_PlanIn.j0 k l0 true))
set_option maxHeartbeats 8000000 in
set_option maxRecDepth 100000 in
theorem spec_PlanIn.calls (k : Nat) (A0 : Option Addr) (c0 : Nat) (l0 : List ByteArray) (r : Bool) (w : World) (hr0 : Kd.C Kd.string w A0 l0.length l0) (hc0 : l0.length ≤ c0) (h : spec_PlanIn.f k l0 = some r) :
  Calls Try.prog 81 #[.slice A0 l0.length c0] w fun e w' => e = .returned (.bool r) ∧ Below w.heap.size w w' := by
 have HR0 := zaa.mk hr0
 have HC0 := zaa.mk hc0
 clear hr0 hc0
 have HB := zaa.mk (Below.refl w.heap.size w)
 have H : ((spec_l1Grid.f k l0).bind fun t159 => (if t159 = true then ((spec_l1Names.f k l0).bind fun t160 => ((spec_l1Same.f k t160 l0).bind fun t163 => (if t163 = true then ((spec_l1Rooms.f k l0).bind fun t164 => (spec_PlanIn.j0 k l0 (decide (t164 > 9)))) else (spec_PlanIn.j0 k l0 true)))) else (spec_PlanIn.j0 k l0 true))) = some r := h
 clear h
 have HC2 := zaa.mk H
 clear H
 go_enter Try.func81, Try.ntmps81
 go_upto_region 1 with (fail)
 go_cut [22] (fun v22 wc => ∃ (kq : Nat) (x22_1 : Bool), v22 = .bool x22_1 ∧ zaa (spec_PlanIn.j0 kq l0 x22_1 = some r) ∧ zaa (kq ≤ k) ∧ zaa (Below w.heap.size w wc))
 case first =>
  have H := HC2.out
  clear HC2
  replace H := yaw.mp H
  obtain ⟨t159, A30, H⟩ := H
  replace H : (if t159 = true then ((spec_l1Names.f k l0).bind fun t160 => ((spec_l1Same.f k t160 l0).bind fun t163 => (if t163 = true then ((spec_l1Rooms.f k l0).bind fun t164 => (spec_PlanIn.j0 k l0 (decide (t164 > 9)))) else (spec_PlanIn.j0 k l0 true)))) else (spec_PlanIn.j0 k l0 true)) = some r := H
  have A3 := zaa.mk A30
  clear A30
  by_cases c4 : t159 = true
  ·subst c4
   have H1 : ((spec_l1Names.f k l0).bind fun t160 => ((spec_l1Same.f k t160 l0).bind fun t163 => (if t163 = true then ((spec_l1Rooms.f k l0).bind fun t164 => (spec_PlanIn.j0 k l0 (decide (t164 > 9)))) else (spec_PlanIn.j0 k l0 true)))) = some r := by rw [if_pos rfl] at H; exact H
   clear H
   have H := H1
   clear H1
   replace H := yaw.mp H
   obtain ⟨t160, A50, H⟩ := H
   replace H : ((spec_l1Same.f k t160 l0).bind fun t163 => (if t163 = true then ((spec_l1Rooms.f k l0).bind fun t164 => (spec_PlanIn.j0 k l0 (decide (t164 > 9)))) else (spec_PlanIn.j0 k l0 true))) = some r := H
   have A5 := zaa.mk A50
   clear A50
   replace H := yaw.mp H
   obtain ⟨t163, A60, H⟩ := H
   replace H : (if t163 = true then ((spec_l1Rooms.f k l0).bind fun t164 => (spec_PlanIn.j0 k l0 (decide (t164 > 9)))) else (spec_PlanIn.j0 k l0 true)) = some r := H
   have A6 := zaa.mk A60
   clear A60
   by_cases c7 : t163 = true
   ·subst c7
    have H1 : ((spec_l1Rooms.f k l0).bind fun t164 => (spec_PlanIn.j0 k l0 (decide (t164 > 9)))) = some r := by rw [if_pos rfl] at H; exact H
    clear H
    have H := H1
    clear H1
    replace H := yaw.mp H
    obtain ⟨t164, A80, H⟩ := H
    replace H : (spec_PlanIn.j0 k l0 (decide (t164 > 9))) = some r := H
    have A8 := zaa.mk A80
    clear A80
    have H' := zaa.mk H
    clear H
    go_wp2_with (first | ((with_reducible refine zaq (f := 121) rfl ?_); refine zbf (some 9) rfl rfl Try.func121 (by kernel_rfl) rfl #[.slice A0 l0.length c0] rfl (by (try simp only [yaq, yar, yas]); first | done | rfl | (simp only [yau, yat]; rfl)) ?_; (with_reducible refine (spec_l1Grid.calls k _ _ l0 true _ ?side1 ?side2 A3.out).mono ?_); (case side1 => repeat (first | exact (Kd.C_below HR0.out HB.out) | (with_reducible refine ybc ?_ _) | (with_reducible refine ybd ?_ _) | (with_reducible refine ybe ?_))); (case side2 => exact HC0.out); rintro e w' ⟨rfl, ⟨nd, rfl⟩⟩; refine ⟨_, rfl, ?_⟩) | (go_at_call 122; (with_reducible refine (spec_l1Names.calls k _ _ l0 t160 _ ?side1 ?side2 A5.out).mono ?_); (case side1 => repeat (first | exact (Kd.C_below HR0.out (by repeat (first | (with_reducible first | exact HB.out | apply zac | apply zab | apply zad) | exact HB.out))) | (with_reducible refine ybc ?_ _) | (with_reducible refine ybd ?_ _) | (with_reducible refine ybe ?_))); (case side2 => exact HC0.out); rintro e w9 ⟨v161, rfl, ho0, hb⟩; have n0_ := zaa.mk (Kd.R_lower ho0 (zai (by repeat (first | (with_reducible first | exact HB.out | apply zac | apply zab | apply zad) | exact HB.out)))); have n1_ := zaa.mk (zag (by repeat (first | (with_reducible first | exact HB.out | apply zac | apply zab | apply zad) | exact HB.out)) hb); clear HB; have HO162 := n0_; have HB := n1_; clear n0_ n1_; (try clear hb); (try clear hb2); (try clear hk); (try clear hi); (try clear ho0); obtain ⟨Ao10, co10, eo10⟩ := Kd.R_slice HO162.out; subst eo10) | (go_at_call 124; (with_reducible refine (spec_l1Same.calls k _ _ t160 _ _ l0 true _ ?side1 ?side2 ?side3 ?side4 A6.out).mono ?_); (case side1 => repeat (first | exact (Kd.R_reads' HO162.out).2.2 | (with_reducible refine ybc ?_ _) | (with_reducible refine ybd ?_ _) | (with_reducible refine ybe ?_))); (case side2 => exact (Kd.R_reads' HO162.out).2.1); (case side3 => repeat (first | exact (Kd.C_below HR0.out HB.out) | (with_reducible refine ybc ?_ _) | (with_reducible refine ybd ?_ _) | (with_reducible refine ybe ?_))); (case side4 => exact HC0.out); rintro e w' ⟨rfl, ⟨nd, rfl⟩⟩) | (go_at_call 64; (with_reducible refine (spec_l1Rooms.calls k _ _ l0 t164 _ ?side1 ?side2 A8.out).mono ?_); (case side1 => repeat (first | exact (Kd.C_below HR0.out (by repeat (first | (with_reducible first | exact HB.out | apply zac | apply zab | apply zad) | exact HB.out))) | (with_reducible refine ybc ?_ _) | (with_reducible refine ybd ?_ _) | (with_reducible refine ybe ?_))); (case side2 => exact HC0.out); rintro e w11 ⟨rfl, hb⟩; have n0_ := zaa.mk (Kd.R_below (by (with_reducible repeat (first | apply yaz | apply yba | apply ybb)); exact HO162.out) hb); have n1_ := zaa.mk (zag (by repeat (first | (with_reducible first | exact HB.out | apply zac | apply zab | apply zad) | exact HB.out)) hb); clear HO162; clear HB; have HO162 := n0_; have HB := n1_; clear n0_ n1_; (try clear hb); (try clear hb2); (try clear hk); (try clear hi)))
    go_meet
    case rel => exact ⟨_, (decide (t164 > 9)), (by first | rfl | (simp; done) | (simp [*]; done)), H', ⟨by first | omega | exact yay _⟩, ⟨by repeat (first | (with_reducible first | exact HB.out | apply zac | apply zab | apply zad) | exact HB.out)⟩⟩
   ·replace c7 := Bool.eq_false_iff.mpr c7
    subst c7
    have H1 : (spec_PlanIn.j0 k l0 true) = some r := by rw [if_neg (show ¬ (false = true) by decide)] at H; exact H
    clear H
    have H := H1
    clear H1
    have H' := zaa.mk H
    clear H
    go_wp2_with (first | ((with_reducible refine zaq (f := 121) rfl ?_); refine zbf (some 9) rfl rfl Try.func121 (by kernel_rfl) rfl #[.slice A0 l0.length c0] rfl (by (try simp only [yaq, yar, yas]); first | done | rfl | (simp only [yau, yat]; rfl)) ?_; (with_reducible refine (spec_l1Grid.calls k _ _ l0 true _ ?side1 ?side2 A3.out).mono ?_); (case side1 => repeat (first | exact (Kd.C_below HR0.out HB.out) | (with_reducible refine ybc ?_ _) | (with_reducible refine ybd ?_ _) | (with_reducible refine ybe ?_))); (case side2 => exact HC0.out); rintro e w' ⟨rfl, ⟨nd, rfl⟩⟩; refine ⟨_, rfl, ?_⟩) | (go_at_call 122; (with_reducible refine (spec_l1Names.calls k _ _ l0 t160 _ ?side1 ?side2 A5.out).mono ?_); (case side1 => repeat (first | exact (Kd.C_below HR0.out (by repeat (first | (with_reducible first | exact HB.out | apply zac | apply zab | apply zad) | exact HB.out))) | (with_reducible refine ybc ?_ _) | (with_reducible refine ybd ?_ _) | (with_reducible refine ybe ?_))); (case side2 => exact HC0.out); rintro e w12 ⟨v161, rfl, ho0, hb⟩; have n0_ := zaa.mk (Kd.R_lower ho0 (zai (by repeat (first | (with_reducible first | exact HB.out | apply zac | apply zab | apply zad) | exact HB.out)))); have n1_ := zaa.mk (zag (by repeat (first | (with_reducible first | exact HB.out | apply zac | apply zab | apply zad) | exact HB.out)) hb); clear HB; have HO162 := n0_; have HB := n1_; clear n0_ n1_; (try clear hb); (try clear hb2); (try clear hk); (try clear hi); (try clear ho0); obtain ⟨Ao13, co13, eo13⟩ := Kd.R_slice HO162.out; subst eo13) | (go_at_call 124; (with_reducible refine (spec_l1Same.calls k _ _ t160 _ _ l0 false _ ?side1 ?side2 ?side3 ?side4 A6.out).mono ?_); (case side1 => repeat (first | exact (Kd.R_reads' HO162.out).2.2 | (with_reducible refine ybc ?_ _) | (with_reducible refine ybd ?_ _) | (with_reducible refine ybe ?_))); (case side2 => exact (Kd.R_reads' HO162.out).2.1); (case side3 => repeat (first | exact (Kd.C_below HR0.out HB.out) | (with_reducible refine ybc ?_ _) | (with_reducible refine ybd ?_ _) | (with_reducible refine ybe ?_))); (case side4 => exact HC0.out); rintro e w' ⟨rfl, ⟨nd, rfl⟩⟩))
    go_meet
    case rel => exact ⟨_, (true), (by first | rfl | (simp; done) | (simp [*]; done)), H', ⟨by first | omega | exact yay _⟩, ⟨by repeat (first | (with_reducible first | exact HB.out | apply zac | apply zab | apply zad) | exact HB.out)⟩⟩
  ·replace c4 := Bool.eq_false_iff.mpr c4
   subst c4
   have H1 : (spec_PlanIn.j0 k l0 true) = some r := by rw [if_neg (show ¬ (false = true) by decide)] at H; exact H
   clear H
   have H := H1
   clear H1
   have H' := zaa.mk H
   clear H
   go_wp2_with (first | ((with_reducible refine zaq (f := 121) rfl ?_); refine zbf (some 9) rfl rfl Try.func121 (by kernel_rfl) rfl #[.slice A0 l0.length c0] rfl (by (try simp only [yaq, yar, yas]); first | done | rfl | (simp only [yau, yat]; rfl)) ?_; (with_reducible refine (spec_l1Grid.calls k _ _ l0 false _ ?side1 ?side2 A3.out).mono ?_); (case side1 => repeat (first | exact (Kd.C_below HR0.out HB.out) | (with_reducible refine ybc ?_ _) | (with_reducible refine ybd ?_ _) | (with_reducible refine ybe ?_))); (case side2 => exact HC0.out); rintro e w' ⟨rfl, ⟨nd, rfl⟩⟩; refine ⟨_, rfl, ?_⟩))
   go_meet
   case rel => exact ⟨_, (true), (by first | rfl | (simp; done) | (simp [*]; done)), H', ⟨by first | omega | exact yay _⟩, ⟨by repeat (first | (with_reducible first | exact HB.out | apply zac | apply zab | apply zad) | exact HB.out)⟩⟩
 case rest =>
  clear HC2
  try clear c1
  try clear p2
  try clear c4
  try clear c7
  try clear c8
  try clear c12
  obtain ⟨kq, x22_1, rfl, HA, HJ1, HB⟩ := hcut
  cases kq with
  | zero => exact absurd HA.out (by simp [spec_PlanIn.j0])
  | succ kj1 =>
   have H := HA.out
   clear HA
   simp only [spec_PlanIn.j0] at H
   by_cases c14 : x22_1 = true
   ·subst c14
    have H1 : (some false) = some r := by rw [if_pos rfl] at H; exact H
    clear H
    have H := H1
    clear H1
    obtain rfl := Option.some.inj H
    go_wp2
    go_ret
    exact ⟨by first | rfl | (simp [zan, zam] <;> rfl) | (simp [*, zan, zam] <;> rfl), by repeat (first | (with_reducible first | exact HB.out | apply zac | apply zab | apply zad) | exact HB.out)⟩
   ·replace c14 := Bool.eq_false_iff.mpr c14
    subst c14
    have H1 : (spec_PlanIn.l0 kj1 l0 0) = some r := by rw [if_neg (show ¬ (false = true) by decide)] at H; exact H
    clear H
    have H := H1
    clear H1
    have H' := zaa.mk H
    clear H
    go_wp2
    go_loopg [3] kj1 (fun kq v3 w' => ∃ (x3_2 : Int), v3 = .int .i64 x3_2 ∧ zaa (spec_PlanIn.l0 kq l0 x3_2 = some r) ∧ zaa (kq ≤ kj1) ∧ zaa (Below w.heap.size w w'))
    case atStart => exact ⟨(0), (by first | rfl | (simp; done) | (simp [*]; done)), H', ⟨yay _⟩, ⟨by repeat (first | (with_reducible first | exact HB.out | apply zac | apply zab | apply zad) | exact HB.out)⟩⟩
    case round =>
     clear H'
     try clear c1
     try clear p2
     try clear c4
     try clear c7
     try clear c8
     try clear c12
     try clear c14
     try clear p2
     obtain ⟨x3_2, rfl, HA, HK2, HB⟩ := hrel
     cases gk with
     | zero => exact absurd HA.out (by simp [spec_PlanIn.l0])
     | succ k2 =>
      have H := HA.out
      clear HA
      simp only [spec_PlanIn.l0] at H
      replace H := yaw.mp H
      obtain ⟨t165, A150, H⟩ := H
      replace H : (if x3_2 < t165 then ((spec_l1Room.f k2 l0 x3_2).bind fun bt166 => ((spec_l1Cells.f k2 l0 x3_2).bind fun t170 => (if t170 = (wrap64 (bt166.2.2.1 * bt166.2.2.2)) then (spec_PlanIn.l0 k2 l0 (wrap64 (x3_2 + 1))) else (some false)))) else (some true)) = some r := H
      have A15 := zaa.mk A150
      clear A150
      by_cases c16 : x3_2 < t165
      ·rw [if_pos c16] at H
       have c16b0 : decide (x3_2 < t165) = true := decide_eq_true c16
       clear c16
       replace H := yaw.mp H
       obtain ⟨⟨t166, t167, t168, t169⟩, A170, H⟩ := H
       replace H : ((spec_l1Cells.f k2 l0 x3_2).bind fun t170 => (if t170 = (wrap64 (t168 * t169)) then (spec_PlanIn.l0 k2 l0 (wrap64 (x3_2 + 1))) else (some false))) = some r := H
       have A17 := zaa.mk A170
       clear A170
       replace H := yaw.mp H
       obtain ⟨t170, A180, H⟩ := H
       replace H : (if t170 = (wrap64 (t168 * t169)) then (spec_PlanIn.l0 k2 l0 (wrap64 (x3_2 + 1))) else (some false)) = some r := H
       have A18 := zaa.mk A180
       clear A180
       by_cases c19 : t170 = (wrap64 (t168 * t169))
       ·rw [if_pos c19] at H
        have c19b0 : (t170 == (wrap64 (t168 * t169))) = true := beq_iff_eq.mpr c19
        have c19b1 : (t170 != (wrap64 (t168 * t169))) = false := bne_eq_false_iff_eq.mpr c19
        clear c19
        have H' := zaa.mk H
        clear H
        go_wp2_with (first | ((with_reducible refine zaq (f := 64) rfl ?_); refine zbf (some 25) rfl rfl Try.func64 (by kernel_rfl) rfl #[.slice A0 l0.length c0] rfl (by (try simp only [yaq, yar, yas]); first | done | rfl | (simp only [yau, yat]; rfl)) ?_; (with_reducible refine (spec_l1Rooms.calls k2 _ _ l0 t165 _ ?side1 ?side2 A15.out).mono ?_); (case side1 => repeat (first | exact (Kd.C_below HR0.out HB.out) | (with_reducible refine ybc ?_ _) | (with_reducible refine ybd ?_ _) | (with_reducible refine ybe ?_))); (case side2 => exact HC0.out); rintro e w20 ⟨rfl, hb⟩; refine ⟨_, rfl, ?_⟩; have n0_ := zaa.mk (zag (by repeat (first | (with_reducible first | exact HB.out | apply zac | apply zab | apply zad) | exact HB.out)) hb); clear HB; have HB := n0_; clear n0_; (try clear hb); (try clear hb2); (try clear hk); (try clear hi)) | ((with_reducible refine zaq (f := 75) rfl ?_); refine zbf (some 32) rfl rfl Try.func75 (by kernel_rfl) rfl #[.slice A0 l0.length c0, .int .i64 x3_2] rfl (by (try simp only [yaq, yar, yas]); first | done | rfl | (simp only [yau, yat]; rfl)) ?_; (with_reducible refine (spec_l1Room.calls k2 _ _ l0 x3_2 t166 t167 t168 t169 _ ?side1 ?side2 A17.out).mono ?_); (case side1 => repeat (first | exact (Kd.C_below HR0.out HB.out) | (with_reducible refine ybc ?_ _) | (with_reducible refine ybd ?_ _) | (with_reducible refine ybe ?_))); (case side2 => exact HC0.out); rintro e w21 ⟨rfl, hb⟩; refine ⟨_, rfl, ?_⟩; have n0_ := zaa.mk (zag (by repeat (first | (with_reducible first | exact HB.out | apply zac | apply zab | apply zad) | exact HB.out)) hb); clear HB; have HB := n0_; clear n0_; (try clear hb); (try clear hb2); (try clear hk); (try clear hi)) | ((with_reducible refine zaq (f := 125) rfl ?_); refine zbf (some 39) rfl rfl Try.func125 (by kernel_rfl) rfl #[.slice A0 l0.length c0, .int .i64 x3_2] rfl (by (try simp only [yaq, yar, yas]); first | done | rfl | (simp only [yau, yat]; rfl)) ?_; (with_reducible refine (spec_l1Cells.calls k2 _ _ l0 x3_2 t170 _ ?side1 ?side2 A18.out).mono ?_); (case side1 => repeat (first | exact (Kd.C_below HR0.out HB.out) | (with_reducible refine ybc ?_ _) | (with_reducible refine ybd ?_ _) | (with_reducible refine ybe ?_))); (case side2 => exact HC0.out); rintro e w' ⟨rfl, ⟨nd, rfl⟩⟩; refine ⟨_, rfl, ?_⟩))
        go_roundg k2
        case measure => have := HJ1.out; have := HK2.out; omega
        case rel => exact ⟨(wrap64 (x3_2 + 1)), (by first | rfl | (simp; done) | (simp [*]; done)), H', ⟨by have := HJ1.out; have := HK2.out; omega⟩, ⟨by repeat (first | (with_reducible first | exact HB.out | apply zac | apply zab | apply zad) | exact HB.out)⟩⟩
       ·rw [if_neg c19] at H
        have c19b0 : (t170 == (wrap64 (t168 * t169))) = false := beq_eq_false_iff_ne.mpr c19
        have c19b1 : (t170 != (wrap64 (t168 * t169))) = true := bne_iff_ne.mpr c19
        obtain rfl := Option.some.inj H
        go_wp2_with (first | ((with_reducible refine zaq (f := 64) rfl ?_); refine zbf (some 25) rfl rfl Try.func64 (by kernel_rfl) rfl #[.slice A0 l0.length c0] rfl (by (try simp only [yaq, yar, yas]); first | done | rfl | (simp only [yau, yat]; rfl)) ?_; (with_reducible refine (spec_l1Rooms.calls k2 _ _ l0 t165 _ ?side1 ?side2 A15.out).mono ?_); (case side1 => repeat (first | exact (Kd.C_below HR0.out HB.out) | (with_reducible refine ybc ?_ _) | (with_reducible refine ybd ?_ _) | (with_reducible refine ybe ?_))); (case side2 => exact HC0.out); rintro e w22 ⟨rfl, hb⟩; refine ⟨_, rfl, ?_⟩; have n0_ := zaa.mk (zag (by repeat (first | (with_reducible first | exact HB.out | apply zac | apply zab | apply zad) | exact HB.out)) hb); clear HB; have HB := n0_; clear n0_; (try clear hb); (try clear hb2); (try clear hk); (try clear hi)) | ((with_reducible refine zaq (f := 75) rfl ?_); refine zbf (some 32) rfl rfl Try.func75 (by kernel_rfl) rfl #[.slice A0 l0.length c0, .int .i64 x3_2] rfl (by (try simp only [yaq, yar, yas]); first | done | rfl | (simp only [yau, yat]; rfl)) ?_; (with_reducible refine (spec_l1Room.calls k2 _ _ l0 x3_2 t166 t167 t168 t169 _ ?side1 ?side2 A17.out).mono ?_); (case side1 => repeat (first | exact (Kd.C_below HR0.out HB.out) | (with_reducible refine ybc ?_ _) | (with_reducible refine ybd ?_ _) | (with_reducible refine ybe ?_))); (case side2 => exact HC0.out); rintro e w23 ⟨rfl, hb⟩; refine ⟨_, rfl, ?_⟩; have n0_ := zaa.mk (zag (by repeat (first | (with_reducible first | exact HB.out | apply zac | apply zab | apply zad) | exact HB.out)) hb); clear HB; have HB := n0_; clear n0_; (try clear hb); (try clear hb2); (try clear hk); (try clear hi)) | ((with_reducible refine zaq (f := 125) rfl ?_); refine zbf (some 39) rfl rfl Try.func125 (by kernel_rfl) rfl #[.slice A0 l0.length c0, .int .i64 x3_2] rfl (by (try simp only [yaq, yar, yas]); first | done | rfl | (simp only [yau, yat]; rfl)) ?_; (with_reducible refine (spec_l1Cells.calls k2 _ _ l0 x3_2 t170 _ ?side1 ?side2 A18.out).mono ?_); (case side1 => repeat (first | exact (Kd.C_below HR0.out HB.out) | (with_reducible refine ybc ?_ _) | (with_reducible refine ybd ?_ _) | (with_reducible refine ybe ?_))); (case side2 => exact HC0.out); rintro e w' ⟨rfl, ⟨nd, rfl⟩⟩; refine ⟨_, rfl, ?_⟩))
        go_ret
        exact ⟨by first | rfl | (simp [zan, zam] <;> rfl) | (simp [*, zan, zam] <;> rfl), by repeat (first | (with_reducible first | exact HB.out | apply zac | apply zab | apply zad) | exact HB.out)⟩
      ·rw [if_neg c16] at H
       have c16b0 : decide (x3_2 < t165) = false := decide_eq_false c16
       clear c16
       obtain rfl := Option.some.inj H
       go_wp2_with (first | ((with_reducible refine zaq (f := 64) rfl ?_); refine zbf (some 25) rfl rfl Try.func64 (by kernel_rfl) rfl #[.slice A0 l0.length c0] rfl (by (try simp only [yaq, yar, yas]); first | done | rfl | (simp only [yau, yat]; rfl)) ?_; (with_reducible refine (spec_l1Rooms.calls k2 _ _ l0 t165 _ ?side1 ?side2 A15.out).mono ?_); (case side1 => repeat (first | exact (Kd.C_below HR0.out HB.out) | (with_reducible refine ybc ?_ _) | (with_reducible refine ybd ?_ _) | (with_reducible refine ybe ?_))); (case side2 => exact HC0.out); rintro e w24 ⟨rfl, hb⟩; refine ⟨_, rfl, ?_⟩; have n0_ := zaa.mk (zag (by repeat (first | (with_reducible first | exact HB.out | apply zac | apply zab | apply zad) | exact HB.out)) hb); clear HB; have HB := n0_; clear n0_; (try clear hb); (try clear hb2); (try clear hk); (try clear hi)))
       go_ret
       exact ⟨by first | rfl | (simp [zan, zam] <;> rfl) | (simp [*, zan, zam] <;> rfl), by repeat (first | (with_reducible first | exact HB.out | apply zac | apply zab | apply zad) | exact HB.out)⟩
def spec_l1Given.f (k : Nat) (l0 : List ByteArray) (a1 : Int) : Option (Bool) := (spec_PlanIn.f k l0).bind fun t171 => (if t171 = true then ((spec_l1Rooms.f k l0).bind fun t172 => ((spec_l6In.f a1 0 (wrap64 (t172 - 1))).bind fun t173 => (some t173))) else (some false))
set_option maxHeartbeats 8000000 in
set_option maxRecDepth 100000 in
theorem spec_l1Given.calls (k : Nat) (A0 : Option Addr) (c0 : Nat) (l0 : List ByteArray) (a1 : Int) (r : Bool) (w : World) (hr0 : Kd.C Kd.string w A0 l0.length l0) (hc0 : l0.length ≤ c0) (h : spec_l1Given.f k l0 a1 = some r) :
  Calls Try.prog 73 #[.slice A0 l0.length c0, .int .i64 a1] w fun e w' => e = .returned (.bool r) ∧ Below w.heap.size w w' := by
 have HR0 := zaa.mk hr0
 have HC0 := zaa.mk hc0
 clear hr0 hc0
 have HB := zaa.mk (Below.refl w.heap.size w)
 have H : ((spec_PlanIn.f k l0).bind fun t171 => (if t171 = true then ((spec_l1Rooms.f k l0).bind fun t172 => ((spec_l6In.f a1 0 (wrap64 (t172 - 1))).bind fun t173 => (some t173))) else (some false))) = some r := h
 clear h
 replace H := yaw.mp H
 obtain ⟨t171, A30, H⟩ := H
 replace H : (if t171 = true then ((spec_l1Rooms.f k l0).bind fun t172 => ((spec_l6In.f a1 0 (wrap64 (t172 - 1))).bind fun t173 => (some t173))) else (some false)) = some r := H
 have A3 := zaa.mk A30
 clear A30
 by_cases c4 : t171 = true
 ·subst c4
  have H1 : ((spec_l1Rooms.f k l0).bind fun t172 => ((spec_l6In.f a1 0 (wrap64 (t172 - 1))).bind fun t173 => (some t173))) = some r := by rw [if_pos rfl] at H; exact H
  clear H
  have H := H1
  clear H1
  replace H := yaw.mp H
  obtain ⟨t172, A50, H⟩ := H
  replace H : ((spec_l6In.f a1 0 (wrap64 (t172 - 1))).bind fun t173 => (some t173)) = some r := H
  have A5 := zaa.mk A50
  clear A50
  replace H := yaw.mp H
  obtain ⟨t173, A60, H⟩ := H
  replace H : (some t173) = some r := H
  have A6 := zaa.mk A60
  clear A60
  obtain rfl := Option.some.inj H
  go_enter Try.func73, Try.ntmps73
  go_wp2_with (first | ((with_reducible refine zaq (f := 81) rfl ?_); refine zbf (some 6) rfl rfl Try.func81 (by kernel_rfl) rfl #[.slice A0 l0.length c0] rfl (by (try simp only [yaq, yar, yas]); first | done | rfl | (simp only [yau, yat]; rfl)) ?_; (with_reducible refine (spec_PlanIn.calls k _ _ l0 true _ ?side1 ?side2 A3.out).mono ?_); (case side1 => repeat (first | exact HR0.out | (with_reducible refine ybc ?_ _) | (with_reducible refine ybd ?_ _) | (with_reducible refine ybe ?_))); (case side2 => exact HC0.out); rintro e w7 ⟨rfl, hb⟩; refine ⟨_, rfl, ?_⟩; have n0_ := zaa.mk (zag (by repeat (first | (with_reducible first | exact HB.out | apply zac | apply zab | apply zad) | exact HB.out)) hb); clear HB; have HB := n0_; clear n0_; (try clear hb); (try clear hb2); (try clear hk); (try clear hi)) | (go_at_call 64; (with_reducible refine (spec_l1Rooms.calls k _ _ l0 t172 _ ?side1 ?side2 A5.out).mono ?_); (case side1 => repeat (first | exact (Kd.C_below HR0.out HB.out) | (with_reducible refine ybc ?_ _) | (with_reducible refine ybd ?_ _) | (with_reducible refine ybe ?_))); (case side2 => exact HC0.out); rintro e w8 ⟨rfl, hb⟩; have n0_ := zaa.mk (zag (by repeat (first | (with_reducible first | exact HB.out | apply zac | apply zab | apply zad) | exact HB.out)) hb); clear HB; have HB := n0_; clear n0_; (try clear hb); (try clear hb2); (try clear hk); (try clear hi)) | (go_at_call 91; (with_reducible refine (spec_l6In.calls a1 0 (wrap64 (t172 - 1)) t173 _ A6.out).mono ?_); rintro e w' ⟨rfl, ⟨nd, rfl⟩⟩))
  go_ret
  exact ⟨by first | rfl | (simp [zan, zam] <;> rfl) | (simp [*, zan, zam] <;> rfl), by repeat (first | (with_reducible first | exact HB.out | apply zac | apply zab | apply zad) | exact HB.out)⟩
 ·replace c4 := Bool.eq_false_iff.mpr c4
  subst c4
  have H1 : (some false) = some r := by rw [if_neg (show ¬ (false = true) by decide)] at H; exact H
  clear H
  have H := H1
  clear H1
  obtain rfl := Option.some.inj H
  go_enter Try.func73, Try.ntmps73
  go_wp2_with (first | ((with_reducible refine zaq (f := 81) rfl ?_); refine zbf (some 6) rfl rfl Try.func81 (by kernel_rfl) rfl #[.slice A0 l0.length c0] rfl (by (try simp only [yaq, yar, yas]); first | done | rfl | (simp only [yau, yat]; rfl)) ?_; (with_reducible refine (spec_PlanIn.calls k _ _ l0 false _ ?side1 ?side2 A3.out).mono ?_); (case side1 => repeat (first | exact HR0.out | (with_reducible refine ybc ?_ _) | (with_reducible refine ybd ?_ _) | (with_reducible refine ybe ?_))); (case side2 => exact HC0.out); rintro e w9 ⟨rfl, hb⟩; refine ⟨_, rfl, ?_⟩; have n0_ := zaa.mk (zag (by repeat (first | (with_reducible first | exact HB.out | apply zac | apply zab | apply zad) | exact HB.out)) hb); clear HB; have HB := n0_; clear n0_; (try clear hb); (try clear hb2); (try clear hk); (try clear hi)))
  go_ret
  exact ⟨by first | rfl | (simp [zan, zam] <;> rfl) | (simp [*, zan, zam] <;> rfl), by repeat (first | (with_reducible first | exact HB.out | apply zac | apply zab | apply zad) | exact HB.out)⟩
def spec_l1None.f  : Option (List ByteArray × Bool) := some ((([] : List ByteArray)), false)
set_option maxHeartbeats 8000000 in
set_option maxRecDepth 100000 in
theorem spec_l1None.calls  (r1 : List ByteArray) (r2 : Bool) (w : World) (h : spec_l1None.f  = some (r1, r2)) :
  Calls Try.prog 74 #[] w fun e w' => ∃ v0_ : Value, e = .returned (.tuple #[v0_, .bool r2]) ∧ Kd.R Kd.string 9 w' w.heap.size (fun _ => True) v0_ r1 ∧ Below w.heap.size w w' := by
 have HB := zaa.mk (Below.refl w.heap.size w)
 have H : (some ((([] : List ByteArray)), false)) = some (r1, r2) := h
 clear h
 obtain ⟨y174, hy174⟩ : ∃ y_ : List ByteArray, y_ = (([] : List ByteArray)) := ⟨_, rfl⟩
 replace H : (some (y174, false)) = some (r1, r2) := by first | (rw [hy174]; with_reducible exact H) | (have H2_ := (yax _ _).symm.trans H; rw [hy174]; with_reducible exact H2_) | (have H2_ := (yax _ _).symm.trans H; with_reducible exact H2_) | with_reducible exact H | (rw [hy174]; exact H) | exact H
 have Ny174 := zaa.mk hy174
 clear hy174
 simp only [Option.some.injEq, Prod.mk.injEq] at H
 obtain ⟨rfl, rfl⟩ := H
 go_enter Try.func74, Try.ntmps74
 go_wp2_with (first | ((with_reducible refine zbc (N := 2) rfl ?_); refine Kd.R_lit Kd.string _ 9 ?hg (N := 2) ?hd (xs := ([] : List ByteArray)) (inner := []) (ok := fun _ => True) (okp := fun _ => True) ?hr ?hp (fun _ hk => hk) trivial (Below.refl _ _) (yay _) (by simp) ?_; (case hd => rfl); (case hg => rfl); (case hr => first | (go_simp; done) | (go_simp; rfl)); (case hp => exact (Reps.none _ _)); intro v175 w1 ho2 hb hg_ hnew_; clear hg_ hnew_; (first | rw [← Ny174.out] at ho2 | (simp only [Int.reduceToNat] at ho2; rw [← Ny174.out] at ho2)); have n0_ := zaa.mk (Kd.R_lower ho2 (zai (by repeat (first | (with_reducible first | exact HB.out | apply zac | apply zab | apply zad) | exact HB.out)))); have n1_ := zaa.mk (zag (by repeat (first | (with_reducible first | exact HB.out | apply zac | apply zab | apply zad) | exact HB.out)) hb); clear HB; have HO176 := n0_; have HB := n1_; clear n0_ n1_; clear hb ho2))
 go_ret2
 exact ⟨_, by first | rfl | (simp [zan, zam] <;> rfl) | (simp [*, zan, zam] <;> rfl), by (with_reducible repeat (first | apply yaz | apply yba | apply ybb)); exact HO176.out, by repeat (first | (with_reducible first | exact HB.out | apply zac | apply zab | apply zad) | exact HB.out)⟩
end Go.Proofs.Ytaepgogafkmooaa.PB
namespace Go.Proofs.Ytaepgogafkmooaa.PB
open Go.RowKit Go.PW.PrintWords Go.PW.PrintLast Go.PW.PrintMore
attribute [local go_sem] zcb zbz max_two min_two zbs zbr zca zby   -- for this text's walks alone
def laws_sameInts.l0 : Nat → List Int → List Int → Int → Option (Bool)
 | 0, _, _, _ => none
 | k + 1, x0, x1, x5 => if x5 < (x0.length : Int) then (if 0 ≤ x5 then (if x5 < (x1.length : Int) then (if (rd x0 x5) = (rd x1 x5) then (laws_sameInts.l0 k x0 x1 (wrap64 (x5 + 1))) else (some false)) else (none)) else (none)) else (some true)
def laws_sameInts.f (k : Nat) (l0 : List Int) (l1 : List Int) : Option (Bool) := if (l0.length : Int) = (l1.length : Int) then (laws_sameInts.l0 k l0 l1 0) else (some false)
set_option maxHeartbeats 8000000 in
set_option maxRecDepth 100000 in
theorem laws_sameInts.calls (k : Nat) (A0 : Option Addr) (c0 : Nat) (l0 : List Int) (A1 : Option Addr) (c1 : Nat) (l1 : List Int) (r : Bool) (w : World) (hr0 : Kd.C (Kd.int .i64) w A0 l0.length l0) (hc0 : l0.length ≤ c0) (hr1 : Kd.C (Kd.int .i64) w A1 l1.length l1) (hc1 : l1.length ≤ c1) (h : laws_sameInts.f k l0 l1 = some r) :
  Calls Try.prog 36 #[.slice A0 l0.length c0, .slice A1 l1.length c1] w fun e w' => e = .returned (.bool r) ∧ zbe w w' := by
 have HR0 := zaa.mk hr0
 have HC0 := zaa.mk hc0
 clear hr0 hc0
 have HR1 := zaa.mk hr1
 have HC1 := zaa.mk hc1
 clear hr1 hc1
 have H : (if (l0.length : Int) = (l1.length : Int) then (laws_sameInts.l0 k l0 l1 0) else (some false)) = some r := h
 clear h
 by_cases c3 : (l0.length : Int) = (l1.length : Int)
 ·rw [if_pos c3] at H
  have c3b0 : ((l0.length : Int) == (l1.length : Int)) = true := beq_iff_eq.mpr c3
  have c3b1 : ((l0.length : Int) != (l1.length : Int)) = false := bne_eq_false_iff_eq.mpr c3
  have c3b2 : (l0.length == l1.length) = true := by first | simpa using c3 | (simp at c3 ⊢; omega)
  clear c3
  have H' := zaa.mk H
  clear H
  go_enter Try.func36, Try.ntmps36
  go_wp2
  repeat (go_quiet (fail); try go_wp2)
  go_loopg [5] k (fun kq v5 w' => ∃ (x5_1 : Int), v5 = .int .i64 x5_1 ∧ zaa (laws_sameInts.l0 kq l0 l1 x5_1 = some r) ∧ zaa (kq ≤ k) ∧ zbe w w')
  case atStart => exact ⟨(0), (by first | rfl | (simp; done) | (simp [*]; done)), H', ⟨yay _⟩, by repeat (first | exact zbe.refl _ | apply zbe.step)⟩
  case round =>
   clear H'
   try clear c1
   try clear p2
   try clear c3
   try clear c3b0
   try clear c3b1
   try clear c3b2
   obtain ⟨x5_1, rfl, HA, HK1, ⟨m1, rfl⟩⟩ := hrel
   cases gk with
   | zero => exact absurd HA.out (by simp [laws_sameInts.l0])
   | succ k1 =>
    have H := HA.out
    clear HA
    simp only [laws_sameInts.l0] at H
    by_cases c4 : x5_1 < (l0.length : Int)
    ·rw [if_pos c4] at H
     have c4b0 : decide (x5_1 < (l0.length : Int)) = true := decide_eq_true c4
     clear c4
     by_cases c5 : 0 ≤ x5_1
     ·rw [if_pos c5] at H
      have c5b0 : decide (0 ≤ x5_1) = true := decide_eq_true c5
      clear c5
      by_cases c6 : x5_1 < (l1.length : Int)
      ·rw [if_pos c6] at H
       have c6b0 : decide (x5_1 < (l1.length : Int)) = true := decide_eq_true c6
       clear c6
       by_cases c7 : (rd l0 x5_1) = (rd l1 x5_1)
       ·rw [if_pos c7] at H
        have c7b0 : ((rd l0 x5_1) == (rd l1 x5_1)) = true := beq_iff_eq.mpr c7
        have c7b1 : ((rd l0 x5_1) != (rd l1 x5_1)) = false := bne_eq_false_iff_eq.mpr c7
        clear c7
        have H' := zaa.mk H
        clear H
        have p391 : 0 ≤ (x5_1 : Int) := of_decide_eq_true (by assumption)
        have q391 : x5_1 < (l0.length : Int) := of_decide_eq_true (by assumption)
        obtain ⟨ad391, e391, hx391_0⟩ := Kd.at_int HR0.out x5_1 p391 q391
        cases e391
        replace p391 := eq_true p391
        replace q391 := eq_true q391
        have p392 : 0 ≤ (x5_1 : Int) := of_decide_eq_true (by assumption)
        have q392 : x5_1 < (l1.length : Int) := of_decide_eq_true (by assumption)
        obtain ⟨ad392, e392, hx392_0⟩ := Kd.at_int HR1.out x5_1 p392 q392
        cases e392
        replace p392 := eq_true p392
        replace q392 := eq_true q392
        go_wp2
        repeat (go_quiet (fail); try go_wp2)
        go_roundg k1
        case measure => have := HK1.out; omega
        case rel => exact ⟨(wrap64 (x5_1 + 1)), (by first | rfl | (simp; done) | (simp [*]; done)), H', ⟨by have := HK1.out; omega⟩, by repeat (first | exact zbe.refl _ | apply zbe.step)⟩
       ·rw [if_neg c7] at H
        have c7b0 : ((rd l0 x5_1) == (rd l1 x5_1)) = false := beq_eq_false_iff_ne.mpr c7
        have c7b1 : ((rd l0 x5_1) != (rd l1 x5_1)) = true := bne_iff_ne.mpr c7
        obtain rfl := Option.some.inj H
        have p391 : 0 ≤ (x5_1 : Int) := of_decide_eq_true (by assumption)
        have q391 : x5_1 < (l0.length : Int) := of_decide_eq_true (by assumption)
        obtain ⟨ad391, e391, hx391_0⟩ := Kd.at_int HR0.out x5_1 p391 q391
        cases e391
        replace p391 := eq_true p391
        replace q391 := eq_true q391
        have p392 : 0 ≤ (x5_1 : Int) := of_decide_eq_true (by assumption)
        have q392 : x5_1 < (l1.length : Int) := of_decide_eq_true (by assumption)
        obtain ⟨ad392, e392, hx392_0⟩ := Kd.at_int HR1.out x5_1 p392 q392
        cases e392
        replace p392 := eq_true p392
        replace q392 := eq_true q392
        go_wp2
        repeat (go_quiet (fail); try go_wp2)
        go_ret
        exact ⟨by first | rfl | (simp; done) | (simp [*]; done), by repeat (first | exact zbe.refl _ | apply zbe.step)⟩
      ·rw [if_neg c6] at H
       exact absurd H (by simp)
     ·rw [if_neg c5] at H
      exact absurd H (by simp)
    ·rw [if_neg c4] at H
     have c4b0 : decide (x5_1 < (l0.length : Int)) = false := decide_eq_false c4
     clear c4
     obtain rfl := Option.some.inj H
     go_wp2
     repeat (go_quiet (fail); try go_wp2)
     go_ret
     exact ⟨by first | rfl | (simp; done) | (simp [*]; done), by repeat (first | exact zbe.refl _ | apply zbe.step)⟩
 ·rw [if_neg c3] at H
  have c3b0 : ((l0.length : Int) == (l1.length : Int)) = false := beq_eq_false_iff_ne.mpr c3
  have c3b1 : ((l0.length : Int) != (l1.length : Int)) = true := bne_iff_ne.mpr c3
  have c3b2 : (l0.length == l1.length) = false := by first | simpa using c3 | (simp at c3 ⊢; omega)
  obtain rfl := Option.some.inj H
  go_enter Try.func36, Try.ntmps36
  go_wp2
  repeat (go_quiet (fail); try go_wp2)
  go_ret
  exact ⟨by first | rfl | (simp; done) | (simp [*]; done), by repeat (first | exact zbe.refl _ | apply zbe.step)⟩
end Go.Proofs.Ytaepgogafkmooaa.PB
namespace Go.Proofs.Ytaepgogafkmooaa.PB
open Go.RowKit Go.PW.PrintWords Go.PW.PrintLast Go.PW.PrintMore
attribute [local go_sem] zcb zbz max_two min_two zbs zbr zca zby   -- for this text's walks alone
def spec_l2Put.f (l0 : List Int) (a1 : Int) : Option (List Int) := if (l0.length : Int) > 0 then (if 0 ≤ (wrap64 ((l0.length : Int) - 1)) then (if (wrap64 ((l0.length : Int) - 1)) < (l0.length : Int) then (if (rd l0 (wrap64 ((l0.length : Int) - 1))) = a1 then (some l0) else (if l0.length < 17592186044416 then (some (l0 ++ [a1])) else (none))) else (none)) else (none)) else (if l0.length < 17592186044416 then (some (l0 ++ [a1])) else (none))
set_option maxHeartbeats 8000000 in
set_option maxRecDepth 100000 in
theorem spec_l2Put.calls (P0_ : Nat → Prop) (u9000_ : Value) (l0 : List Int) (a1 : Int) (r : List Int) (w0 w : World) (hB : Below w0.heap.size w0 w) (ho0 : Kd.R (Kd.int .i64) 3 w w0.heap.size P0_ u9000_ l0) (h : spec_l2Put.f l0 a1 = some r) :
  Calls Try.prog 96 #[u9000_, .int .i64 a1] w fun e w' => ∃ v0_ : Value, e = .returned (v0_) ∧ Kd.R (Kd.int .i64) 3 w' w0.heap.size (fun k_ => (P0_ k_ ∨ w.heap.size ≤ k_)) v0_ r ∧ Below w0.heap.size w0 w' ∧ Kept w w' (fun k_ => P0_ k_) := by
 have HO0 := zaa.mk (show Kd.R (Kd.int .i64) 3 w w0.heap.size (fun k_ => (P0_ k_ ∨ w.heap.size ≤ k_)) u9000_ l0 from Kd.R_mono ho0 (fun k_ hk => (.inl hk)))
 have HK := zaa.mk (Kept.refl w (fun k_ => P0_ k_))
 have HW0 := zaa.mk hB.size
 have HB := zaa.mk hB
 clear hB
 have H : (if (l0.length : Int) > 0 then (if 0 ≤ (wrap64 ((l0.length : Int) - 1)) then (if (wrap64 ((l0.length : Int) - 1)) < (l0.length : Int) then (if (rd l0 (wrap64 ((l0.length : Int) - 1))) = a1 then (some l0) else (if l0.length < 17592186044416 then (some (l0 ++ [a1])) else (none))) else (none)) else (none)) else (if l0.length < 17592186044416 then (some (l0 ++ [a1])) else (none))) = some r := h
 clear h
 by_cases c3 : (l0.length : Int) > 0
 ·rw [if_pos c3] at H
  have c3b0 : decide (0 < (l0.length : Int)) = true := decide_eq_true c3
  have c3b1 : decide (0 < l0.length) = true := decide_eq_true (by omega)
  clear c3
  obtain ⟨ji4, hji4⟩ : ∃ j_ : Int, (wrap64 ((l0.length : Int) - 1)) = j_ := ⟨_, rfl⟩
  replace H : (if 0 ≤ (ji4) then (if (ji4) < (l0.length : Int) then (if (rd l0 (ji4)) = a1 then (some l0) else (if l0.length < 17592186044416 then (some (l0 ++ [a1])) else (none))) else (none)) else (none)) = some r := by first | (rw [hji4] at H; exact H) | (simp only [hji4] at H ⊢; exact H)
  have hji4w : (IntKind.i64.wrap ((l0.length : Int) - 1)) = ji4 := (zar _).trans hji4
  by_cases c5 : 0 ≤ (ji4)
  ·rw [if_pos c5] at H
   have c5b0 : decide (0 ≤ (ji4)) = true := decide_eq_true c5
   clear c5
   by_cases c6 : (ji4) < (l0.length : Int)
   ·rw [if_pos c6] at H
    have c6b0 : decide ((ji4) < (l0.length : Int)) = true := decide_eq_true c6
    clear c6
    by_cases c7 : (rd l0 (ji4)) = a1
    ·rw [if_pos c7] at H
     have c7b0 : ((rd l0 (ji4)) == a1) = true := beq_iff_eq.mpr c7
     have c7b1 : ((rd l0 (ji4)) != a1) = false := bne_eq_false_iff_eq.mpr c7
     clear c7
     obtain rfl := Option.some.inj H
     obtain ⟨Ao8, co8, eo8⟩ := Kd.R_slice HO0.out
     subst eo8
     have p448 : 0 ≤ ((ji4) : Int) := of_decide_eq_true (by assumption)
     have q448 : (ji4) < (l0.length : Int) := of_decide_eq_true (by assumption)
     obtain ⟨ad448, e448, hx448_0⟩ := Kd.at_int (Kd.R_reads' HO0.out).2.2 (ji4) p448 q448
     cases e448
     replace p448 := eq_true p448
     replace q448 := eq_true q448
     go_enter Try.func96, Try.ntmps96
     go_wp2
     go_ret
     exact ⟨_, by first | rfl | (simp [zan, zam] <;> rfl) | (simp only [← hji4]; first | rfl | (simp [zan, zam] <;> rfl)) | (simp [*, zan, zam] <;> rfl), by (with_reducible repeat (first | apply yaz | apply yba | apply ybb)); exact HO0.out, by repeat (first | (with_reducible first | exact HB.out | apply zac | apply zab | apply zad) | exact HB.out), by repeat (first | (with_reducible first | exact HK.out | apply Kept.alloc | apply Kept.drewN | apply Kept.drew) | exact HK.out)⟩
    ·rw [if_neg c7] at H
     have c7b0 : ((rd l0 (ji4)) == a1) = false := beq_eq_false_iff_ne.mpr c7
     have c7b1 : ((rd l0 (ji4)) != a1) = true := bne_iff_ne.mpr c7
     by_cases c9 : l0.length < 17592186044416
     ·rw [if_pos c9] at H
      have LMc9 := zaa.mk c9
      clear c9
      obtain ⟨y449, hy449⟩ : ∃ y_ : List Int, y_ = (l0 ++ [a1]) := ⟨_, rfl⟩
      replace H : (some y449) = some r := by first | (rw [hy449]; with_reducible exact H) | (have H2_ := (yax _ _).symm.trans H; rw [hy449]; with_reducible exact H2_) | (have H2_ := (yax _ _).symm.trans H; with_reducible exact H2_) | with_reducible exact H | (rw [hy449]; exact H) | exact H
      have Ny449 := zaa.mk hy449
      clear hy449
      obtain rfl := Option.some.inj H
      obtain ⟨Ao10, co10, eo10⟩ := Kd.R_slice HO0.out
      subst eo10
      have p448 : 0 ≤ ((ji4) : Int) := of_decide_eq_true (by assumption)
      have q448 : (ji4) < (l0.length : Int) := of_decide_eq_true (by assumption)
      obtain ⟨ad448, e448, hx448_0⟩ := Kd.at_int (Kd.R_reads' HO0.out).2.2 (ji4) p448 q448
      cases e448
      replace p448 := eq_true p448
      replace q448 := eq_true q448
      go_enter Try.func96, Try.ntmps96
      go_wp2_with (first | ((with_reducible refine zay (b := .append) (xs := #[.tmp 19, .tmp 21]) rfl ?_); (try (refine gate_guard (by rfl) ?_; dsimp only)); at_builtin; refine Kd.R_append (Kd.int .i64) (w0 := w0) w0.heap.size rfl (.tmp 19) (.tmp 21) 39 3 (.int .i64 0) 8 rfl Try.underlying39 info3 rfl (by decide) (by omega) (.slice (some ad448) l0.length co10) l0 a1 [.int .i64 a1] (fun k_ => (P0_ k_ ∨ w.heap.size ≤ k_)) (fun _ => False) rfl rfl ?aP (fun _ hk => hk.elim) ?aF ?aO ?aB ?aS ?aL ?_; (case aP => exact rfl); (case aB => exact (by repeat (first | (with_reducible first | exact HB.out | apply zac | apply zab | apply zad) | exact HB.out))); (case aF => exact (fun k_ hk => (.inr (Nat.le_trans (by first | exact HK.out.1 | exact (show Kept w _ (fun k_ => P0_ k_) from by repeat (first | (with_reducible first | exact HK.out | apply Kept.alloc | apply Kept.drewN | apply Kept.drew) | exact HK.out)).1) hk)))); (case aO => exact (by (with_reducible repeat (first | apply yaz | apply yba | apply ybb)); exact HO0.out)); (case aS => exact (zai (by repeat (first | (with_reducible first | exact HB.out | apply zac | apply zab | apply zad) | exact HB.out)))); (case aL => have := LMc9.out; omega); intro v450 w11 ho hb hg hat; rw [← Ny449.out] at ho; have n0_ := zaa.mk (hb); have n1_ := zaa.mk (Kept.of_grown (S := (fun k_ => P0_ k_)) hg (by repeat (first | (with_reducible first | exact HK.out | apply Kept.alloc | apply Kept.drewN | apply Kept.drew) | exact HK.out)) (fun k_ e_ => (HO0.out.1 k_ e_))); have n2_ := zaa.mk (ho); clear HB; clear HK; clear HO0; have HB := n0_; have HK := n1_; have HO451 := n2_; clear n0_ n1_ n2_; clear ho hb hg hat))
      go_ret
      exact ⟨_, by first | rfl | (simp [zan, zam] <;> rfl) | (simp only [← hji4]; first | rfl | (simp [zan, zam] <;> rfl)) | (simp [*, zan, zam] <;> rfl), by (with_reducible repeat (first | apply yaz | apply yba | apply ybb)); exact HO451.out, by repeat (first | (with_reducible first | exact HB.out | apply zac | apply zab | apply zad) | exact HB.out), by repeat (first | (with_reducible first | exact HK.out | apply Kept.alloc | apply Kept.drewN | apply Kept.drew) | exact HK.out)⟩
     ·rw [if_neg c9] at H
      exact absurd H (by simp)
   ·rw [if_neg c6] at H
    exact absurd H (by simp)
  ·rw [if_neg c5] at H
   exact absurd H (by simp)
 ·rw [if_neg c3] at H
  have c3b0 : decide (0 < (l0.length : Int)) = false := decide_eq_false c3
  have c3b1 : decide (0 < l0.length) = false := decide_eq_false (by omega)
  clear c3
  by_cases c12 : l0.length < 17592186044416
  ·rw [if_pos c12] at H
   have LMc12 := zaa.mk c12
   clear c12
   obtain ⟨y452, hy452⟩ : ∃ y_ : List Int, y_ = (l0 ++ [a1]) := ⟨_, rfl⟩
   replace H : (some y452) = some r := by first | (rw [hy452]; with_reducible exact H) | (have H2_ := (yax _ _).symm.trans H; rw [hy452]; with_reducible exact H2_) | (have H2_ := (yax _ _).symm.trans H; with_reducible exact H2_) | with_reducible exact H | (rw [hy452]; exact H) | exact H
   have Ny452 := zaa.mk hy452
   clear hy452
   obtain rfl := Option.some.inj H
   obtain ⟨Ao13, co13, eo13⟩ := Kd.R_slice HO0.out
   subst eo13
   go_enter Try.func96, Try.ntmps96
   go_wp2_with (first | ((with_reducible refine zay (b := .append) (xs := #[.tmp 19, .tmp 21]) rfl ?_); (try (refine gate_guard (by rfl) ?_; dsimp only)); at_builtin; refine Kd.R_append (Kd.int .i64) (w0 := w0) w0.heap.size rfl (.tmp 19) (.tmp 21) 39 3 (.int .i64 0) 8 rfl Try.underlying39 info3 rfl (by decide) (by omega) (.slice Ao13 l0.length co13) l0 a1 [.int .i64 a1] (fun k_ => (P0_ k_ ∨ w.heap.size ≤ k_)) (fun _ => False) rfl rfl ?aP (fun _ hk => hk.elim) ?aF ?aO ?aB ?aS ?aL ?_; (case aP => exact rfl); (case aB => exact (by repeat (first | (with_reducible first | exact HB.out | apply zac | apply zab | apply zad) | exact HB.out))); (case aF => exact (fun k_ hk => (.inr (Nat.le_trans (by first | exact HK.out.1 | exact (show Kept w _ (fun k_ => P0_ k_) from by repeat (first | (with_reducible first | exact HK.out | apply Kept.alloc | apply Kept.drewN | apply Kept.drew) | exact HK.out)).1) hk)))); (case aO => exact (by (with_reducible repeat (first | apply yaz | apply yba | apply ybb)); exact HO0.out)); (case aS => exact (zai (by repeat (first | (with_reducible first | exact HB.out | apply zac | apply zab | apply zad) | exact HB.out)))); (case aL => have := LMc12.out; omega); intro v453 w14 ho hb hg hat; rw [← Ny452.out] at ho; have n0_ := zaa.mk (hb); have n1_ := zaa.mk (Kept.of_grown (S := (fun k_ => P0_ k_)) hg (by repeat (first | (with_reducible first | exact HK.out | apply Kept.alloc | apply Kept.drewN | apply Kept.drew) | exact HK.out)) (fun k_ e_ => (HO0.out.1 k_ e_))); have n2_ := zaa.mk (ho); clear HB; clear HK; clear HO0; have HB := n0_; have HK := n1_; have HO454 := n2_; clear n0_ n1_ n2_; clear ho hb hg hat))
   go_ret
   exact ⟨_, by first | rfl | (simp [zan, zam] <;> rfl) | (simp [*, zan, zam] <;> rfl), by (with_reducible repeat (first | apply yaz | apply yba | apply ybb)); exact HO454.out, by repeat (first | (with_reducible first | exact HB.out | apply zac | apply zab | apply zad) | exact HB.out), by repeat (first | (with_reducible first | exact HK.out | apply Kept.alloc | apply Kept.drewN | apply Kept.drew) | exact HK.out)⟩
  ·rw [if_neg c12] at H
   exact absurd H (by simp)
end Go.Proofs.Ytaepgogafkmooaa.PB
namespace Go.Proofs.Ytaepgogafkmooaa.PB
open Go.RowKit Go.PW.PrintWords Go.PW.PrintLast Go.PW.PrintMore
attribute [local go_sem] zcb zbz max_two min_two zbs zbr zca zby   -- for this text's walks alone
def spec_l2Sides.l0 : Nat → List ByteArray → List Int → List Int → List Int → Int → Option (List Int × List Int)
 | 0, _, _, _, _, _ => none
 | k + 1, x0, x1, x6, x7, x8 => if 2 < (x1.length : Int) then (if 3 < (x1.length : Int) then (if x8 < (wrap64 ((rd x1 2) + (rd x1 3))) then (if 0 < (x1.length : Int) then (if (rd x1 0) = 0 then (if 0 ≤ x8 then (if x8 < (x0.length : Int) then (if 1 < (x1.length : Int) then (if 0 ≤ (wrap64 ((rd x1 1) - 1)) then (if (wrap64 ((rd x1 1) - 1)) < ((rdOf yav x0 x8).size : Int) then ((spec_l2Put.f x6 (wrap64 ((wrap64 (bt (rdOf yav x0 x8) (wrap64 ((rd x1 1) - 1)))) - 97))).bind fun t467 => (if 0 ≤ (rd x1 1) then (if (rd x1 1) < ((rdOf yav x0 x8).size : Int) then ((spec_l2Put.f x7 (wrap64 ((wrap64 (bt (rdOf yav x0 x8) (rd x1 1))) - 97))).bind fun t472 => (spec_l2Sides.l0 k x0 x1 t467 t472 (wrap64 (x8 + 1)))) else (none)) else (none))) else (none)) else (none)) else (none)) else (none)) else (none)) else (if 1 < (x1.length : Int) then (if 0 ≤ (wrap64 ((rd x1 1) - 1)) then (if (wrap64 ((rd x1 1) - 1)) < (x0.length : Int) then (if 0 ≤ x8 then (if x8 < ((rdOf yav x0 (wrap64 ((rd x1 1) - 1))).size : Int) then ((spec_l2Put.f x6 (wrap64 ((wrap64 (bt (rdOf yav x0 (wrap64 ((rd x1 1) - 1))) x8)) - 97))).bind fun t477 => (if 0 ≤ (rd x1 1) then (if (rd x1 1) < (x0.length : Int) then (if x8 < ((rdOf yav x0 (rd x1 1)).size : Int) then ((spec_l2Put.f x7 (wrap64 ((wrap64 (bt (rdOf yav x0 (rd x1 1)) x8)) - 97))).bind fun t482 => (spec_l2Sides.l0 k x0 x1 t477 t482 (wrap64 (x8 + 1)))) else (none)) else (none)) else (none))) else (none)) else (none)) else (none)) else (none)) else (none))) else (none)) else (some (x6, x7))) else (none)) else (none)
def spec_l2Sides.f (k : Nat) (l0 : List ByteArray) (l1 : List Int) : Option (List Int × List Int) := if 2 < (l1.length : Int) then (spec_l2Sides.l0 k l0 l1 (([] : List Int)) (([] : List Int)) (rd l1 2)) else (none)
def spec_l2Sides.T4 : Bool × List (List Nat × List Nat) := (true, [([], []), ([], []), ([1], [1]), ([2], [2]), ([], []), ([4], [4]), ([5], [5]), ([3, 6], [3, 6]), ([0, 7], [0, 7])])
def spec_l2Sides.B4 : List Nat := [0, 0, 2, 6, 0, 16, 48, 126, 255]
theorem spec_l2Sides.tab4 : rtab .any (opsOf Try.f92 4) = spec_l2Sides.T4 := by kernel_rfl
theorem spec_l2Sides.bits4 : waitsOk spec_l2Sides.T4.2 spec_l2Sides.B4 = true := by kernel_rfl
def spec_l2Sides.T7 : Bool × List (List Nat × List Nat) := (true, [([], []), ([], []), ([], []), ([1, 2], [1, 2]), ([3], [3]), ([], []), ([5], [5]), ([6], [6]), ([7], [7]), ([4, 8], [4, 8]), ([9], [9]), ([10], [10]), ([0, 11], [0, 11]), ([12, 12, 0, 1, 2, 3, 4, 5, 6, 7, 8, 9, 10, 11, 12], [0, 12])])
def spec_l2Sides.B7 : List Nat := [0, 0, 0, 6, 14, 0, 32, 96, 224, 510, 1022, 2046, 4095, 8191]
theorem spec_l2Sides.tab7 : rtab .any (opsOf Try.f92 7) = spec_l2Sides.T7 := by kernel_rfl
theorem spec_l2Sides.bits7 : waitsOk spec_l2Sides.T7.2 spec_l2Sides.B7 = true := by kernel_rfl
def spec_l2Sides.T8 : Bool × List (List Nat × List Nat) := (true, [([], []), ([], []), ([], []), ([1, 2], [1, 2]), ([3], [3]), ([], []), ([5], [5]), ([6], [6]), ([4, 7], [4, 7]), ([8], [8]), ([9], [9]), ([0, 10], [0, 10]), ([11, 11, 0, 1, 2, 3, 4, 5, 6, 7, 8, 9, 10, 11], [0, 11])])
def spec_l2Sides.B8 : List Nat := [0, 0, 0, 6, 14, 0, 32, 96, 254, 510, 1022, 2047, 4095]
theorem spec_l2Sides.tab8 : rtab .any (opsOf Try.f92 8) = spec_l2Sides.T8 := by kernel_rfl
theorem spec_l2Sides.bits8 : waitsOk spec_l2Sides.T8.2 spec_l2Sides.B8 = true := by kernel_rfl
set_option maxHeartbeats 8000000 in
set_option maxRecDepth 100000 in
theorem spec_l2Sides.calls (k : Nat) (A0 : Option Addr) (c0 : Nat) (l0 : List ByteArray) (A1 : Option Addr) (c1 : Nat) (l1 : List Int) (r1 : List Int) (r2 : List Int) (w : World) (hr0 : Kd.C Kd.string w A0 l0.length l0) (hc0 : l0.length ≤ c0) (hr1 : Kd.C (Kd.int .i64) w A1 l1.length l1) (hc1 : l1.length ≤ c1) (h : spec_l2Sides.f k l0 l1 = some (r1, r2)) :
  Calls Try.prog 92 #[.slice A0 l0.length c0, .slice A1 l1.length c1] w fun e w' => ∃ v0_ v1_ : Value, e = .returned (.tuple #[v0_, v1_]) ∧ Kd.R (Kd.int .i64) 3 w' w.heap.size (fun k_ => some k_ ≠ (v1_ : Value).ownBlock) v0_ r1 ∧ Kd.R (Kd.int .i64) 3 w' w.heap.size (fun k_ => some k_ ≠ (v0_ : Value).ownBlock) v1_ r2 ∧ Below w.heap.size w w' := by
 have HR0 := zaa.mk hr0
 have HC0 := zaa.mk hc0
 clear hr0 hc0
 have HR1 := zaa.mk hr1
 have HC1 := zaa.mk hc1
 clear hr1 hc1
 have HB := zaa.mk (Below.refl w.heap.size w)
 have H : (if 2 < (l1.length : Int) then (spec_l2Sides.l0 k l0 l1 (([] : List Int)) (([] : List Int)) (rd l1 2)) else (none)) = some (r1, r2) := h
 clear h
 obtain ⟨y455, hy455⟩ : ∃ y_ : List Int, y_ = (([] : List Int)) := ⟨_, rfl⟩
 replace H : (if 2 < (l1.length : Int) then (spec_l2Sides.l0 k l0 l1 y455 (([] : List Int)) (rd l1 2)) else (none)) = some (r1, r2) := by first | (rw [hy455]; with_reducible exact H) | (have H2_ := (yax _ _).symm.trans H; rw [hy455]; with_reducible exact H2_) | (have H2_ := (yax _ _).symm.trans H; with_reducible exact H2_) | with_reducible exact H | (rw [hy455]; exact H) | exact H
 have Ny455 := zaa.mk hy455
 clear hy455
 obtain ⟨y458, hy458⟩ : ∃ y_ : List Int, y_ = (([] : List Int)) := ⟨_, rfl⟩
 replace H : (if 2 < (l1.length : Int) then (spec_l2Sides.l0 k l0 l1 y455 y458 (rd l1 2)) else (none)) = some (r1, r2) := by first | (rw [hy458]; with_reducible exact H) | (have H2_ := (yax _ _).symm.trans H; rw [hy458]; with_reducible exact H2_) | (have H2_ := (yax _ _).symm.trans H; with_reducible exact H2_) | with_reducible exact H | (rw [hy458]; exact H) | exact H
 have Ny458 := zaa.mk hy458
 clear hy458
 by_cases c3 : 2 < (l1.length : Int)
 ·rw [if_pos c3] at H
  have c3b0 : decide (2 < (l1.length : Int)) = true := decide_eq_true c3
  have c3b1 : decide (2 < l1.length) = true := decide_eq_true (by omega)
  clear c3
  have H' := zaa.mk H
  clear H
  go_enter Try.func92, Try.ntmps92
  go_wp2_with (first | ((with_reducible refine zbc (N := 9) rfl ?_); refine Kd.R_lit (Kd.int .i64) _ 3 ?hg (N := 9) ?hd (xs := ([] : List Int)) (inner := []) (ok := fun _ => True) (okp := fun _ => True) ?hr ?hp (fun _ hk => hk) trivial (Below.refl _ _) (yay _) (by simp) ?_; (case hd => rfl); (case hg => rfl); (case hr => first | (go_simp; done) | (go_simp; rfl)); (case hp => exact (Reps.none _ _)); intro v456 w4 ho5 hb hg_ hnew_; clear hg_ hnew_; (first | rw [← Ny455.out] at ho5 | (simp only [Int.reduceToNat] at ho5; rw [← Ny455.out] at ho5)); have n0_ := zaa.mk (Kd.R_lower ho5 (zai (by repeat (first | (with_reducible first | exact HB.out | apply zac | apply zab | apply zad) | exact HB.out)))); have n1_ := zaa.mk (zag (by repeat (first | (with_reducible first | exact HB.out | apply zac | apply zab | apply zad) | exact HB.out)) hb); clear HB; have HO457 := n0_; have HB := n1_; clear n0_ n1_; clear hb ho5) | ((with_reducible refine zbc (N := 10) rfl ?_); refine Kd.R_lit (Kd.int .i64) _ 3 ?hg (N := 10) ?hd (xs := ([] : List Int)) (inner := []) (ok := fun _ => True) (okp := fun _ => True) ?hr ?hp (fun _ hk => hk) trivial (Below.refl _ _) (yay _) (by simp) ?_; (case hd => rfl); (case hg => rfl); (case hr => first | (go_simp; done) | (go_simp; rfl)); (case hp => exact (Reps.none _ _)); intro v459 w6 ho7 hb hg_ hnew_; clear hg_ hnew_; (first | rw [← Ny458.out] at ho7 | (simp only [Int.reduceToNat] at ho7; rw [← Ny458.out] at ho7)); have n0_ := zaa.mk (Kd.R_elder' (by (with_reducible repeat (first | apply yaz | apply yba | apply ybb)); exact HO457.out) (Kd.R_base ho7) hb); have n1_ := zaa.mk (Kd.R_lower (Kd.R_new' ho7 (Kd.R_lt (by (with_reducible repeat (first | apply yaz | apply yba | apply ybb)); exact HO457.out))) (zai (by repeat (first | (with_reducible first | exact HB.out | apply zac | apply zab | apply zad) | exact HB.out)))); have n2_ := zaa.mk (zag (by repeat (first | (with_reducible first | exact HB.out | apply zac | apply zab | apply zad) | exact HB.out)) hb); clear HO457; clear HB; have HO457 := n0_; have HO460 := n1_; have HB := n2_; clear n0_ n1_ n2_; clear hb ho7; have p461 : 0 ≤ (2 : Int) := (by omega); have q461 : 2 < (l1.length : Int) := of_decide_eq_true (by assumption); obtain ⟨ad461, e461, hx461_0⟩ := Kd.at_int HR1.out 2 p461 q461; cases e461; (try simp only [show (2 : Int).toNat = 2 from rfl, Nat.reduceMul, Nat.reduceEqDiff, Go.Addr.add, ↓reduceIte] at hx461_0); have qi461 : (2 < l1.length) = True := eq_true (by omega); (try rw [show ((2 : Int)).toNat = 2 from rfl] at hx461_0); replace hx461_0 := (HB.out.cell (World.block_lt_of_cell? w _ hx461_0)).trans hx461_0; replace p461 := eq_true p461; replace q461 := eq_true q461))
  go_loopg [6, 7, 8] k (fun kq v6 v7 v8 w' => ∃ (x6_1 : List Int) (x7_1 : List Int) (x8_1 : Int), v8 = .int .i64 x8_1 ∧ zaa (spec_l2Sides.l0 kq l0 l1 x6_1 x7_1 x8_1 = some (r1, r2)) ∧ zaa (kq ≤ k) ∧ zaa (Kd.R (Kd.int .i64) 3 w' w.heap.size (fun k_ => some k_ ≠ (v7 : Value).ownBlock) v6 x6_1) ∧ zaa (Kd.R (Kd.int .i64) 3 w' w.heap.size (fun k_ => some k_ ≠ (v6 : Value).ownBlock) v7 x7_1) ∧ zaa (Below w.heap.size w w'))
  case atStart => exact ⟨(y455), (y458), (rd l1 2), (by first | rfl | (simp; done) | (simp [*]; done)), H', ⟨yay _⟩, ⟨by (with_reducible repeat (first | apply yaz | apply yba | apply ybb)); exact Kd.R_mono HO457.out (fun _ hk => hk.2)⟩, ⟨by (with_reducible repeat (first | apply yaz | apply yba | apply ybb)); exact Kd.R_mono HO460.out (fun _ hk => hk.2)⟩, ⟨by repeat (first | (with_reducible first | exact HB.out | apply zac | apply zab | apply zad) | exact HB.out)⟩⟩
  case round =>
   clear H'
   try clear c1
   try clear p2
   try clear c3
   try clear c3b0
   try clear c3b1
   try clear p4
   try clear q4
   try clear hx4
   try clear qi4
   try clear hx461_0
   try clear p461
   try clear q461
   obtain ⟨x6_1, x7_1, x8_1, rfl, HA, HK1, HO_6, HO_7, HB⟩ := hrel
   cases gk with
   | zero => exact absurd HA.out (by simp [spec_l2Sides.l0])
   | succ k1 =>
    have H := HA.out
    clear HA
    simp only [spec_l2Sides.l0] at H
    by_cases c8 : 2 < (l1.length : Int)
    ·rw [if_pos c8] at H
     have c8b0 : decide (2 < (l1.length : Int)) = true := decide_eq_true c8
     have c8b1 : decide (2 < l1.length) = true := decide_eq_true (by omega)
     clear c8
     by_cases c9 : 3 < (l1.length : Int)
     ·rw [if_pos c9] at H
      have c9b0 : decide (3 < (l1.length : Int)) = true := decide_eq_true c9
      have c9b1 : decide (3 < l1.length) = true := decide_eq_true (by omega)
      clear c9
      by_cases c10 : x8_1 < (wrap64 ((rd l1 2) + (rd l1 3)))
      ·rw [if_pos c10] at H
       have c10b0 : decide (x8_1 < (wrap64 ((rd l1 2) + (rd l1 3)))) = true := decide_eq_true c10
       clear c10
       by_cases c11 : 0 < (l1.length : Int)
       ·rw [if_pos c11] at H
        have c11b0 : decide (0 < (l1.length : Int)) = true := decide_eq_true c11
        have c11b1 : decide (0 < l1.length) = true := decide_eq_true (by omega)
        clear c11
        by_cases c12 : (rd l1 0) = 0
        ·rw [if_pos c12] at H
         have c12b0 : ((rd l1 0) == 0) = true := beq_iff_eq.mpr c12
         have c12b1 : ((rd l1 0) != 0) = false := bne_eq_false_iff_eq.mpr c12
         clear c12
         by_cases c13 : 0 ≤ x8_1
         ·rw [if_pos c13] at H
          have c13b0 : decide (0 ≤ x8_1) = true := decide_eq_true c13
          clear c13
          by_cases c14 : x8_1 < (l0.length : Int)
          ·rw [if_pos c14] at H
           have c14b0 : decide (x8_1 < (l0.length : Int)) = true := decide_eq_true c14
           clear c14
           by_cases c15 : 1 < (l1.length : Int)
           ·rw [if_pos c15] at H
            have c15b0 : decide (1 < (l1.length : Int)) = true := decide_eq_true c15
            have c15b1 : decide (1 < l1.length) = true := decide_eq_true (by omega)
            clear c15
            obtain ⟨ji16, hji16⟩ : ∃ j_ : Int, (wrap64 ((rd l1 1) - 1)) = j_ := ⟨_, rfl⟩
            replace H : (if 0 ≤ (ji16) then (if (ji16) < ((rdOf yav l0 x8_1).size : Int) then ((spec_l2Put.f x6_1 (wrap64 ((wrap64 (bt (rdOf yav l0 x8_1) (ji16))) - 97))).bind fun t467 => (if 0 ≤ (rd l1 1) then (if (rd l1 1) < ((rdOf yav l0 x8_1).size : Int) then ((spec_l2Put.f x7_1 (wrap64 ((wrap64 (bt (rdOf yav l0 x8_1) (rd l1 1))) - 97))).bind fun t472 => (spec_l2Sides.l0 k1 l0 l1 t467 t472 (wrap64 (x8_1 + 1)))) else (none)) else (none))) else (none)) else (none)) = some (r1, r2) := by first | (rw [hji16] at H; exact H) | (simp only [hji16] at H ⊢; exact H)
            have hji16w : (IntKind.i64.wrap ((rd l1 1) - 1)) = ji16 := (zar _).trans hji16
            by_cases c17 : 0 ≤ (ji16)
            ·rw [if_pos c17] at H
             have c17b0 : decide (0 ≤ (ji16)) = true := decide_eq_true c17
             clear c17
             by_cases c18 : (ji16) < ((rdOf yav l0 x8_1).size : Int)
             ·rw [if_pos c18] at H
              have c18b0 : decide ((ji16) < ((rdOf yav l0 x8_1).size : Int)) = true := decide_eq_true c18
              clear c18
              replace H := yaw.mp H
              obtain ⟨t467, A200, H⟩ := H
              replace H : (if 0 ≤ (rd l1 1) then (if (rd l1 1) < ((rdOf yav l0 x8_1).size : Int) then ((spec_l2Put.f x7_1 (wrap64 ((wrap64 (bt (rdOf yav l0 x8_1) (rd l1 1))) - 97))).bind fun t472 => (spec_l2Sides.l0 k1 l0 l1 t467 t472 (wrap64 (x8_1 + 1)))) else (none)) else (none)) = some (r1, r2) := H
              have A20 := zaa.mk A200
              clear A200
              by_cases c21 : 0 ≤ (rd l1 1)
              ·rw [if_pos c21] at H
               have c21b0 : decide (0 ≤ (rd l1 1)) = true := decide_eq_true c21
               clear c21
               by_cases c22 : (rd l1 1) < ((rdOf yav l0 x8_1).size : Int)
               ·rw [if_pos c22] at H
                have c22b0 : decide ((rd l1 1) < ((rdOf yav l0 x8_1).size : Int)) = true := decide_eq_true c22
                clear c22
                replace H := yaw.mp H
                obtain ⟨t472, A240, H⟩ := H
                replace H : (spec_l2Sides.l0 k1 l0 l1 t467 t472 (wrap64 (x8_1 + 1))) = some (r1, r2) := H
                have A24 := zaa.mk A240
                clear A240
                have H' := zaa.mk H
                clear H
                try go_wp2
                have n0_ := zaa.mk (ybb HO_6.out)
                have n1_ := zaa.mk (ybb HO_7.out)
                have n2_ := zaa.mk (zad HB.out)
                clear HO_6
                clear HO_7
                clear HB
                have HO_6 := n0_
                have HO_7 := n1_
                have HB := n2_
                clear n0_ n1_ n2_
                have p462 : 0 ≤ (2 : Int) := (by omega)
                have q462 : 2 < (l1.length : Int) := of_decide_eq_true (by assumption)
                obtain ⟨ad462, e462, hx462_0⟩ := Kd.at_int HR1.out 2 p462 q462
                have hw462_0 := hx462_0
                (try rw [show ((2 : Int)).toNat = 2 from rfl] at hw462_0)
                (try rw [show 2 * 1 = 2 from rfl] at hw462_0)
                (try simp only [Nat.reduceMul, Nat.reduceEqDiff, Go.Addr.add, ↓reduceIte] at hw462_0)
                obtain rfl : ad461 = ad462 := (by injection e462)
                (try simp only [show (2 : Int).toNat = 2 from rfl, Nat.reduceMul, Nat.reduceEqDiff, Go.Addr.add, ↓reduceIte] at hx462_0)
                have qi462 : (2 < l1.length) = True := eq_true (by omega)
                (try rw [show ((2 : Int)).toNat = 2 from rfl] at hx462_0)
                replace hx462_0 := (HB.out.cell (World.block_lt_of_cell? w _ hx462_0)).trans hx462_0
                replace p462 := eq_true p462
                replace q462 := eq_true q462
                have p463 : 0 ≤ (3 : Int) := (by omega)
                have q463 : 3 < (l1.length : Int) := of_decide_eq_true (by assumption)
                obtain ⟨ad463, e463, hx463_0⟩ := Kd.at_int HR1.out 3 p463 q463
                have hw463_0 := hx463_0
                (try rw [show ((3 : Int)).toNat = 3 from rfl] at hw463_0)
                (try rw [show 3 * 1 = 3 from rfl] at hw463_0)
                (try simp only [Nat.reduceMul, Nat.reduceEqDiff, Go.Addr.add, ↓reduceIte] at hw463_0)
                obtain rfl : ad461 = ad463 := (by injection e463)
                (try simp only [show (3 : Int).toNat = 3 from rfl, Nat.reduceMul, Nat.reduceEqDiff, Go.Addr.add, ↓reduceIte] at hx463_0)
                have qi463 : (3 < l1.length) = True := eq_true (by omega)
                (try rw [show ((3 : Int)).toNat = 3 from rfl] at hx463_0)
                replace hx463_0 := (HB.out.cell (World.block_lt_of_cell? w _ hx463_0)).trans hx463_0
                replace p463 := eq_true p463
                replace q463 := eq_true q463
                refine start_ (n := 9) (S := fun w' => w'.cell? ⟨ad461.block, ad461.off + 2, none⟩ = some (.int .i64 (rd l1 2)) ∧ w'.cell? ⟨ad461.block, ad461.off + 3, none⟩ = some (.int .i64 (rd l1 3))) (ds := []) #[zf, zf, zf, zf, zf, zf, zf, zf, zf] (by kernel_rfl) rfl rfl ⟨((HB.out.cell (World.block_lt_of_cell? w _ hw462_0)).trans hw462_0), ((HB.out.cell (World.block_lt_of_cell? w _ hw463_0)).trans hw463_0)⟩ (fun hHeld => ?_); refine with_tabW spec_l2Sides.tab4 spec_l2Sides.bits4 (fun HT_ HW_ => ?_)
                generalize wr.drew = w25 at HO_6 HO_7 HB hx462_0 hx463_0 hHeld ⊢
                refine zav (i := 0) (N := some 14) (v := ?_) (a' := ?_) #[zt, zf, zf, zf, zf, zf, zf, zf, zf] rfl rfl (zaw HT_.out (by kernel_rfl)) (fun _ _ _ h => h) (Or.inl ⟨by rfl, ?_⟩) ?_ ?_
                rotate_left
                ·intro w'; go_simp; with_reducible rfl
                rotate_left
                ·simp only [Act.put, yan, yao, yap, zar, zas]; rfl
                refine zav (i := 1) (N := some 15) (v := ?_) (a' := ?_) #[zt, zt, zf, zf, zf, zf, zf, zf, zf] rfl rfl (zaw HT_.out (by kernel_rfl)) (fun _ _ _ h => h) (Or.inl ⟨by rfl, ?_⟩) ?_ ?_
                rotate_left
                ·intro w'; go_simp; with_reducible rfl
                rotate_left
                ·simp only [Act.put, yan, yao, yap, zar, zas]; rfl
                refine zav (i := 2) (N := some 16) (v := ?_) (a' := ?_) #[zt, zt, zt, zf, zf, zf, zf, zf, zf] rfl rfl (zaw HT_.out (by kernel_rfl)) (fun _ _ _ h => h) (Or.inl ⟨by rfl, ?_⟩) ?_ ?_
                rotate_left
                ·intro w'; go_simp; with_reducible rfl
                rotate_left
                ·simp only [Act.put, yan, yao, yap, zar, zas]; rfl
                refine zav (i := 4) (N := some 18) (v := ?_) (a' := ?_) #[zt, zt, zt, zf, zt, zf, zf, zf, zf] rfl rfl (zaw HT_.out (by kernel_rfl)) (fun _ _ _ h => h) (Or.inl ⟨by rfl, ?_⟩) ?_ ?_
                rotate_left
                ·intro w'; go_simp; with_reducible rfl
                rotate_left
                ·simp only [Act.put, yan, yao, yap, zar, zas]; rfl
                refine zav (i := 5) (N := some 19) (v := ?_) (a' := ?_) #[zt, zt, zt, zf, zt, zt, zf, zf, zf] rfl rfl (zaw HT_.out (by kernel_rfl)) (fun _ _ _ h => h) (Or.inl ⟨by rfl, ?_⟩) ?_ ?_
                rotate_left
                ·intro w'; go_simp; with_reducible rfl
                rotate_left
                ·simp only [Act.put, yan, yao, yap, zar, zas]; rfl
                refine take_ (i := 3) (N := some 17) (v := ?_) (a' := ?_) #[zt, zt, zt, zt, zt, zt, zf, zf, zf] rfl rfl (zcp HT_.out HW_.out (by kernel_rfl)) (fun _ _ _ h => h) (Or.inl ⟨by rfl, ?_⟩) hHeld ?_ ?_
                rotate_left
                ·rintro w' ⟨s0, s1⟩
                 go_simp
                 with_reducible rfl
                rotate_left
                ·simp only [Act.put, yan, yao, yap, zar, zas]; rfl
                refine take_ (i := 6) (N := some 20) (v := ?_) (a' := ?_) #[zt, zt, zt, zt, zt, zt, zt, zf, zf] rfl rfl (zcp HT_.out HW_.out (by kernel_rfl)) (fun _ _ _ h => h) (Or.inl ⟨by rfl, ?_⟩) hHeld ?_ ?_
                rotate_left
                ·rintro w' ⟨s0, s1⟩
                 go_simp
                 with_reducible rfl
                rotate_left
                ·simp only [Act.put, yan, yao, yap, zar, zas]; rfl
                refine zav (i := 7) (N := some 21) (v := ?_) (a' := ?_) #[zt, zt, zt, zt, zt, zt, zt, zt, zf] rfl rfl (zaw HT_.out (by kernel_rfl)) (fun _ _ _ h => h) (Or.inl ⟨by rfl, ?_⟩) ?_ ?_
                rotate_left
                ·intro w'; go_simp; with_reducible rfl
                rotate_left
                ·simp only [Act.put, yan, yao, yap, zar, zas]; rfl
                refine zav (i := 8) (N := some 22) (v := ?_) (a' := ?_) #[zt, zt, zt, zt, zt, zt, zt, zt, zt] rfl rfl (zaw HT_.out (by kernel_rfl)) (fun _ _ _ h => h) (Or.inl ⟨by rfl, ?_⟩) ?_ ?_
                rotate_left
                ·intro w'; go_simp; with_reducible rfl
                rotate_left
                ·simp only [Act.put, yan, yao, yap, zar, zas]; rfl
                refine done_ (done_of HT_.out (by kernel_rfl)) ?_
                have p464 : 0 ≤ (0 : Int) := (by omega)
                have q464 : 0 < (l1.length : Int) := of_decide_eq_true (by assumption)
                obtain ⟨ad464, e464, hx464_0⟩ := Kd.at_int HR1.out 0 p464 q464
                obtain rfl : ad461 = ad464 := (by injection e464)
                have qi464 : (0 < l1.length) = True := eq_true (by omega)
                (try rw [show ((0 : Int)).toNat = 0 from rfl] at hx464_0)
                (try rw [Addr.add_zero'] at hx464_0)
                replace hx464_0 := (HB.out.cell (World.block_lt_of_cell? w _ hx464_0)).trans hx464_0
                replace p464 := eq_true p464
                replace q464 := eq_true q464
                try go_wp2
                have n0_ := zaa.mk (ybb HO_6.out)
                have n1_ := zaa.mk (ybb HO_7.out)
                have n2_ := zaa.mk (zad HB.out)
                clear HO_6
                clear HO_7
                clear HB
                have HO_6 := n0_
                have HO_7 := n1_
                have HB := n2_
                clear n0_ n1_ n2_
                have p465 : 0 ≤ (x8_1 : Int) := of_decide_eq_true (by assumption)
                have q465 : x8_1 < (l0.length : Int) := of_decide_eq_true (by assumption)
                obtain ⟨ad465, e465, hx465_0⟩ := Kd.at_string HR0.out x8_1 p465 q465
                have hw465_0 := hx465_0
                cases e465
                replace hx465_0 := (HB.out.cell (World.block_lt_of_cell? w _ hx465_0)).trans hx465_0
                replace p465 := eq_true p465
                replace q465 := eq_true q465
                have p466 : 0 ≤ (1 : Int) := (by omega)
                have q466 : 1 < (l1.length : Int) := of_decide_eq_true (by assumption)
                obtain ⟨ad466, e466, hx466_0⟩ := Kd.at_int HR1.out 1 p466 q466
                have hw466_0 := hx466_0
                (try rw [show ((1 : Int)).toNat = 1 from rfl] at hw466_0)
                (try rw [show 1 * 1 = 1 from rfl] at hw466_0)
                (try simp only [Nat.reduceMul, Nat.reduceEqDiff, Go.Addr.add, ↓reduceIte] at hw466_0)
                obtain rfl : ad461 = ad466 := (by injection e466)
                (try simp only [show (1 : Int).toNat = 1 from rfl, Nat.reduceMul, Nat.reduceEqDiff, Go.Addr.add, ↓reduceIte] at hx466_0)
                have qi466 : (1 < l1.length) = True := eq_true (by omega)
                (try rw [show ((1 : Int)).toNat = 1 from rfl] at hx466_0)
                replace hx466_0 := (HB.out.cell (World.block_lt_of_cell? w _ hx466_0)).trans hx466_0
                replace p466 := eq_true p466
                replace q466 := eq_true q466
                have p19 : 0 ≤ ((ji16) : Int) := of_decide_eq_true (by assumption)
                have q19 : (ji16) < ((rdOf yav l0 x8_1).size : Int) := of_decide_eq_true (by assumption)
                have hx19 := bt_at (rdOf yav l0 x8_1) (ji16)
                replace p19 := eq_true p19
                replace q19 := eq_true q19
                obtain ⟨Ao27, co27, eo27⟩ := Kd.R_slice HO_6.out
                (first | subst eo27 | (injection eo27 with f1_ f2_ f3_; have f4_ := f1_.symm; have f5_ := f3_.symm; clear f1_ f2_ f3_; subst f4_; subst f5_))
                refine start_ (n := 14) (S := fun w' => w'.cell? (ad465.add (x8_1).toNat) = some (.string (rdOf yav l0 x8_1)) ∧ w'.cell? ⟨ad461.block, ad461.off + 1, none⟩ = some (.int .i64 (rd l1 1))) (ds := []) #[zf, zf, zf, zf, zf, zf, zf, zf, zf, zf, zf, zf, zf, zf] (by kernel_rfl) rfl rfl ⟨((HB.out.cell (World.block_lt_of_cell? w _ hw465_0)).trans hw465_0), ((HB.out.cell (World.block_lt_of_cell? w _ hw466_0)).trans hw466_0)⟩ (fun hHeld => ?_); refine with_tabW spec_l2Sides.tab7 spec_l2Sides.bits7 (fun HT_ HW_ => ?_)
                generalize w25.drew = w26 at HO_6 HO_7 HB hx465_0 hx466_0 hHeld ⊢
                refine zav (i := 0) (N := some 29) (v := ?_) (a' := ?_) #[zt, zf, zf, zf, zf, zf, zf, zf, zf, zf, zf, zf, zf, zf] rfl rfl (zaw HT_.out (by kernel_rfl)) (fun _ _ _ h => h) (Or.inl ⟨by rfl, ?_⟩) ?_ ?_
                rotate_left
                ·intro w'; go_simp; with_reducible rfl
                rotate_left
                ·simp only [Act.put, yan, yao, yap, zar, zas]; rfl
                refine zav (i := 1) (N := some 30) (v := ?_) (a' := ?_) #[zt, zt, zf, zf, zf, zf, zf, zf, zf, zf, zf, zf, zf, zf] rfl rfl (zaw HT_.out (by kernel_rfl)) (fun _ _ _ h => h) (Or.inl ⟨by rfl, ?_⟩) ?_ ?_
                rotate_left
                ·intro w'; go_simp; with_reducible rfl
                rotate_left
                ·simp only [Act.put, yan, yao, yap, zar, zas]; rfl
                refine zav (i := 2) (N := some 31) (v := ?_) (a' := ?_) #[zt, zt, zt, zf, zf, zf, zf, zf, zf, zf, zf, zf, zf, zf] rfl rfl (zaw HT_.out (by kernel_rfl)) (fun _ _ _ h => h) (Or.inl ⟨by rfl, ?_⟩) ?_ ?_
                rotate_left
                ·intro w'; go_simp; with_reducible rfl
                rotate_left
                ·simp only [Act.put, yan, yao, yap, zar, zas]; rfl
                refine zav (i := 3) (N := some 32) (v := ?_) (a' := ?_) #[zt, zt, zt, zt, zf, zf, zf, zf, zf, zf, zf, zf, zf, zf] rfl rfl (zaw HT_.out (by kernel_rfl)) (fun _ _ _ h => h) (Or.inl ⟨by rfl, ?_⟩) ?_ ?_
                rotate_left
                ·intro w'; go_simp; with_reducible rfl
                rotate_left
                ·simp only [Act.put, yan, yao, yap, zar, zas]; rfl
                refine zav (i := 5) (N := some 34) (v := ?_) (a' := ?_) #[zt, zt, zt, zt, zf, zt, zf, zf, zf, zf, zf, zf, zf, zf] rfl rfl (zaw HT_.out (by kernel_rfl)) (fun _ _ _ h => h) (Or.inl ⟨by rfl, ?_⟩) ?_ ?_
                rotate_left
                ·intro w'; go_simp; with_reducible rfl
                rotate_left
                ·simp only [Act.put, yan, yao, yap, zar, zas]; rfl
                refine zav (i := 6) (N := some 35) (v := ?_) (a' := ?_) #[zt, zt, zt, zt, zf, zt, zt, zf, zf, zf, zf, zf, zf, zf] rfl rfl (zaw HT_.out (by kernel_rfl)) (fun _ _ _ h => h) (Or.inl ⟨by rfl, ?_⟩) ?_ ?_
                rotate_left
                ·intro w'; go_simp; with_reducible rfl
                rotate_left
                ·simp only [Act.put, yan, yao, yap, zar, zas]; rfl
                refine take_ (i := 4) (N := some 33) (v := ?_) (a' := ?_) #[zt, zt, zt, zt, zt, zt, zt, zf, zf, zf, zf, zf, zf, zf] rfl rfl (zcp HT_.out HW_.out (by kernel_rfl)) (fun _ _ _ h => h) (Or.inl ⟨by rfl, ?_⟩) hHeld ?_ ?_
                rotate_left
                ·rintro w' ⟨s0, s1⟩
                 go_simp
                 with_reducible rfl
                rotate_left
                ·simp only [Act.put, yan, yao, yap, zar, zas]; rfl
                refine take_ (i := 7) (N := some 36) (v := ?_) (a' := ?_) #[zt, zt, zt, zt, zt, zt, zt, zt, zf, zf, zf, zf, zf, zf] rfl rfl (zcp HT_.out HW_.out (by kernel_rfl)) (fun _ _ _ h => h) (Or.inl ⟨by rfl, ?_⟩) hHeld ?_ ?_
                rotate_left
                ·rintro w' ⟨s0, s1⟩
                 go_simp
                 with_reducible rfl
                rotate_left
                ·simp only [Act.put, yan, yao, yap, zar, zas]; rfl
                refine zav (i := 8) (N := some 37) (v := ?_) (a' := ?_) #[zt, zt, zt, zt, zt, zt, zt, zt, zt, zf, zf, zf, zf, zf] rfl rfl (zaw HT_.out (by kernel_rfl)) (fun _ _ _ h => h) (Or.inl ⟨by rfl, ?_⟩) ?_ ?_
                rotate_left
                ·intro w'; go_simp; with_reducible rfl
                rotate_left
                ·simp only [Act.put, yan, yao, yap, zar, zas]; rfl
                refine take_ (i := 9) (N := some 38) (v := ?_) (a' := ?_) #[zt, zt, zt, zt, zt, zt, zt, zt, zt, zt, zf, zf, zf, zf] rfl rfl (zcp HT_.out HW_.out (by kernel_rfl)) (fun _ _ _ h => h) (Or.inl ⟨by rfl, ?_⟩) hHeld ?_ ?_
                rotate_left
                ·rintro w' ⟨s0, s1⟩
                 go_simp
                 with_reducible rfl
                rotate_left
                ·simp only [Act.put, yan, yao, yap, zar, zas]; rfl
                refine zav (i := 10) (N := some 39) (v := ?_) (a' := ?_) #[zt, zt, zt, zt, zt, zt, zt, zt, zt, zt, zt, zf, zf, zf] rfl rfl (zaw HT_.out (by kernel_rfl)) (fun _ _ _ h => h) (Or.inl ⟨by rfl, ?_⟩) ?_ ?_
                rotate_left
                ·intro w'; go_simp; with_reducible rfl
                rotate_left
                ·simp only [Act.put, yan, yao, yap, zar, zas]; rfl
                refine zav (i := 11) (N := some 40) (v := ?_) (a' := ?_) #[zt, zt, zt, zt, zt, zt, zt, zt, zt, zt, zt, zt, zf, zf] rfl rfl (zaw HT_.out (by kernel_rfl)) (fun _ _ _ h => h) (Or.inl ⟨by rfl, ?_⟩) ?_ ?_
                rotate_left
                ·intro w'; go_simp; with_reducible rfl
                rotate_left
                ·simp only [Act.put, yan, yao, yap, zar, zas]; rfl
                refine one_ (i := 12) (N := some 41) #[zt, zt, zt, zt, zt, zt, zt, zt, zt, zt, zt, zt, zt, zf] rfl rfl (one_of HT_.out (by kernel_rfl)) (by decide) (fun K hK => ?_)
                refine goes_ Try.func96 (by kernel_rfl) rfl #[.slice Ao27 x6_1.length co27, .int .i64 (wrap64 ((wrap64 (bt (rdOf yav l0 x8_1) (ji16))) - 97))] (by rfl) rfl rfl (by (try simp only [yaq, yar, yas]); first | done | (simp only [hji16]; rfl) | rfl | (simp only [yau, yat]; rfl)) ?_
                with_reducible refine (spec_l2Put.calls (fun k_ => some k_ = (.slice Ao27 x6_1.length co27 : Value).ownBlock) (.slice Ao27 x6_1.length co27) x6_1 (wrap64 ((wrap64 (bt (rdOf yav l0 x8_1) (ji16))) - 97)) t467 w _ ?side1 ?side2 A20.out).mono ?_
                (case side1 => repeat (first | (with_reducible first | exact HB.out | apply zac | apply zab | apply zad) | exact HB.out))
                (case side2 => exact Kd.R_tight rfl HO_6.out)
                rintro e w28 ⟨v468, rfl, ho0, hb, hkp⟩
                refine ⟨_, rfl, ?_⟩
                have n0_ := zaa.mk (Kd.R_mono (ok' := fun k_ => some k_ ≠ (v468 : Value).ownBlock) (Kd.R_keptB (HO_7.out) hkp (fun k_ hk_ hs_ => (hk_) hs_)) (fun k_ hk_ => fun e_ => Or.elim (ho0.1 k_ e_.symm) (fun hs_ => hk_.2.1 hs_) (fun hn_ => Nat.not_le.2 hk_.2.2 hn_)))
                have n1_ := zaa.mk (Kd.R_mono (ok' := fun k_ => some k_ ≠ (u7 : Value).ownBlock) ho0 (fun k_ hk_ => Or.elim hk_ (fun hs_ => fun e_ => (((HO_7.out).1 k_ e_.symm)) hs_) (fun hn_ => (Kd.fresh' (Kd.R_lt (by (with_reducible repeat (first | apply yaz | apply yba | apply ybb)); exact HO_7.out)) k_ hn_))))
                have n2_ := zaa.mk (hb)
                clear HO_7
                clear HB
                clear HO_6
                have HO_7 := n0_
                have HO469 := n1_
                have HB := n2_
                clear n0_ n1_ n2_
                (try clear hb)
                (try clear hkp)
                (try clear ho0)
                refine hK.out _ _ ⟨((HB.out.cell (World.block_lt_of_cell? w _ hw465_0)).trans hw465_0), ((HB.out.cell (World.block_lt_of_cell? w _ hw466_0)).trans hw466_0)⟩ (fun hHeld => ?_)
                clear hK K
                refine norm_ (a' := ?_) ?_ ?_
                rotate_left
                ·show Act.put _ (some 41) _ = _
                 simp only [Act.put, yan, yao, yap, zar, zas]
                 rfl
                refine zav (i := 13) (N := some 6) (v := ?_) (a' := ?_) #[zt, zt, zt, zt, zt, zt, zt, zt, zt, zt, zt, zt, zt, zt] rfl rfl (zaw HT_.out (by kernel_rfl)) (fun _ _ _ h => h) (Or.inl ⟨by rfl, ?_⟩) ?_ ?_
                rotate_left
                ·intro w'; go_simp; with_reducible rfl
                rotate_left
                ·simp only [Act.put, yan, yao, yap, zar, zas]; rfl
                refine done_ (done_of HT_.out (by kernel_rfl)) ?_
                try go_wp2
                have n0_ := zaa.mk (ybb HO_7.out)
                have n1_ := zaa.mk (ybb HO469.out)
                have n2_ := zaa.mk (zad HB.out)
                clear HO_7
                clear HO469
                clear HB
                have HO_7 := n0_
                have HO469 := n1_
                have HB := n2_
                clear n0_ n1_ n2_
                have p470 : 0 ≤ (x8_1 : Int) := of_decide_eq_true (by assumption)
                have q470 : x8_1 < (l0.length : Int) := of_decide_eq_true (by assumption)
                obtain ⟨ad470, e470, hx470_0⟩ := Kd.at_string HR0.out x8_1 p470 q470
                have hw470_0 := hx470_0
                obtain rfl : ad465 = ad470 := (by injection e470)
                replace hx470_0 := (HB.out.cell (World.block_lt_of_cell? w _ hx470_0)).trans hx470_0
                replace p470 := eq_true p470
                replace q470 := eq_true q470
                have p471 : 0 ≤ (1 : Int) := (by omega)
                have q471 : 1 < (l1.length : Int) := of_decide_eq_true (by assumption)
                obtain ⟨ad471, e471, hx471_0⟩ := Kd.at_int HR1.out 1 p471 q471
                have hw471_0 := hx471_0
                (try rw [show ((1 : Int)).toNat = 1 from rfl] at hw471_0)
                (try rw [show 1 * 1 = 1 from rfl] at hw471_0)
                (try simp only [Nat.reduceMul, Nat.reduceEqDiff, Go.Addr.add, ↓reduceIte] at hw471_0)
                obtain rfl : ad461 = ad471 := (by injection e471)
                (try simp only [show (1 : Int).toNat = 1 from rfl, Nat.reduceMul, Nat.reduceEqDiff, Go.Addr.add, ↓reduceIte] at hx471_0)
                have qi471 : (1 < l1.length) = True := eq_true (by omega)
                (try rw [show ((1 : Int)).toNat = 1 from rfl] at hx471_0)
                replace hx471_0 := (HB.out.cell (World.block_lt_of_cell? w _ hx471_0)).trans hx471_0
                replace p471 := eq_true p471
                replace q471 := eq_true q471
                have p23 : 0 ≤ ((rd l1 1) : Int) := of_decide_eq_true (by assumption)
                have q23 : (rd l1 1) < ((rdOf yav l0 x8_1).size : Int) := of_decide_eq_true (by assumption)
                have hx23 := bt_at (rdOf yav l0 x8_1) (rd l1 1)
                replace p23 := eq_true p23
                replace q23 := eq_true q23
                obtain ⟨Ao30, co30, eo30⟩ := Kd.R_slice HO_7.out
                (first | subst eo30 | (injection eo30 with f1_ f2_ f3_; have f4_ := f1_.symm; have f5_ := f3_.symm; clear f1_ f2_ f3_; subst f4_; subst f5_))
                refine start_ (n := 13) (S := fun w' => w'.cell? (ad465.add (x8_1).toNat) = some (.string (rdOf yav l0 x8_1)) ∧ w'.cell? ⟨ad461.block, ad461.off + 1, none⟩ = some (.int .i64 (rd l1 1))) (ds := []) #[zf, zf, zf, zf, zf, zf, zf, zf, zf, zf, zf, zf, zf] (by kernel_rfl) rfl rfl ⟨((HB.out.cell (World.block_lt_of_cell? w _ hw470_0)).trans hw470_0), ((HB.out.cell (World.block_lt_of_cell? w _ hw471_0)).trans hw471_0)⟩ (fun hHeld => ?_); refine with_tabW spec_l2Sides.tab8 spec_l2Sides.bits8 (fun HT_ HW_ => ?_)
                generalize w28.drew = w29 at HO_7 HO469 HB hx470_0 hx471_0 hHeld ⊢
                refine zav (i := 0) (N := some 42) (v := ?_) (a' := ?_) #[zt, zf, zf, zf, zf, zf, zf, zf, zf, zf, zf, zf, zf] rfl rfl (zaw HT_.out (by kernel_rfl)) (fun _ _ _ h => h) (Or.inl ⟨by rfl, ?_⟩) ?_ ?_
                rotate_left
                ·intro w'; go_simp; with_reducible rfl
                rotate_left
                ·simp only [Act.put, yan, yao, yap, zar, zas]; rfl
                refine zav (i := 1) (N := some 43) (v := ?_) (a' := ?_) #[zt, zt, zf, zf, zf, zf, zf, zf, zf, zf, zf, zf, zf] rfl rfl (zaw HT_.out (by kernel_rfl)) (fun _ _ _ h => h) (Or.inl ⟨by rfl, ?_⟩) ?_ ?_
                rotate_left
                ·intro w'; go_simp; with_reducible rfl
                rotate_left
                ·simp only [Act.put, yan, yao, yap, zar, zas]; rfl
                refine zav (i := 2) (N := some 44) (v := ?_) (a' := ?_) #[zt, zt, zt, zf, zf, zf, zf, zf, zf, zf, zf, zf, zf] rfl rfl (zaw HT_.out (by kernel_rfl)) (fun _ _ _ h => h) (Or.inl ⟨by rfl, ?_⟩) ?_ ?_
                rotate_left
                ·intro w'; go_simp; with_reducible rfl
                rotate_left
                ·simp only [Act.put, yan, yao, yap, zar, zas]; rfl
                refine zav (i := 3) (N := some 45) (v := ?_) (a' := ?_) #[zt, zt, zt, zt, zf, zf, zf, zf, zf, zf, zf, zf, zf] rfl rfl (zaw HT_.out (by kernel_rfl)) (fun _ _ _ h => h) (Or.inl ⟨by rfl, ?_⟩) ?_ ?_
                rotate_left
                ·intro w'; go_simp; with_reducible rfl
                rotate_left
                ·simp only [Act.put, yan, yao, yap, zar, zas]; rfl
                refine zav (i := 5) (N := some 47) (v := ?_) (a' := ?_) #[zt, zt, zt, zt, zf, zt, zf, zf, zf, zf, zf, zf, zf] rfl rfl (zaw HT_.out (by kernel_rfl)) (fun _ _ _ h => h) (Or.inl ⟨by rfl, ?_⟩) ?_ ?_
                rotate_left
                ·intro w'; go_simp; with_reducible rfl
                rotate_left
                ·simp only [Act.put, yan, yao, yap, zar, zas]; rfl
                refine zav (i := 6) (N := some 48) (v := ?_) (a' := ?_) #[zt, zt, zt, zt, zf, zt, zt, zf, zf, zf, zf, zf, zf] rfl rfl (zaw HT_.out (by kernel_rfl)) (fun _ _ _ h => h) (Or.inl ⟨by rfl, ?_⟩) ?_ ?_
                rotate_left
                ·intro w'; go_simp; with_reducible rfl
                rotate_left
                ·simp only [Act.put, yan, yao, yap, zar, zas]; rfl
                refine take_ (i := 4) (N := some 46) (v := ?_) (a' := ?_) #[zt, zt, zt, zt, zt, zt, zt, zf, zf, zf, zf, zf, zf] rfl rfl (zcp HT_.out HW_.out (by kernel_rfl)) (fun _ _ _ h => h) (Or.inl ⟨by rfl, ?_⟩) hHeld ?_ ?_
                rotate_left
                ·rintro w' ⟨s0, s1⟩
                 go_simp
                 with_reducible rfl
                rotate_left
                ·simp only [Act.put, yan, yao, yap, zar, zas]; rfl
                refine take_ (i := 7) (N := some 49) (v := ?_) (a' := ?_) #[zt, zt, zt, zt, zt, zt, zt, zt, zf, zf, zf, zf, zf] rfl rfl (zcp HT_.out HW_.out (by kernel_rfl)) (fun _ _ _ h => h) (Or.inl ⟨by rfl, ?_⟩) hHeld ?_ ?_
                rotate_left
                ·rintro w' ⟨s0, s1⟩
                 go_simp
                 with_reducible rfl
                rotate_left
                ·simp only [Act.put, yan, yao, yap, zar, zas]; rfl
                refine take_ (i := 8) (N := some 50) (v := ?_) (a' := ?_) #[zt, zt, zt, zt, zt, zt, zt, zt, zt, zf, zf, zf, zf] rfl rfl (zcp HT_.out HW_.out (by kernel_rfl)) (fun _ _ _ h => h) (Or.inl ⟨by rfl, ?_⟩) hHeld ?_ ?_
                rotate_left
                ·rintro w' ⟨s0, s1⟩
                 go_simp
                 with_reducible rfl
                rotate_left
                ·simp only [Act.put, yan, yao, yap, zar, zas]; rfl
                refine zav (i := 9) (N := some 51) (v := ?_) (a' := ?_) #[zt, zt, zt, zt, zt, zt, zt, zt, zt, zt, zf, zf, zf] rfl rfl (zaw HT_.out (by kernel_rfl)) (fun _ _ _ h => h) (Or.inl ⟨by rfl, ?_⟩) ?_ ?_
                rotate_left
                ·intro w'; go_simp; with_reducible rfl
                rotate_left
                ·simp only [Act.put, yan, yao, yap, zar, zas]; rfl
                refine zav (i := 10) (N := some 52) (v := ?_) (a' := ?_) #[zt, zt, zt, zt, zt, zt, zt, zt, zt, zt, zt, zf, zf] rfl rfl (zaw HT_.out (by kernel_rfl)) (fun _ _ _ h => h) (Or.inl ⟨by rfl, ?_⟩) ?_ ?_
                rotate_left
                ·intro w'; go_simp; with_reducible rfl
                rotate_left
                ·simp only [Act.put, yan, yao, yap, zar, zas]; rfl
                refine one_ (i := 11) (N := some 53) #[zt, zt, zt, zt, zt, zt, zt, zt, zt, zt, zt, zt, zf] rfl rfl (one_of HT_.out (by kernel_rfl)) (by decide) (fun K hK => ?_)
                refine goes_ Try.func96 (by kernel_rfl) rfl #[.slice Ao30 x7_1.length co30, .int .i64 (wrap64 ((wrap64 (bt (rdOf yav l0 x8_1) (rd l1 1))) - 97))] (by rfl) rfl rfl (by (try simp only [yaq, yar, yas]); first | done | rfl | (simp only [yau, yat]; rfl)) ?_
                with_reducible refine (spec_l2Put.calls (fun k_ => some k_ = (.slice Ao30 x7_1.length co30 : Value).ownBlock) (.slice Ao30 x7_1.length co30) x7_1 (wrap64 ((wrap64 (bt (rdOf yav l0 x8_1) (rd l1 1))) - 97)) t472 w _ ?side1 ?side2 A24.out).mono ?_
                (case side1 => repeat (first | (with_reducible first | exact HB.out | apply zac | apply zab | apply zad) | exact HB.out))
                (case side2 => exact Kd.R_tight rfl HO_7.out)
                rintro e w31 ⟨v473, rfl, ho0, hb, hkp⟩
                refine ⟨_, rfl, ?_⟩
                have n0_ := zaa.mk (Kd.R_mono (ok' := fun k_ => some k_ ≠ (v473 : Value).ownBlock) (Kd.R_keptB (HO469.out) hkp (fun k_ hk_ hs_ => (hk_) hs_)) (fun k_ hk_ => fun e_ => Or.elim (ho0.1 k_ e_.symm) (fun hs_ => hk_.2.1 hs_) (fun hn_ => Nat.not_le.2 hk_.2.2 hn_)))
                have n1_ := zaa.mk (Kd.R_mono (ok' := fun k_ => some k_ ≠ (v468 : Value).ownBlock) ho0 (fun k_ hk_ => Or.elim hk_ (fun hs_ => fun e_ => (((HO469.out).1 k_ e_.symm)) hs_) (fun hn_ => (Kd.fresh' (Kd.R_lt (by (with_reducible repeat (first | apply yaz | apply yba | apply ybb)); exact HO469.out)) k_ hn_))))
                have n2_ := zaa.mk (hb)
                clear HO469
                clear HB
                clear HO_7
                have HO469 := n0_
                have HO474 := n1_
                have HB := n2_
                clear n0_ n1_ n2_
                (try clear hb)
                (try clear hkp)
                (try clear ho0)
                refine hK.out _ _ ⟨((HB.out.cell (World.block_lt_of_cell? w _ hw470_0)).trans hw470_0), ((HB.out.cell (World.block_lt_of_cell? w _ hw471_0)).trans hw471_0)⟩ (fun hHeld => ?_)
                clear hK K
                refine norm_ (a' := ?_) ?_ ?_
                rotate_left
                ·show Act.put _ (some 53) _ = _
                 simp only [Act.put, yan, yao, yap, zar, zas]
                 rfl
                refine zav (i := 12) (N := some 7) (v := ?_) (a' := ?_) #[zt, zt, zt, zt, zt, zt, zt, zt, zt, zt, zt, zt, zt] rfl rfl (zaw HT_.out (by kernel_rfl)) (fun _ _ _ h => h) (Or.inl ⟨by rfl, ?_⟩) ?_ ?_
                rotate_left
                ·intro w'; go_simp; with_reducible rfl
                rotate_left
                ·simp only [Act.put, yan, yao, yap, zar, zas]; rfl
                refine done_ (done_of HT_.out (by kernel_rfl)) ?_
                try go_wp2
                go_roundg k1
                case measure => have := HK1.out; omega
                case rel => exact ⟨(t467), (t472), (wrap64 (x8_1 + 1)), (by first | rfl | (simp; done) | (simp [*]; done)), H', ⟨by have := HK1.out; omega⟩, ⟨by (with_reducible repeat (first | apply yaz | apply yba | apply ybb)); exact HO469.out⟩, ⟨by (with_reducible repeat (first | apply yaz | apply yba | apply ybb)); exact HO474.out⟩, ⟨by repeat (first | (with_reducible first | exact HB.out | apply zac | apply zab | apply zad) | exact HB.out)⟩⟩
               ·rw [if_neg c22] at H
                exact absurd H (by simp)
              ·rw [if_neg c21] at H
               exact absurd H (by simp)
             ·rw [if_neg c18] at H
              exact absurd H (by simp)
            ·rw [if_neg c17] at H
             exact absurd H (by simp)
           ·rw [if_neg c15] at H
            exact absurd H (by simp)
          ·rw [if_neg c14] at H
           exact absurd H (by simp)
         ·rw [if_neg c13] at H
          exact absurd H (by simp)
        ·rw [if_neg c12] at H
         have c12b0 : ((rd l1 0) == 0) = false := beq_eq_false_iff_ne.mpr c12
         have c12b1 : ((rd l1 0) != 0) = true := bne_iff_ne.mpr c12
         by_cases c32 : 1 < (l1.length : Int)
         ·rw [if_pos c32] at H
          have c32b0 : decide (1 < (l1.length : Int)) = true := decide_eq_true c32
          have c32b1 : decide (1 < l1.length) = true := decide_eq_true (by omega)
          clear c32
          obtain ⟨ji33, hji33⟩ : ∃ j_ : Int, (wrap64 ((rd l1 1) - 1)) = j_ := ⟨_, rfl⟩
          replace H : (if 0 ≤ (ji33) then (if (ji33) < (l0.length : Int) then (if 0 ≤ x8_1 then (if x8_1 < ((rdOf yav l0 (ji33)).size : Int) then ((spec_l2Put.f x6_1 (wrap64 ((wrap64 (bt (rdOf yav l0 (ji33)) x8_1)) - 97))).bind fun t477 => (if 0 ≤ (rd l1 1) then (if (rd l1 1) < (l0.length : Int) then (if x8_1 < ((rdOf yav l0 (rd l1 1)).size : Int) then ((spec_l2Put.f x7_1 (wrap64 ((wrap64 (bt (rdOf yav l0 (rd l1 1)) x8_1)) - 97))).bind fun t482 => (spec_l2Sides.l0 k1 l0 l1 t477 t482 (wrap64 (x8_1 + 1)))) else (none)) else (none)) else (none))) else (none)) else (none)) else (none)) else (none)) = some (r1, r2) := by first | (rw [hji33] at H; exact H) | (simp only [hji33] at H ⊢; exact H)
          have hji33w : (IntKind.i64.wrap ((rd l1 1) - 1)) = ji33 := (zar _).trans hji33
          by_cases c34 : 0 ≤ (ji33)
          ·rw [if_pos c34] at H
           have c34b0 : decide (0 ≤ (ji33)) = true := decide_eq_true c34
           clear c34
           by_cases c35 : (ji33) < (l0.length : Int)
           ·rw [if_pos c35] at H
            have c35b0 : decide ((ji33) < (l0.length : Int)) = true := decide_eq_true c35
            clear c35
            by_cases c36 : 0 ≤ x8_1
            ·rw [if_pos c36] at H
             have c36b0 : decide (0 ≤ x8_1) = true := decide_eq_true c36
             clear c36
             by_cases c37 : x8_1 < ((rdOf yav l0 (ji33)).size : Int)
             ·rw [if_pos c37] at H
              have c37b0 : decide (x8_1 < ((rdOf yav l0 (ji33)).size : Int)) = true := decide_eq_true c37
              clear c37
              replace H := yaw.mp H
              obtain ⟨t477, A390, H⟩ := H
              replace H : (if 0 ≤ (rd l1 1) then (if (rd l1 1) < (l0.length : Int) then (if x8_1 < ((rdOf yav l0 (rd l1 1)).size : Int) then ((spec_l2Put.f x7_1 (wrap64 ((wrap64 (bt (rdOf yav l0 (rd l1 1)) x8_1)) - 97))).bind fun t482 => (spec_l2Sides.l0 k1 l0 l1 t477 t482 (wrap64 (x8_1 + 1)))) else (none)) else (none)) else (none)) = some (r1, r2) := H
              have A39 := zaa.mk A390
              clear A390
              by_cases c40 : 0 ≤ (rd l1 1)
              ·rw [if_pos c40] at H
               have c40b0 : decide (0 ≤ (rd l1 1)) = true := decide_eq_true c40
               clear c40
               by_cases c41 : (rd l1 1) < (l0.length : Int)
               ·rw [if_pos c41] at H
                have c41b0 : decide ((rd l1 1) < (l0.length : Int)) = true := decide_eq_true c41
                clear c41
                by_cases c42 : x8_1 < ((rdOf yav l0 (rd l1 1)).size : Int)
                ·rw [if_pos c42] at H
                 have c42b0 : decide (x8_1 < ((rdOf yav l0 (rd l1 1)).size : Int)) = true := decide_eq_true c42
                 clear c42
                 replace H := yaw.mp H
                 obtain ⟨t482, A440, H⟩ := H
                 replace H : (spec_l2Sides.l0 k1 l0 l1 t477 t482 (wrap64 (x8_1 + 1))) = some (r1, r2) := H
                 have A44 := zaa.mk A440
                 clear A440
                 have H' := zaa.mk H
                 clear H
                 try go_wp2
                 have n0_ := zaa.mk (ybb HO_6.out)
                 have n1_ := zaa.mk (ybb HO_7.out)
                 have n2_ := zaa.mk (zad HB.out)
                 clear HO_6
                 clear HO_7
                 clear HB
                 have HO_6 := n0_
                 have HO_7 := n1_
                 have HB := n2_
                 clear n0_ n1_ n2_
                 have p462 : 0 ≤ (2 : Int) := (by omega)
                 have q462 : 2 < (l1.length : Int) := of_decide_eq_true (by assumption)
                 obtain ⟨ad462, e462, hx462_0⟩ := Kd.at_int HR1.out 2 p462 q462
                 have hw462_0 := hx462_0
                 (try rw [show ((2 : Int)).toNat = 2 from rfl] at hw462_0)
                 (try rw [show 2 * 1 = 2 from rfl] at hw462_0)
                 (try simp only [Nat.reduceMul, Nat.reduceEqDiff, Go.Addr.add, ↓reduceIte] at hw462_0)
                 obtain rfl : ad461 = ad462 := (by injection e462)
                 (try simp only [show (2 : Int).toNat = 2 from rfl, Nat.reduceMul, Nat.reduceEqDiff, Go.Addr.add, ↓reduceIte] at hx462_0)
                 have qi462 : (2 < l1.length) = True := eq_true (by omega)
                 (try rw [show ((2 : Int)).toNat = 2 from rfl] at hx462_0)
                 replace hx462_0 := (HB.out.cell (World.block_lt_of_cell? w _ hx462_0)).trans hx462_0
                 replace p462 := eq_true p462
                 replace q462 := eq_true q462
                 have p463 : 0 ≤ (3 : Int) := (by omega)
                 have q463 : 3 < (l1.length : Int) := of_decide_eq_true (by assumption)
                 obtain ⟨ad463, e463, hx463_0⟩ := Kd.at_int HR1.out 3 p463 q463
                 have hw463_0 := hx463_0
                 (try rw [show ((3 : Int)).toNat = 3 from rfl] at hw463_0)
                 (try rw [show 3 * 1 = 3 from rfl] at hw463_0)
                 (try simp only [Nat.reduceMul, Nat.reduceEqDiff, Go.Addr.add, ↓reduceIte] at hw463_0)
                 obtain rfl : ad461 = ad463 := (by injection e463)
                 (try simp only [show (3 : Int).toNat = 3 from rfl, Nat.reduceMul, Nat.reduceEqDiff, Go.Addr.add, ↓reduceIte] at hx463_0)
                 have qi463 : (3 < l1.length) = True := eq_true (by omega)
                 (try rw [show ((3 : Int)).toNat = 3 from rfl] at hx463_0)
                 replace hx463_0 := (HB.out.cell (World.block_lt_of_cell? w _ hx463_0)).trans hx463_0
                 replace p463 := eq_true p463
                 replace q463 := eq_true q463
                 refine start_ (n := 9) (S := fun w' => w'.cell? ⟨ad461.block, ad461.off + 2, none⟩ = some (.int .i64 (rd l1 2)) ∧ w'.cell? ⟨ad461.block, ad461.off + 3, none⟩ = some (.int .i64 (rd l1 3))) (ds := []) #[zf, zf, zf, zf, zf, zf, zf, zf, zf] (by kernel_rfl) rfl rfl ⟨((HB.out.cell (World.block_lt_of_cell? w _ hw462_0)).trans hw462_0), ((HB.out.cell (World.block_lt_of_cell? w _ hw463_0)).trans hw463_0)⟩ (fun hHeld => ?_); refine with_tabW spec_l2Sides.tab4 spec_l2Sides.bits4 (fun HT_ HW_ => ?_)
                 generalize wr.drew = w45 at HO_6 HO_7 HB hx462_0 hx463_0 hHeld ⊢
                 refine zav (i := 0) (N := some 14) (v := ?_) (a' := ?_) #[zt, zf, zf, zf, zf, zf, zf, zf, zf] rfl rfl (zaw HT_.out (by kernel_rfl)) (fun _ _ _ h => h) (Or.inl ⟨by rfl, ?_⟩) ?_ ?_
                 rotate_left
                 ·intro w'; go_simp; with_reducible rfl
                 rotate_left
                 ·simp only [Act.put, yan, yao, yap, zar, zas]; rfl
                 refine zav (i := 1) (N := some 15) (v := ?_) (a' := ?_) #[zt, zt, zf, zf, zf, zf, zf, zf, zf] rfl rfl (zaw HT_.out (by kernel_rfl)) (fun _ _ _ h => h) (Or.inl ⟨by rfl, ?_⟩) ?_ ?_
                 rotate_left
                 ·intro w'; go_simp; with_reducible rfl
                 rotate_left
                 ·simp only [Act.put, yan, yao, yap, zar, zas]; rfl
                 refine zav (i := 2) (N := some 16) (v := ?_) (a' := ?_) #[zt, zt, zt, zf, zf, zf, zf, zf, zf] rfl rfl (zaw HT_.out (by kernel_rfl)) (fun _ _ _ h => h) (Or.inl ⟨by rfl, ?_⟩) ?_ ?_
                 rotate_left
                 ·intro w'; go_simp; with_reducible rfl
                 rotate_left
                 ·simp only [Act.put, yan, yao, yap, zar, zas]; rfl
                 refine zav (i := 4) (N := some 18) (v := ?_) (a' := ?_) #[zt, zt, zt, zf, zt, zf, zf, zf, zf] rfl rfl (zaw HT_.out (by kernel_rfl)) (fun _ _ _ h => h) (Or.inl ⟨by rfl, ?_⟩) ?_ ?_
                 rotate_left
                 ·intro w'; go_simp; with_reducible rfl
                 rotate_left
                 ·simp only [Act.put, yan, yao, yap, zar, zas]; rfl
                 refine zav (i := 5) (N := some 19) (v := ?_) (a' := ?_) #[zt, zt, zt, zf, zt, zt, zf, zf, zf] rfl rfl (zaw HT_.out (by kernel_rfl)) (fun _ _ _ h => h) (Or.inl ⟨by rfl, ?_⟩) ?_ ?_
                 rotate_left
                 ·intro w'; go_simp; with_reducible rfl
                 rotate_left
                 ·simp only [Act.put, yan, yao, yap, zar, zas]; rfl
                 refine take_ (i := 3) (N := some 17) (v := ?_) (a' := ?_) #[zt, zt, zt, zt, zt, zt, zf, zf, zf] rfl rfl (zcp HT_.out HW_.out (by kernel_rfl)) (fun _ _ _ h => h) (Or.inl ⟨by rfl, ?_⟩) hHeld ?_ ?_
                 rotate_left
                 ·rintro w' ⟨s0, s1⟩
                  go_simp
                  with_reducible rfl
                 rotate_left
                 ·simp only [Act.put, yan, yao, yap, zar, zas]; rfl
                 refine take_ (i := 6) (N := some 20) (v := ?_) (a' := ?_) #[zt, zt, zt, zt, zt, zt, zt, zf, zf] rfl rfl (zcp HT_.out HW_.out (by kernel_rfl)) (fun _ _ _ h => h) (Or.inl ⟨by rfl, ?_⟩) hHeld ?_ ?_
                 rotate_left
                 ·rintro w' ⟨s0, s1⟩
                  go_simp
                  with_reducible rfl
                 rotate_left
                 ·simp only [Act.put, yan, yao, yap, zar, zas]; rfl
                 refine zav (i := 7) (N := some 21) (v := ?_) (a' := ?_) #[zt, zt, zt, zt, zt, zt, zt, zt, zf] rfl rfl (zaw HT_.out (by kernel_rfl)) (fun _ _ _ h => h) (Or.inl ⟨by rfl, ?_⟩) ?_ ?_
                 rotate_left
                 ·intro w'; go_simp; with_reducible rfl
                 rotate_left
                 ·simp only [Act.put, yan, yao, yap, zar, zas]; rfl
                 refine zav (i := 8) (N := some 22) (v := ?_) (a' := ?_) #[zt, zt, zt, zt, zt, zt, zt, zt, zt] rfl rfl (zaw HT_.out (by kernel_rfl)) (fun _ _ _ h => h) (Or.inl ⟨by rfl, ?_⟩) ?_ ?_
                 rotate_left
                 ·intro w'; go_simp; with_reducible rfl
                 rotate_left
                 ·simp only [Act.put, yan, yao, yap, zar, zas]; rfl
                 refine done_ (done_of HT_.out (by kernel_rfl)) ?_
                 have p464 : 0 ≤ (0 : Int) := (by omega)
                 have q464 : 0 < (l1.length : Int) := of_decide_eq_true (by assumption)
                 obtain ⟨ad464, e464, hx464_0⟩ := Kd.at_int HR1.out 0 p464 q464
                 obtain rfl : ad461 = ad464 := (by injection e464)
                 have qi464 : (0 < l1.length) = True := eq_true (by omega)
                 (try rw [show ((0 : Int)).toNat = 0 from rfl] at hx464_0)
                 (try rw [Addr.add_zero'] at hx464_0)
                 replace hx464_0 := (HB.out.cell (World.block_lt_of_cell? w _ hx464_0)).trans hx464_0
                 replace p464 := eq_true p464
                 replace q464 := eq_true q464
                 have p475 : 0 ≤ (1 : Int) := (by omega)
                 have q475 : 1 < (l1.length : Int) := of_decide_eq_true (by assumption)
                 obtain ⟨ad475, e475, hx475_0⟩ := Kd.at_int HR1.out 1 p475 q475
                 obtain rfl : ad461 = ad475 := (by injection e475)
                 (try simp only [show (1 : Int).toNat = 1 from rfl, Nat.reduceMul, Nat.reduceEqDiff, Go.Addr.add, ↓reduceIte] at hx475_0)
                 have qi475 : (1 < l1.length) = True := eq_true (by omega)
                 (try rw [show ((1 : Int)).toNat = 1 from rfl] at hx475_0)
                 replace hx475_0 := (HB.out.cell (World.block_lt_of_cell? w _ hx475_0)).trans hx475_0
                 replace p475 := eq_true p475
                 replace q475 := eq_true q475
                 have p476 : 0 ≤ ((ji33) : Int) := of_decide_eq_true (by assumption)
                 have q476 : (ji33) < (l0.length : Int) := of_decide_eq_true (by assumption)
                 obtain ⟨ad476, e476, hx476_0⟩ := Kd.at_string HR0.out (ji33) p476 q476
                 cases e476
                 replace hx476_0 := (HB.out.cell (World.block_lt_of_cell? w _ hx476_0)).trans hx476_0
                 replace p476 := eq_true p476
                 replace q476 := eq_true q476
                 have p38 : 0 ≤ (x8_1 : Int) := of_decide_eq_true (by assumption)
                 have q38 : x8_1 < ((rdOf yav l0 (ji33)).size : Int) := of_decide_eq_true (by assumption)
                 have hx38 := bt_at (rdOf yav l0 (ji33)) x8_1
                 replace p38 := eq_true p38
                 replace q38 := eq_true q38
                 obtain ⟨Ao46, co46, eo46⟩ := Kd.R_slice HO_6.out
                 subst eo46
                 try go_wp2_with (first | ((with_reducible refine zaq (f := 96) rfl ?_); refine zbf (some 66) rfl rfl Try.func96 (by kernel_rfl) rfl #[.slice Ao46 x6_1.length co46, .int .i64 (wrap64 ((wrap64 (bt (rdOf yav l0 (ji33)) x8_1)) - 97))] rfl (by (try simp only [yaq, yar, yas]); first | done | (simp only [hji33]; rfl) | rfl | (simp only [yau, yat]; rfl)) ?_; (with_reducible refine (spec_l2Put.calls (fun k_ => some k_ = (.slice Ao46 x6_1.length co46 : Value).ownBlock) (.slice Ao46 x6_1.length co46) x6_1 (wrap64 ((wrap64 (bt (rdOf yav l0 (ji33)) x8_1)) - 97)) t477 w _ ?side1 ?side2 A39.out).mono ?_); (case side1 => repeat (first | (with_reducible first | exact HB.out | apply zac | apply zab | apply zad) | exact HB.out)); (case side2 => exact Kd.R_tight rfl HO_6.out); rintro e w47 ⟨v478, rfl, ho0, hb, hkp⟩; refine ⟨_, rfl, ?_⟩; have n0_ := zaa.mk (Kd.R_mono (ok' := fun k_ => some k_ ≠ (v478 : Value).ownBlock) (Kd.R_keptB (HO_7.out) hkp (fun k_ hk_ hs_ => (hk_) hs_)) (fun k_ hk_ => fun e_ => Or.elim (ho0.1 k_ e_.symm) (fun hs_ => hk_.2.1 hs_) (fun hn_ => Nat.not_le.2 hk_.2.2 hn_))); have n1_ := zaa.mk (Kd.R_mono (ok' := fun k_ => some k_ ≠ (u7 : Value).ownBlock) ho0 (fun k_ hk_ => Or.elim hk_ (fun hs_ => fun e_ => (((HO_7.out).1 k_ e_.symm)) hs_) (fun hn_ => (Kd.fresh' (Kd.R_lt (by (with_reducible repeat (first | apply yaz | apply yba | apply ybb)); exact HO_7.out)) k_ hn_)))); have n2_ := zaa.mk (hb); clear HO_7; clear HB; clear HO_6; have HO_7 := n0_; have HO479 := n1_; have HB := n2_; clear n0_ n1_ n2_; (try clear hb); (try clear hkp); (try clear ho0); have p480 : 0 ≤ (1 : Int) := (by omega); have q480 : 1 < (l1.length : Int) := of_decide_eq_true (by assumption); obtain ⟨ad480, e480, hx480_0⟩ := Kd.at_int HR1.out 1 p480 q480; obtain rfl : ad461 = ad480 := (by injection e480); (try simp only [show (1 : Int).toNat = 1 from rfl, Nat.reduceMul, Nat.reduceEqDiff, Go.Addr.add, ↓reduceIte] at hx480_0); have qi480 : (1 < l1.length) = True := eq_true (by omega); (try rw [show ((1 : Int)).toNat = 1 from rfl] at hx480_0); replace hx480_0 := (HB.out.cell (World.block_lt_of_cell? w _ hx480_0)).trans hx480_0; replace p480 := eq_true p480; replace q480 := eq_true q480; have p481 : 0 ≤ ((rd l1 1) : Int) := of_decide_eq_true (by assumption); have q481 : (rd l1 1) < (l0.length : Int) := of_decide_eq_true (by assumption); obtain ⟨ad481, e481, hx481_0⟩ := Kd.at_string HR0.out (rd l1 1) p481 q481; obtain rfl : ad476 = ad481 := (by injection e481); replace hx481_0 := (HB.out.cell (World.block_lt_of_cell? w _ hx481_0)).trans hx481_0; replace p481 := eq_true p481; replace q481 := eq_true q481; have p43 : 0 ≤ (x8_1 : Int) := of_decide_eq_true (by assumption); have q43 : x8_1 < ((rdOf yav l0 (rd l1 1)).size : Int) := of_decide_eq_true (by assumption); have hx43 := bt_at (rdOf yav l0 (rd l1 1)) x8_1; replace p43 := eq_true p43; replace q43 := eq_true q43; obtain ⟨Ao48, co48, eo48⟩ := Kd.R_slice HO_7.out; subst eo48) | ((with_reducible refine zaq (f := 96) rfl ?_); refine zbf (some 78) rfl rfl Try.func96 (by kernel_rfl) rfl #[.slice Ao48 x7_1.length co48, .int .i64 (wrap64 ((wrap64 (bt (rdOf yav l0 (rd l1 1)) x8_1)) - 97))] rfl (by (try simp only [yaq, yar, yas]); first | done | rfl | (simp only [yau, yat]; rfl)) ?_; (with_reducible refine (spec_l2Put.calls (fun k_ => some k_ = (.slice Ao48 x7_1.length co48 : Value).ownBlock) (.slice Ao48 x7_1.length co48) x7_1 (wrap64 ((wrap64 (bt (rdOf yav l0 (rd l1 1)) x8_1)) - 97)) t482 w _ ?side1 ?side2 A44.out).mono ?_); (case side1 => repeat (first | (with_reducible first | exact HB.out | apply zac | apply zab | apply zad) | exact HB.out)); (case side2 => exact Kd.R_tight rfl HO_7.out); rintro e w49 ⟨v483, rfl, ho0, hb, hkp⟩; refine ⟨_, rfl, ?_⟩; have n0_ := zaa.mk (Kd.R_mono (ok' := fun k_ => some k_ ≠ (v483 : Value).ownBlock) (Kd.R_keptB (HO479.out) hkp (fun k_ hk_ hs_ => (hk_) hs_)) (fun k_ hk_ => fun e_ => Or.elim (ho0.1 k_ e_.symm) (fun hs_ => hk_.2.1 hs_) (fun hn_ => Nat.not_le.2 hk_.2.2 hn_))); have n1_ := zaa.mk (Kd.R_mono (ok' := fun k_ => some k_ ≠ (v478 : Value).ownBlock) ho0 (fun k_ hk_ => Or.elim hk_ (fun hs_ => fun e_ => (((HO479.out).1 k_ e_.symm)) hs_) (fun hn_ => (Kd.fresh' (Kd.R_lt (by (with_reducible repeat (first | apply yaz | apply yba | apply ybb)); exact HO479.out)) k_ hn_)))); have n2_ := zaa.mk (hb); clear HO479; clear HB; clear HO_7; have HO479 := n0_; have HO484 := n1_; have HB := n2_; clear n0_ n1_ n2_; (try clear hb); (try clear hkp); (try clear ho0)))
                 go_roundg k1
                 case measure => have := HK1.out; omega
                 case rel => exact ⟨(t477), (t482), (wrap64 (x8_1 + 1)), (by first | rfl | (simp; done) | (simp [*]; done)), H', ⟨by have := HK1.out; omega⟩, ⟨by (with_reducible repeat (first | apply yaz | apply yba | apply ybb)); exact HO479.out⟩, ⟨by (with_reducible repeat (first | apply yaz | apply yba | apply ybb)); exact HO484.out⟩, ⟨by repeat (first | (with_reducible first | exact HB.out | apply zac | apply zab | apply zad) | exact HB.out)⟩⟩
                ·rw [if_neg c42] at H
                 exact absurd H (by simp)
               ·rw [if_neg c41] at H
                exact absurd H (by simp)
              ·rw [if_neg c40] at H
               exact absurd H (by simp)
             ·rw [if_neg c37] at H
              exact absurd H (by simp)
            ·rw [if_neg c36] at H
             exact absurd H (by simp)
           ·rw [if_neg c35] at H
            exact absurd H (by simp)
          ·rw [if_neg c34] at H
           exact absurd H (by simp)
         ·rw [if_neg c32] at H
          exact absurd H (by simp)
       ·rw [if_neg c11] at H
        exact absurd H (by simp)
      ·rw [if_neg c10] at H
       have c10b0 : decide (x8_1 < (wrap64 ((rd l1 2) + (rd l1 3)))) = false := decide_eq_false c10
       clear c10
       simp only [Option.some.injEq, Prod.mk.injEq] at H
       obtain ⟨rfl, rfl⟩ := H
       try go_wp2
       have n0_ := zaa.mk (ybb HO_6.out)
       have n1_ := zaa.mk (ybb HO_7.out)
       have n2_ := zaa.mk (zad HB.out)
       clear HO_6
       clear HO_7
       clear HB
       have HO_6 := n0_
       have HO_7 := n1_
       have HB := n2_
       clear n0_ n1_ n2_
       have p462 : 0 ≤ (2 : Int) := (by omega)
       have q462 : 2 < (l1.length : Int) := of_decide_eq_true (by assumption)
       obtain ⟨ad462, e462, hx462_0⟩ := Kd.at_int HR1.out 2 p462 q462
       have hw462_0 := hx462_0
       (try rw [show ((2 : Int)).toNat = 2 from rfl] at hw462_0)
       (try rw [show 2 * 1 = 2 from rfl] at hw462_0)
       (try simp only [Nat.reduceMul, Nat.reduceEqDiff, Go.Addr.add, ↓reduceIte] at hw462_0)
       obtain rfl : ad461 = ad462 := (by injection e462)
       (try simp only [show (2 : Int).toNat = 2 from rfl, Nat.reduceMul, Nat.reduceEqDiff, Go.Addr.add, ↓reduceIte] at hx462_0)
       have qi462 : (2 < l1.length) = True := eq_true (by omega)
       (try rw [show ((2 : Int)).toNat = 2 from rfl] at hx462_0)
       replace hx462_0 := (HB.out.cell (World.block_lt_of_cell? w _ hx462_0)).trans hx462_0
       replace p462 := eq_true p462
       replace q462 := eq_true q462
       have p463 : 0 ≤ (3 : Int) := (by omega)
       have q463 : 3 < (l1.length : Int) := of_decide_eq_true (by assumption)
       obtain ⟨ad463, e463, hx463_0⟩ := Kd.at_int HR1.out 3 p463 q463
       have hw463_0 := hx463_0
       (try rw [show ((3 : Int)).toNat = 3 from rfl] at hw463_0)
       (try rw [show 3 * 1 = 3 from rfl] at hw463_0)
       (try simp only [Nat.reduceMul, Nat.reduceEqDiff, Go.Addr.add, ↓reduceIte] at hw463_0)
       obtain rfl : ad461 = ad463 := (by injection e463)
       (try simp only [show (3 : Int).toNat = 3 from rfl, Nat.reduceMul, Nat.reduceEqDiff, Go.Addr.add, ↓reduceIte] at hx463_0)
       have qi463 : (3 < l1.length) = True := eq_true (by omega)
       (try rw [show ((3 : Int)).toNat = 3 from rfl] at hx463_0)
       replace hx463_0 := (HB.out.cell (World.block_lt_of_cell? w _ hx463_0)).trans hx463_0
       replace p463 := eq_true p463
       replace q463 := eq_true q463
       refine start_ (n := 9) (S := fun w' => w'.cell? ⟨ad461.block, ad461.off + 2, none⟩ = some (.int .i64 (rd l1 2)) ∧ w'.cell? ⟨ad461.block, ad461.off + 3, none⟩ = some (.int .i64 (rd l1 3))) (ds := []) #[zf, zf, zf, zf, zf, zf, zf, zf, zf] (by kernel_rfl) rfl rfl ⟨((HB.out.cell (World.block_lt_of_cell? w _ hw462_0)).trans hw462_0), ((HB.out.cell (World.block_lt_of_cell? w _ hw463_0)).trans hw463_0)⟩ (fun hHeld => ?_); refine with_tabW spec_l2Sides.tab4 spec_l2Sides.bits4 (fun HT_ HW_ => ?_)
       generalize wr.drew = w50 at HO_6 HO_7 HB hx462_0 hx463_0 hHeld ⊢
       refine zav (i := 0) (N := some 14) (v := ?_) (a' := ?_) #[zt, zf, zf, zf, zf, zf, zf, zf, zf] rfl rfl (zaw HT_.out (by kernel_rfl)) (fun _ _ _ h => h) (Or.inl ⟨by rfl, ?_⟩) ?_ ?_
       rotate_left
       ·intro w'; go_simp; with_reducible rfl
       rotate_left
       ·simp only [Act.put, yan, yao, yap, zar, zas]; rfl
       refine zav (i := 1) (N := some 15) (v := ?_) (a' := ?_) #[zt, zt, zf, zf, zf, zf, zf, zf, zf] rfl rfl (zaw HT_.out (by kernel_rfl)) (fun _ _ _ h => h) (Or.inl ⟨by rfl, ?_⟩) ?_ ?_
       rotate_left
       ·intro w'; go_simp; with_reducible rfl
       rotate_left
       ·simp only [Act.put, yan, yao, yap, zar, zas]; rfl
       refine zav (i := 2) (N := some 16) (v := ?_) (a' := ?_) #[zt, zt, zt, zf, zf, zf, zf, zf, zf] rfl rfl (zaw HT_.out (by kernel_rfl)) (fun _ _ _ h => h) (Or.inl ⟨by rfl, ?_⟩) ?_ ?_
       rotate_left
       ·intro w'; go_simp; with_reducible rfl
       rotate_left
       ·simp only [Act.put, yan, yao, yap, zar, zas]; rfl
       refine zav (i := 4) (N := some 18) (v := ?_) (a' := ?_) #[zt, zt, zt, zf, zt, zf, zf, zf, zf] rfl rfl (zaw HT_.out (by kernel_rfl)) (fun _ _ _ h => h) (Or.inl ⟨by rfl, ?_⟩) ?_ ?_
       rotate_left
       ·intro w'; go_simp; with_reducible rfl
       rotate_left
       ·simp only [Act.put, yan, yao, yap, zar, zas]; rfl
       refine zav (i := 5) (N := some 19) (v := ?_) (a' := ?_) #[zt, zt, zt, zf, zt, zt, zf, zf, zf] rfl rfl (zaw HT_.out (by kernel_rfl)) (fun _ _ _ h => h) (Or.inl ⟨by rfl, ?_⟩) ?_ ?_
       rotate_left
       ·intro w'; go_simp; with_reducible rfl
       rotate_left
       ·simp only [Act.put, yan, yao, yap, zar, zas]; rfl
       refine take_ (i := 3) (N := some 17) (v := ?_) (a' := ?_) #[zt, zt, zt, zt, zt, zt, zf, zf, zf] rfl rfl (zcp HT_.out HW_.out (by kernel_rfl)) (fun _ _ _ h => h) (Or.inl ⟨by rfl, ?_⟩) hHeld ?_ ?_
       rotate_left
       ·rintro w' ⟨s0, s1⟩
        go_simp
        with_reducible rfl
       rotate_left
       ·simp only [Act.put, yan, yao, yap, zar, zas]; rfl
       refine take_ (i := 6) (N := some 20) (v := ?_) (a' := ?_) #[zt, zt, zt, zt, zt, zt, zt, zf, zf] rfl rfl (zcp HT_.out HW_.out (by kernel_rfl)) (fun _ _ _ h => h) (Or.inl ⟨by rfl, ?_⟩) hHeld ?_ ?_
       rotate_left
       ·rintro w' ⟨s0, s1⟩
        go_simp
        with_reducible rfl
       rotate_left
       ·simp only [Act.put, yan, yao, yap, zar, zas]; rfl
       refine zav (i := 7) (N := some 21) (v := ?_) (a' := ?_) #[zt, zt, zt, zt, zt, zt, zt, zt, zf] rfl rfl (zaw HT_.out (by kernel_rfl)) (fun _ _ _ h => h) (Or.inl ⟨by rfl, ?_⟩) ?_ ?_
       rotate_left
       ·intro w'; go_simp; with_reducible rfl
       rotate_left
       ·simp only [Act.put, yan, yao, yap, zar, zas]; rfl
       refine zav (i := 8) (N := some 22) (v := ?_) (a' := ?_) #[zt, zt, zt, zt, zt, zt, zt, zt, zt] rfl rfl (zaw HT_.out (by kernel_rfl)) (fun _ _ _ h => h) (Or.inl ⟨by rfl, ?_⟩) ?_ ?_
       rotate_left
       ·intro w'; go_simp; with_reducible rfl
       rotate_left
       ·simp only [Act.put, yan, yao, yap, zar, zas]; rfl
       refine done_ (done_of HT_.out (by kernel_rfl)) ?_
       try go_wp2
       go_ret2
       exact ⟨_, _, by first | rfl | (simp [zan, zam] <;> rfl) | (simp [*, zan, zam] <;> rfl), by (with_reducible repeat (first | apply yaz | apply yba | apply ybb)); exact HO_6.out, by (with_reducible repeat (first | apply yaz | apply yba | apply ybb)); exact HO_7.out, by repeat (first | (with_reducible first | exact HB.out | apply zac | apply zab | apply zad) | exact HB.out)⟩
     ·rw [if_neg c9] at H
      exact absurd H (by simp)
    ·rw [if_neg c8] at H
     exact absurd H (by simp)
 ·rw [if_neg c3] at H
  exact absurd H (by simp)
end Go.Proofs.Ytaepgogafkmooaa.PB
namespace Go.Proofs.Ytaepgogafkmooaa.PB
open Go.RowKit Go.PW.PrintWords Go.PW.PrintLast Go.PW.PrintMore
attribute [local go_sem] zcb zbz max_two min_two zbs zbr zca zby   -- for this text's walks alone
def spec_WallSides.j0 : Nat → List ByteArray → Int → Bool → Option (List Int × List Int × Bool)
 | 0, _, _, _ => none
 | k + 1, x0, x1, x20 => if x20 = true then (some ((([] : List Int)), (([] : List Int)), false)) else ((spec_l2Walls.f k x0).bind fun t496 => (if 0 ≤ x1 then (if x1 < (t496.length : Int) then ((spec_l2Sides.f k x0 (zbo t496 x1)).bind fun bt500 => (some (bt500.1, bt500.2, true))) else (none)) else (none)))
def spec_WallSides.f (k : Nat) (l0 : List ByteArray) (a1 : Int) : Option (List Int × List Int × Bool) := (spec_PlanIn.f k l0).bind fun t485 => (if t485 = true then ((spec_l2Walls.f k l0).bind fun t486 => ((spec_l6In.f a1 0 (wrap64 ((t486.length : Int) - 1))).bind fun t489 => (spec_WallSides.j0 k l0 a1 (!t489)))) else (spec_WallSides.j0 k l0 a1 true))
set_option maxHeartbeats 8000000 in
set_option maxRecDepth 100000 in
theorem spec_WallSides.calls (k : Nat) (A0 : Option Addr) (c0 : Nat) (l0 : List ByteArray) (a1 : Int) (r1 : List Int) (r2 : List Int) (r3 : Bool) (w : World) (hr0 : Kd.C Kd.string w A0 l0.length l0) (hc0 : l0.length ≤ c0) (h : spec_WallSides.f k l0 a1 = some (r1, r2, r3)) :
  Calls Try.prog 35 #[.slice A0 l0.length c0, .int .i64 a1] w fun e w' => ∃ v0_ v1_ : Value, e = .returned (.tuple #[v0_, v1_, .bool r3]) ∧ Kd.R (Kd.int .i64) 3 w' w.heap.size (fun k_ => some k_ ≠ (v1_ : Value).ownBlock) v0_ r1 ∧ Kd.R (Kd.int .i64) 3 w' w.heap.size (fun k_ => some k_ ≠ (v0_ : Value).ownBlock) v1_ r2 ∧ Below w.heap.size w w' := by
 have HR0 := zaa.mk hr0
 have HC0 := zaa.mk hc0
 clear hr0 hc0
 have HB := zaa.mk (Below.refl w.heap.size w)
 have H : ((spec_PlanIn.f k l0).bind fun t485 => (if t485 = true then ((spec_l2Walls.f k l0).bind fun t486 => ((spec_l6In.f a1 0 (wrap64 ((t486.length : Int) - 1))).bind fun t489 => (spec_WallSides.j0 k l0 a1 (!t489)))) else (spec_WallSides.j0 k l0 a1 true))) = some (r1, r2, r3) := h
 clear h
 have HC3 := zaa.mk H
 clear H
 go_enter Try.func35, Try.ntmps35
 go_upto_region 1 with (fail)
 go_cut [20] (fun v20 wc => ∃ (kq : Nat) (x20_2 : Bool), v20 = .bool x20_2 ∧ zaa (spec_WallSides.j0 kq l0 a1 x20_2 = some (r1, r2, r3)) ∧ zaa (kq ≤ k) ∧ zaa (Below w.heap.size w wc))
 case first =>
  have H := HC3.out
  clear HC3
  replace H := yaw.mp H
  obtain ⟨t485, A40, H⟩ := H
  replace H : (if t485 = true then ((spec_l2Walls.f k l0).bind fun t486 => ((spec_l6In.f a1 0 (wrap64 ((t486.length : Int) - 1))).bind fun t489 => (spec_WallSides.j0 k l0 a1 (!t489)))) else (spec_WallSides.j0 k l0 a1 true)) = some (r1, r2, r3) := H
  have A4 := zaa.mk A40
  clear A40
  by_cases c5 : t485 = true
  ·subst c5
   have H1 : ((spec_l2Walls.f k l0).bind fun t486 => ((spec_l6In.f a1 0 (wrap64 ((t486.length : Int) - 1))).bind fun t489 => (spec_WallSides.j0 k l0 a1 (!t489)))) = some (r1, r2, r3) := by rw [if_pos rfl] at H; exact H
   clear H
   have H := H1
   clear H1
   replace H := yaw.mp H
   obtain ⟨t486, A60, H⟩ := H
   replace H : ((spec_l6In.f a1 0 (wrap64 ((t486.length : Int) - 1))).bind fun t489 => (spec_WallSides.j0 k l0 a1 (!t489))) = some (r1, r2, r3) := H
   have A6 := zaa.mk A60
   clear A60
   replace H := yaw.mp H
   obtain ⟨t489, A70, H⟩ := H
   replace H : (spec_WallSides.j0 k l0 a1 (!t489)) = some (r1, r2, r3) := H
   have A7 := zaa.mk A70
   clear A70
   have H' := zaa.mk H
   clear H
   go_wp2_with (first | ((with_reducible refine zaq (f := 81) rfl ?_); refine zbf (some 10) rfl rfl Try.func81 (by kernel_rfl) rfl #[.slice A0 l0.length c0] rfl (by (try simp only [yaq, yar, yas]); first | done | rfl | (simp only [yau, yat]; rfl)) ?_; (with_reducible refine (spec_PlanIn.calls k _ _ l0 true _ ?side1 ?side2 A4.out).mono ?_); (case side1 => repeat (first | exact (Kd.C_below HR0.out HB.out) | (with_reducible refine ybc ?_ _) | (with_reducible refine ybd ?_ _) | (with_reducible refine ybe ?_))); (case side2 => exact HC0.out); rintro e w8 ⟨rfl, hb⟩; refine ⟨_, rfl, ?_⟩; have n0_ := zaa.mk (zag (by repeat (first | (with_reducible first | exact HB.out | apply zac | apply zab | apply zad) | exact HB.out)) hb); clear HB; have HB := n0_; clear n0_; (try clear hb); (try clear hb2); (try clear hk); (try clear hi)) | (go_at_call 82; (with_reducible refine (spec_l2Walls.calls k _ _ l0 t486 _ ?side1 ?side2 A6.out).mono ?_); (case side1 => repeat (first | exact (Kd.C_below HR0.out HB.out) | (with_reducible refine ybc ?_ _) | (with_reducible refine ybd ?_ _) | (with_reducible refine ybe ?_))); (case side2 => exact HC0.out); rintro e w9 ⟨v487, rfl, ho0, hb⟩; have n0_ := zaa.mk (Kd.S_lower ho0 (zai (by repeat (first | (with_reducible first | exact HB.out | apply zac | apply zab | apply zad) | exact HB.out)))); have n1_ := zaa.mk (zag (by repeat (first | (with_reducible first | exact HB.out | apply zac | apply zab | apply zad) | exact HB.out)) hb); clear HB; have HO488 := n0_; have HB := n1_; clear n0_ n1_; (try clear hb); (try clear hb2); (try clear hk); (try clear hi); (try clear ho0); obtain ⟨Ao10, co10, eo10⟩ := Kd.S_slice HO488.out; subst eo10) | (go_at_call 91; (with_reducible refine (spec_l6In.calls a1 0 (wrap64 ((t486.length : Int) - 1)) t489 _ A7.out).mono ?_); rintro e w' ⟨rfl, ⟨nd, rfl⟩⟩))
   go_meet
   case rel => exact ⟨_, (!t489), (by first | rfl | (simp; done) | (simp [*]; done)), H', ⟨by first | omega | exact yay _⟩, ⟨by repeat (first | (with_reducible first | exact HB.out | apply zac | apply zab | apply zad) | exact HB.out)⟩⟩
  ·replace c5 := Bool.eq_false_iff.mpr c5
   subst c5
   have H1 : (spec_WallSides.j0 k l0 a1 true) = some (r1, r2, r3) := by rw [if_neg (show ¬ (false = true) by decide)] at H; exact H
   clear H
   have H := H1
   clear H1
   have H' := zaa.mk H
   clear H
   go_wp2_with (first | ((with_reducible refine zaq (f := 81) rfl ?_); refine zbf (some 10) rfl rfl Try.func81 (by kernel_rfl) rfl #[.slice A0 l0.length c0] rfl (by (try simp only [yaq, yar, yas]); first | done | rfl | (simp only [yau, yat]; rfl)) ?_; (with_reducible refine (spec_PlanIn.calls k _ _ l0 false _ ?side1 ?side2 A4.out).mono ?_); (case side1 => repeat (first | exact (Kd.C_below HR0.out HB.out) | (with_reducible refine ybc ?_ _) | (with_reducible refine ybd ?_ _) | (with_reducible refine ybe ?_))); (case side2 => exact HC0.out); rintro e w11 ⟨rfl, hb⟩; refine ⟨_, rfl, ?_⟩; have n0_ := zaa.mk (zag (by repeat (first | (with_reducible first | exact HB.out | apply zac | apply zab | apply zad) | exact HB.out)) hb); clear HB; have HB := n0_; clear n0_; (try clear hb); (try clear hb2); (try clear hk); (try clear hi)))
   go_meet
   case rel => exact ⟨_, (true), (by first | rfl | (simp; done) | (simp [*]; done)), H', ⟨by first | omega | exact yay _⟩, ⟨by repeat (first | (with_reducible first | exact HB.out | apply zac | apply zab | apply zad) | exact HB.out)⟩⟩
 case rest =>
  clear HC3
  try clear p2
  try clear c3
  try clear c5
  try clear p6
  try clear c8
  obtain ⟨kq, x20_2, rfl, HA, HJ2, HB⟩ := hcut
  cases kq with
  | zero => exact absurd HA.out (by simp [spec_WallSides.j0])
  | succ kj2 =>
   have H := HA.out
   clear HA
   simp only [spec_WallSides.j0] at H
   by_cases c12 : x20_2 = true
   ·subst c12
    have H1 : (some ((([] : List Int)), (([] : List Int)), false)) = some (r1, r2, r3) := by rw [if_pos rfl] at H; exact H
    clear H
    have H := H1
    clear H1
    obtain ⟨y490, hy490⟩ : ∃ y_ : List Int, y_ = (([] : List Int)) := ⟨_, rfl⟩
    replace H : (some (y490, (([] : List Int)), false)) = some (r1, r2, r3) := by first | (rw [hy490]; with_reducible exact H) | (have H2_ := (yax _ _).symm.trans H; rw [hy490]; with_reducible exact H2_) | (have H2_ := (yax _ _).symm.trans H; with_reducible exact H2_) | with_reducible exact H | (rw [hy490]; exact H) | exact H
    have Ny490 := zaa.mk hy490
    clear hy490
    obtain ⟨y493, hy493⟩ : ∃ y_ : List Int, y_ = (([] : List Int)) := ⟨_, rfl⟩
    replace H : (some (y490, y493, false)) = some (r1, r2, r3) := by first | (rw [hy493]; with_reducible exact H) | (have H2_ := (yax _ _).symm.trans H; rw [hy493]; with_reducible exact H2_) | (have H2_ := (yax _ _).symm.trans H; with_reducible exact H2_) | with_reducible exact H | (rw [hy493]; exact H) | exact H
    have Ny493 := zaa.mk hy493
    clear hy493
    simp only [Option.some.injEq, Prod.mk.injEq] at H
    obtain ⟨rfl, rfl, rfl⟩ := H
    go_wp2_with (first | ((with_reducible refine zbc (N := 21) rfl ?_); (try (refine gate_guard (by rfl) ?_; dsimp only)); refine Kd.R_lit (Kd.int .i64) _ 3 ?hg (N := 21) ?hd (xs := ([] : List Int)) (inner := []) (ok := fun _ => True) (okp := fun _ => True) ?hr ?hp (fun _ hk => hk) trivial (Below.refl _ _) (yay _) (by simp) ?_; (case hd => rfl); (case hg => rfl); (case hr => first | (go_simp; done) | (go_simp; rfl)); (case hp => exact (Reps.none _ _)); intro v491 w13 ho14 hb hg_ hnew_; clear hg_ hnew_; (first | rw [← Ny490.out] at ho14 | (simp only [Int.reduceToNat] at ho14; rw [← Ny490.out] at ho14)); have n0_ := zaa.mk (Kd.R_lower ho14 (zai (by repeat (first | (with_reducible first | exact HB.out | apply zac | apply zab | apply zad) | exact HB.out)))); have n1_ := zaa.mk (zag (by repeat (first | (with_reducible first | exact HB.out | apply zac | apply zab | apply zad) | exact HB.out)) hb); clear HB; have HO492 := n0_; have HB := n1_; clear n0_ n1_; clear hb ho14) | ((with_reducible refine zbc (N := 22) rfl ?_); (try (refine gate_guard (by rfl) ?_; dsimp only)); refine Kd.R_lit (Kd.int .i64) _ 3 ?hg (N := 22) ?hd (xs := ([] : List Int)) (inner := []) (ok := fun _ => True) (okp := fun _ => True) ?hr ?hp (fun _ hk => hk) trivial (Below.refl _ _) (yay _) (by simp) ?_; (case hd => rfl); (case hg => rfl); (case hr => first | (go_simp; done) | (go_simp; rfl)); (case hp => exact (Reps.none _ _)); intro v494 w15 ho16 hb hg_ hnew_; clear hg_ hnew_; (first | rw [← Ny493.out] at ho16 | (simp only [Int.reduceToNat] at ho16; rw [← Ny493.out] at ho16)); have n0_ := zaa.mk (Kd.R_elder' (by (with_reducible repeat (first | apply yaz | apply yba | apply ybb)); exact HO492.out) (Kd.R_base ho16) hb); have n1_ := zaa.mk (Kd.R_lower (Kd.R_new' ho16 (Kd.R_lt (by (with_reducible repeat (first | apply yaz | apply yba | apply ybb)); exact HO492.out))) (zai (by repeat (first | (with_reducible first | exact HB.out | apply zac | apply zab | apply zad) | exact HB.out)))); have n2_ := zaa.mk (zag (by repeat (first | (with_reducible first | exact HB.out | apply zac | apply zab | apply zad) | exact HB.out)) hb); clear HO492; clear HB; have HO492 := n0_; have HO495 := n1_; have HB := n2_; clear n0_ n1_ n2_; clear hb ho16))
    go_ret3
    exact ⟨_, _, by first | rfl | (simp [zan, zam] <;> rfl) | (simp [*, zan, zam] <;> rfl), by (with_reducible repeat (first | apply yaz | apply yba | apply ybb)); exact Kd.R_mono HO492.out (fun _ hk => hk.2), by (with_reducible repeat (first | apply yaz | apply yba | apply ybb)); exact Kd.R_mono HO495.out (fun _ hk => hk.2), by repeat (first | (with_reducible first | exact HB.out | apply zac | apply zab | apply zad) | exact HB.out)⟩
   ·replace c12 := Bool.eq_false_iff.mpr c12
    subst c12
    have H1 : ((spec_l2Walls.f kj2 l0).bind fun t496 => (if 0 ≤ a1 then (if a1 < (t496.length : Int) then ((spec_l2Sides.f kj2 l0 (zbo t496 a1)).bind fun bt500 => (some (bt500.1, bt500.2, true))) else (none)) else (none))) = some (r1, r2, r3) := by rw [if_neg (show ¬ (false = true) by decide)] at H; exact H
    clear H
    have H := H1
    clear H1
    replace H := yaw.mp H
    obtain ⟨t496, A170, H⟩ := H
    replace H : (if 0 ≤ a1 then (if a1 < (t496.length : Int) then ((spec_l2Sides.f kj2 l0 (zbo t496 a1)).bind fun bt500 => (some (bt500.1, bt500.2, true))) else (none)) else (none)) = some (r1, r2, r3) := H
    have A17 := zaa.mk A170
    clear A170
    by_cases c18 : 0 ≤ a1
    ·rw [if_pos c18] at H
     have c18b0 : decide (0 ≤ a1) = true := decide_eq_true c18
     clear c18
     by_cases c19 : a1 < (t496.length : Int)
     ·rw [if_pos c19] at H
      have c19b0 : decide (a1 < (t496.length : Int)) = true := decide_eq_true c19
      clear c19
      replace H := yaw.mp H
      obtain ⟨⟨t500, t501⟩, A200, H⟩ := H
      replace H : (some (t500, t501, true)) = some (r1, r2, r3) := H
      have A20 := zaa.mk A200
      clear A200
      simp only [Option.some.injEq, Prod.mk.injEq] at H
      obtain ⟨rfl, rfl, rfl⟩ := H
      go_wp2_with (first | ((with_reducible refine zaq (f := 82) rfl ?_); refine zbf (some 26) rfl rfl Try.func82 (by kernel_rfl) rfl #[.slice A0 l0.length c0] rfl (by (try simp only [yaq, yar, yas]); first | done | rfl | (simp only [yau, yat]; rfl)) ?_; (with_reducible refine (spec_l2Walls.calls kj2 _ _ l0 t496 _ ?side1 ?side2 A17.out).mono ?_); (case side1 => repeat (first | exact (Kd.C_below HR0.out HB.out) | (with_reducible refine ybc ?_ _) | (with_reducible refine ybd ?_ _) | (with_reducible refine ybe ?_))); (case side2 => exact HC0.out); rintro e w21 ⟨v497, rfl, ho0, hb⟩; refine ⟨_, rfl, ?_⟩; have n0_ := zaa.mk (Kd.S_lower ho0 (zai (by repeat (first | (with_reducible first | exact HB.out | apply zac | apply zab | apply zad) | exact HB.out)))); have n1_ := zaa.mk (zag (by repeat (first | (with_reducible first | exact HB.out | apply zac | apply zab | apply zad) | exact HB.out)) hb); clear HB; have HO498 := n0_; have HB := n1_; clear n0_ n1_; (try clear hb); (try clear hb2); (try clear hk); (try clear hi); (try clear ho0); obtain ⟨Ao22, co22, eo22⟩ := Kd.S_slice HO498.out; subst eo22; have p499 : 0 ≤ (a1 : Int) := of_decide_eq_true (by assumption); have q499 : a1 < (t496.length : Int) := of_decide_eq_true (by assumption); obtain ⟨ad499, A499_0, c499_0, e499, hx499_0, hl499_0, hi499_0⟩ := at_L3 (Kd.S_reads' HO498.out).2.2 a1 p499 q499; cases e499; obtain ⟨ce499, hce499, hMe499, hcc499⟩ := Kd.S_get HO498.out [] a1 p499 (by first | exact q499 | exact of_decide_eq_true (by assumption) | (have e_ := (Kd.S_reads' HO498.out).1; omega)); obtain ⟨ve499_0, rfl, ge499_0⟩ := hMe499; have hv499_0 := hcc499 0 _ rfl; rw [Nat.add_zero, show ((Kd.slice 3 (Kd.int .i64))).sz = 1 from rfl, Nat.mul_one] at hv499_0; replace hv499_0 := Option.some.inj (hv499_0.symm.trans hx499_0); rw [hv499_0] at ge499_0; have HL499_0 := zaa.mk (show Kd.R (Kd.int .i64) 3 _ _ _ _ (zbo t496 a1) from ge499_0); clear hv499_0 ge499_0; clear hcc499 hce499; have HR499_0 := zaa.mk hi499_0; have HC499_0 := zaa.mk hl499_0; clear hi499_0 hl499_0; replace p499 := eq_true p499; replace q499 := eq_true q499) | ((with_reducible refine zaq (f := 92) rfl ?_); refine zbf (some 30) rfl rfl Try.func92 (by kernel_rfl) rfl #[.slice A0 l0.length c0, .slice A499_0 (zbo t496 a1).length c499_0] rfl (by (try simp only [yaq, yar, yas]); first | done | rfl | (simp only [yau, yat]; rfl)) ?_; (with_reducible refine (spec_l2Sides.calls kj2 _ _ l0 _ _ (zbo t496 a1) t500 t501 _ ?side1 ?side2 ?side3 ?side4 A20.out).mono ?_); (case side1 => repeat (first | exact (Kd.C_below HR0.out HB.out) | (with_reducible refine ybc ?_ _) | (with_reducible refine ybd ?_ _) | (with_reducible refine ybe ?_))); (case side2 => exact HC0.out); (case side3 => repeat (first | exact (by repeat (first | (with_reducible exact HR499_0.out) | (with_reducible refine ybc ?_ _) | (with_reducible refine ybd ?_ _) | (with_reducible refine ybe ?_) | exact HR499_0.out)) | (with_reducible refine ybc ?_ _) | (with_reducible refine ybd ?_ _) | (with_reducible refine ybe ?_))); (case side4 => exact HC499_0.out); rintro e w23 ⟨v502, v504, rfl, ho0, ho1, hb⟩; refine ⟨_, rfl, ?_⟩; have n0_ := zaa.mk (Kd.S_mono (Kd.S_told (Kd.S_told (Kd.S_old (by (with_reducible repeat (first | apply Kd.S_alloc | apply Kd.S_drewN | apply Kd.S_drew)); exact HO498.out) hb) (Kd.R_base ho0)) (Kd.R_base ho1)) (fun _ h_ => h_.1)); have n1_ := zaa.mk (Kd.R_mono (Kd.R_told (Kd.R_told (Kd.R_old (by (with_reducible repeat (first | apply yaz | apply yba | apply ybb)); exact HL499_0.out) hb) (Kd.R_base ho0)) (Kd.R_base ho1)) (fun _ h_ => h_.1)); have n2_ := zaa.mk (Kd.R_lower (Kd.R_new' ho0 (Kd.R_lt (by (with_reducible repeat (first | apply yaz | apply yba | apply ybb)); exact HL499_0.out))) (zai (by repeat (first | (with_reducible first | exact HB.out | apply zac | apply zab | apply zad) | exact HB.out)))); have n3_ := zaa.mk (Kd.R_lower (Kd.R_new' ho1 (Kd.R_lt (by (with_reducible repeat (first | apply yaz | apply yba | apply ybb)); exact HL499_0.out))) (zai (by repeat (first | (with_reducible first | exact HB.out | apply zac | apply zab | apply zad) | exact HB.out)))); have n4_ := zaa.mk (Kd.C_below (by repeat (first | (with_reducible exact HR499_0.out) | (with_reducible refine ybc ?_ _) | (with_reducible refine ybd ?_ _) | (with_reducible refine ybe ?_) | exact HR499_0.out)) hb); have n5_ := zaa.mk (zag (by repeat (first | (with_reducible first | exact HB.out | apply zac | apply zab | apply zad) | exact HB.out)) hb); clear HO498; clear HL499_0; clear HR499_0; clear HB; have HO498 := n0_; have HL499_0 := n1_; have HO503 := n2_; have HO505 := n3_; have HR499_0 := n4_; have HB := n5_; clear n0_ n1_ n2_ n3_ n4_ n5_; (try clear hb); (try clear hb2); (try clear hk); (try clear hi); (try clear ho0); (try clear ho1)))
      go_ret3
      exact ⟨_, _, by first | rfl | (simp [zan, zam] <;> rfl) | (simp [*, zan, zam] <;> rfl), by (with_reducible repeat (first | apply yaz | apply yba | apply ybb)); exact Kd.R_mono HO503.out (fun _ hk => hk.1), by (with_reducible repeat (first | apply yaz | apply yba | apply ybb)); exact Kd.R_mono HO505.out (fun _ hk => hk.1), by repeat (first | (with_reducible first | exact HB.out | apply zac | apply zab | apply zad) | exact HB.out)⟩
     ·rw [if_neg c19] at H
      exact absurd H (by simp)
    ·rw [if_neg c18] at H
     exact absurd H (by simp)
end Go.Proofs.Ytaepgogafkmooaa.PB
