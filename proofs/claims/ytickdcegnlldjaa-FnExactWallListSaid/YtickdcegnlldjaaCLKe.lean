/- Part 5 of the proof of FnExactWallList: what the program's functions and the reference's compute. -/
import Derived.Test.YtickdcegnlldjaaCLKd
set_option linter.unusedSimpArgs false
set_option linter.unusedVariables false
namespace Go.Proofs.Ytickdcegnlldjaa.PB
open Go.RowKit Go.PW.PrintWords Go.PW.PrintLast Go.PW.PrintMore
attribute [local go_sem] zbv zbt zcd zcc zbn zbm zbu zbs   -- for this text's walks alone
def laws_eqIntSS.l0 : Nat → List (List Int) → List (List Int) → Int → Option (Bool)
 | 0, _, _, _ => none
 | k + 1, x0, x1, x5 => if x5 < (x0.length : Int) then (if 0 ≤ x5 then (if x5 < (x1.length : Int) then ((laws_eqIntS.f k (zba x0 x5) (zba x1 x5)).bind fun t435 => (if t435 = true then (laws_eqIntSS.l0 k x0 x1 (wrap64 (x5 + 1))) else (some false))) else (none)) else (none)) else (some true)
def laws_eqIntSS.f (k : Nat) (l0 : List (List Int)) (l1 : List (List Int)) : Option (Bool) := if (l0.length : Int) = (l1.length : Int) then (laws_eqIntSS.l0 k l0 l1 0) else (some false)
set_option maxHeartbeats 8000000 in
set_option maxRecDepth 100000 in
theorem laws_eqIntSS.calls (k : Nat) (A0 : Option Addr) (c0 : Nat) (l0 : List (List Int)) (A1 : Option Addr) (c1 : Nat) (l1 : List (List Int)) (r : Bool) (w : World) (hr0 : Kd.C (Kd.slice 3 (Kd.int .i64)) w A0 l0.length l0) (hc0 : l0.length ≤ c0) (hr1 : Kd.C (Kd.slice 3 (Kd.int .i64)) w A1 l1.length l1) (hc1 : l1.length ≤ c1) (h : laws_eqIntSS.f k l0 l1 = some r) :
  Calls Try.prog 29 #[.slice A0 l0.length c0, .slice A1 l1.length c1] w fun e w' => e = .returned (.bool r) ∧ zai w w' := by
 have HR0 := zaa.mk hr0
 have HC0 := zaa.mk hc0
 clear hr0 hc0
 have HR1 := zaa.mk hr1
 have HC1 := zaa.mk hc1
 clear hr1 hc1
 have H : (if (l0.length : Int) = (l1.length : Int) then (laws_eqIntSS.l0 k l0 l1 0) else (some false)) = some r := h
 clear h
 by_cases c3 : (l0.length : Int) = (l1.length : Int)
 ·rw [if_pos c3] at H
  have c3b0 : ((l0.length : Int) == (l1.length : Int)) = true := beq_iff_eq.mpr c3
  have c3b1 : ((l0.length : Int) != (l1.length : Int)) = false := bne_eq_false_iff_eq.mpr c3
  have c3b2 : (l0.length == l1.length) = true := by first | simpa using c3 | (simp at c3 ⊢; omega)
  clear c3
  have H' := zaa.mk H
  clear H
  go_enter Try.func29, Try.ntmps29
  go_wp2
  repeat (go_quiet (fail); try go_wp2)
  go_loopg [5] k (fun kq v5 w' => ∃ (x5_1 : Int), v5 = .int .i64 x5_1 ∧ zaa (laws_eqIntSS.l0 kq l0 l1 x5_1 = some r) ∧ zaa (kq ≤ k) ∧ zai w w')
  case atStart => exact ⟨(0), (by first | rfl | (simp; done) | (simp [*]; done)), H', ⟨Nat.le_refl _⟩, by repeat (first | exact zai.refl _ | apply zai.step)⟩
  case round =>
   clear H'
   try clear c1
   try clear c2
   try clear p2
   try clear c3
   try clear c3b0
   try clear c3b1
   try clear c3b2
   obtain ⟨x5_1, rfl, HA, HK1, ⟨m1, rfl⟩⟩ := hrel
   cases gk with
   | zero => exact absurd HA.out (by simp [laws_eqIntSS.l0])
   | succ k1 =>
    have H := HA.out
    clear HA
    simp only [laws_eqIntSS.l0] at H
    by_cases c4 : x5_1 < (l0.length : Int)
    ·rw [if_pos c4] at H
     have c4b0 : decide (x5_1 < (l0.length : Int)) = true := decide_eq_true c4
     clear c4
     by_cases c5 : 0 ≤ x5_1
     ·rw [if_pos c5] at H
      have c5b0 : decide (0 ≤ x5_1) = true := decide_eq_true c5
      clear c5
      by_cases c6 : x5_1 < (l1.length : Int)
      ·rw [if_pos c6] at H
       have c6b0 : decide (x5_1 < (l1.length : Int)) = true := decide_eq_true c6
       clear c6
       replace H := Option.bind_eq_some_iff.mp H
       obtain ⟨t435, A70, H⟩ := H
       replace H : (if t435 = true then (laws_eqIntSS.l0 k1 l0 l1 (wrap64 (x5_1 + 1))) else (some false)) = some r := H
       have A7 := zaa.mk A70
       clear A70
       by_cases c8 : t435 = true
       ·subst c8
        have H1 : (laws_eqIntSS.l0 k1 l0 l1 (wrap64 (x5_1 + 1))) = some r := by rw [if_pos rfl] at H; exact H
        clear H
        have H := H1
        clear H1
        have H' := zaa.mk H
        clear H
        have p433 : 0 ≤ (x5_1 : Int) := of_decide_eq_true (by first | (with_reducible assumption) | assumption)
        have q433 : x5_1 < (l0.length : Int) := of_decide_eq_true (by first | (with_reducible assumption) | assumption)
        obtain ⟨ad433, A433_0, c433_0, e433, hx433_0, hl433_0, hi433_0⟩ := at_L3 HR0.out x5_1 p433 q433
        cases e433
        have HR433_0 := zaa.mk hi433_0
        have HC433_0 := zaa.mk hl433_0
        clear hi433_0 hl433_0
        replace p433 := eq_true p433
        replace q433 := eq_true q433
        have p434 : 0 ≤ (x5_1 : Int) := of_decide_eq_true (by first | (with_reducible assumption) | assumption)
        have q434 : x5_1 < (l1.length : Int) := of_decide_eq_true (by first | (with_reducible assumption) | assumption)
        obtain ⟨ad434, A434_0, c434_0, e434, hx434_0, hl434_0, hi434_0⟩ := at_L3 HR1.out x5_1 p434 q434
        cases e434
        have HR434_0 := zaa.mk hi434_0
        have HC434_0 := zaa.mk hl434_0
        clear hi434_0 hl434_0
        replace p434 := eq_true p434
        replace q434 := eq_true q434
        go_wp2_with (first | (go_at_call 16; (with_reducible refine (laws_eqIntS.calls k1 _ _ (zba l0 x5_1) _ _ (zba l1 x5_1) true _ ?side1 ?side2 ?side3 ?side4 A7.out).mono ?_); (case side1 => repeat (first | exact HR433_0.out | (with_reducible refine Kd.C_alloc ?_ _) | (with_reducible refine Kd.C_drewN ?_ _) | (with_reducible refine Kd.C_drew ?_))); (case side2 => exact HC433_0.out); (case side3 => repeat (first | exact HR434_0.out | (with_reducible refine Kd.C_alloc ?_ _) | (with_reducible refine Kd.C_drewN ?_ _) | (with_reducible refine Kd.C_drew ?_))); (case side4 => exact HC434_0.out); rintro e w' ⟨rfl, ⟨nd, rfl⟩⟩; (try first | exact ⟨rfl, _, World.drewN_drewN _ _ _⟩ | exact ⟨rfl, _, Eq.trans (World.drewN_drewN _ _ _) (congrArg (World.drewN _) (Nat.add_assoc _ _ _))⟩)))
        repeat (go_quiet (first | (go_at_call 16; (with_reducible refine (laws_eqIntS.calls k1 _ _ (zba l0 x5_1) _ _ (zba l1 x5_1) true _ ?side1 ?side2 ?side3 ?side4 A7.out).mono ?_); (case side1 => repeat (first | exact HR433_0.out | (with_reducible refine Kd.C_alloc ?_ _) | (with_reducible refine Kd.C_drewN ?_ _) | (with_reducible refine Kd.C_drew ?_))); (case side2 => exact HC433_0.out); (case side3 => repeat (first | exact HR434_0.out | (with_reducible refine Kd.C_alloc ?_ _) | (with_reducible refine Kd.C_drewN ?_ _) | (with_reducible refine Kd.C_drew ?_))); (case side4 => exact HC434_0.out); rintro e w' ⟨rfl, ⟨nd, rfl⟩⟩; (try first | exact ⟨rfl, _, World.drewN_drewN _ _ _⟩ | exact ⟨rfl, _, Eq.trans (World.drewN_drewN _ _ _) (congrArg (World.drewN _) (Nat.add_assoc _ _ _))⟩))); try go_wp2_with (first | (go_at_call 16; (with_reducible refine (laws_eqIntS.calls k1 _ _ (zba l0 x5_1) _ _ (zba l1 x5_1) true _ ?side1 ?side2 ?side3 ?side4 A7.out).mono ?_); (case side1 => repeat (first | exact HR433_0.out | (with_reducible refine Kd.C_alloc ?_ _) | (with_reducible refine Kd.C_drewN ?_ _) | (with_reducible refine Kd.C_drew ?_))); (case side2 => exact HC433_0.out); (case side3 => repeat (first | exact HR434_0.out | (with_reducible refine Kd.C_alloc ?_ _) | (with_reducible refine Kd.C_drewN ?_ _) | (with_reducible refine Kd.C_drew ?_))); (case side4 => exact HC434_0.out); rintro e w' ⟨rfl, ⟨nd, rfl⟩⟩; (try first | exact ⟨rfl, _, World.drewN_drewN _ _ _⟩ | exact ⟨rfl, _, Eq.trans (World.drewN_drewN _ _ _) (congrArg (World.drewN _) (Nat.add_assoc _ _ _))⟩))))
        go_roundg k1
        case measure => have := HK1.out; omega
        case rel => exact ⟨(wrap64 (x5_1 + 1)), (by first | rfl | (simp; done) | (simp [*]; done)), H', ⟨by have := HK1.out; omega⟩, by repeat (first | exact zai.refl _ | apply zai.step)⟩
       ·replace c8 := Bool.eq_false_iff.mpr c8
        subst c8
        have H1 : (some false) = some r := by rw [if_neg (show ¬ (false = true) by decide)] at H; exact H
        clear H
        have H := H1
        clear H1
        obtain rfl := Option.some.inj H
        have p433 : 0 ≤ (x5_1 : Int) := of_decide_eq_true (by first | (with_reducible assumption) | assumption)
        have q433 : x5_1 < (l0.length : Int) := of_decide_eq_true (by first | (with_reducible assumption) | assumption)
        obtain ⟨ad433, A433_0, c433_0, e433, hx433_0, hl433_0, hi433_0⟩ := at_L3 HR0.out x5_1 p433 q433
        cases e433
        have HR433_0 := zaa.mk hi433_0
        have HC433_0 := zaa.mk hl433_0
        clear hi433_0 hl433_0
        replace p433 := eq_true p433
        replace q433 := eq_true q433
        have p434 : 0 ≤ (x5_1 : Int) := of_decide_eq_true (by first | (with_reducible assumption) | assumption)
        have q434 : x5_1 < (l1.length : Int) := of_decide_eq_true (by first | (with_reducible assumption) | assumption)
        obtain ⟨ad434, A434_0, c434_0, e434, hx434_0, hl434_0, hi434_0⟩ := at_L3 HR1.out x5_1 p434 q434
        cases e434
        have HR434_0 := zaa.mk hi434_0
        have HC434_0 := zaa.mk hl434_0
        clear hi434_0 hl434_0
        replace p434 := eq_true p434
        replace q434 := eq_true q434
        go_wp2_with (first | (go_at_call 16; (with_reducible refine (laws_eqIntS.calls k1 _ _ (zba l0 x5_1) _ _ (zba l1 x5_1) false _ ?side1 ?side2 ?side3 ?side4 A7.out).mono ?_); (case side1 => repeat (first | exact HR433_0.out | (with_reducible refine Kd.C_alloc ?_ _) | (with_reducible refine Kd.C_drewN ?_ _) | (with_reducible refine Kd.C_drew ?_))); (case side2 => exact HC433_0.out); (case side3 => repeat (first | exact HR434_0.out | (with_reducible refine Kd.C_alloc ?_ _) | (with_reducible refine Kd.C_drewN ?_ _) | (with_reducible refine Kd.C_drew ?_))); (case side4 => exact HC434_0.out); rintro e w' ⟨rfl, ⟨nd, rfl⟩⟩; (try first | exact ⟨rfl, _, World.drewN_drewN _ _ _⟩ | exact ⟨rfl, _, Eq.trans (World.drewN_drewN _ _ _) (congrArg (World.drewN _) (Nat.add_assoc _ _ _))⟩)))
        repeat (go_quiet (first | (go_at_call 16; (with_reducible refine (laws_eqIntS.calls k1 _ _ (zba l0 x5_1) _ _ (zba l1 x5_1) false _ ?side1 ?side2 ?side3 ?side4 A7.out).mono ?_); (case side1 => repeat (first | exact HR433_0.out | (with_reducible refine Kd.C_alloc ?_ _) | (with_reducible refine Kd.C_drewN ?_ _) | (with_reducible refine Kd.C_drew ?_))); (case side2 => exact HC433_0.out); (case side3 => repeat (first | exact HR434_0.out | (with_reducible refine Kd.C_alloc ?_ _) | (with_reducible refine Kd.C_drewN ?_ _) | (with_reducible refine Kd.C_drew ?_))); (case side4 => exact HC434_0.out); rintro e w' ⟨rfl, ⟨nd, rfl⟩⟩; (try first | exact ⟨rfl, _, World.drewN_drewN _ _ _⟩ | exact ⟨rfl, _, Eq.trans (World.drewN_drewN _ _ _) (congrArg (World.drewN _) (Nat.add_assoc _ _ _))⟩))); try go_wp2_with (first | (go_at_call 16; (with_reducible refine (laws_eqIntS.calls k1 _ _ (zba l0 x5_1) _ _ (zba l1 x5_1) false _ ?side1 ?side2 ?side3 ?side4 A7.out).mono ?_); (case side1 => repeat (first | exact HR433_0.out | (with_reducible refine Kd.C_alloc ?_ _) | (with_reducible refine Kd.C_drewN ?_ _) | (with_reducible refine Kd.C_drew ?_))); (case side2 => exact HC433_0.out); (case side3 => repeat (first | exact HR434_0.out | (with_reducible refine Kd.C_alloc ?_ _) | (with_reducible refine Kd.C_drewN ?_ _) | (with_reducible refine Kd.C_drew ?_))); (case side4 => exact HC434_0.out); rintro e w' ⟨rfl, ⟨nd, rfl⟩⟩; (try first | exact ⟨rfl, _, World.drewN_drewN _ _ _⟩ | exact ⟨rfl, _, Eq.trans (World.drewN_drewN _ _ _) (congrArg (World.drewN _) (Nat.add_assoc _ _ _))⟩))))
        go_ret
        exact ⟨by first | rfl | (simp; done) | (simp [*]; done), by repeat (first | exact zai.refl _ | apply zai.step)⟩
      ·rw [if_neg c6] at H
       exact absurd H (by simp)
     ·rw [if_neg c5] at H
      exact absurd H (by simp)
    ·rw [if_neg c4] at H
     have c4b0 : decide (x5_1 < (l0.length : Int)) = false := decide_eq_false c4
     clear c4
     obtain rfl := Option.some.inj H
     go_wp2
     repeat (go_quiet (fail); try go_wp2)
     go_ret
     exact ⟨by first | rfl | (simp; done) | (simp [*]; done), by repeat (first | exact zai.refl _ | apply zai.step)⟩
 ·rw [if_neg c3] at H
  have c3b0 : ((l0.length : Int) == (l1.length : Int)) = false := beq_eq_false_iff_ne.mpr c3
  have c3b1 : ((l0.length : Int) != (l1.length : Int)) = true := bne_iff_ne.mpr c3
  have c3b2 : (l0.length == l1.length) = false := by first | simpa using c3 | (simp at c3 ⊢; omega)
  obtain rfl := Option.some.inj H
  go_enter Try.func29, Try.ntmps29
  go_wp2
  repeat (go_quiet (fail); try go_wp2)
  go_ret
  exact ⟨by first | rfl | (simp; done) | (simp [*]; done), by repeat (first | exact zai.refl _ | apply zai.step)⟩
def laws_heldIntSS.l0 : Nat → List (List Int) → Int → Int → Option (Int)
 | 0, _, _, _ => none
 | k + 1, x0, x1, x5 => if x5 < (x0.length : Int) then (if 0 ≤ x5 then ((laws_heldIntS.f k (zba x0 x5) x1).bind fun t438 => (if t438 < 0 then (some (-1)) else (laws_heldIntSS.l0 k x0 t438 (wrap64 (x5 + 1))))) else (none)) else (some x1)
def laws_heldIntSS.f (k : Nat) (l0 : List (List Int)) (a1 : Int) : Option (Int) := laws_heldIntSS.l0 k l0 a1 0
set_option maxHeartbeats 8000000 in
set_option maxRecDepth 100000 in
theorem laws_heldIntSS.calls (k : Nat) (A0 : Option Addr) (c0 : Nat) (l0 : List (List Int)) (a1 : Int) (r : Int) (w : World) (hr0 : Kd.C (Kd.slice 3 (Kd.int .i64)) w A0 l0.length l0) (hc0 : l0.length ≤ c0) (h : laws_heldIntSS.f k l0 a1 = some r) :
  Calls Try.prog 31 #[.slice A0 l0.length c0, .int .i64 a1] w fun e w' => e = .returned (.int .i64 r) ∧ zai w w' := by
 have HR0 := zaa.mk hr0
 have HC0 := zaa.mk hc0
 clear hr0 hc0
 have H : (laws_heldIntSS.l0 k l0 a1 0) = some r := h
 clear h
 have H' := zaa.mk H
 clear H
 go_enter Try.func31, Try.ntmps31
 go_wp2
 go_loopg [1, 5] k (fun kq v1 v5 w' => ∃ (x1_1 : Int) (x5_1 : Int), v1 = .int .i64 x1_1 ∧ v5 = .int .i64 x5_1 ∧ zaa (laws_heldIntSS.l0 kq l0 x1_1 x5_1 = some r) ∧ zaa (kq ≤ k) ∧ zai w w')
 case atStart => exact ⟨(a1), (0), (by first | rfl | (simp; done) | (simp [*]; done)), (by first | rfl | (simp; done) | (simp [*]; done)), H', ⟨Nat.le_refl _⟩, by repeat (first | exact zai.refl _ | apply zai.step)⟩
 case round =>
  clear H'
  try clear p2
  obtain ⟨x1_1, x5_1, rfl, rfl, HA, HK1, ⟨m1, rfl⟩⟩ := hrel
  cases gk with
  | zero => exact absurd HA.out (by simp [laws_heldIntSS.l0])
  | succ k1 =>
   have H := HA.out
   clear HA
   simp only [laws_heldIntSS.l0] at H
   by_cases c3 : x5_1 < (l0.length : Int)
   ·rw [if_pos c3] at H
    have c3b0 : decide (x5_1 < (l0.length : Int)) = true := decide_eq_true c3
    clear c3
    by_cases c4 : 0 ≤ x5_1
    ·rw [if_pos c4] at H
     have c4b0 : decide (0 ≤ x5_1) = true := decide_eq_true c4
     clear c4
     replace H := Option.bind_eq_some_iff.mp H
     obtain ⟨t438, A50, H⟩ := H
     replace H : (if t438 < 0 then (some (-1)) else (laws_heldIntSS.l0 k1 l0 t438 (wrap64 (x5_1 + 1)))) = some r := H
     have A5 := zaa.mk A50
     clear A50
     by_cases c6 : t438 < 0
     ·rw [if_pos c6] at H
      have c6b0 : decide (t438 < 0) = true := decide_eq_true c6
      clear c6
      obtain rfl := Option.some.inj H
      have p437 : 0 ≤ (x5_1 : Int) := of_decide_eq_true (by first | (with_reducible assumption) | assumption)
      have q437 : x5_1 < (l0.length : Int) := of_decide_eq_true (by first | (with_reducible assumption) | assumption)
      obtain ⟨ad437, A437_0, c437_0, e437, hx437_0, hl437_0, hi437_0⟩ := at_L3 HR0.out x5_1 p437 q437
      cases e437
      have HR437_0 := zaa.mk hi437_0
      have HC437_0 := zaa.mk hl437_0
      clear hi437_0 hl437_0
      replace p437 := eq_true p437
      replace q437 := eq_true q437
      go_wp2_with (first | ((with_reducible refine zbd (f := 20) rfl ?_); refine zcq (some 17) rfl rfl Try.func20 (by kernel_rfl) rfl #[.slice A437_0 (zba l0 x5_1).length c437_0, .int .i64 x1_1] rfl (by (try simp only [List.map_toArray, List.map_cons, List.map_nil]); first | done | rfl | (simp only [List.length_drop, List.length_take]; rfl)) ?_; (with_reducible refine (laws_heldIntS.calls k1 _ _ (zba l0 x5_1) x1_1 t438 _ ?side1 ?side2 A5.out).mono ?_); (case side1 => repeat (first | exact HR437_0.out | (with_reducible refine Kd.C_alloc ?_ _) | (with_reducible refine Kd.C_drewN ?_ _) | (with_reducible refine Kd.C_drew ?_))); (case side2 => exact HC437_0.out); rintro e w' ⟨rfl, ⟨nd, rfl⟩⟩; refine ⟨_, rfl, ?_⟩))
      go_ret
      exact ⟨by first | rfl | (simp; done) | (simp [*]; done), by repeat (first | exact zai.refl _ | apply zai.step)⟩
     ·rw [if_neg c6] at H
      have c6b0 : decide (t438 < 0) = false := decide_eq_false c6
      clear c6
      have H' := zaa.mk H
      clear H
      have p437 : 0 ≤ (x5_1 : Int) := of_decide_eq_true (by first | (with_reducible assumption) | assumption)
      have q437 : x5_1 < (l0.length : Int) := of_decide_eq_true (by first | (with_reducible assumption) | assumption)
      obtain ⟨ad437, A437_0, c437_0, e437, hx437_0, hl437_0, hi437_0⟩ := at_L3 HR0.out x5_1 p437 q437
      cases e437
      have HR437_0 := zaa.mk hi437_0
      have HC437_0 := zaa.mk hl437_0
      clear hi437_0 hl437_0
      replace p437 := eq_true p437
      replace q437 := eq_true q437
      go_wp2_with (first | ((with_reducible refine zbd (f := 20) rfl ?_); refine zcq (some 17) rfl rfl Try.func20 (by kernel_rfl) rfl #[.slice A437_0 (zba l0 x5_1).length c437_0, .int .i64 x1_1] rfl (by (try simp only [List.map_toArray, List.map_cons, List.map_nil]); first | done | rfl | (simp only [List.length_drop, List.length_take]; rfl)) ?_; (with_reducible refine (laws_heldIntS.calls k1 _ _ (zba l0 x5_1) x1_1 t438 _ ?side1 ?side2 A5.out).mono ?_); (case side1 => repeat (first | exact HR437_0.out | (with_reducible refine Kd.C_alloc ?_ _) | (with_reducible refine Kd.C_drewN ?_ _) | (with_reducible refine Kd.C_drew ?_))); (case side2 => exact HC437_0.out); rintro e w' ⟨rfl, ⟨nd, rfl⟩⟩; refine ⟨_, rfl, ?_⟩))
      go_roundg k1
      case measure => have := HK1.out; omega
      case rel => exact ⟨(t438), (wrap64 (x5_1 + 1)), (by first | rfl | (simp; done) | (simp [*]; done)), (by first | rfl | (simp; done) | (simp [*]; done)), H', ⟨by have := HK1.out; omega⟩, by repeat (first | exact zai.refl _ | apply zai.step)⟩
    ·rw [if_neg c4] at H
     exact absurd H (by simp)
   ·rw [if_neg c3] at H
    have c3b0 : decide (x5_1 < (l0.length : Int)) = false := decide_eq_false c3
    clear c3
    obtain rfl := Option.some.inj H
    go_wp2
    go_ret
    exact ⟨by first | rfl | (simp; done) | (simp [*]; done), by repeat (first | exact zai.refl _ | apply zai.step)⟩
end Go.Proofs.Ytickdcegnlldjaa.PB
namespace Go.Proofs.Ytickdcegnlldjaa.Hd
open Go.RowKit Go.PW.PrintWords Go.PW.PrintLast Go.PW.PrintMore Go.Proofs.Ytickdcegnlldjaa.PB
def preN (xs : List (List Int)) : Nat → Nat
 | 0 => 0
 | i + 1 => preN xs i + (xs.getD i []).length
theorem preN_le (xs : List (List Int)) (h : ∀ r ∈ xs, r.length ≤ 4) : ∀ i, preN xs i ≤ 4 * i
 | 0 => Nat.le_refl 0
 | i + 1 => by
  have := preN_le xs h i
  have h2 : (xs.getD i []).length ≤ 4 := by
   rw [List.getD_eq_getElem?_getD]
   cases hx : xs[i]? with
   | none => simp
   | some r => exact h r (List.mem_of_getElem? hx)
  simp only [preN]
  omega
def mkTo (a : Nat) (xs : List (List Int)) : Nat → List (List Int)
 | 0 => xs
 | i + 1 => (mkTo a xs i).set i (marksI (a + preN xs i) (xs.getD i []).length)
theorem mkTo_length (a : Nat) (xs : List (List Int)) : ∀ i, (mkTo a xs i).length = xs.length
 | 0 => rfl
 | i + 1 => by simp only [mkTo, List.length_set]; exact mkTo_length a xs i
theorem mkTo_at (a : Nat) (xs : List (List Int)) : ∀ i j, j < xs.length → (mkTo a xs i)[j]? = some (if j < i then marksI (a + preN xs j) (xs.getD j []).length else xs.getD j [])
 | 0, j, hj => by
  rw [if_neg (by omega)]
  simp only [mkTo]
  rw [List.getD_eq_getElem?_getD, List.getElem?_eq_getElem hj]
  rfl
 | i + 1, j, hj => by
  simp only [mkTo]
  rw [List.getElem?_set]
  by_cases e : i = j
  ·subst e
   rw [if_pos rfl, if_pos (by rw [mkTo_length]; exact hj), if_pos (by omega)]
  ·rw [if_neg e, mkTo_at a xs i j hj]
   by_cases h : j < i
   ·rw [if_pos h, if_pos (by omega)]
   ·rw [if_neg h, if_neg (by omega)]
theorem mkTo_rd (a : Nat) (xs : List (List Int)) (i j : Nat) (hj : j < xs.length) : zba (mkTo a xs i) (j : Int) = if j < i then marksI (a + preN xs j) (xs.getD j []).length else xs.getD j [] := by
 unfold zba
 rw [Int.toNat_natCast, List.getD_eq_getElem?_getD, mkTo_at a xs i j hj]
 rfl
set_option maxHeartbeats 4000000 in
set_option maxRecDepth 100000 in
theorem markSS_calls (P0 : Nat → Prop) (v : Value) (xs : List (List Int)) (a : Nat) (w0 w : World) (hB : Below w0.heap.size w0 w) (hS : Kd.S (Kd.slice 3 (Kd.int .i64)) 24 w w0.heap.size P0 v xs) (hx : ∀ r ∈ xs, r.length ≤ 4) (hl : xs.length ≤ 1000) (ha : a ≤ 1000) :
  Calls Try.prog 30 #[v, .int .i64 (a : Int)] w fun e w' => e = .returned (.int .i64 ((a + preN xs xs.length : Nat) : Int)) ∧ Kd.S (Kd.slice 3 (Kd.int .i64)) 24 w' w0.heap.size P0 v (mkTo a xs xs.length) ∧ Below w0.heap.size w0 w' ∧ Kept w w' P0 := by
 obtain ⟨A, c, rfl⟩ := Kd.S_slice hS
 have HB := zaa.mk hB
 have HS := zaa.mk hS
 have HX := zaa.mk hx
 have HK0 := zaa.mk (Kept.refl w P0)
 clear hB hS hx
 go_enter Try.func30, Try.ntmps30
 go_wp2
 go_loopg [1, 5] xs.length (fun kq v1 v5 w' => ∃ i : Nat, v5 = .int .i64 (i : Int) ∧ v1 = .int .i64 ((a + preN xs i : Nat) : Int) ∧ zaa (i + kq = xs.length) ∧ zaa (Kd.S (Kd.slice 3 (Kd.int .i64)) 24 w' w0.heap.size P0 (.slice A xs.length c) (mkTo a xs i)) ∧ zaa (Below w0.heap.size w0 w') ∧ zaa (Kept w w' P0))
 case atStart => exact ⟨0, rfl, rfl, ⟨by omega⟩, HS, HB, HK0⟩
 case round =>
  obtain ⟨i, rfl, rfl, HKi, HSi, HBi, HKp⟩ := hrel
  by_cases hi : i < xs.length
  ·have hlt : (i : Int) < (xs.length : Int) := by omega
   have i0 : (0 : Int) ≤ (i : Int) := by omega
   have hA : ∃ ad, A = some ad := by
    have h2 := (Kd.S_reads' HSi.out).2.2.2.2 (by rw [mkTo_length]; omega)
    obtain ⟨ad, e, -⟩ := h2
    exact ⟨ad, e⟩
   obtain ⟨ad, rfl⟩ := hA
   obtain ⟨g, rfl⟩ := Kd.R_head (Kd.S_R HSi.out)
   obtain ⟨oki, cc, hcl, hM, hcells, hoki, hH⟩ := Kd.S_lend HSi.out ([] : List Int) (i : Int) i0 hlt
   have hrow : (mkTo a xs i).getD i [] = xs.getD i [] := by
    rw [List.getD_eq_getElem?_getD, mkTo_at a xs i i hi, if_neg (by omega)]
    rfl
   rw [Int.toNat_natCast, hrow] at hM
   obtain ⟨u, rfl, hRu⟩ := hM
   have hcell : wr.cell? ⟨g, i, none⟩ = some u := by
    have := hcells 0 u rfl
    rw [Int.toNat_natCast] at this
    simpa [Kd.slice] using this
   have hlen : (xs.getD i []).length ≤ 4 := by
    rw [List.getD_eq_getElem?_getD, List.getElem?_eq_getElem hi]
    exact HX.out _ (List.getElem_mem hi)
   have hpre := preN_le xs HX.out i
   obtain ⟨K, hK⟩ := markI_ev (xs.getD i []) (by omega) (a + preN xs i) (by omega)
   have HMk := zaa.mk (hK K (Nat.le_refl K))
   have HNx := zaa.mk (show mkTo a xs (i + 1) = (mkTo a xs i).set i (marksI (a + preN xs i) (xs.getD i []).length) from rfl)
   have HPn := zaa.mk (show a + preN xs (i + 1) = a + preN xs i + (xs.getD i []).length by simp only [preN]; omega)
   obtain ⟨Au, cu, eu⟩ := Kd.R_slice hRu
   subst eu
   have HRu := zaa.mk hRu
   have HH := zaa.mk hH
   have HOk := zaa.mk hoki
   clear hK hRu hH hoki hcells hcl hrow hlen hpre
   generalize xs.getD i [] = x at *
   generalize a + preN xs i = ai at *
   go_wp2_with (first
    | (go_at_call 19; refine (laws_markIntS.calls K oki (.slice Au x.length cu) x (ai : Int) _ _ w0 _ HBi.out HRu.out HMk.out).mono ?_; rintro e w8 ⟨rfl, hr8, hb8, hk8⟩; have HR8 := zaa.mk hr8; have HB8 := zaa.mk hb8; have HK8 := zaa.mk hk8; clear hr8 hb8 hk8))
   have hT : (Kd.int .i64).R 3 w8 w0.heap.size oki (.slice Au x.length cu) (marksI ai x.length) := Kd.R_mono (Kd.R_tight rfl HR8.out) (fun k hk => HRu.out.1 k hk.symm)
   have hN := Kd.H_back (Kd.H_kept HH.out HK8.out (fun k _ hn => hn)) (x' := marksI ai x.length) (okp := oki) ⟨_, rfl, hT⟩ (fun _ hk => hk)
   rw [Int.toNat_natCast, ← HNx.out] at hN
   have HN := zaa.mk hN
   clear hT hN
   go_roundg (xs.length - (i + 1))
   case measure => have := HKi.out; omega
   case rel => exact ⟨i + 1, by first | rfl | (congr 1; omega), by rw [HPn.out]; exact congrArg (Value.int .i64) (by omega), ⟨by have := HKi.out; omega⟩, HN, HB8, ⟨HKp.out.then_ HK8.out (fun k hk => .inl (HOk.out k hk).1)⟩⟩
  ·have hge : ¬ (i : Int) < (xs.length : Int) := by omega
   obtain rfl : i = xs.length := by have := HKi.out; omega
   go_wp2
   go_ret
   exact ⟨rfl, HSi.out, HBi.out, HKp.out⟩
theorem heldSS_ev (a : Nat) (ha : a ≤ 1000) (xs : List (List Int)) (hx : ∀ r ∈ xs, r.length ≤ 4) (hl : xs.length ≤ 1000) : Evs (fun k => laws_heldIntSS.f k (mkTo a xs xs.length) (a : Int)) ((a + preN xs xs.length : Nat) : Int) := by
 have key : ∀ m i, i + m = xs.length → Evs (fun k => laws_heldIntSS.l0 k (mkTo a xs xs.length) ((a + preN xs i : Nat) : Int) (i : Int)) ((a + preN xs xs.length : Nat) : Int) := by
  intro m
  induction m with
  | zero =>
   intro i hi
   obtain rfl : i = xs.length := by omega
   refine Evs.stepNeg (fun k => by conv => lhs; unfold laws_heldIntSS.l0) (by rw [mkTo_length]; omega) ?_
   exact Evs.const _
  | succ m ih =>
   intro i hi
   have hpre := preN_le xs hx i
   have hpre2 := preN_le xs hx (i + 1)
   have hnx := ih (i + 1) (by omega)
   have hlen : (xs.getD i []).length ≤ 4 := by
    rw [List.getD_eq_getElem?_getD, List.getElem?_eq_getElem (show i < xs.length by omega)]
    exact hx _ (List.getElem_mem _)
   refine Evs.stepPos (fun k => by conv => lhs; unfold laws_heldIntSS.l0) (by rw [mkTo_length]; omega) (Evs.pos (by omega) ?_)
   rw [mkTo_rd a xs xs.length i (by omega), if_pos (by omega)]
   refine Evs.bind (heldI_ev _ (by omega) (a + preN xs i) (by omega)) (Evs.neg (by omega) ?_)
   rw [zaw (by omega)]
   have e : a + preN xs (i + 1) = a + preN xs i + (xs.getD i []).length := by simp only [preN]; omega
   rw [e] at hnx
   exact hnx
 have := key xs.length 0 (by omega)
 refine Evs.congr (fun k => ?_) this
 unfold laws_heldIntSS.f
 simp only [preN, Nat.add_zero]
 rfl
theorem eqSS_same (xs : List (List Int)) (hx : ∀ r ∈ xs, r.length ≤ 4) (hl : xs.length ≤ 1000) : Evs (fun k => laws_eqIntSS.f k xs xs) true := by
 have key : ∀ m i, i + m = xs.length → Evs (fun k => laws_eqIntSS.l0 k xs xs (i : Int)) true := by
  intro m
  induction m with
  | zero =>
   intro i hi
   refine Evs.stepNeg (fun k => by conv => lhs; unfold laws_eqIntSS.l0) (by omega) ?_
   exact Evs.const _
  | succ m ih =>
   intro i hi
   have hlen : (zba xs (i : Int)).length ≤ 4 := by
    unfold zba
    rw [Int.toNat_natCast, List.getD_eq_getElem?_getD, List.getElem?_eq_getElem (show i < xs.length by omega)]
    exact hx _ (List.getElem_mem _)
   refine Evs.stepPos (fun k => by conv => lhs; unfold laws_eqIntSS.l0) (by omega) (Evs.pos (by omega) (Evs.pos (by omega) (Evs.bind (eqI_same _ (by omega)) (Evs.pos rfl ?_))))
   rw [zaw (by omega)]
   exact ih (i + 1) (by omega)
 refine Evs.congr (h := fun k => laws_eqIntSS.l0 k xs xs 0) (fun k => ?_) (key xs.length 0 (by omega))
 unfold laws_eqIntSS.f
 rw [if_pos rfl]
theorem wallList_rows (p : List ByteArray) : ∀ r ∈ (zbj p).1, r.length ≤ 4 := by
 unfold zbj
 cases hF : floorF p with
 | none => intro r hr; cases hr
 | some t =>
  intro r hr
  obtain ⟨cs, rs⟩ := t
  have hr : r ∈ walls4 cs := hr
  rw [walls4_eq] at hr
  obtain ⟨y, -, rfl⟩ := List.mem_map.1 hr
  exact Nat.le_refl 4
set_option maxHeartbeats 4000000 in
set_option maxRecDepth 100000 in
theorem lawWalls_calls (A0 : Option Addr) (c0 : Nat) (l0 : List ByteArray) (w : World) (hf : fits l0) (hr0 : Kd.C Kd.string w A0 l0.length l0) (hc0 : l0.length ≤ c0) :
  Calls Try.prog 6 #[.slice A0 l0.length c0] w fun e w' => e = .returned (.bool true) ∧ Below w.heap.size w w' := by
 obtain ⟨vz, ez, hz⟩ := sz_ev l0 hf 1048576 (by omega) (by omega)
 obtain ⟨K1, h1⟩ := ez
 have HSz := zaa.mk (h1 K1 (Nat.le_refl K1))
 have HR := zaa.mk hr0
 have HC := zaa.mk hc0
 clear h1 hr0 hc0
 rcases hz with hz | ⟨hp, hz, -⟩
 ·clear hf
  go_enter Try.func6, Try.ntmps6
  go_wp2_with fail
  refine (laws_szStringS.calls K1 A0 c0 l0 1048576 vz _ HR.out HC.out HSz.out).mono ?_
  rintro e w1 ⟨rfl, hd1⟩
  have HB1 := zaa.mk hd1.below
  clear hd1
  go_wp2
  go_ret
  exact ⟨rfl, HB1.out⟩
 ·have hl := hp.1
  obtain ⟨K2, h2⟩ := toS_ev l0 hl
  have HTo := zaa.mk (h2 K2 (Nat.le_refl K2))
  obtain ⟨K3, h3⟩ := WallList_ev l0 hp
  have HSp := zaa.mk (h3 K3 (Nat.le_refl K3))
  have HIm := zaa.mk (show impl_WallList.f l0 = some (zbj l0) by unfold impl_WallList.f; rw [if_pos ((smallB_iff _).2 hp)])
  have hx4 := wallList_rows l0
  have hx72 := walls4_len_le l0
  obtain ⟨K4, h4⟩ := eqSS_same (zbj l0).1 hx4 (by omega)
  have HEq := zaa.mk (h4 K4 (Nat.le_refl K4))
  obtain ⟨K5, h5⟩ := eqS_same l0 hl
  have HEs := zaa.mk (h5 K5 (Nat.le_refl K5))
  obtain ⟨K6, h6⟩ := markS_ev l0 hl 1 (by omega)
  have HMs := zaa.mk (h6 K6 (Nat.le_refl K6))
  obtain ⟨K7, h7⟩ := heldSS_ev 1 (by omega) (zbj l0).1 hx4 (by omega)
  have HHe := zaa.mk (h7 K7 (Nat.le_refl K7))
  have HMl := zaa.mk (mkTo_length 1 (zbj l0).1 (zbj l0).1.length)
  have HMk := zaa.mk (fun (P0 : Nat → Prop) (v : Value) (w0 w : World) (hB : Below w0.heap.size w0 w) hS => markSS_calls P0 v (zbj l0).1 1 w0 w hB hS hx4 (by omega) (by omega))
  clear h2 h3 h4 h5 h6 h7 hx4 hf hp hl
  generalize hM : mkTo 1 (zbj l0).1 (zbj l0).1.length = M at *
  generalize hP : ((1 + preN (zbj l0).1 (zbj l0).1.length : Nat) : Int) = z2 at *
  have z2p : 0 ≤ z2 := by omega
  have z2n : ¬ z2 < 0 := by omega
  obtain ⟨z1, hz1⟩ : ∃ z1 : Int, z1 = ((1 + l0.length : Nat) : Int) := ⟨_, rfl⟩
  have z1n : ¬ z1 < 0 := by omega
  have z1d : decide (z1 < 0) = false := decide_eq_false z1n
  have hvz : ¬ vz < 0 := by omega
  rw [← hz1] at HMs
  clear hP hM hz1
  generalize hW : zbj l0 = XB at *
  obtain ⟨X, b⟩ := XB
  dsimp only at *
  clear hW
  have hbb : (b != b) = false := by simp
  generalize marksOf 1 l0.length = mo at *
  go_enter Try.func6, Try.ntmps6
  go_wp2_with fail
  refine (laws_szStringS.calls K1 A0 c0 l0 1048576 vz _ HR.out HC.out HSz.out).mono ?_
  rintro e w1 ⟨rfl, hd1⟩
  have HB1 := zaa.mk hd1.below
  clear hd1
  go_wp2_with fail
  refine (laws_toStringS.calls K2 A0 c0 l0 l0 _ (Kd.C_below HR.out HB1.out) HC.out HTo.out).mono ?_
  rintro e w2 ⟨v2, rfl, hr2, hb2⟩
  obtain ⟨A2, c2, e2, hc2, hC2⟩ := Kd.R_reads hr2
  subst e2
  have HC2 := zaa.mk hC2
  have HL2 := zaa.mk hc2
  have HB2 := zaa.mk (zag HB1.out hb2)
  clear hr2 hb2 hc2 hC2
  go_wp2_with fail
  refine (spec_WallList.calls K3 A2 c2 l0 X b _ HC2.out HL2.out HSp.out).mono ?_
  rintro e w3 ⟨v3, rfl, hs3, hb3⟩
  obtain ⟨A3, c3, e3⟩ := Kd.S_slice hs3
  subst e3
  have HW := zaa.mk (Kd.S_mono (Kd.S_bound hs3) (ok' := fun k => k < w3.heap.size) (fun k hk => hk.2.2.1))
  have HB3 := zaa.mk (zag HB2.out hb3)
  have HT := zaa.mk (Below.refl w3.heap.size w3)
  clear hs3 hb3 HB2 HC2 HL2
  go_wp2_with fail
  refine (laws_toStringS.calls K2 A0 c0 l0 l0 _ (Kd.C_below HR.out HB3.out) HC.out HTo.out).mono ?_
  rintro e w4 ⟨v4, rfl, hr4, hb4⟩
  obtain ⟨A4, c4, e4, hc4, hC4⟩ := Kd.R_reads hr4
  subst e4
  have HX := zaa.mk (Kd.R_mono (Kd.R_bound hr4) (ok' := fun k => w3.heap.size ≤ k ∧ k < w4.heap.size) (fun k hk => ⟨hk.2.1, hk.2.2.1⟩))
  have HC4 := zaa.mk hC4
  have HL4 := zaa.mk hc4
  have n_ := zaa.mk (zag HT.out hb4); clear HT; have HT := n_; clear n_
  have n_ := zaa.mk (Kd.S_below HW.out hb4); clear HW; have HW := n_; clear n_
  have HS4 := zaa.mk hb4.size
  clear hr4 hb4 hc4 hC4
  go_wp2_with fail
  refine (impl_WallList.calls A4 c4 l0 X b _ HC4.out HL4.out HIm.out).mono ?_
  rintro e w5 ⟨v5, rfl, hs5, hb5⟩
  obtain ⟨A5, c5, e5⟩ := Kd.S_slice hs5
  subst e5
  have HG := zaa.mk (Kd.S_lower (Kd.S_mono (Kd.S_bound hs5) (ok' := fun k => w4.heap.size ≤ k ∧ k < w5.heap.size) (fun k hk => ⟨hk.2.1, hk.2.2.1⟩)) HS4.out)
  have n_ := zaa.mk (zag HT.out hb5); clear HT; have HT := n_; clear n_
  have n_ := zaa.mk (Kd.S_below HW.out hb5); clear HW; have HW := n_; clear n_
  have n_ := zaa.mk (Kd.R_below HX.out hb5); clear HX; have HX := n_; clear n_
  have HC5 := zaa.mk (Kd.C_below HC4.out hb5)
  clear hs5 hb5 HC4
  go_wp2_with fail
  refine (laws_eqIntSS.calls K4 A5 c5 X A3 c3 X true _ (Kd.S_reads' HG.out).2.2 (Kd.S_reads' HG.out).2.1 (Kd.S_reads' HW.out).2.2 (Kd.S_reads' HW.out).2.1 HEq.out).mono ?_
  rintro e w6 ⟨rfl, hd⟩
  have hb := hd.below
  have n_ := zaa.mk (zag HT.out hb); clear HT; have HT := n_; clear n_
  have n_ := zaa.mk (Kd.S_below HW.out hb); clear HW; have HW := n_; clear n_
  have n_ := zaa.mk (Kd.R_below HX.out hb); clear HX; have HX := n_; clear n_
  have n_ := zaa.mk (Kd.S_below HG.out hb); clear HG; have HG := n_; clear n_
  have HC6 := zaa.mk (Kd.C_below HC5.out hb)
  clear hb hd HC5
  go_wp2_with fail
  refine (laws_toStringS.calls K2 A0 c0 l0 l0 _ (Kd.C_below HR.out (zag HB3.out HT.out)) HC.out HTo.out).mono ?_
  rintro e w7 ⟨v7, rfl, hr7, hb7⟩
  obtain ⟨A7, c7, e7, hc7, hC7⟩ := Kd.R_reads hr7
  subst e7
  have HC7 := zaa.mk hC7
  have HL7 := zaa.mk hc7
  have n_ := zaa.mk (zag HT.out hb7); clear HT; have HT := n_; clear n_
  have n_ := zaa.mk (Kd.S_below HW.out hb7); clear HW; have HW := n_; clear n_
  have n_ := zaa.mk (Kd.R_below HX.out hb7); clear HX; have HX := n_; clear n_
  have n_ := zaa.mk (Kd.S_below HG.out hb7); clear HG; have HG := n_; clear n_
  have HC67 := zaa.mk (Kd.C_below HC6.out hb7)
  clear hr7 hb7 hc7 hC7 HC6
  go_wp2_with fail
  refine (laws_eqStringS.calls K5 A4 c4 l0 A7 c7 l0 true _ HC67.out HL4.out HC7.out HL7.out HEs.out).mono ?_
  rintro e w8 ⟨rfl, hd⟩
  have hb := hd.below
  have n_ := zaa.mk (zag HT.out hb); clear HT; have HT := n_; clear n_
  have n_ := zaa.mk (Kd.S_below HW.out hb); clear HW; have HW := n_; clear n_
  have n_ := zaa.mk (Kd.R_below HX.out hb); clear HX; have HX := n_; clear n_
  have n_ := zaa.mk (Kd.S_below HG.out hb); clear HG; have HG := n_; clear n_
  clear hb hd HC7 HL7 HC67
  go_wp2_with fail
  refine (laws_markStringS.calls K6 (fun k => w3.heap.size ≤ k ∧ k < w4.heap.size) (.slice A4 l0.length c4) l0 1 z1 mo w3 _ HT.out HX.out HMs.out).mono ?_
  rintro e w9 ⟨rfl, hr9, hb9, hk9⟩
  have n_ := zaa.mk (Kd.S_kept HG.out hk9 (fun k h1 h2 => absurd h2.2 (Nat.not_lt.2 h1.1))); clear HG; have HG := n_; clear n_
  have n_ := zaa.mk (Kd.S_kept HW.out hk9 (fun k h1 h2 => absurd h1 (Nat.not_lt.2 h2.1))); clear HW; have HW := n_; clear n_
  have n_ := zaa.mk hb9; clear HT; have HT := n_; clear n_
  clear hr9 hb9 hk9 HX
  go_wp2_with fail
  refine (laws_eqIntSS.calls K4 A5 c5 X A3 c3 X true _ (Kd.S_reads' HG.out).2.2 (Kd.S_reads' HG.out).2.1 (Kd.S_reads' HW.out).2.2 (Kd.S_reads' HW.out).2.1 HEq.out).mono ?_
  rintro e w10 ⟨rfl, hd⟩
  have hb := hd.below
  have n_ := zaa.mk (zag HT.out hb); clear HT; have HT := n_; clear n_
  have n_ := zaa.mk (Kd.S_below HW.out hb); clear HW; have HW := n_; clear n_
  have n_ := zaa.mk (Kd.S_below HG.out hb); clear HG; have HG := n_; clear n_
  clear hb hd
  go_wp2_with fail
  refine (HMk.out (fun k => w4.heap.size ≤ k ∧ k < w5.heap.size) (.slice A5 X.length c5) w3 _ HT.out HG.out).mono ?_
  rintro e w11 ⟨rfl, hs11, hb11, hk11⟩
  have n_ := zaa.mk hs11; clear HG; have HG := n_; clear n_
  have n_ := zaa.mk (Kd.S_kept HW.out hk11 (fun k h1 h2 => by have := HS4.out; exact absurd h1 (Nat.not_lt.2 (Nat.le_trans this h2.1)))); clear HW; have HW := n_; clear n_
  have n_ := zaa.mk hb11; clear HT; have HT := n_; clear n_
  clear hs11 hb11 hk11
  go_wp2_with fail
  refine calls_of_args (args' := #[.slice A5 M.length c5, .int .i64 1]) (by rw [HMl.out]) ?_
  refine (laws_heldIntSS.calls K7 A5 c5 M 1 z2 _ (Kd.S_reads' HG.out).2.2 (by have h := (Kd.S_reads' HG.out).2.1; rw [HMl.out]; exact h) HHe.out).mono ?_
  rintro e w12 ⟨rfl, hd⟩
  have hb := hd.below
  have n_ := zaa.mk (zag HT.out hb); clear HT; have HT := n_; clear n_
  have n_ := zaa.mk (Kd.S_below HW.out hb); clear HW; have HW := n_; clear n_
  have n_ := zaa.mk (Kd.S_below HG.out hb); clear HG; have HG := n_; clear n_
  clear hb hd
  go_wp2_with fail
  refine (laws_toStringS.calls K2 A0 c0 l0 l0 _ (Kd.C_below HR.out (zag HB3.out HT.out)) HC.out HTo.out).mono ?_
  rintro e w13 ⟨v13, rfl, hr13, hb13⟩
  obtain ⟨A13, c13, e13, hc13, hC13⟩ := Kd.R_reads hr13
  subst e13
  have HC13 := zaa.mk hC13
  have HL13 := zaa.mk hc13
  have n_ := zaa.mk (zag HT.out hb13); clear HT; have HT := n_; clear n_
  have n_ := zaa.mk (Kd.S_below HW.out hb13); clear HW; have HW := n_; clear n_
  have n_ := zaa.mk (Kd.S_below HG.out hb13); clear HG; have HG := n_; clear n_
  clear hr13 hb13 hc13 hC13
  go_wp2_with fail
  refine (impl_WallList.calls A13 c13 l0 X b _ HC13.out HL13.out HIm.out).mono ?_
  rintro e w14 ⟨v14, rfl, hs14, hb14⟩
  obtain ⟨A14, c14, e14⟩ := Kd.S_slice hs14
  subst e14
  have HH := zaa.mk hs14
  have n_ := zaa.mk (zag HT.out hb14); clear HT; have HT := n_; clear n_
  have n_ := zaa.mk (Kd.S_below HW.out hb14); clear HW; have HW := n_; clear n_
  have n_ := zaa.mk (Kd.S_below HG.out hb14); clear HG; have HG := n_; clear n_
  clear hs14 hb14 HC13 HL13
  go_wp2_with fail
  refine (laws_eqIntSS.calls K4 A14 c14 X A3 c3 X true _ (Kd.S_reads' HH.out).2.2 (Kd.S_reads' HH.out).2.1 (Kd.S_reads' HW.out).2.2 (Kd.S_reads' HW.out).2.1 HEq.out).mono ?_
  rintro e w15 ⟨rfl, hd⟩
  have hb := hd.below
  have n_ := zaa.mk (zag HT.out hb); clear HT; have HT := n_; clear n_
  have n_ := zaa.mk (Kd.S_below HW.out hb); clear HW; have HW := n_; clear n_
  have n_ := zaa.mk (Kd.S_below HG.out hb); clear HG; have HG := n_; clear n_
  clear hb hd HH
  go_wp2_with fail
  refine calls_of_args (args' := #[.slice A5 M.length c5, .int .i64 1]) (by rw [HMl.out]) ?_
  refine (laws_heldIntSS.calls K7 A5 c5 M 1 z2 _ (Kd.S_reads' HG.out).2.2 (by have h := (Kd.S_reads' HG.out).2.1; rw [HMl.out]; exact h) HHe.out).mono ?_
  rintro e w16 ⟨rfl, hd⟩
  have hb := hd.below
  have n_ := zaa.mk (zag HT.out hb); clear HT; have HT := n_; clear n_
  have n_ := zaa.mk (Kd.S_below HW.out hb); clear HW; have HW := n_; clear n_
  have n_ := zaa.mk (Kd.S_below HG.out hb); clear HG; have HG := n_; clear n_
  clear hb hd
  go_wp2
  go_ret
  exact ⟨rfl, zag HB3.out HT.out⟩
end Go.Proofs.Ytickdcegnlldjaa.Hd
