/- Part 4 of the proof of FnTermLeft: what the program's functions and the reference's compute. -/
import Derived.Test.YtgiidlebnjbgeaaCPTLc
set_option linter.unusedSimpArgs false
set_option linter.unusedVariables false
namespace Go.Proofs.Ytgiidlebnjbgeaa.TL
open Go.Proofs.Ytgiidlebnjbgeaa.PB Go.Proofs.Ytgiidlebnjbgeaa.Hd Go.Proofs.Ytgiidlebnjbgeaa.SM
open Go.RowKit Go.PW.PrintWords Go.PW.PrintLast Go.PW.PrintMore
attribute [local go_sem] zca zby zcm zcl zbo zbn zbz zbx   -- for this text's walks alone
def impl_TermSame.f (k : Nat) (a0 : ByteArray) (a1 : ByteArray) : Option (Bool) := (impl_TermPerm.f a0).bind fun bt106 => ((impl_TermPerm.f a1).bind fun bt110 => (if bt106.2 = true then (if bt110.2 = true then ((slices_Equal_int_int.f k bt106.1 bt110.1).bind fun t114 => (some t114)) else (some false)) else (some false)))
set_option maxHeartbeats 8000000 in
set_option maxRecDepth 100000 in
theorem impl_TermSame.calls (k : Nat) (a0 : ByteArray) (a1 : ByteArray) (r : Bool) (w : World) (h : impl_TermSame.f k a0 a1 = some r) :
  Calls Try.prog 13 #[.string a0, .string a1] w fun e w' => e = .returned (.bool r) ∧ Below w.heap.size w w' := by
 have HB := zaa.mk (Below.refl w.heap.size w)
 have H : ((impl_TermPerm.f a0).bind fun bt106 => ((impl_TermPerm.f a1).bind fun bt110 => (if bt106.2 = true then (if bt110.2 = true then ((slices_Equal_int_int.f k bt106.1 bt110.1).bind fun t114 => (some t114)) else (some false)) else (some false)))) = some r := h
 clear h
 replace H := Option.bind_eq_some_iff.mp H
 obtain ⟨⟨t106, t107⟩, A30, H⟩ := H
 replace H : ((impl_TermPerm.f a1).bind fun bt110 => (if t107 = true then (if bt110.2 = true then ((slices_Equal_int_int.f k t106 bt110.1).bind fun t114 => (some t114)) else (some false)) else (some false))) = some r := H
 have A3 := zaa.mk A30
 clear A30
 replace H := Option.bind_eq_some_iff.mp H
 obtain ⟨⟨t110, t111⟩, A40, H⟩ := H
 replace H : (if t107 = true then (if t111 = true then ((slices_Equal_int_int.f k t106 t110).bind fun t114 => (some t114)) else (some false)) else (some false)) = some r := H
 have A4 := zaa.mk A40
 clear A40
 by_cases c5 : t107 = true
 ·subst c5
  have H1 : (if t111 = true then ((slices_Equal_int_int.f k t106 t110).bind fun t114 => (some t114)) else (some false)) = some r := by rw [if_pos rfl] at H; exact H
  clear H
  have H := H1
  clear H1
  by_cases c6 : t111 = true
  ·subst c6
   have H1 : ((slices_Equal_int_int.f k t106 t110).bind fun t114 => (some t114)) = some r := by rw [if_pos rfl] at H; exact H
   clear H
   have H := H1
   clear H1
   replace H := Option.bind_eq_some_iff.mp H
   obtain ⟨t114, A70, H⟩ := H
   replace H : (some t114) = some r := H
   have A7 := zaa.mk A70
   clear A70
   obtain rfl := Option.some.inj H
   go_enter Try.func13, Try.ntmps13
   go_wp2_with (first | ((with_reducible refine zal (f := 8) rfl ?_); refine zba (some 11) rfl rfl Try.func8 (by kernel_rfl) rfl #[.string a0] rfl (by (try simp only [List.map_toArray, List.map_cons, List.map_nil]); first | done | rfl | (simp only [List.length_drop, List.length_take]; rfl)) ?_; (with_reducible refine (impl_TermPerm.calls a0 t106 true _ A3.out).mono ?_); rintro e w8 ⟨v108, rfl, ho0, hb⟩; refine ⟨_, rfl, ?_⟩; have n0_ := zaa.mk (Kd.R_lower ho0 (zay (by repeat (first | (with_reducible first | exact HB.out | apply zab | apply zac | apply zad) | exact HB.out)))); have n1_ := zaa.mk (zae (by repeat (first | (with_reducible first | exact HB.out | apply zab | apply zac | apply zad) | exact HB.out)) hb); clear HB; have HO109 := n0_; have HB := n1_; clear n0_ n1_; (try clear hb); (try clear hb2); (try clear hk); (try clear hi); (try clear ho0)) | ((with_reducible refine zal (f := 8) rfl ?_); refine zba (some 16) rfl rfl Try.func8 (by kernel_rfl) rfl #[.string a1] rfl (by (try simp only [List.map_toArray, List.map_cons, List.map_nil]); first | done | rfl | (simp only [List.length_drop, List.length_take]; rfl)) ?_; (with_reducible refine (impl_TermPerm.calls a1 t110 true _ A4.out).mono ?_); rintro e w9 ⟨v112, rfl, ho0, hb⟩; refine ⟨_, rfl, ?_⟩; have n0_ := zaa.mk (Kd.R_elder' (by (with_reducible repeat (first | apply Kd.R_alloc | apply Kd.R_drewN | apply Kd.R_drew)); exact HO109.out) (Kd.R_base ho0) hb); have n1_ := zaa.mk (Kd.R_lower (Kd.R_new' ho0 (Kd.R_lt (by (with_reducible repeat (first | apply Kd.R_alloc | apply Kd.R_drewN | apply Kd.R_drew)); exact HO109.out))) (zay (by repeat (first | (with_reducible first | exact HB.out | apply zab | apply zac | apply zad) | exact HB.out)))); have n2_ := zaa.mk (zae (by repeat (first | (with_reducible first | exact HB.out | apply zab | apply zac | apply zad) | exact HB.out)) hb); clear HO109; clear HB; have HO109 := n0_; have HO113 := n1_; have HB := n2_; clear n0_ n1_ n2_; (try clear hb); (try clear hb2); (try clear hk); (try clear hi); (try clear ho0); obtain ⟨Ao10, co10, eo10⟩ := Kd.R_slice HO109.out; subst eo10; obtain ⟨Ao11, co11, eo11⟩ := Kd.R_slice HO113.out; subst eo11) | (go_at_call 26; (with_reducible refine (slices_Equal_int_int.calls k _ _ t106 _ _ t110 t114 _ ?side1 ?side2 ?side3 ?side4 A7.out).mono ?_); (case side1 => repeat (first | exact (Kd.R_reads' HO109.out).2.2 | (with_reducible refine Kd.C_alloc ?_ _) | (with_reducible refine Kd.C_drewN ?_ _) | (with_reducible refine Kd.C_drew ?_))); (case side2 => exact (Kd.R_reads' HO109.out).2.1); (case side3 => repeat (first | exact (Kd.R_reads' HO113.out).2.2 | (with_reducible refine Kd.C_alloc ?_ _) | (with_reducible refine Kd.C_drewN ?_ _) | (with_reducible refine Kd.C_drew ?_))); (case side4 => exact (Kd.R_reads' HO113.out).2.1); rintro e w' ⟨rfl, ⟨nd, rfl⟩⟩))
   go_ret
   exact ⟨by first | rfl | (simp [zan, zam] <;> rfl) | (simp [*, zan, zam] <;> rfl), by repeat (first | (with_reducible first | exact HB.out | apply zab | apply zac | apply zad) | exact HB.out)⟩
  ·replace c6 := Bool.eq_false_iff.mpr c6
   subst c6
   have H1 : (some false) = some r := by rw [if_neg (show ¬ (false = true) by decide)] at H; exact H
   clear H
   have H := H1
   clear H1
   obtain rfl := Option.some.inj H
   go_enter Try.func13, Try.ntmps13
   go_wp2_with (first | ((with_reducible refine zal (f := 8) rfl ?_); refine zba (some 11) rfl rfl Try.func8 (by kernel_rfl) rfl #[.string a0] rfl (by (try simp only [List.map_toArray, List.map_cons, List.map_nil]); first | done | rfl | (simp only [List.length_drop, List.length_take]; rfl)) ?_; (with_reducible refine (impl_TermPerm.calls a0 t106 true _ A3.out).mono ?_); rintro e w12 ⟨v108, rfl, ho0, hb⟩; refine ⟨_, rfl, ?_⟩; have n0_ := zaa.mk (Kd.R_lower ho0 (zay (by repeat (first | (with_reducible first | exact HB.out | apply zab | apply zac | apply zad) | exact HB.out)))); have n1_ := zaa.mk (zae (by repeat (first | (with_reducible first | exact HB.out | apply zab | apply zac | apply zad) | exact HB.out)) hb); clear HB; have HO109 := n0_; have HB := n1_; clear n0_ n1_; (try clear hb); (try clear hb2); (try clear hk); (try clear hi); (try clear ho0)) | ((with_reducible refine zal (f := 8) rfl ?_); refine zba (some 16) rfl rfl Try.func8 (by kernel_rfl) rfl #[.string a1] rfl (by (try simp only [List.map_toArray, List.map_cons, List.map_nil]); first | done | rfl | (simp only [List.length_drop, List.length_take]; rfl)) ?_; (with_reducible refine (impl_TermPerm.calls a1 t110 false _ A4.out).mono ?_); rintro e w13 ⟨v112, rfl, ho0, hb⟩; refine ⟨_, rfl, ?_⟩; have n0_ := zaa.mk (Kd.R_elder' (by (with_reducible repeat (first | apply Kd.R_alloc | apply Kd.R_drewN | apply Kd.R_drew)); exact HO109.out) (Kd.R_base ho0) hb); have n1_ := zaa.mk (Kd.R_lower (Kd.R_new' ho0 (Kd.R_lt (by (with_reducible repeat (first | apply Kd.R_alloc | apply Kd.R_drewN | apply Kd.R_drew)); exact HO109.out))) (zay (by repeat (first | (with_reducible first | exact HB.out | apply zab | apply zac | apply zad) | exact HB.out)))); have n2_ := zaa.mk (zae (by repeat (first | (with_reducible first | exact HB.out | apply zab | apply zac | apply zad) | exact HB.out)) hb); clear HO109; clear HB; have HO109 := n0_; have HO113 := n1_; have HB := n2_; clear n0_ n1_ n2_; (try clear hb); (try clear hb2); (try clear hk); (try clear hi); (try clear ho0)))
   go_ret
   exact ⟨by first | rfl | (simp [zan, zam] <;> rfl) | (simp [*, zan, zam] <;> rfl), by repeat (first | (with_reducible first | exact HB.out | apply zab | apply zac | apply zad) | exact HB.out)⟩
 ·replace c5 := Bool.eq_false_iff.mpr c5
  subst c5
  have H1 : (some false) = some r := by rw [if_neg (show ¬ (false = true) by decide)] at H; exact H
  clear H
  have H := H1
  clear H1
  obtain rfl := Option.some.inj H
  go_enter Try.func13, Try.ntmps13
  go_wp2_with (first | ((with_reducible refine zal (f := 8) rfl ?_); refine zba (some 11) rfl rfl Try.func8 (by kernel_rfl) rfl #[.string a0] rfl (by (try simp only [List.map_toArray, List.map_cons, List.map_nil]); first | done | rfl | (simp only [List.length_drop, List.length_take]; rfl)) ?_; (with_reducible refine (impl_TermPerm.calls a0 t106 false _ A3.out).mono ?_); rintro e w14 ⟨v108, rfl, ho0, hb⟩; refine ⟨_, rfl, ?_⟩; have n0_ := zaa.mk (Kd.R_lower ho0 (zay (by repeat (first | (with_reducible first | exact HB.out | apply zab | apply zac | apply zad) | exact HB.out)))); have n1_ := zaa.mk (zae (by repeat (first | (with_reducible first | exact HB.out | apply zab | apply zac | apply zad) | exact HB.out)) hb); clear HB; have HO109 := n0_; have HB := n1_; clear n0_ n1_; (try clear hb); (try clear hb2); (try clear hk); (try clear hi); (try clear ho0)) | ((with_reducible refine zal (f := 8) rfl ?_); refine zba (some 16) rfl rfl Try.func8 (by kernel_rfl) rfl #[.string a1] rfl (by (try simp only [List.map_toArray, List.map_cons, List.map_nil]); first | done | rfl | (simp only [List.length_drop, List.length_take]; rfl)) ?_; (with_reducible refine (impl_TermPerm.calls a1 t110 t111 _ A4.out).mono ?_); rintro e w15 ⟨v112, rfl, ho0, hb⟩; refine ⟨_, rfl, ?_⟩; have n0_ := zaa.mk (Kd.R_elder' (by (with_reducible repeat (first | apply Kd.R_alloc | apply Kd.R_drewN | apply Kd.R_drew)); exact HO109.out) (Kd.R_base ho0) hb); have n1_ := zaa.mk (Kd.R_lower (Kd.R_new' ho0 (Kd.R_lt (by (with_reducible repeat (first | apply Kd.R_alloc | apply Kd.R_drewN | apply Kd.R_drew)); exact HO109.out))) (zay (by repeat (first | (with_reducible first | exact HB.out | apply zab | apply zac | apply zad) | exact HB.out)))); have n2_ := zaa.mk (zae (by repeat (first | (with_reducible first | exact HB.out | apply zab | apply zac | apply zad) | exact HB.out)) hb); clear HO109; clear HB; have HO109 := n0_; have HO113 := n1_; have HB := n2_; clear n0_ n1_ n2_; (try clear hb); (try clear hb2); (try clear hk); (try clear hi); (try clear ho0)))
  go_ret
  exact ⟨by first | rfl | (simp [zan, zam] <;> rfl) | (simp [*, zan, zam] <;> rfl), by repeat (first | (with_reducible first | exact HB.out | apply zab | apply zac | apply zad) | exact HB.out)⟩
def laws_FnTermLeft.j0 : Nat → ByteArray → ByteArray → Bool → ByteArray → Bool → Bool → Option (Bool)
 | 0, _, _, _, _, _, _ => none
 | k + 1, x3, x4, x5, x6, x7, x40 => if x40 = true then (if (x5 == x7) = true then (some (x4.toList == x6.toList)) else (some false)) else ((impl_TermTidy.f x3).bind fun bt267 => ((impl_TermLeft.f bt267.1).bind fun bt269 => ((impl_TermLeft.f x4).bind fun bt271 => (if bt267.2 = true then (if bt269.2 = true then (if bt271.2 = true then (if bt269.1.toList = x4.toList then (if bt271.1.toList = x4.toList then (if (x4.size : Int) = (bt267.1.size : Int) then ((impl_TermSame.f k x3 x4).bind fun t273 => (some t273)) else (some false)) else (some false)) else (some false)) else (some false)) else (some false)) else (some false)))))
def laws_FnTermLeft.f (k : Nat) (l0 : List Int) : Option (Bool) := if (l0.length : Int) > 1048576 then (some true) else ((spec_DrawTermLeft.f k l0).bind fun t262 => ((impl_TermLeft.f t262).bind fun bt263 => ((spec_TermLeft.f t262).bind fun bt265 => (if (bt263.2 != bt265.2) = true then (laws_FnTermLeft.j0 k t262 bt263.1 bt263.2 bt265.1 bt265.2 true) else (if bt263.1.toList = bt265.1.toList then (laws_FnTermLeft.j0 k t262 bt263.1 bt263.2 bt265.1 bt265.2 (!bt263.2)) else (laws_FnTermLeft.j0 k t262 bt263.1 bt263.2 bt265.1 bt265.2 true))))))
set_option maxHeartbeats 8000000 in
set_option maxRecDepth 100000 in
theorem laws_FnTermLeft.calls (k : Nat) (A0 : Option Addr) (c0 : Nat) (l0 : List Int) (r : Bool) (w : World) (hr0 : Kd.C (Kd.int .u8) w A0 l0.length l0) (hc0 : l0.length ≤ c0) (h : laws_FnTermLeft.f k l0 = some r) :
  Calls Try.prog 5 #[.slice A0 l0.length c0] w fun e w' => e = .returned (.bool r) ∧ Below w.heap.size w w' := by
 have HR0 := zaa.mk hr0
 have HC0 := zaa.mk hc0
 clear hr0 hc0
 have HB := zaa.mk (Below.refl w.heap.size w)
 have H : (if (l0.length : Int) > 1048576 then (some true) else ((spec_DrawTermLeft.f k l0).bind fun t262 => ((impl_TermLeft.f t262).bind fun bt263 => ((spec_TermLeft.f t262).bind fun bt265 => (if (bt263.2 != bt265.2) = true then (laws_FnTermLeft.j0 k t262 bt263.1 bt263.2 bt265.1 bt265.2 true) else (if bt263.1.toList = bt265.1.toList then (laws_FnTermLeft.j0 k t262 bt263.1 bt263.2 bt265.1 bt265.2 (!bt263.2)) else (laws_FnTermLeft.j0 k t262 bt263.1 bt263.2 bt265.1 bt265.2 true))))))) = some r := h
 clear h
 by_cases c2 : (l0.length : Int) > 1048576
 ·rw [if_pos c2] at H
  have c2b0 : decide (1048576 < (l0.length : Int)) = true := decide_eq_true c2
  have c2b1 : decide (1048576 < l0.length) = true := decide_eq_true (by omega)
  clear c2
  obtain rfl := Option.some.inj H
  go_enter Try.func5, Try.ntmps5
  go_wp2
  go_ret
  exact ⟨by first | rfl | (simp [zan, zam] <;> rfl) | (simp [*, zan, zam] <;> rfl), by repeat (first | (with_reducible first | exact HB.out | apply zab | apply zac | apply zad) | exact HB.out)⟩
 ·rw [if_neg c2] at H
  have c2b0 : decide (1048576 < (l0.length : Int)) = false := decide_eq_false c2
  have c2b1 : decide (1048576 < l0.length) = false := decide_eq_false (by omega)
  clear c2
  replace H := Option.bind_eq_some_iff.mp H
  obtain ⟨t262, A30, H⟩ := H
  replace H : ((impl_TermLeft.f t262).bind fun bt263 => ((spec_TermLeft.f t262).bind fun bt265 => (if (bt263.2 != bt265.2) = true then (laws_FnTermLeft.j0 k t262 bt263.1 bt263.2 bt265.1 bt265.2 true) else (if bt263.1.toList = bt265.1.toList then (laws_FnTermLeft.j0 k t262 bt263.1 bt263.2 bt265.1 bt265.2 (!bt263.2)) else (laws_FnTermLeft.j0 k t262 bt263.1 bt263.2 bt265.1 bt265.2 true))))) = some r := H
  have A3 := zaa.mk A30
  clear A30
  replace H := Option.bind_eq_some_iff.mp H
  obtain ⟨⟨t263, t264⟩, A40, H⟩ := H
  replace H : ((spec_TermLeft.f t262).bind fun bt265 => (if (t264 != bt265.2) = true then (laws_FnTermLeft.j0 k t262 t263 t264 bt265.1 bt265.2 true) else (if t263.toList = bt265.1.toList then (laws_FnTermLeft.j0 k t262 t263 t264 bt265.1 bt265.2 (!t264)) else (laws_FnTermLeft.j0 k t262 t263 t264 bt265.1 bt265.2 true)))) = some r := H
  have A4 := zaa.mk A40
  clear A40
  replace H := Option.bind_eq_some_iff.mp H
  obtain ⟨⟨t265, t266⟩, A50, H⟩ := H
  replace H : (if (t264 != t266) = true then (laws_FnTermLeft.j0 k t262 t263 t264 t265 t266 true) else (if t263.toList = t265.toList then (laws_FnTermLeft.j0 k t262 t263 t264 t265 t266 (!t264)) else (laws_FnTermLeft.j0 k t262 t263 t264 t265 t266 true))) = some r := H
  have A5 := zaa.mk A50
  clear A50
  have HC6 := zaa.mk H
  clear H
  go_enter Try.func5, Try.ntmps5
  go_upto_region 6 with (first | ((with_reducible refine zal (f := 14) rfl ?_); refine zba (some 18) rfl rfl Try.func14 (by kernel_rfl) rfl #[.slice A0 l0.length c0] rfl (by (try simp only [List.map_toArray, List.map_cons, List.map_nil]); first | done | rfl | (simp only [List.length_drop, List.length_take]; rfl)) ?_; (with_reducible refine (spec_DrawTermLeft.calls k _ _ l0 t262 _ ?side1 ?side2 A3.out).mono ?_); (case side1 => repeat (first | exact HR0.out | (with_reducible refine Kd.C_alloc ?_ _) | (with_reducible refine Kd.C_drewN ?_ _) | (with_reducible refine Kd.C_drew ?_))); (case side2 => exact HC0.out); rintro e w7 ⟨rfl, hb⟩; refine ⟨_, rfl, ?_⟩; have n0_ := zaa.mk (zae (by repeat (first | (with_reducible first | exact HB.out | apply zab | apply zac | apply zad) | exact HB.out)) hb); clear HB; have HB := n0_; clear n0_; (try clear hb); (try clear hb2); (try clear hk); (try clear hi)) | ((with_reducible refine zal (f := 15) rfl ?_); refine zba (some 21) rfl rfl Try.func15 (by kernel_rfl) rfl #[.string t262] rfl (by (try simp only [List.map_toArray, List.map_cons, List.map_nil]); first | done | rfl | (simp only [List.length_drop, List.length_take]; rfl)) ?_; (with_reducible refine (impl_TermLeft.calls t262 t263 t264 _ A4.out).mono ?_); rintro e w8 ⟨rfl, hb⟩; refine ⟨_, rfl, ?_⟩; have n0_ := zaa.mk (zae (by repeat (first | (with_reducible first | exact HB.out | apply zab | apply zac | apply zad) | exact HB.out)) hb); clear HB; have HB := n0_; clear n0_; (try clear hb); (try clear hb2); (try clear hk); (try clear hi)) | ((with_reducible refine zal (f := 16) rfl ?_); refine zba (some 26) rfl rfl Try.func16 (by kernel_rfl) rfl #[.string t262] rfl (by (try simp only [List.map_toArray, List.map_cons, List.map_nil]); first | done | rfl | (simp only [List.length_drop, List.length_take]; rfl)) ?_; (with_reducible refine (spec_TermLeft.calls t262 t265 t266 _ A5.out).mono ?_); rintro e w9 ⟨rfl, hb⟩; refine ⟨_, rfl, ?_⟩; have n0_ := zaa.mk (zae (by repeat (first | (with_reducible first | exact HB.out | apply zab | apply zac | apply zad) | exact HB.out)) hb); clear HB; have HB := n0_; clear n0_; (try clear hb); (try clear hb2); (try clear hk); (try clear hi)))
  (try simp only [Act.put, List.setIfInBounds_toArray, List.set_cons_zero, List.set_cons_succ])
  go_cut [40] (fun v40 wc => ∃ (kq : Nat) (x40_5 : Bool), v40 = .bool x40_5 ∧ zaa (laws_FnTermLeft.j0 kq t262 t263 t264 t265 t266 x40_5 = some r) ∧ zaa (kq ≤ k) ∧ zaa (Below w.heap.size w wc))
  case first =>
   have H := HC6.out
   clear HC6
   by_cases c10 : (t264 != t266) = true
   ·rw [if_pos c10] at H
    have c10b0 : (t264 != t266) = true := c10
    (try (have c10b1 : decide (t264 = t266) = false := by simpa using c10))
    (try (have c10b2 : (t264 == t266) = false := by simpa using c10))
    (try (have c10b3 : ¬ (t264 = t266) := by simpa using c10))
    clear c10
    (first | rw [c10b0] | (simp only [zap, zaq]; rw [c10b0]) | skip)
    have H' := zaa.mk H
    clear H
    go_wp2
    go_meet
    case rel => exact ⟨_, (true), (by first | rfl | (simp; done) | (simp [*]; done)), H', ⟨by first | omega | exact Nat.le_refl _⟩, ⟨by repeat (first | (with_reducible first | exact HB.out | apply zab | apply zac | apply zad) | exact HB.out)⟩⟩
   ·rw [if_neg c10] at H
    have c10b0 : (t264 != t266) = false := by simpa using c10
    (try (have c10b1 : decide (t264 = t266) = true := by simpa using c10))
    (try (have c10b2 : (t264 == t266) = true := by simpa using c10))
    clear c10
    (first | rw [c10b0] | (simp only [zap, zaq]; rw [c10b0]) | skip)
    by_cases c11 : t263.toList = t265.toList
    ·rw [if_pos c11] at H
     have c11b0 : (t263.toList == t265.toList) = true := beq_iff_eq.mpr c11
     have c11b1 : (t263.toList != t265.toList) = false := bne_eq_false_iff_eq.mpr c11
     clear c11
     have H' := zaa.mk H
     clear H
     go_wp2
     go_meet
     case rel => exact ⟨_, (!t264), (by first | rfl | (simp; done) | (simp [*]; done)), H', ⟨by first | omega | exact Nat.le_refl _⟩, ⟨by repeat (first | (with_reducible first | exact HB.out | apply zab | apply zac | apply zad) | exact HB.out)⟩⟩
    ·rw [if_neg c11] at H
     have c11b0 : (t263.toList == t265.toList) = false := beq_eq_false_iff_ne.mpr c11
     have c11b1 : (t263.toList != t265.toList) = true := bne_iff_ne.mpr c11
     have H' := zaa.mk H
     clear H
     go_wp2
     go_meet
     case rel => exact ⟨_, (true), (by first | rfl | (simp; done) | (simp [*]; done)), H', ⟨by first | omega | exact Nat.le_refl _⟩, ⟨by repeat (first | (with_reducible first | exact HB.out | apply zab | apply zac | apply zad) | exact HB.out)⟩⟩
  case rest =>
   clear HC6
   try clear c1
   try clear c2
   try clear c2b0
   try clear c2b1
   try clear p2
   try clear c5
   try clear c10
   try clear c10b0
   try clear c10b1
   try clear c10b2
   try clear c11
   try clear c11b0
   try clear c11b1
   obtain ⟨kq, x40_5, rfl, HA, HJ5, HB⟩ := hcut
   cases kq with
   | zero => exact absurd HA.out (by simp [laws_FnTermLeft.j0])
   | succ kj5 =>
    have H := HA.out
    clear HA
    simp only [laws_FnTermLeft.j0] at H
    by_cases c12 : x40_5 = true
    ·subst c12
     have H1 : (if (t264 == t266) = true then (some (t263.toList == t265.toList)) else (some false)) = some r := by rw [if_pos rfl] at H; exact H
     clear H
     have H := H1
     clear H1
     by_cases c13 : (t264 == t266) = true
     ·rw [if_pos c13] at H
      have c13b0 : (t264 == t266) = true := c13
      (try (have c13b1 : decide (t264 = t266) = true := by simpa using c13))
      (try (have c13b2 : (t264 == t266) = true := by simpa using c13))
      clear c13
      obtain rfl := Option.some.inj H
      go_wp2
      go_ret
      exact ⟨by first | rfl | (simp [zan, zam] <;> rfl) | (simp [*, zan, zam] <;> rfl), by repeat (first | (with_reducible first | exact HB.out | apply zab | apply zac | apply zad) | exact HB.out)⟩
     ·rw [if_neg c13] at H
      have c13b0 : (t264 == t266) = false := by simpa using c13
      (try (have c13b1 : decide (t264 = t266) = false := by simpa using c13))
      (try (have c13b2 : (t264 == t266) = false := by simpa using c13))
      (try (have c13b3 : ¬ (t264 = t266) := by simpa using c13))
      clear c13
      obtain rfl := Option.some.inj H
      go_wp2
      go_ret
      exact ⟨by first | rfl | (simp [zan, zam] <;> rfl) | (simp [*, zan, zam] <;> rfl), by repeat (first | (with_reducible first | exact HB.out | apply zab | apply zac | apply zad) | exact HB.out)⟩
    ·replace c12 := Bool.eq_false_iff.mpr c12
     subst c12
     have H1 : ((impl_TermTidy.f t262).bind fun bt267 => ((impl_TermLeft.f bt267.1).bind fun bt269 => ((impl_TermLeft.f t263).bind fun bt271 => (if bt267.2 = true then (if bt269.2 = true then (if bt271.2 = true then (if bt269.1.toList = t263.toList then (if bt271.1.toList = t263.toList then (if (t263.size : Int) = (bt267.1.size : Int) then ((impl_TermSame.f kj5 t262 t263).bind fun t273 => (some t273)) else (some false)) else (some false)) else (some false)) else (some false)) else (some false)) else (some false))))) = some r := by rw [if_neg (show ¬ (false = true) by decide)] at H; exact H
     clear H
     have H := H1
     clear H1
     replace H := Option.bind_eq_some_iff.mp H
     obtain ⟨⟨t267, t268⟩, A140, H⟩ := H
     replace H : ((impl_TermLeft.f t267).bind fun bt269 => ((impl_TermLeft.f t263).bind fun bt271 => (if t268 = true then (if bt269.2 = true then (if bt271.2 = true then (if bt269.1.toList = t263.toList then (if bt271.1.toList = t263.toList then (if (t263.size : Int) = (t267.size : Int) then ((impl_TermSame.f kj5 t262 t263).bind fun t273 => (some t273)) else (some false)) else (some false)) else (some false)) else (some false)) else (some false)) else (some false)))) = some r := H
     have A14 := zaa.mk A140
     clear A140
     replace H := Option.bind_eq_some_iff.mp H
     obtain ⟨⟨t269, t270⟩, A150, H⟩ := H
     replace H : ((impl_TermLeft.f t263).bind fun bt271 => (if t268 = true then (if t270 = true then (if bt271.2 = true then (if t269.toList = t263.toList then (if bt271.1.toList = t263.toList then (if (t263.size : Int) = (t267.size : Int) then ((impl_TermSame.f kj5 t262 t263).bind fun t273 => (some t273)) else (some false)) else (some false)) else (some false)) else (some false)) else (some false)) else (some false))) = some r := H
     have A15 := zaa.mk A150
     clear A150
     replace H := Option.bind_eq_some_iff.mp H
     obtain ⟨⟨t271, t272⟩, A160, H⟩ := H
     replace H : (if t268 = true then (if t270 = true then (if t272 = true then (if t269.toList = t263.toList then (if t271.toList = t263.toList then (if (t263.size : Int) = (t267.size : Int) then ((impl_TermSame.f kj5 t262 t263).bind fun t273 => (some t273)) else (some false)) else (some false)) else (some false)) else (some false)) else (some false)) else (some false)) = some r := H
     have A16 := zaa.mk A160
     clear A160
     by_cases c17 : t268 = true
     ·subst c17
      have H1 : (if t270 = true then (if t272 = true then (if t269.toList = t263.toList then (if t271.toList = t263.toList then (if (t263.size : Int) = (t267.size : Int) then ((impl_TermSame.f kj5 t262 t263).bind fun t273 => (some t273)) else (some false)) else (some false)) else (some false)) else (some false)) else (some false)) = some r := by rw [if_pos rfl] at H; exact H
      clear H
      have H := H1
      clear H1
      by_cases c18 : t270 = true
      ·subst c18
       have H1 : (if t272 = true then (if t269.toList = t263.toList then (if t271.toList = t263.toList then (if (t263.size : Int) = (t267.size : Int) then ((impl_TermSame.f kj5 t262 t263).bind fun t273 => (some t273)) else (some false)) else (some false)) else (some false)) else (some false)) = some r := by rw [if_pos rfl] at H; exact H
       clear H
       have H := H1
       clear H1
       by_cases c19 : t272 = true
       ·subst c19
        have H1 : (if t269.toList = t263.toList then (if t271.toList = t263.toList then (if (t263.size : Int) = (t267.size : Int) then ((impl_TermSame.f kj5 t262 t263).bind fun t273 => (some t273)) else (some false)) else (some false)) else (some false)) = some r := by rw [if_pos rfl] at H; exact H
        clear H
        have H := H1
        clear H1
        by_cases c20 : t269.toList = t263.toList
        ·rw [if_pos c20] at H
         have c20b0 : (t269.toList == t263.toList) = true := beq_iff_eq.mpr c20
         have c20b1 : (t269.toList != t263.toList) = false := bne_eq_false_iff_eq.mpr c20
         clear c20
         by_cases c21 : t271.toList = t263.toList
         ·rw [if_pos c21] at H
          have c21b0 : (t271.toList == t263.toList) = true := beq_iff_eq.mpr c21
          have c21b1 : (t271.toList != t263.toList) = false := bne_eq_false_iff_eq.mpr c21
          clear c21
          by_cases c22 : (t263.size : Int) = (t267.size : Int)
          ·rw [if_pos c22] at H
           have c22b0 : ((t263.size : Int) == (t267.size : Int)) = true := beq_iff_eq.mpr c22
           have c22b1 : ((t263.size : Int) != (t267.size : Int)) = false := bne_eq_false_iff_eq.mpr c22
           have c22b2 : (t263.size == t267.size) = true := by first | simpa using c22 | (simp at c22 ⊢; omega)
           clear c22
           replace H := Option.bind_eq_some_iff.mp H
           obtain ⟨t273, A230, H⟩ := H
           replace H : (some t273) = some r := H
           have A23 := zaa.mk A230
           clear A230
           obtain rfl := Option.some.inj H
           go_wp2_with (first | ((with_reducible refine zal (f := 17) rfl ?_); refine zba (some 51) rfl rfl Try.func17 (by kernel_rfl) rfl #[.string t262] rfl (by (try simp only [List.map_toArray, List.map_cons, List.map_nil]); first | done | rfl | (simp only [List.length_drop, List.length_take]; rfl)) ?_; (with_reducible refine (impl_TermTidy.calls t262 t267 true _ A14.out).mono ?_); rintro e w24 ⟨rfl, hb⟩; refine ⟨_, rfl, ?_⟩; have n0_ := zaa.mk (zae (by repeat (first | (with_reducible first | exact HB.out | apply zab | apply zac | apply zad) | exact HB.out)) hb); clear HB; have HB := n0_; clear n0_; (try clear hb); (try clear hb2); (try clear hk); (try clear hi)) | ((with_reducible refine zal (f := 15) rfl ?_); refine zba (some 56) rfl rfl Try.func15 (by kernel_rfl) rfl #[.string t267] rfl (by (try simp only [List.map_toArray, List.map_cons, List.map_nil]); first | done | rfl | (simp only [List.length_drop, List.length_take]; rfl)) ?_; (with_reducible refine (impl_TermLeft.calls t267 t269 true _ A15.out).mono ?_); rintro e w25 ⟨rfl, hb⟩; refine ⟨_, rfl, ?_⟩; have n0_ := zaa.mk (zae (by repeat (first | (with_reducible first | exact HB.out | apply zab | apply zac | apply zad) | exact HB.out)) hb); clear HB; have HB := n0_; clear n0_; (try clear hb); (try clear hb2); (try clear hk); (try clear hi)) | ((with_reducible refine zal (f := 15) rfl ?_); refine zba (some 61) rfl rfl Try.func15 (by kernel_rfl) rfl #[.string t263] rfl (by (try simp only [List.map_toArray, List.map_cons, List.map_nil]); first | done | rfl | (simp only [List.length_drop, List.length_take]; rfl)) ?_; (with_reducible refine (impl_TermLeft.calls t263 t271 true _ A16.out).mono ?_); rintro e w26 ⟨rfl, hb⟩; refine ⟨_, rfl, ?_⟩; have n0_ := zaa.mk (zae (by repeat (first | (with_reducible first | exact HB.out | apply zab | apply zac | apply zad) | exact HB.out)) hb); clear HB; have HB := n0_; clear n0_; (try clear hb); (try clear hb2); (try clear hk); (try clear hi)) | (go_at_call 13; (with_reducible refine (impl_TermSame.calls kj5 t262 t263 t273 _ A23.out).mono ?_); rintro e w27 ⟨rfl, hb⟩; have n0_ := zaa.mk (zae (by repeat (first | (with_reducible first | exact HB.out | apply zab | apply zac | apply zad) | exact HB.out)) hb); clear HB; have HB := n0_; clear n0_; (try clear hb); (try clear hb2); (try clear hk); (try clear hi)))
           go_ret
           exact ⟨by first | rfl | (simp [zan, zam] <;> rfl) | (simp [*, zan, zam] <;> rfl), by repeat (first | (with_reducible first | exact HB.out | apply zab | apply zac | apply zad) | exact HB.out)⟩
          ·rw [if_neg c22] at H
           have c22b0 : ((t263.size : Int) == (t267.size : Int)) = false := beq_eq_false_iff_ne.mpr c22
           have c22b1 : ((t263.size : Int) != (t267.size : Int)) = true := bne_iff_ne.mpr c22
           have c22b2 : (t263.size == t267.size) = false := by first | simpa using c22 | (simp at c22 ⊢; omega)
           obtain rfl := Option.some.inj H
           go_wp2_with (first | ((with_reducible refine zal (f := 17) rfl ?_); refine zba (some 51) rfl rfl Try.func17 (by kernel_rfl) rfl #[.string t262] rfl (by (try simp only [List.map_toArray, List.map_cons, List.map_nil]); first | done | rfl | (simp only [List.length_drop, List.length_take]; rfl)) ?_; (with_reducible refine (impl_TermTidy.calls t262 t267 true _ A14.out).mono ?_); rintro e w28 ⟨rfl, hb⟩; refine ⟨_, rfl, ?_⟩; have n0_ := zaa.mk (zae (by repeat (first | (with_reducible first | exact HB.out | apply zab | apply zac | apply zad) | exact HB.out)) hb); clear HB; have HB := n0_; clear n0_; (try clear hb); (try clear hb2); (try clear hk); (try clear hi)) | ((with_reducible refine zal (f := 15) rfl ?_); refine zba (some 56) rfl rfl Try.func15 (by kernel_rfl) rfl #[.string t267] rfl (by (try simp only [List.map_toArray, List.map_cons, List.map_nil]); first | done | rfl | (simp only [List.length_drop, List.length_take]; rfl)) ?_; (with_reducible refine (impl_TermLeft.calls t267 t269 true _ A15.out).mono ?_); rintro e w29 ⟨rfl, hb⟩; refine ⟨_, rfl, ?_⟩; have n0_ := zaa.mk (zae (by repeat (first | (with_reducible first | exact HB.out | apply zab | apply zac | apply zad) | exact HB.out)) hb); clear HB; have HB := n0_; clear n0_; (try clear hb); (try clear hb2); (try clear hk); (try clear hi)) | ((with_reducible refine zal (f := 15) rfl ?_); refine zba (some 61) rfl rfl Try.func15 (by kernel_rfl) rfl #[.string t263] rfl (by (try simp only [List.map_toArray, List.map_cons, List.map_nil]); first | done | rfl | (simp only [List.length_drop, List.length_take]; rfl)) ?_; (with_reducible refine (impl_TermLeft.calls t263 t271 true _ A16.out).mono ?_); rintro e w30 ⟨rfl, hb⟩; refine ⟨_, rfl, ?_⟩; have n0_ := zaa.mk (zae (by repeat (first | (with_reducible first | exact HB.out | apply zab | apply zac | apply zad) | exact HB.out)) hb); clear HB; have HB := n0_; clear n0_; (try clear hb); (try clear hb2); (try clear hk); (try clear hi)))
           go_ret
           exact ⟨by first | rfl | (simp [zan, zam] <;> rfl) | (simp [*, zan, zam] <;> rfl), by repeat (first | (with_reducible first | exact HB.out | apply zab | apply zac | apply zad) | exact HB.out)⟩
         ·rw [if_neg c21] at H
          have c21b0 : (t271.toList == t263.toList) = false := beq_eq_false_iff_ne.mpr c21
          have c21b1 : (t271.toList != t263.toList) = true := bne_iff_ne.mpr c21
          obtain rfl := Option.some.inj H
          go_wp2_with (first | ((with_reducible refine zal (f := 17) rfl ?_); refine zba (some 51) rfl rfl Try.func17 (by kernel_rfl) rfl #[.string t262] rfl (by (try simp only [List.map_toArray, List.map_cons, List.map_nil]); first | done | rfl | (simp only [List.length_drop, List.length_take]; rfl)) ?_; (with_reducible refine (impl_TermTidy.calls t262 t267 true _ A14.out).mono ?_); rintro e w31 ⟨rfl, hb⟩; refine ⟨_, rfl, ?_⟩; have n0_ := zaa.mk (zae (by repeat (first | (with_reducible first | exact HB.out | apply zab | apply zac | apply zad) | exact HB.out)) hb); clear HB; have HB := n0_; clear n0_; (try clear hb); (try clear hb2); (try clear hk); (try clear hi)) | ((with_reducible refine zal (f := 15) rfl ?_); refine zba (some 56) rfl rfl Try.func15 (by kernel_rfl) rfl #[.string t267] rfl (by (try simp only [List.map_toArray, List.map_cons, List.map_nil]); first | done | rfl | (simp only [List.length_drop, List.length_take]; rfl)) ?_; (with_reducible refine (impl_TermLeft.calls t267 t269 true _ A15.out).mono ?_); rintro e w32 ⟨rfl, hb⟩; refine ⟨_, rfl, ?_⟩; have n0_ := zaa.mk (zae (by repeat (first | (with_reducible first | exact HB.out | apply zab | apply zac | apply zad) | exact HB.out)) hb); clear HB; have HB := n0_; clear n0_; (try clear hb); (try clear hb2); (try clear hk); (try clear hi)) | ((with_reducible refine zal (f := 15) rfl ?_); refine zba (some 61) rfl rfl Try.func15 (by kernel_rfl) rfl #[.string t263] rfl (by (try simp only [List.map_toArray, List.map_cons, List.map_nil]); first | done | rfl | (simp only [List.length_drop, List.length_take]; rfl)) ?_; (with_reducible refine (impl_TermLeft.calls t263 t271 true _ A16.out).mono ?_); rintro e w33 ⟨rfl, hb⟩; refine ⟨_, rfl, ?_⟩; have n0_ := zaa.mk (zae (by repeat (first | (with_reducible first | exact HB.out | apply zab | apply zac | apply zad) | exact HB.out)) hb); clear HB; have HB := n0_; clear n0_; (try clear hb); (try clear hb2); (try clear hk); (try clear hi)))
          go_ret
          exact ⟨by first | rfl | (simp [zan, zam] <;> rfl) | (simp [*, zan, zam] <;> rfl), by repeat (first | (with_reducible first | exact HB.out | apply zab | apply zac | apply zad) | exact HB.out)⟩
        ·rw [if_neg c20] at H
         have c20b0 : (t269.toList == t263.toList) = false := beq_eq_false_iff_ne.mpr c20
         have c20b1 : (t269.toList != t263.toList) = true := bne_iff_ne.mpr c20
         obtain rfl := Option.some.inj H
         go_wp2_with (first | ((with_reducible refine zal (f := 17) rfl ?_); refine zba (some 51) rfl rfl Try.func17 (by kernel_rfl) rfl #[.string t262] rfl (by (try simp only [List.map_toArray, List.map_cons, List.map_nil]); first | done | rfl | (simp only [List.length_drop, List.length_take]; rfl)) ?_; (with_reducible refine (impl_TermTidy.calls t262 t267 true _ A14.out).mono ?_); rintro e w34 ⟨rfl, hb⟩; refine ⟨_, rfl, ?_⟩; have n0_ := zaa.mk (zae (by repeat (first | (with_reducible first | exact HB.out | apply zab | apply zac | apply zad) | exact HB.out)) hb); clear HB; have HB := n0_; clear n0_; (try clear hb); (try clear hb2); (try clear hk); (try clear hi)) | ((with_reducible refine zal (f := 15) rfl ?_); refine zba (some 56) rfl rfl Try.func15 (by kernel_rfl) rfl #[.string t267] rfl (by (try simp only [List.map_toArray, List.map_cons, List.map_nil]); first | done | rfl | (simp only [List.length_drop, List.length_take]; rfl)) ?_; (with_reducible refine (impl_TermLeft.calls t267 t269 true _ A15.out).mono ?_); rintro e w35 ⟨rfl, hb⟩; refine ⟨_, rfl, ?_⟩; have n0_ := zaa.mk (zae (by repeat (first | (with_reducible first | exact HB.out | apply zab | apply zac | apply zad) | exact HB.out)) hb); clear HB; have HB := n0_; clear n0_; (try clear hb); (try clear hb2); (try clear hk); (try clear hi)) | ((with_reducible refine zal (f := 15) rfl ?_); refine zba (some 61) rfl rfl Try.func15 (by kernel_rfl) rfl #[.string t263] rfl (by (try simp only [List.map_toArray, List.map_cons, List.map_nil]); first | done | rfl | (simp only [List.length_drop, List.length_take]; rfl)) ?_; (with_reducible refine (impl_TermLeft.calls t263 t271 true _ A16.out).mono ?_); rintro e w36 ⟨rfl, hb⟩; refine ⟨_, rfl, ?_⟩; have n0_ := zaa.mk (zae (by repeat (first | (with_reducible first | exact HB.out | apply zab | apply zac | apply zad) | exact HB.out)) hb); clear HB; have HB := n0_; clear n0_; (try clear hb); (try clear hb2); (try clear hk); (try clear hi)))
         go_ret
         exact ⟨by first | rfl | (simp [zan, zam] <;> rfl) | (simp [*, zan, zam] <;> rfl), by repeat (first | (with_reducible first | exact HB.out | apply zab | apply zac | apply zad) | exact HB.out)⟩
       ·replace c19 := Bool.eq_false_iff.mpr c19
        subst c19
        have H1 : (some false) = some r := by rw [if_neg (show ¬ (false = true) by decide)] at H; exact H
        clear H
        have H := H1
        clear H1
        obtain rfl := Option.some.inj H
        go_wp2_with (first | ((with_reducible refine zal (f := 17) rfl ?_); refine zba (some 51) rfl rfl Try.func17 (by kernel_rfl) rfl #[.string t262] rfl (by (try simp only [List.map_toArray, List.map_cons, List.map_nil]); first | done | rfl | (simp only [List.length_drop, List.length_take]; rfl)) ?_; (with_reducible refine (impl_TermTidy.calls t262 t267 true _ A14.out).mono ?_); rintro e w37 ⟨rfl, hb⟩; refine ⟨_, rfl, ?_⟩; have n0_ := zaa.mk (zae (by repeat (first | (with_reducible first | exact HB.out | apply zab | apply zac | apply zad) | exact HB.out)) hb); clear HB; have HB := n0_; clear n0_; (try clear hb); (try clear hb2); (try clear hk); (try clear hi)) | ((with_reducible refine zal (f := 15) rfl ?_); refine zba (some 56) rfl rfl Try.func15 (by kernel_rfl) rfl #[.string t267] rfl (by (try simp only [List.map_toArray, List.map_cons, List.map_nil]); first | done | rfl | (simp only [List.length_drop, List.length_take]; rfl)) ?_; (with_reducible refine (impl_TermLeft.calls t267 t269 true _ A15.out).mono ?_); rintro e w38 ⟨rfl, hb⟩; refine ⟨_, rfl, ?_⟩; have n0_ := zaa.mk (zae (by repeat (first | (with_reducible first | exact HB.out | apply zab | apply zac | apply zad) | exact HB.out)) hb); clear HB; have HB := n0_; clear n0_; (try clear hb); (try clear hb2); (try clear hk); (try clear hi)) | ((with_reducible refine zal (f := 15) rfl ?_); refine zba (some 61) rfl rfl Try.func15 (by kernel_rfl) rfl #[.string t263] rfl (by (try simp only [List.map_toArray, List.map_cons, List.map_nil]); first | done | rfl | (simp only [List.length_drop, List.length_take]; rfl)) ?_; (with_reducible refine (impl_TermLeft.calls t263 t271 false _ A16.out).mono ?_); rintro e w39 ⟨rfl, hb⟩; refine ⟨_, rfl, ?_⟩; have n0_ := zaa.mk (zae (by repeat (first | (with_reducible first | exact HB.out | apply zab | apply zac | apply zad) | exact HB.out)) hb); clear HB; have HB := n0_; clear n0_; (try clear hb); (try clear hb2); (try clear hk); (try clear hi)))
        go_ret
        exact ⟨by first | rfl | (simp [zan, zam] <;> rfl) | (simp [*, zan, zam] <;> rfl), by repeat (first | (with_reducible first | exact HB.out | apply zab | apply zac | apply zad) | exact HB.out)⟩
      ·replace c18 := Bool.eq_false_iff.mpr c18
       subst c18
       have H1 : (some false) = some r := by rw [if_neg (show ¬ (false = true) by decide)] at H; exact H
       clear H
       have H := H1
       clear H1
       obtain rfl := Option.some.inj H
       go_wp2_with (first | ((with_reducible refine zal (f := 17) rfl ?_); refine zba (some 51) rfl rfl Try.func17 (by kernel_rfl) rfl #[.string t262] rfl (by (try simp only [List.map_toArray, List.map_cons, List.map_nil]); first | done | rfl | (simp only [List.length_drop, List.length_take]; rfl)) ?_; (with_reducible refine (impl_TermTidy.calls t262 t267 true _ A14.out).mono ?_); rintro e w40 ⟨rfl, hb⟩; refine ⟨_, rfl, ?_⟩; have n0_ := zaa.mk (zae (by repeat (first | (with_reducible first | exact HB.out | apply zab | apply zac | apply zad) | exact HB.out)) hb); clear HB; have HB := n0_; clear n0_; (try clear hb); (try clear hb2); (try clear hk); (try clear hi)) | ((with_reducible refine zal (f := 15) rfl ?_); refine zba (some 56) rfl rfl Try.func15 (by kernel_rfl) rfl #[.string t267] rfl (by (try simp only [List.map_toArray, List.map_cons, List.map_nil]); first | done | rfl | (simp only [List.length_drop, List.length_take]; rfl)) ?_; (with_reducible refine (impl_TermLeft.calls t267 t269 false _ A15.out).mono ?_); rintro e w41 ⟨rfl, hb⟩; refine ⟨_, rfl, ?_⟩; have n0_ := zaa.mk (zae (by repeat (first | (with_reducible first | exact HB.out | apply zab | apply zac | apply zad) | exact HB.out)) hb); clear HB; have HB := n0_; clear n0_; (try clear hb); (try clear hb2); (try clear hk); (try clear hi)) | ((with_reducible refine zal (f := 15) rfl ?_); refine zba (some 61) rfl rfl Try.func15 (by kernel_rfl) rfl #[.string t263] rfl (by (try simp only [List.map_toArray, List.map_cons, List.map_nil]); first | done | rfl | (simp only [List.length_drop, List.length_take]; rfl)) ?_; (with_reducible refine (impl_TermLeft.calls t263 t271 t272 _ A16.out).mono ?_); rintro e w42 ⟨rfl, hb⟩; refine ⟨_, rfl, ?_⟩; have n0_ := zaa.mk (zae (by repeat (first | (with_reducible first | exact HB.out | apply zab | apply zac | apply zad) | exact HB.out)) hb); clear HB; have HB := n0_; clear n0_; (try clear hb); (try clear hb2); (try clear hk); (try clear hi)))
       go_ret
       exact ⟨by first | rfl | (simp [zan, zam] <;> rfl) | (simp [*, zan, zam] <;> rfl), by repeat (first | (with_reducible first | exact HB.out | apply zab | apply zac | apply zad) | exact HB.out)⟩
     ·replace c17 := Bool.eq_false_iff.mpr c17
      subst c17
      have H1 : (some false) = some r := by rw [if_neg (show ¬ (false = true) by decide)] at H; exact H
      clear H
      have H := H1
      clear H1
      obtain rfl := Option.some.inj H
      go_wp2_with (first | ((with_reducible refine zal (f := 17) rfl ?_); refine zba (some 51) rfl rfl Try.func17 (by kernel_rfl) rfl #[.string t262] rfl (by (try simp only [List.map_toArray, List.map_cons, List.map_nil]); first | done | rfl | (simp only [List.length_drop, List.length_take]; rfl)) ?_; (with_reducible refine (impl_TermTidy.calls t262 t267 false _ A14.out).mono ?_); rintro e w43 ⟨rfl, hb⟩; refine ⟨_, rfl, ?_⟩; have n0_ := zaa.mk (zae (by repeat (first | (with_reducible first | exact HB.out | apply zab | apply zac | apply zad) | exact HB.out)) hb); clear HB; have HB := n0_; clear n0_; (try clear hb); (try clear hb2); (try clear hk); (try clear hi)) | ((with_reducible refine zal (f := 15) rfl ?_); refine zba (some 56) rfl rfl Try.func15 (by kernel_rfl) rfl #[.string t267] rfl (by (try simp only [List.map_toArray, List.map_cons, List.map_nil]); first | done | rfl | (simp only [List.length_drop, List.length_take]; rfl)) ?_; (with_reducible refine (impl_TermLeft.calls t267 t269 t270 _ A15.out).mono ?_); rintro e w44 ⟨rfl, hb⟩; refine ⟨_, rfl, ?_⟩; have n0_ := zaa.mk (zae (by repeat (first | (with_reducible first | exact HB.out | apply zab | apply zac | apply zad) | exact HB.out)) hb); clear HB; have HB := n0_; clear n0_; (try clear hb); (try clear hb2); (try clear hk); (try clear hi)) | ((with_reducible refine zal (f := 15) rfl ?_); refine zba (some 61) rfl rfl Try.func15 (by kernel_rfl) rfl #[.string t263] rfl (by (try simp only [List.map_toArray, List.map_cons, List.map_nil]); first | done | rfl | (simp only [List.length_drop, List.length_take]; rfl)) ?_; (with_reducible refine (impl_TermLeft.calls t263 t271 t272 _ A16.out).mono ?_); rintro e w45 ⟨rfl, hb⟩; refine ⟨_, rfl, ?_⟩; have n0_ := zaa.mk (zae (by repeat (first | (with_reducible first | exact HB.out | apply zab | apply zac | apply zad) | exact HB.out)) hb); clear HB; have HB := n0_; clear n0_; (try clear hb); (try clear hb2); (try clear hk); (try clear hi)))
      go_ret
      exact ⟨by first | rfl | (simp [zan, zam] <;> rfl) | (simp [*, zan, zam] <;> rfl), by repeat (first | (with_reducible first | exact HB.out | apply zab | apply zac | apply zad) | exact HB.out)⟩
def laws_FnTermLeft.Pure : Prop := ∀ (l0 : List Int), l0.length ≤ maxLen → l0.length * 1 ≤ 140737488351232 → (∀ x ∈ l0, (Lit.int .u8 x).wf = true) → ∃ k, laws_FnTermLeft.f k l0 = some true
theorem laws_FnTermLeft.walk (P : laws_FnTermLeft.Pure) (a0 : Option Addr) (len0 cap0 : Nat) (z0 : List Int) (w : World) (w0 : (a0 = none ∧ len0 = 0 ∧ cap0 = 0 ∧ z0 = []) ∨ ∃ x, a0 = some x ∧ len0 ≤ cap0 ∧ cap0 ≤ maxLen ∧ z0.length = cap0 ∧ (∀ i, i < z0.length → w.cell? (x.add i) = some (.int .u8 (z0.getD i 0))) ∧ ∀ n ∈ z0, (Lit.int .u8 n).wf = true) (y0 : len0 * 1 ≤ 140737488351232) :
  Calls Try.prog 5 #[.slice a0 len0 cap0] w fun e w' => e = .returned (.bool true) ∧ Below w.heap.size w w' := by
 obtain ⟨l0, rfl, hr0, hm0, hw0, hc0⟩ := zbj.ofRowC w0
 obtain ⟨k, h⟩ := P l0 hm0 y0 hw0
 refine (laws_FnTermLeft.calls k _ _ l0 true w (Kd.C_of_reads (d := (0 : Int)) (h1 := fun _ => rfl) hr0) hc0 h).mono ?_
 rintro e w' ⟨rfl, hd⟩
 exact ⟨rfl, hd⟩
end Go.Proofs.Ytgiidlebnjbgeaa.TL
namespace Go.Proofs.Ytgiidlebnjbgeaa.Hd
open Go.RowKit Go.PW.PrintWords Go.PW.PrintLast Go.PW.PrintMore Go.Proofs.Ytgiidlebnjbgeaa.PB
theorem wrapT_succ {i : Nat} (h : i ≤ 1048576) : wrap64 ((i : Int) + 1) = ((i + 1 : Nat) : Int) := by rw [wrapT (by omega) (by omega)]; omega
theorem rdT_at {p : List Int} {i : Nat} {s : Int} (h : p[i]? = some s) : rd p (i : Int) = s := by
 unfold rd; rw [Int.toNat_natCast, List.getD_eq_getElem?_getD, h]; rfl
theorem equalT_ev (a b : List Int) (ha : a.length ≤ 100) : Evs (fun k => slices_Equal_int_int.f k a b) (decide (a = b)) := by
 have key : ∀ m i, i + m = a.length → a.length = b.length → a.take i = b.take i → Evs (fun k => slices_Equal_int_int.l0 k a b (a.length : Int) (i : Int)) (decide (a = b)) := by
  intro m
  induction m with
  | zero =>
   intro i hi hl ht
   refine Evs.stepNeg (fun k => by conv => lhs; unfold slices_Equal_int_int.l0) (by omega) ?_
   have : a = b := by
    rw [List.take_of_length_le (by omega), List.take_of_length_le (by omega)] at ht
    exact ht
   rw [decide_eq_true this]
   exact Evs.const _
  | succ m ih =>
   intro i hi hl ht
   refine Evs.stepPos (fun k => by conv => lhs; unfold slices_Equal_int_int.l0) (by omega) (Evs.pos (by omega) (Evs.pos (by omega) (Evs.pos (by omega) ?_)))
   have ha' : a[i]? = some a[i] := List.getElem?_eq_getElem (by omega)
   have hb' : b[i]? = some b[i] := List.getElem?_eq_getElem (by omega)
   rw [rdT_at ha', rdT_at hb']
   by_cases e : a[i] = b[i]
   ·refine Evs.pos e ?_
    rw [wrapT_succ (by omega)]
    refine ih (i + 1) (by omega) hl ?_
    rw [List.take_add_one, List.take_add_one, ha', hb', ht, e]
   ·refine Evs.neg e ?_
    have : ¬ a = b := fun z => e (by subst z; rfl)
    rw [decide_eq_false this]
    exact Evs.const _
 by_cases hl : a.length = b.length
 ·refine Evs.congr (h := fun k => slices_Equal_int_int.l0 k a b (a.length : Int) 0) (fun k => ?_) (key a.length 0 (by omega) hl rfl)
  unfold slices_Equal_int_int.f
  rw [if_pos (by omega)]
 ·rw [decide_eq_false (fun z => hl (by rw [z]))]
  refine Evs.congr (h := fun _ => some false) (fun k => ?_) (Evs.const _)
  unfold slices_Equal_int_int.f
  rw [if_neg (by omega)]
def termSameF (s t : ByteArray) : Bool := (zbg s).2 && ((zbg t).2 && decide ((zbg s).1 = (zbg t).1))
theorem termPermF_lenT (s : ByteArray) : (zbg s).1.length ≤ 60 := by
 unfold zbg
 cases h : ofR s with
 | none => simp
 | some t =>
  have := ofR_nodes h
  have := zcn t
  have := zcd (tid t)
  show (zbf (tid t)).length ≤ 60
  omega
theorem rdOfT_get (p : List ByteArray) (i : Nat) (h : i < p.length) : rdOf ByteArray.empty p (i : Int) = p[i] := by
 unfold rdOf
 rw [Int.toNat_natCast, List.getD_eq_getElem?_getD, List.getElem?_eq_getElem h]
 rfl
theorem xor_nonneg {a b : Int} (ha : 0 ≤ a) (hb : 0 ≤ b) (ha' : a < 1099511627776) (hb' : b < 1099511627776) : 0 ≤ Go.bits .xor .i64 a b := by
 obtain ⟨x, rfl⟩ := Int.eq_ofNat_of_zero_le ha
 obtain ⟨y, rfl⟩ := Int.eq_ofNat_of_zero_le hb
 have hx : x < 2 ^ 40 := by omega
 have hy : y < 2 ^ 40 := by omega
 have h := Nat.xor_lt_two_pow hx hy
 simp only [Go.bits, BitVec.ofInt_natCast, BitVec.toNat_xor, BitVec.toNat_ofNat]
 rw [Nat.mod_eq_of_lt (show x < 2 ^ IntKind.i64.bits by show x < 2 ^ 64; omega), Nat.mod_eq_of_lt (show y < 2 ^ IntKind.i64.bits by show y < 2 ^ 64; omega), IntKind.wrap_i64]
 omega
theorem tmod_inT {x n : Int} (hx : 0 ≤ x) (hn : 1 ≤ n) : 0 ≤ Int.tmod x n ∧ Int.tmod x n < n := ⟨Int.tmod_nonneg _ hx, Int.tmod_lt_of_pos _ (by omega)⟩
structure RdBT (b : List Int) : Prop where
 len : b.length ≤ 2000
 val : ∀ x ∈ b, 0 ≤ x ∧ x ≤ 255
theorem RdBT.byte {b : List Int} (h : RdBT b) (i : Int) : 0 ≤ rd b i ∧ rd b i ≤ 255 := by
 unfold rd
 rw [List.getD_eq_getElem?_getD]
 cases e : b[i.toNat]? with
 | none => simp
 | some x => exact h.val x (List.mem_of_getElem? e)
theorem pick_j0_trueT (b : List Int) (q n : Int) : Evs (fun k => spec_l6Rd_pick.j0 k n true b q) (0, q) := by
 refine Evs.step (h := fun _ => some (0, q)) (fun k => ?_) (Evs.const _)
 show spec_l6Rd_pick.j0 (k + 1) n true b q = _
 simp only [spec_l6Rd_pick.j0, if_true]
theorem pick_evT (b : List Int) (h : RdBT b) (q : Nat) (hq : q ≤ 1000000) (n : Int) : ∃ v, Evs (fun k => spec_l6Rd_pick.f k b (q : Int) n) (v, ((q + 1 : Nat) : Int)) ∧ 0 ≤ v ∧ (1 ≤ n → v < n) ∧ (n < 1 → v = 0) := by
 have hw : wrap64 ((q : Int) + 1) = ((q + 1 : Nat) : Int) := by rw [wrapT (by omega) (by omega)]; omega
 by_cases hn : n < 1
 ·refine ⟨0, ?_, Int.le_refl _, fun h => by omega, fun _ => rfl⟩
  refine Evs.congr (fun k => ?_) (pick_j0_trueT b ((q + 1 : Nat) : Int) n)
  unfold spec_l6Rd_pick.f
  rw [if_pos hn, hw]
 ·by_cases hl : b.length = 0
  ·refine ⟨0, ?_, Int.le_refl _, fun h => by omega, fun h => absurd h hn⟩
   refine Evs.congr (fun k => ?_) (pick_j0_trueT b ((q + 1 : Nat) : Int) n)
   unfold spec_l6Rd_pick.f
   rw [if_neg hn, hw, show ((b.length : Int) == 0) = true by rw [beq_iff_eq]; omega]
  ·have hlen := h.len
   have e1 : wrap64 (((q + 1 : Nat) : Int) - 1) = (q : Int) := by rw [wrapT (by omega) (by omega)]; omega
   have main : ∃ v, (∀ k, spec_l6Rd_pick.j0 (k + 1) n false b ((q + 1 : Nat) : Int) = some (v, ((q + 1 : Nat) : Int))) ∧ 0 ≤ v ∧ v < n := by
    by_cases hql : (q : Int) < (b.length : Int)
    ·have hr := h.byte (q : Int)
     obtain ⟨t0, t1⟩ := tmod_inT (x := rd b (q : Int)) (n := n) hr.1 (by omega)
     refine ⟨Int.tmod (rd b (q : Int)) n, fun k => ?_, t0, t1⟩
     simp only [spec_l6Rd_pick.j0, Bool.false_eq_true, if_false]
     rw [e1, if_pos hql, if_pos (by omega), if_neg (by omega), wrapT (x := rd b (q : Int)) (by omega) (by omega)]
    ·have i1 := tmod_inT (x := (q : Int)) (n := (b.length : Int)) (by omega) (by omega)
     have e2 : wrap64 (wrap64 ((q : Int) * 7) + 3) = (q : Int) * 7 + 3 := by rw [wrapT (x := (q : Int) * 7) (by omega) (by omega), wrapT (by omega) (by omega)]
     have i2 := tmod_inT (x := (q : Int) * 7 + 3) (n := (b.length : Int)) (by omega) (by omega)
     have r1 := h.byte (Int.tmod (q : Int) (b.length : Int))
     have r2 := h.byte (Int.tmod ((q : Int) * 7 + 3) (b.length : Int))
     have d1 : 0 ≤ Int.tdiv (q : Int) (b.length : Int) ∧ Int.tdiv (q : Int) (b.length : Int) ≤ 1000000 := by
      rw [Int.tdiv_eq_ediv_of_nonneg (by omega)]
      refine ⟨Int.ediv_nonneg (by omega) (by omega), Int.le_trans (Int.ediv_le_self _ (by omega)) (by omega)⟩
     have key : ∃ v, (∀ k, spec_l6Rd_pick.j0 (k + 1) n false b ((q + 1 : Nat) : Int) = some (v, ((q + 1 : Nat) : Int))) ∧ 0 ≤ v ∧ v < n := by
      have hform : ∀ k, spec_l6Rd_pick.j0 (k + 1) n false b ((q + 1 : Nat) : Int) = some (Int.tmod (Go.bits .xor .i64 (rd b (Int.tmod (q : Int) (b.length : Int)) * 131 + rd b (Int.tmod ((q : Int) * 7 + 3) (b.length : Int)) * 1117 + (q : Int) * 29 + Int.tdiv (q : Int) (b.length : Int) * 53) (wrap64 (Int.tdiv (rd b (Int.tmod (q : Int) (b.length : Int)) * 131 + rd b (Int.tmod ((q : Int) * 7 + 3) (b.length : Int)) * 1117 + (q : Int) * 29 + Int.tdiv (q : Int) (b.length : Int) * 53) 64))) n, ((q + 1 : Nat) : Int)) := fun k => by
       simp only [spec_l6Rd_pick.j0, Bool.false_eq_true, if_false]
       rw [e1, if_neg hql, if_neg (by omega), if_pos i1.1, if_pos i1.2, e2, if_pos i2.1, if_pos i2.2, if_neg (by omega)]
       generalize rd b (Int.tmod (q : Int) (b.length : Int)) = a at *
       generalize rd b (Int.tmod ((q : Int) * 7 + 3) (b.length : Int)) = c at *
       generalize Int.tdiv (q : Int) (b.length : Int) = d at *
       rw [wrapT (x := a) (by omega) (by omega), wrapT (x := a * 131) (by omega) (by omega), wrapT (x := c) (by omega) (by omega), wrapT (x := c * 1117) (by omega) (by omega), wrapT (x := a * 131 + c * 1117) (by omega) (by omega), wrapT (x := (q : Int) * 29) (by omega) (by omega), wrapT (x := a * 131 + c * 1117 + (q : Int) * 29) (by omega) (by omega), wrapT (x := d) (by omega) (by omega), wrapT (x := d * 53) (by omega) (by omega), wrapT (x := a * 131 + c * 1117 + (q : Int) * 29 + d * 53) (by omega) (by omega)]
      have hX : 0 ≤ rd b (Int.tmod (q : Int) (b.length : Int)) * 131 + rd b (Int.tmod ((q : Int) * 7 + 3) (b.length : Int)) * 1117 + (q : Int) * 29 + Int.tdiv (q : Int) (b.length : Int) * 53 ∧ rd b (Int.tmod (q : Int) (b.length : Int)) * 131 + rd b (Int.tmod ((q : Int) * 7 + 3) (b.length : Int)) * 1117 + (q : Int) * 29 + Int.tdiv (q : Int) (b.length : Int) * 53 < 1099511627776 := by omega
      generalize rd b (Int.tmod (q : Int) (b.length : Int)) * 131 + rd b (Int.tmod ((q : Int) * 7 + 3) (b.length : Int)) * 1117 + (q : Int) * 29 + Int.tdiv (q : Int) (b.length : Int) * 53 = X at *
      have hd : 0 ≤ Int.tdiv X 64 ∧ Int.tdiv X 64 ≤ X := by
       rw [Int.tdiv_eq_ediv_of_nonneg hX.1]
       exact ⟨Int.ediv_nonneg hX.1 (by omega), Int.ediv_le_self _ hX.1⟩
      rw [wrapT (x := Int.tdiv X 64) (by omega) (by omega)] at hform
      obtain ⟨t0, t1⟩ := tmod_inT (n := n) (xor_nonneg hX.1 hd.1 hX.2 (by omega)) (by omega)
      exact ⟨_, hform, t0, t1⟩
     exact key
   obtain ⟨v, hv, v0, v1⟩ := main
   refine ⟨v, ?_, v0, fun _ => v1, fun h => absurd h hn⟩
   refine Evs.congr (h := fun k => spec_l6Rd_pick.j0 k n false b ((q + 1 : Nat) : Int)) (fun k => ?_) (Evs.step (h := fun _ => some (v, ((q + 1 : Nat) : Int))) hv (Evs.const _))
   unfold spec_l6Rd_pick.f
   rw [if_neg hn, hw, show ((b.length : Int) == 0) = false by rw [beq_eq_false_iff_ne]; omega]
theorem of_evT (b : List Int) (h : RdBT b) (q : Nat) (hq : q ≤ 1000000) (L : List ByteArray) (hL : 1 ≤ L.length) : ∃ s, Evs (fun k => spec_l6Rd_of.f k b (q : Int) L) (s, ((q + 1 : Nat) : Int)) ∧ s ∈ L := by
 obtain ⟨v, hv, v0, v1, -⟩ := pick_evT b h q hq (L.length : Int)
 have hv1 := v1 (by omega)
 obtain ⟨i, rfl⟩ := Int.eq_ofNat_of_zero_le v0
 refine ⟨rdOf ByteArray.empty L (i : Int), Evs.bind hv (Evs.pos (by omega) (Evs.pos hv1 (Evs.const _))), ?_⟩
 rw [rdOfT_get L i (by omega)]
 exact List.getElem_mem _
theorem open_evT (l : List Int) (hv : ∀ x ∈ l, 0 ≤ x ∧ x ≤ 255) : ∃ b, spec_l6Open.f l = some (b, 0) ∧ RdBT b := by
 unfold spec_l6Open.f
 by_cases h : (l.length : Int) > 2000
 ·rw [if_pos h, if_pos (by omega)]
  exact ⟨_, rfl, by simp; omega, fun x hx => hv x (List.mem_of_mem_take hx)⟩
 ·rw [if_neg h]
  exact ⟨_, rfl, by omega, hv⟩
theorem termJ_evT (b : List Int) (h : RdBT b) (q : Nat) (hq : q ≤ 900000) (x : ByteArray) (hx : x.size ≤ 1000) : ∃ s q', Evs (fun k => spec_l92Term.j0 k x b (q : Int)) (s, ((q' : Nat) : Int)) ∧ q' ≤ q + 2 ∧ s.size ≤ x.size + 2 := by
 obtain ⟨v, hv, v0, v1, -⟩ := pick_evT b h q (by omega) 6
 by_cases e : v = 0
 ·obtain ⟨u, hu, hm⟩ := of_evT b h (q + 1) (by omega) [(⟨#[62]⟩ : ByteArray), (⟨#[94]⟩ : ByteArray), (⟨#[62, 62]⟩ : ByteArray), (⟨#[94, 62]⟩ : ByteArray)] (by simp)
  have hs : u.size ≤ 2 := by
   simp only [List.mem_cons, List.not_mem_nil, or_false] at hm
   rcases hm with rfl | rfl | rfl | rfl <;> decide
  refine ⟨u ++ x, q + 1 + 1, Evs.step (fun k => by conv => lhs; unfold spec_l92Term.j0) (Evs.bind hv (Evs.pos e (Evs.bind hu (Evs.pos ?_ (Evs.const _))))), by omega, ?_⟩
  ·show u.size + x.size ≤ _
   omega
  ·rw [ByteArray.size_append]
   omega
 ·exact ⟨x, q + 1, Evs.step (fun k => by conv => lhs; unfold spec_l92Term.j0) (Evs.bind hv (Evs.neg e (Evs.const _))), by omega, by omega⟩
theorem term_evT (b : List Int) (h : RdBT b) : ∀ n m : Nat, m ≤ n → 1 ≤ m → m ≤ 100 → ∀ q : Nat, q + 6 * m ≤ 100000 → ∃ s q', Evs (fun k => spec_l92Term.f k b (q : Int) (m : Int)) (s, ((q' : Nat) : Int)) ∧ q' + 4 ≤ q + 6 * m ∧ s.size + 5 ≤ 8 * m
 | 0, m, hn, h1, _, _, _ => by omega
 | n + 1, m, hn, h1, hm, q, hq => by
  by_cases hm1 : m = 1
  ·subst hm1
   obtain ⟨s, q', hs, h2, h3⟩ := termJ_evT b h q (by omega) ⟨#[111]⟩ (by decide)
   have e : (ByteArray.mk #[111]).size = 1 := rfl
   exact ⟨s, q', Evs.stepNeg (fun k => by conv => lhs; unfold spec_l92Term.f) (by omega) hs, by omega, by omega⟩
  ·have e1 : wrap64 ((m : Int) - 1) = ((m - 1 : Nat) : Int) := by rw [wrapT (by omega) (by omega)]; omega
   obtain ⟨v, hv, v0, v1, -⟩ := pick_evT b h q (by omega) ((m - 1 : Nat) : Int)
   rw [← e1] at hv
   have v1 := v1 (by omega)
   obtain ⟨c, hc⟩ : ∃ c : Nat, v = (c : Int) := Int.eq_ofNat_of_zero_le v0
   subst hc
   have e2 : wrap64 (1 + (c : Int)) = ((c + 1 : Nat) : Int) := by rw [wrapT (by omega) (by omega)]; omega
   have e3 : wrap64 ((m : Int) - ((c + 1 : Nat) : Int)) = ((m - (c + 1) : Nat) : Int) := by rw [wrapT (by omega) (by omega)]; omega
   obtain ⟨s1, q1, hs1, l1, z1⟩ := term_evT b h n (c + 1) (by omega) (by omega) (by omega) (q + 1) (by omega)
   rw [← e2] at hs1
   obtain ⟨u, hu, hmem⟩ := of_evT b h q1 (by omega) [(⟨#[124]⟩ : ByteArray), (⟨#[45]⟩ : ByteArray)] (by simp)
   have zu : u.size = 1 := by
    simp only [List.mem_cons, List.not_mem_nil, or_false] at hmem
    rcases hmem with rfl | rfl <;> decide
   obtain ⟨s2, q2, hs2, l2, z2⟩ := term_evT b h n (m - (c + 1)) (by omega) (by omega) (by omega) (q1 + 1) (by omega)
   rw [← e3, ← e2] at hs2
   have eA : (ByteArray.mk #[40]).size = 1 := rfl
   have eB : (ByteArray.mk #[41]).size = 1 := rfl
   have zz : (((((ByteArray.mk #[40]) ++ s1) ++ u) ++ s2) ++ (ByteArray.mk #[41])).size = s1.size + s2.size + 3 := by
    simp only [ByteArray.size_append, eA, eB, zu]
    omega
   obtain ⟨s, q', hs, h2, h3⟩ := termJ_evT b h q2 (by omega) (((((ByteArray.mk #[40]) ++ s1) ++ u) ++ s2) ++ (ByteArray.mk #[41])) (by omega)
   refine ⟨s, q', Evs.stepPos (fun k => by conv => lhs; unfold spec_l92Term.f) (by omega) (Evs.bind hv (Evs.bind hs1 (Evs.pos ?_ (Evs.bind hu (Evs.pos ?_ (Evs.bind hs2 (Evs.pos ?_ (Evs.pos ?_ hs)))))))), by omega, by omega⟩
   ·show 1 + s1.size ≤ _
    omega
   ·show ((ByteArray.mk #[40]) ++ s1).size + u.size ≤ _
    rw [ByteArray.size_append]
    omega
   ·show (((ByteArray.mk #[40]) ++ s1) ++ u).size + s2.size ≤ _
    simp only [ByteArray.size_append]
    omega
   ·show ((((ByteArray.mk #[40]) ++ s1) ++ u) ++ s2).size + 1 ≤ _
    simp only [ByteArray.size_append]
    omega
theorem text_evT (b : List Int) (h : RdBT b) (q : Nat) (hq : q ≤ 50000) : ∃ s q', Evs (fun k => spec_l92Text.f k b (q : Int)) (s, ((q' : Nat) : Int)) ∧ q' ≤ q + 100 ∧ s.size ≤ 1000 := by
 obtain ⟨v, hv, v0, v1, -⟩ := pick_evT b h q (by omega) 6
 have v1 := v1 (by omega)
 obtain ⟨c, hc⟩ : ∃ c : Nat, v = (c : Int) := Int.eq_ofNat_of_zero_le v0
 subst hc
 have e2 : wrap64 (1 + (c : Int)) = ((c + 1 : Nat) : Int) := by rw [wrapT (by omega) (by omega)]; omega
 obtain ⟨s1, q1, hs1, l1, z1⟩ := term_evT b h 7 (c + 1) (by omega) (by omega) (by omega) (q + 1) (by omega)
 rw [← e2] at hs1
 obtain ⟨v, hv2, -, -, -⟩ := pick_evT b h q1 (by omega) 24
 by_cases e0 : v = 0
 ·obtain ⟨u, hu, hm⟩ := of_evT b h (q1 + 1) (by omega) [(⟨#[41]⟩ : ByteArray), (⟨#[111]⟩ : ByteArray), (⟨#[124]⟩ : ByteArray)] (by simp)
  have zu : u.size = 1 := by
   simp only [List.mem_cons, List.not_mem_nil, or_false] at hm
   rcases hm with rfl | rfl | rfl <;> decide
  refine ⟨s1 ++ u, q1 + 1 + 1, Evs.bind hv (Evs.bind hs1 (Evs.bind hv2 (Evs.pos e0 (Evs.bind hu (Evs.pos ?_ (Evs.const _)))))), by omega, ?_⟩
  ·show s1.size + u.size ≤ _
   omega
  ·rw [ByteArray.size_append]
   omega
 ·by_cases e1 : v = 1
  ·obtain ⟨u, hu, hm⟩ := of_evT b h (q1 + 1) (by omega) [(⟨#[]⟩ : ByteArray), (⟨#[120]⟩ : ByteArray), (⟨#[40, 111, 41]⟩ : ByteArray), (⟨#[40, 111, 124, 111]⟩ : ByteArray), (⟨#[62]⟩ : ByteArray), (⟨#[40, 111, 124, 40, 111, 124, 40, 111, 124, 40, 111, 124, 40, 111, 124, 40, 111, 124, 40, 111, 124, 111, 41, 41, 41, 41, 41, 41, 41]⟩ : ByteArray), (⟨#[40, 40, 111, 124, 111, 41, 124, 40, 111, 124, 111, 41, 41]⟩ : ByteArray)] (by simp)
   have zu : u.size ≤ 100 := by
    simp only [List.mem_cons, List.not_mem_nil, or_false] at hm
    rcases hm with rfl | rfl | rfl | rfl | rfl | rfl | rfl <;> decide
   exact ⟨u, q1 + 1 + 1, Evs.bind hv (Evs.bind hs1 (Evs.bind hv2 (Evs.neg e0 (Evs.pos e1 (Evs.bind hu (Evs.const _)))))), by omega, by omega⟩
  ·exact ⟨s1, q1 + 1, Evs.bind hv (Evs.bind hs1 (Evs.bind hv2 (Evs.neg e0 (Evs.neg e1 (Evs.const _))))), by omega, by omega⟩
theorem word_evT (l : List Int) (hv : ∀ x ∈ l, 0 ≤ x ∧ x ≤ 255) : ∃ s, Evs (fun k => spec_l92Word.f k l) s ∧ s.size ≤ 1000 := by
 obtain ⟨b, hb, hB⟩ := open_evT l hv
 obtain ⟨s, q', hs, -, hz⟩ := text_evT b hB 0 (by omega)
 exact ⟨s, Evs.bindS hb (Evs.bind hs (Evs.const _)), hz⟩
def AtB (s : ByteArray) (i : Nat) (b : ByteArray) : Prop := ∀ j, j < b.size → i + j < s.size ∧ bt s ((i + j : Nat) : Int) = bt b (j : Int)
theorem bt_left (a b : ByteArray) (j : Nat) (h : j < a.size) : bt (a ++ b) (j : Int) = bt a (j : Int) := by
  rw [← bt_nat a j h, ← bt_nat (a ++ b) j (by rw [ByteArray.size_append]; omega), ByteArray.getElem_append_left h]
theorem bt_right (a b : ByteArray) (j : Nat) (h : j < b.size) : bt (a ++ b) ((a.size + j : Nat) : Int) = bt b (j : Int) := by
  rw [← bt_nat b j h, ← bt_nat (a ++ b) (a.size + j) (by rw [ByteArray.size_append]; omega), ByteArray.getElem_append_right (by omega)]
  congr 3
  omega
theorem AtB.left {s : ByteArray} {i : Nat} {a b : ByteArray} (h : AtB s i (a ++ b)) : AtB s i a := fun j hj => by
  have := h j (by rw [ByteArray.size_append]; omega)
  rw [bt_left a b j hj] at this
  exact this
theorem AtB.right {s : ByteArray} {i : Nat} {a b : ByteArray} (h : AtB s i (a ++ b)) : AtB s (i + a.size) b := fun j hj => by
  have := h (a.size + j) (by rw [ByteArray.size_append]; omega)
  rw [bt_right a b j hj, ← Nat.add_assoc] at this
  exact this
theorem AtB.self (s : ByteArray) : AtB s 0 s := fun j hj => by rw [Nat.zero_add]; exact ⟨hj, rfl⟩
theorem AtB.byte {s : ByteArray} {i : Nat} {c : UInt8} (h : AtB s i (zbv c)) : i < s.size ∧ bt s (i : Int) = (c.toNat : Int) := by
  have := h 0 (show 0 < 1 by decide)
  rw [← bt_nat (zbv c) 0 (show 0 < 1 by decide)] at this
  exact this
def Tr.leaves : Tr → Nat
  | .o => 1
  | .un _ t => t.leaves
  | .bin _ a b => a.leaves + b.leaves
theorem byteS_size (c : UInt8) : (zbv c).size = 1 := rfl
theorem rdR_text : ∀ (t : Tr) (f : Nat) (s : ByteArray) (i : Nat), t.nodes ≤ f → AtB s i (zaz t) → rdR f s i = some (t, i + (zaz t).size) := by
  intro t
  induction t with
  | o =>
    intro f s i hf h
    cases f with
    | zero => exact absurd hf (by decide)
    | succ f =>
      obtain ⟨h1, h2⟩ := AtB.byte (c := 111) h
      unfold rdR
      have c2 : bt s (i : Int) = 111 := h2
      rw [if_neg (by omega), if_pos c2]
      rfl
  | un b t ih =>
    intro f s i hf h
    simp only [Tr.nodes] at hf
    cases f with
    | zero => omega
    | succ f =>
      have h' : AtB s i (zbv (if b then 62 else 94) ++ zaz t) := h
      obtain ⟨h1, h2⟩ := AtB.byte h'.left
      have hr := ih f s (i + 1) (by omega) h'.right
      have hc : bt s (i : Int) = if b then 62 else 94 := by rw [h2]; cases b <;> rfl
      unfold rdR
      rw [hr, if_neg (by omega), if_neg (by rw [hc]; cases b <;> decide), if_pos (by rw [hc]; cases b <;> decide)]
      have e : (zaz (.un b t)).size = 1 + (zaz t).size := by
        show (zbv _ ++ zaz t).size = _
        rw [ByteArray.size_append, byteS_size]
      rw [e, hc, Nat.add_assoc]
      cases b <;> rfl
  | bin b x y ihx ihy =>
    intro f s i hf h
    simp only [Tr.nodes] at hf
    cases f with
    | zero => omega
    | succ f =>
      have h' : AtB s i (zbv 40 ++ zaz x ++ zbv (if b then 124 else 45) ++ zaz y ++ zbv 41) := h
      obtain ⟨h1, h2⟩ := AtB.byte h'.left.left.left.left
      have hx := ihx f s (i + 1) (by omega) h'.left.left.left.right
      obtain ⟨h3, h4⟩ := AtB.byte h'.left.left.right
      have hy := h'.left.right
      obtain ⟨h5, h6⟩ := AtB.byte h'.right
      simp only [ByteArray.size_append, byteS_size] at h3 h4 h5 h6 hy
      have e1 : i + 1 + (zaz x).size = i + (1 + (zaz x).size) := by omega
      rw [e1] at hx
      have e2 : i + (1 + (zaz x).size) + 1 = i + (1 + (zaz x).size + 1) := by omega
      have hy := ihy f s _ (by omega) hy
      have e3 : i + (1 + (zaz x).size + 1) + (zaz y).size = i + (1 + (zaz x).size + 1 + (zaz y).size) := by omega
      rw [e3] at hy
      have c2 : bt s (i : Int) = 40 := h2
      have c4 : bt s ((i + (1 + (zaz x).size) : Nat) : Int) = if b then 124 else 45 := by rw [h4]; cases b <;> rfl
      have c6 : bt s ((i + (1 + (zaz x).size + 1 + (zaz y).size) : Nat) : Int) = 41 := h6
      unfold rdR
      rw [hx, if_neg (by omega), if_neg (by rw [c2]; decide), if_neg (by rw [c2]; decide), if_neg (by rw [c2]; decide)]
      dsimp only
      rw [e2, hy, if_neg (by rw [c4]; intro h; rcases h with h | h; · omega
                             · cases b <;> simp at h)]
      dsimp only
      rw [if_neg (by rw [c6]; intro h; rcases h with h | h; · omega
                     · exact h rfl), c4]
      have e : (zaz (.bin b x y)).size = 1 + (zaz x).size + 1 + (zaz y).size + 1 := by
        show (zbv _ ++ zaz x ++ zbv _ ++ zaz y ++ zbv _).size = _
        simp only [ByteArray.size_append, byteS_size]
      rw [e]
      congr 2
      cases b <;> rfl
theorem nodes_text : ∀ t : Tr, t.nodes ≤ (zaz t).size
  | .o => Nat.le_refl _
  | .un b t => by
    have := nodes_text t
    simp only [zaz, Tr.nodes, ByteArray.size_append, byteS_size]
    omega
  | .bin b x y => by
    have := nodes_text x
    have := nodes_text y
    simp only [zaz, Tr.nodes, ByteArray.size_append, byteS_size]
    omega
theorem text_leaves : ∀ t : Tr, t.tidy = true → (zaz t).size + 3 = 4 * t.leaves
  | .o, _ => rfl
  | .un _ _, h => by cases h
  | .bin b x y, h => by
    simp only [Tr.tidy, Bool.and_eq_true] at h
    have := text_leaves x h.1
    have := text_leaves y h.2
    simp only [zaz, Tr.leaves, ByteArray.size_append, byteS_size]
    omega
theorem nodes_leaves : ∀ t : Tr, t.tidy = true → t.nodes + 1 = 2 * t.leaves
  | .o, _ => rfl
  | .un _ _, h => by cases h
  | .bin b x y, h => by
    simp only [Tr.tidy, Bool.and_eq_true] at h
    have := nodes_leaves x h.1
    have := nodes_leaves y h.2
    simp only [Tr.nodes, Tr.leaves]
    omega
theorem app_list (a b : ByteArray) : (a ++ b).data.toList = a.data.toList ++ b.data.toList := by
  rw [ByteArray.data_append, Array.toList_append]
theorem text_count : ∀ t : Tr, (zaz t).data.toList.count 111 = t.leaves
  | .o => rfl
  | .un b t => by
    show (zbv _ ++ zaz t).data.toList.count 111 = t.leaves
    rw [app_list, List.count_append, text_count t]
    have : (zbv (if b = true then 62 else 94)).data.toList.count 111 = 0 := by cases b <;> rfl
    omega
  | .bin b x y => by
    show (zbv _ ++ zaz x ++ zbv _ ++ zaz y ++ zbv _).data.toList.count 111 = x.leaves + y.leaves
    rw [app_list, app_list, app_list, app_list, List.count_append, List.count_append, List.count_append, List.count_append, text_count x, text_count y]
    have : (zbv (if b = true then 124 else 45)).data.toList.count 111 = 0 := by cases b <;> rfl
    have : (zbv 40).data.toList.count 111 = 0 := rfl
    have : (zbv 41).data.toList.count 111 = 0 := rfl
    omega
theorem text_rooms (t : Tr) : zbs (zaz t) (zaz t).size = t.leaves := by
  rw [count_rooms _ _ (Nat.le_refl _), List.take_of_length_le (by rw [Array.length_toList]; exact Nat.le_refl _), text_count]
theorem ofR_text (t : Tr) (ht : t.tidy = true) (hl : t.leaves ≤ 7) : ofR (zaz t) = some t := by
  have h1 := text_leaves t ht
  have h2 := nodes_text t
  have h3 := rdR_text t ((zaz t).size + 1) (zaz t) 0 (by omega) (AtB.self _)
  unfold ofR
  rw [text_rooms, if_neg (by omega), h3]
  dsimp only
  rw [if_pos (by omega)]
theorem rdR_rooms : ∀ (f : Nat) (s : ByteArray) (i : Nat) (t : Tr) (e : Nat), rdR f s i = some (t, e) → zbs s e = zbs s i + t.leaves
  | 0, s, i, t, e, h => by cases h
  | f + 1, s, i, t, e, h => by
    unfold rdR at h
    split at h
    · cases h
    · split at h
      · rename_i h1
        cases h
        rw [zcr, if_pos h1]
        rfl
      · rename_i h1
        have hi : zbs s (i + 1) = zbs s i := by rw [zcr, if_neg h1]; rfl
        split at h
        · cases hr : rdR f s (i + 1) with
          | none => rw [hr] at h; cases h
          | some te =>
            obtain ⟨t', e'⟩ := te
            rw [hr] at h
            cases h
            rw [rdR_rooms f s (i + 1) t' e hr, hi]
            rfl
        · split at h
          · cases h
          · cases hr : rdR f s (i + 1) with
            | none => rw [hr] at h; cases h
            | some te =>
              obtain ⟨a, m⟩ := te
              rw [hr] at h
              dsimp only at h
              have ha := rdR_rooms f s (i + 1) a m hr
              split at h
              · cases h
              · rename_i hm
                have hm' : zbs s (m + 1) = zbs s m := by rw [zcr, if_neg (by omega)]; rfl
                cases hr2 : rdR f s (m + 1) with
                | none => rw [hr2] at h; cases h
                | some be =>
                  obtain ⟨b, e2⟩ := be
                  rw [hr2] at h
                  dsimp only at h
                  have hb := rdR_rooms f s (m + 1) b e2 hr2
                  split at h
                  · cases h
                  · rename_i he
                    cases h
                    rw [zcr, if_neg (by omega)]
                    simp only [Tr.leaves]
                    omega
theorem ofR_leaves {s : ByteArray} {t : Tr} (h : ofR s = some t) : t.leaves ≤ 7 := by
  unfold ofR at h
  split at h
  · cases h
  · rename_i hn
    cases hr : rdR (s.size + 1) s 0 with
    | none => rw [hr] at h; cases h
    | some te =>
      obtain ⟨t', e⟩ := te
      rw [hr] at h
      dsimp only at h
      split at h
      · rename_i he
        cases h
        have := rdR_rooms _ s 0 t e hr
        subst he
        have h0 : zbs s 0 = 0 := rfl
        omega
      · cases h
theorem zce : ∀ (c : Option Bool) (t : Tr), (inF c t).leaves = t.leaves
  | none, t => by rw [inF_none]
  | some true, .o => rfl
  | some false, .o => rfl
  | some c, .un d t => by cases c <;> simp only [inF, Tr.leaves, zce _ t]
  | some true, .bin true a b => by simp only [inF, Tr.leaves]; rw [zce _ a, zce _ b]
  | some true, .bin false a b => by simp only [inF, Tr.leaves]; rw [zce _ a, zce _ b]; omega
  | some false, .bin true a b => by simp only [inF, Tr.leaves]; rw [zce _ a, zce _ b]; omega
  | some false, .bin false a b => by simp only [inF, Tr.leaves]; rw [zce _ a, zce _ b]
theorem tid_leaves : ∀ t : Tr, (tid t).leaves = t.leaves
  | .o => rfl
  | .un c t => by
    simp only [tid, Tr.leaves]
    rw [zce, tid_leaves t]
  | .bin s a b => by
    simp only [tid, Tr.leaves]
    rw [tid_leaves a, tid_leaves b]
theorem left_leaves {t : Tr} (h : t.tidy = true) : (zbc t).leaves = t.leaves := by
  have hl := (left_ok t h).1
  have := nodes_leaves t h
  have := nodes_leaves _ hl.tidy
  have := hl.nodes
  omega
theorem ofR_tid {s : ByteArray} {t : Tr} (h : ofR s = some t) : ofR (zaz (tid t)) = some (tid t) :=
  ofR_text _ (zbm t) (by rw [tid_leaves]; exact ofR_leaves h)
theorem ofR_left {s : ByteArray} {t : Tr} (h : ofR s = some t) : ofR (zaz (zbc (tid t))) = some (zbc (tid t)) :=
  ofR_text _ (left_ok _ (zbm t)).1.tidy (by rw [left_leaves (zbm t), tid_leaves]; exact ofR_leaves h)
theorem left_size {t : Tr} (h : t.tidy = true) : (zaz (zbc t)).size = (zaz t).size := by
  have h1 := text_leaves t h
  have h2 := text_leaves _ (left_ok t h).1.tidy
  have h3 := left_leaves h
  omega
theorem termTidyF_ok {s : ByteArray} {t : Tr} (h : ofR s = some t) : termTidyF s = (zaz (tid t), true) := by unfold termTidyF; rw [h]
theorem termLeftF_ok {s : ByteArray} {t : Tr} (h : ofR s = some t) : zbd s = (zaz (zbc (tid t)), true) := by unfold zbd; rw [h]
theorem termPermF_ok {s : ByteArray} {t : Tr} (h : ofR s = some t) : zbg s = (zbf (tid t), true) := by unfold zbg; rw [h]
theorem tid_left {t : Tr} : tid (zbc (tid t)) = zbc (tid t) := tid_self _ (left_ok _ (zbm t)).1.tidy
end Go.Proofs.Ytgiidlebnjbgeaa.Hd
namespace Go.Proofs.Ytgiidlebnjbgeaa.Pure
open Go.RowKit Go.Proofs.Ytgiidlebnjbgeaa.TL Go.Proofs.Ytgiidlebnjbgeaa.PB Go.Proofs.Ytgiidlebnjbgeaa.SM Go.Proofs.Ytgiidlebnjbgeaa.Hd Go.PW.PrintWords Go.PW.PrintLast
theorem byteT_of {x : Int} (h : (Lit.int .u8 x).wf = true) : 0 ≤ x ∧ x ≤ 255 := by
 simp only [Lit.wf, IntKind.min, IntKind.max, IntKind.signed, IntKind.bits, Bool.and_eq_true, decide_eq_true_eq] at h
 have h1 := h.1
 have h2 := h.2
 simp at h1 h2
 omega
theorem sameL_ev (s t : ByteArray) (hs : s.size ≤ 1048576) (ht : t.size ≤ 1048576) : Evs (fun k => impl_TermSame.f k s t) (termSameF s t) := by
 have h1 : impl_TermPerm.f s = some (zbg s) := by unfold impl_TermPerm.f; rw [if_pos hs]
 have h2 : impl_TermPerm.f t = some (zbg t) := by unfold impl_TermPerm.f; rw [if_pos ht]
 have hl := termPermF_lenT s
 unfold termSameF
 generalize zbg s = a at *
 generalize zbg t = b at *
 obtain ⟨a, x⟩ := a
 obtain ⟨b, y⟩ := b
 dsimp only at hl
 refine Evs.bindS h1 (Evs.bindS h2 ?_)
 cases x with
 | false => exact Evs.neg (by simp) (Evs.const _)
 | true =>
  cases y with
  | false => exact Evs.pos rfl (Evs.neg (by simp) (Evs.const _))
  | true => exact Evs.pos rfl (Evs.pos rfl (Evs.bind (equalT_ev a b (by omega)) (Evs.const _)))
theorem FnTermLeft : laws_FnTermLeft.Pure := by
 intro l0 h1 h2 h3
 by_cases big : (l0.length : Int) > 1048576
 ·exact ⟨0, by unfold laws_FnTermLeft.f; rw [if_pos big]⟩
 ·obtain ⟨s, hp, hz⟩ := word_evT l0 (fun x hx => byteT_of (h3 x hx))
  have hd : Evs (fun k => spec_DrawTermLeft.f k l0) s := Evs.bind hp (Evs.const _)
  have fI : impl_TermLeft.f s = some (zbd s) := by unfold impl_TermLeft.f; rw [if_pos (by omega)]
  have fS : spec_TermLeft.f s = some (zbd s) := by unfold spec_TermLeft.f; rw [if_pos (by omega)]
  apply Evs.ex
  refine Evs.neg big (Evs.bind hd (Evs.bindS fI (Evs.bindS fS (Evs.neg (by simp) (Evs.pos rfl ?_)))))
  cases ho : ofR s with
  | none =>
   have e : zbd s = (⟨#[]⟩, false) := by unfold zbd; rw [ho]
   rw [e]
   refine Evs.stepPos (fun k => by conv => lhs; unfold laws_FnTermLeft.j0) (by rfl) (Evs.pos (by rfl) ?_)
   simpa using Evs.const true
  | some t =>
   have e := termLeftF_ok ho
   have hl := (left_ok (tid t) (zbm t)).1
   have o1 := ofR_tid ho
   have o2 := ofR_left ho
   have e1 := termTidyF_ok ho
   have e2 : zbd (zaz (tid t)) = (zaz (zbc (tid t)), true) := by rw [termLeftF_ok o1, tid_self _ (zbm t)]
   have e3 : zbd (zaz (zbc (tid t))) = (zaz (zbc (tid t)), true) := by rw [termLeftF_ok o2, tid_left, hl.again]
   have z := left_size (zbm t)
   have zt := zcj (tid t)
   have zn := zcn t
   have zo := ofR_nodes ho
   have es : termSameF s (zaz (zbc (tid t))) = true := by
    unfold termSameF
    rw [termPermF_ok ho, termPermF_ok o2, tid_left, hl.perm]
    simp
   have f1 : impl_TermTidy.f s = some (zaz (tid t), true) := by unfold impl_TermTidy.f; rw [if_pos (by omega), e1]
   have f2 : impl_TermLeft.f (zaz (tid t)) = some (zaz (zbc (tid t)), true) := by unfold impl_TermLeft.f; rw [if_pos (by omega), e2]
   have f3 : impl_TermLeft.f (zaz (zbc (tid t))) = some (zaz (zbc (tid t)), true) := by unfold impl_TermLeft.f; rw [if_pos (by omega), e3]
   have f4 := sameL_ev s (zaz (zbc (tid t))) (by omega) (by omega)
   rw [es] at f4
   rw [e]
   refine Evs.stepNeg (fun k => by conv => lhs; unfold laws_FnTermLeft.j0) (by simp) (Evs.bindS f1 (Evs.bindS f2 (Evs.bindS f3 (Evs.pos rfl (Evs.pos rfl (Evs.pos rfl (Evs.pos rfl (Evs.pos rfl (Evs.pos ?_ (Evs.bind f4 (Evs.const _)))))))))))
   show ((zaz (zbc (tid t))).size : Int) = ((zaz (tid t)).size : Int)
   rw [z]
end Go.Proofs.Ytgiidlebnjbgeaa.Pure
