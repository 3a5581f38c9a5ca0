/- Part 6 of the proof of FnWallList: what the program's functions and the reference's compute. -/
import Derived.Test.YtaepgogafkmooaaCPVAe
namespace Go.Proofs.Ytaepgogafkmooaa.VA
open Go.Proofs.Ytaepgogafkmooaa.PB Go.Proofs.Ytaepgogafkmooaa.Hd Go.Proofs.Ytaepgogafkmooaa.SM
open Go.RowKit Go.Proofs.YtaepgogafkmooaaW.PrintWords Go.Proofs.YtaepgogafkmooaaW.PrintLast Go.Proofs.YtaepgogafkmooaaW.PrintMore
attribute [local go_sem] max2_int min2_int max_two min_two max_three min_three max_four min_four   -- for this text's walks alone
set_option linter.unusedVariables false
set_option linter.unusedSimpArgs false
mutual
def laws_FnWallList.j0 : Nat → List ByteArray → List (List Int) → Bool → List (List Int) → Bool → Bool → Option (Bool)
 | 0, _, _, _, _, _, _ => none
 | k + 1, x3, x4, x5, x6, x7, x43 => if x43 = true then (if (x5 == x7) = true then ((laws_sameRows.f k x4 x6).bind fun t433 => (some t433)) else (some false)) else ((impl_WallMany.f x3).bind fun bt434 => (laws_FnWallList.l0 k x3 x4 bt434.1 bt434.2.1 bt434.2.2 0 0))
def laws_FnWallList.l0 : Nat → List ByteArray → List (List Int) → Int → Int → Bool → Int → Int → Option (Bool)
 | 0, _, _, _, _, _, _, _ => none
 | k + 1, x3, x4, x8, x9, x10, x11, x12 => if x12 < (x4.length : Int) then (if 0 ≤ x12 then (if 0 < (x3.length : Int) then (if 0 < ((rd_L1 x4 x12).length : Int) then (if (rd (rd_L1 x4 x12) 0) = 1 then (if 1 < ((rd_L1 x4 x12).length : Int) then (if (rd (rd_L1 x4 x12) 1) < 1 then (some false) else (if (rd (rd_L1 x4 x12) 1) ≥ (x3.length : Int) then (some false) else (if 2 < ((rd_L1 x4 x12).length : Int) then (if (rd (rd_L1 x4 x12) 2) < 0 then (some false) else (if 3 < ((rd_L1 x4 x12).length : Int) then (if (rd (rd_L1 x4 x12) 3) < 1 then (some false) else (if (wrap64 ((rd (rd_L1 x4 x12) 2) + (rd (rd_L1 x4 x12) 3))) > ((rdOf ByteArray.empty x3 0).size : Int) then (some false) else (if x12 > 0 then (if 0 ≤ (wrap64 (x12 - 1)) then (if (wrap64 (x12 - 1)) < (x4.length : Int) then (if 0 < ((rd_L1 x4 (wrap64 (x12 - 1))).length : Int) then (if (rd (rd_L1 x4 x12) 0) < (rd (rd_L1 x4 (wrap64 (x12 - 1))) 0) then (some false) else (laws_FnWallList.l0 k x3 x4 x8 x9 x10 x11 (wrap64 (x12 + 1)))) else (none)) else (none)) else (none)) else (laws_FnWallList.l0 k x3 x4 x8 x9 x10 x11 (wrap64 (x12 + 1)))))) else (none))) else (none)))) else (none)) else (if 1 < ((rd_L1 x4 x12).length : Int) then (if (rd (rd_L1 x4 x12) 1) < 1 then (some false) else (if (rd (rd_L1 x4 x12) 1) ≥ ((rdOf ByteArray.empty x3 0).size : Int) then (some false) else (if 2 < ((rd_L1 x4 x12).length : Int) then (if (rd (rd_L1 x4 x12) 2) < 0 then (some false) else (if 3 < ((rd_L1 x4 x12).length : Int) then (if (rd (rd_L1 x4 x12) 3) < 1 then (some false) else (if (wrap64 ((rd (rd_L1 x4 x12) 2) + (rd (rd_L1 x4 x12) 3))) > (x3.length : Int) then (some false) else (if x12 > 0 then (if 0 ≤ (wrap64 (x12 - 1)) then (if (wrap64 (x12 - 1)) < (x4.length : Int) then (if 0 < ((rd_L1 x4 (wrap64 (x12 - 1))).length : Int) then (if (rd (rd_L1 x4 x12) 0) < (rd (rd_L1 x4 (wrap64 (x12 - 1))) 0) then (some false) else (laws_FnWallList.l0 k x3 x4 x8 x9 x10 (wrap64 (x11 + 1)) (wrap64 (x12 + 1)))) else (none)) else (none)) else (none)) else (laws_FnWallList.l0 k x3 x4 x8 x9 x10 (wrap64 (x11 + 1)) (wrap64 (x12 + 1)))))) else (none))) else (none)))) else (none))) else (none)) else (none)) else (none)) else (if x10 = true then (if (x4.length : Int) = (wrap64 (x8 + x9)) then (some (x11 == x8)) else (some false)) else (some false))
end
def laws_FnWallList.f (k : Nat) (l0 : List Int) : Option (Bool) := if (l0.length : Int) > 1048576 then (some true) else ((spec_DrawWallList.f k l0).bind fun t421 => ((impl_WallList.f t421).bind fun bt424 => ((spec_WallList.f k t421).bind fun bt428 => (if (bt424.2 != bt428.2) = true then (laws_FnWallList.j0 k t421 bt424.1 bt424.2 bt428.1 bt428.2 true) else ((laws_sameRows.f k bt424.1 bt428.1).bind fun t432 => (if t432 = true then (laws_FnWallList.j0 k t421 bt424.1 bt424.2 bt428.1 bt428.2 (!bt424.2)) else (laws_FnWallList.j0 k t421 bt424.1 bt424.2 bt428.1 bt428.2 true)))))))
set_option maxHeartbeats 8000000 in
set_option maxRecDepth 100000 in
theorem laws_FnWallList.calls (k : Nat) (A0 : Option Addr) (c0 : Nat) (l0 : List Int) (r : Bool) (w : World) (hr0 : Kd.C (Kd.int .u8) w A0 l0.length l0) (hc0 : l0.length ≤ c0) (h : laws_FnWallList.f k l0 = some r) :
  Calls Try.prog 5 #[.slice A0 l0.length c0] w fun e w' => e = .returned (.bool r) ∧ Below w.heap.size w w' := by
 have HR0 := Aside0.mk hr0
 have HC0 := Aside0.mk hc0
 clear hr0 hc0
 have HB := Aside0.mk (Below.refl w.heap.size w)
 have H : (if (l0.length : Int) > 1048576 then (some true) else ((spec_DrawWallList.f k l0).bind fun t421 => ((impl_WallList.f t421).bind fun bt424 => ((spec_WallList.f k t421).bind fun bt428 => (if (bt424.2 != bt428.2) = true then (laws_FnWallList.j0 k t421 bt424.1 bt424.2 bt428.1 bt428.2 true) else ((laws_sameRows.f k bt424.1 bt428.1).bind fun t432 => (if t432 = true then (laws_FnWallList.j0 k t421 bt424.1 bt424.2 bt428.1 bt428.2 (!bt424.2)) else (laws_FnWallList.j0 k t421 bt424.1 bt424.2 bt428.1 bt428.2 true)))))))) = some r := h
 clear h
 by_cases c2 : (l0.length : Int) > 1048576
 ·rw [if_pos c2] at H
  have c2b0 : decide (1048576 < (l0.length : Int)) = true := decide_eq_true c2
  have c2b1 : decide (1048576 < l0.length) = true := decide_eq_true (by omega)
  clear c2
  obtain rfl := Option.some.inj H
  go_enter Try.func5, Try.ntmps5
  go_wp2
  repeat (go_quiet (fail); try go_wp2)
  go_ret
  exact ⟨by first | rfl | (simp [errW_none, errW_some] <;> rfl) | (simp [*, errW_none, errW_some] <;> rfl), by repeat (first | (with_reducible first | exact HB.out | apply below_alloc | apply pw_below_drewN | apply below_drew1) | exact HB.out)⟩
 ·rw [if_neg c2] at H
  have c2b0 : decide (1048576 < (l0.length : Int)) = false := decide_eq_false c2
  have c2b1 : decide (1048576 < l0.length) = false := decide_eq_false (by omega)
  clear c2
  replace H := Option.bind_eq_some_iff.mp H
  obtain ⟨t421, A30, H⟩ := H
  replace H : ((impl_WallList.f t421).bind fun bt424 => ((spec_WallList.f k t421).bind fun bt428 => (if (bt424.2 != bt428.2) = true then (laws_FnWallList.j0 k t421 bt424.1 bt424.2 bt428.1 bt428.2 true) else ((laws_sameRows.f k bt424.1 bt428.1).bind fun t432 => (if t432 = true then (laws_FnWallList.j0 k t421 bt424.1 bt424.2 bt428.1 bt428.2 (!bt424.2)) else (laws_FnWallList.j0 k t421 bt424.1 bt424.2 bt428.1 bt428.2 true)))))) = some r := H
  have A3 := Aside0.mk A30
  clear A30
  replace H := Option.bind_eq_some_iff.mp H
  obtain ⟨⟨t424, t425⟩, A40, H⟩ := H
  replace H : ((spec_WallList.f k t421).bind fun bt428 => (if (t425 != bt428.2) = true then (laws_FnWallList.j0 k t421 t424 t425 bt428.1 bt428.2 true) else ((laws_sameRows.f k t424 bt428.1).bind fun t432 => (if t432 = true then (laws_FnWallList.j0 k t421 t424 t425 bt428.1 bt428.2 (!t425)) else (laws_FnWallList.j0 k t421 t424 t425 bt428.1 bt428.2 true))))) = some r := H
  have A4 := Aside0.mk A40
  clear A40
  replace H := Option.bind_eq_some_iff.mp H
  obtain ⟨⟨t428, t429⟩, A50, H⟩ := H
  replace H : (if (t425 != t429) = true then (laws_FnWallList.j0 k t421 t424 t425 t428 t429 true) else ((laws_sameRows.f k t424 t428).bind fun t432 => (if t432 = true then (laws_FnWallList.j0 k t421 t424 t425 t428 t429 (!t425)) else (laws_FnWallList.j0 k t421 t424 t425 t428 t429 true)))) = some r := H
  have A5 := Aside0.mk A50
  clear A50
  have HC6 := Aside0.mk H
  clear H
  go_enter Try.func5, Try.ntmps5
  go_upto_region 6 with (first | (go_at_call 25; (with_reducible refine (spec_DrawWallList.calls k _ _ l0 t421 _ ?side1 ?side2 A3.out).mono ?_); (case side1 => repeat (first | exact HR0.out | (with_reducible refine Kd.C_alloc ?_ _) | (with_reducible refine Kd.C_drewN ?_ _) | (with_reducible refine Kd.C_drew ?_))); (case side2 => exact HC0.out); rintro e w7 ⟨v422, rfl, ho0, hb⟩; have n0_ := Aside0.mk (Kd.V_lower (Kd.V_mono (ok' := fun k_ => True) ho0 (fun k_ hk_ => trivial)) (below_size (by repeat (first | (with_reducible first | exact HB.out | apply below_alloc | apply pw_below_drewN | apply below_drew1) | exact HB.out)))); have n1_ := Aside0.mk (below_step (by repeat (first | (with_reducible first | exact HB.out | apply below_alloc | apply pw_below_drewN | apply below_drew1) | exact HB.out)) hb); clear HB; have HO423 := n0_; have HB := n1_; clear n0_ n1_; (try clear hb); (try clear hb2); (try clear hk); (try clear hi); (try clear ho0); obtain ⟨Ao8, co8, eo8⟩ := Kd.V_slice HO423.out; subst eo8) | (go_at_call 24; (with_reducible refine (impl_WallList.calls _ _ t421 t424 t425 _ ?side1 ?side2 A4.out).mono ?_); (case side1 => repeat (first | exact (Kd.V_reads' HO423.out).2.2 | (with_reducible refine Kd.C_alloc ?_ _) | (with_reducible refine Kd.C_drewN ?_ _) | (with_reducible refine Kd.C_drew ?_))); (case side2 => exact (Kd.V_reads' HO423.out).2.1); rintro e w9 ⟨v426, rfl, ho0, hb⟩; have n0_ := Aside0.mk (Kd.V_elder' (by (with_reducible repeat (first | apply Kd.V_alloc | apply Kd.V_drewN | apply Kd.V_drew)); exact HO423.out) (Kd.S_base ho0) hb); have n1_ := Aside0.mk (Kd.S_lower ho0 (below_size (by repeat (first | (with_reducible first | exact HB.out | apply below_alloc | apply pw_below_drewN | apply below_drew1) | exact HB.out)))); have n2_ := Aside0.mk (below_step (by repeat (first | (with_reducible first | exact HB.out | apply below_alloc | apply pw_below_drewN | apply below_drew1) | exact HB.out)) hb); clear HO423; clear HB; have HO423 := n0_; have HO427 := n1_; have HB := n2_; clear n0_ n1_ n2_; (try clear hb); (try clear hb2); (try clear hk); (try clear hi); (try clear ho0)) | (go_at_call 26; (with_reducible refine (spec_WallList.calls k _ _ t421 t428 t429 _ ?side1 ?side2 A5.out).mono ?_); (case side1 => repeat (first | exact (Kd.V_reads' HO423.out).2.2 | (with_reducible refine Kd.C_alloc ?_ _) | (with_reducible refine Kd.C_drewN ?_ _) | (with_reducible refine Kd.C_drew ?_))); (case side2 => exact (Kd.V_reads' HO423.out).2.1); rintro e w10 ⟨v430, rfl, ho0, hb⟩; have n0_ := Aside0.mk (Kd.V_elder' (by (with_reducible repeat (first | apply Kd.V_alloc | apply Kd.V_drewN | apply Kd.V_drew)); exact HO423.out) (Kd.S_base ho0) hb); have n1_ := Aside0.mk (Kd.S_elder' (by (with_reducible repeat (first | apply Kd.S_alloc | apply Kd.S_drewN | apply Kd.S_drew)); exact HO427.out) (Kd.S_base ho0) hb); have n2_ := Aside0.mk (Kd.S_lower (Kd.S_new' ho0 (Kd.S_lt (by (with_reducible repeat (first | apply Kd.S_alloc | apply Kd.S_drewN | apply Kd.S_drew)); exact HO427.out))) (below_size (by repeat (first | (with_reducible first | exact HB.out | apply below_alloc | apply pw_below_drewN | apply below_drew1) | exact HB.out)))); have n3_ := Aside0.mk (below_step (by repeat (first | (with_reducible first | exact HB.out | apply below_alloc | apply pw_below_drewN | apply below_drew1) | exact HB.out)) hb); clear HO423; clear HO427; clear HB; have HO423 := n0_; have HO427 := n1_; have HO431 := n2_; have HB := n3_; clear n0_ n1_ n2_ n3_; (try clear hb); (try clear hb2); (try clear hk); (try clear hi); (try clear ho0)))
  repeat (go_quiet (first | (go_at_call 25; (with_reducible refine (spec_DrawWallList.calls k _ _ l0 t421 _ ?side1 ?side2 A3.out).mono ?_); (case side1 => repeat (first | exact HR0.out | (with_reducible refine Kd.C_alloc ?_ _) | (with_reducible refine Kd.C_drewN ?_ _) | (with_reducible refine Kd.C_drew ?_))); (case side2 => exact HC0.out); rintro e w7 ⟨v422, rfl, ho0, hb⟩; have n0_ := Aside0.mk (Kd.V_lower (Kd.V_mono (ok' := fun k_ => True) ho0 (fun k_ hk_ => trivial)) (below_size (by repeat (first | (with_reducible first | exact HB.out | apply below_alloc | apply pw_below_drewN | apply below_drew1) | exact HB.out)))); have n1_ := Aside0.mk (below_step (by repeat (first | (with_reducible first | exact HB.out | apply below_alloc | apply pw_below_drewN | apply below_drew1) | exact HB.out)) hb); clear HB; have HO423 := n0_; have HB := n1_; clear n0_ n1_; (try clear hb); (try clear hb2); (try clear hk); (try clear hi); (try clear ho0); obtain ⟨Ao8, co8, eo8⟩ := Kd.V_slice HO423.out; subst eo8) | (go_at_call 24; (with_reducible refine (impl_WallList.calls _ _ t421 t424 t425 _ ?side1 ?side2 A4.out).mono ?_); (case side1 => repeat (first | exact (Kd.V_reads' HO423.out).2.2 | (with_reducible refine Kd.C_alloc ?_ _) | (with_reducible refine Kd.C_drewN ?_ _) | (with_reducible refine Kd.C_drew ?_))); (case side2 => exact (Kd.V_reads' HO423.out).2.1); rintro e w9 ⟨v426, rfl, ho0, hb⟩; have n0_ := Aside0.mk (Kd.V_elder' (by (with_reducible repeat (first | apply Kd.V_alloc | apply Kd.V_drewN | apply Kd.V_drew)); exact HO423.out) (Kd.S_base ho0) hb); have n1_ := Aside0.mk (Kd.S_lower ho0 (below_size (by repeat (first | (with_reducible first | exact HB.out | apply below_alloc | apply pw_below_drewN | apply below_drew1) | exact HB.out)))); have n2_ := Aside0.mk (below_step (by repeat (first | (with_reducible first | exact HB.out | apply below_alloc | apply pw_below_drewN | apply below_drew1) | exact HB.out)) hb); clear HO423; clear HB; have HO423 := n0_; have HO427 := n1_; have HB := n2_; clear n0_ n1_ n2_; (try clear hb); (try clear hb2); (try clear hk); (try clear hi); (try clear ho0)) | (go_at_call 26; (with_reducible refine (spec_WallList.calls k _ _ t421 t428 t429 _ ?side1 ?side2 A5.out).mono ?_); (case side1 => repeat (first | exact (Kd.V_reads' HO423.out).2.2 | (with_reducible refine Kd.C_alloc ?_ _) | (with_reducible refine Kd.C_drewN ?_ _) | (with_reducible refine Kd.C_drew ?_))); (case side2 => exact (Kd.V_reads' HO423.out).2.1); rintro e w10 ⟨v430, rfl, ho0, hb⟩; have n0_ := Aside0.mk (Kd.V_elder' (by (with_reducible repeat (first | apply Kd.V_alloc | apply Kd.V_drewN | apply Kd.V_drew)); exact HO423.out) (Kd.S_base ho0) hb); have n1_ := Aside0.mk (Kd.S_elder' (by (with_reducible repeat (first | apply Kd.S_alloc | apply Kd.S_drewN | apply Kd.S_drew)); exact HO427.out) (Kd.S_base ho0) hb); have n2_ := Aside0.mk (Kd.S_lower (Kd.S_new' ho0 (Kd.S_lt (by (with_reducible repeat (first | apply Kd.S_alloc | apply Kd.S_drewN | apply Kd.S_drew)); exact HO427.out))) (below_size (by repeat (first | (with_reducible first | exact HB.out | apply below_alloc | apply pw_below_drewN | apply below_drew1) | exact HB.out)))); have n3_ := Aside0.mk (below_step (by repeat (first | (with_reducible first | exact HB.out | apply below_alloc | apply pw_below_drewN | apply below_drew1) | exact HB.out)) hb); clear HO423; clear HO427; clear HB; have HO423 := n0_; have HO427 := n1_; have HO431 := n2_; have HB := n3_; clear n0_ n1_ n2_ n3_; (try clear hb); (try clear hb2); (try clear hk); (try clear hi); (try clear ho0))); go_upto_region 6 with (first | (go_at_call 25; (with_reducible refine (spec_DrawWallList.calls k _ _ l0 t421 _ ?side1 ?side2 A3.out).mono ?_); (case side1 => repeat (first | exact HR0.out | (with_reducible refine Kd.C_alloc ?_ _) | (with_reducible refine Kd.C_drewN ?_ _) | (with_reducible refine Kd.C_drew ?_))); (case side2 => exact HC0.out); rintro e w7 ⟨v422, rfl, ho0, hb⟩; have n0_ := Aside0.mk (Kd.V_lower (Kd.V_mono (ok' := fun k_ => True) ho0 (fun k_ hk_ => trivial)) (below_size (by repeat (first | (with_reducible first | exact HB.out | apply below_alloc | apply pw_below_drewN | apply below_drew1) | exact HB.out)))); have n1_ := Aside0.mk (below_step (by repeat (first | (with_reducible first | exact HB.out | apply below_alloc | apply pw_below_drewN | apply below_drew1) | exact HB.out)) hb); clear HB; have HO423 := n0_; have HB := n1_; clear n0_ n1_; (try clear hb); (try clear hb2); (try clear hk); (try clear hi); (try clear ho0); obtain ⟨Ao8, co8, eo8⟩ := Kd.V_slice HO423.out; subst eo8) | (go_at_call 24; (with_reducible refine (impl_WallList.calls _ _ t421 t424 t425 _ ?side1 ?side2 A4.out).mono ?_); (case side1 => repeat (first | exact (Kd.V_reads' HO423.out).2.2 | (with_reducible refine Kd.C_alloc ?_ _) | (with_reducible refine Kd.C_drewN ?_ _) | (with_reducible refine Kd.C_drew ?_))); (case side2 => exact (Kd.V_reads' HO423.out).2.1); rintro e w9 ⟨v426, rfl, ho0, hb⟩; have n0_ := Aside0.mk (Kd.V_elder' (by (with_reducible repeat (first | apply Kd.V_alloc | apply Kd.V_drewN | apply Kd.V_drew)); exact HO423.out) (Kd.S_base ho0) hb); have n1_ := Aside0.mk (Kd.S_lower ho0 (below_size (by repeat (first | (with_reducible first | exact HB.out | apply below_alloc | apply pw_below_drewN | apply below_drew1) | exact HB.out)))); have n2_ := Aside0.mk (below_step (by repeat (first | (with_reducible first | exact HB.out | apply below_alloc | apply pw_below_drewN | apply below_drew1) | exact HB.out)) hb); clear HO423; clear HB; have HO423 := n0_; have HO427 := n1_; have HB := n2_; clear n0_ n1_ n2_; (try clear hb); (try clear hb2); (try clear hk); (try clear hi); (try clear ho0)) | (go_at_call 26; (with_reducible refine (spec_WallList.calls k _ _ t421 t428 t429 _ ?side1 ?side2 A5.out).mono ?_); (case side1 => repeat (first | exact (Kd.V_reads' HO423.out).2.2 | (with_reducible refine Kd.C_alloc ?_ _) | (with_reducible refine Kd.C_drewN ?_ _) | (with_reducible refine Kd.C_drew ?_))); (case side2 => exact (Kd.V_reads' HO423.out).2.1); rintro e w10 ⟨v430, rfl, ho0, hb⟩; have n0_ := Aside0.mk (Kd.V_elder' (by (with_reducible repeat (first | apply Kd.V_alloc | apply Kd.V_drewN | apply Kd.V_drew)); exact HO423.out) (Kd.S_base ho0) hb); have n1_ := Aside0.mk (Kd.S_elder' (by (with_reducible repeat (first | apply Kd.S_alloc | apply Kd.S_drewN | apply Kd.S_drew)); exact HO427.out) (Kd.S_base ho0) hb); have n2_ := Aside0.mk (Kd.S_lower (Kd.S_new' ho0 (Kd.S_lt (by (with_reducible repeat (first | apply Kd.S_alloc | apply Kd.S_drewN | apply Kd.S_drew)); exact HO427.out))) (below_size (by repeat (first | (with_reducible first | exact HB.out | apply below_alloc | apply pw_below_drewN | apply below_drew1) | exact HB.out)))); have n3_ := Aside0.mk (below_step (by repeat (first | (with_reducible first | exact HB.out | apply below_alloc | apply pw_below_drewN | apply below_drew1) | exact HB.out)) hb); clear HO423; clear HO427; clear HB; have HO423 := n0_; have HO427 := n1_; have HO431 := n2_; have HB := n3_; clear n0_ n1_ n2_ n3_; (try clear hb); (try clear hb2); (try clear hk); (try clear hi); (try clear ho0))))
  (try simp only [Act.put, List.setIfInBounds_toArray, List.set_cons_zero, List.set_cons_succ])
  go_cut [43] (fun v43 wc => ∃ (kq : Nat) (x43_5 : Bool), v43 = .bool x43_5 ∧ Aside0 (laws_FnWallList.j0 kq t421 t424 t425 t428 t429 x43_5 = some r) ∧ Aside0 (kq ≤ k) ∧ Aside0 (Kd.V Kd.string 9 wc w.heap.size (fun k_ => some k_ ≠ (v426 : Value).ownBlock ∧ some k_ ≠ (v430 : Value).ownBlock) (.slice Ao8 t421.length co8) t421) ∧ Aside0 (Kd.S (Kd.slice 3 (Kd.int .i64)) 39 wc w.heap.size (fun k_ => some k_ ≠ (v430 : Value).ownBlock) v426 t424) ∧ Aside0 (Kd.S (Kd.slice 3 (Kd.int .i64)) 39 wc w.heap.size (fun k_ => some k_ ≠ (v426 : Value).ownBlock) v430 t428) ∧ Aside0 (Below w.heap.size w wc))
  case first =>
   have H := HC6.out
   clear HC6
   by_cases c11 : (t425 != t429) = true
   ·rw [if_pos c11] at H
    have c11b0 : (t425 != t429) = true := c11
    (try (have c11b1 : decide (t425 = t429) = false := by simpa using c11))
    (try (have c11b2 : (t425 == t429) = false := by simpa using c11))
    (try (have c11b3 : ¬ (t425 = t429) := by simpa using c11))
    clear c11
    (first | rw [c11b0] | (simp only [i64_w, i32_w]; rw [c11b0]) | skip)
    have H' := Aside0.mk H
    clear H
    go_wp2
    repeat (go_quiet (fail); try go_wp2)
    go_meet
    case rel => exact ⟨_, (true), (by first | rfl | (simp; done) | (simp [*]; done)), H', ⟨by first | omega | exact Nat.le_refl _⟩, ⟨by (with_reducible repeat (first | apply Kd.V_alloc | apply Kd.V_drewN | apply Kd.V_drew)); exact Kd.V_mono HO423.out (fun _ hk => ⟨hk.1.2, hk.2⟩)⟩, ⟨by (with_reducible repeat (first | apply Kd.S_alloc | apply Kd.S_drewN | apply Kd.S_drew)); exact Kd.S_mono HO427.out (fun _ hk => hk.2)⟩, ⟨by (with_reducible repeat (first | apply Kd.S_alloc | apply Kd.S_drewN | apply Kd.S_drew)); exact Kd.S_mono HO431.out (fun _ hk => hk.2)⟩, ⟨by repeat (first | (with_reducible first | exact HB.out | apply below_alloc | apply pw_below_drewN | apply below_drew1) | exact HB.out)⟩⟩
   ·rw [if_neg c11] at H
    have c11b0 : (t425 != t429) = false := by simpa using c11
    (try (have c11b1 : decide (t425 = t429) = true := by simpa using c11))
    (try (have c11b2 : (t425 == t429) = true := by simpa using c11))
    clear c11
    (first | rw [c11b0] | (simp only [i64_w, i32_w]; rw [c11b0]) | skip)
    replace H := Option.bind_eq_some_iff.mp H
    obtain ⟨t432, A120, H⟩ := H
    replace H : (if t432 = true then (laws_FnWallList.j0 k t421 t424 t425 t428 t429 (!t425)) else (laws_FnWallList.j0 k t421 t424 t425 t428 t429 true)) = some r := H
    have A12 := Aside0.mk A120
    clear A120
    by_cases c13 : t432 = true
    ·subst c13
     have H1 : (laws_FnWallList.j0 k t421 t424 t425 t428 t429 (!t425)) = some r := by rw [if_pos rfl] at H; exact H
     clear H
     have H := H1
     clear H1
     have H' := Aside0.mk H
     clear H
     obtain ⟨Ao14, co14, eo14⟩ := Kd.S_slice HO427.out
     subst eo14
     obtain ⟨Ao15, co15, eo15⟩ := Kd.S_slice HO431.out
     subst eo15
     go_wp2_with (first | (go_at_call 27; (with_reducible refine (laws_sameRows.calls k _ _ t424 _ _ t428 true _ ?side1 ?side2 ?side3 ?side4 A12.out).mono ?_); (case side1 => repeat (first | exact (Kd.S_reads' HO427.out).2.2 | (with_reducible refine Kd.C_alloc ?_ _) | (with_reducible refine Kd.C_drewN ?_ _) | (with_reducible refine Kd.C_drew ?_))); (case side2 => exact (Kd.S_reads' HO427.out).2.1); (case side3 => repeat (first | exact (Kd.S_reads' HO431.out).2.2 | (with_reducible refine Kd.C_alloc ?_ _) | (with_reducible refine Kd.C_drewN ?_ _) | (with_reducible refine Kd.C_drew ?_))); (case side4 => exact (Kd.S_reads' HO431.out).2.1); rintro e w' ⟨rfl, ⟨nd, rfl⟩⟩; (try first | exact ⟨rfl, _, World.drewN_drewN _ _ _⟩ | exact ⟨rfl, _, Eq.trans (World.drewN_drewN _ _ _) (congrArg (World.drewN _) (Nat.add_assoc _ _ _))⟩)))
     repeat (go_quiet (first | (go_at_call 27; (with_reducible refine (laws_sameRows.calls k _ _ t424 _ _ t428 true _ ?side1 ?side2 ?side3 ?side4 A12.out).mono ?_); (case side1 => repeat (first | exact (Kd.S_reads' HO427.out).2.2 | (with_reducible refine Kd.C_alloc ?_ _) | (with_reducible refine Kd.C_drewN ?_ _) | (with_reducible refine Kd.C_drew ?_))); (case side2 => exact (Kd.S_reads' HO427.out).2.1); (case side3 => repeat (first | exact (Kd.S_reads' HO431.out).2.2 | (with_reducible refine Kd.C_alloc ?_ _) | (with_reducible refine Kd.C_drewN ?_ _) | (with_reducible refine Kd.C_drew ?_))); (case side4 => exact (Kd.S_reads' HO431.out).2.1); rintro e w' ⟨rfl, ⟨nd, rfl⟩⟩; (try first | exact ⟨rfl, _, World.drewN_drewN _ _ _⟩ | exact ⟨rfl, _, Eq.trans (World.drewN_drewN _ _ _) (congrArg (World.drewN _) (Nat.add_assoc _ _ _))⟩))); try go_wp2_with (first | (go_at_call 27; (with_reducible refine (laws_sameRows.calls k _ _ t424 _ _ t428 true _ ?side1 ?side2 ?side3 ?side4 A12.out).mono ?_); (case side1 => repeat (first | exact (Kd.S_reads' HO427.out).2.2 | (with_reducible refine Kd.C_alloc ?_ _) | (with_reducible refine Kd.C_drewN ?_ _) | (with_reducible refine Kd.C_drew ?_))); (case side2 => exact (Kd.S_reads' HO427.out).2.1); (case side3 => repeat (first | exact (Kd.S_reads' HO431.out).2.2 | (with_reducible refine Kd.C_alloc ?_ _) | (with_reducible refine Kd.C_drewN ?_ _) | (with_reducible refine Kd.C_drew ?_))); (case side4 => exact (Kd.S_reads' HO431.out).2.1); rintro e w' ⟨rfl, ⟨nd, rfl⟩⟩; (try first | exact ⟨rfl, _, World.drewN_drewN _ _ _⟩ | exact ⟨rfl, _, Eq.trans (World.drewN_drewN _ _ _) (congrArg (World.drewN _) (Nat.add_assoc _ _ _))⟩))))
     go_meet
     case rel => exact ⟨_, (!t425), (by first | rfl | (simp; done) | (simp [*]; done)), H', ⟨by first | omega | exact Nat.le_refl _⟩, ⟨by (with_reducible repeat (first | apply Kd.V_alloc | apply Kd.V_drewN | apply Kd.V_drew)); exact Kd.V_mono HO423.out (fun _ hk => ⟨hk.1.2, hk.2⟩)⟩, ⟨by (with_reducible repeat (first | apply Kd.S_alloc | apply Kd.S_drewN | apply Kd.S_drew)); exact Kd.S_mono HO427.out (fun _ hk => hk.2)⟩, ⟨by (with_reducible repeat (first | apply Kd.S_alloc | apply Kd.S_drewN | apply Kd.S_drew)); exact Kd.S_mono HO431.out (fun _ hk => hk.2)⟩, ⟨by repeat (first | (with_reducible first | exact HB.out | apply below_alloc | apply pw_below_drewN | apply below_drew1) | exact HB.out)⟩⟩
    ·replace c13 := Bool.eq_false_iff.mpr c13
     subst c13
     have H1 : (laws_FnWallList.j0 k t421 t424 t425 t428 t429 true) = some r := by rw [if_neg (show ¬ (false = true) by decide)] at H; exact H
     clear H
     have H := H1
     clear H1
     have H' := Aside0.mk H
     clear H
     obtain ⟨Ao16, co16, eo16⟩ := Kd.S_slice HO427.out
     subst eo16
     obtain ⟨Ao17, co17, eo17⟩ := Kd.S_slice HO431.out
     subst eo17
     go_wp2_with (first | (go_at_call 27; (with_reducible refine (laws_sameRows.calls k _ _ t424 _ _ t428 false _ ?side1 ?side2 ?side3 ?side4 A12.out).mono ?_); (case side1 => repeat (first | exact (Kd.S_reads' HO427.out).2.2 | (with_reducible refine Kd.C_alloc ?_ _) | (with_reducible refine Kd.C_drewN ?_ _) | (with_reducible refine Kd.C_drew ?_))); (case side2 => exact (Kd.S_reads' HO427.out).2.1); (case side3 => repeat (first | exact (Kd.S_reads' HO431.out).2.2 | (with_reducible refine Kd.C_alloc ?_ _) | (with_reducible refine Kd.C_drewN ?_ _) | (with_reducible refine Kd.C_drew ?_))); (case side4 => exact (Kd.S_reads' HO431.out).2.1); rintro e w' ⟨rfl, ⟨nd, rfl⟩⟩; (try first | exact ⟨rfl, _, World.drewN_drewN _ _ _⟩ | exact ⟨rfl, _, Eq.trans (World.drewN_drewN _ _ _) (congrArg (World.drewN _) (Nat.add_assoc _ _ _))⟩)))
     repeat (go_quiet (first | (go_at_call 27; (with_reducible refine (laws_sameRows.calls k _ _ t424 _ _ t428 false _ ?side1 ?side2 ?side3 ?side4 A12.out).mono ?_); (case side1 => repeat (first | exact (Kd.S_reads' HO427.out).2.2 | (with_reducible refine Kd.C_alloc ?_ _) | (with_reducible refine Kd.C_drewN ?_ _) | (with_reducible refine Kd.C_drew ?_))); (case side2 => exact (Kd.S_reads' HO427.out).2.1); (case side3 => repeat (first | exact (Kd.S_reads' HO431.out).2.2 | (with_reducible refine Kd.C_alloc ?_ _) | (with_reducible refine Kd.C_drewN ?_ _) | (with_reducible refine Kd.C_drew ?_))); (case side4 => exact (Kd.S_reads' HO431.out).2.1); rintro e w' ⟨rfl, ⟨nd, rfl⟩⟩; (try first | exact ⟨rfl, _, World.drewN_drewN _ _ _⟩ | exact ⟨rfl, _, Eq.trans (World.drewN_drewN _ _ _) (congrArg (World.drewN _) (Nat.add_assoc _ _ _))⟩))); try go_wp2_with (first | (go_at_call 27; (with_reducible refine (laws_sameRows.calls k _ _ t424 _ _ t428 false _ ?side1 ?side2 ?side3 ?side4 A12.out).mono ?_); (case side1 => repeat (first | exact (Kd.S_reads' HO427.out).2.2 | (with_reducible refine Kd.C_alloc ?_ _) | (with_reducible refine Kd.C_drewN ?_ _) | (with_reducible refine Kd.C_drew ?_))); (case side2 => exact (Kd.S_reads' HO427.out).2.1); (case side3 => repeat (first | exact (Kd.S_reads' HO431.out).2.2 | (with_reducible refine Kd.C_alloc ?_ _) | (with_reducible refine Kd.C_drewN ?_ _) | (with_reducible refine Kd.C_drew ?_))); (case side4 => exact (Kd.S_reads' HO431.out).2.1); rintro e w' ⟨rfl, ⟨nd, rfl⟩⟩; (try first | exact ⟨rfl, _, World.drewN_drewN _ _ _⟩ | exact ⟨rfl, _, Eq.trans (World.drewN_drewN _ _ _) (congrArg (World.drewN _) (Nat.add_assoc _ _ _))⟩))))
     go_meet
     case rel => exact ⟨_, (true), (by first | rfl | (simp; done) | (simp [*]; done)), H', ⟨by first | omega | exact Nat.le_refl _⟩, ⟨by (with_reducible repeat (first | apply Kd.V_alloc | apply Kd.V_drewN | apply Kd.V_drew)); exact Kd.V_mono HO423.out (fun _ hk => ⟨hk.1.2, hk.2⟩)⟩, ⟨by (with_reducible repeat (first | apply Kd.S_alloc | apply Kd.S_drewN | apply Kd.S_drew)); exact Kd.S_mono HO427.out (fun _ hk => hk.2)⟩, ⟨by (with_reducible repeat (first | apply Kd.S_alloc | apply Kd.S_drewN | apply Kd.S_drew)); exact Kd.S_mono HO431.out (fun _ hk => hk.2)⟩, ⟨by repeat (first | (with_reducible first | exact HB.out | apply below_alloc | apply pw_below_drewN | apply below_drew1) | exact HB.out)⟩⟩
  case rest =>
   clear HC6
   try clear c1
   try clear c2
   try clear c2b0
   try clear c2b1
   try clear p2
   try clear c5
   try clear c11
   try clear c11b0
   try clear c11b1
   try clear c11b2
   try clear c13
   obtain ⟨kq, x43_5, rfl, HA, HJ5, HO_3, HO_4, HO_6, HB⟩ := hcut
   cases kq with
   | zero => exact absurd HA.out (by simp [laws_FnWallList.j0])
   | succ kj5 =>
    have H := HA.out
    clear HA
    simp only [laws_FnWallList.j0] at H
    by_cases c18 : x43_5 = true
    ·subst c18
     have H1 : (if (t425 == t429) = true then ((laws_sameRows.f kj5 t424 t428).bind fun t433 => (some t433)) else (some false)) = some r := by rw [if_pos rfl] at H; exact H
     clear H
     have H := H1
     clear H1
     by_cases c19 : (t425 == t429) = true
     ·rw [if_pos c19] at H
      have c19b0 : (t425 == t429) = true := c19
      (try (have c19b1 : decide (t425 = t429) = true := by simpa using c19))
      (try (have c19b2 : (t425 == t429) = true := by simpa using c19))
      clear c19
      replace H := Option.bind_eq_some_iff.mp H
      obtain ⟨t433, A200, H⟩ := H
      replace H : (some t433) = some r := H
      have A20 := Aside0.mk A200
      clear A200
      obtain rfl := Option.some.inj H
      obtain ⟨Ao21, co21, eo21⟩ := Kd.S_slice HO_4.out
      subst eo21
      obtain ⟨Ao22, co22, eo22⟩ := Kd.S_slice HO_6.out
      subst eo22
      go_wp2_with (first | (go_at_call 27; (with_reducible refine (laws_sameRows.calls kj5 _ _ t424 _ _ t428 t433 _ ?side1 ?side2 ?side3 ?side4 A20.out).mono ?_); (case side1 => repeat (first | exact (Kd.S_reads' HO_4.out).2.2 | (with_reducible refine Kd.C_alloc ?_ _) | (with_reducible refine Kd.C_drewN ?_ _) | (with_reducible refine Kd.C_drew ?_))); (case side2 => exact (Kd.S_reads' HO_4.out).2.1); (case side3 => repeat (first | exact (Kd.S_reads' HO_6.out).2.2 | (with_reducible refine Kd.C_alloc ?_ _) | (with_reducible refine Kd.C_drewN ?_ _) | (with_reducible refine Kd.C_drew ?_))); (case side4 => exact (Kd.S_reads' HO_6.out).2.1); rintro e w' ⟨rfl, ⟨nd, rfl⟩⟩; (try first | exact ⟨rfl, _, World.drewN_drewN _ _ _⟩ | exact ⟨rfl, _, Eq.trans (World.drewN_drewN _ _ _) (congrArg (World.drewN _) (Nat.add_assoc _ _ _))⟩)))
      repeat (go_quiet (first | (go_at_call 27; (with_reducible refine (laws_sameRows.calls kj5 _ _ t424 _ _ t428 t433 _ ?side1 ?side2 ?side3 ?side4 A20.out).mono ?_); (case side1 => repeat (first | exact (Kd.S_reads' HO_4.out).2.2 | (with_reducible refine Kd.C_alloc ?_ _) | (with_reducible refine Kd.C_drewN ?_ _) | (with_reducible refine Kd.C_drew ?_))); (case side2 => exact (Kd.S_reads' HO_4.out).2.1); (case side3 => repeat (first | exact (Kd.S_reads' HO_6.out).2.2 | (with_reducible refine Kd.C_alloc ?_ _) | (with_reducible refine Kd.C_drewN ?_ _) | (with_reducible refine Kd.C_drew ?_))); (case side4 => exact (Kd.S_reads' HO_6.out).2.1); rintro e w' ⟨rfl, ⟨nd, rfl⟩⟩; (try first | exact ⟨rfl, _, World.drewN_drewN _ _ _⟩ | exact ⟨rfl, _, Eq.trans (World.drewN_drewN _ _ _) (congrArg (World.drewN _) (Nat.add_assoc _ _ _))⟩))); try go_wp2_with (first | (go_at_call 27; (with_reducible refine (laws_sameRows.calls kj5 _ _ t424 _ _ t428 t433 _ ?side1 ?side2 ?side3 ?side4 A20.out).mono ?_); (case side1 => repeat (first | exact (Kd.S_reads' HO_4.out).2.2 | (with_reducible refine Kd.C_alloc ?_ _) | (with_reducible refine Kd.C_drewN ?_ _) | (with_reducible refine Kd.C_drew ?_))); (case side2 => exact (Kd.S_reads' HO_4.out).2.1); (case side3 => repeat (first | exact (Kd.S_reads' HO_6.out).2.2 | (with_reducible refine Kd.C_alloc ?_ _) | (with_reducible refine Kd.C_drewN ?_ _) | (with_reducible refine Kd.C_drew ?_))); (case side4 => exact (Kd.S_reads' HO_6.out).2.1); rintro e w' ⟨rfl, ⟨nd, rfl⟩⟩; (try first | exact ⟨rfl, _, World.drewN_drewN _ _ _⟩ | exact ⟨rfl, _, Eq.trans (World.drewN_drewN _ _ _) (congrArg (World.drewN _) (Nat.add_assoc _ _ _))⟩))))
      go_ret
      exact ⟨by first | rfl | (simp [errW_none, errW_some] <;> rfl) | (simp [*, errW_none, errW_some] <;> rfl), by repeat (first | (with_reducible first | exact HB.out | apply below_alloc | apply pw_below_drewN | apply below_drew1) | exact HB.out)⟩
     ·rw [if_neg c19] at H
      have c19b0 : (t425 == t429) = false := by simpa using c19
      (try (have c19b1 : decide (t425 = t429) = false := by simpa using c19))
      (try (have c19b2 : (t425 == t429) = false := by simpa using c19))
      (try (have c19b3 : ¬ (t425 = t429) := by simpa using c19))
      clear c19
      obtain rfl := Option.some.inj H
      go_wp2
      repeat (go_quiet (fail); try go_wp2)
      go_ret
      exact ⟨by first | rfl | (simp [errW_none, errW_some] <;> rfl) | (simp [*, errW_none, errW_some] <;> rfl), by repeat (first | (with_reducible first | exact HB.out | apply below_alloc | apply pw_below_drewN | apply below_drew1) | exact HB.out)⟩
    ·replace c18 := Bool.eq_false_iff.mpr c18
     subst c18
     have H1 : ((impl_WallMany.f t421).bind fun bt434 => (laws_FnWallList.l0 kj5 t421 t424 bt434.1 bt434.2.1 bt434.2.2 0 0)) = some r := by rw [if_neg (show ¬ (false = true) by decide)] at H; exact H
     clear H
     have H := H1
     clear H1
     replace H := Option.bind_eq_some_iff.mp H
     obtain ⟨⟨t434, t435, t436⟩, A230, H⟩ := H
     replace H : (laws_FnWallList.l0 kj5 t421 t424 t434 t435 t436 0 0) = some r := H
     have A23 := Aside0.mk A230
     clear A230
     have H' := Aside0.mk H
     clear H
     go_wp2_with (first | (go_at_call 28; (with_reducible refine (impl_WallMany.calls _ _ t421 t434 t435 t436 _ ?side1 ?side2 A23.out).mono ?_); (case side1 => repeat (first | exact (Kd.V_reads' HO_3.out).2.2 | (with_reducible refine Kd.C_alloc ?_ _) | (with_reducible refine Kd.C_drewN ?_ _) | (with_reducible refine Kd.C_drew ?_))); (case side2 => exact (Kd.V_reads' HO_3.out).2.1); rintro e w24 ⟨rfl, hb⟩; have n0_ := Aside0.mk (Kd.V_below (by (with_reducible repeat (first | apply Kd.V_alloc | apply Kd.V_drewN | apply Kd.V_drew)); exact HO_3.out) hb); have n1_ := Aside0.mk (Kd.S_below (by (with_reducible repeat (first | apply Kd.S_alloc | apply Kd.S_drewN | apply Kd.S_drew)); exact HO_4.out) hb); have n2_ := Aside0.mk (Kd.S_below (by (with_reducible repeat (first | apply Kd.S_alloc | apply Kd.S_drewN | apply Kd.S_drew)); exact HO_6.out) hb); have n3_ := Aside0.mk (below_step (by repeat (first | (with_reducible first | exact HB.out | apply below_alloc | apply pw_below_drewN | apply below_drew1) | exact HB.out)) hb); clear HO_3; clear HO_4; clear HO_6; clear HB; have HO_3 := n0_; have HO_4 := n1_; have HO_6 := n2_; have HB := n3_; clear n0_ n1_ n2_ n3_; (try clear hb); (try clear hb2); (try clear hk); (try clear hi)))
     repeat (go_quiet (first | (go_at_call 28; (with_reducible refine (impl_WallMany.calls _ _ t421 t434 t435 t436 _ ?side1 ?side2 A23.out).mono ?_); (case side1 => repeat (first | exact (Kd.V_reads' HO_3.out).2.2 | (with_reducible refine Kd.C_alloc ?_ _) | (with_reducible refine Kd.C_drewN ?_ _) | (with_reducible refine Kd.C_drew ?_))); (case side2 => exact (Kd.V_reads' HO_3.out).2.1); rintro e w24 ⟨rfl, hb⟩; have n0_ := Aside0.mk (Kd.V_below (by (with_reducible repeat (first | apply Kd.V_alloc | apply Kd.V_drewN | apply Kd.V_drew)); exact HO_3.out) hb); have n1_ := Aside0.mk (Kd.S_below (by (with_reducible repeat (first | apply Kd.S_alloc | apply Kd.S_drewN | apply Kd.S_drew)); exact HO_4.out) hb); have n2_ := Aside0.mk (Kd.S_below (by (with_reducible repeat (first | apply Kd.S_alloc | apply Kd.S_drewN | apply Kd.S_drew)); exact HO_6.out) hb); have n3_ := Aside0.mk (below_step (by repeat (first | (with_reducible first | exact HB.out | apply below_alloc | apply pw_below_drewN | apply below_drew1) | exact HB.out)) hb); clear HO_3; clear HO_4; clear HO_6; clear HB; have HO_3 := n0_; have HO_4 := n1_; have HO_6 := n2_; have HB := n3_; clear n0_ n1_ n2_ n3_; (try clear hb); (try clear hb2); (try clear hk); (try clear hi))); try go_wp2_with (first | (go_at_call 28; (with_reducible refine (impl_WallMany.calls _ _ t421 t434 t435 t436 _ ?side1 ?side2 A23.out).mono ?_); (case side1 => repeat (first | exact (Kd.V_reads' HO_3.out).2.2 | (with_reducible refine Kd.C_alloc ?_ _) | (with_reducible refine Kd.C_drewN ?_ _) | (with_reducible refine Kd.C_drew ?_))); (case side2 => exact (Kd.V_reads' HO_3.out).2.1); rintro e w24 ⟨rfl, hb⟩; have n0_ := Aside0.mk (Kd.V_below (by (with_reducible repeat (first | apply Kd.V_alloc | apply Kd.V_drewN | apply Kd.V_drew)); exact HO_3.out) hb); have n1_ := Aside0.mk (Kd.S_below (by (with_reducible repeat (first | apply Kd.S_alloc | apply Kd.S_drewN | apply Kd.S_drew)); exact HO_4.out) hb); have n2_ := Aside0.mk (Kd.S_below (by (with_reducible repeat (first | apply Kd.S_alloc | apply Kd.S_drewN | apply Kd.S_drew)); exact HO_6.out) hb); have n3_ := Aside0.mk (below_step (by repeat (first | (with_reducible first | exact HB.out | apply below_alloc | apply pw_below_drewN | apply below_drew1) | exact HB.out)) hb); clear HO_3; clear HO_4; clear HO_6; clear HB; have HO_3 := n0_; have HO_4 := n1_; have HO_6 := n2_; have HB := n3_; clear n0_ n1_ n2_ n3_; (try clear hb); (try clear hb2); (try clear hk); (try clear hi))))
     go_loopg [11, 12] kj5 (fun kq v11 v12 w' => ∃ (x11_2 : Int) (x12_2 : Int), v11 = .int .i64 x11_2 ∧ v12 = .int .i64 x12_2 ∧ Aside0 (laws_FnWallList.l0 kq t421 t424 t434 t435 t436 x11_2 x12_2 = some r) ∧ Aside0 (kq ≤ kj5) ∧ Aside0 (Kd.V Kd.string 9 w' w.heap.size (fun k_ => some k_ ≠ (v426 : Value).ownBlock) (.slice Ao8 t421.length co8) t421) ∧ Aside0 (Kd.S (Kd.slice 3 (Kd.int .i64)) 39 w' w.heap.size (fun _ => True) v426 t424) ∧ Aside0 (Below w.heap.size w w'))
     case atStart => exact ⟨(0), (0), (by first | rfl | (simp; done) | (simp [*]; done)), (by first | rfl | (simp; done) | (simp [*]; done)), H', ⟨Nat.le_refl _⟩, ⟨by (with_reducible repeat (first | apply Kd.V_alloc | apply Kd.V_drewN | apply Kd.V_drew)); exact Kd.V_mono HO_3.out (fun _ hk => hk.1)⟩, ⟨by (with_reducible repeat (first | apply Kd.S_alloc | apply Kd.S_drewN | apply Kd.S_drew)); exact Kd.S_mono HO_4.out (fun _ hk => trivial)⟩, ⟨by repeat (first | (with_reducible first | exact HB.out | apply below_alloc | apply pw_below_drewN | apply below_drew1) | exact HB.out)⟩⟩
     case round =>
      clear H'
      try clear c1
      try clear c2
      try clear c2b0
      try clear c2b1
      try clear p2
      try clear c5
      try clear c11
      try clear c11b0
      try clear c11b1
      try clear c11b2
      try clear c13
      try clear c18
      try clear c19
      try clear c19b0
      try clear c19b1
      try clear c19b2
      try clear p2
      obtain ⟨x11_2, x12_2, rfl, rfl, HA, HK2, HO_3, HO_4, HB⟩ := hrel
      cases gk with
      | zero => exact absurd HA.out (by simp [laws_FnWallList.l0])
      | succ k2 =>
       have H := HA.out
       clear HA
       simp only [laws_FnWallList.l0] at H
       by_cases c25 : x12_2 < (t424.length : Int)
       ·rw [if_pos c25] at H
        have c25b0 : decide (x12_2 < (t424.length : Int)) = true := decide_eq_true c25
        clear c25
        by_cases c26 : 0 ≤ x12_2
        ·rw [if_pos c26] at H
         have c26b0 : decide (0 ≤ x12_2) = true := decide_eq_true c26
         clear c26
         by_cases c27 : 0 < (t421.length : Int)
         ·rw [if_pos c27] at H
          have c27b0 : decide (0 < (t421.length : Int)) = true := decide_eq_true c27
          have c27b1 : decide (0 < t421.length) = true := decide_eq_true (by omega)
          clear c27
          by_cases c28 : 0 < ((rd_L1 t424 x12_2).length : Int)
          ·rw [if_pos c28] at H
           have c28b0 : decide (0 < ((rd_L1 t424 x12_2).length : Int)) = true := decide_eq_true c28
           have c28b1 : decide (0 < (rd_L1 t424 x12_2).length) = true := decide_eq_true (by omega)
           clear c28
           by_cases c29 : (rd (rd_L1 t424 x12_2) 0) = 1
           ·rw [if_pos c29] at H
            have c29b0 : ((rd (rd_L1 t424 x12_2) 0) == 1) = true := beq_iff_eq.mpr c29
            have c29b1 : ((rd (rd_L1 t424 x12_2) 0) != 1) = false := bne_eq_false_iff_eq.mpr c29
            clear c29
            by_cases c30 : 1 < ((rd_L1 t424 x12_2).length : Int)
            ·rw [if_pos c30] at H
             have c30b0 : decide (1 < ((rd_L1 t424 x12_2).length : Int)) = true := decide_eq_true c30
             have c30b1 : decide (1 < (rd_L1 t424 x12_2).length) = true := decide_eq_true (by omega)
             clear c30
             by_cases c31 : (rd (rd_L1 t424 x12_2) 1) < 1
             ·rw [if_pos c31] at H
              have c31b0 : decide ((rd (rd_L1 t424 x12_2) 1) < 1) = true := decide_eq_true c31
              clear c31
              obtain rfl := Option.some.inj H
              obtain ⟨Ao32, co32, eo32⟩ := Kd.S_slice HO_4.out
              subst eo32
              have p437 : 0 ≤ (x12_2 : Int) := of_decide_eq_true (by first | (with_reducible assumption) | assumption)
              have q437 : x12_2 < (t424.length : Int) := of_decide_eq_true (by first | (with_reducible assumption) | assumption)
              obtain ⟨ad437, A437_0, c437_0, e437, hx437_0, hl437_0, hi437_0⟩ := at_L1 (Kd.S_reads' HO_4.out).2.2 x12_2 p437 q437
              cases e437
              obtain ⟨ce437, hce437, hMe437, hcc437⟩ := Kd.S_get HO_4.out [] x12_2 p437 (by first | exact q437 | exact of_decide_eq_true (by first | (with_reducible assumption) | assumption) | (have e_ := (Kd.S_reads' HO_4.out).1; omega))
              obtain ⟨ve437_0, rfl, ge437_0⟩ := hMe437
              have hv437_0 := hcc437 0 _ rfl
              rw [Nat.add_zero, show ((Kd.slice 3 (Kd.int .i64))).sz = 1 from rfl, Nat.mul_one] at hv437_0
              replace hv437_0 := Option.some.inj (hv437_0.symm.trans hx437_0)
              rw [hv437_0] at ge437_0
              have HL437_0 := Aside0.mk (show Kd.R (Kd.int .i64) 3 _ _ _ _ (rd_L1 t424 x12_2) from ge437_0)
              clear hv437_0 ge437_0
              clear hcc437 hce437
              have HR437_0 := Aside0.mk hi437_0
              have HC437_0 := Aside0.mk hl437_0
              clear hi437_0 hl437_0
              replace p437 := eq_true p437
              replace q437 := eq_true q437
              have p438 : 0 ≤ (0 : Int) := (by omega)
              have q438 : 0 < (t421.length : Int) := of_decide_eq_true (by first | (with_reducible assumption) | assumption)
              obtain ⟨ad438, e438, hx438_0⟩ := Kd.at_string (Kd.V_reads' HO_3.out).2.2 0 p438 q438
              cases e438
              have qi438 : (0 < t421.length) = True := eq_true (by omega)
              (try rw [show ((0 : Int)).toNat = 0 from rfl] at hx438_0)
              (try rw [Addr.add_zero'] at hx438_0)
              replace p438 := eq_true p438
              replace q438 := eq_true q438
              have p439 : 0 ≤ (0 : Int) := (by omega)
              have q439 : 0 < ((rd_L1 t424 x12_2).length : Int) := of_decide_eq_true (by first | (with_reducible assumption) | assumption)
              obtain ⟨ad439, e439, hx439_0⟩ := Kd.at_int (by repeat (first | (with_reducible exact HR437_0.out) | (with_reducible refine Kd.C_alloc ?_ _) | (with_reducible refine Kd.C_drewN ?_ _) | (with_reducible refine Kd.C_drew ?_) | exact HR437_0.out)) 0 p439 q439
              cases e439
              have qi439 : (0 < (rd_L1 t424 x12_2).length) = True := eq_true (by omega)
              (try rw [show ((0 : Int)).toNat = 0 from rfl] at hx439_0)
              (try rw [Addr.add_zero'] at hx439_0)
              replace p439 := eq_true p439
              replace q439 := eq_true q439
              have p440 : 0 ≤ (0 : Int) := (by omega)
              have q440 : 0 < (t421.length : Int) := of_decide_eq_true (by first | (with_reducible assumption) | assumption)
              obtain ⟨ad440, e440, hx440_0⟩ := Kd.at_string (Kd.V_reads' HO_3.out).2.2 0 p440 q440
              obtain rfl : ad438 = ad440 := (by injection e440)
              have qi440 : (0 < t421.length) = True := eq_true (by omega)
              (try rw [show ((0 : Int)).toNat = 0 from rfl] at hx440_0)
              (try rw [Addr.add_zero'] at hx440_0)
              replace p440 := eq_true p440
              replace q440 := eq_true q440
              have p441 : 0 ≤ (1 : Int) := (by omega)
              have q441 : 1 < ((rd_L1 t424 x12_2).length : Int) := of_decide_eq_true (by first | (with_reducible assumption) | assumption)
              obtain ⟨ad441, e441, hx441_0⟩ := Kd.at_int (by repeat (first | (with_reducible exact HR437_0.out) | (with_reducible refine Kd.C_alloc ?_ _) | (with_reducible refine Kd.C_drewN ?_ _) | (with_reducible refine Kd.C_drew ?_) | exact HR437_0.out)) 1 p441 q441
              obtain rfl : ad439 = ad441 := (by injection e441)
              (try simp only [show (1 : Int).toNat = 1 from rfl, Nat.reduceMul, Nat.reduceEqDiff, Go.Addr.add, ↓reduceIte] at hx441_0)
              have qi441 : (1 < (rd_L1 t424 x12_2).length) = True := eq_true (by omega)
              (try rw [show ((1 : Int)).toNat = 1 from rfl] at hx441_0)
              replace p441 := eq_true p441
              replace q441 := eq_true q441
              go_wp2
              repeat (go_quiet (fail); try go_wp2)
              go_ret
              exact ⟨by first | rfl | (simp [errW_none, errW_some] <;> rfl) | (simp [*, errW_none, errW_some] <;> rfl), by repeat (first | (with_reducible first | exact HB.out | apply below_alloc | apply pw_below_drewN | apply below_drew1) | exact HB.out)⟩
             ·rw [if_neg c31] at H
              have c31b0 : decide ((rd (rd_L1 t424 x12_2) 1) < 1) = false := decide_eq_false c31
              clear c31
              by_cases c33 : (rd (rd_L1 t424 x12_2) 1) ≥ (t421.length : Int)
              ·rw [if_pos c33] at H
               have c33b0 : decide ((t421.length : Int) ≤ (rd (rd_L1 t424 x12_2) 1)) = true := decide_eq_true c33
               clear c33
               obtain rfl := Option.some.inj H
               obtain ⟨Ao34, co34, eo34⟩ := Kd.S_slice HO_4.out
               subst eo34
               have p437 : 0 ≤ (x12_2 : Int) := of_decide_eq_true (by first | (with_reducible assumption) | assumption)
               have q437 : x12_2 < (t424.length : Int) := of_decide_eq_true (by first | (with_reducible assumption) | assumption)
               obtain ⟨ad437, A437_0, c437_0, e437, hx437_0, hl437_0, hi437_0⟩ := at_L1 (Kd.S_reads' HO_4.out).2.2 x12_2 p437 q437
               cases e437
               obtain ⟨ce437, hce437, hMe437, hcc437⟩ := Kd.S_get HO_4.out [] x12_2 p437 (by first | exact q437 | exact of_decide_eq_true (by first | (with_reducible assumption) | assumption) | (have e_ := (Kd.S_reads' HO_4.out).1; omega))
               obtain ⟨ve437_0, rfl, ge437_0⟩ := hMe437
               have hv437_0 := hcc437 0 _ rfl
               rw [Nat.add_zero, show ((Kd.slice 3 (Kd.int .i64))).sz = 1 from rfl, Nat.mul_one] at hv437_0
               replace hv437_0 := Option.some.inj (hv437_0.symm.trans hx437_0)
               rw [hv437_0] at ge437_0
               have HL437_0 := Aside0.mk (show Kd.R (Kd.int .i64) 3 _ _ _ _ (rd_L1 t424 x12_2) from ge437_0)
               clear hv437_0 ge437_0
               clear hcc437 hce437
               have HR437_0 := Aside0.mk hi437_0
               have HC437_0 := Aside0.mk hl437_0
               clear hi437_0 hl437_0
               replace p437 := eq_true p437
               replace q437 := eq_true q437
               have p438 : 0 ≤ (0 : Int) := (by omega)
               have q438 : 0 < (t421.length : Int) := of_decide_eq_true (by first | (with_reducible assumption) | assumption)
               obtain ⟨ad438, e438, hx438_0⟩ := Kd.at_string (Kd.V_reads' HO_3.out).2.2 0 p438 q438
               cases e438
               have qi438 : (0 < t421.length) = True := eq_true (by omega)
               (try rw [show ((0 : Int)).toNat = 0 from rfl] at hx438_0)
               (try rw [Addr.add_zero'] at hx438_0)
               replace p438 := eq_true p438
               replace q438 := eq_true q438
               have p439 : 0 ≤ (0 : Int) := (by omega)
               have q439 : 0 < ((rd_L1 t424 x12_2).length : Int) := of_decide_eq_true (by first | (with_reducible assumption) | assumption)
               obtain ⟨ad439, e439, hx439_0⟩ := Kd.at_int (by repeat (first | (with_reducible exact HR437_0.out) | (with_reducible refine Kd.C_alloc ?_ _) | (with_reducible refine Kd.C_drewN ?_ _) | (with_reducible refine Kd.C_drew ?_) | exact HR437_0.out)) 0 p439 q439
               cases e439
               have qi439 : (0 < (rd_L1 t424 x12_2).length) = True := eq_true (by omega)
               (try rw [show ((0 : Int)).toNat = 0 from rfl] at hx439_0)
               (try rw [Addr.add_zero'] at hx439_0)
               replace p439 := eq_true p439
               replace q439 := eq_true q439
               have p440 : 0 ≤ (0 : Int) := (by omega)
               have q440 : 0 < (t421.length : Int) := of_decide_eq_true (by first | (with_reducible assumption) | assumption)
               obtain ⟨ad440, e440, hx440_0⟩ := Kd.at_string (Kd.V_reads' HO_3.out).2.2 0 p440 q440
               obtain rfl : ad438 = ad440 := (by injection e440)
               have qi440 : (0 < t421.length) = True := eq_true (by omega)
               (try rw [show ((0 : Int)).toNat = 0 from rfl] at hx440_0)
               (try rw [Addr.add_zero'] at hx440_0)
               replace p440 := eq_true p440
               replace q440 := eq_true q440
               have p441 : 0 ≤ (1 : Int) := (by omega)
               have q441 : 1 < ((rd_L1 t424 x12_2).length : Int) := of_decide_eq_true (by first | (with_reducible assumption) | assumption)
               obtain ⟨ad441, e441, hx441_0⟩ := Kd.at_int (by repeat (first | (with_reducible exact HR437_0.out) | (with_reducible refine Kd.C_alloc ?_ _) | (with_reducible refine Kd.C_drewN ?_ _) | (with_reducible refine Kd.C_drew ?_) | exact HR437_0.out)) 1 p441 q441
               obtain rfl : ad439 = ad441 := (by injection e441)
               (try simp only [show (1 : Int).toNat = 1 from rfl, Nat.reduceMul, Nat.reduceEqDiff, Go.Addr.add, ↓reduceIte] at hx441_0)
               have qi441 : (1 < (rd_L1 t424 x12_2).length) = True := eq_true (by omega)
               (try rw [show ((1 : Int)).toNat = 1 from rfl] at hx441_0)
               replace p441 := eq_true p441
               replace q441 := eq_true q441
               have p442 : 0 ≤ (1 : Int) := (by omega)
               have q442 : 1 < ((rd_L1 t424 x12_2).length : Int) := of_decide_eq_true (by first | (with_reducible assumption) | assumption)
               obtain ⟨ad442, e442, hx442_0⟩ := Kd.at_int (by repeat (first | (with_reducible exact HR437_0.out) | (with_reducible refine Kd.C_alloc ?_ _) | (with_reducible refine Kd.C_drewN ?_ _) | (with_reducible refine Kd.C_drew ?_) | exact HR437_0.out)) 1 p442 q442
               obtain rfl : ad439 = ad442 := (by injection e442)
               (try simp only [show (1 : Int).toNat = 1 from rfl, Nat.reduceMul, Nat.reduceEqDiff, Go.Addr.add, ↓reduceIte] at hx442_0)
               have qi442 : (1 < (rd_L1 t424 x12_2).length) = True := eq_true (by omega)
               (try rw [show ((1 : Int)).toNat = 1 from rfl] at hx442_0)
               replace p442 := eq_true p442
               replace q442 := eq_true q442
               go_wp2
               repeat (go_quiet (fail); try go_wp2)
               go_ret
               exact ⟨by first | rfl | (simp [errW_none, errW_some] <;> rfl) | (simp [*, errW_none, errW_some] <;> rfl), by repeat (first | (with_reducible first | exact HB.out | apply below_alloc | apply pw_below_drewN | apply below_drew1) | exact HB.out)⟩
              ·rw [if_neg c33] at H
               have c33b0 : decide ((t421.length : Int) ≤ (rd (rd_L1 t424 x12_2) 1)) = false := decide_eq_false c33
               clear c33
               by_cases c35 : 2 < ((rd_L1 t424 x12_2).length : Int)
               ·rw [if_pos c35] at H
                have c35b0 : decide (2 < ((rd_L1 t424 x12_2).length : Int)) = true := decide_eq_true c35
                have c35b1 : decide (2 < (rd_L1 t424 x12_2).length) = true := decide_eq_true (by omega)
                clear c35
                by_cases c36 : (rd (rd_L1 t424 x12_2) 2) < 0
                ·rw [if_pos c36] at H
                 have c36b0 : decide ((rd (rd_L1 t424 x12_2) 2) < 0) = true := decide_eq_true c36
                 clear c36
                 obtain rfl := Option.some.inj H
                 obtain ⟨Ao37, co37, eo37⟩ := Kd.S_slice HO_4.out
                 subst eo37
                 have p437 : 0 ≤ (x12_2 : Int) := of_decide_eq_true (by first | (with_reducible assumption) | assumption)
                 have q437 : x12_2 < (t424.length : Int) := of_decide_eq_true (by first | (with_reducible assumption) | assumption)
                 obtain ⟨ad437, A437_0, c437_0, e437, hx437_0, hl437_0, hi437_0⟩ := at_L1 (Kd.S_reads' HO_4.out).2.2 x12_2 p437 q437
                 cases e437
                 obtain ⟨ce437, hce437, hMe437, hcc437⟩ := Kd.S_get HO_4.out [] x12_2 p437 (by first | exact q437 | exact of_decide_eq_true (by first | (with_reducible assumption) | assumption) | (have e_ := (Kd.S_reads' HO_4.out).1; omega))
                 obtain ⟨ve437_0, rfl, ge437_0⟩ := hMe437
                 have hv437_0 := hcc437 0 _ rfl
                 rw [Nat.add_zero, show ((Kd.slice 3 (Kd.int .i64))).sz = 1 from rfl, Nat.mul_one] at hv437_0
                 replace hv437_0 := Option.some.inj (hv437_0.symm.trans hx437_0)
                 rw [hv437_0] at ge437_0
                 have HL437_0 := Aside0.mk (show Kd.R (Kd.int .i64) 3 _ _ _ _ (rd_L1 t424 x12_2) from ge437_0)
                 clear hv437_0 ge437_0
                 clear hcc437 hce437
                 have HR437_0 := Aside0.mk hi437_0
                 have HC437_0 := Aside0.mk hl437_0
                 clear hi437_0 hl437_0
                 replace p437 := eq_true p437
                 replace q437 := eq_true q437
                 have p438 : 0 ≤ (0 : Int) := (by omega)
                 have q438 : 0 < (t421.length : Int) := of_decide_eq_true (by first | (with_reducible assumption) | assumption)
                 obtain ⟨ad438, e438, hx438_0⟩ := Kd.at_string (Kd.V_reads' HO_3.out).2.2 0 p438 q438
                 cases e438
                 have qi438 : (0 < t421.length) = True := eq_true (by omega)
                 (try rw [show ((0 : Int)).toNat = 0 from rfl] at hx438_0)
                 (try rw [Addr.add_zero'] at hx438_0)
                 replace p438 := eq_true p438
                 replace q438 := eq_true q438
                 have p439 : 0 ≤ (0 : Int) := (by omega)
                 have q439 : 0 < ((rd_L1 t424 x12_2).length : Int) := of_decide_eq_true (by first | (with_reducible assumption) | assumption)
                 obtain ⟨ad439, e439, hx439_0⟩ := Kd.at_int (by repeat (first | (with_reducible exact HR437_0.out) | (with_reducible refine Kd.C_alloc ?_ _) | (with_reducible refine Kd.C_drewN ?_ _) | (with_reducible refine Kd.C_drew ?_) | exact HR437_0.out)) 0 p439 q439
                 cases e439
                 have qi439 : (0 < (rd_L1 t424 x12_2).length) = True := eq_true (by omega)
                 (try rw [show ((0 : Int)).toNat = 0 from rfl] at hx439_0)
                 (try rw [Addr.add_zero'] at hx439_0)
                 replace p439 := eq_true p439
                 replace q439 := eq_true q439
                 have p440 : 0 ≤ (0 : Int) := (by omega)
                 have q440 : 0 < (t421.length : Int) := of_decide_eq_true (by first | (with_reducible assumption) | assumption)
                 obtain ⟨ad440, e440, hx440_0⟩ := Kd.at_string (Kd.V_reads' HO_3.out).2.2 0 p440 q440
                 obtain rfl : ad438 = ad440 := (by injection e440)
                 have qi440 : (0 < t421.length) = True := eq_true (by omega)
                 (try rw [show ((0 : Int)).toNat = 0 from rfl] at hx440_0)
                 (try rw [Addr.add_zero'] at hx440_0)
                 replace p440 := eq_true p440
                 replace q440 := eq_true q440
                 have p441 : 0 ≤ (1 : Int) := (by omega)
                 have q441 : 1 < ((rd_L1 t424 x12_2).length : Int) := of_decide_eq_true (by first | (with_reducible assumption) | assumption)
                 obtain ⟨ad441, e441, hx441_0⟩ := Kd.at_int (by repeat (first | (with_reducible exact HR437_0.out) | (with_reducible refine Kd.C_alloc ?_ _) | (with_reducible refine Kd.C_drewN ?_ _) | (with_reducible refine Kd.C_drew ?_) | exact HR437_0.out)) 1 p441 q441
                 obtain rfl : ad439 = ad441 := (by injection e441)
                 (try simp only [show (1 : Int).toNat = 1 from rfl, Nat.reduceMul, Nat.reduceEqDiff, Go.Addr.add, ↓reduceIte] at hx441_0)
                 have qi441 : (1 < (rd_L1 t424 x12_2).length) = True := eq_true (by omega)
                 (try rw [show ((1 : Int)).toNat = 1 from rfl] at hx441_0)
                 replace p441 := eq_true p441
                 replace q441 := eq_true q441
                 have p442 : 0 ≤ (1 : Int) := (by omega)
                 have q442 : 1 < ((rd_L1 t424 x12_2).length : Int) := of_decide_eq_true (by first | (with_reducible assumption) | assumption)
                 obtain ⟨ad442, e442, hx442_0⟩ := Kd.at_int (by repeat (first | (with_reducible exact HR437_0.out) | (with_reducible refine Kd.C_alloc ?_ _) | (with_reducible refine Kd.C_drewN ?_ _) | (with_reducible refine Kd.C_drew ?_) | exact HR437_0.out)) 1 p442 q442
                 obtain rfl : ad439 = ad442 := (by injection e442)
                 (try simp only [show (1 : Int).toNat = 1 from rfl, Nat.reduceMul, Nat.reduceEqDiff, Go.Addr.add, ↓reduceIte] at hx442_0)
                 have qi442 : (1 < (rd_L1 t424 x12_2).length) = True := eq_true (by omega)
                 (try rw [show ((1 : Int)).toNat = 1 from rfl] at hx442_0)
                 replace p442 := eq_true p442
                 replace q442 := eq_true q442
                 have p443 : 0 ≤ (2 : Int) := (by omega)
                 have q443 : 2 < ((rd_L1 t424 x12_2).length : Int) := of_decide_eq_true (by first | (with_reducible assumption) | assumption)
                 obtain ⟨ad443, e443, hx443_0⟩ := Kd.at_int (by repeat (first | (with_reducible exact HR437_0.out) | (with_reducible refine Kd.C_alloc ?_ _) | (with_reducible refine Kd.C_drewN ?_ _) | (with_reducible refine Kd.C_drew ?_) | exact HR437_0.out)) 2 p443 q443
                 obtain rfl : ad439 = ad443 := (by injection e443)
                 (try simp only [show (2 : Int).toNat = 2 from rfl, Nat.reduceMul, Nat.reduceEqDiff, Go.Addr.add, ↓reduceIte] at hx443_0)
                 have qi443 : (2 < (rd_L1 t424 x12_2).length) = True := eq_true (by omega)
                 (try rw [show ((2 : Int)).toNat = 2 from rfl] at hx443_0)
                 replace p443 := eq_true p443
                 replace q443 := eq_true q443
                 go_wp2
                 repeat (go_quiet (fail); try go_wp2)
                 go_ret
                 exact ⟨by first | rfl | (simp [errW_none, errW_some] <;> rfl) | (simp [*, errW_none, errW_some] <;> rfl), by repeat (first | (with_reducible first | exact HB.out | apply below_alloc | apply pw_below_drewN | apply below_drew1) | exact HB.out)⟩
                ·rw [if_neg c36] at H
                 have c36b0 : decide ((rd (rd_L1 t424 x12_2) 2) < 0) = false := decide_eq_false c36
                 clear c36
                 by_cases c38 : 3 < ((rd_L1 t424 x12_2).length : Int)
                 ·rw [if_pos c38] at H
                  have c38b0 : decide (3 < ((rd_L1 t424 x12_2).length : Int)) = true := decide_eq_true c38
                  have c38b1 : decide (3 < (rd_L1 t424 x12_2).length) = true := decide_eq_true (by omega)
                  clear c38
                  by_cases c39 : (rd (rd_L1 t424 x12_2) 3) < 1
                  ·rw [if_pos c39] at H
                   have c39b0 : decide ((rd (rd_L1 t424 x12_2) 3) < 1) = true := decide_eq_true c39
                   clear c39
                   obtain rfl := Option.some.inj H
                   obtain ⟨Ao40, co40, eo40⟩ := Kd.S_slice HO_4.out
                   subst eo40
                   have p437 : 0 ≤ (x12_2 : Int) := of_decide_eq_true (by first | (with_reducible assumption) | assumption)
                   have q437 : x12_2 < (t424.length : Int) := of_decide_eq_true (by first | (with_reducible assumption) | assumption)
                   obtain ⟨ad437, A437_0, c437_0, e437, hx437_0, hl437_0, hi437_0⟩ := at_L1 (Kd.S_reads' HO_4.out).2.2 x12_2 p437 q437
                   cases e437
                   obtain ⟨ce437, hce437, hMe437, hcc437⟩ := Kd.S_get HO_4.out [] x12_2 p437 (by first | exact q437 | exact of_decide_eq_true (by first | (with_reducible assumption) | assumption) | (have e_ := (Kd.S_reads' HO_4.out).1; omega))
                   obtain ⟨ve437_0, rfl, ge437_0⟩ := hMe437
                   have hv437_0 := hcc437 0 _ rfl
                   rw [Nat.add_zero, show ((Kd.slice 3 (Kd.int .i64))).sz = 1 from rfl, Nat.mul_one] at hv437_0
                   replace hv437_0 := Option.some.inj (hv437_0.symm.trans hx437_0)
                   rw [hv437_0] at ge437_0
                   have HL437_0 := Aside0.mk (show Kd.R (Kd.int .i64) 3 _ _ _ _ (rd_L1 t424 x12_2) from ge437_0)
                   clear hv437_0 ge437_0
                   clear hcc437 hce437
                   have HR437_0 := Aside0.mk hi437_0
                   have HC437_0 := Aside0.mk hl437_0
                   clear hi437_0 hl437_0
                   replace p437 := eq_true p437
                   replace q437 := eq_true q437
                   have p438 : 0 ≤ (0 : Int) := (by omega)
                   have q438 : 0 < (t421.length : Int) := of_decide_eq_true (by first | (with_reducible assumption) | assumption)
                   obtain ⟨ad438, e438, hx438_0⟩ := Kd.at_string (Kd.V_reads' HO_3.out).2.2 0 p438 q438
                   cases e438
                   have qi438 : (0 < t421.length) = True := eq_true (by omega)
                   (try rw [show ((0 : Int)).toNat = 0 from rfl] at hx438_0)
                   (try rw [Addr.add_zero'] at hx438_0)
                   replace p438 := eq_true p438
                   replace q438 := eq_true q438
                   have p439 : 0 ≤ (0 : Int) := (by omega)
                   have q439 : 0 < ((rd_L1 t424 x12_2).length : Int) := of_decide_eq_true (by first | (with_reducible assumption) | assumption)
                   obtain ⟨ad439, e439, hx439_0⟩ := Kd.at_int (by repeat (first | (with_reducible exact HR437_0.out) | (with_reducible refine Kd.C_alloc ?_ _) | (with_reducible refine Kd.C_drewN ?_ _) | (with_reducible refine Kd.C_drew ?_) | exact HR437_0.out)) 0 p439 q439
                   cases e439
                   have qi439 : (0 < (rd_L1 t424 x12_2).length) = True := eq_true (by omega)
                   (try rw [show ((0 : Int)).toNat = 0 from rfl] at hx439_0)
                   (try rw [Addr.add_zero'] at hx439_0)
                   replace p439 := eq_true p439
                   replace q439 := eq_true q439
                   have p440 : 0 ≤ (0 : Int) := (by omega)
                   have q440 : 0 < (t421.length : Int) := of_decide_eq_true (by first | (with_reducible assumption) | assumption)
                   obtain ⟨ad440, e440, hx440_0⟩ := Kd.at_string (Kd.V_reads' HO_3.out).2.2 0 p440 q440
                   obtain rfl : ad438 = ad440 := (by injection e440)
                   have qi440 : (0 < t421.length) = True := eq_true (by omega)
                   (try rw [show ((0 : Int)).toNat = 0 from rfl] at hx440_0)
                   (try rw [Addr.add_zero'] at hx440_0)
                   replace p440 := eq_true p440
                   replace q440 := eq_true q440
                   have p441 : 0 ≤ (1 : Int) := (by omega)
                   have q441 : 1 < ((rd_L1 t424 x12_2).length : Int) := of_decide_eq_true (by first | (with_reducible assumption) | assumption)
                   obtain ⟨ad441, e441, hx441_0⟩ := Kd.at_int (by repeat (first | (with_reducible exact HR437_0.out) | (with_reducible refine Kd.C_alloc ?_ _) | (with_reducible refine Kd.C_drewN ?_ _) | (with_reducible refine Kd.C_drew ?_) | exact HR437_0.out)) 1 p441 q441
                   obtain rfl : ad439 = ad441 := (by injection e441)
                   (try simp only [show (1 : Int).toNat = 1 from rfl, Nat.reduceMul, Nat.reduceEqDiff, Go.Addr.add, ↓reduceIte] at hx441_0)
                   have qi441 : (1 < (rd_L1 t424 x12_2).length) = True := eq_true (by omega)
                   (try rw [show ((1 : Int)).toNat = 1 from rfl] at hx441_0)
                   replace p441 := eq_true p441
                   replace q441 := eq_true q441
                   have p442 : 0 ≤ (1 : Int) := (by omega)
                   have q442 : 1 < ((rd_L1 t424 x12_2).length : Int) := of_decide_eq_true (by first | (with_reducible assumption) | assumption)
                   obtain ⟨ad442, e442, hx442_0⟩ := Kd.at_int (by repeat (first | (with_reducible exact HR437_0.out) | (with_reducible refine Kd.C_alloc ?_ _) | (with_reducible refine Kd.C_drewN ?_ _) | (with_reducible refine Kd.C_drew ?_) | exact HR437_0.out)) 1 p442 q442
                   obtain rfl : ad439 = ad442 := (by injection e442)
                   (try simp only [show (1 : Int).toNat = 1 from rfl, Nat.reduceMul, Nat.reduceEqDiff, Go.Addr.add, ↓reduceIte] at hx442_0)
                   have qi442 : (1 < (rd_L1 t424 x12_2).length) = True := eq_true (by omega)
                   (try rw [show ((1 : Int)).toNat = 1 from rfl] at hx442_0)
                   replace p442 := eq_true p442
                   replace q442 := eq_true q442
                   have p443 : 0 ≤ (2 : Int) := (by omega)
                   have q443 : 2 < ((rd_L1 t424 x12_2).length : Int) := of_decide_eq_true (by first | (with_reducible assumption) | assumption)
                   obtain ⟨ad443, e443, hx443_0⟩ := Kd.at_int (by repeat (first | (with_reducible exact HR437_0.out) | (with_reducible refine Kd.C_alloc ?_ _) | (with_reducible refine Kd.C_drewN ?_ _) | (with_reducible refine Kd.C_drew ?_) | exact HR437_0.out)) 2 p443 q443
                   obtain rfl : ad439 = ad443 := (by injection e443)
                   (try simp only [show (2 : Int).toNat = 2 from rfl, Nat.reduceMul, Nat.reduceEqDiff, Go.Addr.add, ↓reduceIte] at hx443_0)
                   have qi443 : (2 < (rd_L1 t424 x12_2).length) = True := eq_true (by omega)
                   (try rw [show ((2 : Int)).toNat = 2 from rfl] at hx443_0)
                   replace p443 := eq_true p443
                   replace q443 := eq_true q443
                   have p444 : 0 ≤ (3 : Int) := (by omega)
                   have q444 : 3 < ((rd_L1 t424 x12_2).length : Int) := of_decide_eq_true (by first | (with_reducible assumption) | assumption)
                   obtain ⟨ad444, e444, hx444_0⟩ := Kd.at_int (by repeat (first | (with_reducible exact HR437_0.out) | (with_reducible refine Kd.C_alloc ?_ _) | (with_reducible refine Kd.C_drewN ?_ _) | (with_reducible refine Kd.C_drew ?_) | exact HR437_0.out)) 3 p444 q444
                   obtain rfl : ad439 = ad444 := (by injection e444)
                   (try simp only [show (3 : Int).toNat = 3 from rfl, Nat.reduceMul, Nat.reduceEqDiff, Go.Addr.add, ↓reduceIte] at hx444_0)
                   have qi444 : (3 < (rd_L1 t424 x12_2).length) = True := eq_true (by omega)
                   (try rw [show ((3 : Int)).toNat = 3 from rfl] at hx444_0)
                   replace p444 := eq_true p444
                   replace q444 := eq_true q444
                   go_wp2
                   repeat (go_quiet (fail); try go_wp2)
                   go_ret
                   exact ⟨by first | rfl | (simp [errW_none, errW_some] <;> rfl) | (simp [*, errW_none, errW_some] <;> rfl), by repeat (first | (with_reducible first | exact HB.out | apply below_alloc | apply pw_below_drewN | apply below_drew1) | exact HB.out)⟩
                  ·rw [if_neg c39] at H
                   have c39b0 : decide ((rd (rd_L1 t424 x12_2) 3) < 1) = false := decide_eq_false c39
                   clear c39
                   by_cases c41 : (wrap64 ((rd (rd_L1 t424 x12_2) 2) + (rd (rd_L1 t424 x12_2) 3))) > ((rdOf ByteArray.empty t421 0).size : Int)
                   ·rw [if_pos c41] at H
                    have c41b0 : decide (((rdOf ByteArray.empty t421 0).size : Int) < (wrap64 ((rd (rd_L1 t424 x12_2) 2) + (rd (rd_L1 t424 x12_2) 3)))) = true := decide_eq_true c41
                    clear c41
                    obtain rfl := Option.some.inj H
                    obtain ⟨Ao42, co42, eo42⟩ := Kd.S_slice HO_4.out
                    subst eo42
                    have p437 : 0 ≤ (x12_2 : Int) := of_decide_eq_true (by first | (with_reducible assumption) | assumption)
                    have q437 : x12_2 < (t424.length : Int) := of_decide_eq_true (by first | (with_reducible assumption) | assumption)
                    obtain ⟨ad437, A437_0, c437_0, e437, hx437_0, hl437_0, hi437_0⟩ := at_L1 (Kd.S_reads' HO_4.out).2.2 x12_2 p437 q437
                    cases e437
                    obtain ⟨ce437, hce437, hMe437, hcc437⟩ := Kd.S_get HO_4.out [] x12_2 p437 (by first | exact q437 | exact of_decide_eq_true (by first | (with_reducible assumption) | assumption) | (have e_ := (Kd.S_reads' HO_4.out).1; omega))
                    obtain ⟨ve437_0, rfl, ge437_0⟩ := hMe437
                    have hv437_0 := hcc437 0 _ rfl
                    rw [Nat.add_zero, show ((Kd.slice 3 (Kd.int .i64))).sz = 1 from rfl, Nat.mul_one] at hv437_0
                    replace hv437_0 := Option.some.inj (hv437_0.symm.trans hx437_0)
                    rw [hv437_0] at ge437_0
                    have HL437_0 := Aside0.mk (show Kd.R (Kd.int .i64) 3 _ _ _ _ (rd_L1 t424 x12_2) from ge437_0)
                    clear hv437_0 ge437_0
                    clear hcc437 hce437
                    have HR437_0 := Aside0.mk hi437_0
                    have HC437_0 := Aside0.mk hl437_0
                    clear hi437_0 hl437_0
                    replace p437 := eq_true p437
                    replace q437 := eq_true q437
                    have p438 : 0 ≤ (0 : Int) := (by omega)
                    have q438 : 0 < (t421.length : Int) := of_decide_eq_true (by first | (with_reducible assumption) | assumption)
                    obtain ⟨ad438, e438, hx438_0⟩ := Kd.at_string (Kd.V_reads' HO_3.out).2.2 0 p438 q438
                    cases e438
                    have qi438 : (0 < t421.length) = True := eq_true (by omega)
                    (try rw [show ((0 : Int)).toNat = 0 from rfl] at hx438_0)
                    (try rw [Addr.add_zero'] at hx438_0)
                    replace p438 := eq_true p438
                    replace q438 := eq_true q438
                    have p439 : 0 ≤ (0 : Int) := (by omega)
                    have q439 : 0 < ((rd_L1 t424 x12_2).length : Int) := of_decide_eq_true (by first | (with_reducible assumption) | assumption)
                    obtain ⟨ad439, e439, hx439_0⟩ := Kd.at_int (by repeat (first | (with_reducible exact HR437_0.out) | (with_reducible refine Kd.C_alloc ?_ _) | (with_reducible refine Kd.C_drewN ?_ _) | (with_reducible refine Kd.C_drew ?_) | exact HR437_0.out)) 0 p439 q439
                    cases e439
                    have qi439 : (0 < (rd_L1 t424 x12_2).length) = True := eq_true (by omega)
                    (try rw [show ((0 : Int)).toNat = 0 from rfl] at hx439_0)
                    (try rw [Addr.add_zero'] at hx439_0)
                    replace p439 := eq_true p439
                    replace q439 := eq_true q439
                    have p440 : 0 ≤ (0 : Int) := (by omega)
                    have q440 : 0 < (t421.length : Int) := of_decide_eq_true (by first | (with_reducible assumption) | assumption)
                    obtain ⟨ad440, e440, hx440_0⟩ := Kd.at_string (Kd.V_reads' HO_3.out).2.2 0 p440 q440
                    obtain rfl : ad438 = ad440 := (by injection e440)
                    have qi440 : (0 < t421.length) = True := eq_true (by omega)
                    (try rw [show ((0 : Int)).toNat = 0 from rfl] at hx440_0)
                    (try rw [Addr.add_zero'] at hx440_0)
                    replace p440 := eq_true p440
                    replace q440 := eq_true q440
                    have p441 : 0 ≤ (1 : Int) := (by omega)
                    have q441 : 1 < ((rd_L1 t424 x12_2).length : Int) := of_decide_eq_true (by first | (with_reducible assumption) | assumption)
                    obtain ⟨ad441, e441, hx441_0⟩ := Kd.at_int (by repeat (first | (with_reducible exact HR437_0.out) | (with_reducible refine Kd.C_alloc ?_ _) | (with_reducible refine Kd.C_drewN ?_ _) | (with_reducible refine Kd.C_drew ?_) | exact HR437_0.out)) 1 p441 q441
                    obtain rfl : ad439 = ad441 := (by injection e441)
                    (try simp only [show (1 : Int).toNat = 1 from rfl, Nat.reduceMul, Nat.reduceEqDiff, Go.Addr.add, ↓reduceIte] at hx441_0)
                    have qi441 : (1 < (rd_L1 t424 x12_2).length) = True := eq_true (by omega)
                    (try rw [show ((1 : Int)).toNat = 1 from rfl] at hx441_0)
                    replace p441 := eq_true p441
                    replace q441 := eq_true q441
                    have p442 : 0 ≤ (1 : Int) := (by omega)
                    have q442 : 1 < ((rd_L1 t424 x12_2).length : Int) := of_decide_eq_true (by first | (with_reducible assumption) | assumption)
                    obtain ⟨ad442, e442, hx442_0⟩ := Kd.at_int (by repeat (first | (with_reducible exact HR437_0.out) | (with_reducible refine Kd.C_alloc ?_ _) | (with_reducible refine Kd.C_drewN ?_ _) | (with_reducible refine Kd.C_drew ?_) | exact HR437_0.out)) 1 p442 q442
                    obtain rfl : ad439 = ad442 := (by injection e442)
                    (try simp only [show (1 : Int).toNat = 1 from rfl, Nat.reduceMul, Nat.reduceEqDiff, Go.Addr.add, ↓reduceIte] at hx442_0)
                    have qi442 : (1 < (rd_L1 t424 x12_2).length) = True := eq_true (by omega)
                    (try rw [show ((1 : Int)).toNat = 1 from rfl] at hx442_0)
                    replace p442 := eq_true p442
                    replace q442 := eq_true q442
                    have p443 : 0 ≤ (2 : Int) := (by omega)
                    have q443 : 2 < ((rd_L1 t424 x12_2).length : Int) := of_decide_eq_true (by first | (with_reducible assumption) | assumption)
                    obtain ⟨ad443, e443, hx443_0⟩ := Kd.at_int (by repeat (first | (with_reducible exact HR437_0.out) | (with_reducible refine Kd.C_alloc ?_ _) | (with_reducible refine Kd.C_drewN ?_ _) | (with_reducible refine Kd.C_drew ?_) | exact HR437_0.out)) 2 p443 q443
                    obtain rfl : ad439 = ad443 := (by injection e443)
                    (try simp only [show (2 : Int).toNat = 2 from rfl, Nat.reduceMul, Nat.reduceEqDiff, Go.Addr.add, ↓reduceIte] at hx443_0)
                    have qi443 : (2 < (rd_L1 t424 x12_2).length) = True := eq_true (by omega)
                    (try rw [show ((2 : Int)).toNat = 2 from rfl] at hx443_0)
                    replace p443 := eq_true p443
                    replace q443 := eq_true q443
                    have p444 : 0 ≤ (3 : Int) := (by omega)
                    have q444 : 3 < ((rd_L1 t424 x12_2).length : Int) := of_decide_eq_true (by first | (with_reducible assumption) | assumption)
                    obtain ⟨ad444, e444, hx444_0⟩ := Kd.at_int (by repeat (first | (with_reducible exact HR437_0.out) | (with_reducible refine Kd.C_alloc ?_ _) | (with_reducible refine Kd.C_drewN ?_ _) | (with_reducible refine Kd.C_drew ?_) | exact HR437_0.out)) 3 p444 q444
                    obtain rfl : ad439 = ad444 := (by injection e444)
                    (try simp only [show (3 : Int).toNat = 3 from rfl, Nat.reduceMul, Nat.reduceEqDiff, Go.Addr.add, ↓reduceIte] at hx444_0)
                    have qi444 : (3 < (rd_L1 t424 x12_2).length) = True := eq_true (by omega)
                    (try rw [show ((3 : Int)).toNat = 3 from rfl] at hx444_0)
                    replace p444 := eq_true p444
                    replace q444 := eq_true q444
                    have p445 : 0 ≤ (2 : Int) := (by omega)
                    have q445 : 2 < ((rd_L1 t424 x12_2).length : Int) := of_decide_eq_true (by first | (with_reducible assumption) | assumption)
                    obtain ⟨ad445, e445, hx445_0⟩ := Kd.at_int (by repeat (first | (with_reducible exact HR437_0.out) | (with_reducible refine Kd.C_alloc ?_ _) | (with_reducible refine Kd.C_drewN ?_ _) | (with_reducible refine Kd.C_drew ?_) | exact HR437_0.out)) 2 p445 q445
                    obtain rfl : ad439 = ad445 := (by injection e445)
                    (try simp only [show (2 : Int).toNat = 2 from rfl, Nat.reduceMul, Nat.reduceEqDiff, Go.Addr.add, ↓reduceIte] at hx445_0)
                    have qi445 : (2 < (rd_L1 t424 x12_2).length) = True := eq_true (by omega)
                    (try rw [show ((2 : Int)).toNat = 2 from rfl] at hx445_0)
                    replace p445 := eq_true p445
                    replace q445 := eq_true q445
                    have p446 : 0 ≤ (3 : Int) := (by omega)
                    have q446 : 3 < ((rd_L1 t424 x12_2).length : Int) := of_decide_eq_true (by first | (with_reducible assumption) | assumption)
                    obtain ⟨ad446, e446, hx446_0⟩ := Kd.at_int (by repeat (first | (with_reducible exact HR437_0.out) | (with_reducible refine Kd.C_alloc ?_ _) | (with_reducible refine Kd.C_drewN ?_ _) | (with_reducible refine Kd.C_drew ?_) | exact HR437_0.out)) 3 p446 q446
                    obtain rfl : ad439 = ad446 := (by injection e446)
                    (try simp only [show (3 : Int).toNat = 3 from rfl, Nat.reduceMul, Nat.reduceEqDiff, Go.Addr.add, ↓reduceIte] at hx446_0)
                    have qi446 : (3 < (rd_L1 t424 x12_2).length) = True := eq_true (by omega)
                    (try rw [show ((3 : Int)).toNat = 3 from rfl] at hx446_0)
                    replace p446 := eq_true p446
                    replace q446 := eq_true q446
                    go_wp2
                    repeat (go_quiet (fail); try go_wp2)
                    go_ret
                    exact ⟨by first | rfl | (simp [errW_none, errW_some] <;> rfl) | (simp [*, errW_none, errW_some] <;> rfl), by repeat (first | (with_reducible first | exact HB.out | apply below_alloc | apply pw_below_drewN | apply below_drew1) | exact HB.out)⟩
                   ·rw [if_neg c41] at H
                    have c41b0 : decide (((rdOf ByteArray.empty t421 0).size : Int) < (wrap64 ((rd (rd_L1 t424 x12_2) 2) + (rd (rd_L1 t424 x12_2) 3)))) = false := decide_eq_false c41
                    clear c41
                    by_cases c43 : x12_2 > 0
                    ·rw [if_pos c43] at H
                     have c43b0 : decide (0 < x12_2) = true := decide_eq_true c43
                     clear c43
                     obtain ⟨ji44, hji44⟩ : ∃ j_ : Int, (wrap64 (x12_2 - 1)) = j_ := ⟨_, rfl⟩
                     replace H : (if 0 ≤ (ji44) then (if (ji44) < (t424.length : Int) then (if 0 < ((rd_L1 t424 (ji44)).length : Int) then (if (rd (rd_L1 t424 x12_2) 0) < (rd (rd_L1 t424 (ji44)) 0) then (some false) else (laws_FnWallList.l0 k2 t421 t424 t434 t435 t436 x11_2 (wrap64 (x12_2 + 1)))) else (none)) else (none)) else (none)) = some r := by first | (rw [hji44] at H; exact H) | (simp only [hji44] at H ⊢; exact H)
                     have hji44w : (IntKind.i64.wrap (x12_2 - 1)) = ji44 := (i64_w _).trans hji44
                     by_cases c45 : 0 ≤ (ji44)
                     ·rw [if_pos c45] at H
                      have c45b0 : decide (0 ≤ (ji44)) = true := decide_eq_true c45
                      clear c45
                      by_cases c46 : (ji44) < (t424.length : Int)
                      ·rw [if_pos c46] at H
                       have c46b0 : decide ((ji44) < (t424.length : Int)) = true := decide_eq_true c46
                       clear c46
                       by_cases c47 : 0 < ((rd_L1 t424 (ji44)).length : Int)
                       ·rw [if_pos c47] at H
                        have c47b0 : decide (0 < ((rd_L1 t424 (ji44)).length : Int)) = true := decide_eq_true c47
                        have c47b1 : decide (0 < (rd_L1 t424 (ji44)).length) = true := decide_eq_true (by omega)
                        clear c47
                        by_cases c48 : (rd (rd_L1 t424 x12_2) 0) < (rd (rd_L1 t424 (ji44)) 0)
                        ·rw [if_pos c48] at H
                         have c48b0 : decide ((rd (rd_L1 t424 x12_2) 0) < (rd (rd_L1 t424 (ji44)) 0)) = true := decide_eq_true c48
                         clear c48
                         obtain rfl := Option.some.inj H
                         obtain ⟨Ao49, co49, eo49⟩ := Kd.S_slice HO_4.out
                         subst eo49
                         have p437 : 0 ≤ (x12_2 : Int) := of_decide_eq_true (by first | (with_reducible assumption) | assumption)
                         have q437 : x12_2 < (t424.length : Int) := of_decide_eq_true (by first | (with_reducible assumption) | assumption)
                         obtain ⟨ad437, A437_0, c437_0, e437, hx437_0, hl437_0, hi437_0⟩ := at_L1 (Kd.S_reads' HO_4.out).2.2 x12_2 p437 q437
                         cases e437
                         obtain ⟨ce437, hce437, hMe437, hcc437⟩ := Kd.S_get HO_4.out [] x12_2 p437 (by first | exact q437 | exact of_decide_eq_true (by first | (with_reducible assumption) | assumption) | (have e_ := (Kd.S_reads' HO_4.out).1; omega))
                         obtain ⟨ve437_0, rfl, ge437_0⟩ := hMe437
                         have hv437_0 := hcc437 0 _ rfl
                         rw [Nat.add_zero, show ((Kd.slice 3 (Kd.int .i64))).sz = 1 from rfl, Nat.mul_one] at hv437_0
                         replace hv437_0 := Option.some.inj (hv437_0.symm.trans hx437_0)
                         rw [hv437_0] at ge437_0
                         have HL437_0 := Aside0.mk (show Kd.R (Kd.int .i64) 3 _ _ _ _ (rd_L1 t424 x12_2) from ge437_0)
                         clear hv437_0 ge437_0
                         clear hcc437 hce437
                         have HR437_0 := Aside0.mk hi437_0
                         have HC437_0 := Aside0.mk hl437_0
                         clear hi437_0 hl437_0
                         replace p437 := eq_true p437
                         replace q437 := eq_true q437
                         have p438 : 0 ≤ (0 : Int) := (by omega)
                         have q438 : 0 < (t421.length : Int) := of_decide_eq_true (by first | (with_reducible assumption) | assumption)
                         obtain ⟨ad438, e438, hx438_0⟩ := Kd.at_string (Kd.V_reads' HO_3.out).2.2 0 p438 q438
                         cases e438
                         have qi438 : (0 < t421.length) = True := eq_true (by omega)
                         (try rw [show ((0 : Int)).toNat = 0 from rfl] at hx438_0)
                         (try rw [Addr.add_zero'] at hx438_0)
                         replace p438 := eq_true p438
                         replace q438 := eq_true q438
                         have p439 : 0 ≤ (0 : Int) := (by omega)
                         have q439 : 0 < ((rd_L1 t424 x12_2).length : Int) := of_decide_eq_true (by first | (with_reducible assumption) | assumption)
                         obtain ⟨ad439, e439, hx439_0⟩ := Kd.at_int (by repeat (first | (with_reducible exact HR437_0.out) | (with_reducible refine Kd.C_alloc ?_ _) | (with_reducible refine Kd.C_drewN ?_ _) | (with_reducible refine Kd.C_drew ?_) | exact HR437_0.out)) 0 p439 q439
                         cases e439
                         have qi439 : (0 < (rd_L1 t424 x12_2).length) = True := eq_true (by omega)
                         (try rw [show ((0 : Int)).toNat = 0 from rfl] at hx439_0)
                         (try rw [Addr.add_zero'] at hx439_0)
                         replace p439 := eq_true p439
                         replace q439 := eq_true q439
                         have p440 : 0 ≤ (0 : Int) := (by omega)
                         have q440 : 0 < (t421.length : Int) := of_decide_eq_true (by first | (with_reducible assumption) | assumption)
                         obtain ⟨ad440, e440, hx440_0⟩ := Kd.at_string (Kd.V_reads' HO_3.out).2.2 0 p440 q440
                         obtain rfl : ad438 = ad440 := (by injection e440)
                         have qi440 : (0 < t421.length) = True := eq_true (by omega)
                         (try rw [show ((0 : Int)).toNat = 0 from rfl] at hx440_0)
                         (try rw [Addr.add_zero'] at hx440_0)
                         replace p440 := eq_true p440
                         replace q440 := eq_true q440
                         have p441 : 0 ≤ (1 : Int) := (by omega)
                         have q441 : 1 < ((rd_L1 t424 x12_2).length : Int) := of_decide_eq_true (by first | (with_reducible assumption) | assumption)
                         obtain ⟨ad441, e441, hx441_0⟩ := Kd.at_int (by repeat (first | (with_reducible exact HR437_0.out) | (with_reducible refine Kd.C_alloc ?_ _) | (with_reducible refine Kd.C_drewN ?_ _) | (with_reducible refine Kd.C_drew ?_) | exact HR437_0.out)) 1 p441 q441
                         obtain rfl : ad439 = ad441 := (by injection e441)
                         (try simp only [show (1 : Int).toNat = 1 from rfl, Nat.reduceMul, Nat.reduceEqDiff, Go.Addr.add, ↓reduceIte] at hx441_0)
                         have qi441 : (1 < (rd_L1 t424 x12_2).length) = True := eq_true (by omega)
                         (try rw [show ((1 : Int)).toNat = 1 from rfl] at hx441_0)
                         replace p441 := eq_true p441
                         replace q441 := eq_true q441
                         have p442 : 0 ≤ (1 : Int) := (by omega)
                         have q442 : 1 < ((rd_L1 t424 x12_2).length : Int) := of_decide_eq_true (by first | (with_reducible assumption) | assumption)
                         obtain ⟨ad442, e442, hx442_0⟩ := Kd.at_int (by repeat (first | (with_reducible exact HR437_0.out) | (with_reducible refine Kd.C_alloc ?_ _) | (with_reducible refine Kd.C_drewN ?_ _) | (with_reducible refine Kd.C_drew ?_) | exact HR437_0.out)) 1 p442 q442
                         obtain rfl : ad439 = ad442 := (by injection e442)
                         (try simp only [show (1 : Int).toNat = 1 from rfl, Nat.reduceMul, Nat.reduceEqDiff, Go.Addr.add, ↓reduceIte] at hx442_0)
                         have qi442 : (1 < (rd_L1 t424 x12_2).length) = True := eq_true (by omega)
                         (try rw [show ((1 : Int)).toNat = 1 from rfl] at hx442_0)
                         replace p442 := eq_true p442
                         replace q442 := eq_true q442
                         have p443 : 0 ≤ (2 : Int) := (by omega)
                         have q443 : 2 < ((rd_L1 t424 x12_2).length : Int) := of_decide_eq_true (by first | (with_reducible assumption) | assumption)
                         obtain ⟨ad443, e443, hx443_0⟩ := Kd.at_int (by repeat (first | (with_reducible exact HR437_0.out) | (with_reducible refine Kd.C_alloc ?_ _) | (with_reducible refine Kd.C_drewN ?_ _) | (with_reducible refine Kd.C_drew ?_) | exact HR437_0.out)) 2 p443 q443
                         obtain rfl : ad439 = ad443 := (by injection e443)
                         (try simp only [show (2 : Int).toNat = 2 from rfl, Nat.reduceMul, Nat.reduceEqDiff, Go.Addr.add, ↓reduceIte] at hx443_0)
                         have qi443 : (2 < (rd_L1 t424 x12_2).length) = True := eq_true (by omega)
                         (try rw [show ((2 : Int)).toNat = 2 from rfl] at hx443_0)
                         replace p443 := eq_true p443
                         replace q443 := eq_true q443
                         have p444 : 0 ≤ (3 : Int) := (by omega)
                         have q444 : 3 < ((rd_L1 t424 x12_2).length : Int) := of_decide_eq_true (by first | (with_reducible assumption) | assumption)
                         obtain ⟨ad444, e444, hx444_0⟩ := Kd.at_int (by repeat (first | (with_reducible exact HR437_0.out) | (with_reducible refine Kd.C_alloc ?_ _) | (with_reducible refine Kd.C_drewN ?_ _) | (with_reducible refine Kd.C_drew ?_) | exact HR437_0.out)) 3 p444 q444
                         obtain rfl : ad439 = ad444 := (by injection e444)
                         (try simp only [show (3 : Int).toNat = 3 from rfl, Nat.reduceMul, Nat.reduceEqDiff, Go.Addr.add, ↓reduceIte] at hx444_0)
                         have qi444 : (3 < (rd_L1 t424 x12_2).length) = True := eq_true (by omega)
                         (try rw [show ((3 : Int)).toNat = 3 from rfl] at hx444_0)
                         replace p444 := eq_true p444
                         replace q444 := eq_true q444
                         have p445 : 0 ≤ (2 : Int) := (by omega)
                         have q445 : 2 < ((rd_L1 t424 x12_2).length : Int) := of_decide_eq_true (by first | (with_reducible assumption) | assumption)
                         obtain ⟨ad445, e445, hx445_0⟩ := Kd.at_int (by repeat (first | (with_reducible exact HR437_0.out) | (with_reducible refine Kd.C_alloc ?_ _) | (with_reducible refine Kd.C_drewN ?_ _) | (with_reducible refine Kd.C_drew ?_) | exact HR437_0.out)) 2 p445 q445
                         obtain rfl : ad439 = ad445 := (by injection e445)
                         (try simp only [show (2 : Int).toNat = 2 from rfl, Nat.reduceMul, Nat.reduceEqDiff, Go.Addr.add, ↓reduceIte] at hx445_0)
                         have qi445 : (2 < (rd_L1 t424 x12_2).length) = True := eq_true (by omega)
                         (try rw [show ((2 : Int)).toNat = 2 from rfl] at hx445_0)
                         replace p445 := eq_true p445
                         replace q445 := eq_true q445
                         have p446 : 0 ≤ (3 : Int) := (by omega)
                         have q446 : 3 < ((rd_L1 t424 x12_2).length : Int) := of_decide_eq_true (by first | (with_reducible assumption) | assumption)
                         obtain ⟨ad446, e446, hx446_0⟩ := Kd.at_int (by repeat (first | (with_reducible exact HR437_0.out) | (with_reducible refine Kd.C_alloc ?_ _) | (with_reducible refine Kd.C_drewN ?_ _) | (with_reducible refine Kd.C_drew ?_) | exact HR437_0.out)) 3 p446 q446
                         obtain rfl : ad439 = ad446 := (by injection e446)
                         (try simp only [show (3 : Int).toNat = 3 from rfl, Nat.reduceMul, Nat.reduceEqDiff, Go.Addr.add, ↓reduceIte] at hx446_0)
                         have qi446 : (3 < (rd_L1 t424 x12_2).length) = True := eq_true (by omega)
                         (try rw [show ((3 : Int)).toNat = 3 from rfl] at hx446_0)
                         replace p446 := eq_true p446
                         replace q446 := eq_true q446
                         have p447 : 0 ≤ (0 : Int) := (by omega)
                         have q447 : 0 < ((rd_L1 t424 x12_2).length : Int) := of_decide_eq_true (by first | (with_reducible assumption) | assumption)
                         obtain ⟨ad447, e447, hx447_0⟩ := Kd.at_int (by repeat (first | (with_reducible exact HR437_0.out) | (with_reducible refine Kd.C_alloc ?_ _) | (with_reducible refine Kd.C_drewN ?_ _) | (with_reducible refine Kd.C_drew ?_) | exact HR437_0.out)) 0 p447 q447
                         obtain rfl : ad439 = ad447 := (by injection e447)
                         have qi447 : (0 < (rd_L1 t424 x12_2).length) = True := eq_true (by omega)
                         (try rw [show ((0 : Int)).toNat = 0 from rfl] at hx447_0)
                         (try rw [Addr.add_zero'] at hx447_0)
                         replace p447 := eq_true p447
                         replace q447 := eq_true q447
                         have p448 : 0 ≤ ((ji44) : Int) := of_decide_eq_true (by first | (with_reducible assumption) | assumption)
                         have q448 : (ji44) < (t424.length : Int) := of_decide_eq_true (by first | (with_reducible assumption) | assumption)
                         obtain ⟨ad448, A448_0, c448_0, e448, hx448_0, hl448_0, hi448_0⟩ := at_L1 (Kd.S_reads' HO_4.out).2.2 (ji44) p448 q448
                         obtain rfl : ad437 = ad448 := (by injection e448)
                         obtain ⟨ce448, hce448, hMe448, hcc448⟩ := Kd.S_get HO_4.out [] (ji44) p448 (by first | exact q448 | exact of_decide_eq_true (by first | (with_reducible assumption) | assumption) | (have e_ := (Kd.S_reads' HO_4.out).1; omega))
                         obtain ⟨ve448_0, rfl, ge448_0⟩ := hMe448
                         have hv448_0 := hcc448 0 _ rfl
                         rw [Nat.add_zero, show ((Kd.slice 3 (Kd.int .i64))).sz = 1 from rfl, Nat.mul_one] at hv448_0
                         replace hv448_0 := Option.some.inj (hv448_0.symm.trans hx448_0)
                         rw [hv448_0] at ge448_0
                         have HL448_0 := Aside0.mk (show Kd.R (Kd.int .i64) 3 _ _ _ _ (rd_L1 t424 (ji44)) from ge448_0)
                         clear hv448_0 ge448_0
                         clear hcc448 hce448
                         have HR448_0 := Aside0.mk hi448_0
                         have HC448_0 := Aside0.mk hl448_0
                         clear hi448_0 hl448_0
                         replace p448 := eq_true p448
                         replace q448 := eq_true q448
                         have p449 : 0 ≤ (0 : Int) := (by omega)
                         have q449 : 0 < ((rd_L1 t424 (ji44)).length : Int) := of_decide_eq_true (by first | (with_reducible assumption) | assumption)
                         obtain ⟨ad449, e449, hx449_0⟩ := Kd.at_int (by repeat (first | (with_reducible exact HR448_0.out) | (with_reducible refine Kd.C_alloc ?_ _) | (with_reducible refine Kd.C_drewN ?_ _) | (with_reducible refine Kd.C_drew ?_) | exact HR448_0.out)) 0 p449 q449
                         cases e449
                         have qi449 : (0 < (rd_L1 t424 (ji44)).length) = True := eq_true (by omega)
                         (try rw [show ((0 : Int)).toNat = 0 from rfl] at hx449_0)
                         (try rw [Addr.add_zero'] at hx449_0)
                         replace p449 := eq_true p449
                         replace q449 := eq_true q449
                         go_wp2
                         repeat (go_quiet (fail); try go_wp2)
                         go_ret
                         exact ⟨by first | rfl | (simp [errW_none, errW_some] <;> rfl) | (simp only [← hji44]; first | rfl | (simp [errW_none, errW_some] <;> rfl)) | (simp [*, errW_none, errW_some] <;> rfl), by repeat (first | (with_reducible first | exact HB.out | apply below_alloc | apply pw_below_drewN | apply below_drew1) | exact HB.out)⟩
                        ·rw [if_neg c48] at H
                         have c48b0 : decide ((rd (rd_L1 t424 x12_2) 0) < (rd (rd_L1 t424 (ji44)) 0)) = false := decide_eq_false c48
                         clear c48
                         have H' := Aside0.mk H
                         clear H
                         obtain ⟨Ao50, co50, eo50⟩ := Kd.S_slice HO_4.out
                         subst eo50
                         have p437 : 0 ≤ (x12_2 : Int) := of_decide_eq_true (by first | (with_reducible assumption) | assumption)
                         have q437 : x12_2 < (t424.length : Int) := of_decide_eq_true (by first | (with_reducible assumption) | assumption)
                         obtain ⟨ad437, A437_0, c437_0, e437, hx437_0, hl437_0, hi437_0⟩ := at_L1 (Kd.S_reads' HO_4.out).2.2 x12_2 p437 q437
                         cases e437
                         obtain ⟨ce437, hce437, hMe437, hcc437⟩ := Kd.S_get HO_4.out [] x12_2 p437 (by first | exact q437 | exact of_decide_eq_true (by first | (with_reducible assumption) | assumption) | (have e_ := (Kd.S_reads' HO_4.out).1; omega))
                         obtain ⟨ve437_0, rfl, ge437_0⟩ := hMe437
                         have hv437_0 := hcc437 0 _ rfl
                         rw [Nat.add_zero, show ((Kd.slice 3 (Kd.int .i64))).sz = 1 from rfl, Nat.mul_one] at hv437_0
                         replace hv437_0 := Option.some.inj (hv437_0.symm.trans hx437_0)
                         rw [hv437_0] at ge437_0
                         have HL437_0 := Aside0.mk (show Kd.R (Kd.int .i64) 3 _ _ _ _ (rd_L1 t424 x12_2) from ge437_0)
                         clear hv437_0 ge437_0
                         clear hcc437 hce437
                         have HR437_0 := Aside0.mk hi437_0
                         have HC437_0 := Aside0.mk hl437_0
                         clear hi437_0 hl437_0
                         replace p437 := eq_true p437
                         replace q437 := eq_true q437
                         have p438 : 0 ≤ (0 : Int) := (by omega)
                         have q438 : 0 < (t421.length : Int) := of_decide_eq_true (by first | (with_reducible assumption) | assumption)
                         obtain ⟨ad438, e438, hx438_0⟩ := Kd.at_string (Kd.V_reads' HO_3.out).2.2 0 p438 q438
                         cases e438
                         have qi438 : (0 < t421.length) = True := eq_true (by omega)
                         (try rw [show ((0 : Int)).toNat = 0 from rfl] at hx438_0)
                         (try rw [Addr.add_zero'] at hx438_0)
                         replace p438 := eq_true p438
                         replace q438 := eq_true q438
                         have p439 : 0 ≤ (0 : Int) := (by omega)
                         have q439 : 0 < ((rd_L1 t424 x12_2).length : Int) := of_decide_eq_true (by first | (with_reducible assumption) | assumption)
                         obtain ⟨ad439, e439, hx439_0⟩ := Kd.at_int (by repeat (first | (with_reducible exact HR437_0.out) | (with_reducible refine Kd.C_alloc ?_ _) | (with_reducible refine Kd.C_drewN ?_ _) | (with_reducible refine Kd.C_drew ?_) | exact HR437_0.out)) 0 p439 q439
                         cases e439
                         have qi439 : (0 < (rd_L1 t424 x12_2).length) = True := eq_true (by omega)
                         (try rw [show ((0 : Int)).toNat = 0 from rfl] at hx439_0)
                         (try rw [Addr.add_zero'] at hx439_0)
                         replace p439 := eq_true p439
                         replace q439 := eq_true q439
                         have p440 : 0 ≤ (0 : Int) := (by omega)
                         have q440 : 0 < (t421.length : Int) := of_decide_eq_true (by first | (with_reducible assumption) | assumption)
                         obtain ⟨ad440, e440, hx440_0⟩ := Kd.at_string (Kd.V_reads' HO_3.out).2.2 0 p440 q440
                         obtain rfl : ad438 = ad440 := (by injection e440)
                         have qi440 : (0 < t421.length) = True := eq_true (by omega)
                         (try rw [show ((0 : Int)).toNat = 0 from rfl] at hx440_0)
                         (try rw [Addr.add_zero'] at hx440_0)
                         replace p440 := eq_true p440
                         replace q440 := eq_true q440
                         have p441 : 0 ≤ (1 : Int) := (by omega)
                         have q441 : 1 < ((rd_L1 t424 x12_2).length : Int) := of_decide_eq_true (by first | (with_reducible assumption) | assumption)
                         obtain ⟨ad441, e441, hx441_0⟩ := Kd.at_int (by repeat (first | (with_reducible exact HR437_0.out) | (with_reducible refine Kd.C_alloc ?_ _) | (with_reducible refine Kd.C_drewN ?_ _) | (with_reducible refine Kd.C_drew ?_) | exact HR437_0.out)) 1 p441 q441
                         obtain rfl : ad439 = ad441 := (by injection e441)
                         (try simp only [show (1 : Int).toNat = 1 from rfl, Nat.reduceMul, Nat.reduceEqDiff, Go.Addr.add, ↓reduceIte] at hx441_0)
                         have qi441 : (1 < (rd_L1 t424 x12_2).length) = True := eq_true (by omega)
                         (try rw [show ((1 : Int)).toNat = 1 from rfl] at hx441_0)
                         replace p441 := eq_true p441
                         replace q441 := eq_true q441
                         have p442 : 0 ≤ (1 : Int) := (by omega)
                         have q442 : 1 < ((rd_L1 t424 x12_2).length : Int) := of_decide_eq_true (by first | (with_reducible assumption) | assumption)
                         obtain ⟨ad442, e442, hx442_0⟩ := Kd.at_int (by repeat (first | (with_reducible exact HR437_0.out) | (with_reducible refine Kd.C_alloc ?_ _) | (with_reducible refine Kd.C_drewN ?_ _) | (with_reducible refine Kd.C_drew ?_) | exact HR437_0.out)) 1 p442 q442
                         obtain rfl : ad439 = ad442 := (by injection e442)
                         (try simp only [show (1 : Int).toNat = 1 from rfl, Nat.reduceMul, Nat.reduceEqDiff, Go.Addr.add, ↓reduceIte] at hx442_0)
                         have qi442 : (1 < (rd_L1 t424 x12_2).length) = True := eq_true (by omega)
                         (try rw [show ((1 : Int)).toNat = 1 from rfl] at hx442_0)
                         replace p442 := eq_true p442
                         replace q442 := eq_true q442
                         have p443 : 0 ≤ (2 : Int) := (by omega)
                         have q443 : 2 < ((rd_L1 t424 x12_2).length : Int) := of_decide_eq_true (by first | (with_reducible assumption) | assumption)
                         obtain ⟨ad443, e443, hx443_0⟩ := Kd.at_int (by repeat (first | (with_reducible exact HR437_0.out) | (with_reducible refine Kd.C_alloc ?_ _) | (with_reducible refine Kd.C_drewN ?_ _) | (with_reducible refine Kd.C_drew ?_) | exact HR437_0.out)) 2 p443 q443
                         obtain rfl : ad439 = ad443 := (by injection e443)
                         (try simp only [show (2 : Int).toNat = 2 from rfl, Nat.reduceMul, Nat.reduceEqDiff, Go.Addr.add, ↓reduceIte] at hx443_0)
                         have qi443 : (2 < (rd_L1 t424 x12_2).length) = True := eq_true (by omega)
                         (try rw [show ((2 : Int)).toNat = 2 from rfl] at hx443_0)
                         replace p443 := eq_true p443
                         replace q443 := eq_true q443
                         have p444 : 0 ≤ (3 : Int) := (by omega)
                         have q444 : 3 < ((rd_L1 t424 x12_2).length : Int) := of_decide_eq_true (by first | (with_reducible assumption) | assumption)
                         obtain ⟨ad444, e444, hx444_0⟩ := Kd.at_int (by repeat (first | (with_reducible exact HR437_0.out) | (with_reducible refine Kd.C_alloc ?_ _) | (with_reducible refine Kd.C_drewN ?_ _) | (with_reducible refine Kd.C_drew ?_) | exact HR437_0.out)) 3 p444 q444
                         obtain rfl : ad439 = ad444 := (by injection e444)
                         (try simp only [show (3 : Int).toNat = 3 from rfl, Nat.reduceMul, Nat.reduceEqDiff, Go.Addr.add, ↓reduceIte] at hx444_0)
                         have qi444 : (3 < (rd_L1 t424 x12_2).length) = True := eq_true (by omega)
                         (try rw [show ((3 : Int)).toNat = 3 from rfl] at hx444_0)
                         replace p444 := eq_true p444
                         replace q444 := eq_true q444
                         have p445 : 0 ≤ (2 : Int) := (by omega)
                         have q445 : 2 < ((rd_L1 t424 x12_2).length : Int) := of_decide_eq_true (by first | (with_reducible assumption) | assumption)
                         obtain ⟨ad445, e445, hx445_0⟩ := Kd.at_int (by repeat (first | (with_reducible exact HR437_0.out) | (with_reducible refine Kd.C_alloc ?_ _) | (with_reducible refine Kd.C_drewN ?_ _) | (with_reducible refine Kd.C_drew ?_) | exact HR437_0.out)) 2 p445 q445
                         obtain rfl : ad439 = ad445 := (by injection e445)
                         (try simp only [show (2 : Int).toNat = 2 from rfl, Nat.reduceMul, Nat.reduceEqDiff, Go.Addr.add, ↓reduceIte] at hx445_0)
                         have qi445 : (2 < (rd_L1 t424 x12_2).length) = True := eq_true (by omega)
                         (try rw [show ((2 : Int)).toNat = 2 from rfl] at hx445_0)
                         replace p445 := eq_true p445
                         replace q445 := eq_true q445
                         have p446 : 0 ≤ (3 : Int) := (by omega)
                         have q446 : 3 < ((rd_L1 t424 x12_2).length : Int) := of_decide_eq_true (by first | (with_reducible assumption) | assumption)
                         obtain ⟨ad446, e446, hx446_0⟩ := Kd.at_int (by repeat (first | (with_reducible exact HR437_0.out) | (with_reducible refine Kd.C_alloc ?_ _) | (with_reducible refine Kd.C_drewN ?_ _) | (with_reducible refine Kd.C_drew ?_) | exact HR437_0.out)) 3 p446 q446
                         obtain rfl : ad439 = ad446 := (by injection e446)
                         (try simp only [show (3 : Int).toNat = 3 from rfl, Nat.reduceMul, Nat.reduceEqDiff, Go.Addr.add, ↓reduceIte] at hx446_0)
                         have qi446 : (3 < (rd_L1 t424 x12_2).length) = True := eq_true (by omega)
                         (try rw [show ((3 : Int)).toNat = 3 from rfl] at hx446_0)
                         replace p446 := eq_true p446
                         replace q446 := eq_true q446
                         have p447 : 0 ≤ (0 : Int) := (by omega)
                         have q447 : 0 < ((rd_L1 t424 x12_2).length : Int) := of_decide_eq_true (by first | (with_reducible assumption) | assumption)
                         obtain ⟨ad447, e447, hx447_0⟩ := Kd.at_int (by repeat (first | (with_reducible exact HR437_0.out) | (with_reducible refine Kd.C_alloc ?_ _) | (with_reducible refine Kd.C_drewN ?_ _) | (with_reducible refine Kd.C_drew ?_) | exact HR437_0.out)) 0 p447 q447
                         obtain rfl : ad439 = ad447 := (by injection e447)
                         have qi447 : (0 < (rd_L1 t424 x12_2).length) = True := eq_true (by omega)
                         (try rw [show ((0 : Int)).toNat = 0 from rfl] at hx447_0)
                         (try rw [Addr.add_zero'] at hx447_0)
                         replace p447 := eq_true p447
                         replace q447 := eq_true q447
                         have p448 : 0 ≤ ((ji44) : Int) := of_decide_eq_true (by first | (with_reducible assumption) | assumption)
                         have q448 : (ji44) < (t424.length : Int) := of_decide_eq_true (by first | (with_reducible assumption) | assumption)
                         obtain ⟨ad448, A448_0, c448_0, e448, hx448_0, hl448_0, hi448_0⟩ := at_L1 (Kd.S_reads' HO_4.out).2.2 (ji44) p448 q448
                         obtain rfl : ad437 = ad448 := (by injection e448)
                         obtain ⟨ce448, hce448, hMe448, hcc448⟩ := Kd.S_get HO_4.out [] (ji44) p448 (by first | exact q448 | exact of_decide_eq_true (by first | (with_reducible assumption) | assumption) | (have e_ := (Kd.S_reads' HO_4.out).1; omega))
                         obtain ⟨ve448_0, rfl, ge448_0⟩ := hMe448
                         have hv448_0 := hcc448 0 _ rfl
                         rw [Nat.add_zero, show ((Kd.slice 3 (Kd.int .i64))).sz = 1 from rfl, Nat.mul_one] at hv448_0
                         replace hv448_0 := Option.some.inj (hv448_0.symm.trans hx448_0)
                         rw [hv448_0] at ge448_0
                         have HL448_0 := Aside0.mk (show Kd.R (Kd.int .i64) 3 _ _ _ _ (rd_L1 t424 (ji44)) from ge448_0)
                         clear hv448_0 ge448_0
                         clear hcc448 hce448
                         have HR448_0 := Aside0.mk hi448_0
                         have HC448_0 := Aside0.mk hl448_0
                         clear hi448_0 hl448_0
                         replace p448 := eq_true p448
                         replace q448 := eq_true q448
                         have p449 : 0 ≤ (0 : Int) := (by omega)
                         have q449 : 0 < ((rd_L1 t424 (ji44)).length : Int) := of_decide_eq_true (by first | (with_reducible assumption) | assumption)
                         obtain ⟨ad449, e449, hx449_0⟩ := Kd.at_int (by repeat (first | (with_reducible exact HR448_0.out) | (with_reducible refine Kd.C_alloc ?_ _) | (with_reducible refine Kd.C_drewN ?_ _) | (with_reducible refine Kd.C_drew ?_) | exact HR448_0.out)) 0 p449 q449
                         cases e449
                         have qi449 : (0 < (rd_L1 t424 (ji44)).length) = True := eq_true (by omega)
                         (try rw [show ((0 : Int)).toNat = 0 from rfl] at hx449_0)
                         (try rw [Addr.add_zero'] at hx449_0)
                         replace p449 := eq_true p449
                         replace q449 := eq_true q449
                         go_wp2
                         repeat (go_quiet (fail); try go_wp2)
                         go_roundg k2
                         case measure => have := HJ5.out; have := HK2.out; omega
                         case rel => exact ⟨(x11_2), (wrap64 (x12_2 + 1)), (by first | rfl | (simp; done) | (simp [*]; done)), (by first | rfl | (simp; done) | (simp [*]; done)), H', ⟨by have := HJ5.out; have := HK2.out; omega⟩, ⟨by (with_reducible repeat (first | apply Kd.V_alloc | apply Kd.V_drewN | apply Kd.V_drew)); exact HO_3.out⟩, ⟨by (with_reducible repeat (first | apply Kd.S_alloc | apply Kd.S_drewN | apply Kd.S_drew)); exact HO_4.out⟩, ⟨by repeat (first | (with_reducible first | exact HB.out | apply below_alloc | apply pw_below_drewN | apply below_drew1) | exact HB.out)⟩⟩
                       ·rw [if_neg c47] at H
                        exact absurd H (by simp)
                      ·rw [if_neg c46] at H
                       exact absurd H (by simp)
                     ·rw [if_neg c45] at H
                      exact absurd H (by simp)
                    ·rw [if_neg c43] at H
                     have c43b0 : decide (0 < x12_2) = false := decide_eq_false c43
                     clear c43
                     have H' := Aside0.mk H
                     clear H
                     obtain ⟨Ao51, co51, eo51⟩ := Kd.S_slice HO_4.out
                     subst eo51
                     have p437 : 0 ≤ (x12_2 : Int) := of_decide_eq_true (by first | (with_reducible assumption) | assumption)
                     have q437 : x12_2 < (t424.length : Int) := of_decide_eq_true (by first | (with_reducible assumption) | assumption)
                     obtain ⟨ad437, A437_0, c437_0, e437, hx437_0, hl437_0, hi437_0⟩ := at_L1 (Kd.S_reads' HO_4.out).2.2 x12_2 p437 q437
                     cases e437
                     obtain ⟨ce437, hce437, hMe437, hcc437⟩ := Kd.S_get HO_4.out [] x12_2 p437 (by first | exact q437 | exact of_decide_eq_true (by first | (with_reducible assumption) | assumption) | (have e_ := (Kd.S_reads' HO_4.out).1; omega))
                     obtain ⟨ve437_0, rfl, ge437_0⟩ := hMe437
                     have hv437_0 := hcc437 0 _ rfl
                     rw [Nat.add_zero, show ((Kd.slice 3 (Kd.int .i64))).sz = 1 from rfl, Nat.mul_one] at hv437_0
                     replace hv437_0 := Option.some.inj (hv437_0.symm.trans hx437_0)
                     rw [hv437_0] at ge437_0
                     have HL437_0 := Aside0.mk (show Kd.R (Kd.int .i64) 3 _ _ _ _ (rd_L1 t424 x12_2) from ge437_0)
                     clear hv437_0 ge437_0
                     clear hcc437 hce437
                     have HR437_0 := Aside0.mk hi437_0
                     have HC437_0 := Aside0.mk hl437_0
                     clear hi437_0 hl437_0
                     replace p437 := eq_true p437
                     replace q437 := eq_true q437
                     have p438 : 0 ≤ (0 : Int) := (by omega)
                     have q438 : 0 < (t421.length : Int) := of_decide_eq_true (by first | (with_reducible assumption) | assumption)
                     obtain ⟨ad438, e438, hx438_0⟩ := Kd.at_string (Kd.V_reads' HO_3.out).2.2 0 p438 q438
                     cases e438
                     have qi438 : (0 < t421.length) = True := eq_true (by omega)
                     (try rw [show ((0 : Int)).toNat = 0 from rfl] at hx438_0)
                     (try rw [Addr.add_zero'] at hx438_0)
                     replace p438 := eq_true p438
                     replace q438 := eq_true q438
                     have p439 : 0 ≤ (0 : Int) := (by omega)
                     have q439 : 0 < ((rd_L1 t424 x12_2).length : Int) := of_decide_eq_true (by first | (with_reducible assumption) | assumption)
                     obtain ⟨ad439, e439, hx439_0⟩ := Kd.at_int (by repeat (first | (with_reducible exact HR437_0.out) | (with_reducible refine Kd.C_alloc ?_ _) | (with_reducible refine Kd.C_drewN ?_ _) | (with_reducible refine Kd.C_drew ?_) | exact HR437_0.out)) 0 p439 q439
                     cases e439
                     have qi439 : (0 < (rd_L1 t424 x12_2).length) = True := eq_true (by omega)
                     (try rw [show ((0 : Int)).toNat = 0 from rfl] at hx439_0)
                     (try rw [Addr.add_zero'] at hx439_0)
                     replace p439 := eq_true p439
                     replace q439 := eq_true q439
                     have p440 : 0 ≤ (0 : Int) := (by omega)
                     have q440 : 0 < (t421.length : Int) := of_decide_eq_true (by first | (with_reducible assumption) | assumption)
                     obtain ⟨ad440, e440, hx440_0⟩ := Kd.at_string (Kd.V_reads' HO_3.out).2.2 0 p440 q440
                     obtain rfl : ad438 = ad440 := (by injection e440)
                     have qi440 : (0 < t421.length) = True := eq_true (by omega)
                     (try rw [show ((0 : Int)).toNat = 0 from rfl] at hx440_0)
                     (try rw [Addr.add_zero'] at hx440_0)
                     replace p440 := eq_true p440
                     replace q440 := eq_true q440
                     have p441 : 0 ≤ (1 : Int) := (by omega)
                     have q441 : 1 < ((rd_L1 t424 x12_2).length : Int) := of_decide_eq_true (by first | (with_reducible assumption) | assumption)
                     obtain ⟨ad441, e441, hx441_0⟩ := Kd.at_int (by repeat (first | (with_reducible exact HR437_0.out) | (with_reducible refine Kd.C_alloc ?_ _) | (with_reducible refine Kd.C_drewN ?_ _) | (with_reducible refine Kd.C_drew ?_) | exact HR437_0.out)) 1 p441 q441
                     obtain rfl : ad439 = ad441 := (by injection e441)
                     (try simp only [show (1 : Int).toNat = 1 from rfl, Nat.reduceMul, Nat.reduceEqDiff, Go.Addr.add, ↓reduceIte] at hx441_0)
                     have qi441 : (1 < (rd_L1 t424 x12_2).length) = True := eq_true (by omega)
                     (try rw [show ((1 : Int)).toNat = 1 from rfl] at hx441_0)
                     replace p441 := eq_true p441
                     replace q441 := eq_true q441
                     have p442 : 0 ≤ (1 : Int) := (by omega)
                     have q442 : 1 < ((rd_L1 t424 x12_2).length : Int) := of_decide_eq_true (by first | (with_reducible assumption) | assumption)
                     obtain ⟨ad442, e442, hx442_0⟩ := Kd.at_int (by repeat (first | (with_reducible exact HR437_0.out) | (with_reducible refine Kd.C_alloc ?_ _) | (with_reducible refine Kd.C_drewN ?_ _) | (with_reducible refine Kd.C_drew ?_) | exact HR437_0.out)) 1 p442 q442
                     obtain rfl : ad439 = ad442 := (by injection e442)
                     (try simp only [show (1 : Int).toNat = 1 from rfl, Nat.reduceMul, Nat.reduceEqDiff, Go.Addr.add, ↓reduceIte] at hx442_0)
                     have qi442 : (1 < (rd_L1 t424 x12_2).length) = True := eq_true (by omega)
                     (try rw [show ((1 : Int)).toNat = 1 from rfl] at hx442_0)
                     replace p442 := eq_true p442
                     replace q442 := eq_true q442
                     have p443 : 0 ≤ (2 : Int) := (by omega)
                     have q443 : 2 < ((rd_L1 t424 x12_2).length : Int) := of_decide_eq_true (by first | (with_reducible assumption) | assumption)
                     obtain ⟨ad443, e443, hx443_0⟩ := Kd.at_int (by repeat (first | (with_reducible exact HR437_0.out) | (with_reducible refine Kd.C_alloc ?_ _) | (with_reducible refine Kd.C_drewN ?_ _) | (with_reducible refine Kd.C_drew ?_) | exact HR437_0.out)) 2 p443 q443
                     obtain rfl : ad439 = ad443 := (by injection e443)
                     (try simp only [show (2 : Int).toNat = 2 from rfl, Nat.reduceMul, Nat.reduceEqDiff, Go.Addr.add, ↓reduceIte] at hx443_0)
                     have qi443 : (2 < (rd_L1 t424 x12_2).length) = True := eq_true (by omega)
                     (try rw [show ((2 : Int)).toNat = 2 from rfl] at hx443_0)
                     replace p443 := eq_true p443
                     replace q443 := eq_true q443
                     have p444 : 0 ≤ (3 : Int) := (by omega)
                     have q444 : 3 < ((rd_L1 t424 x12_2).length : Int) := of_decide_eq_true (by first | (with_reducible assumption) | assumption)
                     obtain ⟨ad444, e444, hx444_0⟩ := Kd.at_int (by repeat (first | (with_reducible exact HR437_0.out) | (with_reducible refine Kd.C_alloc ?_ _) | (with_reducible refine Kd.C_drewN ?_ _) | (with_reducible refine Kd.C_drew ?_) | exact HR437_0.out)) 3 p444 q444
                     obtain rfl : ad439 = ad444 := (by injection e444)
                     (try simp only [show (3 : Int).toNat = 3 from rfl, Nat.reduceMul, Nat.reduceEqDiff, Go.Addr.add, ↓reduceIte] at hx444_0)
                     have qi444 : (3 < (rd_L1 t424 x12_2).length) = True := eq_true (by omega)
                     (try rw [show ((3 : Int)).toNat = 3 from rfl] at hx444_0)
                     replace p444 := eq_true p444
                     replace q444 := eq_true q444
                     have p445 : 0 ≤ (2 : Int) := (by omega)
                     have q445 : 2 < ((rd_L1 t424 x12_2).length : Int) := of_decide_eq_true (by first | (with_reducible assumption) | assumption)
                     obtain ⟨ad445, e445, hx445_0⟩ := Kd.at_int (by repeat (first | (with_reducible exact HR437_0.out) | (with_reducible refine Kd.C_alloc ?_ _) | (with_reducible refine Kd.C_drewN ?_ _) | (with_reducible refine Kd.C_drew ?_) | exact HR437_0.out)) 2 p445 q445
                     obtain rfl : ad439 = ad445 := (by injection e445)
                     (try simp only [show (2 : Int).toNat = 2 from rfl, Nat.reduceMul, Nat.reduceEqDiff, Go.Addr.add, ↓reduceIte] at hx445_0)
                     have qi445 : (2 < (rd_L1 t424 x12_2).length) = True := eq_true (by omega)
                     (try rw [show ((2 : Int)).toNat = 2 from rfl] at hx445_0)
                     replace p445 := eq_true p445
                     replace q445 := eq_true q445
                     have p446 : 0 ≤ (3 : Int) := (by omega)
                     have q446 : 3 < ((rd_L1 t424 x12_2).length : Int) := of_decide_eq_true (by first | (with_reducible assumption) | assumption)
                     obtain ⟨ad446, e446, hx446_0⟩ := Kd.at_int (by repeat (first | (with_reducible exact HR437_0.out) | (with_reducible refine Kd.C_alloc ?_ _) | (with_reducible refine Kd.C_drewN ?_ _) | (with_reducible refine Kd.C_drew ?_) | exact HR437_0.out)) 3 p446 q446
                     obtain rfl : ad439 = ad446 := (by injection e446)
                     (try simp only [show (3 : Int).toNat = 3 from rfl, Nat.reduceMul, Nat.reduceEqDiff, Go.Addr.add, ↓reduceIte] at hx446_0)
                     have qi446 : (3 < (rd_L1 t424 x12_2).length) = True := eq_true (by omega)
                     (try rw [show ((3 : Int)).toNat = 3 from rfl] at hx446_0)
                     replace p446 := eq_true p446
                     replace q446 := eq_true q446
                     go_wp2
                     repeat (go_quiet (fail); try go_wp2)
                     go_roundg k2
                     case measure => have := HJ5.out; have := HK2.out; omega
                     case rel => exact ⟨(x11_2), (wrap64 (x12_2 + 1)), (by first | rfl | (simp; done) | (simp [*]; done)), (by first | rfl | (simp; done) | (simp [*]; done)), H', ⟨by have := HJ5.out; have := HK2.out; omega⟩, ⟨by (with_reducible repeat (first | apply Kd.V_alloc | apply Kd.V_drewN | apply Kd.V_drew)); exact HO_3.out⟩, ⟨by (with_reducible repeat (first | apply Kd.S_alloc | apply Kd.S_drewN | apply Kd.S_drew)); exact HO_4.out⟩, ⟨by repeat (first | (with_reducible first | exact HB.out | apply below_alloc | apply pw_below_drewN | apply below_drew1) | exact HB.out)⟩⟩
                 ·rw [if_neg c38] at H
                  exact absurd H (by simp)
               ·rw [if_neg c35] at H
                exact absurd H (by simp)
            ·rw [if_neg c30] at H
             exact absurd H (by simp)
           ·rw [if_neg c29] at H
            have c29b0 : ((rd (rd_L1 t424 x12_2) 0) == 1) = false := beq_eq_false_iff_ne.mpr c29
            have c29b1 : ((rd (rd_L1 t424 x12_2) 0) != 1) = true := bne_iff_ne.mpr c29
            by_cases c52 : 1 < ((rd_L1 t424 x12_2).length : Int)
            ·rw [if_pos c52] at H
             have c52b0 : decide (1 < ((rd_L1 t424 x12_2).length : Int)) = true := decide_eq_true c52
             have c52b1 : decide (1 < (rd_L1 t424 x12_2).length) = true := decide_eq_true (by omega)
             clear c52
             by_cases c53 : (rd (rd_L1 t424 x12_2) 1) < 1
             ·rw [if_pos c53] at H
              have c53b0 : decide ((rd (rd_L1 t424 x12_2) 1) < 1) = true := decide_eq_true c53
              clear c53
              obtain rfl := Option.some.inj H
              obtain ⟨Ao54, co54, eo54⟩ := Kd.S_slice HO_4.out
              subst eo54
              have p437 : 0 ≤ (x12_2 : Int) := of_decide_eq_true (by first | (with_reducible assumption) | assumption)
              have q437 : x12_2 < (t424.length : Int) := of_decide_eq_true (by first | (with_reducible assumption) | assumption)
              obtain ⟨ad437, A437_0, c437_0, e437, hx437_0, hl437_0, hi437_0⟩ := at_L1 (Kd.S_reads' HO_4.out).2.2 x12_2 p437 q437
              cases e437
              obtain ⟨ce437, hce437, hMe437, hcc437⟩ := Kd.S_get HO_4.out [] x12_2 p437 (by first | exact q437 | exact of_decide_eq_true (by first | (with_reducible assumption) | assumption) | (have e_ := (Kd.S_reads' HO_4.out).1; omega))
              obtain ⟨ve437_0, rfl, ge437_0⟩ := hMe437
              have hv437_0 := hcc437 0 _ rfl
              rw [Nat.add_zero, show ((Kd.slice 3 (Kd.int .i64))).sz = 1 from rfl, Nat.mul_one] at hv437_0
              replace hv437_0 := Option.some.inj (hv437_0.symm.trans hx437_0)
              rw [hv437_0] at ge437_0
              have HL437_0 := Aside0.mk (show Kd.R (Kd.int .i64) 3 _ _ _ _ (rd_L1 t424 x12_2) from ge437_0)
              clear hv437_0 ge437_0
              clear hcc437 hce437
              have HR437_0 := Aside0.mk hi437_0
              have HC437_0 := Aside0.mk hl437_0
              clear hi437_0 hl437_0
              replace p437 := eq_true p437
              replace q437 := eq_true q437
              have p438 : 0 ≤ (0 : Int) := (by omega)
              have q438 : 0 < (t421.length : Int) := of_decide_eq_true (by first | (with_reducible assumption) | assumption)
              obtain ⟨ad438, e438, hx438_0⟩ := Kd.at_string (Kd.V_reads' HO_3.out).2.2 0 p438 q438
              cases e438
              have qi438 : (0 < t421.length) = True := eq_true (by omega)
              (try rw [show ((0 : Int)).toNat = 0 from rfl] at hx438_0)
              (try rw [Addr.add_zero'] at hx438_0)
              replace p438 := eq_true p438
              replace q438 := eq_true q438
              have p439 : 0 ≤ (0 : Int) := (by omega)
              have q439 : 0 < ((rd_L1 t424 x12_2).length : Int) := of_decide_eq_true (by first | (with_reducible assumption) | assumption)
              obtain ⟨ad439, e439, hx439_0⟩ := Kd.at_int (by repeat (first | (with_reducible exact HR437_0.out) | (with_reducible refine Kd.C_alloc ?_ _) | (with_reducible refine Kd.C_drewN ?_ _) | (with_reducible refine Kd.C_drew ?_) | exact HR437_0.out)) 0 p439 q439
              cases e439
              have qi439 : (0 < (rd_L1 t424 x12_2).length) = True := eq_true (by omega)
              (try rw [show ((0 : Int)).toNat = 0 from rfl] at hx439_0)
              (try rw [Addr.add_zero'] at hx439_0)
              replace p439 := eq_true p439
              replace q439 := eq_true q439
              have p450 : 0 ≤ (1 : Int) := (by omega)
              have q450 : 1 < ((rd_L1 t424 x12_2).length : Int) := of_decide_eq_true (by first | (with_reducible assumption) | assumption)
              obtain ⟨ad450, e450, hx450_0⟩ := Kd.at_int (by repeat (first | (with_reducible exact HR437_0.out) | (with_reducible refine Kd.C_alloc ?_ _) | (with_reducible refine Kd.C_drewN ?_ _) | (with_reducible refine Kd.C_drew ?_) | exact HR437_0.out)) 1 p450 q450
              obtain rfl : ad439 = ad450 := (by injection e450)
              (try simp only [show (1 : Int).toNat = 1 from rfl, Nat.reduceMul, Nat.reduceEqDiff, Go.Addr.add, ↓reduceIte] at hx450_0)
              have qi450 : (1 < (rd_L1 t424 x12_2).length) = True := eq_true (by omega)
              (try rw [show ((1 : Int)).toNat = 1 from rfl] at hx450_0)
              replace p450 := eq_true p450
              replace q450 := eq_true q450
              go_wp2
              repeat (go_quiet (fail); try go_wp2)
              go_ret
              exact ⟨by first | rfl | (simp [errW_none, errW_some] <;> rfl) | (simp [*, errW_none, errW_some] <;> rfl), by repeat (first | (with_reducible first | exact HB.out | apply below_alloc | apply pw_below_drewN | apply below_drew1) | exact HB.out)⟩
             ·rw [if_neg c53] at H
              have c53b0 : decide ((rd (rd_L1 t424 x12_2) 1) < 1) = false := decide_eq_false c53
              clear c53
              by_cases c55 : (rd (rd_L1 t424 x12_2) 1) ≥ ((rdOf ByteArray.empty t421 0).size : Int)
              ·rw [if_pos c55] at H
               have c55b0 : decide (((rdOf ByteArray.empty t421 0).size : Int) ≤ (rd (rd_L1 t424 x12_2) 1)) = true := decide_eq_true c55
               clear c55
               obtain rfl := Option.some.inj H
               obtain ⟨Ao56, co56, eo56⟩ := Kd.S_slice HO_4.out
               subst eo56
               have p437 : 0 ≤ (x12_2 : Int) := of_decide_eq_true (by first | (with_reducible assumption) | assumption)
               have q437 : x12_2 < (t424.length : Int) := of_decide_eq_true (by first | (with_reducible assumption) | assumption)
               obtain ⟨ad437, A437_0, c437_0, e437, hx437_0, hl437_0, hi437_0⟩ := at_L1 (Kd.S_reads' HO_4.out).2.2 x12_2 p437 q437
               cases e437
               obtain ⟨ce437, hce437, hMe437, hcc437⟩ := Kd.S_get HO_4.out [] x12_2 p437 (by first | exact q437 | exact of_decide_eq_true (by first | (with_reducible assumption) | assumption) | (have e_ := (Kd.S_reads' HO_4.out).1; omega))
               obtain ⟨ve437_0, rfl, ge437_0⟩ := hMe437
               have hv437_0 := hcc437 0 _ rfl
               rw [Nat.add_zero, show ((Kd.slice 3 (Kd.int .i64))).sz = 1 from rfl, Nat.mul_one] at hv437_0
               replace hv437_0 := Option.some.inj (hv437_0.symm.trans hx437_0)
               rw [hv437_0] at ge437_0
               have HL437_0 := Aside0.mk (show Kd.R (Kd.int .i64) 3 _ _ _ _ (rd_L1 t424 x12_2) from ge437_0)
               clear hv437_0 ge437_0
               clear hcc437 hce437
               have HR437_0 := Aside0.mk hi437_0
               have HC437_0 := Aside0.mk hl437_0
               clear hi437_0 hl437_0
               replace p437 := eq_true p437
               replace q437 := eq_true q437
               have p438 : 0 ≤ (0 : Int) := (by omega)
               have q438 : 0 < (t421.length : Int) := of_decide_eq_true (by first | (with_reducible assumption) | assumption)
               obtain ⟨ad438, e438, hx438_0⟩ := Kd.at_string (Kd.V_reads' HO_3.out).2.2 0 p438 q438
               cases e438
               have qi438 : (0 < t421.length) = True := eq_true (by omega)
               (try rw [show ((0 : Int)).toNat = 0 from rfl] at hx438_0)
               (try rw [Addr.add_zero'] at hx438_0)
               replace p438 := eq_true p438
               replace q438 := eq_true q438
               have p439 : 0 ≤ (0 : Int) := (by omega)
               have q439 : 0 < ((rd_L1 t424 x12_2).length : Int) := of_decide_eq_true (by first | (with_reducible assumption) | assumption)
               obtain ⟨ad439, e439, hx439_0⟩ := Kd.at_int (by repeat (first | (with_reducible exact HR437_0.out) | (with_reducible refine Kd.C_alloc ?_ _) | (with_reducible refine Kd.C_drewN ?_ _) | (with_reducible refine Kd.C_drew ?_) | exact HR437_0.out)) 0 p439 q439
               cases e439
               have qi439 : (0 < (rd_L1 t424 x12_2).length) = True := eq_true (by omega)
               (try rw [show ((0 : Int)).toNat = 0 from rfl] at hx439_0)
               (try rw [Addr.add_zero'] at hx439_0)
               replace p439 := eq_true p439
               replace q439 := eq_true q439
               have p450 : 0 ≤ (1 : Int) := (by omega)
               have q450 : 1 < ((rd_L1 t424 x12_2).length : Int) := of_decide_eq_true (by first | (with_reducible assumption) | assumption)
               obtain ⟨ad450, e450, hx450_0⟩ := Kd.at_int (by repeat (first | (with_reducible exact HR437_0.out) | (with_reducible refine Kd.C_alloc ?_ _) | (with_reducible refine Kd.C_drewN ?_ _) | (with_reducible refine Kd.C_drew ?_) | exact HR437_0.out)) 1 p450 q450
               obtain rfl : ad439 = ad450 := (by injection e450)
               (try simp only [show (1 : Int).toNat = 1 from rfl, Nat.reduceMul, Nat.reduceEqDiff, Go.Addr.add, ↓reduceIte] at hx450_0)
               have qi450 : (1 < (rd_L1 t424 x12_2).length) = True := eq_true (by omega)
               (try rw [show ((1 : Int)).toNat = 1 from rfl] at hx450_0)
               replace p450 := eq_true p450
               replace q450 := eq_true q450
               have p451 : 0 ≤ (1 : Int) := (by omega)
               have q451 : 1 < ((rd_L1 t424 x12_2).length : Int) := of_decide_eq_true (by first | (with_reducible assumption) | assumption)
               obtain ⟨ad451, e451, hx451_0⟩ := Kd.at_int (by repeat (first | (with_reducible exact HR437_0.out) | (with_reducible refine Kd.C_alloc ?_ _) | (with_reducible refine Kd.C_drewN ?_ _) | (with_reducible refine Kd.C_drew ?_) | exact HR437_0.out)) 1 p451 q451
               obtain rfl : ad439 = ad451 := (by injection e451)
               (try simp only [show (1 : Int).toNat = 1 from rfl, Nat.reduceMul, Nat.reduceEqDiff, Go.Addr.add, ↓reduceIte] at hx451_0)
               have qi451 : (1 < (rd_L1 t424 x12_2).length) = True := eq_true (by omega)
               (try rw [show ((1 : Int)).toNat = 1 from rfl] at hx451_0)
               replace p451 := eq_true p451
               replace q451 := eq_true q451
               go_wp2
               repeat (go_quiet (fail); try go_wp2)
               go_ret
               exact ⟨by first | rfl | (simp [errW_none, errW_some] <;> rfl) | (simp [*, errW_none, errW_some] <;> rfl), by repeat (first | (with_reducible first | exact HB.out | apply below_alloc | apply pw_below_drewN | apply below_drew1) | exact HB.out)⟩
              ·rw [if_neg c55] at H
               have c55b0 : decide (((rdOf ByteArray.empty t421 0).size : Int) ≤ (rd (rd_L1 t424 x12_2) 1)) = false := decide_eq_false c55
               clear c55
               by_cases c57 : 2 < ((rd_L1 t424 x12_2).length : Int)
               ·rw [if_pos c57] at H
                have c57b0 : decide (2 < ((rd_L1 t424 x12_2).length : Int)) = true := decide_eq_true c57
                have c57b1 : decide (2 < (rd_L1 t424 x12_2).length) = true := decide_eq_true (by omega)
                clear c57
                by_cases c58 : (rd (rd_L1 t424 x12_2) 2) < 0
                ·rw [if_pos c58] at H
                 have c58b0 : decide ((rd (rd_L1 t424 x12_2) 2) < 0) = true := decide_eq_true c58
                 clear c58
                 obtain rfl := Option.some.inj H
                 obtain ⟨Ao59, co59, eo59⟩ := Kd.S_slice HO_4.out
                 subst eo59
                 have p437 : 0 ≤ (x12_2 : Int) := of_decide_eq_true (by first | (with_reducible assumption) | assumption)
                 have q437 : x12_2 < (t424.length : Int) := of_decide_eq_true (by first | (with_reducible assumption) | assumption)
                 obtain ⟨ad437, A437_0, c437_0, e437, hx437_0, hl437_0, hi437_0⟩ := at_L1 (Kd.S_reads' HO_4.out).2.2 x12_2 p437 q437
                 cases e437
                 obtain ⟨ce437, hce437, hMe437, hcc437⟩ := Kd.S_get HO_4.out [] x12_2 p437 (by first | exact q437 | exact of_decide_eq_true (by first | (with_reducible assumption) | assumption) | (have e_ := (Kd.S_reads' HO_4.out).1; omega))
                 obtain ⟨ve437_0, rfl, ge437_0⟩ := hMe437
                 have hv437_0 := hcc437 0 _ rfl
                 rw [Nat.add_zero, show ((Kd.slice 3 (Kd.int .i64))).sz = 1 from rfl, Nat.mul_one] at hv437_0
                 replace hv437_0 := Option.some.inj (hv437_0.symm.trans hx437_0)
                 rw [hv437_0] at ge437_0
                 have HL437_0 := Aside0.mk (show Kd.R (Kd.int .i64) 3 _ _ _ _ (rd_L1 t424 x12_2) from ge437_0)
                 clear hv437_0 ge437_0
                 clear hcc437 hce437
                 have HR437_0 := Aside0.mk hi437_0
                 have HC437_0 := Aside0.mk hl437_0
                 clear hi437_0 hl437_0
                 replace p437 := eq_true p437
                 replace q437 := eq_true q437
                 have p438 : 0 ≤ (0 : Int) := (by omega)
                 have q438 : 0 < (t421.length : Int) := of_decide_eq_true (by first | (with_reducible assumption) | assumption)
                 obtain ⟨ad438, e438, hx438_0⟩ := Kd.at_string (Kd.V_reads' HO_3.out).2.2 0 p438 q438
                 cases e438
                 have qi438 : (0 < t421.length) = True := eq_true (by omega)
                 (try rw [show ((0 : Int)).toNat = 0 from rfl] at hx438_0)
                 (try rw [Addr.add_zero'] at hx438_0)
                 replace p438 := eq_true p438
                 replace q438 := eq_true q438
                 have p439 : 0 ≤ (0 : Int) := (by omega)
                 have q439 : 0 < ((rd_L1 t424 x12_2).length : Int) := of_decide_eq_true (by first | (with_reducible assumption) | assumption)
                 obtain ⟨ad439, e439, hx439_0⟩ := Kd.at_int (by repeat (first | (with_reducible exact HR437_0.out) | (with_reducible refine Kd.C_alloc ?_ _) | (with_reducible refine Kd.C_drewN ?_ _) | (with_reducible refine Kd.C_drew ?_) | exact HR437_0.out)) 0 p439 q439
                 cases e439
                 have qi439 : (0 < (rd_L1 t424 x12_2).length) = True := eq_true (by omega)
                 (try rw [show ((0 : Int)).toNat = 0 from rfl] at hx439_0)
                 (try rw [Addr.add_zero'] at hx439_0)
                 replace p439 := eq_true p439
                 replace q439 := eq_true q439
                 have p450 : 0 ≤ (1 : Int) := (by omega)
                 have q450 : 1 < ((rd_L1 t424 x12_2).length : Int) := of_decide_eq_true (by first | (with_reducible assumption) | assumption)
                 obtain ⟨ad450, e450, hx450_0⟩ := Kd.at_int (by repeat (first | (with_reducible exact HR437_0.out) | (with_reducible refine Kd.C_alloc ?_ _) | (with_reducible refine Kd.C_drewN ?_ _) | (with_reducible refine Kd.C_drew ?_) | exact HR437_0.out)) 1 p450 q450
                 obtain rfl : ad439 = ad450 := (by injection e450)
                 (try simp only [show (1 : Int).toNat = 1 from rfl, Nat.reduceMul, Nat.reduceEqDiff, Go.Addr.add, ↓reduceIte] at hx450_0)
                 have qi450 : (1 < (rd_L1 t424 x12_2).length) = True := eq_true (by omega)
                 (try rw [show ((1 : Int)).toNat = 1 from rfl] at hx450_0)
                 replace p450 := eq_true p450
                 replace q450 := eq_true q450
                 have p451 : 0 ≤ (1 : Int) := (by omega)
                 have q451 : 1 < ((rd_L1 t424 x12_2).length : Int) := of_decide_eq_true (by first | (with_reducible assumption) | assumption)
                 obtain ⟨ad451, e451, hx451_0⟩ := Kd.at_int (by repeat (first | (with_reducible exact HR437_0.out) | (with_reducible refine Kd.C_alloc ?_ _) | (with_reducible refine Kd.C_drewN ?_ _) | (with_reducible refine Kd.C_drew ?_) | exact HR437_0.out)) 1 p451 q451
                 obtain rfl : ad439 = ad451 := (by injection e451)
                 (try simp only [show (1 : Int).toNat = 1 from rfl, Nat.reduceMul, Nat.reduceEqDiff, Go.Addr.add, ↓reduceIte] at hx451_0)
                 have qi451 : (1 < (rd_L1 t424 x12_2).length) = True := eq_true (by omega)
                 (try rw [show ((1 : Int)).toNat = 1 from rfl] at hx451_0)
                 replace p451 := eq_true p451
                 replace q451 := eq_true q451
                 have p452 : 0 ≤ (2 : Int) := (by omega)
                 have q452 : 2 < ((rd_L1 t424 x12_2).length : Int) := of_decide_eq_true (by first | (with_reducible assumption) | assumption)
                 obtain ⟨ad452, e452, hx452_0⟩ := Kd.at_int (by repeat (first | (with_reducible exact HR437_0.out) | (with_reducible refine Kd.C_alloc ?_ _) | (with_reducible refine Kd.C_drewN ?_ _) | (with_reducible refine Kd.C_drew ?_) | exact HR437_0.out)) 2 p452 q452
                 obtain rfl : ad439 = ad452 := (by injection e452)
                 (try simp only [show (2 : Int).toNat = 2 from rfl, Nat.reduceMul, Nat.reduceEqDiff, Go.Addr.add, ↓reduceIte] at hx452_0)
                 have qi452 : (2 < (rd_L1 t424 x12_2).length) = True := eq_true (by omega)
                 (try rw [show ((2 : Int)).toNat = 2 from rfl] at hx452_0)
                 replace p452 := eq_true p452
                 replace q452 := eq_true q452
                 go_wp2
                 repeat (go_quiet (fail); try go_wp2)
                 go_ret
                 exact ⟨by first | rfl | (simp [errW_none, errW_some] <;> rfl) | (simp [*, errW_none, errW_some] <;> rfl), by repeat (first | (with_reducible first | exact HB.out | apply below_alloc | apply pw_below_drewN | apply below_drew1) | exact HB.out)⟩
                ·rw [if_neg c58] at H
                 have c58b0 : decide ((rd (rd_L1 t424 x12_2) 2) < 0) = false := decide_eq_false c58
                 clear c58
                 by_cases c60 : 3 < ((rd_L1 t424 x12_2).length : Int)
                 ·rw [if_pos c60] at H
                  have c60b0 : decide (3 < ((rd_L1 t424 x12_2).length : Int)) = true := decide_eq_true c60
                  have c60b1 : decide (3 < (rd_L1 t424 x12_2).length) = true := decide_eq_true (by omega)
                  clear c60
                  by_cases c61 : (rd (rd_L1 t424 x12_2) 3) < 1
                  ·rw [if_pos c61] at H
                   have c61b0 : decide ((rd (rd_L1 t424 x12_2) 3) < 1) = true := decide_eq_true c61
                   clear c61
                   obtain rfl := Option.some.inj H
                   obtain ⟨Ao62, co62, eo62⟩ := Kd.S_slice HO_4.out
                   subst eo62
                   have p437 : 0 ≤ (x12_2 : Int) := of_decide_eq_true (by first | (with_reducible assumption) | assumption)
                   have q437 : x12_2 < (t424.length : Int) := of_decide_eq_true (by first | (with_reducible assumption) | assumption)
                   obtain ⟨ad437, A437_0, c437_0, e437, hx437_0, hl437_0, hi437_0⟩ := at_L1 (Kd.S_reads' HO_4.out).2.2 x12_2 p437 q437
                   cases e437
                   obtain ⟨ce437, hce437, hMe437, hcc437⟩ := Kd.S_get HO_4.out [] x12_2 p437 (by first | exact q437 | exact of_decide_eq_true (by first | (with_reducible assumption) | assumption) | (have e_ := (Kd.S_reads' HO_4.out).1; omega))
                   obtain ⟨ve437_0, rfl, ge437_0⟩ := hMe437
                   have hv437_0 := hcc437 0 _ rfl
                   rw [Nat.add_zero, show ((Kd.slice 3 (Kd.int .i64))).sz = 1 from rfl, Nat.mul_one] at hv437_0
                   replace hv437_0 := Option.some.inj (hv437_0.symm.trans hx437_0)
                   rw [hv437_0] at ge437_0
                   have HL437_0 := Aside0.mk (show Kd.R (Kd.int .i64) 3 _ _ _ _ (rd_L1 t424 x12_2) from ge437_0)
                   clear hv437_0 ge437_0
                   clear hcc437 hce437
                   have HR437_0 := Aside0.mk hi437_0
                   have HC437_0 := Aside0.mk hl437_0
                   clear hi437_0 hl437_0
                   replace p437 := eq_true p437
                   replace q437 := eq_true q437
                   have p438 : 0 ≤ (0 : Int) := (by omega)
                   have q438 : 0 < (t421.length : Int) := of_decide_eq_true (by first | (with_reducible assumption) | assumption)
                   obtain ⟨ad438, e438, hx438_0⟩ := Kd.at_string (Kd.V_reads' HO_3.out).2.2 0 p438 q438
                   cases e438
                   have qi438 : (0 < t421.length) = True := eq_true (by omega)
                   (try rw [show ((0 : Int)).toNat = 0 from rfl] at hx438_0)
                   (try rw [Addr.add_zero'] at hx438_0)
                   replace p438 := eq_true p438
                   replace q438 := eq_true q438
                   have p439 : 0 ≤ (0 : Int) := (by omega)
                   have q439 : 0 < ((rd_L1 t424 x12_2).length : Int) := of_decide_eq_true (by first | (with_reducible assumption) | assumption)
                   obtain ⟨ad439, e439, hx439_0⟩ := Kd.at_int (by repeat (first | (with_reducible exact HR437_0.out) | (with_reducible refine Kd.C_alloc ?_ _) | (with_reducible refine Kd.C_drewN ?_ _) | (with_reducible refine Kd.C_drew ?_) | exact HR437_0.out)) 0 p439 q439
                   cases e439
                   have qi439 : (0 < (rd_L1 t424 x12_2).length) = True := eq_true (by omega)
                   (try rw [show ((0 : Int)).toNat = 0 from rfl] at hx439_0)
                   (try rw [Addr.add_zero'] at hx439_0)
                   replace p439 := eq_true p439
                   replace q439 := eq_true q439
                   have p450 : 0 ≤ (1 : Int) := (by omega)
                   have q450 : 1 < ((rd_L1 t424 x12_2).length : Int) := of_decide_eq_true (by first | (with_reducible assumption) | assumption)
                   obtain ⟨ad450, e450, hx450_0⟩ := Kd.at_int (by repeat (first | (with_reducible exact HR437_0.out) | (with_reducible refine Kd.C_alloc ?_ _) | (with_reducible refine Kd.C_drewN ?_ _) | (with_reducible refine Kd.C_drew ?_) | exact HR437_0.out)) 1 p450 q450
                   obtain rfl : ad439 = ad450 := (by injection e450)
                   (try simp only [show (1 : Int).toNat = 1 from rfl, Nat.reduceMul, Nat.reduceEqDiff, Go.Addr.add, ↓reduceIte] at hx450_0)
                   have qi450 : (1 < (rd_L1 t424 x12_2).length) = True := eq_true (by omega)
                   (try rw [show ((1 : Int)).toNat = 1 from rfl] at hx450_0)
                   replace p450 := eq_true p450
                   replace q450 := eq_true q450
                   have p451 : 0 ≤ (1 : Int) := (by omega)
                   have q451 : 1 < ((rd_L1 t424 x12_2).length : Int) := of_decide_eq_true (by first | (with_reducible assumption) | assumption)
                   obtain ⟨ad451, e451, hx451_0⟩ := Kd.at_int (by repeat (first | (with_reducible exact HR437_0.out) | (with_reducible refine Kd.C_alloc ?_ _) | (with_reducible refine Kd.C_drewN ?_ _) | (with_reducible refine Kd.C_drew ?_) | exact HR437_0.out)) 1 p451 q451
                   obtain rfl : ad439 = ad451 := (by injection e451)
                   (try simp only [show (1 : Int).toNat = 1 from rfl, Nat.reduceMul, Nat.reduceEqDiff, Go.Addr.add, ↓reduceIte] at hx451_0)
                   have qi451 : (1 < (rd_L1 t424 x12_2).length) = True := eq_true (by omega)
                   (try rw [show ((1 : Int)).toNat = 1 from rfl] at hx451_0)
                   replace p451 := eq_true p451
                   replace q451 := eq_true q451
                   have p452 : 0 ≤ (2 : Int) := (by omega)
                   have q452 : 2 < ((rd_L1 t424 x12_2).length : Int) := of_decide_eq_true (by first | (with_reducible assumption) | assumption)
                   obtain ⟨ad452, e452, hx452_0⟩ := Kd.at_int (by repeat (first | (with_reducible exact HR437_0.out) | (with_reducible refine Kd.C_alloc ?_ _) | (with_reducible refine Kd.C_drewN ?_ _) | (with_reducible refine Kd.C_drew ?_) | exact HR437_0.out)) 2 p452 q452
                   obtain rfl : ad439 = ad452 := (by injection e452)
                   (try simp only [show (2 : Int).toNat = 2 from rfl, Nat.reduceMul, Nat.reduceEqDiff, Go.Addr.add, ↓reduceIte] at hx452_0)
                   have qi452 : (2 < (rd_L1 t424 x12_2).length) = True := eq_true (by omega)
                   (try rw [show ((2 : Int)).toNat = 2 from rfl] at hx452_0)
                   replace p452 := eq_true p452
                   replace q452 := eq_true q452
                   have p453 : 0 ≤ (3 : Int) := (by omega)
                   have q453 : 3 < ((rd_L1 t424 x12_2).length : Int) := of_decide_eq_true (by first | (with_reducible assumption) | assumption)
                   obtain ⟨ad453, e453, hx453_0⟩ := Kd.at_int (by repeat (first | (with_reducible exact HR437_0.out) | (with_reducible refine Kd.C_alloc ?_ _) | (with_reducible refine Kd.C_drewN ?_ _) | (with_reducible refine Kd.C_drew ?_) | exact HR437_0.out)) 3 p453 q453
                   obtain rfl : ad439 = ad453 := (by injection e453)
                   (try simp only [show (3 : Int).toNat = 3 from rfl, Nat.reduceMul, Nat.reduceEqDiff, Go.Addr.add, ↓reduceIte] at hx453_0)
                   have qi453 : (3 < (rd_L1 t424 x12_2).length) = True := eq_true (by omega)
                   (try rw [show ((3 : Int)).toNat = 3 from rfl] at hx453_0)
                   replace p453 := eq_true p453
                   replace q453 := eq_true q453
                   go_wp2
                   repeat (go_quiet (fail); try go_wp2)
                   go_ret
                   exact ⟨by first | rfl | (simp [errW_none, errW_some] <;> rfl) | (simp [*, errW_none, errW_some] <;> rfl), by repeat (first | (with_reducible first | exact HB.out | apply below_alloc | apply pw_below_drewN | apply below_drew1) | exact HB.out)⟩
                  ·rw [if_neg c61] at H
                   have c61b0 : decide ((rd (rd_L1 t424 x12_2) 3) < 1) = false := decide_eq_false c61
                   clear c61
                   by_cases c63 : (wrap64 ((rd (rd_L1 t424 x12_2) 2) + (rd (rd_L1 t424 x12_2) 3))) > (t421.length : Int)
                   ·rw [if_pos c63] at H
                    have c63b0 : decide ((t421.length : Int) < (wrap64 ((rd (rd_L1 t424 x12_2) 2) + (rd (rd_L1 t424 x12_2) 3)))) = true := decide_eq_true c63
                    clear c63
                    obtain rfl := Option.some.inj H
                    obtain ⟨Ao64, co64, eo64⟩ := Kd.S_slice HO_4.out
                    subst eo64
                    have p437 : 0 ≤ (x12_2 : Int) := of_decide_eq_true (by first | (with_reducible assumption) | assumption)
                    have q437 : x12_2 < (t424.length : Int) := of_decide_eq_true (by first | (with_reducible assumption) | assumption)
                    obtain ⟨ad437, A437_0, c437_0, e437, hx437_0, hl437_0, hi437_0⟩ := at_L1 (Kd.S_reads' HO_4.out).2.2 x12_2 p437 q437
                    cases e437
                    obtain ⟨ce437, hce437, hMe437, hcc437⟩ := Kd.S_get HO_4.out [] x12_2 p437 (by first | exact q437 | exact of_decide_eq_true (by first | (with_reducible assumption) | assumption) | (have e_ := (Kd.S_reads' HO_4.out).1; omega))
                    obtain ⟨ve437_0, rfl, ge437_0⟩ := hMe437
                    have hv437_0 := hcc437 0 _ rfl
                    rw [Nat.add_zero, show ((Kd.slice 3 (Kd.int .i64))).sz = 1 from rfl, Nat.mul_one] at hv437_0
                    replace hv437_0 := Option.some.inj (hv437_0.symm.trans hx437_0)
                    rw [hv437_0] at ge437_0
                    have HL437_0 := Aside0.mk (show Kd.R (Kd.int .i64) 3 _ _ _ _ (rd_L1 t424 x12_2) from ge437_0)
                    clear hv437_0 ge437_0
                    clear hcc437 hce437
                    have HR437_0 := Aside0.mk hi437_0
                    have HC437_0 := Aside0.mk hl437_0
                    clear hi437_0 hl437_0
                    replace p437 := eq_true p437
                    replace q437 := eq_true q437
                    have p438 : 0 ≤ (0 : Int) := (by omega)
                    have q438 : 0 < (t421.length : Int) := of_decide_eq_true (by first | (with_reducible assumption) | assumption)
                    obtain ⟨ad438, e438, hx438_0⟩ := Kd.at_string (Kd.V_reads' HO_3.out).2.2 0 p438 q438
                    cases e438
                    have qi438 : (0 < t421.length) = True := eq_true (by omega)
                    (try rw [show ((0 : Int)).toNat = 0 from rfl] at hx438_0)
                    (try rw [Addr.add_zero'] at hx438_0)
                    replace p438 := eq_true p438
                    replace q438 := eq_true q438
                    have p439 : 0 ≤ (0 : Int) := (by omega)
                    have q439 : 0 < ((rd_L1 t424 x12_2).length : Int) := of_decide_eq_true (by first | (with_reducible assumption) | assumption)
                    obtain ⟨ad439, e439, hx439_0⟩ := Kd.at_int (by repeat (first | (with_reducible exact HR437_0.out) | (with_reducible refine Kd.C_alloc ?_ _) | (with_reducible refine Kd.C_drewN ?_ _) | (with_reducible refine Kd.C_drew ?_) | exact HR437_0.out)) 0 p439 q439
                    cases e439
                    have qi439 : (0 < (rd_L1 t424 x12_2).length) = True := eq_true (by omega)
                    (try rw [show ((0 : Int)).toNat = 0 from rfl] at hx439_0)
                    (try rw [Addr.add_zero'] at hx439_0)
                    replace p439 := eq_true p439
                    replace q439 := eq_true q439
                    have p450 : 0 ≤ (1 : Int) := (by omega)
                    have q450 : 1 < ((rd_L1 t424 x12_2).length : Int) := of_decide_eq_true (by first | (with_reducible assumption) | assumption)
                    obtain ⟨ad450, e450, hx450_0⟩ := Kd.at_int (by repeat (first | (with_reducible exact HR437_0.out) | (with_reducible refine Kd.C_alloc ?_ _) | (with_reducible refine Kd.C_drewN ?_ _) | (with_reducible refine Kd.C_drew ?_) | exact HR437_0.out)) 1 p450 q450
                    obtain rfl : ad439 = ad450 := (by injection e450)
                    (try simp only [show (1 : Int).toNat = 1 from rfl, Nat.reduceMul, Nat.reduceEqDiff, Go.Addr.add, ↓reduceIte] at hx450_0)
                    have qi450 : (1 < (rd_L1 t424 x12_2).length) = True := eq_true (by omega)
                    (try rw [show ((1 : Int)).toNat = 1 from rfl] at hx450_0)
                    replace p450 := eq_true p450
                    replace q450 := eq_true q450
                    have p451 : 0 ≤ (1 : Int) := (by omega)
                    have q451 : 1 < ((rd_L1 t424 x12_2).length : Int) := of_decide_eq_true (by first | (with_reducible assumption) | assumption)
                    obtain ⟨ad451, e451, hx451_0⟩ := Kd.at_int (by repeat (first | (with_reducible exact HR437_0.out) | (with_reducible refine Kd.C_alloc ?_ _) | (with_reducible refine Kd.C_drewN ?_ _) | (with_reducible refine Kd.C_drew ?_) | exact HR437_0.out)) 1 p451 q451
                    obtain rfl : ad439 = ad451 := (by injection e451)
                    (try simp only [show (1 : Int).toNat = 1 from rfl, Nat.reduceMul, Nat.reduceEqDiff, Go.Addr.add, ↓reduceIte] at hx451_0)
                    have qi451 : (1 < (rd_L1 t424 x12_2).length) = True := eq_true (by omega)
                    (try rw [show ((1 : Int)).toNat = 1 from rfl] at hx451_0)
                    replace p451 := eq_true p451
                    replace q451 := eq_true q451
                    have p452 : 0 ≤ (2 : Int) := (by omega)
                    have q452 : 2 < ((rd_L1 t424 x12_2).length : Int) := of_decide_eq_true (by first | (with_reducible assumption) | assumption)
                    obtain ⟨ad452, e452, hx452_0⟩ := Kd.at_int (by repeat (first | (with_reducible exact HR437_0.out) | (with_reducible refine Kd.C_alloc ?_ _) | (with_reducible refine Kd.C_drewN ?_ _) | (with_reducible refine Kd.C_drew ?_) | exact HR437_0.out)) 2 p452 q452
                    obtain rfl : ad439 = ad452 := (by injection e452)
                    (try simp only [show (2 : Int).toNat = 2 from rfl, Nat.reduceMul, Nat.reduceEqDiff, Go.Addr.add, ↓reduceIte] at hx452_0)
                    have qi452 : (2 < (rd_L1 t424 x12_2).length) = True := eq_true (by omega)
                    (try rw [show ((2 : Int)).toNat = 2 from rfl] at hx452_0)
                    replace p452 := eq_true p452
                    replace q452 := eq_true q452
                    have p453 : 0 ≤ (3 : Int) := (by omega)
                    have q453 : 3 < ((rd_L1 t424 x12_2).length : Int) := of_decide_eq_true (by first | (with_reducible assumption) | assumption)
                    obtain ⟨ad453, e453, hx453_0⟩ := Kd.at_int (by repeat (first | (with_reducible exact HR437_0.out) | (with_reducible refine Kd.C_alloc ?_ _) | (with_reducible refine Kd.C_drewN ?_ _) | (with_reducible refine Kd.C_drew ?_) | exact HR437_0.out)) 3 p453 q453
                    obtain rfl : ad439 = ad453 := (by injection e453)
                    (try simp only [show (3 : Int).toNat = 3 from rfl, Nat.reduceMul, Nat.reduceEqDiff, Go.Addr.add, ↓reduceIte] at hx453_0)
                    have qi453 : (3 < (rd_L1 t424 x12_2).length) = True := eq_true (by omega)
                    (try rw [show ((3 : Int)).toNat = 3 from rfl] at hx453_0)
                    replace p453 := eq_true p453
                    replace q453 := eq_true q453
                    have p454 : 0 ≤ (2 : Int) := (by omega)
                    have q454 : 2 < ((rd_L1 t424 x12_2).length : Int) := of_decide_eq_true (by first | (with_reducible assumption) | assumption)
                    obtain ⟨ad454, e454, hx454_0⟩ := Kd.at_int (by repeat (first | (with_reducible exact HR437_0.out) | (with_reducible refine Kd.C_alloc ?_ _) | (with_reducible refine Kd.C_drewN ?_ _) | (with_reducible refine Kd.C_drew ?_) | exact HR437_0.out)) 2 p454 q454
                    obtain rfl : ad439 = ad454 := (by injection e454)
                    (try simp only [show (2 : Int).toNat = 2 from rfl, Nat.reduceMul, Nat.reduceEqDiff, Go.Addr.add, ↓reduceIte] at hx454_0)
                    have qi454 : (2 < (rd_L1 t424 x12_2).length) = True := eq_true (by omega)
                    (try rw [show ((2 : Int)).toNat = 2 from rfl] at hx454_0)
                    replace p454 := eq_true p454
                    replace q454 := eq_true q454
                    have p455 : 0 ≤ (3 : Int) := (by omega)
                    have q455 : 3 < ((rd_L1 t424 x12_2).length : Int) := of_decide_eq_true (by first | (with_reducible assumption) | assumption)
                    obtain ⟨ad455, e455, hx455_0⟩ := Kd.at_int (by repeat (first | (with_reducible exact HR437_0.out) | (with_reducible refine Kd.C_alloc ?_ _) | (with_reducible refine Kd.C_drewN ?_ _) | (with_reducible refine Kd.C_drew ?_) | exact HR437_0.out)) 3 p455 q455
                    obtain rfl : ad439 = ad455 := (by injection e455)
                    (try simp only [show (3 : Int).toNat = 3 from rfl, Nat.reduceMul, Nat.reduceEqDiff, Go.Addr.add, ↓reduceIte] at hx455_0)
                    have qi455 : (3 < (rd_L1 t424 x12_2).length) = True := eq_true (by omega)
                    (try rw [show ((3 : Int)).toNat = 3 from rfl] at hx455_0)
                    replace p455 := eq_true p455
                    replace q455 := eq_true q455
                    go_wp2
                    repeat (go_quiet (fail); try go_wp2)
                    go_ret
                    exact ⟨by first | rfl | (simp [errW_none, errW_some] <;> rfl) | (simp [*, errW_none, errW_some] <;> rfl), by repeat (first | (with_reducible first | exact HB.out | apply below_alloc | apply pw_below_drewN | apply below_drew1) | exact HB.out)⟩
                   ·rw [if_neg c63] at H
                    have c63b0 : decide ((t421.length : Int) < (wrap64 ((rd (rd_L1 t424 x12_2) 2) + (rd (rd_L1 t424 x12_2) 3)))) = false := decide_eq_false c63
                    clear c63
                    by_cases c65 : x12_2 > 0
                    ·rw [if_pos c65] at H
                     have c65b0 : decide (0 < x12_2) = true := decide_eq_true c65
                     clear c65
                     obtain ⟨ji66, hji66⟩ : ∃ j_ : Int, (wrap64 (x12_2 - 1)) = j_ := ⟨_, rfl⟩
                     replace H : (if 0 ≤ (ji66) then (if (ji66) < (t424.length : Int) then (if 0 < ((rd_L1 t424 (ji66)).length : Int) then (if (rd (rd_L1 t424 x12_2) 0) < (rd (rd_L1 t424 (ji66)) 0) then (some false) else (laws_FnWallList.l0 k2 t421 t424 t434 t435 t436 (wrap64 (x11_2 + 1)) (wrap64 (x12_2 + 1)))) else (none)) else (none)) else (none)) = some r := by first | (rw [hji66] at H; exact H) | (simp only [hji66] at H ⊢; exact H)
                     have hji66w : (IntKind.i64.wrap (x12_2 - 1)) = ji66 := (i64_w _).trans hji66
                     by_cases c67 : 0 ≤ (ji66)
                     ·rw [if_pos c67] at H
                      have c67b0 : decide (0 ≤ (ji66)) = true := decide_eq_true c67
                      clear c67
                      by_cases c68 : (ji66) < (t424.length : Int)
                      ·rw [if_pos c68] at H
                       have c68b0 : decide ((ji66) < (t424.length : Int)) = true := decide_eq_true c68
                       clear c68
                       by_cases c69 : 0 < ((rd_L1 t424 (ji66)).length : Int)
                       ·rw [if_pos c69] at H
                        have c69b0 : decide (0 < ((rd_L1 t424 (ji66)).length : Int)) = true := decide_eq_true c69
                        have c69b1 : decide (0 < (rd_L1 t424 (ji66)).length) = true := decide_eq_true (by omega)
                        clear c69
                        by_cases c70 : (rd (rd_L1 t424 x12_2) 0) < (rd (rd_L1 t424 (ji66)) 0)
                        ·rw [if_pos c70] at H
                         have c70b0 : decide ((rd (rd_L1 t424 x12_2) 0) < (rd (rd_L1 t424 (ji66)) 0)) = true := decide_eq_true c70
                         clear c70
                         obtain rfl := Option.some.inj H
                         obtain ⟨Ao71, co71, eo71⟩ := Kd.S_slice HO_4.out
                         subst eo71
                         have p437 : 0 ≤ (x12_2 : Int) := of_decide_eq_true (by first | (with_reducible assumption) | assumption)
                         have q437 : x12_2 < (t424.length : Int) := of_decide_eq_true (by first | (with_reducible assumption) | assumption)
                         obtain ⟨ad437, A437_0, c437_0, e437, hx437_0, hl437_0, hi437_0⟩ := at_L1 (Kd.S_reads' HO_4.out).2.2 x12_2 p437 q437
                         cases e437
                         obtain ⟨ce437, hce437, hMe437, hcc437⟩ := Kd.S_get HO_4.out [] x12_2 p437 (by first | exact q437 | exact of_decide_eq_true (by first | (with_reducible assumption) | assumption) | (have e_ := (Kd.S_reads' HO_4.out).1; omega))
                         obtain ⟨ve437_0, rfl, ge437_0⟩ := hMe437
                         have hv437_0 := hcc437 0 _ rfl
                         rw [Nat.add_zero, show ((Kd.slice 3 (Kd.int .i64))).sz = 1 from rfl, Nat.mul_one] at hv437_0
                         replace hv437_0 := Option.some.inj (hv437_0.symm.trans hx437_0)
                         rw [hv437_0] at ge437_0
                         have HL437_0 := Aside0.mk (show Kd.R (Kd.int .i64) 3 _ _ _ _ (rd_L1 t424 x12_2) from ge437_0)
                         clear hv437_0 ge437_0
                         clear hcc437 hce437
                         have HR437_0 := Aside0.mk hi437_0
                         have HC437_0 := Aside0.mk hl437_0
                         clear hi437_0 hl437_0
                         replace p437 := eq_true p437
                         replace q437 := eq_true q437
                         have p438 : 0 ≤ (0 : Int) := (by omega)
                         have q438 : 0 < (t421.length : Int) := of_decide_eq_true (by first | (with_reducible assumption) | assumption)
                         obtain ⟨ad438, e438, hx438_0⟩ := Kd.at_string (Kd.V_reads' HO_3.out).2.2 0 p438 q438
                         cases e438
                         have qi438 : (0 < t421.length) = True := eq_true (by omega)
                         (try rw [show ((0 : Int)).toNat = 0 from rfl] at hx438_0)
                         (try rw [Addr.add_zero'] at hx438_0)
                         replace p438 := eq_true p438
                         replace q438 := eq_true q438
                         have p439 : 0 ≤ (0 : Int) := (by omega)
                         have q439 : 0 < ((rd_L1 t424 x12_2).length : Int) := of_decide_eq_true (by first | (with_reducible assumption) | assumption)
                         obtain ⟨ad439, e439, hx439_0⟩ := Kd.at_int (by repeat (first | (with_reducible exact HR437_0.out) | (with_reducible refine Kd.C_alloc ?_ _) | (with_reducible refine Kd.C_drewN ?_ _) | (with_reducible refine Kd.C_drew ?_) | exact HR437_0.out)) 0 p439 q439
                         cases e439
                         have qi439 : (0 < (rd_L1 t424 x12_2).length) = True := eq_true (by omega)
                         (try rw [show ((0 : Int)).toNat = 0 from rfl] at hx439_0)
                         (try rw [Addr.add_zero'] at hx439_0)
                         replace p439 := eq_true p439
                         replace q439 := eq_true q439
                         have p450 : 0 ≤ (1 : Int) := (by omega)
                         have q450 : 1 < ((rd_L1 t424 x12_2).length : Int) := of_decide_eq_true (by first | (with_reducible assumption) | assumption)
                         obtain ⟨ad450, e450, hx450_0⟩ := Kd.at_int (by repeat (first | (with_reducible exact HR437_0.out) | (with_reducible refine Kd.C_alloc ?_ _) | (with_reducible refine Kd.C_drewN ?_ _) | (with_reducible refine Kd.C_drew ?_) | exact HR437_0.out)) 1 p450 q450
                         obtain rfl : ad439 = ad450 := (by injection e450)
                         (try simp only [show (1 : Int).toNat = 1 from rfl, Nat.reduceMul, Nat.reduceEqDiff, Go.Addr.add, ↓reduceIte] at hx450_0)
                         have qi450 : (1 < (rd_L1 t424 x12_2).length) = True := eq_true (by omega)
                         (try rw [show ((1 : Int)).toNat = 1 from rfl] at hx450_0)
                         replace p450 := eq_true p450
                         replace q450 := eq_true q450
                         have p451 : 0 ≤ (1 : Int) := (by omega)
                         have q451 : 1 < ((rd_L1 t424 x12_2).length : Int) := of_decide_eq_true (by first | (with_reducible assumption) | assumption)
                         obtain ⟨ad451, e451, hx451_0⟩ := Kd.at_int (by repeat (first | (with_reducible exact HR437_0.out) | (with_reducible refine Kd.C_alloc ?_ _) | (with_reducible refine Kd.C_drewN ?_ _) | (with_reducible refine Kd.C_drew ?_) | exact HR437_0.out)) 1 p451 q451
                         obtain rfl : ad439 = ad451 := (by injection e451)
                         (try simp only [show (1 : Int).toNat = 1 from rfl, Nat.reduceMul, Nat.reduceEqDiff, Go.Addr.add, ↓reduceIte] at hx451_0)
                         have qi451 : (1 < (rd_L1 t424 x12_2).length) = True := eq_true (by omega)
                         (try rw [show ((1 : Int)).toNat = 1 from rfl] at hx451_0)
                         replace p451 := eq_true p451
                         replace q451 := eq_true q451
                         have p452 : 0 ≤ (2 : Int) := (by omega)
                         have q452 : 2 < ((rd_L1 t424 x12_2).length : Int) := of_decide_eq_true (by first | (with_reducible assumption) | assumption)
                         obtain ⟨ad452, e452, hx452_0⟩ := Kd.at_int (by repeat (first | (with_reducible exact HR437_0.out) | (with_reducible refine Kd.C_alloc ?_ _) | (with_reducible refine Kd.C_drewN ?_ _) | (with_reducible refine Kd.C_drew ?_) | exact HR437_0.out)) 2 p452 q452
                         obtain rfl : ad439 = ad452 := (by injection e452)
                         (try simp only [show (2 : Int).toNat = 2 from rfl, Nat.reduceMul, Nat.reduceEqDiff, Go.Addr.add, ↓reduceIte] at hx452_0)
                         have qi452 : (2 < (rd_L1 t424 x12_2).length) = True := eq_true (by omega)
                         (try rw [show ((2 : Int)).toNat = 2 from rfl] at hx452_0)
                         replace p452 := eq_true p452
                         replace q452 := eq_true q452
                         have p453 : 0 ≤ (3 : Int) := (by omega)
                         have q453 : 3 < ((rd_L1 t424 x12_2).length : Int) := of_decide_eq_true (by first | (with_reducible assumption) | assumption)
                         obtain ⟨ad453, e453, hx453_0⟩ := Kd.at_int (by repeat (first | (with_reducible exact HR437_0.out) | (with_reducible refine Kd.C_alloc ?_ _) | (with_reducible refine Kd.C_drewN ?_ _) | (with_reducible refine Kd.C_drew ?_) | exact HR437_0.out)) 3 p453 q453
                         obtain rfl : ad439 = ad453 := (by injection e453)
                         (try simp only [show (3 : Int).toNat = 3 from rfl, Nat.reduceMul, Nat.reduceEqDiff, Go.Addr.add, ↓reduceIte] at hx453_0)
                         have qi453 : (3 < (rd_L1 t424 x12_2).length) = True := eq_true (by omega)
                         (try rw [show ((3 : Int)).toNat = 3 from rfl] at hx453_0)
                         replace p453 := eq_true p453
                         replace q453 := eq_true q453
                         have p454 : 0 ≤ (2 : Int) := (by omega)
                         have q454 : 2 < ((rd_L1 t424 x12_2).length : Int) := of_decide_eq_true (by first | (with_reducible assumption) | assumption)
                         obtain ⟨ad454, e454, hx454_0⟩ := Kd.at_int (by repeat (first | (with_reducible exact HR437_0.out) | (with_reducible refine Kd.C_alloc ?_ _) | (with_reducible refine Kd.C_drewN ?_ _) | (with_reducible refine Kd.C_drew ?_) | exact HR437_0.out)) 2 p454 q454
                         obtain rfl : ad439 = ad454 := (by injection e454)
                         (try simp only [show (2 : Int).toNat = 2 from rfl, Nat.reduceMul, Nat.reduceEqDiff, Go.Addr.add, ↓reduceIte] at hx454_0)
                         have qi454 : (2 < (rd_L1 t424 x12_2).length) = True := eq_true (by omega)
                         (try rw [show ((2 : Int)).toNat = 2 from rfl] at hx454_0)
                         replace p454 := eq_true p454
                         replace q454 := eq_true q454
                         have p455 : 0 ≤ (3 : Int) := (by omega)
                         have q455 : 3 < ((rd_L1 t424 x12_2).length : Int) := of_decide_eq_true (by first | (with_reducible assumption) | assumption)
                         obtain ⟨ad455, e455, hx455_0⟩ := Kd.at_int (by repeat (first | (with_reducible exact HR437_0.out) | (with_reducible refine Kd.C_alloc ?_ _) | (with_reducible refine Kd.C_drewN ?_ _) | (with_reducible refine Kd.C_drew ?_) | exact HR437_0.out)) 3 p455 q455
                         obtain rfl : ad439 = ad455 := (by injection e455)
                         (try simp only [show (3 : Int).toNat = 3 from rfl, Nat.reduceMul, Nat.reduceEqDiff, Go.Addr.add, ↓reduceIte] at hx455_0)
                         have qi455 : (3 < (rd_L1 t424 x12_2).length) = True := eq_true (by omega)
                         (try rw [show ((3 : Int)).toNat = 3 from rfl] at hx455_0)
                         replace p455 := eq_true p455
                         replace q455 := eq_true q455
                         have p456 : 0 ≤ (0 : Int) := (by omega)
                         have q456 : 0 < ((rd_L1 t424 x12_2).length : Int) := of_decide_eq_true (by first | (with_reducible assumption) | assumption)
                         obtain ⟨ad456, e456, hx456_0⟩ := Kd.at_int (by repeat (first | (with_reducible exact HR437_0.out) | (with_reducible refine Kd.C_alloc ?_ _) | (with_reducible refine Kd.C_drewN ?_ _) | (with_reducible refine Kd.C_drew ?_) | exact HR437_0.out)) 0 p456 q456
                         obtain rfl : ad439 = ad456 := (by injection e456)
                         have qi456 : (0 < (rd_L1 t424 x12_2).length) = True := eq_true (by omega)
                         (try rw [show ((0 : Int)).toNat = 0 from rfl] at hx456_0)
                         (try rw [Addr.add_zero'] at hx456_0)
                         replace p456 := eq_true p456
                         replace q456 := eq_true q456
                         have p457 : 0 ≤ ((ji66) : Int) := of_decide_eq_true (by first | (with_reducible assumption) | assumption)
                         have q457 : (ji66) < (t424.length : Int) := of_decide_eq_true (by first | (with_reducible assumption) | assumption)
                         obtain ⟨ad457, A457_0, c457_0, e457, hx457_0, hl457_0, hi457_0⟩ := at_L1 (Kd.S_reads' HO_4.out).2.2 (ji66) p457 q457
                         obtain rfl : ad437 = ad457 := (by injection e457)
                         obtain ⟨ce457, hce457, hMe457, hcc457⟩ := Kd.S_get HO_4.out [] (ji66) p457 (by first | exact q457 | exact of_decide_eq_true (by first | (with_reducible assumption) | assumption) | (have e_ := (Kd.S_reads' HO_4.out).1; omega))
                         obtain ⟨ve457_0, rfl, ge457_0⟩ := hMe457
                         have hv457_0 := hcc457 0 _ rfl
                         rw [Nat.add_zero, show ((Kd.slice 3 (Kd.int .i64))).sz = 1 from rfl, Nat.mul_one] at hv457_0
                         replace hv457_0 := Option.some.inj (hv457_0.symm.trans hx457_0)
                         rw [hv457_0] at ge457_0
                         have HL457_0 := Aside0.mk (show Kd.R (Kd.int .i64) 3 _ _ _ _ (rd_L1 t424 (ji66)) from ge457_0)
                         clear hv457_0 ge457_0
                         clear hcc457 hce457
                         have HR457_0 := Aside0.mk hi457_0
                         have HC457_0 := Aside0.mk hl457_0
                         clear hi457_0 hl457_0
                         replace p457 := eq_true p457
                         replace q457 := eq_true q457
                         have p458 : 0 ≤ (0 : Int) := (by omega)
                         have q458 : 0 < ((rd_L1 t424 (ji66)).length : Int) := of_decide_eq_true (by first | (with_reducible assumption) | assumption)
                         obtain ⟨ad458, e458, hx458_0⟩ := Kd.at_int (by repeat (first | (with_reducible exact HR457_0.out) | (with_reducible refine Kd.C_alloc ?_ _) | (with_reducible refine Kd.C_drewN ?_ _) | (with_reducible refine Kd.C_drew ?_) | exact HR457_0.out)) 0 p458 q458
                         cases e458
                         have qi458 : (0 < (rd_L1 t424 (ji66)).length) = True := eq_true (by omega)
                         (try rw [show ((0 : Int)).toNat = 0 from rfl] at hx458_0)
                         (try rw [Addr.add_zero'] at hx458_0)
                         replace p458 := eq_true p458
                         replace q458 := eq_true q458
                         go_wp2
                         repeat (go_quiet (fail); try go_wp2)
                         go_ret
                         exact ⟨by first | rfl | (simp [errW_none, errW_some] <;> rfl) | (simp only [← hji66]; first | rfl | (simp [errW_none, errW_some] <;> rfl)) | (simp [*, errW_none, errW_some] <;> rfl), by repeat (first | (with_reducible first | exact HB.out | apply below_alloc | apply pw_below_drewN | apply below_drew1) | exact HB.out)⟩
                        ·rw [if_neg c70] at H
                         have c70b0 : decide ((rd (rd_L1 t424 x12_2) 0) < (rd (rd_L1 t424 (ji66)) 0)) = false := decide_eq_false c70
                         clear c70
                         have H' := Aside0.mk H
                         clear H
                         obtain ⟨Ao72, co72, eo72⟩ := Kd.S_slice HO_4.out
                         subst eo72
                         have p437 : 0 ≤ (x12_2 : Int) := of_decide_eq_true (by first | (with_reducible assumption) | assumption)
                         have q437 : x12_2 < (t424.length : Int) := of_decide_eq_true (by first | (with_reducible assumption) | assumption)
                         obtain ⟨ad437, A437_0, c437_0, e437, hx437_0, hl437_0, hi437_0⟩ := at_L1 (Kd.S_reads' HO_4.out).2.2 x12_2 p437 q437
                         cases e437
                         obtain ⟨ce437, hce437, hMe437, hcc437⟩ := Kd.S_get HO_4.out [] x12_2 p437 (by first | exact q437 | exact of_decide_eq_true (by first | (with_reducible assumption) | assumption) | (have e_ := (Kd.S_reads' HO_4.out).1; omega))
                         obtain ⟨ve437_0, rfl, ge437_0⟩ := hMe437
                         have hv437_0 := hcc437 0 _ rfl
                         rw [Nat.add_zero, show ((Kd.slice 3 (Kd.int .i64))).sz = 1 from rfl, Nat.mul_one] at hv437_0
                         replace hv437_0 := Option.some.inj (hv437_0.symm.trans hx437_0)
                         rw [hv437_0] at ge437_0
                         have HL437_0 := Aside0.mk (show Kd.R (Kd.int .i64) 3 _ _ _ _ (rd_L1 t424 x12_2) from ge437_0)
                         clear hv437_0 ge437_0
                         clear hcc437 hce437
                         have HR437_0 := Aside0.mk hi437_0
                         have HC437_0 := Aside0.mk hl437_0
                         clear hi437_0 hl437_0
                         replace p437 := eq_true p437
                         replace q437 := eq_true q437
                         have p438 : 0 ≤ (0 : Int) := (by omega)
                         have q438 : 0 < (t421.length : Int) := of_decide_eq_true (by first | (with_reducible assumption) | assumption)
                         obtain ⟨ad438, e438, hx438_0⟩ := Kd.at_string (Kd.V_reads' HO_3.out).2.2 0 p438 q438
                         cases e438
                         have qi438 : (0 < t421.length) = True := eq_true (by omega)
                         (try rw [show ((0 : Int)).toNat = 0 from rfl] at hx438_0)
                         (try rw [Addr.add_zero'] at hx438_0)
                         replace p438 := eq_true p438
                         replace q438 := eq_true q438
                         have p439 : 0 ≤ (0 : Int) := (by omega)
                         have q439 : 0 < ((rd_L1 t424 x12_2).length : Int) := of_decide_eq_true (by first | (with_reducible assumption) | assumption)
                         obtain ⟨ad439, e439, hx439_0⟩ := Kd.at_int (by repeat (first | (with_reducible exact HR437_0.out) | (with_reducible refine Kd.C_alloc ?_ _) | (with_reducible refine Kd.C_drewN ?_ _) | (with_reducible refine Kd.C_drew ?_) | exact HR437_0.out)) 0 p439 q439
                         cases e439
                         have qi439 : (0 < (rd_L1 t424 x12_2).length) = True := eq_true (by omega)
                         (try rw [show ((0 : Int)).toNat = 0 from rfl] at hx439_0)
                         (try rw [Addr.add_zero'] at hx439_0)
                         replace p439 := eq_true p439
                         replace q439 := eq_true q439
                         have p450 : 0 ≤ (1 : Int) := (by omega)
                         have q450 : 1 < ((rd_L1 t424 x12_2).length : Int) := of_decide_eq_true (by first | (with_reducible assumption) | assumption)
                         obtain ⟨ad450, e450, hx450_0⟩ := Kd.at_int (by repeat (first | (with_reducible exact HR437_0.out) | (with_reducible refine Kd.C_alloc ?_ _) | (with_reducible refine Kd.C_drewN ?_ _) | (with_reducible refine Kd.C_drew ?_) | exact HR437_0.out)) 1 p450 q450
                         obtain rfl : ad439 = ad450 := (by injection e450)
                         (try simp only [show (1 : Int).toNat = 1 from rfl, Nat.reduceMul, Nat.reduceEqDiff, Go.Addr.add, ↓reduceIte] at hx450_0)
                         have qi450 : (1 < (rd_L1 t424 x12_2).length) = True := eq_true (by omega)
                         (try rw [show ((1 : Int)).toNat = 1 from rfl] at hx450_0)
                         replace p450 := eq_true p450
                         replace q450 := eq_true q450
                         have p451 : 0 ≤ (1 : Int) := (by omega)
                         have q451 : 1 < ((rd_L1 t424 x12_2).length : Int) := of_decide_eq_true (by first | (with_reducible assumption) | assumption)
                         obtain ⟨ad451, e451, hx451_0⟩ := Kd.at_int (by repeat (first | (with_reducible exact HR437_0.out) | (with_reducible refine Kd.C_alloc ?_ _) | (with_reducible refine Kd.C_drewN ?_ _) | (with_reducible refine Kd.C_drew ?_) | exact HR437_0.out)) 1 p451 q451
                         obtain rfl : ad439 = ad451 := (by injection e451)
                         (try simp only [show (1 : Int).toNat = 1 from rfl, Nat.reduceMul, Nat.reduceEqDiff, Go.Addr.add, ↓reduceIte] at hx451_0)
                         have qi451 : (1 < (rd_L1 t424 x12_2).length) = True := eq_true (by omega)
                         (try rw [show ((1 : Int)).toNat = 1 from rfl] at hx451_0)
                         replace p451 := eq_true p451
                         replace q451 := eq_true q451
                         have p452 : 0 ≤ (2 : Int) := (by omega)
                         have q452 : 2 < ((rd_L1 t424 x12_2).length : Int) := of_decide_eq_true (by first | (with_reducible assumption) | assumption)
                         obtain ⟨ad452, e452, hx452_0⟩ := Kd.at_int (by repeat (first | (with_reducible exact HR437_0.out) | (with_reducible refine Kd.C_alloc ?_ _) | (with_reducible refine Kd.C_drewN ?_ _) | (with_reducible refine Kd.C_drew ?_) | exact HR437_0.out)) 2 p452 q452
                         obtain rfl : ad439 = ad452 := (by injection e452)
                         (try simp only [show (2 : Int).toNat = 2 from rfl, Nat.reduceMul, Nat.reduceEqDiff, Go.Addr.add, ↓reduceIte] at hx452_0)
                         have qi452 : (2 < (rd_L1 t424 x12_2).length) = True := eq_true (by omega)
                         (try rw [show ((2 : Int)).toNat = 2 from rfl] at hx452_0)
                         replace p452 := eq_true p452
                         replace q452 := eq_true q452
                         have p453 : 0 ≤ (3 : Int) := (by omega)
                         have q453 : 3 < ((rd_L1 t424 x12_2).length : Int) := of_decide_eq_true (by first | (with_reducible assumption) | assumption)
                         obtain ⟨ad453, e453, hx453_0⟩ := Kd.at_int (by repeat (first | (with_reducible exact HR437_0.out) | (with_reducible refine Kd.C_alloc ?_ _) | (with_reducible refine Kd.C_drewN ?_ _) | (with_reducible refine Kd.C_drew ?_) | exact HR437_0.out)) 3 p453 q453
                         obtain rfl : ad439 = ad453 := (by injection e453)
                         (try simp only [show (3 : Int).toNat = 3 from rfl, Nat.reduceMul, Nat.reduceEqDiff, Go.Addr.add, ↓reduceIte] at hx453_0)
                         have qi453 : (3 < (rd_L1 t424 x12_2).length) = True := eq_true (by omega)
                         (try rw [show ((3 : Int)).toNat = 3 from rfl] at hx453_0)
                         replace p453 := eq_true p453
                         replace q453 := eq_true q453
                         have p454 : 0 ≤ (2 : Int) := (by omega)
                         have q454 : 2 < ((rd_L1 t424 x12_2).length : Int) := of_decide_eq_true (by first | (with_reducible assumption) | assumption)
                         obtain ⟨ad454, e454, hx454_0⟩ := Kd.at_int (by repeat (first | (with_reducible exact HR437_0.out) | (with_reducible refine Kd.C_alloc ?_ _) | (with_reducible refine Kd.C_drewN ?_ _) | (with_reducible refine Kd.C_drew ?_) | exact HR437_0.out)) 2 p454 q454
                         obtain rfl : ad439 = ad454 := (by injection e454)
                         (try simp only [show (2 : Int).toNat = 2 from rfl, Nat.reduceMul, Nat.reduceEqDiff, Go.Addr.add, ↓reduceIte] at hx454_0)
                         have qi454 : (2 < (rd_L1 t424 x12_2).length) = True := eq_true (by omega)
                         (try rw [show ((2 : Int)).toNat = 2 from rfl] at hx454_0)
                         replace p454 := eq_true p454
                         replace q454 := eq_true q454
                         have p455 : 0 ≤ (3 : Int) := (by omega)
                         have q455 : 3 < ((rd_L1 t424 x12_2).length : Int) := of_decide_eq_true (by first | (with_reducible assumption) | assumption)
                         obtain ⟨ad455, e455, hx455_0⟩ := Kd.at_int (by repeat (first | (with_reducible exact HR437_0.out) | (with_reducible refine Kd.C_alloc ?_ _) | (with_reducible refine Kd.C_drewN ?_ _) | (with_reducible refine Kd.C_drew ?_) | exact HR437_0.out)) 3 p455 q455
                         obtain rfl : ad439 = ad455 := (by injection e455)
                         (try simp only [show (3 : Int).toNat = 3 from rfl, Nat.reduceMul, Nat.reduceEqDiff, Go.Addr.add, ↓reduceIte] at hx455_0)
                         have qi455 : (3 < (rd_L1 t424 x12_2).length) = True := eq_true (by omega)
                         (try rw [show ((3 : Int)).toNat = 3 from rfl] at hx455_0)
                         replace p455 := eq_true p455
                         replace q455 := eq_true q455
                         have p456 : 0 ≤ (0 : Int) := (by omega)
                         have q456 : 0 < ((rd_L1 t424 x12_2).length : Int) := of_decide_eq_true (by first | (with_reducible assumption) | assumption)
                         obtain ⟨ad456, e456, hx456_0⟩ := Kd.at_int (by repeat (first | (with_reducible exact HR437_0.out) | (with_reducible refine Kd.C_alloc ?_ _) | (with_reducible refine Kd.C_drewN ?_ _) | (with_reducible refine Kd.C_drew ?_) | exact HR437_0.out)) 0 p456 q456
                         obtain rfl : ad439 = ad456 := (by injection e456)
                         have qi456 : (0 < (rd_L1 t424 x12_2).length) = True := eq_true (by omega)
                         (try rw [show ((0 : Int)).toNat = 0 from rfl] at hx456_0)
                         (try rw [Addr.add_zero'] at hx456_0)
                         replace p456 := eq_true p456
                         replace q456 := eq_true q456
                         have p457 : 0 ≤ ((ji66) : Int) := of_decide_eq_true (by first | (with_reducible assumption) | assumption)
                         have q457 : (ji66) < (t424.length : Int) := of_decide_eq_true (by first | (with_reducible assumption) | assumption)
                         obtain ⟨ad457, A457_0, c457_0, e457, hx457_0, hl457_0, hi457_0⟩ := at_L1 (Kd.S_reads' HO_4.out).2.2 (ji66) p457 q457
                         obtain rfl : ad437 = ad457 := (by injection e457)
                         obtain ⟨ce457, hce457, hMe457, hcc457⟩ := Kd.S_get HO_4.out [] (ji66) p457 (by first | exact q457 | exact of_decide_eq_true (by first | (with_reducible assumption) | assumption) | (have e_ := (Kd.S_reads' HO_4.out).1; omega))
                         obtain ⟨ve457_0, rfl, ge457_0⟩ := hMe457
                         have hv457_0 := hcc457 0 _ rfl
                         rw [Nat.add_zero, show ((Kd.slice 3 (Kd.int .i64))).sz = 1 from rfl, Nat.mul_one] at hv457_0
                         replace hv457_0 := Option.some.inj (hv457_0.symm.trans hx457_0)
                         rw [hv457_0] at ge457_0
                         have HL457_0 := Aside0.mk (show Kd.R (Kd.int .i64) 3 _ _ _ _ (rd_L1 t424 (ji66)) from ge457_0)
                         clear hv457_0 ge457_0
                         clear hcc457 hce457
                         have HR457_0 := Aside0.mk hi457_0
                         have HC457_0 := Aside0.mk hl457_0
                         clear hi457_0 hl457_0
                         replace p457 := eq_true p457
                         replace q457 := eq_true q457
                         have p458 : 0 ≤ (0 : Int) := (by omega)
                         have q458 : 0 < ((rd_L1 t424 (ji66)).length : Int) := of_decide_eq_true (by first | (with_reducible assumption) | assumption)
                         obtain ⟨ad458, e458, hx458_0⟩ := Kd.at_int (by repeat (first | (with_reducible exact HR457_0.out) | (with_reducible refine Kd.C_alloc ?_ _) | (with_reducible refine Kd.C_drewN ?_ _) | (with_reducible refine Kd.C_drew ?_) | exact HR457_0.out)) 0 p458 q458
                         cases e458
                         have qi458 : (0 < (rd_L1 t424 (ji66)).length) = True := eq_true (by omega)
                         (try rw [show ((0 : Int)).toNat = 0 from rfl] at hx458_0)
                         (try rw [Addr.add_zero'] at hx458_0)
                         replace p458 := eq_true p458
                         replace q458 := eq_true q458
                         go_wp2
                         repeat (go_quiet (fail); try go_wp2)
                         go_roundg k2
                         case measure => have := HJ5.out; have := HK2.out; omega
                         case rel => exact ⟨(wrap64 (x11_2 + 1)), (wrap64 (x12_2 + 1)), (by first | rfl | (simp; done) | (simp [*]; done)), (by first | rfl | (simp; done) | (simp [*]; done)), H', ⟨by have := HJ5.out; have := HK2.out; omega⟩, ⟨by (with_reducible repeat (first | apply Kd.V_alloc | apply Kd.V_drewN | apply Kd.V_drew)); exact HO_3.out⟩, ⟨by (with_reducible repeat (first | apply Kd.S_alloc | apply Kd.S_drewN | apply Kd.S_drew)); exact HO_4.out⟩, ⟨by repeat (first | (with_reducible first | exact HB.out | apply below_alloc | apply pw_below_drewN | apply below_drew1) | exact HB.out)⟩⟩
                       ·rw [if_neg c69] at H
                        exact absurd H (by simp)
                      ·rw [if_neg c68] at H
                       exact absurd H (by simp)
                     ·rw [if_neg c67] at H
                      exact absurd H (by simp)
                    ·rw [if_neg c65] at H
                     have c65b0 : decide (0 < x12_2) = false := decide_eq_false c65
                     clear c65
                     have H' := Aside0.mk H
                     clear H
                     obtain ⟨Ao73, co73, eo73⟩ := Kd.S_slice HO_4.out
                     subst eo73
                     have p437 : 0 ≤ (x12_2 : Int) := of_decide_eq_true (by first | (with_reducible assumption) | assumption)
                     have q437 : x12_2 < (t424.length : Int) := of_decide_eq_true (by first | (with_reducible assumption) | assumption)
                     obtain ⟨ad437, A437_0, c437_0, e437, hx437_0, hl437_0, hi437_0⟩ := at_L1 (Kd.S_reads' HO_4.out).2.2 x12_2 p437 q437
                     cases e437
                     obtain ⟨ce437, hce437, hMe437, hcc437⟩ := Kd.S_get HO_4.out [] x12_2 p437 (by first | exact q437 | exact of_decide_eq_true (by first | (with_reducible assumption) | assumption) | (have e_ := (Kd.S_reads' HO_4.out).1; omega))
                     obtain ⟨ve437_0, rfl, ge437_0⟩ := hMe437
                     have hv437_0 := hcc437 0 _ rfl
                     rw [Nat.add_zero, show ((Kd.slice 3 (Kd.int .i64))).sz = 1 from rfl, Nat.mul_one] at hv437_0
                     replace hv437_0 := Option.some.inj (hv437_0.symm.trans hx437_0)
                     rw [hv437_0] at ge437_0
                     have HL437_0 := Aside0.mk (show Kd.R (Kd.int .i64) 3 _ _ _ _ (rd_L1 t424 x12_2) from ge437_0)
                     clear hv437_0 ge437_0
                     clear hcc437 hce437
                     have HR437_0 := Aside0.mk hi437_0
                     have HC437_0 := Aside0.mk hl437_0
                     clear hi437_0 hl437_0
                     replace p437 := eq_true p437
                     replace q437 := eq_true q437
                     have p438 : 0 ≤ (0 : Int) := (by omega)
                     have q438 : 0 < (t421.length : Int) := of_decide_eq_true (by first | (with_reducible assumption) | assumption)
                     obtain ⟨ad438, e438, hx438_0⟩ := Kd.at_string (Kd.V_reads' HO_3.out).2.2 0 p438 q438
                     cases e438
                     have qi438 : (0 < t421.length) = True := eq_true (by omega)
                     (try rw [show ((0 : Int)).toNat = 0 from rfl] at hx438_0)
                     (try rw [Addr.add_zero'] at hx438_0)
                     replace p438 := eq_true p438
                     replace q438 := eq_true q438
                     have p439 : 0 ≤ (0 : Int) := (by omega)
                     have q439 : 0 < ((rd_L1 t424 x12_2).length : Int) := of_decide_eq_true (by first | (with_reducible assumption) | assumption)
                     obtain ⟨ad439, e439, hx439_0⟩ := Kd.at_int (by repeat (first | (with_reducible exact HR437_0.out) | (with_reducible refine Kd.C_alloc ?_ _) | (with_reducible refine Kd.C_drewN ?_ _) | (with_reducible refine Kd.C_drew ?_) | exact HR437_0.out)) 0 p439 q439
                     cases e439
                     have qi439 : (0 < (rd_L1 t424 x12_2).length) = True := eq_true (by omega)
                     (try rw [show ((0 : Int)).toNat = 0 from rfl] at hx439_0)
                     (try rw [Addr.add_zero'] at hx439_0)
                     replace p439 := eq_true p439
                     replace q439 := eq_true q439
                     have p450 : 0 ≤ (1 : Int) := (by omega)
                     have q450 : 1 < ((rd_L1 t424 x12_2).length : Int) := of_decide_eq_true (by first | (with_reducible assumption) | assumption)
                     obtain ⟨ad450, e450, hx450_0⟩ := Kd.at_int (by repeat (first | (with_reducible exact HR437_0.out) | (with_reducible refine Kd.C_alloc ?_ _) | (with_reducible refine Kd.C_drewN ?_ _) | (with_reducible refine Kd.C_drew ?_) | exact HR437_0.out)) 1 p450 q450
                     obtain rfl : ad439 = ad450 := (by injection e450)
                     (try simp only [show (1 : Int).toNat = 1 from rfl, Nat.reduceMul, Nat.reduceEqDiff, Go.Addr.add, ↓reduceIte] at hx450_0)
                     have qi450 : (1 < (rd_L1 t424 x12_2).length) = True := eq_true (by omega)
                     (try rw [show ((1 : Int)).toNat = 1 from rfl] at hx450_0)
                     replace p450 := eq_true p450
                     replace q450 := eq_true q450
                     have p451 : 0 ≤ (1 : Int) := (by omega)
                     have q451 : 1 < ((rd_L1 t424 x12_2).length : Int) := of_decide_eq_true (by first | (with_reducible assumption) | assumption)
                     obtain ⟨ad451, e451, hx451_0⟩ := Kd.at_int (by repeat (first | (with_reducible exact HR437_0.out) | (with_reducible refine Kd.C_alloc ?_ _) | (with_reducible refine Kd.C_drewN ?_ _) | (with_reducible refine Kd.C_drew ?_) | exact HR437_0.out)) 1 p451 q451
                     obtain rfl : ad439 = ad451 := (by injection e451)
                     (try simp only [show (1 : Int).toNat = 1 from rfl, Nat.reduceMul, Nat.reduceEqDiff, Go.Addr.add, ↓reduceIte] at hx451_0)
                     have qi451 : (1 < (rd_L1 t424 x12_2).length) = True := eq_true (by omega)
                     (try rw [show ((1 : Int)).toNat = 1 from rfl] at hx451_0)
                     replace p451 := eq_true p451
                     replace q451 := eq_true q451
                     have p452 : 0 ≤ (2 : Int) := (by omega)
                     have q452 : 2 < ((rd_L1 t424 x12_2).length : Int) := of_decide_eq_true (by first | (with_reducible assumption) | assumption)
                     obtain ⟨ad452, e452, hx452_0⟩ := Kd.at_int (by repeat (first | (with_reducible exact HR437_0.out) | (with_reducible refine Kd.C_alloc ?_ _) | (with_reducible refine Kd.C_drewN ?_ _) | (with_reducible refine Kd.C_drew ?_) | exact HR437_0.out)) 2 p452 q452
                     obtain rfl : ad439 = ad452 := (by injection e452)
                     (try simp only [show (2 : Int).toNat = 2 from rfl, Nat.reduceMul, Nat.reduceEqDiff, Go.Addr.add, ↓reduceIte] at hx452_0)
                     have qi452 : (2 < (rd_L1 t424 x12_2).length) = True := eq_true (by omega)
                     (try rw [show ((2 : Int)).toNat = 2 from rfl] at hx452_0)
                     replace p452 := eq_true p452
                     replace q452 := eq_true q452
                     have p453 : 0 ≤ (3 : Int) := (by omega)
                     have q453 : 3 < ((rd_L1 t424 x12_2).length : Int) := of_decide_eq_true (by first | (with_reducible assumption) | assumption)
                     obtain ⟨ad453, e453, hx453_0⟩ := Kd.at_int (by repeat (first | (with_reducible exact HR437_0.out) | (with_reducible refine Kd.C_alloc ?_ _) | (with_reducible refine Kd.C_drewN ?_ _) | (with_reducible refine Kd.C_drew ?_) | exact HR437_0.out)) 3 p453 q453
                     obtain rfl : ad439 = ad453 := (by injection e453)
                     (try simp only [show (3 : Int).toNat = 3 from rfl, Nat.reduceMul, Nat.reduceEqDiff, Go.Addr.add, ↓reduceIte] at hx453_0)
                     have qi453 : (3 < (rd_L1 t424 x12_2).length) = True := eq_true (by omega)
                     (try rw [show ((3 : Int)).toNat = 3 from rfl] at hx453_0)
                     replace p453 := eq_true p453
                     replace q453 := eq_true q453
                     have p454 : 0 ≤ (2 : Int) := (by omega)
                     have q454 : 2 < ((rd_L1 t424 x12_2).length : Int) := of_decide_eq_true (by first | (with_reducible assumption) | assumption)
                     obtain ⟨ad454, e454, hx454_0⟩ := Kd.at_int (by repeat (first | (with_reducible exact HR437_0.out) | (with_reducible refine Kd.C_alloc ?_ _) | (with_reducible refine Kd.C_drewN ?_ _) | (with_reducible refine Kd.C_drew ?_) | exact HR437_0.out)) 2 p454 q454
                     obtain rfl : ad439 = ad454 := (by injection e454)
                     (try simp only [show (2 : Int).toNat = 2 from rfl, Nat.reduceMul, Nat.reduceEqDiff, Go.Addr.add, ↓reduceIte] at hx454_0)
                     have qi454 : (2 < (rd_L1 t424 x12_2).length) = True := eq_true (by omega)
                     (try rw [show ((2 : Int)).toNat = 2 from rfl] at hx454_0)
                     replace p454 := eq_true p454
                     replace q454 := eq_true q454
                     have p455 : 0 ≤ (3 : Int) := (by omega)
                     have q455 : 3 < ((rd_L1 t424 x12_2).length : Int) := of_decide_eq_true (by first | (with_reducible assumption) | assumption)
                     obtain ⟨ad455, e455, hx455_0⟩ := Kd.at_int (by repeat (first | (with_reducible exact HR437_0.out) | (with_reducible refine Kd.C_alloc ?_ _) | (with_reducible refine Kd.C_drewN ?_ _) | (with_reducible refine Kd.C_drew ?_) | exact HR437_0.out)) 3 p455 q455
                     obtain rfl : ad439 = ad455 := (by injection e455)
                     (try simp only [show (3 : Int).toNat = 3 from rfl, Nat.reduceMul, Nat.reduceEqDiff, Go.Addr.add, ↓reduceIte] at hx455_0)
                     have qi455 : (3 < (rd_L1 t424 x12_2).length) = True := eq_true (by omega)
                     (try rw [show ((3 : Int)).toNat = 3 from rfl] at hx455_0)
                     replace p455 := eq_true p455
                     replace q455 := eq_true q455
                     go_wp2
                     repeat (go_quiet (fail); try go_wp2)
                     go_roundg k2
                     case measure => have := HJ5.out; have := HK2.out; omega
                     case rel => exact ⟨(wrap64 (x11_2 + 1)), (wrap64 (x12_2 + 1)), (by first | rfl | (simp; done) | (simp [*]; done)), (by first | rfl | (simp; done) | (simp [*]; done)), H', ⟨by have := HJ5.out; have := HK2.out; omega⟩, ⟨by (with_reducible repeat (first | apply Kd.V_alloc | apply Kd.V_drewN | apply Kd.V_drew)); exact HO_3.out⟩, ⟨by (with_reducible repeat (first | apply Kd.S_alloc | apply Kd.S_drewN | apply Kd.S_drew)); exact HO_4.out⟩, ⟨by repeat (first | (with_reducible first | exact HB.out | apply below_alloc | apply pw_below_drewN | apply below_drew1) | exact HB.out)⟩⟩
                 ·rw [if_neg c60] at H
                  exact absurd H (by simp)
               ·rw [if_neg c57] at H
                exact absurd H (by simp)
            ·rw [if_neg c52] at H
             exact absurd H (by simp)
          ·rw [if_neg c28] at H
           exact absurd H (by simp)
         ·rw [if_neg c27] at H
          exact absurd H (by simp)
        ·rw [if_neg c26] at H
         exact absurd H (by simp)
       ·rw [if_neg c25] at H
        have c25b0 : decide (x12_2 < (t424.length : Int)) = false := decide_eq_false c25
        clear c25
        by_cases c74 : t436 = true
        ·subst c74
         have H1 : (if (t424.length : Int) = (wrap64 (t434 + t435)) then (some (x11_2 == t434)) else (some false)) = some r := by rw [if_pos rfl] at H; exact H
         clear H
         have H := H1
         clear H1
         by_cases c75 : (t424.length : Int) = (wrap64 (t434 + t435))
         ·rw [if_pos c75] at H
          have c75b0 : ((t424.length : Int) == (wrap64 (t434 + t435))) = true := beq_iff_eq.mpr c75
          have c75b1 : ((t424.length : Int) != (wrap64 (t434 + t435))) = false := bne_eq_false_iff_eq.mpr c75
          clear c75
          obtain rfl := Option.some.inj H
          obtain ⟨Ao76, co76, eo76⟩ := Kd.S_slice HO_4.out
          subst eo76
          go_wp2
          repeat (go_quiet (fail); try go_wp2)
          go_ret
          exact ⟨by first | rfl | (simp [errW_none, errW_some] <;> rfl) | (simp [*, errW_none, errW_some] <;> rfl), by repeat (first | (with_reducible first | exact HB.out | apply below_alloc | apply pw_below_drewN | apply below_drew1) | exact HB.out)⟩
         ·rw [if_neg c75] at H
          have c75b0 : ((t424.length : Int) == (wrap64 (t434 + t435))) = false := beq_eq_false_iff_ne.mpr c75
          have c75b1 : ((t424.length : Int) != (wrap64 (t434 + t435))) = true := bne_iff_ne.mpr c75
          obtain rfl := Option.some.inj H
          obtain ⟨Ao77, co77, eo77⟩ := Kd.S_slice HO_4.out
          subst eo77
          go_wp2
          repeat (go_quiet (fail); try go_wp2)
          go_ret
          exact ⟨by first | rfl | (simp [errW_none, errW_some] <;> rfl) | (simp [*, errW_none, errW_some] <;> rfl), by repeat (first | (with_reducible first | exact HB.out | apply below_alloc | apply pw_below_drewN | apply below_drew1) | exact HB.out)⟩
        ·replace c74 := Bool.eq_false_iff.mpr c74
         subst c74
         have H1 : (some false) = some r := by rw [if_neg (show ¬ (false = true) by decide)] at H; exact H
         clear H
         have H := H1
         clear H1
         obtain rfl := Option.some.inj H
         obtain ⟨Ao78, co78, eo78⟩ := Kd.S_slice HO_4.out
         subst eo78
         go_wp2
         repeat (go_quiet (fail); try go_wp2)
         go_ret
         exact ⟨by first | rfl | (simp [errW_none, errW_some] <;> rfl) | (simp [*, errW_none, errW_some] <;> rfl), by repeat (first | (with_reducible first | exact HB.out | apply below_alloc | apply pw_below_drewN | apply below_drew1) | exact HB.out)⟩
def laws_FnWallList.Pure : Prop := ∀ (l0 : List Int), l0.length ≤ maxLen → l0.length * 1 ≤ 140737488351232 → (∀ x ∈ l0, (Lit.int .u8 x).wf = true) → ∃ k, laws_FnWallList.f k l0 = some true
theorem laws_FnWallList.walk (P : laws_FnWallList.Pure) (a0 : Option Addr) (len0 cap0 : Nat) (z0 : List Int) (w : World) (w0 : (a0 = none ∧ len0 = 0 ∧ cap0 = 0 ∧ z0 = []) ∨ ∃ x, a0 = some x ∧ len0 ≤ cap0 ∧ cap0 ≤ maxLen ∧ z0.length = cap0 ∧ (∀ i, i < z0.length → w.cell? (x.add i) = some (.int .u8 (z0.getD i 0))) ∧ ∀ n ∈ z0, (Lit.int .u8 n).wf = true) (y0 : len0 * 1 ≤ 140737488351232) :
  Calls Try.prog 5 #[.slice a0 len0 cap0] w fun e w' => e = .returned (.bool true) ∧ Below w.heap.size w w' := by
 obtain ⟨l0, rfl, hr0, hm0, hw0, hc0⟩ := ReadsInt.ofRowC w0
 obtain ⟨k, h⟩ := P l0 hm0 y0 hw0
 refine (laws_FnWallList.calls k _ _ l0 true w (Kd.C_of_reads (d := (0 : Int)) (h1 := fun _ => rfl) hr0) hc0 h).mono ?_
 rintro e w' ⟨rfl, hd⟩
 exact ⟨rfl, hd⟩
end Go.Proofs.Ytaepgogafkmooaa.VA
namespace Go.Proofs.Ytaepgogafkmooaa.Hd
open Go.RowKit Go.Proofs.YtaepgogafkmooaaW.PrintWords Go.Proofs.YtaepgogafkmooaaW.PrintLast Go.Proofs.YtaepgogafkmooaaW.PrintMore Go.Proofs.Ytaepgogafkmooaa.PB
set_option linter.unusedVariables false
set_option linter.unusedSimpArgs false
def Conv (hi wi : Nat) (g : Nat → Nat → Int) : Prop := ∀ r c r' c' i j, r < hi → c < wi → r' < hi → c' < wi → g r c = g r' c' → min r r' ≤ i → i ≤ max r r' → min c c' ≤ j → j ≤ max c c' → g i j = g r c
theorem Conv.congr {hi wi : Nat} {g g' : Nat → Nat → Int} (h : Conv hi wi g) (e : ∀ r c, r < hi → c < wi → g r c = g' r c) : Conv hi wi g' := by
 intro r c r' c' i j h1 h2 h3 h4 hv k1 k2 k3 k4
 rw [← e i j (by omega) (by omega), ← e r c h1 h2]
 exact h r c r' c' i j h1 h2 h3 h4 (by rw [e r c h1 h2, e r' c' h3 h4]; exact hv) k1 k2 k3 k4
theorem Conv.map {hi wi : Nat} {g : Nat → Nat → Int} (h : Conv hi wi g) (f : Int → Int) (hf : ∀ r c r' c', r < hi → c < wi → r' < hi → c' < wi → f (g r c) = f (g r' c') → g r c = g r' c') : Conv hi wi (fun r c => f (g r c)) := by
 intro r c r' c' i j h1 h2 h3 h4 hv k1 k2 k3 k4
 show f _ = f _
 rw [h r c r' c' i j h1 h2 h3 h4 (hf _ _ _ _ h1 h2 h3 h4 hv) k1 k2 k3 k4]
end Go.Proofs.Ytaepgogafkmooaa.Hd
