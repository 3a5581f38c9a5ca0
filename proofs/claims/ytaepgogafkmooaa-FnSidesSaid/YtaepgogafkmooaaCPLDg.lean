/- Part 7 of the proof of FnSides: what the program's functions and the reference's compute. -/
import Derived.Test.YtaepgogafkmooaaCPLDf
set_option linter.unusedSimpArgs false
set_option linter.unusedVariables false
open Bool renaming true → zt, false → zf
open List renaming setIfInBounds_toArray → yck, set_cons_zero → ycl, set_cons_succ → ycm, getD_eq_getElem?_getD → ycn
open ByteArray renaming empty → yco
open Option renaming bind_eq_some_iff → ycp
open Go.PW.PrintWords.Kd renaming R_alloc → ycq, R_drewN → ycr, R_drew → ycs, V_alloc → yct, V_drewN → ycu, V_drew → ycv, C_alloc → ycw, C_drewN → ycx, C_drew → ycy
namespace Go.Proofs.Ytaepgogafkmooaa.LD
open Go.Proofs.Ytaepgogafkmooaa.PB Go.Proofs.Ytaepgogafkmooaa.Hd Go.Proofs.Ytaepgogafkmooaa.SM
open Go.RowKit Go.PW.PrintWords Go.PW.PrintLast Go.PW.PrintMore
attribute [local go_sem] zcb zbz max_two min_two zbs zbr zca zby   -- for this text's walks alone
mutual
def laws_FnSides.j0 : Nat → List ByteArray → List Int → List Int → Bool → List Int → List Int → Bool → Bool → Option (Bool)
 | 0, _, _, _, _, _, _, _, _ => none
 | k + 1, x3, x5, x6, x7, x8, x9, x10, x53 => if x53 = true then (if (x7 == x10) = true then ((laws_sameInts.f k x5 x8).bind fun t525 => (if t525 = true then ((laws_sameInts.f k x6 x9).bind fun t526 => (some t526)) else (some false))) else (some false)) else (laws_FnSides.l0 k x3 x5 x6 0)
def laws_FnSides.l0 : Nat → List ByteArray → List Int → List Int → Int → Option (Bool)
 | 0, _, _, _, _ => none
 | k + 1, x3, x5, x6, x11 => if x11 < (x5.length : Int) then (laws_FnSides.l1 k x3 x5 x6 x11 0) else (if (x5.length : Int) > 0 then (if (x6.length : Int) > 0 then (if 0 < (x5.length : Int) then (if 0 < (x6.length : Int) then ((impl_NearIs.f x3 (rd x5 0) (rd x6 0)).bind fun t529 => (some t529)) else (none)) else (none)) else (some false)) else (some false))
def laws_FnSides.l1 : Nat → List ByteArray → List Int → List Int → Int → Int → Option (Bool)
 | 0, _, _, _, _, _ => none
 | k + 1, x3, x5, x6, x11, x12 => if x12 < (x6.length : Int) then (if 0 ≤ x11 then (if x11 < (x5.length : Int) then (if 0 ≤ x12 then (if (rd x5 x11) = (rd x6 x12) then (some false) else (laws_FnSides.l1 k x3 x5 x6 x11 (wrap64 (x12 + 1)))) else (none)) else (none)) else (none)) else (if x11 > 0 then (if 0 ≤ (wrap64 (x11 - 1)) then (if (wrap64 (x11 - 1)) < (x5.length : Int) then (if 0 ≤ x11 then (if x11 < (x5.length : Int) then ((impl_NearIs.f x3 (rd x5 (wrap64 (x11 - 1))) (rd x5 x11)).bind fun t534 => (if t534 = true then (laws_FnSides.l0 k x3 x5 x6 (wrap64 (x11 + 1))) else (some false))) else (none)) else (none)) else (none)) else (none)) else (laws_FnSides.l0 k x3 x5 x6 (wrap64 (x11 + 1))))
end
def laws_FnSides.f (k : Nat) (l0 : List Int) : Option (Bool) := if (l0.length : Int) > 1048576 then (some true) else ((spec_DrawWallSides.f k l0).bind fun bt505 => ((impl_WallSides.f bt505.1 bt505.2).bind fun bt509 => ((spec_WallSides.f k bt505.1 bt505.2).bind fun bt516 => (if (bt509.2.2 != bt516.2.2) = true then (laws_FnSides.j0 k bt505.1 bt509.1 bt509.2.1 bt509.2.2 bt516.1 bt516.2.1 bt516.2.2 true) else ((laws_sameInts.f k bt509.1 bt516.1).bind fun t523 => (if t523 = true then ((laws_sameInts.f k bt509.2.1 bt516.2.1).bind fun t524 => (if t524 = true then (laws_FnSides.j0 k bt505.1 bt509.1 bt509.2.1 bt509.2.2 bt516.1 bt516.2.1 bt516.2.2 (!bt509.2.2)) else (laws_FnSides.j0 k bt505.1 bt509.1 bt509.2.1 bt509.2.2 bt516.1 bt516.2.1 bt516.2.2 true))) else (laws_FnSides.j0 k bt505.1 bt509.1 bt509.2.1 bt509.2.2 bt516.1 bt516.2.1 bt516.2.2 true)))))))
def laws_FnSides.T14 : Bool × List (List Nat × List Nat) := (true, [([], []), ([], []), ([0, 1], [0, 1]), ([2], [2]), ([], []), ([], []), ([4, 5], [4, 5]), ([6], [6]), ([3, 7], [3, 7])])
def laws_FnSides.B14 : List Nat := [0, 0, 3, 7, 0, 0, 48, 112, 255]
theorem laws_FnSides.tab14 : rtab .any (opsOf Try.f7 14) = laws_FnSides.T14 := by kernel_rfl
theorem laws_FnSides.bits14 : waitsOk laws_FnSides.T14.2 laws_FnSides.B14 = true := by kernel_rfl
def laws_FnSides.T16 : Bool × List (List Nat × List Nat) := (true, [([], []), ([0], [0]), ([1], [1]), ([2], [2]), ([2], [2]), ([2], [2]), ([5, 2], [2, 5]), ([4, 6, 2], [2, 4, 6]), ([7, 2], [2, 7]), ([2], [2]), ([2], [2]), ([9, 10, 2], [2, 9, 10]), ([11, 2], [2, 11]), ([3, 8, 12, 2, 2], [2, 3, 8, 12]), ([13, 2], [2, 13]), ([2, 14], [2, 14])])
def laws_FnSides.B16 : List Nat := [0, 1, 3, 7, 7, 7, 39, 119, 247, 7, 7, 1543, 3591, 8191, 16383, 32767]
theorem laws_FnSides.tab16 : rtab .any (opsOf Try.f7 16) = laws_FnSides.T16 := by kernel_rfl
theorem laws_FnSides.bits16 : waitsOk laws_FnSides.T16.2 laws_FnSides.B16 = true := by kernel_rfl
def laws_FnSides.T18 : Bool × List (List Nat × List Nat) := (true, [([], []), ([0], [0]), ([1], [1]), ([2], [2]), ([3], [3]), ([4, 3], [3, 4]), ([5, 3], [3, 5]), ([3, 6], [3, 6]), ([7, 3], [7]), ([8], [8]), ([8], [8]), ([10, 8], [8, 10]), ([11, 8], [8, 11]), ([8], [8]), ([13, 8], [8, 13]), ([14, 8], [8, 14]), ([9, 12, 15, 8, 8], [8, 9, 12, 15]), ([8, 16], [8, 16]), ([17, 16, 0, 1, 2, 3, 4, 5, 6, 7, 8, 9, 10, 11, 12, 13, 14, 15, 16, 17], [17])])
def laws_FnSides.B18 : List Nat := [0, 1, 3, 7, 15, 31, 63, 127, 255, 511, 511, 1535, 3583, 511, 8703, 25087, 65535, 131071, 262143]
theorem laws_FnSides.tab18 : rtab .any (opsOf Try.f7 18) = laws_FnSides.T18 := by kernel_rfl
theorem laws_FnSides.bits18 : waitsOk laws_FnSides.T18.2 laws_FnSides.B18 = true := by kernel_rfl
set_option maxHeartbeats 8000000 in
set_option maxRecDepth 100000 in
theorem laws_FnSides.calls (k : Nat) (A0 : Option Addr) (c0 : Nat) (l0 : List Int) (r : Bool) (w : World) (hr0 : Kd.C (Kd.int .u8) w A0 l0.length l0) (hc0 : l0.length ≤ c0) (h : laws_FnSides.f k l0 = some r) :
  Calls Try.prog 7 #[.slice A0 l0.length c0] w fun e w' => e = .returned (.bool r) ∧ Below w.heap.size w w' := by
 have HR0 := zaa.mk hr0
 have HC0 := zaa.mk hc0
 clear hr0 hc0
 have HB := zaa.mk (Below.refl w.heap.size w)
 have H : (if (l0.length : Int) > 1048576 then (some true) else ((spec_DrawWallSides.f k l0).bind fun bt505 => ((impl_WallSides.f bt505.1 bt505.2).bind fun bt509 => ((spec_WallSides.f k bt505.1 bt505.2).bind fun bt516 => (if (bt509.2.2 != bt516.2.2) = true then (laws_FnSides.j0 k bt505.1 bt509.1 bt509.2.1 bt509.2.2 bt516.1 bt516.2.1 bt516.2.2 true) else ((laws_sameInts.f k bt509.1 bt516.1).bind fun t523 => (if t523 = true then ((laws_sameInts.f k bt509.2.1 bt516.2.1).bind fun t524 => (if t524 = true then (laws_FnSides.j0 k bt505.1 bt509.1 bt509.2.1 bt509.2.2 bt516.1 bt516.2.1 bt516.2.2 (!bt509.2.2)) else (laws_FnSides.j0 k bt505.1 bt509.1 bt509.2.1 bt509.2.2 bt516.1 bt516.2.1 bt516.2.2 true))) else (laws_FnSides.j0 k bt505.1 bt509.1 bt509.2.1 bt509.2.2 bt516.1 bt516.2.1 bt516.2.2 true)))))))) = some r := h
 clear h
 by_cases c2 : (l0.length : Int) > 1048576
 ·rw [if_pos c2] at H
  have c2b0 : decide (1048576 < (l0.length : Int)) = true := decide_eq_true c2
  have c2b1 : decide (1048576 < l0.length) = true := decide_eq_true (by omega)
  clear c2
  obtain rfl := Option.some.inj H
  go_enter Try.func7, Try.ntmps7
  go_wp2
  go_ret
  exact ⟨by first | rfl | (simp [zan, zam] <;> rfl) | (simp [*, zan, zam] <;> rfl), by repeat (first | (with_reducible first | exact HB.out | apply zac | apply zab | apply zad) | exact HB.out)⟩
 ·rw [if_neg c2] at H
  have c2b0 : decide (1048576 < (l0.length : Int)) = false := decide_eq_false c2
  have c2b1 : decide (1048576 < l0.length) = false := decide_eq_false (by omega)
  clear c2
  replace H := ycp.mp H
  obtain ⟨⟨t505, t508⟩, A30, H⟩ := H
  replace H : ((impl_WallSides.f t505 t508).bind fun bt509 => ((spec_WallSides.f k t505 t508).bind fun bt516 => (if (bt509.2.2 != bt516.2.2) = true then (laws_FnSides.j0 k t505 bt509.1 bt509.2.1 bt509.2.2 bt516.1 bt516.2.1 bt516.2.2 true) else ((laws_sameInts.f k bt509.1 bt516.1).bind fun t523 => (if t523 = true then ((laws_sameInts.f k bt509.2.1 bt516.2.1).bind fun t524 => (if t524 = true then (laws_FnSides.j0 k t505 bt509.1 bt509.2.1 bt509.2.2 bt516.1 bt516.2.1 bt516.2.2 (!bt509.2.2)) else (laws_FnSides.j0 k t505 bt509.1 bt509.2.1 bt509.2.2 bt516.1 bt516.2.1 bt516.2.2 true))) else (laws_FnSides.j0 k t505 bt509.1 bt509.2.1 bt509.2.2 bt516.1 bt516.2.1 bt516.2.2 true)))))) = some r := H
  have A3 := zaa.mk A30
  clear A30
  replace H := ycp.mp H
  obtain ⟨⟨t509, t510, t511⟩, A40, H⟩ := H
  replace H : ((spec_WallSides.f k t505 t508).bind fun bt516 => (if (t511 != bt516.2.2) = true then (laws_FnSides.j0 k t505 t509 t510 t511 bt516.1 bt516.2.1 bt516.2.2 true) else ((laws_sameInts.f k t509 bt516.1).bind fun t523 => (if t523 = true then ((laws_sameInts.f k t510 bt516.2.1).bind fun t524 => (if t524 = true then (laws_FnSides.j0 k t505 t509 t510 t511 bt516.1 bt516.2.1 bt516.2.2 (!t511)) else (laws_FnSides.j0 k t505 t509 t510 t511 bt516.1 bt516.2.1 bt516.2.2 true))) else (laws_FnSides.j0 k t505 t509 t510 t511 bt516.1 bt516.2.1 bt516.2.2 true))))) = some r := H
  have A4 := zaa.mk A40
  clear A40
  replace H := ycp.mp H
  obtain ⟨⟨t516, t517, t518⟩, A50, H⟩ := H
  replace H : (if (t511 != t518) = true then (laws_FnSides.j0 k t505 t509 t510 t511 t516 t517 t518 true) else ((laws_sameInts.f k t509 t516).bind fun t523 => (if t523 = true then ((laws_sameInts.f k t510 t517).bind fun t524 => (if t524 = true then (laws_FnSides.j0 k t505 t509 t510 t511 t516 t517 t518 (!t511)) else (laws_FnSides.j0 k t505 t509 t510 t511 t516 t517 t518 true))) else (laws_FnSides.j0 k t505 t509 t510 t511 t516 t517 t518 true)))) = some r := H
  have A5 := zaa.mk A50
  clear A50
  have HC6 := zaa.mk H
  clear H
  go_enter Try.func7, Try.ntmps7
  go_upto_region 6 with (first | ((with_reducible refine zaq (f := 33) rfl ?_); refine zbf (some 18) rfl rfl Try.func33 (by kernel_rfl) rfl #[.slice A0 l0.length c0] rfl (by (try simp only [List.map_toArray, List.map_cons, List.map_nil]); first | done | rfl | (simp only [List.length_drop, List.length_take]; rfl)) ?_; (with_reducible refine (spec_DrawWallSides.calls k _ _ l0 t505 t508 _ ?side1 ?side2 A3.out).mono ?_); (case side1 => repeat (first | exact HR0.out | (with_reducible refine ycw ?_ _) | (with_reducible refine ycx ?_ _) | (with_reducible refine ycy ?_))); (case side2 => exact HC0.out); rintro e w7 ⟨v506, rfl, ho0, hb⟩; refine ⟨_, rfl, ?_⟩; have n0_ := zaa.mk (Kd.V_lower (Kd.V_mono (ok' := fun k_ => True) ho0 (fun k_ hk_ => trivial)) (zai (by repeat (first | (with_reducible first | exact HB.out | apply zac | apply zab | apply zad) | exact HB.out)))); have n1_ := zaa.mk (zag (by repeat (first | (with_reducible first | exact HB.out | apply zac | apply zab | apply zad) | exact HB.out)) hb); clear HB; have HO507 := n0_; have HB := n1_; clear n0_ n1_; (try clear hb); (try clear hb2); (try clear hk); (try clear hi); (try clear ho0); obtain ⟨Ao8, co8, eo8⟩ := Kd.V_slice HO507.out; subst eo8) | ((with_reducible refine zaq (f := 34) rfl ?_); refine zbf (some 24) rfl rfl Try.func34 (by kernel_rfl) rfl #[.slice Ao8 t505.length co8, .int .i64 t508] rfl (by (try simp only [List.map_toArray, List.map_cons, List.map_nil]); first | done | rfl | (simp only [List.length_drop, List.length_take]; rfl)) ?_; (with_reducible refine (impl_WallSides.calls _ _ t505 t508 t509 t510 t511 _ ?side1 ?side2 A4.out).mono ?_); (case side1 => repeat (first | exact (Kd.V_reads' HO507.out).2.2 | (with_reducible refine ycw ?_ _) | (with_reducible refine ycx ?_ _) | (with_reducible refine ycy ?_))); (case side2 => exact (Kd.V_reads' HO507.out).2.1); rintro e w9 ⟨v512, v514, rfl, ho0, ho1, hb⟩; refine ⟨_, rfl, ?_⟩; have n0_ := zaa.mk (Kd.V_mono (Kd.V_told (Kd.V_told (Kd.V_old (by (with_reducible repeat (first | apply yct | apply ycu | apply ycv)); exact HO507.out) hb) (Kd.R_base ho0)) (Kd.R_base ho1)) (fun _ h_ => h_.1)); have n1_ := zaa.mk (Kd.R_lower ho0 (zai (by repeat (first | (with_reducible first | exact HB.out | apply zac | apply zab | apply zad) | exact HB.out)))); have n2_ := zaa.mk (Kd.R_lower ho1 (zai (by repeat (first | (with_reducible first | exact HB.out | apply zac | apply zab | apply zad) | exact HB.out)))); have n3_ := zaa.mk (zag (by repeat (first | (with_reducible first | exact HB.out | apply zac | apply zab | apply zad) | exact HB.out)) hb); clear HO507; clear HB; have HO507 := n0_; have HO513 := n1_; have HO515 := n2_; have HB := n3_; clear n0_ n1_ n2_ n3_; (try clear hb); (try clear hb2); (try clear hk); (try clear hi); (try clear ho0); (try clear ho1)) | ((with_reducible refine zaq (f := 35) rfl ?_); refine zbf (some 31) rfl rfl Try.func35 (by kernel_rfl) rfl #[.slice Ao8 t505.length co8, .int .i64 t508] rfl (by (try simp only [List.map_toArray, List.map_cons, List.map_nil]); first | done | rfl | (simp only [List.length_drop, List.length_take]; rfl)) ?_; (with_reducible refine (spec_WallSides.calls k _ _ t505 t508 t516 t517 t518 _ ?side1 ?side2 A5.out).mono ?_); (case side1 => repeat (first | exact (Kd.V_reads' HO507.out).2.2 | (with_reducible refine ycw ?_ _) | (with_reducible refine ycx ?_ _) | (with_reducible refine ycy ?_))); (case side2 => exact (Kd.V_reads' HO507.out).2.1); rintro e w10 ⟨v519, v521, rfl, ho0, ho1, hb⟩; refine ⟨_, rfl, ?_⟩; have n0_ := zaa.mk (Kd.V_mono (Kd.V_told (Kd.V_told (Kd.V_old (by (with_reducible repeat (first | apply yct | apply ycu | apply ycv)); exact HO507.out) hb) (Kd.R_base ho0)) (Kd.R_base ho1)) (fun _ h_ => h_.1)); have n1_ := zaa.mk (Kd.R_mono (Kd.R_told (Kd.R_told (Kd.R_old (by (with_reducible repeat (first | apply ycq | apply ycr | apply ycs)); exact HO513.out) hb) (Kd.R_base ho0)) (Kd.R_base ho1)) (fun _ h_ => h_.1)); have n2_ := zaa.mk (Kd.R_mono (Kd.R_told (Kd.R_told (Kd.R_old (by (with_reducible repeat (first | apply ycq | apply ycr | apply ycs)); exact HO515.out) hb) (Kd.R_base ho0)) (Kd.R_base ho1)) (fun _ h_ => h_.1)); have n3_ := zaa.mk (Kd.R_lower (Kd.R_new' (Kd.R_new' ho0 (Kd.R_lt (by (with_reducible repeat (first | apply ycq | apply ycr | apply ycs)); exact HO513.out))) (Kd.R_lt (by (with_reducible repeat (first | apply ycq | apply ycr | apply ycs)); exact HO515.out))) (zai (by repeat (first | (with_reducible first | exact HB.out | apply zac | apply zab | apply zad) | exact HB.out)))); have n4_ := zaa.mk (Kd.R_lower (Kd.R_new' (Kd.R_new' ho1 (Kd.R_lt (by (with_reducible repeat (first | apply ycq | apply ycr | apply ycs)); exact HO513.out))) (Kd.R_lt (by (with_reducible repeat (first | apply ycq | apply ycr | apply ycs)); exact HO515.out))) (zai (by repeat (first | (with_reducible first | exact HB.out | apply zac | apply zab | apply zad) | exact HB.out)))); have n5_ := zaa.mk (zag (by repeat (first | (with_reducible first | exact HB.out | apply zac | apply zab | apply zad) | exact HB.out)) hb); clear HO507; clear HO513; clear HO515; clear HB; have HO507 := n0_; have HO513 := n1_; have HO515 := n2_; have HO520 := n3_; have HO522 := n4_; have HB := n5_; clear n0_ n1_ n2_ n3_ n4_ n5_; (try clear hb); (try clear hb2); (try clear hk); (try clear hi); (try clear ho0); (try clear ho1)))
  (try simp only [Act.put, yck, ycl, ycm])
  go_cut [53] (fun v53 wc => ∃ (kq : Nat) (x53_5 : Bool), v53 = .bool x53_5 ∧ zaa (laws_FnSides.j0 kq t505 t509 t510 t511 t516 t517 t518 x53_5 = some r) ∧ zaa (kq ≤ k) ∧ zaa (Kd.V Kd.string 9 wc w.heap.size (fun k_ => some k_ ≠ (v512 : Value).ownBlock ∧ some k_ ≠ (v514 : Value).ownBlock ∧ some k_ ≠ (v519 : Value).ownBlock ∧ some k_ ≠ (v521 : Value).ownBlock) (.slice Ao8 t505.length co8) t505) ∧ zaa (Kd.R (Kd.int .i64) 3 wc w.heap.size (fun k_ => some k_ ≠ (v514 : Value).ownBlock ∧ some k_ ≠ (v519 : Value).ownBlock ∧ some k_ ≠ (v521 : Value).ownBlock) v512 t509) ∧ zaa (Kd.R (Kd.int .i64) 3 wc w.heap.size (fun k_ => some k_ ≠ (v512 : Value).ownBlock ∧ some k_ ≠ (v519 : Value).ownBlock ∧ some k_ ≠ (v521 : Value).ownBlock) v514 t510) ∧ zaa (Kd.R (Kd.int .i64) 3 wc w.heap.size (fun k_ => some k_ ≠ (v512 : Value).ownBlock ∧ some k_ ≠ (v514 : Value).ownBlock ∧ some k_ ≠ (v521 : Value).ownBlock) v519 t516) ∧ zaa (Kd.R (Kd.int .i64) 3 wc w.heap.size (fun k_ => some k_ ≠ (v512 : Value).ownBlock ∧ some k_ ≠ (v514 : Value).ownBlock ∧ some k_ ≠ (v519 : Value).ownBlock) v521 t517) ∧ zaa (Below w.heap.size w wc))
  case first =>
   have H := HC6.out
   clear HC6
   by_cases c11 : (t511 != t518) = true
   ·rw [if_pos c11] at H
    have c11b0 : (t511 != t518) = true := c11
    (try (have c11b1 : decide (t511 = t518) = false := by simpa using c11))
    (try (have c11b2 : (t511 == t518) = false := by simpa using c11))
    (try (have c11b3 : ¬ (t511 = t518) := by simpa using c11))
    clear c11
    (first | rw [c11b0] | (simp only [zar, zas]; rw [c11b0]) | skip)
    have H' := zaa.mk H
    clear H
    go_wp2
    go_meet
    case rel => exact ⟨_, (true), (by first | rfl | (simp; done) | (simp [*]; done)), H', ⟨by first | omega | exact Nat.le_refl _⟩, ⟨by (with_reducible repeat (first | apply yct | apply ycu | apply ycv)); exact Kd.V_mono HO507.out (fun _ hk => ⟨hk.1.1.1.2, ⟨hk.1.1.2, ⟨hk.1.2, hk.2⟩⟩⟩)⟩, ⟨by (with_reducible repeat (first | apply ycq | apply ycr | apply ycs)); exact Kd.R_mono HO513.out (fun _ hk => ⟨hk.1.1, ⟨hk.1.2, hk.2⟩⟩)⟩, ⟨by (with_reducible repeat (first | apply ycq | apply ycr | apply ycs)); exact Kd.R_mono HO515.out (fun _ hk => ⟨hk.1.1, ⟨hk.1.2, hk.2⟩⟩)⟩, ⟨by (with_reducible repeat (first | apply ycq | apply ycr | apply ycs)); exact Kd.R_mono HO520.out (fun _ hk => ⟨hk.1.2, ⟨hk.2, hk.1.1⟩⟩)⟩, ⟨by (with_reducible repeat (first | apply ycq | apply ycr | apply ycs)); exact Kd.R_mono HO522.out (fun _ hk => ⟨hk.1.2, ⟨hk.2, hk.1.1⟩⟩)⟩, ⟨by repeat (first | (with_reducible first | exact HB.out | apply zac | apply zab | apply zad) | exact HB.out)⟩⟩
   ·rw [if_neg c11] at H
    have c11b0 : (t511 != t518) = false := by simpa using c11
    (try (have c11b1 : decide (t511 = t518) = true := by simpa using c11))
    (try (have c11b2 : (t511 == t518) = true := by simpa using c11))
    clear c11
    (first | rw [c11b0] | (simp only [zar, zas]; rw [c11b0]) | skip)
    replace H := ycp.mp H
    obtain ⟨t523, A120, H⟩ := H
    replace H : (if t523 = true then ((laws_sameInts.f k t510 t517).bind fun t524 => (if t524 = true then (laws_FnSides.j0 k t505 t509 t510 t511 t516 t517 t518 (!t511)) else (laws_FnSides.j0 k t505 t509 t510 t511 t516 t517 t518 true))) else (laws_FnSides.j0 k t505 t509 t510 t511 t516 t517 t518 true)) = some r := H
    have A12 := zaa.mk A120
    clear A120
    by_cases c13 : t523 = true
    ·subst c13
     have H1 : ((laws_sameInts.f k t510 t517).bind fun t524 => (if t524 = true then (laws_FnSides.j0 k t505 t509 t510 t511 t516 t517 t518 (!t511)) else (laws_FnSides.j0 k t505 t509 t510 t511 t516 t517 t518 true))) = some r := by rw [if_pos rfl] at H; exact H
     clear H
     have H := H1
     clear H1
     replace H := ycp.mp H
     obtain ⟨t524, A140, H⟩ := H
     replace H : (if t524 = true then (laws_FnSides.j0 k t505 t509 t510 t511 t516 t517 t518 (!t511)) else (laws_FnSides.j0 k t505 t509 t510 t511 t516 t517 t518 true)) = some r := H
     have A14 := zaa.mk A140
     clear A140
     by_cases c15 : t524 = true
     ·subst c15
      have H1 : (laws_FnSides.j0 k t505 t509 t510 t511 t516 t517 t518 (!t511)) = some r := by rw [if_pos rfl] at H; exact H
      clear H
      have H := H1
      clear H1
      have H' := zaa.mk H
      clear H
      obtain ⟨Ao16, co16, eo16⟩ := Kd.R_slice HO513.out
      subst eo16
      obtain ⟨Ao17, co17, eo17⟩ := Kd.R_slice HO520.out
      subst eo17
      go_wp2_with (first | (go_at_call 36; (with_reducible refine (laws_sameInts.calls k _ _ t509 _ _ t516 true _ ?side1 ?side2 ?side3 ?side4 A12.out).mono ?_); (case side1 => repeat (first | exact (Kd.R_reads' HO513.out).2.2 | (with_reducible refine ycw ?_ _) | (with_reducible refine ycx ?_ _) | (with_reducible refine ycy ?_))); (case side2 => exact (Kd.R_reads' HO513.out).2.1); (case side3 => repeat (first | exact (Kd.R_reads' HO520.out).2.2 | (with_reducible refine ycw ?_ _) | (with_reducible refine ycx ?_ _) | (with_reducible refine ycy ?_))); (case side4 => exact (Kd.R_reads' HO520.out).2.1); rintro e w' ⟨rfl, ⟨nd, rfl⟩⟩; obtain ⟨Ao18, co18, eo18⟩ := Kd.R_slice HO515.out; subst eo18; obtain ⟨Ao19, co19, eo19⟩ := Kd.R_slice HO522.out; subst eo19) | (go_at_call 36; (with_reducible refine (laws_sameInts.calls k _ _ t510 _ _ t517 true _ ?side1 ?side2 ?side3 ?side4 A14.out).mono ?_); (case side1 => repeat (first | exact (Kd.R_reads' HO515.out).2.2 | (with_reducible refine ycw ?_ _) | (with_reducible refine ycx ?_ _) | (with_reducible refine ycy ?_))); (case side2 => exact (Kd.R_reads' HO515.out).2.1); (case side3 => repeat (first | exact (Kd.R_reads' HO522.out).2.2 | (with_reducible refine ycw ?_ _) | (with_reducible refine ycx ?_ _) | (with_reducible refine ycy ?_))); (case side4 => exact (Kd.R_reads' HO522.out).2.1); rintro e w' ⟨rfl, ⟨nd, rfl⟩⟩))
      go_meet
      case rel => exact ⟨_, (!t511), (by first | rfl | (simp; done) | (simp [*]; done)), H', ⟨by first | omega | exact Nat.le_refl _⟩, ⟨by (with_reducible repeat (first | apply yct | apply ycu | apply ycv)); exact Kd.V_mono HO507.out (fun _ hk => ⟨hk.1.1.1.2, ⟨hk.1.1.2, ⟨hk.1.2, hk.2⟩⟩⟩)⟩, ⟨by (with_reducible repeat (first | apply ycq | apply ycr | apply ycs)); exact Kd.R_mono HO513.out (fun _ hk => ⟨hk.1.1, ⟨hk.1.2, hk.2⟩⟩)⟩, ⟨by (with_reducible repeat (first | apply ycq | apply ycr | apply ycs)); exact Kd.R_mono HO515.out (fun _ hk => ⟨hk.1.1, ⟨hk.1.2, hk.2⟩⟩)⟩, ⟨by (with_reducible repeat (first | apply ycq | apply ycr | apply ycs)); exact Kd.R_mono HO520.out (fun _ hk => ⟨hk.1.2, ⟨hk.2, hk.1.1⟩⟩)⟩, ⟨by (with_reducible repeat (first | apply ycq | apply ycr | apply ycs)); exact Kd.R_mono HO522.out (fun _ hk => ⟨hk.1.2, ⟨hk.2, hk.1.1⟩⟩)⟩, ⟨by repeat (first | (with_reducible first | exact HB.out | apply zac | apply zab | apply zad) | exact HB.out)⟩⟩
     ·replace c15 := Bool.eq_false_iff.mpr c15
      subst c15
      have H1 : (laws_FnSides.j0 k t505 t509 t510 t511 t516 t517 t518 true) = some r := by rw [if_neg (show ¬ (false = true) by decide)] at H; exact H
      clear H
      have H := H1
      clear H1
      have H' := zaa.mk H
      clear H
      obtain ⟨Ao20, co20, eo20⟩ := Kd.R_slice HO513.out
      subst eo20
      obtain ⟨Ao21, co21, eo21⟩ := Kd.R_slice HO520.out
      subst eo21
      go_wp2_with (first | (go_at_call 36; (with_reducible refine (laws_sameInts.calls k _ _ t509 _ _ t516 true _ ?side1 ?side2 ?side3 ?side4 A12.out).mono ?_); (case side1 => repeat (first | exact (Kd.R_reads' HO513.out).2.2 | (with_reducible refine ycw ?_ _) | (with_reducible refine ycx ?_ _) | (with_reducible refine ycy ?_))); (case side2 => exact (Kd.R_reads' HO513.out).2.1); (case side3 => repeat (first | exact (Kd.R_reads' HO520.out).2.2 | (with_reducible refine ycw ?_ _) | (with_reducible refine ycx ?_ _) | (with_reducible refine ycy ?_))); (case side4 => exact (Kd.R_reads' HO520.out).2.1); rintro e w' ⟨rfl, ⟨nd, rfl⟩⟩; obtain ⟨Ao22, co22, eo22⟩ := Kd.R_slice HO515.out; subst eo22; obtain ⟨Ao23, co23, eo23⟩ := Kd.R_slice HO522.out; subst eo23) | (go_at_call 36; (with_reducible refine (laws_sameInts.calls k _ _ t510 _ _ t517 false _ ?side1 ?side2 ?side3 ?side4 A14.out).mono ?_); (case side1 => repeat (first | exact (Kd.R_reads' HO515.out).2.2 | (with_reducible refine ycw ?_ _) | (with_reducible refine ycx ?_ _) | (with_reducible refine ycy ?_))); (case side2 => exact (Kd.R_reads' HO515.out).2.1); (case side3 => repeat (first | exact (Kd.R_reads' HO522.out).2.2 | (with_reducible refine ycw ?_ _) | (with_reducible refine ycx ?_ _) | (with_reducible refine ycy ?_))); (case side4 => exact (Kd.R_reads' HO522.out).2.1); rintro e w' ⟨rfl, ⟨nd, rfl⟩⟩))
      go_meet
      case rel => exact ⟨_, (true), (by first | rfl | (simp; done) | (simp [*]; done)), H', ⟨by first | omega | exact Nat.le_refl _⟩, ⟨by (with_reducible repeat (first | apply yct | apply ycu | apply ycv)); exact Kd.V_mono HO507.out (fun _ hk => ⟨hk.1.1.1.2, ⟨hk.1.1.2, ⟨hk.1.2, hk.2⟩⟩⟩)⟩, ⟨by (with_reducible repeat (first | apply ycq | apply ycr | apply ycs)); exact Kd.R_mono HO513.out (fun _ hk => ⟨hk.1.1, ⟨hk.1.2, hk.2⟩⟩)⟩, ⟨by (with_reducible repeat (first | apply ycq | apply ycr | apply ycs)); exact Kd.R_mono HO515.out (fun _ hk => ⟨hk.1.1, ⟨hk.1.2, hk.2⟩⟩)⟩, ⟨by (with_reducible repeat (first | apply ycq | apply ycr | apply ycs)); exact Kd.R_mono HO520.out (fun _ hk => ⟨hk.1.2, ⟨hk.2, hk.1.1⟩⟩)⟩, ⟨by (with_reducible repeat (first | apply ycq | apply ycr | apply ycs)); exact Kd.R_mono HO522.out (fun _ hk => ⟨hk.1.2, ⟨hk.2, hk.1.1⟩⟩)⟩, ⟨by repeat (first | (with_reducible first | exact HB.out | apply zac | apply zab | apply zad) | exact HB.out)⟩⟩
    ·replace c13 := Bool.eq_false_iff.mpr c13
     subst c13
     have H1 : (laws_FnSides.j0 k t505 t509 t510 t511 t516 t517 t518 true) = some r := by rw [if_neg (show ¬ (false = true) by decide)] at H; exact H
     clear H
     have H := H1
     clear H1
     have H' := zaa.mk H
     clear H
     obtain ⟨Ao24, co24, eo24⟩ := Kd.R_slice HO513.out
     subst eo24
     obtain ⟨Ao25, co25, eo25⟩ := Kd.R_slice HO520.out
     subst eo25
     go_wp2_with (first | (go_at_call 36; (with_reducible refine (laws_sameInts.calls k _ _ t509 _ _ t516 false _ ?side1 ?side2 ?side3 ?side4 A12.out).mono ?_); (case side1 => repeat (first | exact (Kd.R_reads' HO513.out).2.2 | (with_reducible refine ycw ?_ _) | (with_reducible refine ycx ?_ _) | (with_reducible refine ycy ?_))); (case side2 => exact (Kd.R_reads' HO513.out).2.1); (case side3 => repeat (first | exact (Kd.R_reads' HO520.out).2.2 | (with_reducible refine ycw ?_ _) | (with_reducible refine ycx ?_ _) | (with_reducible refine ycy ?_))); (case side4 => exact (Kd.R_reads' HO520.out).2.1); rintro e w' ⟨rfl, ⟨nd, rfl⟩⟩))
     go_meet
     case rel => exact ⟨_, (true), (by first | rfl | (simp; done) | (simp [*]; done)), H', ⟨by first | omega | exact Nat.le_refl _⟩, ⟨by (with_reducible repeat (first | apply yct | apply ycu | apply ycv)); exact Kd.V_mono HO507.out (fun _ hk => ⟨hk.1.1.1.2, ⟨hk.1.1.2, ⟨hk.1.2, hk.2⟩⟩⟩)⟩, ⟨by (with_reducible repeat (first | apply ycq | apply ycr | apply ycs)); exact Kd.R_mono HO513.out (fun _ hk => ⟨hk.1.1, ⟨hk.1.2, hk.2⟩⟩)⟩, ⟨by (with_reducible repeat (first | apply ycq | apply ycr | apply ycs)); exact Kd.R_mono HO515.out (fun _ hk => ⟨hk.1.1, ⟨hk.1.2, hk.2⟩⟩)⟩, ⟨by (with_reducible repeat (first | apply ycq | apply ycr | apply ycs)); exact Kd.R_mono HO520.out (fun _ hk => ⟨hk.1.2, ⟨hk.2, hk.1.1⟩⟩)⟩, ⟨by (with_reducible repeat (first | apply ycq | apply ycr | apply ycs)); exact Kd.R_mono HO522.out (fun _ hk => ⟨hk.1.2, ⟨hk.2, hk.1.1⟩⟩)⟩, ⟨by repeat (first | (with_reducible first | exact HB.out | apply zac | apply zab | apply zad) | exact HB.out)⟩⟩
  case rest =>
   clear HC6
   try clear c1
   try clear c2
   try clear c2b0
   try clear c2b1
   try clear p2
   try clear c3
   try clear c7
   try clear c11
   try clear c11b0
   try clear c11b1
   try clear c11b2
   try clear c13
   try clear c15
   obtain ⟨kq, x53_5, rfl, HA, HJ5, HO_3, HO_5, HO_6, HO_8, HO_9, HB⟩ := hcut
   cases kq with
   | zero => exact absurd HA.out (by simp [laws_FnSides.j0])
   | succ kj5 =>
    have H := HA.out
    clear HA
    simp only [laws_FnSides.j0] at H
    by_cases c26 : x53_5 = true
    ·subst c26
     have H1 : (if (t511 == t518) = true then ((laws_sameInts.f kj5 t509 t516).bind fun t525 => (if t525 = true then ((laws_sameInts.f kj5 t510 t517).bind fun t526 => (some t526)) else (some false))) else (some false)) = some r := by rw [if_pos rfl] at H; exact H
     clear H
     have H := H1
     clear H1
     by_cases c27 : (t511 == t518) = true
     ·rw [if_pos c27] at H
      have c27b0 : (t511 == t518) = true := c27
      (try (have c27b1 : decide (t511 = t518) = true := by simpa using c27))
      (try (have c27b2 : (t511 == t518) = true := by simpa using c27))
      clear c27
      replace H := ycp.mp H
      obtain ⟨t525, A280, H⟩ := H
      replace H : (if t525 = true then ((laws_sameInts.f kj5 t510 t517).bind fun t526 => (some t526)) else (some false)) = some r := H
      have A28 := zaa.mk A280
      clear A280
      by_cases c29 : t525 = true
      ·subst c29
       have H1 : ((laws_sameInts.f kj5 t510 t517).bind fun t526 => (some t526)) = some r := by rw [if_pos rfl] at H; exact H
       clear H
       have H := H1
       clear H1
       replace H := ycp.mp H
       obtain ⟨t526, A300, H⟩ := H
       replace H : (some t526) = some r := H
       have A30 := zaa.mk A300
       clear A300
       obtain rfl := Option.some.inj H
       obtain ⟨Ao31, co31, eo31⟩ := Kd.R_slice HO_5.out
       subst eo31
       obtain ⟨Ao32, co32, eo32⟩ := Kd.R_slice HO_8.out
       subst eo32
       go_wp2_with (first | (go_at_call 36; (with_reducible refine (laws_sameInts.calls kj5 _ _ t509 _ _ t516 true _ ?side1 ?side2 ?side3 ?side4 A28.out).mono ?_); (case side1 => repeat (first | exact (Kd.R_reads' HO_5.out).2.2 | (with_reducible refine ycw ?_ _) | (with_reducible refine ycx ?_ _) | (with_reducible refine ycy ?_))); (case side2 => exact (Kd.R_reads' HO_5.out).2.1); (case side3 => repeat (first | exact (Kd.R_reads' HO_8.out).2.2 | (with_reducible refine ycw ?_ _) | (with_reducible refine ycx ?_ _) | (with_reducible refine ycy ?_))); (case side4 => exact (Kd.R_reads' HO_8.out).2.1); rintro e w' ⟨rfl, ⟨nd, rfl⟩⟩; obtain ⟨Ao33, co33, eo33⟩ := Kd.R_slice HO_6.out; subst eo33; obtain ⟨Ao34, co34, eo34⟩ := Kd.R_slice HO_9.out; subst eo34) | (go_at_call 36; (with_reducible refine (laws_sameInts.calls kj5 _ _ t510 _ _ t517 t526 _ ?side1 ?side2 ?side3 ?side4 A30.out).mono ?_); (case side1 => repeat (first | exact (Kd.R_reads' HO_6.out).2.2 | (with_reducible refine ycw ?_ _) | (with_reducible refine ycx ?_ _) | (with_reducible refine ycy ?_))); (case side2 => exact (Kd.R_reads' HO_6.out).2.1); (case side3 => repeat (first | exact (Kd.R_reads' HO_9.out).2.2 | (with_reducible refine ycw ?_ _) | (with_reducible refine ycx ?_ _) | (with_reducible refine ycy ?_))); (case side4 => exact (Kd.R_reads' HO_9.out).2.1); rintro e w' ⟨rfl, ⟨nd, rfl⟩⟩))
       go_ret
       exact ⟨by first | rfl | (simp [zan, zam] <;> rfl) | (simp [*, zan, zam] <;> rfl), by repeat (first | (with_reducible first | exact HB.out | apply zac | apply zab | apply zad) | exact HB.out)⟩
      ·replace c29 := Bool.eq_false_iff.mpr c29
       subst c29
       have H1 : (some false) = some r := by rw [if_neg (show ¬ (false = true) by decide)] at H; exact H
       clear H
       have H := H1
       clear H1
       obtain rfl := Option.some.inj H
       obtain ⟨Ao35, co35, eo35⟩ := Kd.R_slice HO_5.out
       subst eo35
       obtain ⟨Ao36, co36, eo36⟩ := Kd.R_slice HO_8.out
       subst eo36
       go_wp2_with (first | (go_at_call 36; (with_reducible refine (laws_sameInts.calls kj5 _ _ t509 _ _ t516 false _ ?side1 ?side2 ?side3 ?side4 A28.out).mono ?_); (case side1 => repeat (first | exact (Kd.R_reads' HO_5.out).2.2 | (with_reducible refine ycw ?_ _) | (with_reducible refine ycx ?_ _) | (with_reducible refine ycy ?_))); (case side2 => exact (Kd.R_reads' HO_5.out).2.1); (case side3 => repeat (first | exact (Kd.R_reads' HO_8.out).2.2 | (with_reducible refine ycw ?_ _) | (with_reducible refine ycx ?_ _) | (with_reducible refine ycy ?_))); (case side4 => exact (Kd.R_reads' HO_8.out).2.1); rintro e w' ⟨rfl, ⟨nd, rfl⟩⟩))
       go_ret
       exact ⟨by first | rfl | (simp [zan, zam] <;> rfl) | (simp [*, zan, zam] <;> rfl), by repeat (first | (with_reducible first | exact HB.out | apply zac | apply zab | apply zad) | exact HB.out)⟩
     ·rw [if_neg c27] at H
      have c27b0 : (t511 == t518) = false := by simpa using c27
      (try (have c27b1 : decide (t511 = t518) = false := by simpa using c27))
      (try (have c27b2 : (t511 == t518) = false := by simpa using c27))
      (try (have c27b3 : ¬ (t511 = t518) := by simpa using c27))
      clear c27
      obtain rfl := Option.some.inj H
      go_wp2
      go_ret
      exact ⟨by first | rfl | (simp [zan, zam] <;> rfl) | (simp [*, zan, zam] <;> rfl), by repeat (first | (with_reducible first | exact HB.out | apply zac | apply zab | apply zad) | exact HB.out)⟩
    ·replace c26 := Bool.eq_false_iff.mpr c26
     subst c26
     have H1 : (laws_FnSides.l0 kj5 t505 t509 t510 0) = some r := by rw [if_neg (show ¬ (false = true) by decide)] at H; exact H
     clear H
     have H := H1
     clear H1
     have H' := zaa.mk H
     clear H
     go_wp2
     go_loopg [11] kj5 (fun kq v11 w' => ∃ (x11_2 : Int), v11 = .int .i64 x11_2 ∧ zaa (laws_FnSides.l0 kq t505 t509 t510 x11_2 = some r) ∧ zaa (kq ≤ kj5) ∧ zaa (Kd.V Kd.string 9 w' w.heap.size (fun k_ => some k_ ≠ (v512 : Value).ownBlock ∧ some k_ ≠ (v514 : Value).ownBlock) (.slice Ao8 t505.length co8) t505) ∧ zaa (Kd.R (Kd.int .i64) 3 w' w.heap.size (fun k_ => some k_ ≠ (v514 : Value).ownBlock) v512 t509) ∧ zaa (Kd.R (Kd.int .i64) 3 w' w.heap.size (fun k_ => some k_ ≠ (v512 : Value).ownBlock) v514 t510) ∧ zaa (Below w.heap.size w w'))
     case atStart => exact ⟨(0), (by first | rfl | (simp; done) | (simp [*]; done)), H', ⟨Nat.le_refl _⟩, ⟨by (with_reducible repeat (first | apply yct | apply ycu | apply ycv)); exact Kd.V_mono HO_3.out (fun _ hk => ⟨hk.1, hk.2.1⟩)⟩, ⟨by (with_reducible repeat (first | apply ycq | apply ycr | apply ycs)); exact Kd.R_mono HO_5.out (fun _ hk => hk.1)⟩, ⟨by (with_reducible repeat (first | apply ycq | apply ycr | apply ycs)); exact Kd.R_mono HO_6.out (fun _ hk => hk.1)⟩, ⟨by repeat (first | (with_reducible first | exact HB.out | apply zac | apply zab | apply zad) | exact HB.out)⟩⟩
     case round =>
      clear H'
      try clear c1
      try clear c2
      try clear c2b0
      try clear c2b1
      try clear p2
      try clear c3
      try clear c7
      try clear c11
      try clear c11b0
      try clear c11b1
      try clear c11b2
      try clear c13
      try clear c15
      try clear c26
      try clear c27
      try clear c27b0
      try clear c27b1
      try clear c27b2
      try clear c29
      try clear c33
      try clear c34
      try clear c35
      try clear p2
      obtain ⟨x11_2, rfl, HA, HK2, HO_3, HO_5, HO_6, HB⟩ := hrel
      cases gk with
      | zero => exact absurd HA.out (by simp [laws_FnSides.l0])
      | succ k2 =>
       have H := HA.out
       clear HA
       simp only [laws_FnSides.l0] at H
       by_cases c37 : x11_2 < (t509.length : Int)
       ·rw [if_pos c37] at H
        have c37b0 : decide (x11_2 < (t509.length : Int)) = true := decide_eq_true c37
        clear c37
        have H' := zaa.mk H
        clear H
        obtain ⟨Ao38, co38, eo38⟩ := Kd.R_slice HO_5.out
        subst eo38
        go_wp2
        go_loopg [12] k2 (fun kq v12 w' => ∃ (x12_3 : Int), v12 = .int .i64 x12_3 ∧ zaa (laws_FnSides.l1 kq t505 t509 t510 x11_2 x12_3 = some r) ∧ zaa (kq ≤ k2) ∧ zaa (Kd.V Kd.string 9 w' w.heap.size (fun k_ => some k_ ≠ ((.slice Ao38 t509.length co38) : Value).ownBlock ∧ some k_ ≠ (v514 : Value).ownBlock) (.slice Ao8 t505.length co8) t505) ∧ zaa (Kd.R (Kd.int .i64) 3 w' w.heap.size (fun k_ => some k_ ≠ (v514 : Value).ownBlock) (.slice Ao38 t509.length co38) t509) ∧ zaa (Kd.R (Kd.int .i64) 3 w' w.heap.size (fun k_ => some k_ ≠ ((.slice Ao38 t509.length co38) : Value).ownBlock) v514 t510) ∧ zaa (Below w.heap.size w w'))
        case atStart => exact ⟨(0), (by first | rfl | (simp; done) | (simp [*]; done)), H', ⟨Nat.le_refl _⟩, ⟨by (with_reducible repeat (first | apply yct | apply ycu | apply ycv)); exact HO_3.out⟩, ⟨by (with_reducible repeat (first | apply ycq | apply ycr | apply ycs)); exact HO_5.out⟩, ⟨by (with_reducible repeat (first | apply ycq | apply ycr | apply ycs)); exact HO_6.out⟩, ⟨by repeat (first | (with_reducible first | exact HB.out | apply zac | apply zab | apply zad) | exact HB.out)⟩⟩
        case round =>
         clear H'
         try clear c1
         try clear c2
         try clear c2b0
         try clear c2b1
         try clear p2
         try clear c3
         try clear c7
         try clear c11
         try clear c11b0
         try clear c11b1
         try clear c11b2
         try clear c13
         try clear c15
         try clear c26
         try clear c27
         try clear c27b0
         try clear c27b1
         try clear c27b2
         try clear c29
         try clear c33
         try clear c34
         try clear c35
         try clear c37
         try clear c37b0
         try clear p2
         obtain ⟨x12_3, rfl, HA, HK3, HO_3, HO_5, HO_6, HB⟩ := hrel
         cases gk with
         | zero => exact absurd HA.out (by simp [laws_FnSides.l1])
         | succ k3 =>
          have H := HA.out
          clear HA
          simp only [laws_FnSides.l1] at H
          by_cases c39 : x12_3 < (t510.length : Int)
          ·rw [if_pos c39] at H
           have c39b0 : decide (x12_3 < (t510.length : Int)) = true := decide_eq_true c39
           clear c39
           by_cases c40 : 0 ≤ x11_2
           ·rw [if_pos c40] at H
            have c40b0 : decide (0 ≤ x11_2) = true := decide_eq_true c40
            clear c40
            by_cases c41 : x11_2 < (t509.length : Int)
            ·rw [if_pos c41] at H
             have c41b0 : decide (x11_2 < (t509.length : Int)) = true := decide_eq_true c41
             clear c41
             by_cases c42 : 0 ≤ x12_3
             ·rw [if_pos c42] at H
              have c42b0 : decide (0 ≤ x12_3) = true := decide_eq_true c42
              clear c42
              by_cases c43 : (rd t509 x11_2) = (rd t510 x12_3)
              ·rw [if_pos c43] at H
               have c43b0 : ((rd t509 x11_2) == (rd t510 x12_3)) = true := beq_iff_eq.mpr c43
               have c43b1 : ((rd t509 x11_2) != (rd t510 x12_3)) = false := bne_eq_false_iff_eq.mpr c43
               clear c43
               obtain rfl := Option.some.inj H
               obtain ⟨Ao44, co44, eo44⟩ := Kd.R_slice HO_6.out
               subst eo44
               try go_wp2
               have n0_ := zaa.mk (ycv HO_3.out)
               have n1_ := zaa.mk (ycs HO_5.out)
               have n2_ := zaa.mk (ycs HO_6.out)
               have n3_ := zaa.mk (zad HB.out)
               clear HO_3
               clear HO_5
               clear HO_6
               clear HB
               have HO_3 := n0_
               have HO_5 := n1_
               have HO_6 := n2_
               have HB := n3_
               clear n0_ n1_ n2_ n3_
               have p530 : 0 ≤ (x11_2 : Int) := of_decide_eq_true (by assumption)
               have q530 : x11_2 < (t509.length : Int) := of_decide_eq_true (by assumption)
               obtain ⟨ad530, e530, hx530_0⟩ := Kd.at_int (Kd.R_reads' HO_5.out).2.2 x11_2 p530 q530
               cases e530
               replace p530 := eq_true p530
               replace q530 := eq_true q530
               have p531 : 0 ≤ (x12_3 : Int) := of_decide_eq_true (by assumption)
               have q531 : x12_3 < (t510.length : Int) := of_decide_eq_true (by assumption)
               obtain ⟨ad531, e531, hx531_0⟩ := Kd.at_int (Kd.R_reads' HO_6.out).2.2 x12_3 p531 q531
               cases e531
               replace p531 := eq_true p531
               replace q531 := eq_true q531
               refine start_ (n := 9) (S := fun w' => w'.cell? (ad530.add (x11_2).toNat) = some (.int .i64 (rd t509 x11_2)) ∧ w'.cell? (ad531.add (x12_3).toNat) = some (.int .i64 (rd t510 x12_3))) (ds := []) #[zf, zf, zf, zf, zf, zf, zf, zf, zf] (by kernel_rfl) rfl rfl ⟨hx530_0, hx531_0⟩ (fun hHeld => ?_); refine with_tabW laws_FnSides.tab14 laws_FnSides.bits14 (fun HT_ HW_ => ?_)
               generalize wr.drew = w45 at HO_3 HO_5 HO_6 HB hx530_0 hx531_0 hHeld ⊢
               refine zav (i := 0) (N := some 79) (v := ?_) (a' := ?_) #[zt, zf, zf, zf, zf, zf, zf, zf, zf] rfl rfl (zaw HT_.out (by kernel_rfl)) (fun _ _ _ h => h) (Or.inl ⟨by rfl, ?_⟩) ?_ ?_
               rotate_left
               ·intro w'; go_simp; with_reducible rfl
               rotate_left
               ·simp only [Act.put, yck, ycl, ycm, zar, zas]; rfl
               refine zav (i := 1) (N := some 80) (v := ?_) (a' := ?_) #[zt, zt, zf, zf, zf, zf, zf, zf, zf] rfl rfl (zaw HT_.out (by kernel_rfl)) (fun _ _ _ h => h) (Or.inl ⟨by rfl, ?_⟩) ?_ ?_
               rotate_left
               ·intro w'; go_simp; with_reducible rfl
               rotate_left
               ·simp only [Act.put, yck, ycl, ycm, zar, zas]; rfl
               refine zav (i := 2) (N := some 81) (v := ?_) (a' := ?_) #[zt, zt, zt, zf, zf, zf, zf, zf, zf] rfl rfl (zaw HT_.out (by kernel_rfl)) (fun _ _ _ h => h) (Or.inl ⟨by rfl, ?_⟩) ?_ ?_
               rotate_left
               ·intro w'; go_simp; with_reducible rfl
               rotate_left
               ·simp only [Act.put, yck, ycl, ycm, zar, zas]; rfl
               refine zav (i := 4) (N := some 83) (v := ?_) (a' := ?_) #[zt, zt, zt, zf, zt, zf, zf, zf, zf] rfl rfl (zaw HT_.out (by kernel_rfl)) (fun _ _ _ h => h) (Or.inl ⟨by rfl, ?_⟩) ?_ ?_
               rotate_left
               ·intro w'; go_simp; with_reducible rfl
               rotate_left
               ·simp only [Act.put, yck, ycl, ycm, zar, zas]; rfl
               refine zav (i := 5) (N := some 84) (v := ?_) (a' := ?_) #[zt, zt, zt, zf, zt, zt, zf, zf, zf] rfl rfl (zaw HT_.out (by kernel_rfl)) (fun _ _ _ h => h) (Or.inl ⟨by rfl, ?_⟩) ?_ ?_
               rotate_left
               ·intro w'; go_simp; with_reducible rfl
               rotate_left
               ·simp only [Act.put, yck, ycl, ycm, zar, zas]; rfl
               refine zav (i := 6) (N := some 85) (v := ?_) (a' := ?_) #[zt, zt, zt, zf, zt, zt, zt, zf, zf] rfl rfl (zaw HT_.out (by kernel_rfl)) (fun _ _ _ h => h) (Or.inl ⟨by rfl, ?_⟩) ?_ ?_
               rotate_left
               ·intro w'; go_simp; with_reducible rfl
               rotate_left
               ·simp only [Act.put, yck, ycl, ycm, zar, zas]; rfl
               refine take_ (i := 3) (N := some 82) (v := ?_) (a' := ?_) #[zt, zt, zt, zt, zt, zt, zt, zf, zf] rfl rfl (zcp HT_.out HW_.out (by kernel_rfl)) (fun _ _ _ h => h) (Or.inl ⟨by rfl, ?_⟩) hHeld ?_ ?_
               rotate_left
               ·rintro w' ⟨s0, s1⟩
                go_simp
                with_reducible rfl
               rotate_left
               ·simp only [Act.put, yck, ycl, ycm, zar, zas]; rfl
               refine take_ (i := 7) (N := some 86) (v := ?_) (a' := ?_) #[zt, zt, zt, zt, zt, zt, zt, zt, zf] rfl rfl (zcp HT_.out HW_.out (by kernel_rfl)) (fun _ _ _ h => h) (Or.inl ⟨by rfl, ?_⟩) hHeld ?_ ?_
               rotate_left
               ·rintro w' ⟨s0, s1⟩
                go_simp
                with_reducible rfl
               rotate_left
               ·simp only [Act.put, yck, ycl, ycm, zar, zas]; rfl
               refine zav (i := 8) (N := some 87) (v := ?_) (a' := ?_) #[zt, zt, zt, zt, zt, zt, zt, zt, zt] rfl rfl (zaw HT_.out (by kernel_rfl)) (fun _ _ _ h => h) (Or.inl ⟨by rfl, ?_⟩) ?_ ?_
               rotate_left
               ·intro w'; go_simp; with_reducible rfl
               rotate_left
               ·simp only [Act.put, yck, ycl, ycm, zar, zas]; rfl
               refine done_ (done_of HT_.out (by kernel_rfl)) ?_
               try go_wp2
               go_ret
               exact ⟨by first | rfl | (simp [zan, zam] <;> rfl) | (simp [*, zan, zam] <;> rfl), by repeat (first | (with_reducible first | exact HB.out | apply zac | apply zab | apply zad) | exact HB.out)⟩
              ·rw [if_neg c43] at H
               have c43b0 : ((rd t509 x11_2) == (rd t510 x12_3)) = false := beq_eq_false_iff_ne.mpr c43
               have c43b1 : ((rd t509 x11_2) != (rd t510 x12_3)) = true := bne_iff_ne.mpr c43
               have H' := zaa.mk H
               clear H
               obtain ⟨Ao46, co46, eo46⟩ := Kd.R_slice HO_6.out
               subst eo46
               try go_wp2
               have n0_ := zaa.mk (ycv HO_3.out)
               have n1_ := zaa.mk (ycs HO_5.out)
               have n2_ := zaa.mk (ycs HO_6.out)
               have n3_ := zaa.mk (zad HB.out)
               clear HO_3
               clear HO_5
               clear HO_6
               clear HB
               have HO_3 := n0_
               have HO_5 := n1_
               have HO_6 := n2_
               have HB := n3_
               clear n0_ n1_ n2_ n3_
               have p530 : 0 ≤ (x11_2 : Int) := of_decide_eq_true (by assumption)
               have q530 : x11_2 < (t509.length : Int) := of_decide_eq_true (by assumption)
               obtain ⟨ad530, e530, hx530_0⟩ := Kd.at_int (Kd.R_reads' HO_5.out).2.2 x11_2 p530 q530
               cases e530
               replace p530 := eq_true p530
               replace q530 := eq_true q530
               have p531 : 0 ≤ (x12_3 : Int) := of_decide_eq_true (by assumption)
               have q531 : x12_3 < (t510.length : Int) := of_decide_eq_true (by assumption)
               obtain ⟨ad531, e531, hx531_0⟩ := Kd.at_int (Kd.R_reads' HO_6.out).2.2 x12_3 p531 q531
               cases e531
               replace p531 := eq_true p531
               replace q531 := eq_true q531
               refine start_ (n := 9) (S := fun w' => w'.cell? (ad530.add (x11_2).toNat) = some (.int .i64 (rd t509 x11_2)) ∧ w'.cell? (ad531.add (x12_3).toNat) = some (.int .i64 (rd t510 x12_3))) (ds := []) #[zf, zf, zf, zf, zf, zf, zf, zf, zf] (by kernel_rfl) rfl rfl ⟨hx530_0, hx531_0⟩ (fun hHeld => ?_); refine with_tabW laws_FnSides.tab14 laws_FnSides.bits14 (fun HT_ HW_ => ?_)
               generalize wr.drew = w47 at HO_3 HO_5 HO_6 HB hx530_0 hx531_0 hHeld ⊢
               refine zav (i := 0) (N := some 79) (v := ?_) (a' := ?_) #[zt, zf, zf, zf, zf, zf, zf, zf, zf] rfl rfl (zaw HT_.out (by kernel_rfl)) (fun _ _ _ h => h) (Or.inl ⟨by rfl, ?_⟩) ?_ ?_
               rotate_left
               ·intro w'; go_simp; with_reducible rfl
               rotate_left
               ·simp only [Act.put, yck, ycl, ycm, zar, zas]; rfl
               refine zav (i := 1) (N := some 80) (v := ?_) (a' := ?_) #[zt, zt, zf, zf, zf, zf, zf, zf, zf] rfl rfl (zaw HT_.out (by kernel_rfl)) (fun _ _ _ h => h) (Or.inl ⟨by rfl, ?_⟩) ?_ ?_
               rotate_left
               ·intro w'; go_simp; with_reducible rfl
               rotate_left
               ·simp only [Act.put, yck, ycl, ycm, zar, zas]; rfl
               refine zav (i := 2) (N := some 81) (v := ?_) (a' := ?_) #[zt, zt, zt, zf, zf, zf, zf, zf, zf] rfl rfl (zaw HT_.out (by kernel_rfl)) (fun _ _ _ h => h) (Or.inl ⟨by rfl, ?_⟩) ?_ ?_
               rotate_left
               ·intro w'; go_simp; with_reducible rfl
               rotate_left
               ·simp only [Act.put, yck, ycl, ycm, zar, zas]; rfl
               refine zav (i := 4) (N := some 83) (v := ?_) (a' := ?_) #[zt, zt, zt, zf, zt, zf, zf, zf, zf] rfl rfl (zaw HT_.out (by kernel_rfl)) (fun _ _ _ h => h) (Or.inl ⟨by rfl, ?_⟩) ?_ ?_
               rotate_left
               ·intro w'; go_simp; with_reducible rfl
               rotate_left
               ·simp only [Act.put, yck, ycl, ycm, zar, zas]; rfl
               refine zav (i := 5) (N := some 84) (v := ?_) (a' := ?_) #[zt, zt, zt, zf, zt, zt, zf, zf, zf] rfl rfl (zaw HT_.out (by kernel_rfl)) (fun _ _ _ h => h) (Or.inl ⟨by rfl, ?_⟩) ?_ ?_
               rotate_left
               ·intro w'; go_simp; with_reducible rfl
               rotate_left
               ·simp only [Act.put, yck, ycl, ycm, zar, zas]; rfl
               refine zav (i := 6) (N := some 85) (v := ?_) (a' := ?_) #[zt, zt, zt, zf, zt, zt, zt, zf, zf] rfl rfl (zaw HT_.out (by kernel_rfl)) (fun _ _ _ h => h) (Or.inl ⟨by rfl, ?_⟩) ?_ ?_
               rotate_left
               ·intro w'; go_simp; with_reducible rfl
               rotate_left
               ·simp only [Act.put, yck, ycl, ycm, zar, zas]; rfl
               refine take_ (i := 3) (N := some 82) (v := ?_) (a' := ?_) #[zt, zt, zt, zt, zt, zt, zt, zf, zf] rfl rfl (zcp HT_.out HW_.out (by kernel_rfl)) (fun _ _ _ h => h) (Or.inl ⟨by rfl, ?_⟩) hHeld ?_ ?_
               rotate_left
               ·rintro w' ⟨s0, s1⟩
                go_simp
                with_reducible rfl
               rotate_left
               ·simp only [Act.put, yck, ycl, ycm, zar, zas]; rfl
               refine take_ (i := 7) (N := some 86) (v := ?_) (a' := ?_) #[zt, zt, zt, zt, zt, zt, zt, zt, zf] rfl rfl (zcp HT_.out HW_.out (by kernel_rfl)) (fun _ _ _ h => h) (Or.inl ⟨by rfl, ?_⟩) hHeld ?_ ?_
               rotate_left
               ·rintro w' ⟨s0, s1⟩
                go_simp
                with_reducible rfl
               rotate_left
               ·simp only [Act.put, yck, ycl, ycm, zar, zas]; rfl
               refine zav (i := 8) (N := some 87) (v := ?_) (a' := ?_) #[zt, zt, zt, zt, zt, zt, zt, zt, zt] rfl rfl (zaw HT_.out (by kernel_rfl)) (fun _ _ _ h => h) (Or.inl ⟨by rfl, ?_⟩) ?_ ?_
               rotate_left
               ·intro w'; go_simp; with_reducible rfl
               rotate_left
               ·simp only [Act.put, yck, ycl, ycm, zar, zas]; rfl
               refine done_ (done_of HT_.out (by kernel_rfl)) ?_
               try go_wp2
               go_roundg k3
               case measure => have := HJ5.out; have := HK2.out; have := HK3.out; omega
               case rel => exact ⟨(wrap64 (x12_3 + 1)), (by first | rfl | (simp; done) | (simp [*]; done)), H', ⟨by have := HJ5.out; have := HK2.out; have := HK3.out; omega⟩, ⟨by (with_reducible repeat (first | apply yct | apply ycu | apply ycv)); exact HO_3.out⟩, ⟨by (with_reducible repeat (first | apply ycq | apply ycr | apply ycs)); exact HO_5.out⟩, ⟨by (with_reducible repeat (first | apply ycq | apply ycr | apply ycs)); exact HO_6.out⟩, ⟨by repeat (first | (with_reducible first | exact HB.out | apply zac | apply zab | apply zad) | exact HB.out)⟩⟩
             ·rw [if_neg c42] at H
              exact absurd H (by simp)
            ·rw [if_neg c41] at H
             exact absurd H (by simp)
           ·rw [if_neg c40] at H
            exact absurd H (by simp)
          ·rw [if_neg c39] at H
           have c39b0 : decide (x12_3 < (t510.length : Int)) = false := decide_eq_false c39
           clear c39
           by_cases c48 : x11_2 > 0
           ·rw [if_pos c48] at H
            have c48b0 : decide (0 < x11_2) = true := decide_eq_true c48
            clear c48
            obtain ⟨ji49, hji49⟩ : ∃ j_ : Int, (wrap64 (x11_2 - 1)) = j_ := ⟨_, rfl⟩
            replace H : (if 0 ≤ (ji49) then (if (ji49) < (t509.length : Int) then (if 0 ≤ x11_2 then (if x11_2 < (t509.length : Int) then ((impl_NearIs.f t505 (rd t509 (ji49)) (rd t509 x11_2)).bind fun t534 => (if t534 = true then (laws_FnSides.l0 k3 t505 t509 t510 (wrap64 (x11_2 + 1))) else (some false))) else (none)) else (none)) else (none)) else (none)) = some r := by first | (rw [hji49] at H; exact H) | (simp only [hji49] at H ⊢; exact H)
            have hji49w : (IntKind.i64.wrap (x11_2 - 1)) = ji49 := (zar _).trans hji49
            by_cases c50 : 0 ≤ (ji49)
            ·rw [if_pos c50] at H
             have c50b0 : decide (0 ≤ (ji49)) = true := decide_eq_true c50
             clear c50
             by_cases c51 : (ji49) < (t509.length : Int)
             ·rw [if_pos c51] at H
              have c51b0 : decide ((ji49) < (t509.length : Int)) = true := decide_eq_true c51
              clear c51
              by_cases c52 : 0 ≤ x11_2
              ·rw [if_pos c52] at H
               have c52b0 : decide (0 ≤ x11_2) = true := decide_eq_true c52
               clear c52
               by_cases c53 : x11_2 < (t509.length : Int)
               ·rw [if_pos c53] at H
                have c53b0 : decide (x11_2 < (t509.length : Int)) = true := decide_eq_true c53
                clear c53
                replace H := ycp.mp H
                obtain ⟨t534, A540, H⟩ := H
                replace H : (if t534 = true then (laws_FnSides.l0 k3 t505 t509 t510 (wrap64 (x11_2 + 1))) else (some false)) = some r := H
                have A54 := zaa.mk A540
                clear A540
                by_cases c55 : t534 = true
                ·subst c55
                 have H1 : (laws_FnSides.l0 k3 t505 t509 t510 (wrap64 (x11_2 + 1))) = some r := by rw [if_pos rfl] at H; exact H
                 clear H
                 have H := H1
                 clear H1
                 have H' := zaa.mk H
                 clear H
                 obtain ⟨Ao56, co56, eo56⟩ := Kd.R_slice HO_6.out
                 subst eo56
                 try go_wp2
                 have n0_ := zaa.mk (ycv HO_3.out)
                 have n1_ := zaa.mk (ycs HO_5.out)
                 have n2_ := zaa.mk (ycs HO_6.out)
                 have n3_ := zaa.mk (zad HB.out)
                 clear HO_3
                 clear HO_5
                 clear HO_6
                 clear HB
                 have HO_3 := n0_
                 have HO_5 := n1_
                 have HO_6 := n2_
                 have HB := n3_
                 clear n0_ n1_ n2_ n3_
                 have p532 : 0 ≤ ((ji49) : Int) := of_decide_eq_true (by assumption)
                 have q532 : (ji49) < (t509.length : Int) := of_decide_eq_true (by assumption)
                 obtain ⟨ad532, e532, hx532_0⟩ := Kd.at_int (Kd.R_reads' HO_5.out).2.2 (ji49) p532 q532
                 cases e532
                 replace p532 := eq_true p532
                 replace q532 := eq_true q532
                 have p533 : 0 ≤ (x11_2 : Int) := of_decide_eq_true (by assumption)
                 have q533 : x11_2 < (t509.length : Int) := of_decide_eq_true (by assumption)
                 obtain ⟨ad533, e533, hx533_0⟩ := Kd.at_int (Kd.R_reads' HO_5.out).2.2 x11_2 p533 q533
                 obtain rfl : ad532 = ad533 := (by injection e533)
                 replace p533 := eq_true p533
                 replace q533 := eq_true q533
                 refine start_ (n := 16) (S := fun w' => w'.cell? (ad532.add ((ji49)).toNat) = some (.int .i64 (rd t509 (ji49))) ∧ w'.cell? (ad532.add (x11_2).toNat) = some (.int .i64 (rd t509 x11_2))) (ds := []) #[zf, zf, zf, zf, zf, zf, zf, zf, zf, zf, zf, zf, zf, zf, zf, zf] (by kernel_rfl) rfl rfl ⟨hx532_0, hx533_0⟩ (fun hHeld => ?_); refine with_tabW laws_FnSides.tab16 laws_FnSides.bits16 (fun HT_ HW_ => ?_)
                 generalize wr.drew = w57 at HO_3 HO_5 HO_6 HB hx532_0 hx533_0 hHeld ⊢
                 refine zav (i := 0) (N := some 88) (v := ?_) (a' := ?_) #[zt, zf, zf, zf, zf, zf, zf, zf, zf, zf, zf, zf, zf, zf, zf, zf] rfl rfl (zaw HT_.out (by kernel_rfl)) (fun _ _ _ h => h) (Or.inl ⟨by rfl, ?_⟩) ?_ ?_
                 rotate_left
                 ·intro w'; go_simp; with_reducible rfl
                 rotate_left
                 ·simp only [Act.put, yck, ycl, ycm, zar, zas]; rfl
                 refine zav (i := 1) (N := some 89) (v := ?_) (a' := ?_) #[zt, zt, zf, zf, zf, zf, zf, zf, zf, zf, zf, zf, zf, zf, zf, zf] rfl rfl (zaw HT_.out (by kernel_rfl)) (fun _ _ _ h => h) (Or.inl ⟨by rfl, ?_⟩) ?_ ?_
                 rotate_left
                 ·intro w'; go_simp; with_reducible rfl
                 rotate_left
                 ·simp only [Act.put, yck, ycl, ycm, zar, zas]; rfl
                 refine zav (i := 2) (N := some 90) (v := ?_) (a' := ?_) #[zt, zt, zt, zf, zf, zf, zf, zf, zf, zf, zf, zf, zf, zf, zf, zf] rfl rfl (zaw HT_.out (by kernel_rfl)) (fun _ _ _ h => h) (Or.inl ⟨by rfl, ?_⟩) ?_ ?_
                 rotate_left
                 ·intro w'; go_simp; with_reducible rfl
                 rotate_left
                 ·simp only [Act.put, yck, ycl, ycm, zar, zas]; rfl
                 refine zav (i := 3) (N := some 91) (v := ?_) (a' := ?_) #[zt, zt, zt, zt, zf, zf, zf, zf, zf, zf, zf, zf, zf, zf, zf, zf] rfl rfl (zaw HT_.out (by kernel_rfl)) (fun _ _ _ h => h) (Or.inl ⟨by rfl, ?_⟩) ?_ ?_
                 rotate_left
                 ·intro w'; go_simp; with_reducible rfl
                 rotate_left
                 ·simp only [Act.put, yck, ycl, ycm, zar, zas]; rfl
                 refine zav (i := 4) (N := some 92) (v := ?_) (a' := ?_) #[zt, zt, zt, zt, zt, zf, zf, zf, zf, zf, zf, zf, zf, zf, zf, zf] rfl rfl (zaw HT_.out (by kernel_rfl)) (fun _ _ _ h => h) (Or.inl ⟨by rfl, ?_⟩) ?_ ?_
                 rotate_left
                 ·intro w'; go_simp; with_reducible rfl
                 rotate_left
                 ·simp only [Act.put, yck, ycl, ycm, zar, zas]; rfl
                 refine zav (i := 5) (N := some 93) (v := ?_) (a' := ?_) #[zt, zt, zt, zt, zt, zt, zf, zf, zf, zf, zf, zf, zf, zf, zf, zf] rfl rfl (zaw HT_.out (by kernel_rfl)) (fun _ _ _ h => h) (Or.inl ⟨by rfl, ?_⟩) ?_ ?_
                 rotate_left
                 ·intro w'; go_simp; with_reducible rfl
                 rotate_left
                 ·simp only [Act.put, yck, ycl, ycm, zar, zas]; rfl
                 refine zav (i := 6) (N := some 94) (v := ?_) (a' := ?_) #[zt, zt, zt, zt, zt, zt, zt, zf, zf, zf, zf, zf, zf, zf, zf, zf] rfl rfl (zaw HT_.out (by kernel_rfl)) (fun _ _ _ h => h) (Or.inl ⟨by rfl, ?_⟩) ?_ ?_
                 rotate_left
                 ·intro w'; go_simp; with_reducible rfl
                 rotate_left
                 ·simp only [Act.put, yck, ycl, ycm, zar, zas]; rfl
                 refine zav (i := 7) (N := some 95) (v := ?_) (a' := ?_) #[zt, zt, zt, zt, zt, zt, zt, zt, zf, zf, zf, zf, zf, zf, zf, zf] rfl rfl (zaw HT_.out (by kernel_rfl)) (fun _ _ _ h => h) (Or.inl ⟨by rfl, ?_⟩) ?_ ?_
                 rotate_left
                 ·intro w'; go_simp; with_reducible rfl
                 rotate_left
                 ·simp only [Act.put, yck, ycl, ycm, zar, zas]; rfl
                 refine zav (i := 9) (N := some 97) (v := ?_) (a' := ?_) #[zt, zt, zt, zt, zt, zt, zt, zt, zf, zt, zf, zf, zf, zf, zf, zf] rfl rfl (zaw HT_.out (by kernel_rfl)) (fun _ _ _ h => h) (Or.inl ⟨by rfl, ?_⟩) ?_ ?_
                 rotate_left
                 ·intro w'; go_simp; with_reducible rfl
                 rotate_left
                 ·simp only [Act.put, yck, ycl, ycm, zar, zas]; rfl
                 refine zav (i := 10) (N := some 98) (v := ?_) (a' := ?_) #[zt, zt, zt, zt, zt, zt, zt, zt, zf, zt, zt, zf, zf, zf, zf, zf] rfl rfl (zaw HT_.out (by kernel_rfl)) (fun _ _ _ h => h) (Or.inl ⟨by rfl, ?_⟩) ?_ ?_
                 rotate_left
                 ·intro w'; go_simp; with_reducible rfl
                 rotate_left
                 ·simp only [Act.put, yck, ycl, ycm, zar, zas]; rfl
                 refine zav (i := 11) (N := some 99) (v := ?_) (a' := ?_) #[zt, zt, zt, zt, zt, zt, zt, zt, zf, zt, zt, zt, zf, zf, zf, zf] rfl rfl (zaw HT_.out (by kernel_rfl)) (fun _ _ _ h => h) (Or.inl ⟨by rfl, ?_⟩) ?_ ?_
                 rotate_left
                 ·intro w'; go_simp; with_reducible rfl
                 rotate_left
                 ·simp only [Act.put, yck, ycl, ycm, zar, zas]; rfl
                 refine take_ (i := 8) (N := some 96) (v := ?_) (a' := ?_) #[zt, zt, zt, zt, zt, zt, zt, zt, zt, zt, zt, zt, zf, zf, zf, zf] rfl rfl (zcp HT_.out HW_.out (by kernel_rfl)) (fun _ _ _ h => h) (Or.inl ⟨by rfl, ?_⟩) hHeld ?_ ?_
                 rotate_left
                 ·rintro w' ⟨s0, s1⟩
                  go_simp
                  with_reducible rfl
                 rotate_left
                 ·simp only [Act.put, yck, ycl, ycm, zar, zas]; rfl
                 refine take_ (i := 12) (N := some 100) (v := ?_) (a' := ?_) #[zt, zt, zt, zt, zt, zt, zt, zt, zt, zt, zt, zt, zt, zf, zf, zf] rfl rfl (zcp HT_.out HW_.out (by kernel_rfl)) (fun _ _ _ h => h) (Or.inl ⟨by rfl, ?_⟩) hHeld ?_ ?_
                 rotate_left
                 ·rintro w' ⟨s0, s1⟩
                  go_simp
                  with_reducible rfl
                 rotate_left
                 ·simp only [Act.put, yck, ycl, ycm, zar, zas]; rfl
                 refine one_ (i := 13) (N := some 101) #[zt, zt, zt, zt, zt, zt, zt, zt, zt, zt, zt, zt, zt, zt, zf, zf] rfl rfl (one_of HT_.out (by kernel_rfl)) (by decide) (fun K hK => ?_)
                 refine goes_ Try.func20 (by kernel_rfl) rfl #[.slice Ao8 t505.length co8, .int .i64 (rd t509 (ji49)), .int .i64 (rd t509 x11_2)] (by rfl) rfl rfl (by (try simp only [List.map_toArray, List.map_cons, List.map_nil]); first | done | (simp only [hji49]; rfl) | rfl | (simp only [List.length_drop, List.length_take]; rfl)) ?_
                 with_reducible refine (impl_NearIs.calls _ _ t505 (rd t509 (ji49)) (rd t509 x11_2) true _ ?side1 ?side2 A54.out).mono ?_
                 (case side1 => repeat (first | exact (Kd.V_reads' HO_3.out).2.2 | (with_reducible refine ycw ?_ _) | (with_reducible refine ycx ?_ _) | (with_reducible refine ycy ?_)))
                 (case side2 => exact (Kd.V_reads' HO_3.out).2.1)
                 rintro e w58 ⟨rfl, hb⟩
                 have HS0_ := (hb.cell (World.block_lt_of_cell? _ _ (hHeld.1))).trans (hHeld.1)
                 have HS1_ := (hb.cell (World.block_lt_of_cell? _ _ (hHeld.2))).trans (hHeld.2)
                 refine ⟨_, rfl, ?_⟩
                 have n0_ := zaa.mk (Kd.V_below (by (with_reducible repeat (first | apply yct | apply ycu | apply ycv)); exact HO_3.out) hb)
                 have n1_ := zaa.mk (Kd.R_below (by (with_reducible repeat (first | apply ycq | apply ycr | apply ycs)); exact HO_5.out) hb)
                 have n2_ := zaa.mk (Kd.R_below (by (with_reducible repeat (first | apply ycq | apply ycr | apply ycs)); exact HO_6.out) hb)
                 have n3_ := zaa.mk (zag (by repeat (first | (with_reducible first | exact HB.out | apply zac | apply zab | apply zad) | exact HB.out)) hb)
                 clear HO_3
                 clear HO_5
                 clear HO_6
                 clear HB
                 have HO_3 := n0_
                 have HO_5 := n1_
                 have HO_6 := n2_
                 have HB := n3_
                 clear n0_ n1_ n2_ n3_
                 (try clear hb)
                 (try clear hb2)
                 (try clear hk)
                 (try clear hi)
                 refine hK.out _ _ ⟨HS0_, HS1_⟩ (fun hHeld => ?_)
                 clear hK K
                 refine norm_ (a' := ?_) ?_ ?_
                 rotate_left
                 ·show Act.put _ (some 101) _ = _
                  simp only [Act.put, yck, ycl, ycm, zar, zas]
                  rfl
                 refine zav (i := 14) (N := some 102) (v := ?_) (a' := ?_) #[zt, zt, zt, zt, zt, zt, zt, zt, zt, zt, zt, zt, zt, zt, zt, zf] rfl rfl (zaw HT_.out (by kernel_rfl)) (fun _ _ _ h => h) (Or.inl ⟨by rfl, ?_⟩) ?_ ?_
                 rotate_left
                 ·intro w'; go_simp; with_reducible rfl
                 rotate_left
                 ·simp only [Act.put, yck, ycl, ycm, zar, zas]; rfl
                 refine zav (i := 15) (N := some 103) (v := ?_) (a' := ?_) #[zt, zt, zt, zt, zt, zt, zt, zt, zt, zt, zt, zt, zt, zt, zt, zt] rfl rfl (zaw HT_.out (by kernel_rfl)) (fun _ _ _ h => h) (Or.inl ⟨by rfl, ?_⟩) ?_ ?_
                 rotate_left
                 ·intro w'; go_simp; with_reducible rfl
                 rotate_left
                 ·simp only [Act.put, yck, ycl, ycm, zar, zas]; rfl
                 refine done_ (done_of HT_.out (by kernel_rfl)) ?_
                 try go_wp2
                 go_roundg k3
                 case measure => have := HJ5.out; have := HK2.out; have := HK3.out; omega
                 case rel => exact ⟨(wrap64 (x11_2 + 1)), (by first | rfl | (simp; done) | (simp [*]; done)), H', ⟨by have := HJ5.out; have := HK2.out; have := HK3.out; omega⟩, ⟨by (with_reducible repeat (first | apply yct | apply ycu | apply ycv)); exact HO_3.out⟩, ⟨by (with_reducible repeat (first | apply ycq | apply ycr | apply ycs)); exact HO_5.out⟩, ⟨by (with_reducible repeat (first | apply ycq | apply ycr | apply ycs)); exact HO_6.out⟩, ⟨by repeat (first | (with_reducible first | exact HB.out | apply zac | apply zab | apply zad) | exact HB.out)⟩⟩
                ·replace c55 := Bool.eq_false_iff.mpr c55
                 subst c55
                 have H1 : (some false) = some r := by rw [if_neg (show ¬ (false = true) by decide)] at H; exact H
                 clear H
                 have H := H1
                 clear H1
                 obtain rfl := Option.some.inj H
                 obtain ⟨Ao59, co59, eo59⟩ := Kd.R_slice HO_6.out
                 subst eo59
                 try go_wp2
                 have n0_ := zaa.mk (ycv HO_3.out)
                 have n1_ := zaa.mk (ycs HO_5.out)
                 have n2_ := zaa.mk (ycs HO_6.out)
                 have n3_ := zaa.mk (zad HB.out)
                 clear HO_3
                 clear HO_5
                 clear HO_6
                 clear HB
                 have HO_3 := n0_
                 have HO_5 := n1_
                 have HO_6 := n2_
                 have HB := n3_
                 clear n0_ n1_ n2_ n3_
                 have p532 : 0 ≤ ((ji49) : Int) := of_decide_eq_true (by assumption)
                 have q532 : (ji49) < (t509.length : Int) := of_decide_eq_true (by assumption)
                 obtain ⟨ad532, e532, hx532_0⟩ := Kd.at_int (Kd.R_reads' HO_5.out).2.2 (ji49) p532 q532
                 cases e532
                 replace p532 := eq_true p532
                 replace q532 := eq_true q532
                 have p533 : 0 ≤ (x11_2 : Int) := of_decide_eq_true (by assumption)
                 have q533 : x11_2 < (t509.length : Int) := of_decide_eq_true (by assumption)
                 obtain ⟨ad533, e533, hx533_0⟩ := Kd.at_int (Kd.R_reads' HO_5.out).2.2 x11_2 p533 q533
                 obtain rfl : ad532 = ad533 := (by injection e533)
                 replace p533 := eq_true p533
                 replace q533 := eq_true q533
                 refine start_ (n := 16) (S := fun w' => w'.cell? (ad532.add ((ji49)).toNat) = some (.int .i64 (rd t509 (ji49))) ∧ w'.cell? (ad532.add (x11_2).toNat) = some (.int .i64 (rd t509 x11_2))) (ds := []) #[zf, zf, zf, zf, zf, zf, zf, zf, zf, zf, zf, zf, zf, zf, zf, zf] (by kernel_rfl) rfl rfl ⟨hx532_0, hx533_0⟩ (fun hHeld => ?_); refine with_tabW laws_FnSides.tab16 laws_FnSides.bits16 (fun HT_ HW_ => ?_)
                 generalize wr.drew = w60 at HO_3 HO_5 HO_6 HB hx532_0 hx533_0 hHeld ⊢
                 refine zav (i := 0) (N := some 88) (v := ?_) (a' := ?_) #[zt, zf, zf, zf, zf, zf, zf, zf, zf, zf, zf, zf, zf, zf, zf, zf] rfl rfl (zaw HT_.out (by kernel_rfl)) (fun _ _ _ h => h) (Or.inl ⟨by rfl, ?_⟩) ?_ ?_
                 rotate_left
                 ·intro w'; go_simp; with_reducible rfl
                 rotate_left
                 ·simp only [Act.put, yck, ycl, ycm, zar, zas]; rfl
                 refine zav (i := 1) (N := some 89) (v := ?_) (a' := ?_) #[zt, zt, zf, zf, zf, zf, zf, zf, zf, zf, zf, zf, zf, zf, zf, zf] rfl rfl (zaw HT_.out (by kernel_rfl)) (fun _ _ _ h => h) (Or.inl ⟨by rfl, ?_⟩) ?_ ?_
                 rotate_left
                 ·intro w'; go_simp; with_reducible rfl
                 rotate_left
                 ·simp only [Act.put, yck, ycl, ycm, zar, zas]; rfl
                 refine zav (i := 2) (N := some 90) (v := ?_) (a' := ?_) #[zt, zt, zt, zf, zf, zf, zf, zf, zf, zf, zf, zf, zf, zf, zf, zf] rfl rfl (zaw HT_.out (by kernel_rfl)) (fun _ _ _ h => h) (Or.inl ⟨by rfl, ?_⟩) ?_ ?_
                 rotate_left
                 ·intro w'; go_simp; with_reducible rfl
                 rotate_left
                 ·simp only [Act.put, yck, ycl, ycm, zar, zas]; rfl
                 refine zav (i := 3) (N := some 91) (v := ?_) (a' := ?_) #[zt, zt, zt, zt, zf, zf, zf, zf, zf, zf, zf, zf, zf, zf, zf, zf] rfl rfl (zaw HT_.out (by kernel_rfl)) (fun _ _ _ h => h) (Or.inl ⟨by rfl, ?_⟩) ?_ ?_
                 rotate_left
                 ·intro w'; go_simp; with_reducible rfl
                 rotate_left
                 ·simp only [Act.put, yck, ycl, ycm, zar, zas]; rfl
                 refine zav (i := 4) (N := some 92) (v := ?_) (a' := ?_) #[zt, zt, zt, zt, zt, zf, zf, zf, zf, zf, zf, zf, zf, zf, zf, zf] rfl rfl (zaw HT_.out (by kernel_rfl)) (fun _ _ _ h => h) (Or.inl ⟨by rfl, ?_⟩) ?_ ?_
                 rotate_left
                 ·intro w'; go_simp; with_reducible rfl
                 rotate_left
                 ·simp only [Act.put, yck, ycl, ycm, zar, zas]; rfl
                 refine zav (i := 5) (N := some 93) (v := ?_) (a' := ?_) #[zt, zt, zt, zt, zt, zt, zf, zf, zf, zf, zf, zf, zf, zf, zf, zf] rfl rfl (zaw HT_.out (by kernel_rfl)) (fun _ _ _ h => h) (Or.inl ⟨by rfl, ?_⟩) ?_ ?_
                 rotate_left
                 ·intro w'; go_simp; with_reducible rfl
                 rotate_left
                 ·simp only [Act.put, yck, ycl, ycm, zar, zas]; rfl
                 refine zav (i := 6) (N := some 94) (v := ?_) (a' := ?_) #[zt, zt, zt, zt, zt, zt, zt, zf, zf, zf, zf, zf, zf, zf, zf, zf] rfl rfl (zaw HT_.out (by kernel_rfl)) (fun _ _ _ h => h) (Or.inl ⟨by rfl, ?_⟩) ?_ ?_
                 rotate_left
                 ·intro w'; go_simp; with_reducible rfl
                 rotate_left
                 ·simp only [Act.put, yck, ycl, ycm, zar, zas]; rfl
                 refine zav (i := 7) (N := some 95) (v := ?_) (a' := ?_) #[zt, zt, zt, zt, zt, zt, zt, zt, zf, zf, zf, zf, zf, zf, zf, zf] rfl rfl (zaw HT_.out (by kernel_rfl)) (fun _ _ _ h => h) (Or.inl ⟨by rfl, ?_⟩) ?_ ?_
                 rotate_left
                 ·intro w'; go_simp; with_reducible rfl
                 rotate_left
                 ·simp only [Act.put, yck, ycl, ycm, zar, zas]; rfl
                 refine zav (i := 9) (N := some 97) (v := ?_) (a' := ?_) #[zt, zt, zt, zt, zt, zt, zt, zt, zf, zt, zf, zf, zf, zf, zf, zf] rfl rfl (zaw HT_.out (by kernel_rfl)) (fun _ _ _ h => h) (Or.inl ⟨by rfl, ?_⟩) ?_ ?_
                 rotate_left
                 ·intro w'; go_simp; with_reducible rfl
                 rotate_left
                 ·simp only [Act.put, yck, ycl, ycm, zar, zas]; rfl
                 refine zav (i := 10) (N := some 98) (v := ?_) (a' := ?_) #[zt, zt, zt, zt, zt, zt, zt, zt, zf, zt, zt, zf, zf, zf, zf, zf] rfl rfl (zaw HT_.out (by kernel_rfl)) (fun _ _ _ h => h) (Or.inl ⟨by rfl, ?_⟩) ?_ ?_
                 rotate_left
                 ·intro w'; go_simp; with_reducible rfl
                 rotate_left
                 ·simp only [Act.put, yck, ycl, ycm, zar, zas]; rfl
                 refine zav (i := 11) (N := some 99) (v := ?_) (a' := ?_) #[zt, zt, zt, zt, zt, zt, zt, zt, zf, zt, zt, zt, zf, zf, zf, zf] rfl rfl (zaw HT_.out (by kernel_rfl)) (fun _ _ _ h => h) (Or.inl ⟨by rfl, ?_⟩) ?_ ?_
                 rotate_left
                 ·intro w'; go_simp; with_reducible rfl
                 rotate_left
                 ·simp only [Act.put, yck, ycl, ycm, zar, zas]; rfl
                 refine take_ (i := 8) (N := some 96) (v := ?_) (a' := ?_) #[zt, zt, zt, zt, zt, zt, zt, zt, zt, zt, zt, zt, zf, zf, zf, zf] rfl rfl (zcp HT_.out HW_.out (by kernel_rfl)) (fun _ _ _ h => h) (Or.inl ⟨by rfl, ?_⟩) hHeld ?_ ?_
                 rotate_left
                 ·rintro w' ⟨s0, s1⟩
                  go_simp
                  with_reducible rfl
                 rotate_left
                 ·simp only [Act.put, yck, ycl, ycm, zar, zas]; rfl
                 refine take_ (i := 12) (N := some 100) (v := ?_) (a' := ?_) #[zt, zt, zt, zt, zt, zt, zt, zt, zt, zt, zt, zt, zt, zf, zf, zf] rfl rfl (zcp HT_.out HW_.out (by kernel_rfl)) (fun _ _ _ h => h) (Or.inl ⟨by rfl, ?_⟩) hHeld ?_ ?_
                 rotate_left
                 ·rintro w' ⟨s0, s1⟩
                  go_simp
                  with_reducible rfl
                 rotate_left
                 ·simp only [Act.put, yck, ycl, ycm, zar, zas]; rfl
                 refine one_ (i := 13) (N := some 101) #[zt, zt, zt, zt, zt, zt, zt, zt, zt, zt, zt, zt, zt, zt, zf, zf] rfl rfl (one_of HT_.out (by kernel_rfl)) (by decide) (fun K hK => ?_)
                 refine goes_ Try.func20 (by kernel_rfl) rfl #[.slice Ao8 t505.length co8, .int .i64 (rd t509 (ji49)), .int .i64 (rd t509 x11_2)] (by rfl) rfl rfl (by (try simp only [List.map_toArray, List.map_cons, List.map_nil]); first | done | (simp only [hji49]; rfl) | rfl | (simp only [List.length_drop, List.length_take]; rfl)) ?_
                 with_reducible refine (impl_NearIs.calls _ _ t505 (rd t509 (ji49)) (rd t509 x11_2) false _ ?side1 ?side2 A54.out).mono ?_
                 (case side1 => repeat (first | exact (Kd.V_reads' HO_3.out).2.2 | (with_reducible refine ycw ?_ _) | (with_reducible refine ycx ?_ _) | (with_reducible refine ycy ?_)))
                 (case side2 => exact (Kd.V_reads' HO_3.out).2.1)
                 rintro e w61 ⟨rfl, hb⟩
                 have HS0_ := (hb.cell (World.block_lt_of_cell? _ _ (hHeld.1))).trans (hHeld.1)
                 have HS1_ := (hb.cell (World.block_lt_of_cell? _ _ (hHeld.2))).trans (hHeld.2)
                 refine ⟨_, rfl, ?_⟩
                 have n0_ := zaa.mk (Kd.V_below (by (with_reducible repeat (first | apply yct | apply ycu | apply ycv)); exact HO_3.out) hb)
                 have n1_ := zaa.mk (Kd.R_below (by (with_reducible repeat (first | apply ycq | apply ycr | apply ycs)); exact HO_5.out) hb)
                 have n2_ := zaa.mk (Kd.R_below (by (with_reducible repeat (first | apply ycq | apply ycr | apply ycs)); exact HO_6.out) hb)
                 have n3_ := zaa.mk (zag (by repeat (first | (with_reducible first | exact HB.out | apply zac | apply zab | apply zad) | exact HB.out)) hb)
                 clear HO_3
                 clear HO_5
                 clear HO_6
                 clear HB
                 have HO_3 := n0_
                 have HO_5 := n1_
                 have HO_6 := n2_
                 have HB := n3_
                 clear n0_ n1_ n2_ n3_
                 (try clear hb)
                 (try clear hb2)
                 (try clear hk)
                 (try clear hi)
                 refine hK.out _ _ ⟨HS0_, HS1_⟩ (fun hHeld => ?_)
                 clear hK K
                 refine norm_ (a' := ?_) ?_ ?_
                 rotate_left
                 ·show Act.put _ (some 101) _ = _
                  simp only [Act.put, yck, ycl, ycm, zar, zas]
                  rfl
                 refine zav (i := 14) (N := some 102) (v := ?_) (a' := ?_) #[zt, zt, zt, zt, zt, zt, zt, zt, zt, zt, zt, zt, zt, zt, zt, zf] rfl rfl (zaw HT_.out (by kernel_rfl)) (fun _ _ _ h => h) (Or.inl ⟨by rfl, ?_⟩) ?_ ?_
                 rotate_left
                 ·intro w'; go_simp; with_reducible rfl
                 rotate_left
                 ·simp only [Act.put, yck, ycl, ycm, zar, zas]; rfl
                 refine zav (i := 15) (N := some 103) (v := ?_) (a' := ?_) #[zt, zt, zt, zt, zt, zt, zt, zt, zt, zt, zt, zt, zt, zt, zt, zt] rfl rfl (zaw HT_.out (by kernel_rfl)) (fun _ _ _ h => h) (Or.inl ⟨by rfl, ?_⟩) ?_ ?_
                 rotate_left
                 ·intro w'; go_simp; with_reducible rfl
                 rotate_left
                 ·simp only [Act.put, yck, ycl, ycm, zar, zas]; rfl
                 refine done_ (done_of HT_.out (by kernel_rfl)) ?_
                 try go_wp2
                 go_ret
                 exact ⟨by first | rfl | (simp [zan, zam] <;> rfl) | (simp only [← hji49]; first | rfl | (simp [zan, zam] <;> rfl)) | (simp [*, zan, zam] <;> rfl), by repeat (first | (with_reducible first | exact HB.out | apply zac | apply zab | apply zad) | exact HB.out)⟩
               ·rw [if_neg c53] at H
                exact absurd H (by simp)
              ·rw [if_neg c52] at H
               exact absurd H (by simp)
             ·rw [if_neg c51] at H
              exact absurd H (by simp)
            ·rw [if_neg c50] at H
             exact absurd H (by simp)
           ·rw [if_neg c48] at H
            have c48b0 : decide (0 < x11_2) = false := decide_eq_false c48
            clear c48
            have H' := zaa.mk H
            clear H
            obtain ⟨Ao62, co62, eo62⟩ := Kd.R_slice HO_6.out
            subst eo62
            try go_wp2
            have n0_ := zaa.mk (ycv HO_3.out)
            have n1_ := zaa.mk (ycs HO_5.out)
            have n2_ := zaa.mk (ycs HO_6.out)
            have n3_ := zaa.mk (zad HB.out)
            clear HO_3
            clear HO_5
            clear HO_6
            clear HB
            have HO_3 := n0_
            have HO_5 := n1_
            have HO_6 := n2_
            have HB := n3_
            clear n0_ n1_ n2_ n3_
            refine start_ (n := 16) (S := fun w' => True) (ds := []) #[zf, zf, zf, zf, zf, zf, zf, zf, zf, zf, zf, zf, zf, zf, zf, zf] (by kernel_rfl) rfl rfl trivial (fun hHeld => ?_); refine with_tabW laws_FnSides.tab16 laws_FnSides.bits16 (fun HT_ HW_ => ?_)
            generalize wr.drew = w63 at HO_3 HO_5 HO_6 HB hHeld ⊢
            refine zav (i := 0) (N := some 88) (v := ?_) (a' := ?_) #[zt, zf, zf, zf, zf, zf, zf, zf, zf, zf, zf, zf, zf, zf, zf, zf] rfl rfl (zaw HT_.out (by kernel_rfl)) (fun _ _ _ h => h) (Or.inl ⟨by rfl, ?_⟩) ?_ ?_
            rotate_left
            ·intro w'; go_simp; with_reducible rfl
            rotate_left
            ·simp only [Act.put, yck, ycl, ycm, zar, zas]; rfl
            refine zav (i := 1) (N := some 89) (v := ?_) (a' := ?_) #[zt, zt, zf, zf, zf, zf, zf, zf, zf, zf, zf, zf, zf, zf, zf, zf] rfl rfl (zaw HT_.out (by kernel_rfl)) (fun _ _ _ h => h) (Or.inl ⟨by rfl, ?_⟩) ?_ ?_
            rotate_left
            ·intro w'; go_simp; with_reducible rfl
            rotate_left
            ·simp only [Act.put, yck, ycl, ycm, zar, zas]; rfl
            refine zav (i := 2) (N := some 90) (v := ?_) (a' := ?_) #[zt, zt, zt, zf, zf, zf, zf, zf, zf, zf, zf, zf, zf, zf, zf, zf] rfl rfl (zaw HT_.out (by kernel_rfl)) (fun _ _ _ h => h) (Or.inl ⟨by rfl, ?_⟩) ?_ ?_
            rotate_left
            ·intro w'; go_simp; with_reducible rfl
            rotate_left
            ·simp only [Act.put, yck, ycl, ycm, zar, zas]; rfl
            refine zav (i := 3) (N := some 91) (v := undef) (a' := ?_) #[zt, zt, zt, zt, zf, zf, zf, zf, zf, zf, zf, zf, zf, zf, zf, zf] rfl rfl (zaw HT_.out (by kernel_rfl)) (fun _ _ _ h => h) (Or.inr ⟨by rfl, rfl⟩) ?_ ?_
            rotate_left
            ·simp only [Act.put, yck, ycl, ycm, zar, zas]; rfl
            refine zav (i := 4) (N := some 92) (v := undef) (a' := ?_) #[zt, zt, zt, zt, zt, zf, zf, zf, zf, zf, zf, zf, zf, zf, zf, zf] rfl rfl (zaw HT_.out (by kernel_rfl)) (fun _ _ _ h => h) (Or.inr ⟨by rfl, rfl⟩) ?_ ?_
            rotate_left
            ·simp only [Act.put, yck, ycl, ycm, zar, zas]; rfl
            refine zav (i := 5) (N := some 93) (v := undef) (a' := ?_) #[zt, zt, zt, zt, zt, zt, zf, zf, zf, zf, zf, zf, zf, zf, zf, zf] rfl rfl (zaw HT_.out (by kernel_rfl)) (fun _ _ _ h => h) (Or.inr ⟨by rfl, rfl⟩) ?_ ?_
            rotate_left
            ·simp only [Act.put, yck, ycl, ycm, zar, zas]; rfl
            refine zav (i := 6) (N := some 94) (v := undef) (a' := ?_) #[zt, zt, zt, zt, zt, zt, zt, zf, zf, zf, zf, zf, zf, zf, zf, zf] rfl rfl (zaw HT_.out (by kernel_rfl)) (fun _ _ _ h => h) (Or.inr ⟨by rfl, rfl⟩) ?_ ?_
            rotate_left
            ·simp only [Act.put, yck, ycl, ycm, zar, zas]; rfl
            refine zav (i := 7) (N := some 95) (v := undef) (a' := ?_) #[zt, zt, zt, zt, zt, zt, zt, zt, zf, zf, zf, zf, zf, zf, zf, zf] rfl rfl (zaw HT_.out (by kernel_rfl)) (fun _ _ _ h => h) (Or.inr ⟨by rfl, rfl⟩) ?_ ?_
            rotate_left
            ·simp only [Act.put, yck, ycl, ycm, zar, zas]; rfl
            refine zav (i := 8) (N := some 96) (v := undef) (a' := ?_) #[zt, zt, zt, zt, zt, zt, zt, zt, zt, zf, zf, zf, zf, zf, zf, zf] rfl rfl (zaw HT_.out (by kernel_rfl)) (fun _ _ _ h => h) (Or.inr ⟨by rfl, rfl⟩) ?_ ?_
            rotate_left
            ·simp only [Act.put, yck, ycl, ycm, zar, zas]; rfl
            refine zav (i := 9) (N := some 97) (v := undef) (a' := ?_) #[zt, zt, zt, zt, zt, zt, zt, zt, zt, zt, zf, zf, zf, zf, zf, zf] rfl rfl (zaw HT_.out (by kernel_rfl)) (fun _ _ _ h => h) (Or.inr ⟨by rfl, rfl⟩) ?_ ?_
            rotate_left
            ·simp only [Act.put, yck, ycl, ycm, zar, zas]; rfl
            refine zav (i := 10) (N := some 98) (v := undef) (a' := ?_) #[zt, zt, zt, zt, zt, zt, zt, zt, zt, zt, zt, zf, zf, zf, zf, zf] rfl rfl (zaw HT_.out (by kernel_rfl)) (fun _ _ _ h => h) (Or.inr ⟨by rfl, rfl⟩) ?_ ?_
            rotate_left
            ·simp only [Act.put, yck, ycl, ycm, zar, zas]; rfl
            refine zav (i := 11) (N := some 99) (v := undef) (a' := ?_) #[zt, zt, zt, zt, zt, zt, zt, zt, zt, zt, zt, zt, zf, zf, zf, zf] rfl rfl (zaw HT_.out (by kernel_rfl)) (fun _ _ _ h => h) (Or.inr ⟨by rfl, rfl⟩) ?_ ?_
            rotate_left
            ·simp only [Act.put, yck, ycl, ycm, zar, zas]; rfl
            refine zav (i := 12) (N := some 100) (v := undef) (a' := ?_) #[zt, zt, zt, zt, zt, zt, zt, zt, zt, zt, zt, zt, zt, zf, zf, zf] rfl rfl (zaw HT_.out (by kernel_rfl)) (fun _ _ _ h => h) (Or.inr ⟨by rfl, rfl⟩) ?_ ?_
            rotate_left
            ·simp only [Act.put, yck, ycl, ycm, zar, zas]; rfl
            refine zav (i := 13) (N := some 101) (v := undef) (a' := ?_) #[zt, zt, zt, zt, zt, zt, zt, zt, zt, zt, zt, zt, zt, zt, zf, zf] rfl rfl (zaw HT_.out (by kernel_rfl)) (fun _ _ _ h => h) (Or.inr ⟨by rfl, rfl⟩) ?_ ?_
            rotate_left
            ·simp only [Act.put, yck, ycl, ycm, zar, zas]; rfl
            refine zav (i := 14) (N := some 102) (v := undef) (a' := ?_) #[zt, zt, zt, zt, zt, zt, zt, zt, zt, zt, zt, zt, zt, zt, zt, zf] rfl rfl (zaw HT_.out (by kernel_rfl)) (fun _ _ _ h => h) (Or.inr ⟨by rfl, rfl⟩) ?_ ?_
            rotate_left
            ·simp only [Act.put, yck, ycl, ycm, zar, zas]; rfl
            refine zav (i := 15) (N := some 103) (v := ?_) (a' := ?_) #[zt, zt, zt, zt, zt, zt, zt, zt, zt, zt, zt, zt, zt, zt, zt, zt] rfl rfl (zaw HT_.out (by kernel_rfl)) (fun _ _ _ h => h) (Or.inl ⟨by rfl, ?_⟩) ?_ ?_
            rotate_left
            ·intro w'; go_simp; with_reducible rfl
            rotate_left
            ·simp only [Act.put, yck, ycl, ycm, zar, zas]; rfl
            refine done_ (done_of HT_.out (by kernel_rfl)) ?_
            try go_wp2
            go_roundg k3
            case measure => have := HJ5.out; have := HK2.out; have := HK3.out; omega
            case rel => exact ⟨(wrap64 (x11_2 + 1)), (by first | rfl | (simp; done) | (simp [*]; done)), H', ⟨by have := HJ5.out; have := HK2.out; have := HK3.out; omega⟩, ⟨by (with_reducible repeat (first | apply yct | apply ycu | apply ycv)); exact HO_3.out⟩, ⟨by (with_reducible repeat (first | apply ycq | apply ycr | apply ycs)); exact HO_5.out⟩, ⟨by (with_reducible repeat (first | apply ycq | apply ycr | apply ycs)); exact HO_6.out⟩, ⟨by repeat (first | (with_reducible first | exact HB.out | apply zac | apply zab | apply zad) | exact HB.out)⟩⟩
       ·rw [if_neg c37] at H
        have c37b0 : decide (x11_2 < (t509.length : Int)) = false := decide_eq_false c37
        clear c37
        by_cases c64 : (t509.length : Int) > 0
        ·rw [if_pos c64] at H
         have c64b0 : decide (0 < (t509.length : Int)) = true := decide_eq_true c64
         have c64b1 : decide (0 < t509.length) = true := decide_eq_true (by omega)
         clear c64
         by_cases c65 : (t510.length : Int) > 0
         ·rw [if_pos c65] at H
          have c65b0 : decide (0 < (t510.length : Int)) = true := decide_eq_true c65
          have c65b1 : decide (0 < t510.length) = true := decide_eq_true (by omega)
          clear c65
          by_cases c66 : 0 < (t509.length : Int)
          ·rw [if_pos c66] at H
           have c66b0 : decide (0 < (t509.length : Int)) = true := decide_eq_true c66
           have c66b1 : decide (0 < t509.length) = true := decide_eq_true (by omega)
           clear c66
           by_cases c67 : 0 < (t510.length : Int)
           ·rw [if_pos c67] at H
            have c67b0 : decide (0 < (t510.length : Int)) = true := decide_eq_true c67
            have c67b1 : decide (0 < t510.length) = true := decide_eq_true (by omega)
            clear c67
            replace H := ycp.mp H
            obtain ⟨t529, A680, H⟩ := H
            replace H : (some t529) = some r := H
            have A68 := zaa.mk A680
            clear A680
            obtain rfl := Option.some.inj H
            obtain ⟨Ao69, co69, eo69⟩ := Kd.R_slice HO_5.out
            subst eo69
            try go_wp2
            have n0_ := zaa.mk (ycv HO_3.out)
            have n1_ := zaa.mk (ycs HO_5.out)
            have n2_ := zaa.mk (ycs HO_6.out)
            have n3_ := zaa.mk (zad HB.out)
            clear HO_3
            clear HO_5
            clear HO_6
            clear HB
            have HO_3 := n0_
            have HO_5 := n1_
            have HO_6 := n2_
            have HB := n3_
            clear n0_ n1_ n2_ n3_
            obtain ⟨Ao71, co71, eo71⟩ := Kd.R_slice HO_6.out
            (first | subst eo71 | (injection eo71 with f1_ f2_ f3_; have f4_ := f1_.symm; have f5_ := f3_.symm; clear f1_ f2_ f3_; subst f4_; subst f5_))
            have p527 : 0 ≤ (0 : Int) := (by omega)
            have q527 : 0 < (t509.length : Int) := of_decide_eq_true (by assumption)
            obtain ⟨ad527, e527, hx527_0⟩ := Kd.at_int (Kd.R_reads' HO_5.out).2.2 0 p527 q527
            cases e527
            have qi527 : (0 < t509.length) = True := eq_true (by omega)
            (try rw [show ((0 : Int)).toNat = 0 from rfl] at hx527_0)
            (try rw [Addr.add_zero'] at hx527_0)
            replace p527 := eq_true p527
            replace q527 := eq_true q527
            have p528 : 0 ≤ (0 : Int) := (by omega)
            have q528 : 0 < (t510.length : Int) := of_decide_eq_true (by assumption)
            obtain ⟨ad528, e528, hx528_0⟩ := Kd.at_int (Kd.R_reads' HO_6.out).2.2 0 p528 q528
            cases e528
            have qi528 : (0 < t510.length) = True := eq_true (by omega)
            (try rw [show ((0 : Int)).toNat = 0 from rfl] at hx528_0)
            (try rw [Addr.add_zero'] at hx528_0)
            replace p528 := eq_true p528
            replace q528 := eq_true q528
            refine start_ (n := 19) (S := fun w' => w'.cell? ad527 = some (.int .i64 (rd t509 0)) ∧ w'.cell? ad528 = some (.int .i64 (rd t510 0))) (ds := []) #[zf, zf, zf, zf, zf, zf, zf, zf, zf, zf, zf, zf, zf, zf, zf, zf, zf, zf, zf] (by kernel_rfl) rfl rfl ⟨hx527_0, hx528_0⟩ (fun hHeld => ?_); refine with_tabW laws_FnSides.tab18 laws_FnSides.bits18 (fun HT_ HW_ => ?_)
            generalize wr.drew = w70 at HO_3 HO_5 HO_6 HB hx527_0 hx528_0 hHeld ⊢
            refine zav (i := 0) (N := some 104) (v := ?_) (a' := ?_) #[zt, zf, zf, zf, zf, zf, zf, zf, zf, zf, zf, zf, zf, zf, zf, zf, zf, zf, zf] rfl rfl (zaw HT_.out (by kernel_rfl)) (fun _ _ _ h => h) (Or.inl ⟨by rfl, ?_⟩) ?_ ?_
            rotate_left
            ·intro w'; go_simp; with_reducible rfl
            rotate_left
            ·simp only [Act.put, yck, ycl, ycm, zar, zas]; rfl
            refine zav (i := 1) (N := some 105) (v := ?_) (a' := ?_) #[zt, zt, zf, zf, zf, zf, zf, zf, zf, zf, zf, zf, zf, zf, zf, zf, zf, zf, zf] rfl rfl (zaw HT_.out (by kernel_rfl)) (fun _ _ _ h => h) (Or.inl ⟨by rfl, ?_⟩) ?_ ?_
            rotate_left
            ·intro w'; go_simp; with_reducible rfl
            rotate_left
            ·simp only [Act.put, yck, ycl, ycm, zar, zas]; rfl
            refine zav (i := 2) (N := some 106) (v := ?_) (a' := ?_) #[zt, zt, zt, zf, zf, zf, zf, zf, zf, zf, zf, zf, zf, zf, zf, zf, zf, zf, zf] rfl rfl (zaw HT_.out (by kernel_rfl)) (fun _ _ _ h => h) (Or.inl ⟨by rfl, ?_⟩) ?_ ?_
            rotate_left
            ·intro w'; go_simp; with_reducible rfl
            rotate_left
            ·simp only [Act.put, yck, ycl, ycm, zar, zas]; rfl
            refine zav (i := 3) (N := some 107) (v := ?_) (a' := ?_) #[zt, zt, zt, zt, zf, zf, zf, zf, zf, zf, zf, zf, zf, zf, zf, zf, zf, zf, zf] rfl rfl (zaw HT_.out (by kernel_rfl)) (fun _ _ _ h => h) (Or.inl ⟨by rfl, ?_⟩) ?_ ?_
            rotate_left
            ·intro w'; go_simp; with_reducible rfl
            rotate_left
            ·simp only [Act.put, yck, ycl, ycm, zar, zas]; rfl
            refine zav (i := 4) (N := some 108) (v := ?_) (a' := ?_) #[zt, zt, zt, zt, zt, zf, zf, zf, zf, zf, zf, zf, zf, zf, zf, zf, zf, zf, zf] rfl rfl (zaw HT_.out (by kernel_rfl)) (fun _ _ _ h => h) (Or.inl ⟨by rfl, ?_⟩) ?_ ?_
            rotate_left
            ·intro w'; go_simp; with_reducible rfl
            rotate_left
            ·simp only [Act.put, yck, ycl, ycm, zar, zas]; rfl
            refine zav (i := 5) (N := some 109) (v := ?_) (a' := ?_) #[zt, zt, zt, zt, zt, zt, zf, zf, zf, zf, zf, zf, zf, zf, zf, zf, zf, zf, zf] rfl rfl (zaw HT_.out (by kernel_rfl)) (fun _ _ _ h => h) (Or.inl ⟨by rfl, ?_⟩) ?_ ?_
            rotate_left
            ·intro w'; go_simp; with_reducible rfl
            rotate_left
            ·simp only [Act.put, yck, ycl, ycm, zar, zas]; rfl
            refine zav (i := 6) (N := some 110) (v := ?_) (a' := ?_) #[zt, zt, zt, zt, zt, zt, zt, zf, zf, zf, zf, zf, zf, zf, zf, zf, zf, zf, zf] rfl rfl (zaw HT_.out (by kernel_rfl)) (fun _ _ _ h => h) (Or.inl ⟨by rfl, ?_⟩) ?_ ?_
            rotate_left
            ·intro w'; go_simp; with_reducible rfl
            rotate_left
            ·simp only [Act.put, yck, ycl, ycm, zar, zas]; rfl
            refine zav (i := 7) (N := some 111) (v := ?_) (a' := ?_) #[zt, zt, zt, zt, zt, zt, zt, zt, zf, zf, zf, zf, zf, zf, zf, zf, zf, zf, zf] rfl rfl (zaw HT_.out (by kernel_rfl)) (fun _ _ _ h => h) (Or.inl ⟨by rfl, ?_⟩) ?_ ?_
            rotate_left
            ·intro w'; go_simp; with_reducible rfl
            rotate_left
            ·simp only [Act.put, yck, ycl, ycm, zar, zas]; rfl
            refine zav (i := 8) (N := some 112) (v := ?_) (a' := ?_) #[zt, zt, zt, zt, zt, zt, zt, zt, zt, zf, zf, zf, zf, zf, zf, zf, zf, zf, zf] rfl rfl (zaw HT_.out (by kernel_rfl)) (fun _ _ _ h => h) (Or.inl ⟨by rfl, ?_⟩) ?_ ?_
            rotate_left
            ·intro w'; go_simp; with_reducible rfl
            rotate_left
            ·simp only [Act.put, yck, ycl, ycm, zar, zas]; rfl
            refine zav (i := 9) (N := some 113) (v := ?_) (a' := ?_) #[zt, zt, zt, zt, zt, zt, zt, zt, zt, zt, zf, zf, zf, zf, zf, zf, zf, zf, zf] rfl rfl (zaw HT_.out (by kernel_rfl)) (fun _ _ _ h => h) (Or.inl ⟨by rfl, ?_⟩) ?_ ?_
            rotate_left
            ·intro w'; go_simp; with_reducible rfl
            rotate_left
            ·simp only [Act.put, yck, ycl, ycm, zar, zas]; rfl
            refine zav (i := 10) (N := some 114) (v := ?_) (a' := ?_) #[zt, zt, zt, zt, zt, zt, zt, zt, zt, zt, zt, zf, zf, zf, zf, zf, zf, zf, zf] rfl rfl (zaw HT_.out (by kernel_rfl)) (fun _ _ _ h => h) (Or.inl ⟨by rfl, ?_⟩) ?_ ?_
            rotate_left
            ·intro w'; go_simp; with_reducible rfl
            rotate_left
            ·simp only [Act.put, yck, ycl, ycm, zar, zas]; rfl
            refine zav (i := 11) (N := some 115) (v := ?_) (a' := ?_) #[zt, zt, zt, zt, zt, zt, zt, zt, zt, zt, zt, zt, zf, zf, zf, zf, zf, zf, zf] rfl rfl (zaw HT_.out (by kernel_rfl)) (fun _ _ _ h => h) (Or.inl ⟨by rfl, ?_⟩) ?_ ?_
            rotate_left
            ·intro w'; go_simp; with_reducible rfl
            rotate_left
            ·simp only [Act.put, yck, ycl, ycm, zar, zas]; rfl
            refine zav (i := 13) (N := some 117) (v := ?_) (a' := ?_) #[zt, zt, zt, zt, zt, zt, zt, zt, zt, zt, zt, zt, zf, zt, zf, zf, zf, zf, zf] rfl rfl (zaw HT_.out (by kernel_rfl)) (fun _ _ _ h => h) (Or.inl ⟨by rfl, ?_⟩) ?_ ?_
            rotate_left
            ·intro w'; go_simp; with_reducible rfl
            rotate_left
            ·simp only [Act.put, yck, ycl, ycm, zar, zas]; rfl
            refine zav (i := 14) (N := some 118) (v := ?_) (a' := ?_) #[zt, zt, zt, zt, zt, zt, zt, zt, zt, zt, zt, zt, zf, zt, zt, zf, zf, zf, zf] rfl rfl (zaw HT_.out (by kernel_rfl)) (fun _ _ _ h => h) (Or.inl ⟨by rfl, ?_⟩) ?_ ?_
            rotate_left
            ·intro w'; go_simp; with_reducible rfl
            rotate_left
            ·simp only [Act.put, yck, ycl, ycm, zar, zas]; rfl
            refine take_ (i := 12) (N := some 116) (v := ?_) (a' := ?_) #[zt, zt, zt, zt, zt, zt, zt, zt, zt, zt, zt, zt, zt, zt, zt, zf, zf, zf, zf] rfl rfl (zcp HT_.out HW_.out (by kernel_rfl)) (fun _ _ _ h => h) (Or.inl ⟨by rfl, ?_⟩) hHeld ?_ ?_
            rotate_left
            ·rintro w' ⟨s0, s1⟩
             go_simp
             with_reducible rfl
            rotate_left
            ·simp only [Act.put, yck, ycl, ycm, zar, zas]; rfl
            refine take_ (i := 15) (N := some 119) (v := ?_) (a' := ?_) #[zt, zt, zt, zt, zt, zt, zt, zt, zt, zt, zt, zt, zt, zt, zt, zt, zf, zf, zf] rfl rfl (zcp HT_.out HW_.out (by kernel_rfl)) (fun _ _ _ h => h) (Or.inl ⟨by rfl, ?_⟩) hHeld ?_ ?_
            rotate_left
            ·rintro w' ⟨s0, s1⟩
             go_simp
             with_reducible rfl
            rotate_left
            ·simp only [Act.put, yck, ycl, ycm, zar, zas]; rfl
            refine one_ (i := 16) (N := some 120) #[zt, zt, zt, zt, zt, zt, zt, zt, zt, zt, zt, zt, zt, zt, zt, zt, zt, zf, zf] rfl rfl (one_of HT_.out (by kernel_rfl)) (by decide) (fun K hK => ?_)
            refine goes_ Try.func20 (by kernel_rfl) rfl #[.slice Ao8 t505.length co8, .int .i64 (rd t509 0), .int .i64 (rd t510 0)] (by rfl) rfl rfl (by (try simp only [List.map_toArray, List.map_cons, List.map_nil]); first | done | rfl | (simp only [List.length_drop, List.length_take]; rfl)) ?_
            with_reducible refine (impl_NearIs.calls _ _ t505 (rd t509 0) (rd t510 0) t529 _ ?side1 ?side2 A68.out).mono ?_
            (case side1 => repeat (first | exact (Kd.V_reads' HO_3.out).2.2 | (with_reducible refine ycw ?_ _) | (with_reducible refine ycx ?_ _) | (with_reducible refine ycy ?_)))
            (case side2 => exact (Kd.V_reads' HO_3.out).2.1)
            rintro e w72 ⟨rfl, hb⟩
            have HS0_ := (hb.cell (World.block_lt_of_cell? _ _ (hHeld.1))).trans (hHeld.1)
            have HS1_ := (hb.cell (World.block_lt_of_cell? _ _ (hHeld.2))).trans (hHeld.2)
            refine ⟨_, rfl, ?_⟩
            have n0_ := zaa.mk (Kd.V_below (by (with_reducible repeat (first | apply yct | apply ycu | apply ycv)); exact HO_3.out) hb)
            have n1_ := zaa.mk (Kd.R_below (by (with_reducible repeat (first | apply ycq | apply ycr | apply ycs)); exact HO_5.out) hb)
            have n2_ := zaa.mk (Kd.R_below (by (with_reducible repeat (first | apply ycq | apply ycr | apply ycs)); exact HO_6.out) hb)
            have n3_ := zaa.mk (zag (by repeat (first | (with_reducible first | exact HB.out | apply zac | apply zab | apply zad) | exact HB.out)) hb)
            clear HO_3
            clear HO_5
            clear HO_6
            clear HB
            have HO_3 := n0_
            have HO_5 := n1_
            have HO_6 := n2_
            have HB := n3_
            clear n0_ n1_ n2_ n3_
            (try clear hb)
            (try clear hb2)
            (try clear hk)
            (try clear hi)
            refine hK.out _ _ ⟨HS0_, HS1_⟩ (fun hHeld => ?_)
            clear hK K
            refine norm_ (a' := ?_) ?_ ?_
            rotate_left
            ·show Act.put _ (some 120) _ = _
             simp only [Act.put, yck, ycl, ycm, zar, zas]
             rfl
            refine zav (i := 17) (N := some 121) (v := ?_) (a' := ?_) #[zt, zt, zt, zt, zt, zt, zt, zt, zt, zt, zt, zt, zt, zt, zt, zt, zt, zt, zf] rfl rfl (zaw HT_.out (by kernel_rfl)) (fun _ _ _ h => h) (Or.inl ⟨by rfl, ?_⟩) ?_ ?_
            rotate_left
            ·intro w'; go_simp; with_reducible rfl
            rotate_left
            ·simp only [Act.put, yck, ycl, ycm, zar, zas]; rfl
            refine zav (i := 18) (N := some 2) (v := ?_) (a' := ?_) #[zt, zt, zt, zt, zt, zt, zt, zt, zt, zt, zt, zt, zt, zt, zt, zt, zt, zt, zt] rfl rfl (zaw HT_.out (by kernel_rfl)) (fun _ _ _ h => h) (Or.inl ⟨by rfl, ?_⟩) ?_ ?_
            rotate_left
            ·intro w'; go_simp; with_reducible rfl
            rotate_left
            ·simp only [Act.put, yck, ycl, ycm, zar, zas]; rfl
            refine done_ (done_of HT_.out (by kernel_rfl)) ?_
            try go_wp2
            go_ret
            exact ⟨by first | rfl | (simp [zan, zam] <;> rfl) | (simp [*, zan, zam] <;> rfl), by repeat (first | (with_reducible first | exact HB.out | apply zac | apply zab | apply zad) | exact HB.out)⟩
           ·rw [if_neg c67] at H
            exact absurd H (by simp)
          ·rw [if_neg c66] at H
           exact absurd H (by simp)
         ·rw [if_neg c65] at H
          have c65b0 : decide (0 < (t510.length : Int)) = false := decide_eq_false c65
          have c65b1 : decide (0 < t510.length) = false := decide_eq_false (by omega)
          clear c65
          obtain rfl := Option.some.inj H
          obtain ⟨Ao73, co73, eo73⟩ := Kd.R_slice HO_5.out
          subst eo73
          try go_wp2
          have n0_ := zaa.mk (ycv HO_3.out)
          have n1_ := zaa.mk (ycs HO_5.out)
          have n2_ := zaa.mk (ycs HO_6.out)
          have n3_ := zaa.mk (zad HB.out)
          clear HO_3
          clear HO_5
          clear HO_6
          clear HB
          have HO_3 := n0_
          have HO_5 := n1_
          have HO_6 := n2_
          have HB := n3_
          clear n0_ n1_ n2_ n3_
          obtain ⟨Ao75, co75, eo75⟩ := Kd.R_slice HO_6.out
          (first | subst eo75 | (injection eo75 with f1_ f2_ f3_; have f4_ := f1_.symm; have f5_ := f3_.symm; clear f1_ f2_ f3_; subst f4_; subst f5_))
          refine start_ (n := 19) (S := fun w' => True) (ds := []) #[zf, zf, zf, zf, zf, zf, zf, zf, zf, zf, zf, zf, zf, zf, zf, zf, zf, zf, zf] (by kernel_rfl) rfl rfl trivial (fun hHeld => ?_); refine with_tabW laws_FnSides.tab18 laws_FnSides.bits18 (fun HT_ HW_ => ?_)
          generalize wr.drew = w74 at HO_3 HO_5 HO_6 HB hHeld ⊢
          refine zav (i := 0) (N := some 104) (v := ?_) (a' := ?_) #[zt, zf, zf, zf, zf, zf, zf, zf, zf, zf, zf, zf, zf, zf, zf, zf, zf, zf, zf] rfl rfl (zaw HT_.out (by kernel_rfl)) (fun _ _ _ h => h) (Or.inl ⟨by rfl, ?_⟩) ?_ ?_
          rotate_left
          ·intro w'; go_simp; with_reducible rfl
          rotate_left
          ·simp only [Act.put, yck, ycl, ycm, zar, zas]; rfl
          refine zav (i := 1) (N := some 105) (v := ?_) (a' := ?_) #[zt, zt, zf, zf, zf, zf, zf, zf, zf, zf, zf, zf, zf, zf, zf, zf, zf, zf, zf] rfl rfl (zaw HT_.out (by kernel_rfl)) (fun _ _ _ h => h) (Or.inl ⟨by rfl, ?_⟩) ?_ ?_
          rotate_left
          ·intro w'; go_simp; with_reducible rfl
          rotate_left
          ·simp only [Act.put, yck, ycl, ycm, zar, zas]; rfl
          refine zav (i := 2) (N := some 106) (v := ?_) (a' := ?_) #[zt, zt, zt, zf, zf, zf, zf, zf, zf, zf, zf, zf, zf, zf, zf, zf, zf, zf, zf] rfl rfl (zaw HT_.out (by kernel_rfl)) (fun _ _ _ h => h) (Or.inl ⟨by rfl, ?_⟩) ?_ ?_
          rotate_left
          ·intro w'; go_simp; with_reducible rfl
          rotate_left
          ·simp only [Act.put, yck, ycl, ycm, zar, zas]; rfl
          refine zav (i := 3) (N := some 107) (v := ?_) (a' := ?_) #[zt, zt, zt, zt, zf, zf, zf, zf, zf, zf, zf, zf, zf, zf, zf, zf, zf, zf, zf] rfl rfl (zaw HT_.out (by kernel_rfl)) (fun _ _ _ h => h) (Or.inl ⟨by rfl, ?_⟩) ?_ ?_
          rotate_left
          ·intro w'; go_simp; with_reducible rfl
          rotate_left
          ·simp only [Act.put, yck, ycl, ycm, zar, zas]; rfl
          refine zav (i := 4) (N := some 108) (v := ?_) (a' := ?_) #[zt, zt, zt, zt, zt, zf, zf, zf, zf, zf, zf, zf, zf, zf, zf, zf, zf, zf, zf] rfl rfl (zaw HT_.out (by kernel_rfl)) (fun _ _ _ h => h) (Or.inl ⟨by rfl, ?_⟩) ?_ ?_
          rotate_left
          ·intro w'; go_simp; with_reducible rfl
          rotate_left
          ·simp only [Act.put, yck, ycl, ycm, zar, zas]; rfl
          refine zav (i := 5) (N := some 109) (v := ?_) (a' := ?_) #[zt, zt, zt, zt, zt, zt, zf, zf, zf, zf, zf, zf, zf, zf, zf, zf, zf, zf, zf] rfl rfl (zaw HT_.out (by kernel_rfl)) (fun _ _ _ h => h) (Or.inl ⟨by rfl, ?_⟩) ?_ ?_
          rotate_left
          ·intro w'; go_simp; with_reducible rfl
          rotate_left
          ·simp only [Act.put, yck, ycl, ycm, zar, zas]; rfl
          refine zav (i := 6) (N := some 110) (v := ?_) (a' := ?_) #[zt, zt, zt, zt, zt, zt, zt, zf, zf, zf, zf, zf, zf, zf, zf, zf, zf, zf, zf] rfl rfl (zaw HT_.out (by kernel_rfl)) (fun _ _ _ h => h) (Or.inl ⟨by rfl, ?_⟩) ?_ ?_
          rotate_left
          ·intro w'; go_simp; with_reducible rfl
          rotate_left
          ·simp only [Act.put, yck, ycl, ycm, zar, zas]; rfl
          refine zav (i := 7) (N := some 111) (v := ?_) (a' := ?_) #[zt, zt, zt, zt, zt, zt, zt, zt, zf, zf, zf, zf, zf, zf, zf, zf, zf, zf, zf] rfl rfl (zaw HT_.out (by kernel_rfl)) (fun _ _ _ h => h) (Or.inl ⟨by rfl, ?_⟩) ?_ ?_
          rotate_left
          ·intro w'; go_simp; with_reducible rfl
          rotate_left
          ·simp only [Act.put, yck, ycl, ycm, zar, zas]; rfl
          refine zav (i := 8) (N := some 112) (v := ?_) (a' := ?_) #[zt, zt, zt, zt, zt, zt, zt, zt, zt, zf, zf, zf, zf, zf, zf, zf, zf, zf, zf] rfl rfl (zaw HT_.out (by kernel_rfl)) (fun _ _ _ h => h) (Or.inl ⟨by rfl, ?_⟩) ?_ ?_
          rotate_left
          ·intro w'; go_simp; with_reducible rfl
          rotate_left
          ·simp only [Act.put, yck, ycl, ycm, zar, zas]; rfl
          refine zav (i := 9) (N := some 113) (v := undef) (a' := ?_) #[zt, zt, zt, zt, zt, zt, zt, zt, zt, zt, zf, zf, zf, zf, zf, zf, zf, zf, zf] rfl rfl (zaw HT_.out (by kernel_rfl)) (fun _ _ _ h => h) (Or.inr ⟨by rfl, rfl⟩) ?_ ?_
          rotate_left
          ·simp only [Act.put, yck, ycl, ycm, zar, zas]; rfl
          refine zav (i := 10) (N := some 114) (v := undef) (a' := ?_) #[zt, zt, zt, zt, zt, zt, zt, zt, zt, zt, zt, zf, zf, zf, zf, zf, zf, zf, zf] rfl rfl (zaw HT_.out (by kernel_rfl)) (fun _ _ _ h => h) (Or.inr ⟨by rfl, rfl⟩) ?_ ?_
          rotate_left
          ·simp only [Act.put, yck, ycl, ycm, zar, zas]; rfl
          refine zav (i := 11) (N := some 115) (v := undef) (a' := ?_) #[zt, zt, zt, zt, zt, zt, zt, zt, zt, zt, zt, zt, zf, zf, zf, zf, zf, zf, zf] rfl rfl (zaw HT_.out (by kernel_rfl)) (fun _ _ _ h => h) (Or.inr ⟨by rfl, rfl⟩) ?_ ?_
          rotate_left
          ·simp only [Act.put, yck, ycl, ycm, zar, zas]; rfl
          refine zav (i := 12) (N := some 116) (v := undef) (a' := ?_) #[zt, zt, zt, zt, zt, zt, zt, zt, zt, zt, zt, zt, zt, zf, zf, zf, zf, zf, zf] rfl rfl (zaw HT_.out (by kernel_rfl)) (fun _ _ _ h => h) (Or.inr ⟨by rfl, rfl⟩) ?_ ?_
          rotate_left
          ·simp only [Act.put, yck, ycl, ycm, zar, zas]; rfl
          refine zav (i := 13) (N := some 117) (v := undef) (a' := ?_) #[zt, zt, zt, zt, zt, zt, zt, zt, zt, zt, zt, zt, zt, zt, zf, zf, zf, zf, zf] rfl rfl (zaw HT_.out (by kernel_rfl)) (fun _ _ _ h => h) (Or.inr ⟨by rfl, rfl⟩) ?_ ?_
          rotate_left
          ·simp only [Act.put, yck, ycl, ycm, zar, zas]; rfl
          refine zav (i := 14) (N := some 118) (v := undef) (a' := ?_) #[zt, zt, zt, zt, zt, zt, zt, zt, zt, zt, zt, zt, zt, zt, zt, zf, zf, zf, zf] rfl rfl (zaw HT_.out (by kernel_rfl)) (fun _ _ _ h => h) (Or.inr ⟨by rfl, rfl⟩) ?_ ?_
          rotate_left
          ·simp only [Act.put, yck, ycl, ycm, zar, zas]; rfl
          refine zav (i := 15) (N := some 119) (v := undef) (a' := ?_) #[zt, zt, zt, zt, zt, zt, zt, zt, zt, zt, zt, zt, zt, zt, zt, zt, zf, zf, zf] rfl rfl (zaw HT_.out (by kernel_rfl)) (fun _ _ _ h => h) (Or.inr ⟨by rfl, rfl⟩) ?_ ?_
          rotate_left
          ·simp only [Act.put, yck, ycl, ycm, zar, zas]; rfl
          refine zav (i := 16) (N := some 120) (v := undef) (a' := ?_) #[zt, zt, zt, zt, zt, zt, zt, zt, zt, zt, zt, zt, zt, zt, zt, zt, zt, zf, zf] rfl rfl (zaw HT_.out (by kernel_rfl)) (fun _ _ _ h => h) (Or.inr ⟨by rfl, rfl⟩) ?_ ?_
          rotate_left
          ·simp only [Act.put, yck, ycl, ycm, zar, zas]; rfl
          refine zav (i := 17) (N := some 121) (v := ?_) (a' := ?_) #[zt, zt, zt, zt, zt, zt, zt, zt, zt, zt, zt, zt, zt, zt, zt, zt, zt, zt, zf] rfl rfl (zaw HT_.out (by kernel_rfl)) (fun _ _ _ h => h) (Or.inl ⟨by rfl, ?_⟩) ?_ ?_
          rotate_left
          ·intro w'; go_simp; with_reducible rfl
          rotate_left
          ·simp only [Act.put, yck, ycl, ycm, zar, zas]; rfl
          refine zav (i := 18) (N := some 2) (v := ?_) (a' := ?_) #[zt, zt, zt, zt, zt, zt, zt, zt, zt, zt, zt, zt, zt, zt, zt, zt, zt, zt, zt] rfl rfl (zaw HT_.out (by kernel_rfl)) (fun _ _ _ h => h) (Or.inl ⟨by rfl, ?_⟩) ?_ ?_
          rotate_left
          ·intro w'; go_simp; with_reducible rfl
          rotate_left
          ·simp only [Act.put, yck, ycl, ycm, zar, zas]; rfl
          refine done_ (done_of HT_.out (by kernel_rfl)) ?_
          try go_wp2
          go_ret
          exact ⟨by first | rfl | (simp [zan, zam] <;> rfl) | (simp [*, zan, zam] <;> rfl), by repeat (first | (with_reducible first | exact HB.out | apply zac | apply zab | apply zad) | exact HB.out)⟩
        ·rw [if_neg c64] at H
         have c64b0 : decide (0 < (t509.length : Int)) = false := decide_eq_false c64
         have c64b1 : decide (0 < t509.length) = false := decide_eq_false (by omega)
         clear c64
         obtain rfl := Option.some.inj H
         obtain ⟨Ao76, co76, eo76⟩ := Kd.R_slice HO_5.out
         subst eo76
         try go_wp2
         have n0_ := zaa.mk (ycv HO_3.out)
         have n1_ := zaa.mk (ycs HO_5.out)
         have n2_ := zaa.mk (ycs HO_6.out)
         have n3_ := zaa.mk (zad HB.out)
         clear HO_3
         clear HO_5
         clear HO_6
         clear HB
         have HO_3 := n0_
         have HO_5 := n1_
         have HO_6 := n2_
         have HB := n3_
         clear n0_ n1_ n2_ n3_
         refine start_ (n := 19) (S := fun w' => True) (ds := []) #[zf, zf, zf, zf, zf, zf, zf, zf, zf, zf, zf, zf, zf, zf, zf, zf, zf, zf, zf] (by kernel_rfl) rfl rfl trivial (fun hHeld => ?_); refine with_tabW laws_FnSides.tab18 laws_FnSides.bits18 (fun HT_ HW_ => ?_)
         generalize wr.drew = w77 at HO_3 HO_5 HO_6 HB hHeld ⊢
         refine zav (i := 0) (N := some 104) (v := ?_) (a' := ?_) #[zt, zf, zf, zf, zf, zf, zf, zf, zf, zf, zf, zf, zf, zf, zf, zf, zf, zf, zf] rfl rfl (zaw HT_.out (by kernel_rfl)) (fun _ _ _ h => h) (Or.inl ⟨by rfl, ?_⟩) ?_ ?_
         rotate_left
         ·intro w'; go_simp; with_reducible rfl
         rotate_left
         ·simp only [Act.put, yck, ycl, ycm, zar, zas]; rfl
         refine zav (i := 1) (N := some 105) (v := ?_) (a' := ?_) #[zt, zt, zf, zf, zf, zf, zf, zf, zf, zf, zf, zf, zf, zf, zf, zf, zf, zf, zf] rfl rfl (zaw HT_.out (by kernel_rfl)) (fun _ _ _ h => h) (Or.inl ⟨by rfl, ?_⟩) ?_ ?_
         rotate_left
         ·intro w'; go_simp; with_reducible rfl
         rotate_left
         ·simp only [Act.put, yck, ycl, ycm, zar, zas]; rfl
         refine zav (i := 2) (N := some 106) (v := ?_) (a' := ?_) #[zt, zt, zt, zf, zf, zf, zf, zf, zf, zf, zf, zf, zf, zf, zf, zf, zf, zf, zf] rfl rfl (zaw HT_.out (by kernel_rfl)) (fun _ _ _ h => h) (Or.inl ⟨by rfl, ?_⟩) ?_ ?_
         rotate_left
         ·intro w'; go_simp; with_reducible rfl
         rotate_left
         ·simp only [Act.put, yck, ycl, ycm, zar, zas]; rfl
         refine zav (i := 3) (N := some 107) (v := ?_) (a' := ?_) #[zt, zt, zt, zt, zf, zf, zf, zf, zf, zf, zf, zf, zf, zf, zf, zf, zf, zf, zf] rfl rfl (zaw HT_.out (by kernel_rfl)) (fun _ _ _ h => h) (Or.inl ⟨by rfl, ?_⟩) ?_ ?_
         rotate_left
         ·intro w'; go_simp; with_reducible rfl
         rotate_left
         ·simp only [Act.put, yck, ycl, ycm, zar, zas]; rfl
         refine zav (i := 4) (N := some 108) (v := undef) (a' := ?_) #[zt, zt, zt, zt, zt, zf, zf, zf, zf, zf, zf, zf, zf, zf, zf, zf, zf, zf, zf] rfl rfl (zaw HT_.out (by kernel_rfl)) (fun _ _ _ h => h) (Or.inr ⟨by rfl, rfl⟩) ?_ ?_
         rotate_left
         ·simp only [Act.put, yck, ycl, ycm, zar, zas]; rfl
         refine zav (i := 5) (N := some 109) (v := undef) (a' := ?_) #[zt, zt, zt, zt, zt, zt, zf, zf, zf, zf, zf, zf, zf, zf, zf, zf, zf, zf, zf] rfl rfl (zaw HT_.out (by kernel_rfl)) (fun _ _ _ h => h) (Or.inr ⟨by rfl, rfl⟩) ?_ ?_
         rotate_left
         ·simp only [Act.put, yck, ycl, ycm, zar, zas]; rfl
         refine zav (i := 6) (N := some 110) (v := undef) (a' := ?_) #[zt, zt, zt, zt, zt, zt, zt, zf, zf, zf, zf, zf, zf, zf, zf, zf, zf, zf, zf] rfl rfl (zaw HT_.out (by kernel_rfl)) (fun _ _ _ h => h) (Or.inr ⟨by rfl, rfl⟩) ?_ ?_
         rotate_left
         ·simp only [Act.put, yck, ycl, ycm, zar, zas]; rfl
         refine zav (i := 7) (N := some 111) (v := ?_) (a' := ?_) #[zt, zt, zt, zt, zt, zt, zt, zt, zf, zf, zf, zf, zf, zf, zf, zf, zf, zf, zf] rfl rfl (zaw HT_.out (by kernel_rfl)) (fun _ _ _ h => h) (Or.inl ⟨by rfl, ?_⟩) ?_ ?_
         rotate_left
         ·intro w'; go_simp; with_reducible rfl
         rotate_left
         ·simp only [Act.put, yck, ycl, ycm, zar, zas]; rfl
         refine zav (i := 8) (N := some 112) (v := ?_) (a' := ?_) #[zt, zt, zt, zt, zt, zt, zt, zt, zt, zf, zf, zf, zf, zf, zf, zf, zf, zf, zf] rfl rfl (zaw HT_.out (by kernel_rfl)) (fun _ _ _ h => h) (Or.inl ⟨by rfl, ?_⟩) ?_ ?_
         rotate_left
         ·intro w'; go_simp; with_reducible rfl
         rotate_left
         ·simp only [Act.put, yck, ycl, ycm, zar, zas]; rfl
         refine zav (i := 9) (N := some 113) (v := undef) (a' := ?_) #[zt, zt, zt, zt, zt, zt, zt, zt, zt, zt, zf, zf, zf, zf, zf, zf, zf, zf, zf] rfl rfl (zaw HT_.out (by kernel_rfl)) (fun _ _ _ h => h) (Or.inr ⟨by rfl, rfl⟩) ?_ ?_
         rotate_left
         ·simp only [Act.put, yck, ycl, ycm, zar, zas]; rfl
         refine zav (i := 10) (N := some 114) (v := undef) (a' := ?_) #[zt, zt, zt, zt, zt, zt, zt, zt, zt, zt, zt, zf, zf, zf, zf, zf, zf, zf, zf] rfl rfl (zaw HT_.out (by kernel_rfl)) (fun _ _ _ h => h) (Or.inr ⟨by rfl, rfl⟩) ?_ ?_
         rotate_left
         ·simp only [Act.put, yck, ycl, ycm, zar, zas]; rfl
         refine zav (i := 11) (N := some 115) (v := undef) (a' := ?_) #[zt, zt, zt, zt, zt, zt, zt, zt, zt, zt, zt, zt, zf, zf, zf, zf, zf, zf, zf] rfl rfl (zaw HT_.out (by kernel_rfl)) (fun _ _ _ h => h) (Or.inr ⟨by rfl, rfl⟩) ?_ ?_
         rotate_left
         ·simp only [Act.put, yck, ycl, ycm, zar, zas]; rfl
         refine zav (i := 12) (N := some 116) (v := undef) (a' := ?_) #[zt, zt, zt, zt, zt, zt, zt, zt, zt, zt, zt, zt, zt, zf, zf, zf, zf, zf, zf] rfl rfl (zaw HT_.out (by kernel_rfl)) (fun _ _ _ h => h) (Or.inr ⟨by rfl, rfl⟩) ?_ ?_
         rotate_left
         ·simp only [Act.put, yck, ycl, ycm, zar, zas]; rfl
         refine zav (i := 13) (N := some 117) (v := undef) (a' := ?_) #[zt, zt, zt, zt, zt, zt, zt, zt, zt, zt, zt, zt, zt, zt, zf, zf, zf, zf, zf] rfl rfl (zaw HT_.out (by kernel_rfl)) (fun _ _ _ h => h) (Or.inr ⟨by rfl, rfl⟩) ?_ ?_
         rotate_left
         ·simp only [Act.put, yck, ycl, ycm, zar, zas]; rfl
         refine zav (i := 14) (N := some 118) (v := undef) (a' := ?_) #[zt, zt, zt, zt, zt, zt, zt, zt, zt, zt, zt, zt, zt, zt, zt, zf, zf, zf, zf] rfl rfl (zaw HT_.out (by kernel_rfl)) (fun _ _ _ h => h) (Or.inr ⟨by rfl, rfl⟩) ?_ ?_
         rotate_left
         ·simp only [Act.put, yck, ycl, ycm, zar, zas]; rfl
         refine zav (i := 15) (N := some 119) (v := undef) (a' := ?_) #[zt, zt, zt, zt, zt, zt, zt, zt, zt, zt, zt, zt, zt, zt, zt, zt, zf, zf, zf] rfl rfl (zaw HT_.out (by kernel_rfl)) (fun _ _ _ h => h) (Or.inr ⟨by rfl, rfl⟩) ?_ ?_
         rotate_left
         ·simp only [Act.put, yck, ycl, ycm, zar, zas]; rfl
         refine zav (i := 16) (N := some 120) (v := undef) (a' := ?_) #[zt, zt, zt, zt, zt, zt, zt, zt, zt, zt, zt, zt, zt, zt, zt, zt, zt, zf, zf] rfl rfl (zaw HT_.out (by kernel_rfl)) (fun _ _ _ h => h) (Or.inr ⟨by rfl, rfl⟩) ?_ ?_
         rotate_left
         ·simp only [Act.put, yck, ycl, ycm, zar, zas]; rfl
         refine zav (i := 17) (N := some 121) (v := ?_) (a' := ?_) #[zt, zt, zt, zt, zt, zt, zt, zt, zt, zt, zt, zt, zt, zt, zt, zt, zt, zt, zf] rfl rfl (zaw HT_.out (by kernel_rfl)) (fun _ _ _ h => h) (Or.inl ⟨by rfl, ?_⟩) ?_ ?_
         rotate_left
         ·intro w'; go_simp; with_reducible rfl
         rotate_left
         ·simp only [Act.put, yck, ycl, ycm, zar, zas]; rfl
         refine zav (i := 18) (N := some 2) (v := ?_) (a' := ?_) #[zt, zt, zt, zt, zt, zt, zt, zt, zt, zt, zt, zt, zt, zt, zt, zt, zt, zt, zt] rfl rfl (zaw HT_.out (by kernel_rfl)) (fun _ _ _ h => h) (Or.inl ⟨by rfl, ?_⟩) ?_ ?_
         rotate_left
         ·intro w'; go_simp; with_reducible rfl
         rotate_left
         ·simp only [Act.put, yck, ycl, ycm, zar, zas]; rfl
         refine done_ (done_of HT_.out (by kernel_rfl)) ?_
         try go_wp2
         go_ret
         exact ⟨by first | rfl | (simp [zan, zam] <;> rfl) | (simp [*, zan, zam] <;> rfl), by repeat (first | (with_reducible first | exact HB.out | apply zac | apply zab | apply zad) | exact HB.out)⟩
def laws_FnSides.Pure : Prop := ∀ (l0 : List Int), l0.length ≤ maxLen → l0.length * 1 ≤ 140737488351232 → (∀ x ∈ l0, (Lit.int .u8 x).wf = true) → ∃ k, laws_FnSides.f k l0 = some true
theorem laws_FnSides.walk (P : laws_FnSides.Pure) (a0 : Option Addr) (len0 cap0 : Nat) (z0 : List Int) (w : World) (w0 : (a0 = none ∧ len0 = 0 ∧ cap0 = 0 ∧ z0 = []) ∨ ∃ x, a0 = some x ∧ len0 ≤ cap0 ∧ cap0 ≤ maxLen ∧ z0.length = cap0 ∧ (∀ i, i < z0.length → w.cell? (x.add i) = some (.int .u8 (z0.getD i 0))) ∧ ∀ n ∈ z0, (Lit.int .u8 n).wf = true) (y0 : len0 * 1 ≤ 140737488351232) :
  Calls Try.prog 7 #[.slice a0 len0 cap0] w fun e w' => e = .returned (.bool true) ∧ Below w.heap.size w w' := by
 obtain ⟨l0, rfl, hr0, hm0, hw0, hc0⟩ := zch.ofRowC w0
 obtain ⟨k, h⟩ := P l0 hm0 y0 hw0
 refine (laws_FnSides.calls k _ _ l0 true w (Kd.C_of_reads (d := (0 : Int)) (h1 := fun _ => rfl) hr0) hc0 h).mono ?_
 rintro e w' ⟨rfl, hd⟩
 exact ⟨rfl, hd⟩
end Go.Proofs.Ytaepgogafkmooaa.LD
namespace Go.Proofs.Ytaepgogafkmooaa.Hd
open Go.RowKit Go.PW.PrintWords Go.PW.PrintLast Go.PW.PrintMore Go.Proofs.Ytaepgogafkmooaa.PB
def Conv (hi wi : Nat) (g : Nat → Nat → Int) : Prop := ∀ r c r' c' i j, r < hi → c < wi → r' < hi → c' < wi → g r c = g r' c' → min r r' ≤ i → i ≤ max r r' → min c c' ≤ j → j ≤ max c c' → g i j = g r c
def ConvG (rows : List (List Int)) : Prop := Conv rows.length (zap rows) (zba rows)
theorem Conv.congr {hi wi : Nat} {g g' : Nat → Nat → Int} (h : Conv hi wi g) (e : ∀ r c, r < hi → c < wi → g r c = g' r c) : Conv hi wi g' := by
 intro r c r' c' i j h1 h2 h3 h4 hv k1 k2 k3 k4
 rw [← e i j (by omega) (by omega), ← e r c h1 h2]
 exact h r c r' c' i j h1 h2 h3 h4 (by rw [e r c h1 h2, e r' c' h3 h4]; exact hv) k1 k2 k3 k4
theorem Conv.map {hi wi : Nat} {g : Nat → Nat → Int} (h : Conv hi wi g) (f : Int → Int) (hf : ∀ r c r' c', r < hi → c < wi → r' < hi → c' < wi → f (g r c) = f (g r' c') → g r c = g r' c') : Conv hi wi (fun r c => f (g r c)) := by
 intro r c r' c' i j h1 h2 h3 h4 hv k1 k2 k3 k4
 show f _ = f _
 rw [h r c r' c' i j h1 h2 h3 h4 (hf _ _ _ _ h1 h2 h3 h4 hv) k1 k2 k3 k4]
theorem names_canon {rows : List (List Int)} (hs : zbu rows = true) (h9 : (zbd rows).length ≤ 9) : Canon (zbw (canon rows)) := by
 have hn := names_nums hs
 have hinj := names_inj rows
 have hL := rooms_len hs
 refine ⟨?_, ?_⟩
 ·unfold gridOk
  rw [Bool.and_eq_true, hn, mapG_shape]
  refine ⟨hs, ?_⟩
  rw [List.all_eq_true]
  intro s hss
  obtain ⟨r, hr, rfl⟩ := List.mem_map.1 hss
  unfold okText
  rw [bytesOf_rowText r (canon_val hs r hr), List.all_eq_true]
  intro x hx
  obtain ⟨y, hy, rfl⟩ := List.mem_map.1 hx
  unfold canon canonL at hr
  obtain ⟨r0, hr0, rfl⟩ := List.mem_map.1 hr
  obtain ⟨z, hz, rfl⟩ := List.mem_map.1 hy
  have h3 : (zcc rows).idxOf z < (zcc rows).length := List.idxOf_lt_length_of_mem (ordL_mem rows.flatten [] z (List.mem_flatten.2 ⟨r0, hr0, hz⟩))
  simp only [okLetter, Bool.not_eq_true', Bool.or_eq_false_iff, decide_eq_false_iff_not]
  omega
 ·unfold namesOf
  rw [hn, canon_map hinj]
theorem text_length (rows : List (List Int)) : (zbw (canon rows)).length = rows.length := by simp [zbw, canon, canonL]
theorem canon_length (rows : List (List Int)) : (canon rows).length = rows.length := by simp [canon, canonL]
theorem names_floor {rows : List (List Int)} (hs : zbu rows = true) (h9 : (zbd rows).length ≤ 9) : zcn (zbw (canon rows)) = if zcd (zbd rows) = (rows.length : Int) * (zap rows : Int) then some (canon rows, zbd rows) else none := by
 have hC := names_canon hs h9
 have hn := names_nums hs
 have hinj := names_inj rows
 rw [floorF_grid hC.grid, hn, rooms_map hs hinj, mapG_wide, text_length, canon_map hinj]
 by_cases h : zcd (zbd rows) = (rows.length : Int) * (zap rows : Int)
 ·rw [if_pos h, if_pos ⟨h9, h, hC.names⟩]
 ·rw [if_neg h, if_neg (fun z => h z.2.1)]
theorem canon_wide (rows : List (List Int)) : zap (canon rows) = zap rows := by
 unfold zap canon canonL
 cases rows with
 | nil => rfl
 | cons a r => simp
theorem canon_at {rows : List (List Int)} (hs : zbu rows = true) {r c : Nat} (hr : r < rows.length) (hc : c < zap rows) : zba (canon rows) r c = ((zcc rows).idxOf (zba rows r c) : Int) := by
 have e := congrArg (fun R => zba R r c) (rect_map (shape_rect hs) (fun x => ((zcc rows).idxOf x : Int)))
 exact Eq.trans e (valAt_gridOf hr hc)
theorem idxOf_inj {L : List Int} {x y : Int} (hx : x ∈ L) (hy : y ∈ L) (e : L.idxOf x = L.idxOf y) : x = y := by
 have h1 := List.idxOf_lt_length_of_mem hx
 have h2 := List.idxOf_lt_length_of_mem hy
 have e1 : L[L.idxOf x] = x := List.getElem_idxOf h1
 have e2 : L[L.idxOf y] = y := List.getElem_idxOf h2
 rw [← e1, ← e2]
 congr 1
theorem val_ord {rows : List (List Int)} (hs : zbu rows = true) {r c : Nat} (hr : r < rows.length) (hc : c < zap rows) : zba rows r c ∈ zcc rows := ordL_mem rows.flatten [] _ (val_mem (shape_rect hs) hr hc)
theorem canon_eq_iff {rows : List (List Int)} (hs : zbu rows = true) {r c r' c' : Nat} (hr : r < rows.length) (hc : c < zap rows) (hr' : r' < rows.length) (hc' : c' < zap rows) : zba (canon rows) r c = zba (canon rows) r' c' ↔ zba rows r c = zba rows r' c' := by
 rw [canon_at hs hr hc, canon_at hs hr' hc']
 constructor
 ·exact fun h => idxOf_inj (val_ord hs hr hc) (val_ord hs hr' hc') (by omega)
 ·intro h
  rw [h]
theorem conv_canon {rows : List (List Int)} (hs : zbu rows = true) : ConvG (canon rows) ↔ ConvG rows := by
 unfold ConvG
 rw [canon_length, canon_wide]
 constructor
 ·intro h r c r' c' i j h1 h2 h3 h4 hv k1 k2 k3 k4
  exact (canon_eq_iff hs (by omega) (by omega) h1 h2).1 (h r c r' c' i j h1 h2 h3 h4 ((canon_eq_iff hs h1 h2 h3 h4).2 hv) k1 k2 k3 k4)
 ·intro h r c r' c' i j h1 h2 h3 h4 hv k1 k2 k3 k4
  exact (canon_eq_iff hs (by omega) (by omega) h1 h2).2 (h r c r' c' i j h1 h2 h3 h4 ((canon_eq_iff hs h1 h2 h3 h4).1 hv) k1 k2 k3 k4)
theorem countN_conv (rows : List (List Int)) (wi : Nat) (x : Int) (b : Rc) : ∀ n, (∀ m, m < n → (cellN rows wi m = x ↔ inBox b wi m)) → countN rows wi x n = countB b wi n
 | 0, _ => rfl
 | n + 1, h => by
  have ih := countN_conv rows wi x b n (fun m hm => h m (by omega))
  simp only [countN, countB]
  by_cases hx : cellN rows wi n = x
  ·rw [if_pos hx, if_pos ((h n (by omega)).1 hx), ih]
  ·rw [if_neg hx, if_neg (fun z => hx ((h n (by omega)).2 z)), ih]
theorem conv_sum {rows : List (List Int)} (hs : zbu rows = true) (h9 : (zbd rows).length ≤ 9) : zcd (zbd rows) = (rows.length : Int) * (zap rows : Int) ↔ ConvG rows := by
 have hfl := names_floor hs h9
 constructor
 ·intro h
  rw [if_pos h] at hfl
  have F := floor_facts hfl
  rw [← conv_canon hs]
  intro r c r' c' i j h1 h2 h3 h4 hv k1 k2 k3 k4
  have hv1 := valAt_range F.ok r c h1 h2
  obtain ⟨q, hq⟩ := Int.eq_ofNat_of_zero_le hv1.1
  have hq2 : q < (zbd rows).length := by omega
  have hc := fun r c hr hc => room_cells hfl q hq2 r c hr hc
  have a1 := (hc r c h1 h2).1 hq
  have a2 := (hc r' c' h3 h4).1 (by rw [← hv]; exact hq)
  rw [hq]
  exact (hc i j (by omega) (by omega)).2 (by omega)
 ·intro h
  have hC := names_canon hs h9
  have hn := names_nums hs
  have hinj := names_inj rows
  have hiff := full_iff hC
  rw [hn, rooms_map hs hinj, mapG_wide, text_length] at hiff
  have hall : (List.range (zbd rows).length).all (fullB (zbw (canon rows))) = true := by
   rw [List.all_eq_true]
   intro x hx
   have hx := List.mem_range.1 hx
   unfold fullB
   rw [decide_eq_true_eq, hn, rooms_map hs hinj, mapG_wide, text_length]
   obtain ⟨v, hv, hb, hbd⟩ := rooms_box hs x hx
   rw [← countB_all _ _ _ hbd]
   obtain ⟨s1, s2, s3, s4, s5⟩ := (zcr _).1 hs
   have hR := shape_rect hs
   refine countN_conv _ _ _ _ _ fun m hm => ?_
   have hr : m / zap rows < rows.length := by rw [Nat.div_lt_iff_lt_mul (by omega)]; exact hm
   have hc := Nat.mod_lt m (show 0 < zap rows by omega)
   have hcell : cellN (mapG (fun x => 97 + ((zcc rows).idxOf x : Int)) rows) (zap rows) m = ((zcc rows).idxOf (zba rows (m / zap rows) (m % zap rows)) : Int) := by
    unfold cellN
    rw [valAt_map hR _ hr hc]
    omega
   rw [hcell, idx_iff (ordAll_nodup rows) hv (val_ord hs hr hc)]
   constructor
   ·exact fun h => hb.ins m hm h
   ·intro hin
    obtain ⟨i1, i2, i3, i4⟩ := hin
    obtain ⟨mt, nt, vt, et⟩ := hb.top
    obtain ⟨ml, nl, vl, el⟩ := hb.left
    obtain ⟨mw, nw, vw, ew⟩ := hb.low
    obtain ⟨mr, nr, vr, er⟩ := hb.right
    have rr : ∀ m, m < rows.length * zap rows → m / zap rows < rows.length ∧ m % zap rows < zap rows := fun m hm => ⟨by rw [Nat.div_lt_iff_lt_mul (by omega)]; exact hm, Nat.mod_lt m (by omega)⟩
    obtain ⟨t1, t2⟩ := rr mt nt
    obtain ⟨l1, l2⟩ := rr ml nl
    obtain ⟨w1, w2⟩ := rr mw nw
    obtain ⟨r1, r2⟩ := rr mr nr
    have gt := hb.ins mt nt vt
    have gl := hb.ins ml nl vl
    have gw := hb.ins mw nw vw
    have gr := hb.ins mr nr vr
    generalize hbx : (zbd rows).getD x zco = bx at *
    -- the upper left and the lower right corner
    have c1 := h (mt / zap rows) (mt % zap rows) (ml / zap rows) (ml % zap rows) (mt / zap rows) (ml % zap rows) t1 t2 l1 l2 (vt.trans vl.symm) (by omega) (by omega) (by omega) (by omega)
    have c2 := h (mw / zap rows) (mw % zap rows) (mr / zap rows) (mr % zap rows) (mw / zap rows) (mr % zap rows) w1 w2 r1 r2 (vw.trans vr.symm) (by omega) (by omega) (by omega) (by omega)
    have c3 := h (mt / zap rows) (ml % zap rows) (mw / zap rows) (mr % zap rows) (m / zap rows) (m % zap rows) t1 l2 w1 r2 (by rw [c1, c2, vt, vw]) (by omega) (by omega) (by omega) (by omega)
    rw [c3, c1, vt]
  rw [hall] at hiff
  exact of_decide_eq_true hiff.symm
structure OkG (rows : List (List Int)) : Prop where
 shape : zbu rows = true
 many : (zcc rows).length ≤ 9
 conv : ConvG rows
theorem OkG.plan {rows : List (List Int)} (h : OkG rows) : planF rows = (zbw (canon rows), true) := by
 have h9 : (zbd rows).length ≤ 9 := by rw [← rooms_len h.shape]; exact h.many
 rw [planF_shape h.shape, if_pos ⟨h9, (conv_sum h.shape h9).2 h.conv⟩]
theorem OkG.floor {rows : List (List Int)} (h : OkG rows) : zcn (zbw (canon rows)) = some (canon rows, zbd rows) := by
 have h9 : (zbd rows).length ≤ 9 := by rw [← rooms_len h.shape]; exact h.many
 rw [names_floor h.shape h9, if_pos ((conv_sum h.shape h9).2 h.conv)]
theorem planF_cases (rows : List (List Int)) : (OkG rows ∧ planF rows = (zbw (canon rows), true)) ∨ (¬ OkG rows ∧ planF rows = ([], false)) := by
 by_cases h : OkG rows
 ·exact .inl ⟨h, h.plan⟩
 ·refine .inr ⟨h, ?_⟩
  cases hs : zbu rows with
  | false => exact planF_noshape hs
  | true =>
   rw [planF_shape hs]
   by_cases hc : (zbd rows).length ≤ 9 ∧ zcd (zbd rows) = (rows.length : Int) * (zap rows : Int)
   ·exact absurd ⟨hs, by rw [rooms_len hs]; exact hc.1, (conv_sum hs hc.1).1 hc.2⟩ h
   ·rw [if_neg hc]
theorem floor_shape {cs : List (List Int)} {rs : List Rc} (h : FloorOk cs rs) : zbu cs = true := (zcr _).2 ⟨h.h1, h.h6, h.w1, h.w6, h.rect⟩
theorem add_inj (a : Int) (S : Int → Prop) : InjOn (fun x => a + x) S := fun x y _ _ e => by have : a + x = a + y := e; omega
theorem floor_okG {p : List ByteArray} {cs : List (List Int)} {rs : List Rc} (h : zcn p = some (cs, rs)) : OkG cs ∧ canon cs = cs ∧ rs = zbd cs ∧ p = zbw cs := by
 have F := floor_facts h
 have hs := floor_shape F.ok
 have e1 : canon cs = cs := by
  have e2 : canon (mapG (fun x => 97 + x) cs) = canon cs := canon_map (add_inj 97 _)
  rw [← F.nums, ← F.cells] at e2
  exact e2.symm
 have e2 : rs = zbd cs := by rw [F.rooms, F.nums, rooms_map hs (add_inj 97 _)]
 have h9 : (zbd cs).length ≤ 9 := by rw [← e2]; exact F.ok.many
 have hsum := floor_sum h
 rw [F.wide, F.len, e2] at hsum
 exact ⟨⟨hs, by rw [rooms_len hs]; exact h9, (conv_sum hs h9).1 hsum⟩, e1, e2, F.text⟩
theorem OkG.canon {X : List (List Int)} (h : OkG X) : OkG (canon X) := (floor_okG h.floor).1
theorem bt_val (p : List ByteArray) {i : Nat} {s : ByteArray} (hs : p[i]? = some s) (j : Nat) : bt s (j : Int) = zba (zao p) i j := by
 unfold zba zao
 rw [ycn (l := List.map _ _), List.getElem?_map, hs, ← bytesOf_get]
 rfl
def fourW (a : Wl) : List Int := [if a.f0 = true then 1 else 0, a.f1, a.f2, a.f3]
theorem walls4_eq (cs : List (List Int)) : walls4 cs = (zbv cs).map fourW := by
 unfold walls4
 rw [wallsOf_eq, List.map_append, List.map_map, List.map_map]
 rfl
theorem walls4_len (cs : List (List Int)) : (walls4 cs).length = (zbv cs).length := by rw [walls4_eq, List.length_map]
theorem walls4_at (cs : List (List Int)) (i : Nat) (hi : i < (zbv cs).length) : zbo (walls4 cs) (i : Int) = fourW ((zbv cs).getD i zeroW) := by
 unfold zbo
 rw [walls4_eq, Int.toNat_natCast, ycn, List.getElem?_map, List.getElem?_eq_getElem hi, ycn, List.getElem?_eq_getElem hi]
 rfl
theorem Evs.stepNeg {α : Type} {c : Prop} {inst : Decidable c} {a h g : Nat → Option α} {r : α} (e : ∀ k, g (k + 1) = @ite _ c inst (a k) (h k)) (hc : ¬ c) (hh : Evs h r) : Evs g r := Evs.step (fun k => (e k).trans (if_neg hc)) hh
theorem Evs.stepPos {α : Type} {c : Prop} {inst : Decidable c} {a h g : Nat → Option α} {r : α} (e : ∀ k, g (k + 1) = @ite _ c inst (a k) (h k)) (hc : c) (hh : Evs a r) : Evs g r := Evs.step (fun k => (e k).trans (if_pos hc)) hh
theorem l2Put_f (L : List Int) (x : Int) (hl : L.length ≤ 100000) : spec_l2Put.f L x = some (putL L x) := by
 unfold spec_l2Put.f putL
 by_cases h0 : L = []
 ·subst h0
  rw [if_neg (by simp), if_pos (by simp), if_neg (by simp)]
 ·have hp : 0 < L.length := List.length_pos_iff.2 h0
  have hw : wrap64 ((L.length : Int) - 1) = ((L.length - 1 : Nat) : Int) := by rw [zat (by omega) (by omega)]; omega
  have hg : L.getLast? = some (rd L ((L.length - 1 : Nat) : Int)) := by
   rw [List.getLast?_eq_getElem?, List.getElem?_eq_getElem (by omega)]
   unfold rd
   rw [Int.toNat_natCast, ycn, List.getElem?_eq_getElem (by omega)]
   rfl
  rw [if_pos (by omega), hw, if_pos (by omega), if_pos (by omega), hg]
  by_cases hx : rd L ((L.length - 1 : Nat) : Int) = x
  ·rw [if_pos hx, if_pos (by rw [hx])]
  ·rw [if_neg hx, if_pos (by omega), if_neg (fun z => hx (Option.some.inj z))]
theorem foldP_length (xs : List Int) : (zcm xs).length ≤ xs.length := by
 rw [← compact_fold]
 exact compact_le xs
theorem PlanFacts.byte {p : List ByteArray} {cs : List (List Int)} {rs : List Rc} (F : PlanFacts p cs rs) (r c : Nat) (hr : r < cs.length) (hc : c < zap cs) :
  bt (rdOf yco p (r : Int)) (c : Int) = 97 + zba cs r c ∧ (rdOf yco p (r : Int)).size = zap cs := by
 have hrl : r < p.length := by rw [F.len]; exact hr
 have hs : p[r]? = some p[r] := List.getElem?_eq_getElem hrl
 refine ⟨?_, ?_⟩
 ·rw [rdOf_at hs, bt_val p hs c, F.nums]
  exact valAt_map F.ok.rect _ hr hc
 ·rw [rdOf_at hs]
  exact F.mid.row _ (List.getElem_mem _)
theorem sides_l0 {p : List ByteArray} {cs : List (List Int)} {rs : List Rc} (F : PlanFacts p cs rs) (lv : Bool) (l f n : Nat) (h1 : 1 ≤ l) (h2 : l < linesOf cs lv) (h3 : f + n ≤ zbt cs lv) (h4 : linesOf cs lv ≤ 6) (h5 : zbt cs lv ≤ 6) (row : List Int) (tl : (row.length : Int) = 4) (t0 : rd row 0 = if lv = true then 1 else 0) (t1 : rd row 1 = (l : Int)) (t2 : rd row 2 = (f : Int)) (t3 : rd row 3 = (n : Int)) :
  ∀ m j, j + m = n → Evs (fun k => spec_l2Sides.l0 k p row (zcm (zbx cs lv l f j)) (zcm (zci cs lv l f j)) ((f + j : Nat) : Int)) (zcm (zbx cs lv l f n), zcm (zci cs lv l f n)) := by
 have ew := zaa.mk (show wrap64 ((f : Int) + (n : Int)) = ((f + n : Nat) : Int) by rw [zat (by omega) (by omega)]; omega)
 have el := zaa.mk (show wrap64 ((l : Int) - 1) = ((l - 1 : Nat) : Int) by rw [zat (by omega) (by omega)]; omega)
 have lp := F.len
 intro m
 induction m with
 | zero =>
  intro j hj
  obtain rfl : j = n := by omega
  refine Evs.stepPos (fun k => by conv => lhs; unfold spec_l2Sides.l0) (by omega) ?_
  exact Evs.pos (by omega) (Evs.neg (by rw [t2, t3, ew.out]; omega) (Evs.const _))
 | succ m ih =>
  intro j hj
  have hnx := ih (j + 1) (by omega)
  rw [oneSide_succ, twoSide_succ, foldP_snoc, foldP_snoc] at hnx
  have q1 := foldP_length (zbx cs lv l f j)
  have q2 := foldP_length (zci cs lv l f j)
  rw [oneSide_length] at q1
  rw [twoSide_length] at q2
  have ej := zaa.mk (show wrap64 (((f + j : Nat) : Int) + 1) = ((f + (j + 1) : Nat) : Int) by rw [zat (by omega) (by omega)]; omega)
  generalize zcm (zbx cs lv l f j) = A at *
  generalize zcm (zci cs lv l f j) = B at *
  have hsub : ∀ r c, r < cs.length → c < zap cs → wrap64 ((wrap64 (97 + zba cs r c)) - 97) = zba cs r c := fun r c hr hc => by
   have hv := valAt_range F.ok r c hr hc
   have := F.ok.many
   rw [zat (x := 97 + zba cs r c) (by omega) (by omega), zat (by omega) (by omega)]
   omega
  cases lv with
  | false =>
   have h2 : l < zap cs := h2
   have h3 : f + n ≤ cs.length := h3
   rw [if_neg (by simp)] at t0
   obtain ⟨b1, s1⟩ := F.byte (f + j) (l - 1) (by omega) (by omega)
   obtain ⟨b2, -⟩ := F.byte (f + j) l (by omega) h2
   have p1 := l2Put_f A (zba cs (f + j) (l - 1)) (by omega)
   have p2 := l2Put_f B (zba cs (f + j) l) (by omega)
   have w1 := zaa.mk (hsub (f + j) (l - 1) (by omega) (by omega))
   have w2 := zaa.mk (hsub (f + j) l (by omega) h2)
   have hg2_ : (2 : Int) < (row.length : Int) := by omega
   refine Evs.stepPos (fun k => by conv => lhs; unfold spec_l2Sides.l0) hg2_ ?_
   refine (Evs.pos (by rw [tl]; omega) (Evs.pos (by rw [t2, t3, ew.out]; omega) (Evs.pos (by rw [tl]; omega) (Evs.pos (by rw [t0]) (Evs.pos (by omega) (Evs.pos (by omega) (Evs.pos (by rw [tl]; omega) (Evs.pos (by rw [t1, el.out]; omega) (Evs.pos (by rw [t1, el.out, s1]; omega) (Evs.bindS (by rw [t1, el.out, b1, w1.out]; exact p1) (Evs.pos (by rw [t1]; omega) (Evs.pos (by rw [t1, s1]; omega) (Evs.bindS (by rw [t1, b2, w2.out]; exact p2) ?_)))))))))))))
   rw [ej.out]
   exact hnx
  | true =>
   have h2 : l < cs.length := h2
   have h3 : f + n ≤ zap cs := h3
   rw [if_pos rfl] at t0
   obtain ⟨b1, s1⟩ := F.byte (l - 1) (f + j) (by omega) (by omega)
   obtain ⟨b2, s2⟩ := F.byte l (f + j) h2 (by omega)
   have p1 := l2Put_f A (zba cs (l - 1) (f + j)) (by omega)
   have p2 := l2Put_f B (zba cs l (f + j)) (by omega)
   have w1 := zaa.mk (hsub (l - 1) (f + j) (by omega) (by omega))
   have w2 := zaa.mk (hsub l (f + j) h2 (by omega))
   have hg2_ : (2 : Int) < (row.length : Int) := by omega
   refine Evs.stepPos (fun k => by conv => lhs; unfold spec_l2Sides.l0) hg2_ ?_
   refine (Evs.pos (by rw [tl]; omega) (Evs.pos (by rw [t2, t3, ew.out]; omega) (Evs.pos (by rw [tl]; omega) (Evs.neg (by rw [t0]; omega) (Evs.pos (by rw [tl]; omega) (Evs.pos (by rw [t1, el.out]; omega) (Evs.pos (by rw [t1, el.out]; omega) (Evs.pos (by omega) (Evs.pos (by rw [t1, el.out, s1]; omega) (Evs.bindS (by rw [t1, el.out, b1, w1.out]; exact p1) (Evs.pos (by rw [t1]; omega) (Evs.pos (by rw [t1]; omega) (Evs.pos (by rw [t1, s2]; omega) (Evs.bindS (by rw [t1, b2, w2.out]; exact p2) ?_))))))))))))))
   rw [ej.out]
   exact hnx
theorem WallSides_ev (p : List ByteArray) (a : Int) (hp : smallP p) : Evs (fun k => spec_WallSides.f k p a) (zce p a) := by
 have h1 := PlanIn_ev p hp
 have jt : Evs (fun k => spec_WallSides.j0 k p a true) ([], [], false) := Evs.stepPos (fun k => by conv => lhs; unfold spec_WallSides.j0) rfl (Evs.const _)
 rcases planB_cases p with ⟨e1, f1⟩ | ⟨e1, cs, rs, f1⟩
 ·rw [e1] at h1
  have : zce p a = ([], [], false) := by unfold zce; rw [f1]
  rw [this]
  exact Evs.bind h1 (Evs.neg (by simp) jt)
 ·rw [e1] at h1
  have F := floor_facts f1
  have hb := wallsOf_bound F.ok
  have hl := walls4_len cs
  have e2 : zce p a = if (decide (0 ≤ a) && decide (a < (zbv cs).length)) = true then
    (zcm (zbx cs ((zcg cs).getD a.toNat (false, 0, 0, 0)).1 ((zcg cs).getD a.toNat (false, 0, 0, 0)).2.1 ((zcg cs).getD a.toNat (false, 0, 0, 0)).2.2.1 ((zcg cs).getD a.toNat (false, 0, 0, 0)).2.2.2), zcm (zci cs ((zcg cs).getD a.toNat (false, 0, 0, 0)).1 ((zcg cs).getD a.toNat (false, 0, 0, 0)).2.1 ((zcg cs).getD a.toNat (false, 0, 0, 0)).2.2.1 ((zcg cs).getD a.toNat (false, 0, 0, 0)).2.2.2), true) else ([], [], false) := by unfold zce; rw [f1]
  have e3 : wrap64 (((walls4 cs).length : Int) - 1) = ((zbv cs).length : Int) - 1 := by rw [zat (by omega) (by omega)]; omega
  have e4 : (decide (0 ≤ a) && decide (a ≤ ((zbv cs).length : Int) - 1)) = (decide (0 ≤ a) && decide (a < (zbv cs).length)) := by
   congr 1
   by_cases h : a < ((zbv cs).length : Int)
   ·rw [decide_eq_true h, decide_eq_true (by omega)]
   ·rw [decide_eq_false h, decide_eq_false (by omega)]
  rw [e2]
  refine Evs.bind h1 (Evs.pos rfl (Evs.bind (l2Walls_ev F) (Evs.bindS (l6In_f _ _ _) ?_)))
  rw [e3, e4]
  clear e3
  by_cases hc : (decide (0 ≤ a) && decide (a < (zbv cs).length)) = true
  ·rw [if_pos hc, hc]
   rw [Bool.and_eq_true, decide_eq_true_eq, decide_eq_true_eq] at hc
   obtain ⟨i, rfl⟩ := Int.eq_ofNat_of_zero_le hc.1
   have hi : i < (zbv cs).length := by omega
   obtain ⟨lv, l, f, n, hP, k1, k2, k3, k4, k5, k6⟩ := wallsP_ok F.ok i (by rw [wallsP_length]; exact hi)
   have hg : (zbv cs).getD i zeroW = mkW lv (l, f, n) := wallsP_get (cs := cs) (i := i) hP
   have hw := walls4_at cs i hi
   rw [hg] at hw
   have t2 : rd (fourW (mkW lv (l, f, n))) 2 = (f : Int) := rfl
   have tl : ((fourW (mkW lv (l, f, n))).length : Int) = 4 := rfl
   have hs := sides_l0 F lv l f n k1 k2 k3 k5 k6 (fourW (mkW lv (l, f, n))) rfl rfl rfl rfl rfl n 0 (by omega)
   have hsd : Evs (fun k => spec_l2Sides.f k p (fourW (mkW lv (l, f, n)))) (zcm (zbx cs lv l f n), zcm (zci cs lv l f n)) := by
    unfold spec_l2Sides.f
    refine Evs.pos (by rw [tl]; omega) ?_
    rw [t2]
    exact hs
   rw [Int.toNat_natCast, ycn, hP]
   have hi2 : (i : Int) < ((walls4 cs).length : Int) := by omega
   refine Evs.stepNeg (fun k => by conv => lhs; unfold spec_WallSides.j0) (by simp) (Evs.bind (l2Walls_ev F) ?_)
   refine Evs.pos hc.1 (Evs.pos hi2 ?_)
   rw [hw]
   exact Evs.bind hsd (Evs.const _)
  ·rw [if_neg hc]
   have hc' : (decide (0 ≤ a) && decide (a < (zbv cs).length)) = false := by simpa using hc
   rw [hc']
   exact jt
structure Lil (p : List ByteArray) : Prop where
 high : p.length ≤ 100
 row : ∀ s ∈ p, s.size ≤ 100
theorem Lil.small {p : List ByteArray} (h : Lil p) : smallP p := ⟨by have := h.high; omega, fun s hs => by have := h.row s hs; omega⟩
theorem Mid.lil {p : List ByteArray} {wi : Nat} (h : Mid p wi) : Lil p := ⟨h.high, fun s hs => by rw [h.row s hs]; exact h.wide⟩
theorem bt_range (s : ByteArray) (j : Nat) (hj : j < s.size) : 0 ≤ bt s (j : Int) ∧ bt s (j : Int) ≤ 255 := by
 obtain ⟨x, hx⟩ : ∃ x, (bytesOf s)[j]? = some x := ⟨_, List.getElem?_eq_getElem (by rw [zbi]; omega)⟩
 have hr := bytesOf_range s x (List.mem_of_getElem? hx)
 rw [← bt_get hx] at hr
 exact hr
theorem roomsA_l1 (p : List ByteArray) (h : Lil p) (i : Nat) (s : ByteArray) (hs : p[i]? = some s) (hnext : ∀ v, 0 ≤ v → v ≤ 255 → ∃ r, 0 ≤ r ∧ r ≤ 255 ∧ Evs (fun k => spec_l1Rooms.l0 k p v ((i + 1 : Nat) : Int)) r) :
  ∀ m j v, j + m = s.size → 0 ≤ v → v ≤ 255 → ∃ r, 0 ≤ r ∧ r ≤ 255 ∧ Evs (fun k => spec_l1Rooms.l1 k p v (i : Int) (j : Int)) r := by
 have h6 := h.high
 have w6 := h.row s (List.mem_of_getElem? hs)
 have hi := (List.getElem?_eq_some_iff.1 hs).1
 intro m
 induction m with
 | zero =>
  intro j v hj v0 v1
  obtain ⟨r, r0, r1, hr⟩ := hnext v v0 v1
  refine ⟨r, r0, r1, Evs.step (fun k => ?_) hr⟩
  conv => lhs; unfold spec_l1Rooms.l1
  rw [if_pos (by omega), if_pos (by omega), rdOf_at hs, if_neg (by omega), zbg (by omega)]
 | succ m ih =>
  intro j v hj v0 v1
  have hb := bt_range s j (by omega)
  obtain ⟨r, r0, r1, hr⟩ := ih (j + 1) (max v (bt s (j : Int) - 97 + 1)) (by omega) (by omega) (by omega)
  refine ⟨r, r0, r1, Evs.step (fun k => ?_) hr⟩
  conv => lhs; unfold spec_l1Rooms.l1
  rw [if_pos (by omega), if_pos (by omega), rdOf_at hs, if_pos (by omega), if_pos (by omega), zat (x := bt s (j : Int)) (by omega) (by omega), zat (x := bt s (j : Int) - 97) (by omega) (by omega), zat (x := bt s (j : Int) - 97 + 1) (by omega) (by omega), zbg (by omega), mx_max]
theorem roomsA_l0 (p : List ByteArray) (h : Lil p) : ∀ m i v, i + m = p.length → 0 ≤ v → v ≤ 255 → ∃ r, 0 ≤ r ∧ r ≤ 255 ∧ Evs (fun k => spec_l1Rooms.l0 k p v (i : Int)) r := by
 have h6 := h.high
 intro m
 induction m with
 | zero =>
  intro i v hi v0 v1
  refine ⟨v, v0, v1, Evs.step (h := fun _ => some v) (fun k => ?_) (Evs.const _)⟩
  conv => lhs; unfold spec_l1Rooms.l0
  rw [if_neg (by omega)]
 | succ m ih =>
  intro i v hi v0 v1
  obtain ⟨s, hs⟩ : ∃ s, p[i]? = some s := ⟨_, List.getElem?_eq_getElem (by omega)⟩
  obtain ⟨r, r0, r1, hr⟩ := roomsA_l1 p h i s hs (fun v v0 v1 => ih (i + 1) v (by omega) v0 v1) s.size 0 v (by omega) v0 v1
  refine ⟨r, r0, r1, Evs.step (fun k => ?_) hr⟩
  conv => lhs; unfold spec_l1Rooms.l0
  rw [if_pos (by omega)]
  rfl
theorem l1Rooms_any (p : List ByteArray) (h : Lil p) : ∃ r, 0 ≤ r ∧ r ≤ 255 ∧ Evs (fun k => spec_l1Rooms.f k p) r := roomsA_l0 p h p.length 0 0 (by omega) (by omega) (by omega)
theorem bytesOf_putS (s : ByteArray) (l n : Nat) (c : Int) (h0 : 0 ≤ c) (h1 : c ≤ 255) : bytesOf (putS s l n c) = putN (bytesOf s) l n c := by
 unfold putS
 refine bytesOf_strOfNums _ fun x hx => ?_
 unfold putN at hx
 obtain ⟨i, hi, e⟩ := List.mem_iff_getElem.1 hx
 rw [List.getElem_mapIdx] at e
 subst e
 split
 ·exact ⟨h0, h1⟩
 ·exact bytesOf_range s _ (List.getElem_mem _)
def putB (t l h m : Nat) (r c : Nat) : Prop := (t ≤ r ∧ r < t + h) ∧ (l ≤ c ∧ c < l + m)
instance (t l h m r c : Nat) : Decidable (putB t l h m r c) := by unfold putB; exact inferInstance
theorem numsOf_put {p : List ByteArray} {wi : Nat} (hs : Small p wi) (t l h m : Nat) (x : Int) (h0 : 0 ≤ x) (h1 : x ≤ 255) : zao (putR p t h l m x) = zbn p.length wi (fun r c => if putB t l h m r c then x else zba (zao p) r c) := by
 apply List.ext_getElem?
 intro r
 by_cases hr : r < p.length
 ·rw [gridOf_get hr]
  unfold zao putR
  rw [List.getElem?_map, List.getElem?_mapIdx, List.getElem?_eq_getElem hr]
  simp only [Option.map_some]
  congr 1
  have hsz := hs.row _ (List.getElem_mem hr)
  have hrow : ∀ c, c < wi → (bytesOf p[r])[c]? = some (zba (zao p) r c) := fun c hc => by
   obtain ⟨row, e1, e2⟩ := valAt_get hs.rect (by rw [zbq]; exact hr) hc
   unfold zao at e1
   rw [List.getElem?_map, List.getElem?_eq_getElem hr] at e1
   have e1 := Option.some.inj e1
   rw [e1]
   exact e2
  apply List.ext_getElem?
  intro c
  by_cases hc : c < wi
  ·rw [List.getElem?_map, List.getElem?_range hc]
   simp only [Option.map_some]
   by_cases ht : t ≤ r ∧ r < t + h
   ·rw [if_pos ht, bytesOf_putS _ _ _ _ h0 h1]
    unfold putN
    rw [List.getElem?_mapIdx, hrow c hc]
    simp only [Option.map_some]
    congr 1
    by_cases hl : l ≤ c ∧ c < l + m
    ·rw [if_pos hl, if_pos ⟨ht, hl⟩]
    ·rw [if_neg hl, if_neg (fun z => hl z.2)]; rfl
   ·rw [if_neg ht, if_neg (fun z => ht z.1)]
    exact hrow c hc
  ·rw [List.getElem?_eq_none (by
    split
    ·rw [bytesOf_putS _ _ _ _ h0 h1, putN_length, zbi]; omega
    ·rw [zbi]; omega), List.getElem?_eq_none (by simp; omega)]
 ·rw [List.getElem?_eq_none (by simp [zao, putR]; omega), List.getElem?_eq_none (by rw [zbj]; omega)]
theorem put_f {p : List ByteArray} {wi : Nat} (hs : Small p wi) (t l h m x : Int) (t0 : 0 ≤ t) (l0 : 0 ≤ l) (h0 : 0 ≤ h) (m0 : 0 ≤ m) (th : t + h ≤ p.length) (lm : l + m ≤ wi) (x0 : 0 ≤ x) (x1 : x ≤ 255) : spec_l1Put.f p t l h m x = some (putR p t.toNat h.toNat l.toNat m.toNat x) := by
 have hh := hs.high
 have hw := hs.wide
 have hall : (p.all fun s => decide (l + m ≤ s.size) && decide (s.size ≤ 1048576)) = true := by
  rw [List.all_eq_true]
  intro s hss
  rw [hs.row s hss, decide_eq_true lm, decide_eq_true (show wi ≤ 1048576 by omega)]
  rfl
 unfold spec_l1Put.f
 rw [if_pos]
 unfold putOk
 rw [hall, decide_eq_true t0, decide_eq_true l0, decide_eq_true h0, decide_eq_true m0, decide_eq_true x0, decide_eq_true x1, decide_eq_true (show p.length ≤ 1048576 by omega), decide_eq_true th, decide_eq_true (show l ≤ 1048576 by omega), decide_eq_true (show m ≤ 1048576 by omega)]
 rfl
theorem small_put {p : List ByteArray} {wi : Nat} (hs : Small p wi) (t h l m : Nat) (x : Int) : smallP (putR p t h l m x) := by
 have hh := hs.high
 have hw := hs.wide
 refine ⟨by rw [putR_length]; omega, fun s hss => ?_⟩
 unfold putR at hss
 obtain ⟨i, hi, e⟩ := List.mem_iff_getElem.1 hss
 rw [List.length_mapIdx] at hi
 rw [List.getElem_mapIdx] at e
 have hr := hs.row _ (List.getElem_mem hi)
 subst e
 split
 ·have hl := zbi p[i]
  show (List.map _ (putN (bytesOf p[i]) l m x)).toArray.size ≤ _
  simp [putN_length]
  omega
 ·rw [hr]; omega
theorem put_done {p : List ByteArray} {cs : List (List Int)} {rs : List Rc} (F : PlanFacts p cs rs) (t h l m : Nat) (x : Int) (x0 : 97 ≤ x) (x1 : x ≤ 122) (f : Int → Int) (hf : ∀ S, InjOn f S) (g : Nat → Nat → Int) (hg : ∀ r c, r < cs.length → c < zap cs → f (g r c) = if putB t l h m r c then x else 97 + zba cs r c) : doneF (putR p t h l m x) = planF (zbn cs.length (zap cs) g) := by
 have hsm := gridOk_small F.canon.grid
 rw [F.wide] at hsm
 have hn := numsOf_put hsm t l h m x (by omega) (by omega)
 have hv : zao (putR p t h l m x) = mapG f (zbn cs.length (zap cs) g) := by
  rw [hn, mapG_gridOf, F.len]
  refine gridOf_congr fun r c hr hc => ?_
  rw [hg r c hr hc, F.nums, valAt_map F.ok.rect _ hr hc]
 have hok : (putR p t h l m x).all okText = true := by
  rw [List.all_eq_true]
  intro s hs
  refine okText_of fun y hy => ?_
  have hm : bytesOf s ∈ zao (putR p t h l m x) := List.mem_map.2 ⟨s, hs, rfl⟩
  rw [hn, F.len] at hm
  unfold zbn at hm
  obtain ⟨i, hi, e⟩ := List.mem_map.1 hm
  rw [← e] at hy
  obtain ⟨j, hj, rfl⟩ := List.mem_map.1 hy
  have hi := List.mem_range.1 hi
  have hj := List.mem_range.1 hj
  have h1 := valAt_range F.ok i j hi hj
  have h2 := F.ok.many
  dsimp only
  rw [F.nums, valAt_map F.ok.rect _ hi hj]
  split <;> omega
 unfold doneF
 rw [if_pos hok, hv]
 exact plan_map (hf _)
def isH (letter : ByteArray) : Bool := letter.toList == [104]
def isV (letter : ByteArray) : Bool := letter.toList == [118]
theorem isHV {letter : ByteArray} (h : isH letter = true) : isV letter = false := by
 unfold isH at h
 unfold isV
 rw [beq_iff_eq] at h
 rw [h]
 rfl
def behindB (b : Rc) (letter : ByteArray) (k : Int) (r c : Nat) : Bool := (isH letter && decide (b.f0 + k ≤ r)) || (isV letter && decide (b.f1 + k ≤ c))
def splitG (cs : List (List Int)) (rs : List Rc) (room : Int) (letter : ByteArray) (k : Int) (r c : Nat) : Int :=
 if zba cs r c = room ∧ behindB (rs.getD room.toNat zco) letter k r c = true then rs.length else zba cs r c
def splitF (p : List ByteArray) (room : Int) (letter : ByteArray) (k : Int) : List ByteArray × Bool := match zcn p with
 | none => ([], false)
 | some (cs, rs) =>
  if hasB rs room && (isH letter || isV letter) then
   if 1 ≤ k ∧ k < (if isH letter then (rs.getD room.toNat zco).f2 else (rs.getD room.toNat zco).f3) then planF (zbn cs.length (zap cs) (splitG cs rs room letter k)) else ([], false)
  else ([], false)
end Go.Proofs.Ytaepgogafkmooaa.Hd
namespace Go.Proofs.Ytaepgogafkmooaa.Hd
open Go.RowKit Go.PW.PrintWords Go.PW.PrintLast Go.PW.PrintMore Go.Proofs.Ytaepgogafkmooaa.PB Go.Proofs.Ytaepgogafkmooaa.SM
theorem isH_iff (t : ByteArray) : isH t = true ↔ t.toList = ([104] : List UInt8) := by unfold isH; rw [beq_iff_eq]
theorem isV_iff (t : ByteArray) : isV t = true ↔ t.toList = ([118] : List UInt8) := by unfold isV; rw [beq_iff_eq]
def newName (n : Nat) (x : Int) : Int := if x = n then 122 else if x = 25 then 97 + n else 97 + x
theorem newName_inj (n : Nat) (S : Int → Prop) : InjOn (newName n) S := by
 intro a b _ _ e
 unfold newName at e
 by_cases h1 : a = n <;> by_cases h2 : a = 25 <;> by_cases h3 : b = n <;> by_cases h4 : b = 25 <;> simp only [h1, h2, h3, h4, if_true, if_false] at e <;> omega
theorem split_j1_false (p : List ByteArray) (k a b c d : Int) : Evs (fun q => spec_PlanSplit.j1 q p k a b c d false) ([], false) := by
 refine Evs.step (h := fun _ => some ([], false)) (fun q => ?_) (Evs.const _)
 show spec_PlanSplit.j1 (q + 1) p k a b c d false = _
 simp only [spec_PlanSplit.j1, Bool.false_eq_true, if_false, l1None_f, Option.bind_some]
theorem split_j0_none (p : List ByteArray) (t : ByteArray) (hV : isV t = false) (k a b c d : Int) : Evs (fun q => spec_PlanSplit.j0 q p t k a b c d false) ([], false) := by
 have hv : ¬ t.toList = ([118] : List UInt8) := fun h => by rw [(isV_iff t).2 h] at hV; cases hV
 refine Evs.step (h := fun q => spec_PlanSplit.j1 q p k a b c d false) (fun q => ?_) (split_j1_false p k a b c d)
 show spec_PlanSplit.j0 (q + 1) p t k a b c d false = _
 simp only [spec_PlanSplit.j0, Bool.false_eq_true, if_false, if_neg hv]
theorem split_none {p : List ByteArray} (a : Int) (t : ByteArray) (k : Int) : Evs (fun q => if (false = true) then ((spec_l1Room.f q p a).bind fun bt205 => (if t.toList = ([104] : List UInt8) then ((spec_l6In.f k 1 (wrap64 (bt205.2.2.1 - 1))).bind fun t209 => (spec_PlanSplit.j0 q p t k bt205.1 bt205.2.1 bt205.2.2.1 bt205.2.2.2 t209)) else (spec_PlanSplit.j0 q p t k bt205.1 bt205.2.1 bt205.2.2.1 bt205.2.2.2 false))) else ((spec_l1None.f).bind fun bt201 => (some (bt201.1, bt201.2)))) ([], false) := by
 refine Evs.congr (h := fun _ => some ([], false)) (fun q => ?_) (Evs.const _)
 rw [if_neg (by simp), l1None_f]
 rfl
theorem split_val {p : List ByteArray} {cs : List (List Int)} {rs : List Rc} (F : PlanFacts p cs rs) (room : Int) (t : ByteArray) (k : Int) (T H L M : Nat) (hcell : ∀ r c, r < cs.length → c < zap cs → ((zba cs r c = room ∧ behindB (rs.getD room.toNat zco) t k r c = true) ↔ putB T L H M r c)) :
  doneF (putR p T H L M 122) = planF (zbn cs.length (zap cs) (splitG cs rs room t k)) := by
 have h9 := F.ok.many
 refine put_done F T H L M 122 (by omega) (by omega) (newName rs.length) (newName_inj rs.length) (splitG cs rs room t k) (fun r c hr hc => ?_)
 have hc2 := hcell r c hr hc
 have hv := valAt_range F.ok r c hr hc
 unfold splitG
 by_cases h : zba cs r c = room ∧ behindB (rs.getD room.toNat zco) t k r c = true
 ·rw [if_pos h, if_pos (hc2.1 h)]
  unfold newName
  rw [if_pos rfl]
 ·rw [if_neg h, if_neg (fun z => h (hc2.2 z))]
  unfold newName
  rw [if_neg (by omega), if_neg (by omega)]
theorem PlanSplit_ev (p : List ByteArray) (a : Int) (t : ByteArray) (k : Int) (hp : smallP p) : Evs (fun q => spec_PlanSplit.f q p a t k) (splitF p a t k) := by
 have ha := l1Given_ev p a hp
 cases hF : zcn p with
 | none =>
  have e1 : givenB p a = false := by unfold givenB; rw [hF]
  have e2 : splitF p a t k = ([], false) := by unfold splitF; rw [hF]
  rw [e1] at ha
  rw [e2]
  exact Evs.bind ha (split_none a t k)
 | some z =>
  obtain ⟨cs, rs⟩ := z
  have e1 : givenB p a = hasB rs a := by unfold givenB; rw [hF]
  have e2 : splitF p a t k = if hasB rs a && (isH t || isV t) then
   if 1 ≤ k ∧ k < (if isH t then (rs.getD a.toNat zco).f2 else (rs.getD a.toNat zco).f3) then planF (zbn cs.length (zap cs) (splitG cs rs a t k)) else ([], false)
   else ([], false) := by unfold splitF; rw [hF]
  rw [e1] at ha
  rw [e2]
  cases hA : hasB rs a with
  | false =>
   rw [hA] at ha
   exact Evs.bind ha (split_none a t k)
  | true =>
   rw [hA] at ha
   have F := floor_facts hF
   have hsm := gridOk_small F.canon.grid
   have hL := F.ok.many
   have o1 := F.ok.h1
   have o6 := F.ok.h6
   have q1 := F.len
   unfold hasB at hA
   rw [Bool.and_eq_true, decide_eq_true_eq, decide_eq_true_eq] at hA
   obtain ⟨i, rfl⟩ := Int.eq_ofNat_of_zero_le hA.1
   have hi : i < rs.length := by omega
   have hR := l1Room_ev p _ hsm (by omega) (i : Int)
   obtain ⟨c1, c2, c3⟩ := F.canon.room i (by rw [← F.rooms]; exact hi)
   rw [← F.rooms] at c1 c3
   rw [c1] at hR
   have hcell := room_cells hF i hi
   obtain ⟨b1, b2, b3, b4, b5, b6⟩ := c3
   have w6 := hsm.wide
   rw [F.wide] at b6 w6
   rw [F.wide] at hsm
   rw [Int.toNat_natCast]
   have hvalue := fun T H L M h => split_val F (i : Int) t k T H L M h
   rw [Int.toNat_natCast] at hvalue
   unfold behindB at hvalue
   generalize rs.getD i zco = bx at *
   refine Evs.bind ha ?_
   refine Evs.congr (h := fun q => (spec_l1Room.f q p (i : Int)).bind fun bt205 => (if t.toList = ([104] : List UInt8) then ((spec_l6In.f k 1 (wrap64 (bt205.2.2.1 - 1))).bind fun t209 => (spec_PlanSplit.j0 q p t k bt205.1 bt205.2.1 bt205.2.2.1 bt205.2.2.2 t209)) else (spec_PlanSplit.j0 q p t k bt205.1 bt205.2.1 bt205.2.2.1 bt205.2.2.2 false))) (fun q => by rw [if_pos rfl]) (Evs.bind hR ?_)
   dsimp only
   cases hH : isH t with
   | true =>
    have hV := isHV hH
    rw [hV] at hvalue
    refine Evs.pos ((isH_iff t).1 hH) ?_
    rw [zat (x := bx.f2 - 1) (by omega) (by omega)]
    refine Evs.bindS (l6In_f k 1 (bx.f2 - 1)) ?_
    simp only [Bool.true_or, Bool.and_self, if_true]
    by_cases hk : 1 ≤ k ∧ k < bx.f2
    ·rw [if_pos hk, show (decide (1 ≤ k) && decide (k ≤ bx.f2 - 1)) = true by rw [Bool.and_eq_true, decide_eq_true_eq, decide_eq_true_eq]; omega]
     have hput := put_f hsm (bx.f0 + k) bx.f1 (bx.f2 - k) bx.f3 122 (by omega) b2 (by omega) (by omega) (by omega) b6 (by omega) (by omega)
     have hd := hvalue (bx.f0 + k).toNat (bx.f2 - k).toNat bx.f1.toNat bx.f3.toNat (fun r c hr hc => by
      have hc2 := hcell r c hr hc
      rw [hc2, hH]
      simp only [Bool.true_and, Bool.false_and, Bool.or_false, decide_eq_true_eq]
      unfold putB
      omega)
     have hdn := l1Done_ev _ (small_put hsm (bx.f0 + k).toNat (bx.f2 - k).toNat bx.f1.toNat bx.f3.toNat 122)
     rw [hd] at hdn
     refine Evs.step (h := fun q => (spec_l1Put.f p (wrap64 (bx.f0 + k)) bx.f1 (wrap64 (bx.f2 - k)) bx.f3 122).bind fun t210 => ((spec_l1Done.f q t210).bind fun bt213 => (some (bt213.1, bt213.2)))) (fun q => ?_) ?_
     ·show spec_PlanSplit.j0 (q + 1) p t k bx.f0 bx.f1 bx.f2 bx.f3 true = _
      simp only [spec_PlanSplit.j0, if_true]
     ·rw [zat (x := bx.f0 + k) (by omega) (by omega), zat (x := bx.f2 - k) (by omega) (by omega), hput]
      simp only [Option.bind_some]
      exact Evs.bind hdn (Evs.const _)
    ·rw [if_neg hk, show (decide (1 ≤ k) && decide (k ≤ bx.f2 - 1)) = false by rw [← Bool.not_eq_true, Bool.and_eq_true, decide_eq_true_eq, decide_eq_true_eq]; omega]
     exact split_j0_none p t hV k _ _ _ _
   | false =>
    have hnh : ¬ t.toList = ([104] : List UInt8) := fun h => by rw [(isH_iff t).2 h] at hH; cases hH
    refine Evs.neg hnh ?_
    cases hV : isV t with
    | false =>
     simp only [Bool.false_or, Bool.and_false, Bool.false_eq_true, if_false]
     exact split_j0_none p t hV k _ _ _ _
    | true =>
     rw [hV] at hvalue
     simp only [Bool.false_or, Bool.and_self, if_true, Bool.false_eq_true, if_false]
     refine Evs.step (h := fun q => (spec_l6In.f k 1 (wrap64 (bx.f3 - 1))).bind fun t217 => (spec_PlanSplit.j1 q p k bx.f0 bx.f1 bx.f2 bx.f3 t217)) (fun q => ?_) ?_
     ·show spec_PlanSplit.j0 (q + 1) p t k bx.f0 bx.f1 bx.f2 bx.f3 false = _
      simp only [spec_PlanSplit.j0, Bool.false_eq_true, if_false, if_pos ((isV_iff t).1 hV)]
     rw [zat (x := bx.f3 - 1) (by omega) (by omega)]
     refine Evs.bindS (l6In_f k 1 (bx.f3 - 1)) ?_
     by_cases hk : 1 ≤ k ∧ k < bx.f3
     ·rw [if_pos hk, show (decide (1 ≤ k) && decide (k ≤ bx.f3 - 1)) = true by rw [Bool.and_eq_true, decide_eq_true_eq, decide_eq_true_eq]; omega]
      have hput := put_f hsm bx.f0 (bx.f1 + k) bx.f2 (bx.f3 - k) 122 b1 (by omega) (by omega) (by omega) b5 (by omega) (by omega) (by omega)
      have hd := hvalue bx.f0.toNat bx.f2.toNat (bx.f1 + k).toNat (bx.f3 - k).toNat (fun r c hr hc => by
       have hc2 := hcell r c hr hc
       rw [hc2, hH]
       simp only [Bool.true_and, Bool.false_and, Bool.false_or, decide_eq_true_eq]
       unfold putB
       omega)
      have hdn := l1Done_ev _ (small_put hsm bx.f0.toNat bx.f2.toNat (bx.f1 + k).toNat (bx.f3 - k).toNat 122)
      rw [hd] at hdn
      refine Evs.step (h := fun q => (spec_l1Put.f p bx.f0 (wrap64 (bx.f1 + k)) bx.f2 (wrap64 (bx.f3 - k)) 122).bind fun t218 => ((spec_l1Done.f q t218).bind fun bt221 => (some (bt221.1, bt221.2)))) (fun q => ?_) ?_
      ·show spec_PlanSplit.j1 (q + 1) p k bx.f0 bx.f1 bx.f2 bx.f3 true = _
       simp only [spec_PlanSplit.j1, if_true]
      ·rw [zat (x := bx.f1 + k) (by omega) (by omega), zat (x := bx.f3 - k) (by omega) (by omega), hput]
       simp only [Option.bind_some]
       exact Evs.bind hdn (Evs.const _)
     ·rw [if_neg hk, show (decide (1 ≤ k) && decide (k ≤ bx.f3 - 1)) = false by rw [← Bool.not_eq_true, Bool.and_eq_true, decide_eq_true_eq, decide_eq_true_eq]; omega]
      exact split_j1_false p k _ _ _ _
theorem xor_nonneg {a b : Int} (ha : 0 ≤ a) (hb : 0 ≤ b) (ha' : a < 1099511627776) (hb' : b < 1099511627776) : 0 ≤ Go.bits .xor .i64 a b := by
 obtain ⟨x, rfl⟩ := Int.eq_ofNat_of_zero_le ha
 obtain ⟨y, rfl⟩ := Int.eq_ofNat_of_zero_le hb
 have hx : x < 2 ^ 40 := by omega
 have hy : y < 2 ^ 40 := by omega
 have h := Nat.xor_lt_two_pow hx hy
 simp only [Go.bits, BitVec.ofInt_natCast, BitVec.toNat_xor, BitVec.toNat_ofNat]
 rw [Nat.mod_eq_of_lt (show x < 2 ^ IntKind.i64.bits by show x < 2 ^ 64; omega), Nat.mod_eq_of_lt (show y < 2 ^ IntKind.i64.bits by show y < 2 ^ 64; omega), IntKind.wrap_i64]
 omega
theorem tmod_in {x n : Int} (hx : 0 ≤ x) (hn : 1 ≤ n) : 0 ≤ Int.tmod x n ∧ Int.tmod x n < n := ⟨Int.tmod_nonneg _ hx, Int.tmod_lt_of_pos _ (by omega)⟩
structure RdB (b : List Int) : Prop where
 len : b.length ≤ 2000
 val : ∀ x ∈ b, 0 ≤ x ∧ x ≤ 255
theorem RdB.byte {b : List Int} (h : RdB b) (i : Int) : 0 ≤ rd b i ∧ rd b i ≤ 255 := by
 unfold rd
 rw [ycn]
 cases e : b[i.toNat]? with
 | none => simp
 | some x => exact h.val x (List.mem_of_getElem? e)
theorem pick_j0_true (b : List Int) (q n : Int) : Evs (fun k => spec_l6Rd_pick.j0 k n true b q) (0, q) := by
 refine Evs.step (h := fun _ => some (0, q)) (fun k => ?_) (Evs.const _)
 show spec_l6Rd_pick.j0 (k + 1) n true b q = _
 simp only [spec_l6Rd_pick.j0, if_true]
theorem pick_ev (b : List Int) (h : RdB b) (q : Nat) (hq : q ≤ 1000000) (n : Int) : ∃ v, Evs (fun k => spec_l6Rd_pick.f k b (q : Int) n) (v, ((q + 1 : Nat) : Int)) ∧ 0 ≤ v ∧ (1 ≤ n → v < n) ∧ (n < 1 → v = 0) := by
 have hw : wrap64 ((q : Int) + 1) = ((q + 1 : Nat) : Int) := by rw [zat (by omega) (by omega)]; omega
 by_cases hn : n < 1
 ·refine ⟨0, ?_, Int.le_refl _, fun h => by omega, fun _ => rfl⟩
  refine Evs.congr (fun k => ?_) (pick_j0_true b ((q + 1 : Nat) : Int) n)
  unfold spec_l6Rd_pick.f
  rw [if_pos hn, hw]
 ·by_cases hl : b.length = 0
  ·refine ⟨0, ?_, Int.le_refl _, fun h => by omega, fun h => absurd h hn⟩
   refine Evs.congr (fun k => ?_) (pick_j0_true b ((q + 1 : Nat) : Int) n)
   unfold spec_l6Rd_pick.f
   rw [if_neg hn, hw, show ((b.length : Int) == 0) = true by rw [beq_iff_eq]; omega]
  ·have hlen := h.len
   have e1 : wrap64 (((q + 1 : Nat) : Int) - 1) = (q : Int) := by rw [zat (by omega) (by omega)]; omega
   have main : ∃ v, (∀ k, spec_l6Rd_pick.j0 (k + 1) n false b ((q + 1 : Nat) : Int) = some (v, ((q + 1 : Nat) : Int))) ∧ 0 ≤ v ∧ v < n := by
    by_cases hql : (q : Int) < (b.length : Int)
    ·have hr := h.byte (q : Int)
     obtain ⟨t0, t1⟩ := tmod_in (x := rd b (q : Int)) (n := n) hr.1 (by omega)
     refine ⟨Int.tmod (rd b (q : Int)) n, fun k => ?_, t0, t1⟩
     simp only [spec_l6Rd_pick.j0, Bool.false_eq_true, if_false]
     rw [e1, if_pos hql, if_pos (by omega), if_neg (by omega), zat (x := rd b (q : Int)) (by omega) (by omega)]
    ·have i1 := tmod_in (x := (q : Int)) (n := (b.length : Int)) (by omega) (by omega)
     have e2 : wrap64 (wrap64 ((q : Int) * 7) + 3) = (q : Int) * 7 + 3 := by rw [zat (x := (q : Int) * 7) (by omega) (by omega), zat (by omega) (by omega)]
     have i2 := tmod_in (x := (q : Int) * 7 + 3) (n := (b.length : Int)) (by omega) (by omega)
     have r1 := h.byte (Int.tmod (q : Int) (b.length : Int))
     have r2 := h.byte (Int.tmod ((q : Int) * 7 + 3) (b.length : Int))
     have d1 : 0 ≤ Int.tdiv (q : Int) (b.length : Int) ∧ Int.tdiv (q : Int) (b.length : Int) ≤ 1000000 := by
      rw [Int.tdiv_eq_ediv_of_nonneg (by omega)]
      refine ⟨Int.ediv_nonneg (by omega) (by omega), Int.le_trans (Int.ediv_le_self _ (by omega)) (by omega)⟩
     have key : ∃ v, (∀ k, spec_l6Rd_pick.j0 (k + 1) n false b ((q + 1 : Nat) : Int) = some (v, ((q + 1 : Nat) : Int))) ∧ 0 ≤ v ∧ v < n := by
      have hform : ∀ k, spec_l6Rd_pick.j0 (k + 1) n false b ((q + 1 : Nat) : Int) = some (Int.tmod (Go.bits .xor .i64 (rd b (Int.tmod (q : Int) (b.length : Int)) * 131 + rd b (Int.tmod ((q : Int) * 7 + 3) (b.length : Int)) * 1117 + (q : Int) * 29 + Int.tdiv (q : Int) (b.length : Int) * 53) (wrap64 (Int.tdiv (rd b (Int.tmod (q : Int) (b.length : Int)) * 131 + rd b (Int.tmod ((q : Int) * 7 + 3) (b.length : Int)) * 1117 + (q : Int) * 29 + Int.tdiv (q : Int) (b.length : Int) * 53) 64))) n, ((q + 1 : Nat) : Int)) := fun k => by
       simp only [spec_l6Rd_pick.j0, Bool.false_eq_true, if_false]
       rw [e1, if_neg hql, if_neg (by omega), if_pos i1.1, if_pos i1.2, e2, if_pos i2.1, if_pos i2.2, if_neg (by omega)]
       generalize rd b (Int.tmod (q : Int) (b.length : Int)) = a at *
       generalize rd b (Int.tmod ((q : Int) * 7 + 3) (b.length : Int)) = c at *
       generalize Int.tdiv (q : Int) (b.length : Int) = d at *
       rw [zat (x := a) (by omega) (by omega), zat (x := a * 131) (by omega) (by omega), zat (x := c) (by omega) (by omega), zat (x := c * 1117) (by omega) (by omega), zat (x := a * 131 + c * 1117) (by omega) (by omega), zat (x := (q : Int) * 29) (by omega) (by omega), zat (x := a * 131 + c * 1117 + (q : Int) * 29) (by omega) (by omega), zat (x := d) (by omega) (by omega), zat (x := d * 53) (by omega) (by omega), zat (x := a * 131 + c * 1117 + (q : Int) * 29 + d * 53) (by omega) (by omega)]
      have hX : 0 ≤ rd b (Int.tmod (q : Int) (b.length : Int)) * 131 + rd b (Int.tmod ((q : Int) * 7 + 3) (b.length : Int)) * 1117 + (q : Int) * 29 + Int.tdiv (q : Int) (b.length : Int) * 53 ∧ rd b (Int.tmod (q : Int) (b.length : Int)) * 131 + rd b (Int.tmod ((q : Int) * 7 + 3) (b.length : Int)) * 1117 + (q : Int) * 29 + Int.tdiv (q : Int) (b.length : Int) * 53 < 1099511627776 := by omega
      generalize rd b (Int.tmod (q : Int) (b.length : Int)) * 131 + rd b (Int.tmod ((q : Int) * 7 + 3) (b.length : Int)) * 1117 + (q : Int) * 29 + Int.tdiv (q : Int) (b.length : Int) * 53 = X at *
      have hd : 0 ≤ Int.tdiv X 64 ∧ Int.tdiv X 64 ≤ X := by
       rw [Int.tdiv_eq_ediv_of_nonneg hX.1]
       exact ⟨Int.ediv_nonneg hX.1 (by omega), Int.ediv_le_self _ hX.1⟩
      rw [zat (x := Int.tdiv X 64) (by omega) (by omega)] at hform
      obtain ⟨t0, t1⟩ := tmod_in (n := n) (xor_nonneg hX.1 hd.1 hX.2 (by omega)) (by omega)
      exact ⟨_, hform, t0, t1⟩
     exact key
   obtain ⟨v, hv, v0, v1⟩ := main
   refine ⟨v, ?_, v0, fun _ => v1, fun h => absurd h hn⟩
   refine Evs.congr (h := fun k => spec_l6Rd_pick.j0 k n false b ((q + 1 : Nat) : Int)) (fun k => ?_) (Evs.step (h := fun _ => some (v, ((q + 1 : Nat) : Int))) hv (Evs.const _))
   unfold spec_l6Rd_pick.f
   rw [if_neg hn, hw, show ((b.length : Int) == 0) = false by rw [beq_eq_false_iff_ne]; omega]
theorem of_ev (b : List Int) (h : RdB b) (q : Nat) (hq : q ≤ 1000000) (L : List ByteArray) (hL : 1 ≤ L.length) : ∃ s, Evs (fun k => spec_l6Rd_of.f k b (q : Int) L) (s, ((q + 1 : Nat) : Int)) ∧ s ∈ L := by
 obtain ⟨v, hv, v0, v1, -⟩ := pick_ev b h q hq (L.length : Int)
 have hv1 := v1 (by omega)
 obtain ⟨i, rfl⟩ := Int.eq_ofNat_of_zero_le v0
 refine ⟨rdOf yco L (i : Int), Evs.bind hv (Evs.pos (by omega) (Evs.pos hv1 (Evs.const _))), ?_⟩
 rw [rdOf_get L i (by omega)]
 exact List.getElem_mem _
theorem open_ev (l : List Int) (hv : ∀ x ∈ l, 0 ≤ x ∧ x ≤ 255) : ∃ b, spec_l6Open.f l = some (b, 0) ∧ RdB b := by
 unfold spec_l6Open.f
 by_cases h : (l.length : Int) > 2000
 ·rw [if_pos h, if_pos (by omega)]
  exact ⟨_, rfl, by simp; omega, fun x hx => hv x (List.mem_of_mem_take hx)⟩
 ·rw [if_neg h]
  exact ⟨_, rfl, by omega, hv⟩
theorem empty_l1 (n m : Nat) (hm : m ≤ 100) (i : Nat) (hi : i ≤ 100) (x5 : List ByteArray) (h5 : x5.length ≤ 100) (r : List ByteArray) (hnext : Evs (fun k => spec_l91Empty.l0 k (n : Int) (m : Int) (x5 ++ [strOfNums (List.replicate m 97)]) ((i + 1 : Nat) : Int)) r) :
  ∀ d j, j + d = m → Evs (fun k => spec_l91Empty.l1 k (n : Int) (m : Int) x5 (i : Int) (List.replicate j 97) (j : Int)) r := by
 intro d
 induction d with
 | zero =>
  intro j hj
  obtain rfl : j = m := by omega
  refine Evs.step (fun k => ?_) hnext
  conv => lhs; unfold spec_l91Empty.l1
  rw [if_neg (by omega), if_pos (by omega), zbg (by omega)]
 | succ d ih =>
  intro j hj
  have hnx := ih (j + 1) (by omega)
  rw [List.replicate_succ'] at hnx
  refine Evs.step (fun k => ?_) hnx
  conv => lhs; unfold spec_l91Empty.l1
  rw [if_pos (by omega), if_pos (by simp; omega), zbg (by omega)]
theorem empty_l0 (n m : Nat) (hn : n ≤ 100) (hm : m ≤ 100) : ∀ d i, i + d = n → Evs (fun k => spec_l91Empty.l0 k (n : Int) (m : Int) (List.replicate i (strOfNums (List.replicate m 97))) (i : Int)) (List.replicate n (strOfNums (List.replicate m 97))) := by
 intro d
 induction d with
 | zero =>
  intro i hi
  obtain rfl : i = n := by omega
  refine Evs.step (h := fun _ => some (List.replicate i (strOfNums (List.replicate m 97)))) (fun k => ?_) (Evs.const _)
  conv => lhs; unfold spec_l91Empty.l0
  rw [if_neg (by omega)]
 | succ d ih =>
  intro i hi
  have hnx := ih (i + 1) (by omega)
  rw [List.replicate_succ'] at hnx
  have := empty_l1 n m hm i (by omega) (List.replicate i (strOfNums (List.replicate m 97))) (by simp; omega) _ hnx m 0 (by omega)
  refine Evs.step (fun k => ?_) this
  conv => lhs; unfold spec_l91Empty.l0
  rw [if_pos (by omega)]
  rfl
theorem Empty_ev (n m : Nat) (hn : n ≤ 100) (hm : m ≤ 100) : ∃ p, Evs (fun k => spec_l91Empty.f k (n : Int) (m : Int)) p ∧ Mid p m ∧ p.length = n := by
 refine ⟨_, empty_l0 n m hn hm n 0 (by omega), ⟨by simp; omega, hm, fun s hs => ?_⟩, by simp⟩
 rw [List.eq_of_mem_replicate hs]
 show (List.map _ (List.replicate m (97 : Int))).toArray.size = m
 simp
theorem rowText_size (row : List Int) : (rowText row).size = row.length := by
 show (List.map letterOf row).toArray.size = _
 simp
theorem planF_mid {h w : Nat} {g : Nat → Nat → Int} {p : List ByteArray} (h1 : 1 ≤ h) (e : planF (zbn h w g) = (p, true)) : Mid p w ∧ p.length = h := by
 rcases planF_cases (zbn h w g) with ⟨hO, hp⟩ | ⟨_, hp⟩
 ·rw [hp] at e
  injection e with e1 _
  subst e1
  obtain ⟨s1, s2, s3, s4, s5⟩ := (zcr _).1 hO.shape
  rw [zbj] at s1 s2
  have hw : zap (zbn h w g) = w := by
   have := gridOf_get (hi := h) (wi := w) (g := g) (r := 0) (by omega)
   unfold zap
   rw [ycn, this]
   simp
  rw [hw] at s3 s4
  have hl : (zbw (canon (zbn h w g))).length = h := by rw [text_length, zbj]
  refine ⟨⟨by omega, by omega, fun s hs => ?_⟩, hl⟩
  obtain ⟨r, hr, rfl⟩ := List.mem_map.1 hs
  rw [rowText_size]
  unfold canon canonL at hr
  obtain ⟨r0, hr0, rfl⟩ := List.mem_map.1 hr
  rw [List.length_map]
  exact gridOf_row r0 hr0
 ·rw [hp] at e
  injection e with _ e2
  cases e2
theorem split_mid {p : List ByteArray} {m : Nat} (h : Mid p m) (h1 : 1 ≤ p.length) {a k : Int} {t : ByteArray} {r : List ByteArray} (e : splitF p a t k = (r, true)) : Mid r m ∧ r.length = p.length := by
 unfold splitF at e
 cases hF : zcn p with
 | none => rw [hF] at e; injection e with _ e; cases e
 | some z =>
  obtain ⟨cs, rs⟩ := z
  rw [hF] at e
  have F := floor_facts hF
  dsimp only at e
  split at e
  ·by_cases hc : 1 ≤ k ∧ k < (if isH t = true then (rs.getD a.toNat zco).f2 else (rs.getD a.toNat zco).f3)
   ·rw [if_pos hc] at e
    have hw : zap cs = m := by
     rw [← F.wide, wideOf_numsOf]
     refine h.row _ ?_
     rw [ycn, List.getElem?_eq_getElem (by omega)]
     exact List.getElem_mem _
    obtain ⟨q1, q2⟩ := planF_mid F.ok.h1 e
    rw [hw] at q1
    exact ⟨q1, by rw [q2, F.len]⟩
   ·rw [if_neg hc] at e
    injection e with _ e
    cases e
  ·injection e with _ e
   cases e
theorem cut_l0 (b : List Int) (hb : RdB b) (many m n : Nat) (hmany : many ≤ 1000) (hn : 1 ≤ n) : ∀ d t (p : List ByteArray) (q : Nat), t + d = many → Mid p m → p.length = n → q + 3 * d ≤ 100000 → ∃ p' q', Evs (fun k => spec_l91Cut.l0 k p (many : Int) (t : Int) b (q : Int)) (p', ((q' : Nat) : Int)) ∧ Mid p' m ∧ p'.length = n ∧ q' ≤ q + 3 * d := by
 intro d
 induction d with
 | zero =>
  intro t p q ht hp hl hq
  refine ⟨p, q, Evs.step (h := fun _ => some (p, (q : Int))) (fun k => ?_) (Evs.const _), hp, hl, by omega⟩
  conv => lhs; unfold spec_l91Cut.l0
  rw [if_neg (by omega)]
 | succ d ih =>
  intro t p q ht hp hl hq
  obtain ⟨rm, _, _, hrm⟩ := l1Rooms_any p hp.lil
  obtain ⟨v1, hv1, -, -, -⟩ := pick_ev b hb q (by omega) rm
  obtain ⟨s, hs, -⟩ := of_ev b hb (q + 1) (by omega) [(⟨#[104]⟩ : ByteArray), (⟨#[118]⟩ : ByteArray)] (by simp)
  obtain ⟨v2, hv2, -, -, -⟩ := pick_ev b hb (q + 1 + 1) (by omega) 3
  have hsp := PlanSplit_ev p v1 s (wrap64 (1 + v2)) hp.lil.small
  rcases hr : splitF p v1 s (wrap64 (1 + v2)) with ⟨r, ok⟩
  rw [hr] at hsp
  cases ok with
  | true =>
   obtain ⟨m1, m2⟩ := split_mid hp (by omega) hr
   obtain ⟨p', q', hE, h1, h2, h3⟩ := ih (t + 1) r (q + 1 + 1 + 1) (by omega) m1 (by omega) (by omega)
   refine ⟨p', q', Evs.step (h := fun k => ((spec_l1Rooms.f k p).bind fun t221 => ((spec_l6Rd_pick.f k b (q : Int) t221).bind fun bt222 => ((spec_l6Rd_of.f k b bt222.2 (([(⟨#[104]⟩ : ByteArray), (⟨#[118]⟩ : ByteArray)] : List ByteArray))).bind fun bt227 => ((spec_l6Rd_pick.f k b bt227.2 3).bind fun bt229 => ((spec_PlanSplit.f k p bt222.1 bt227.1 (wrap64 (1 + bt229.1))).bind fun bt231 => (if bt231.2 = true then (spec_l91Cut.l0 k bt231.1 (many : Int) (wrap64 ((t : Int) + 1)) b bt229.2) else (spec_l91Cut.l0 k p (many : Int) (wrap64 ((t : Int) + 1)) b bt229.2)))))))) (fun k => ?_) (Evs.bind hrm (Evs.bind hv1 (Evs.bind hs (Evs.bind hv2 (Evs.bind hsp (Evs.pos rfl ?_)))))), h1, h2, by omega⟩
   ·conv => lhs; unfold spec_l91Cut.l0
    rw [if_pos (by omega)]
   ·rw [zbg (by omega)]
    exact hE
  | false =>
   obtain ⟨p', q', hE, h1, h2, h3⟩ := ih (t + 1) p (q + 1 + 1 + 1) (by omega) hp hl (by omega)
   refine ⟨p', q', Evs.step (h := fun k => ((spec_l1Rooms.f k p).bind fun t221 => ((spec_l6Rd_pick.f k b (q : Int) t221).bind fun bt222 => ((spec_l6Rd_of.f k b bt222.2 (([(⟨#[104]⟩ : ByteArray), (⟨#[118]⟩ : ByteArray)] : List ByteArray))).bind fun bt227 => ((spec_l6Rd_pick.f k b bt227.2 3).bind fun bt229 => ((spec_PlanSplit.f k p bt222.1 bt227.1 (wrap64 (1 + bt229.1))).bind fun bt231 => (if bt231.2 = true then (spec_l91Cut.l0 k bt231.1 (many : Int) (wrap64 ((t : Int) + 1)) b bt229.2) else (spec_l91Cut.l0 k p (many : Int) (wrap64 ((t : Int) + 1)) b bt229.2)))))))) (fun k => ?_) (Evs.bind hrm (Evs.bind hv1 (Evs.bind hs (Evs.bind hv2 (Evs.bind hsp (Evs.neg (by simp) ?_)))))), h1, h2, by omega⟩
   ·conv => lhs; unfold spec_l91Cut.l0
    rw [if_pos (by omega)]
   ·rw [zbg (by omega)]
    exact hE
theorem Cut_ev (b : List Int) (hb : RdB b) (q : Nat) (hq : q ≤ 10000) (p : List ByteArray) (m : Nat) (hp : Mid p m) (h1 : 1 ≤ p.length) (many : Int) (h0 : 0 ≤ many) (hm : many ≤ 100) : ∃ p' q', Evs (fun k => spec_l91Cut.f k b (q : Int) p many) (p', ((q' : Nat) : Int)) ∧ Mid p' m ∧ p'.length = p.length ∧ q' ≤ q + 300 := by
 obtain ⟨n, rfl⟩ := Int.eq_ofNat_of_zero_le h0
 obtain ⟨p', q', hE, h1, h2, h3⟩ := cut_l0 b hb n m p.length (by omega) h1 n 0 p q (by omega) hp rfl (by omega)
 exact ⟨p', q', hE, h1, h2, by omega⟩
theorem plan_j1 (b : List Int) (hb : RdB b) (q : Nat) (hq : q ≤ 1000) (n m : Nat) (n1 : 1 ≤ n) (n7 : n ≤ 10) (m7 : m ≤ 10) (c : Bool) (hc : c = true → n = 4 ∧ m = 4) : ∃ p q', Evs (fun k => spec_l91Plan.j1 k (n : Int) (m : Int) c b (q : Int)) (p, ((q' : Nat) : Int)) ∧ Mid p m ∧ p.length = n ∧ q' ≤ q + 400 := by
 cases c with
 | true =>
  obtain ⟨rfl, rfl⟩ := hc rfl
  obtain ⟨v, hv, v0, v1, -⟩ := pick_ev b hb q (by omega) 4
  obtain ⟨p, q', hE, h1, h2, h3⟩ := Cut_ev b hb (q + 1) (by omega) [(⟨#[97, 97, 97, 98]⟩ : ByteArray), (⟨#[99, 100, 100, 98]⟩ : ByteArray), (⟨#[99, 100, 100, 98]⟩ : ByteArray), (⟨#[99, 101, 101, 101]⟩ : ByteArray)] 4 ⟨by simp, by omega, fun s hs => by simp at hs; rcases hs with rfl | rfl | rfl <;> rfl⟩ (by simp) v v0 (by have := v1 (by omega); omega)
  refine ⟨p, q', Evs.step (h := fun k => (spec_l6Rd_pick.f k b (q : Int) 4).bind fun bt263 => ((spec_l91Cut.f k b bt263.2 (([(⟨#[97, 97, 97, 98]⟩ : ByteArray), (⟨#[99, 100, 100, 98]⟩ : ByteArray), (⟨#[99, 100, 100, 98]⟩ : ByteArray), (⟨#[99, 101, 101, 101]⟩ : ByteArray)] : List ByteArray)) bt263.1).bind fun bt265 => (some (bt265.1, bt265.2)))) (fun k => ?_) (Evs.bind hv (Evs.bind hE (Evs.const _))), h1, h2, by omega⟩
  show spec_l91Plan.j1 (k + 1) _ _ true b (q : Int) = _
  simp only [spec_l91Plan.j1, if_true]
 | false =>
  obtain ⟨e, hE0, e1, e2⟩ := Empty_ev n m (by omega) (by omega)
  obtain ⟨v, hv, v0, v1, -⟩ := pick_ev b hb q (by omega) 9
  obtain ⟨p, q', hE, h1, h2, h3⟩ := Cut_ev b hb (q + 1) (by omega) e m e1 (by omega) v v0 (by have := v1 (by omega); omega)
  refine ⟨p, q', Evs.step (h := fun k => (spec_l91Empty.f k (n : Int) (m : Int)).bind fun t269 => ((spec_l6Rd_pick.f k b (q : Int) 9).bind fun bt272 => ((spec_l91Cut.f k b bt272.2 t269 bt272.1).bind fun bt274 => (some (bt274.1, bt274.2))))) (fun k => ?_) (Evs.bind hE0 (Evs.bind hv (Evs.bind hE (Evs.const _)))), h1, by omega, by omega⟩
  show spec_l91Plan.j1 (k + 1) _ _ false b (q : Int) = _
  simp only [spec_l91Plan.j1, Bool.false_eq_true, if_false]
theorem plan_j0 (b : List Int) (hb : RdB b) (q : Nat) (hq : q ≤ 900) (n m : Nat) (n1 : 1 ≤ n) (n7 : n ≤ 10) (m7 : m ≤ 10) (c : Bool) (hc : c = true → n = 3 ∧ m = 3) : ∃ p q', Evs (fun k => spec_l91Plan.j0 k (n : Int) (m : Int) c b (q : Int)) (p, ((q' : Nat) : Int)) ∧ Mid p m ∧ p.length = n ∧ q' ≤ q + 500 := by
 cases c with
 | true =>
  obtain ⟨rfl, rfl⟩ := hc rfl
  obtain ⟨v, hv, v0, v1, -⟩ := pick_ev b hb q (by omega) 2
  obtain ⟨p, q', hE, h1, h2, h3⟩ := Cut_ev b hb (q + 1) (by omega) [(⟨#[97, 97, 98]⟩ : ByteArray), (⟨#[99, 100, 98]⟩ : ByteArray), (⟨#[99, 101, 101]⟩ : ByteArray)] 3 ⟨by simp, by omega, fun s hs => by simp at hs; rcases hs with rfl | rfl | rfl <;> rfl⟩ (by simp) v v0 (by have := v1 (by omega); omega)
  refine ⟨p, q', Evs.step (h := fun k => (spec_l6Rd_pick.f k b (q : Int) 2).bind fun bt252 => ((spec_l91Cut.f k b bt252.2 (([(⟨#[97, 97, 98]⟩ : ByteArray), (⟨#[99, 100, 98]⟩ : ByteArray), (⟨#[99, 101, 101]⟩ : ByteArray)] : List ByteArray)) bt252.1).bind fun bt254 => (some (bt254.1, bt254.2)))) (fun k => ?_) (Evs.bind hv (Evs.bind hE (Evs.const _))), h1, h2, by omega⟩
  show spec_l91Plan.j0 (k + 1) _ _ true b (q : Int) = _
  simp only [spec_l91Plan.j0, if_true]
 | false =>
  by_cases h4 : (n : Int) = 4 ∧ (m : Int) = 4
  ·obtain ⟨v, hv, v0, v1, -⟩ := pick_ev b hb q (by omega) 2
   obtain ⟨p, q', hE, h1, h2, h3⟩ := plan_j1 b hb (q + 1) (by omega) n m n1 n7 m7 (v == 0) (fun _ => by omega)
   refine ⟨p, q', Evs.step (h := fun k => (spec_l6Rd_pick.f k b (q : Int) 2).bind fun bt258 => (spec_l91Plan.j1 k (n : Int) (m : Int) (bt258.1 == 0) b bt258.2)) (fun k => ?_) (Evs.bind hv hE), h1, h2, by omega⟩
   show spec_l91Plan.j0 (k + 1) _ _ false b (q : Int) = _
   simp only [spec_l91Plan.j0, Bool.false_eq_true, if_false]
   rw [if_pos h4.1, if_pos h4.2]
  ·obtain ⟨p, q', hE, h1, h2, h3⟩ := plan_j1 b hb q (by omega) n m n1 n7 m7 false (fun h => by cases h)
   refine ⟨p, q', Evs.step (fun k => ?_) hE, h1, h2, by omega⟩
   show spec_l91Plan.j0 (k + 1) _ _ false b (q : Int) = _
   simp only [spec_l91Plan.j0, Bool.false_eq_true, if_false]
   by_cases hn : (n : Int) = 4
   ·rw [if_pos hn, if_neg (fun h => h4 ⟨hn, h⟩)]
   ·rw [if_neg hn]
theorem Plan_ev (b : List Int) (hb : RdB b) (q : Nat) (hq : q ≤ 800) (n m : Nat) (n1 : 1 ≤ n) (n7 : n ≤ 10) (m7 : m ≤ 10) : ∃ p q', Evs (fun k => spec_l91Plan.f k b (q : Int) (n : Int) (m : Int)) (p, ((q' : Nat) : Int)) ∧ Mid p m ∧ p.length = n ∧ q' ≤ q + 600 := by
 by_cases h3 : (n : Int) = 3 ∧ (m : Int) = 3
 ·obtain ⟨v, hv, v0, v1, -⟩ := pick_ev b hb q (by omega) 2
  obtain ⟨p, q', hE, h1, h2, h3'⟩ := plan_j0 b hb (q + 1) (by omega) n m n1 n7 m7 (v == 0) (fun _ => by omega)
  refine ⟨p, q', Evs.congr (h := fun k => (spec_l6Rd_pick.f k b (q : Int) 2).bind fun bt247 => (spec_l91Plan.j0 k (n : Int) (m : Int) (bt247.1 == 0) b bt247.2)) (fun k => ?_) (Evs.bind hv hE), h1, h2, by omega⟩
  unfold spec_l91Plan.f
  rw [if_pos h3.1, if_pos h3.2]
 ·obtain ⟨p, q', hE, h1, h2, h3'⟩ := plan_j0 b hb q (by omega) n m n1 n7 m7 false (fun h => by cases h)
  refine ⟨p, q', Evs.congr (fun k => ?_) hE, h1, h2, by omega⟩
  unfold spec_l91Plan.f
  by_cases hn : (n : Int) = 3
  ·rw [if_pos hn, if_neg (fun h => h3 ⟨hn, h⟩)]
  ·rw [if_neg hn]
theorem Some_ev (b : List Int) (hb : RdB b) (q : Nat) (hq : q ≤ 700) (rows cols : Int) (r1 : 1 ≤ rows) (r7 : rows ≤ 9) (c1 : 1 ≤ cols) (c7 : cols ≤ 9) : ∃ p q', Evs (fun k => spec_l91Some.f k b (q : Int) rows cols) (p, ((q' : Nat) : Int)) ∧ Lil p ∧ q' ≤ 2000 := by
 obtain ⟨v1, hv1, a0, a1, -⟩ := pick_ev b hb q (by omega) rows
 obtain ⟨v2, hv2, b0, b1, -⟩ := pick_ev b hb (q + 1) (by omega) cols
 have a1 := a1 r1
 have b1 := b1 c1
 obtain ⟨i, rfl⟩ := Int.eq_ofNat_of_zero_le a0
 obtain ⟨j, rfl⟩ := Int.eq_ofNat_of_zero_le b0
 have e1 : wrap64 (1 + (i : Int)) = ((i + 1 : Nat) : Int) := by rw [zat (by omega) (by omega)]; omega
 have e2 : wrap64 (1 + (j : Int)) = ((j + 1 : Nat) : Int) := by rw [zat (by omega) (by omega)]; omega
 obtain ⟨p, q', hE, h1, h2, h3⟩ := Plan_ev b hb (q + 1 + 1) (by omega) (i + 1) (j + 1) (by omega) (by omega) (by omega)
 obtain ⟨v3, hv3, c0, -, -⟩ := pick_ev b hb q' (by omega) 50
 have hlast : wrap64 (((i + 1 : Nat) : Int) - 1) = (i : Int) := by rw [zat (by omega) (by omega)]; omega
 have hsz : ∀ k (hk : k < p.length), (p[k]'hk).size = j + 1 := fun k hk => h1.row _ (List.getElem_mem hk)
 by_cases z0 : v3 = 0
 ·refine ⟨p.set i (rdOf yco p (i : Int) ++ (⟨#[97]⟩ : ByteArray)), q' + 1, Evs.bind hv1 (Evs.bind hv2 ?_), ⟨by rw [List.length_set]; omega, fun s hs => ?_⟩, by omega⟩
  ·dsimp only
   rw [e1, e2]
   refine Evs.bind hE (Evs.bind hv3 (Evs.pos z0 ?_))
   simp only [Option.bind_some, List.nil_append, List.length_nil]
   refine Evs.pos (by omega) ?_
   rw [hlast]
   refine Evs.pos (by omega) (Evs.pos (by omega) (Evs.pos ?_ ?_))
   ·rw [rdOf_get p i (by omega), hsz i (by omega)]; omega
   ·rw [Int.toNat_natCast]; exact Evs.const _
  ·rcases List.mem_or_eq_of_mem_set hs with h | h
   ·rw [h1.row s h]; omega
   ·subst h
    rw [rdOf_get p i (by omega), ByteArray.size_append, hsz i (by omega)]
    show j + 1 + 1 ≤ 100
    omega
 ·by_cases z1 : v3 = 1
  ·refine ⟨p.set 0 ((⟨#[122]⟩ : ByteArray) ++ ((rdOf yco p 0).extract 1 (rdOf yco p 0).size)), q' + 1, Evs.bind hv1 (Evs.bind hv2 ?_), ⟨by rw [List.length_set]; omega, fun s hs => ?_⟩, by omega⟩
   ·dsimp only
    rw [e1, e2]
    refine Evs.bind hE (Evs.bind hv3 (Evs.neg z0 (Evs.pos z1 ?_)))
    simp only [Option.bind_some, List.nil_append, List.length_nil]
    have hr0 : rdOf yco p 0 = p[0]'(by omega) := rdOf_get p 0 (by omega)
    refine Evs.pos (by omega) (Evs.pos (by omega) (Evs.pos ?_ (Evs.pos ?_ ?_)))
    ·rw [hr0, hsz 0 (by omega)]; omega
    ·rw [hr0, ByteArray.size_extract, hsz 0 (by omega)]; omega
    ·exact Evs.const _
   ·rcases List.mem_or_eq_of_mem_set hs with h | h
    ·rw [h1.row s h]; omega
    ·subst h
     have hr0 : rdOf yco p 0 = p[0]'(by omega) := rdOf_get p 0 (by omega)
     rw [ByteArray.size_append, ByteArray.size_extract, hr0, hsz 0 (by omega)]
     show 1 + _ ≤ 100
     omega
  ·refine ⟨p, q' + 1, Evs.bind hv1 (Evs.bind hv2 ?_), h1.lil, by omega⟩
   dsimp only
   rw [e1, e2]
   exact Evs.bind hE (Evs.bind hv3 (Evs.neg z0 (Evs.neg z1 (Evs.const _))))
end Go.Proofs.Ytaepgogafkmooaa.Hd
namespace Go.Proofs.Ytaepgogafkmooaa.Hd
open Go.RowKit Go.PW.PrintWords Go.PW.PrintLast Go.PW.PrintMore Go.Proofs.Ytaepgogafkmooaa.PB
theorem rd_at {p : List Int} {i : Nat} {s : Int} (h : p[i]? = some s) : rd p (i : Int) = s := by
 unfold rd; rw [Int.toNat_natCast, ycn, h]; rfl
theorem sameInts_l0 (a b : List Int) (hl : a.length = b.length) (ha : a.length ≤ 1000000) : ∀ m i, i + m = a.length → Evs (fun k => laws_sameInts.l0 k a b (i : Int)) (decide (a.drop i = b.drop i)) := by
 intro m
 induction m with
 | zero =>
  intro i hi
  refine Evs.step (h := fun _ => some (decide (a.drop i = b.drop i))) (fun k => ?_) (Evs.const _)
  conv => lhs; unfold laws_sameInts.l0
  rw [if_neg (by omega), List.drop_eq_nil_of_le (by omega), List.drop_eq_nil_of_le (by omega)]
  rfl
 | succ m ih =>
  intro i hi
  obtain ⟨s, hs⟩ : ∃ s, a[i]? = some s := ⟨_, List.getElem?_eq_getElem (by omega)⟩
  obtain ⟨t, ht⟩ : ∃ t, b[i]? = some t := ⟨_, List.getElem?_eq_getElem (by omega)⟩
  have hsd : a.drop i = s :: a.drop (i + 1) := by rw [List.drop_eq_getElem_cons (by omega)]; rw [List.getElem?_eq_getElem (by omega)] at hs; rw [Option.some.inj hs]
  have htd : b.drop i = t :: b.drop (i + 1) := by rw [List.drop_eq_getElem_cons (by omega)]; rw [List.getElem?_eq_getElem (by omega)] at ht; rw [Option.some.inj ht]
  by_cases e : s = t
  ·have hd : decide (a.drop i = b.drop i) = decide (a.drop (i + 1) = b.drop (i + 1)) := by rw [hsd, htd, e]; simp
   rw [hd]
   refine Evs.step (h := fun k => laws_sameInts.l0 k a b ((i + 1 : Nat) : Int)) (fun k => ?_) (ih (i + 1) (by omega))
   conv => lhs; unfold laws_sameInts.l0
   rw [if_pos (by omega), if_pos (by omega), if_pos (by omega), rd_at hs, rd_at ht, if_pos e, zbg (by omega)]
  ·have hd : decide (a.drop i = b.drop i) = false := by rw [hsd, htd]; simp [e]
   rw [hd]
   refine Evs.step (h := fun _ => some false) (fun k => ?_) (Evs.const _)
   conv => lhs; unfold laws_sameInts.l0
   rw [if_pos (by omega), if_pos (by omega), if_pos (by omega), rd_at hs, rd_at ht, if_neg e]
theorem sameInts_ev (a b : List Int) (ha : a.length ≤ 1000000) : Evs (fun k => laws_sameInts.f k a b) (decide (a = b)) := by
 by_cases hl : a.length = b.length
 ·refine Evs.congr (h := fun k => laws_sameInts.l0 k a b ((0 : Nat) : Int)) (fun k => ?_) (sameInts_l0 a b hl ha a.length 0 (by omega))
  unfold laws_sameInts.f
  rw [if_pos (by omega)]; rfl
 ·have : decide (a = b) = false := by simp; intro h; rw [h] at hl; exact hl rfl
  rw [this]
  refine Evs.congr (h := fun _ => some false) (fun k => ?_) (Evs.const _)
  unfold laws_sameInts.f
  rw [if_neg (by omega)]
theorem sameInts_refl (a : List Int) (ha : a.length ≤ 1000000) : Evs (fun k => laws_sameInts.f k a a) true := by
 have := sameInts_ev a a ha
 simpa using this
theorem byte_of {x : Int} (h : (Lit.int .u8 x).wf = true) : 0 ≤ x ∧ x ≤ 255 := by
 simp only [Lit.wf, IntKind.min, IntKind.max, IntKind.signed, IntKind.bits, Bool.and_eq_true, decide_eq_true_eq] at h
 have h1 := h.1
 have h2 := h.2
 simp at h1 h2
 omega
theorem Evs.ex {α : Type} {g : Nat → Option α} {r : α} (h : Evs g r) : ∃ k, g k = some r := by
 obtain ⟨K, hK⟩ := h
 exact ⟨K, hK K (by omega)⟩
end Go.Proofs.Ytaepgogafkmooaa.Hd
namespace Go.Proofs.Ytaepgogafkmooaa.Hd
open Go.RowKit Go.PW.PrintWords Go.PW.PrintLast Go.PW.PrintMore Go.Proofs.Ytaepgogafkmooaa.PB Go.Proofs.Ytaepgogafkmooaa.SM
theorem besN_len (cs : List (List Int)) (a b : Int) (hab : a ≠ b) : besN cs a b = lenU (zba cs) cs.length (zap cs) a b + lenU (fun i k => zba cs k i) (zap cs) cs.length a b := by
 unfold besN
 rw [if_neg hab, touch_hits cs a b hab]
def NextTo (r c r' c' : Nat) : Prop := (r = r' ∧ (c' = c + 1 ∨ c = c' + 1)) ∨ (c = c' ∧ (r' = r + 1 ∨ r = r' + 1))
theorem sumI_ge (f : Nat → Int) (h0 : ∀ k, 0 ≤ f k) : ∀ n i, i < n → f i ≤ sumI f n
 | 0, i, h => by omega
 | n + 1, i, h => by
  simp only [sumI]
  by_cases e : i = n
  ·subst e
   have : 0 ≤ sumI f i := by
    clear h
    induction i with
    | zero => simp [sumI]
    | succ i ih =>
     have := h0 i
     simp only [sumI]
     omega
   omega
  ·have := sumI_ge f h0 n i (by omega)
   have := h0 n
   omega
theorem lenU_gt (g : Nat → Nat → Int) (hi wi : Nat) (a b : Int) (i k : Nat) (h1 : i < hi) (h2 : k + 1 < wi) (h : (g i k = a ∧ g i (k + 1) = b) ∨ (g i k = b ∧ g i (k + 1) = a)) : 0 < lenU g hi wi a b := by
 have s1 := sumI_ge (fun k => hit (g i k, g i (k + 1)) a b) (fun k => (hit_range _ a b).1) (wi - 1) k (by omega)
 have s2 := sumI_ge (fun i => sumI (fun k => hit (g i k, g i (k + 1)) a b) (wi - 1)) (fun i => (sumI_range (f := fun k => hit (g i k, g i (k + 1)) a b) 2 (fun k => hit_range _ a b) (wi - 1)).1) hi i h1
 have s3 : 1 ≤ hit (g i k, g i (k + 1)) a b := by
  have := hit_range (g i k, g i (k + 1)) a b
  unfold hit
  rcases h with ⟨e1, e2⟩ | ⟨e1, e2⟩
  ·rw [e1, e2, if_pos rfl]
   split <;> omega
  ·rw [e1, e2, if_pos (show (b, a) = (b, a) from rfl)]
   split <;> omega
 unfold lenU
 omega
theorem lenU_nonneg (g : Nat → Nat → Int) (hi wi : Nat) (a b : Int) : 0 ≤ lenU g hi wi a b := by
 unfold lenU
 exact (sumI_range (f := fun i => sumI (fun k => hit (g i k, g i (k + 1)) a b) (wi - 1)) ((wi - 1) * 2) (fun i => ⟨(sumI_range (f := fun k => hit (g i k, g i (k + 1)) a b) 2 (fun k => hit_range _ a b) (wi - 1)).1, (sumI_range (f := fun k => hit (g i k, g i (k + 1)) a b) 2 (fun k => hit_range _ a b) (wi - 1)).2⟩) hi).1
theorem besN_gt (cs : List (List Int)) (r c r' c' : Nat) (hr : r < cs.length) (hc : c < zap cs) (hr' : r' < cs.length) (hc' : c' < zap cs) (hn : NextTo r c r' c') (hne : zba cs r c ≠ zba cs r' c') : 0 < besN cs (zba cs r c) (zba cs r' c') := by
 rw [besN_len cs _ _ hne]
 have n1 := lenU_nonneg (zba cs) cs.length (zap cs) (zba cs r c) (zba cs r' c')
 have n2 := lenU_nonneg (fun i k => zba cs k i) (zap cs) cs.length (zba cs r c) (zba cs r' c')
 rcases hn with ⟨rfl, rfl | rfl⟩ | ⟨rfl, rfl | rfl⟩
 ·have := lenU_gt (zba cs) cs.length (zap cs) (zba cs r c) (zba cs r (c + 1)) r c hr hc' (.inl ⟨rfl, rfl⟩)
  omega
 ·have := lenU_gt (zba cs) cs.length (zap cs) (zba cs r (c' + 1)) (zba cs r c') r c' hr hc (.inr ⟨rfl, rfl⟩)
  omega
 ·have := lenU_gt (fun i k => zba cs k i) (zap cs) cs.length (zba cs r c) (zba cs (r + 1) c) c r hc hr' (.inl ⟨rfl, rfl⟩)
  omega
 ·have := lenU_gt (fun i k => zba cs k i) (zap cs) cs.length (zba cs (r' + 1) c) (zba cs r' c) c r' hc hr (.inr ⟨rfl, rfl⟩)
  omega
theorem DrawWallSides_ev (l : List Int) (hv : ∀ x ∈ l, 0 ≤ x ∧ x ≤ 255) : ∃ p a, Evs (fun k => spec_DrawWallSides.f k l) (p, a) ∧ Lil p := by
 obtain ⟨b, ho, hb⟩ := open_ev l hv
 obtain ⟨p, q, hE, h1, q1⟩ := Some_ev b hb 0 (by omega) 5 5 (by omega) (by omega) (by omega) (by omega)
 have hP := PlanIn_ev p h1.small
 rcases planB_cases p with ⟨e1, f1⟩ | ⟨e1, cs, rs, f1⟩
 ·rw [e1] at hP
  obtain ⟨v1, hv1, -⟩ := pick_ev b hb q (by omega) 24
  obtain ⟨v2, hv2, -⟩ := pick_ev b hb (q + 1) (by omega) (wrap64 (1 + (wrap64 (Int.tdiv v1 23))))
  obtain ⟨v3, hv3, -⟩ := pick_ev b hb (q + 1 + 1) (by omega) 24
  exact ⟨p, _, Evs.bindS ho (Evs.bind hE (Evs.bind hP (Evs.neg (by simp) (Evs.bind hv1 (Evs.bind hv2 (Evs.bind hv3 (Evs.const _))))))), h1⟩
 ·rw [e1] at hP
  have F := floor_facts f1
  obtain ⟨v1, hv1, -⟩ := pick_ev b hb q (by omega) 24
  obtain ⟨v2, hv2, -⟩ := pick_ev b hb (q + 1) (by omega) (wrap64 ((mx 1 ((walls4 cs).length : Int)) + (wrap64 (Int.tdiv v1 23))))
  obtain ⟨v3, hv3, -⟩ := pick_ev b hb (q + 1 + 1) (by omega) 24
  exact ⟨p, _, Evs.bindS ho (Evs.bind hE (Evs.bind hP (Evs.pos rfl (Evs.bind (l2Walls_ev F) (Evs.bind hv1 (Evs.bind hv2 (Evs.bind hv3 (Evs.const _)))))))), h1⟩
theorem runC_sound (d : Nat → Bool) : ∀ n, (∀ x ∈ (runC d n).1, ∀ i, x.1 ≤ i → i < x.1 + x.2 → d i = true) ∧ (∀ f, (runC d n).2 = some f → f < n ∧ ∀ i, f ≤ i → i < n → d i = true)
 | 0 => by simp [runC]
 | n + 1 => by
  obtain ⟨h1, h2⟩ := runC_sound d n
  rcases hR : runC d n with ⟨c, o⟩
  rw [hR] at h1 h2
  cases o with
  | none =>
   by_cases hd : d n = true
   ·have e : runC d (n + 1) = (c, some n) := by simp only [runC, hR, hd, if_true]
    rw [e]
    refine ⟨h1, fun f hf => ?_⟩
    injection hf with hf
    subst hf
    exact ⟨by omega, fun i a b => by rw [show i = n by omega]; exact hd⟩
   ·have e : runC d (n + 1) = (c, none) := by simp only [runC, hR, if_neg hd]
    rw [e]
    exact ⟨h1, fun f hf => by cases hf⟩
  | some f =>
   obtain ⟨hf, hall⟩ := h2 f rfl
   by_cases hd : d n = true
   ·have e : runC d (n + 1) = (c, some f) := by simp only [runC, hR, hd, if_true]
    rw [e]
    refine ⟨h1, fun g hg => ?_⟩
    injection hg with hg
    subst hg
    refine ⟨by omega, fun i a b => ?_⟩
    by_cases e : i = n
    ·rw [e]; exact hd
    ·exact hall i a (by omega)
   ·have e : runC d (n + 1) = (c ++ [(f, n - f)], none) := by simp only [runC, hR, if_neg hd]
    rw [e]
    refine ⟨fun x hx => ?_, fun g hg => by cases hg⟩
    rcases List.mem_append.1 hx with h | h
    ·exact h1 x h
    ·simp at h
     subst h
     intro i a b
     dsimp only at a b
     exact hall i a (by omega)
theorem runs_sound (d : Nat → Bool) (n : Nat) : ∀ x ∈ runs d n, ∀ i, x.1 ≤ i → i < x.1 + x.2 → d i = true := by
 obtain ⟨h1, h2⟩ := runC_sound d n
 intro x hx
 unfold runs at hx
 rcases List.mem_append.1 hx with h | h
 ·exact h1 x h
 ·cases ho : (runC d n).2 with
  | none => rw [ho] at h; simp [openR] at h
  | some f =>
   rw [ho] at h
   simp [openR] at h
   subst h
   intro i a b
   obtain ⟨hf, hall⟩ := h2 f ho
   dsimp only at a b
   exact hall i a (by omega)
theorem trip_sound (d : Nat → Nat → Bool) (n : Nat) : ∀ j, ∀ x ∈ trip d n j, ∀ i, x.2.1 ≤ i → i < x.2.1 + x.2.2 → d x.1 i = true
 | 0, x, h => by simp [trip] at h
 | j + 1, x, h => by
  simp only [trip] at h
  rcases List.mem_append.1 h with h | h
  ·exact trip_sound d n j x h
  ·obtain ⟨y, hy, rfl⟩ := List.mem_map.1 h
   exact runs_sound _ _ y hy
theorem walls_sound (cs : List (List Int)) : ∀ x ∈ zcg cs, ∀ i, x.2.2.1 ≤ i → i < x.2.2.1 + x.2.2.2 → difB cs x.1 x.2.1 i = true := by
 intro x hx
 unfold zcg at hx
 rcases List.mem_append.1 hx with h | h
 ·obtain ⟨t, ht, rfl⟩ := List.mem_map.1 h
  exact trip_sound _ _ _ t ht
 ·obtain ⟨t, ht, rfl⟩ := List.mem_map.1 h
  exact trip_sound _ _ _ t ht
theorem foldP_mem (xs : List Int) : ∀ x ∈ zcm xs, x ∈ xs := by
 suffices h : ∀ ys : List Int, ∀ n, ys.length = n → ∀ x ∈ zcm ys, x ∈ ys from h xs _ rfl
 intro ys n
 induction n generalizing ys with
 | zero =>
  intro hl x hx
  obtain rfl : ys = [] := List.length_eq_zero_iff.1 hl
  exact hx
 | succ n ih =>
  intro hl x hx
  obtain ⟨zs, z, rfl⟩ : ∃ zs z, ys = zs ++ [z] := ⟨ys.dropLast, ys.getLast (by rintro rfl; simp at hl), (List.dropLast_concat_getLast _).symm⟩
  rw [foldP_snoc] at hx
  unfold putL at hx
  split at hx
  ·exact List.mem_append_left _ (ih zs (by simp at hl; omega) x hx)
  ·rcases List.mem_append.1 hx with h | h
   ·exact List.mem_append_left _ (ih zs (by simp at hl; omega) x h)
   ·exact List.mem_append_right _ h
theorem foldP_next (xs : List Int) : ∀ i x y, (zcm xs)[i]? = some x → (zcm xs)[i + 1]? = some y → ∃ j, xs[j]? = some x ∧ xs[j + 1]? = some y ∧ x ≠ y := by
 suffices h : ∀ n, ∀ ys : List Int, ys.length = n → ∀ i x y, (zcm ys)[i]? = some x → (zcm ys)[i + 1]? = some y → ∃ j, ys[j]? = some x ∧ ys[j + 1]? = some y ∧ x ≠ y from h _ xs rfl
 intro n
 induction n with
 | zero =>
  intro ys hl i x y hx
  obtain rfl : ys = [] := List.length_eq_zero_iff.1 hl
  simp [zcm] at hx
 | succ n ih =>
  intro ys hl i x y hx hy
  obtain ⟨zs, z, rfl⟩ : ∃ zs z, ys = zs ++ [z] := ⟨ys.dropLast, ys.getLast (by rintro rfl; simp at hl), (List.dropLast_concat_getLast _).symm⟩
  have hz : zs.length = n := by simp at hl; omega
  have keep : ∀ j, zs[j]? = some x → zs[j + 1]? = some y → x ≠ y → ∃ j, (zs ++ [z])[j]? = some x ∧ (zs ++ [z])[j + 1]? = some y ∧ x ≠ y := fun j h1 h2 h3 => by
   have l1 := (List.getElem?_eq_some_iff.1 h1).1
   have l2 := (List.getElem?_eq_some_iff.1 h2).1
   exact ⟨j, by rw [List.getElem?_append_left l1]; exact h1, by rw [List.getElem?_append_left l2]; exact h2, h3⟩
  rw [foldP_snoc] at hx hy
  unfold putL at hx hy
  split at hx
  ·rename_i hc
   rw [if_pos hc] at hy
   obtain ⟨j, h1, h2, h3⟩ := ih zs hz i x y hx hy
   exact keep j h1 h2 h3
  ·rename_i hc
   rw [if_neg hc] at hy
   by_cases hi : i + 1 < (zcm zs).length
   ·rw [List.getElem?_append_left (by omega)] at hx
    rw [List.getElem?_append_left hi] at hy
    obtain ⟨j, h1, h2, h3⟩ := ih zs hz i x y hx hy
    exact keep j h1 h2 h3
   ·have hlen := (List.getElem?_eq_some_iff.1 hy).1
    rw [List.length_append, List.length_singleton] at hlen
    have hi2 : i + 1 = (zcm zs).length := by omega
    rw [List.getElem?_append_left (by omega)] at hx
    rw [List.getElem?_append_right (by omega), hi2, Nat.sub_self] at hy
    have hzy : z = y := by simpa using hy
    subst hzy
    have hlast : (zcm zs).getLast? = some x := by rw [List.getLast?_eq_getElem?, ← hi2]; exact hx
    have hne : x ≠ z := fun e => hc (by rw [hlast, e])
    -- the last element of the struck list is the last one of the list
    have hzs : zs ≠ [] := by rintro rfl; simp [zcm] at hx
    obtain ⟨us, u, rfl⟩ : ∃ us u, zs = us ++ [u] := ⟨zs.dropLast, zs.getLast hzs, (List.dropLast_concat_getLast _).symm⟩
    have hu := foldP_last us u
    rw [hu] at hlast
    have hux : u = x := Option.some.inj hlast
    subst hux
    exact ⟨us.length, by simp, by simp, hne⟩
theorem foldP_head (x : Int) (xs : List Int) : (zcm (x :: xs))[0]? = some x := by
 suffices h : ∀ n, ∀ ys : List Int, ys.length = n → (zcm (x :: ys))[0]? = some x from h _ xs rfl
 intro n
 induction n with
 | zero =>
  intro ys hl
  obtain rfl : ys = [] := List.length_eq_zero_iff.1 hl
  simp [zcm, putL]
 | succ n ih =>
  intro ys hl
  obtain ⟨zs, z, rfl⟩ : ∃ zs z, ys = zs ++ [z] := ⟨ys.dropLast, ys.getLast (by rintro rfl; simp at hl), (List.dropLast_concat_getLast _).symm⟩
  have := ih zs (by simp at hl; omega)
  rw [← List.cons_append, foldP_snoc]
  unfold putL
  split
  ·exact this
  ·rw [List.getElem?_append_left (List.getElem?_eq_some_iff.1 this).1]
   exact this
end Go.Proofs.Ytaepgogafkmooaa.Hd
namespace Go.Proofs.Ytaepgogafkmooaa.Pure
open Go.RowKit Go.Proofs.Ytaepgogafkmooaa.LD Go.Proofs.Ytaepgogafkmooaa.PB Go.Proofs.Ytaepgogafkmooaa.SM Go.Proofs.Ytaepgogafkmooaa.Hd Go.PW.PrintWords Go.PW.PrintLast
theorem near_true {p : List ByteArray} {cs : List (List Int)} {rs : List Rc} (hF : zcn p = some (cs, rs)) (hsm : smallB p = true) (r c r' c' : Nat) (hr : r < cs.length) (hc : c < zap cs) (hr' : r' < cs.length) (hc' : c' < zap cs) (hn : NextTo r c r' c') (hne : zba cs r c ≠ zba cs r' c') :
  impl_NearIs.f p (zba cs r c) (zba cs r' c') = some true := by
 have hg := besN_gt cs r c r' c' hr hc hr' hc' hn hne
 have v1 := valAt_range (floorF_ok hF) r c hr hc
 have v2 := valAt_range (floorF_ok hF) r' c' hr' hc'
 unfold impl_NearIs.f
 rw [if_pos hsm, nearIs_length]
 have : zck p (zba cs r c) (zba cs r' c') = (besN cs (zba cs r c) (zba cs r' c'), true) := by
  unfold zck
  rw [hF]
  dsimp only
  rw [if_pos]
  unfold hasB
  rw [decide_eq_true v1.1, decide_eq_true v1.2, decide_eq_true v2.1, decide_eq_true v2.2]
  simpa using hne
 rw [this]
 simp [hg]
structure SideFacts (p : List ByteArray) (A B : List Int) : Prop where
 small : A.length ≤ 6 ∧ B.length ≤ 6
 some : 0 < A.length ∧ 0 < B.length
 apart : ∀ x ∈ A, ∀ y ∈ B, x ≠ y
 next : ∀ i, i + 1 < A.length → impl_NearIs.f p (rd A (i : Int)) (rd A ((i + 1 : Nat) : Int)) = Option.some true
 head : impl_NearIs.f p (rd A 0) (rd B 0) = Option.some true
theorem oneSide_cons (cs : List (List Int)) (lv : Bool) (l f n : Nat) : ∃ r, zbx cs lv l f (n + 1) = (zcq cs lv l f).1 :: r := ⟨_, by unfold zbx; rw [List.range_succ_eq_map, List.map_cons]; rfl⟩
theorem twoSide_cons (cs : List (List Int)) (lv : Bool) (l f n : Nat) : ∃ r, zci cs lv l f (n + 1) = (zcq cs lv l f).2 :: r := ⟨_, by unfold zci; rw [List.range_succ_eq_map, List.map_cons]; rfl⟩
theorem side_facts {p : List ByteArray} {cs : List (List Int)} {rs : List Rc} (hF : zcn p = some (cs, rs)) (hsm : smallB p = true) (lv : Bool) (l f n : Nat) (hm : (lv, l, f, n) ∈ zcg cs) (k1 : 1 ≤ l) (k2 : l < linesOf cs lv) (k3 : f + n ≤ zbt cs lv) (k4 : 1 ≤ n) (k6 : zbt cs lv ≤ 6) :
  SideFacts p (zcm (zbx cs lv l f n)) (zcm (zci cs lv l f n)) := by
 obtain ⟨hX, -, -, -⟩ := floor_okG hF
 have hcv := hX.conv
 have hd : ∀ i, f ≤ i → i < f + n → difB cs lv l i = true := walls_sound cs _ hm
 have q1 := foldP_length (zbx cs lv l f n)
 have q2 := foldP_length (zci cs lv l f n)
 rw [oneSide_length] at q1
 rw [twoSide_length] at q2
 obtain ⟨m, rfl⟩ : ∃ m, n = m + 1 := ⟨n - 1, by omega⟩
 obtain ⟨ra, ea⟩ := oneSide_cons cs lv l f m
 obtain ⟨rb, eb⟩ := twoSide_cons cs lv l f m
 have ha := foldP_head (zcq cs lv l f).1 ra
 have hb := foldP_head (zcq cs lv l f).2 rb
 rw [← ea] at ha
 rw [← eb] at hb
 have one_at : ∀ j x, (zbx cs lv l f (m + 1))[j]? = Option.some x → j < m + 1 ∧ x = (zcq cs lv l (f + j)).1 := fun j x h => by
  have hj := (List.getElem?_eq_some_iff.1 h).1
  rw [oneSide_length] at hj
  unfold zbx at h
  rw [List.getElem?_map, List.getElem?_range hj] at h
  exact ⟨hj, (Option.some.inj h).symm⟩
 have two_at : ∀ j x, (zci cs lv l f (m + 1))[j]? = Option.some x → j < m + 1 ∧ x = (zcq cs lv l (f + j)).2 := fun j x h => by
  have hj := (List.getElem?_eq_some_iff.1 h).1
  rw [twoSide_length] at hj
  unfold zci at h
  rw [List.getElem?_map, List.getElem?_range hj] at h
  exact ⟨hj, (Option.some.inj h).symm⟩
 refine ⟨⟨by omega, by omega⟩, ⟨(List.getElem?_eq_some_iff.1 ha).1, (List.getElem?_eq_some_iff.1 hb).1⟩, ?_, ?_, ?_⟩
 ·intro x hx y hy hxy
  obtain ⟨j, hj⟩ := List.getElem?_of_mem (foldP_mem _ x hx)
  obtain ⟨j', hj'⟩ := List.getElem?_of_mem (foldP_mem _ y hy)
  obtain ⟨a1, a2⟩ := one_at j x hj
  obtain ⟨b1, b2⟩ := two_at j' y hj'
  have hdj := hd (f + j) (by omega) (by omega)
  rw [a2, b2] at hxy
  cases lv with
  | false =>
   have k2 : l < zap cs := k2
   have k3 : f + (m + 1) ≤ cs.length := k3
   have hxy : zba cs (f + j) (l - 1) = zba cs (f + j') l := hxy
   have hdj : (zba cs (f + j) (l - 1) != zba cs (f + j) l) = true := hdj
   rw [bne_iff_ne] at hdj
   exact hdj (hcv (f + j) (l - 1) (f + j') l (f + j) l (by omega) (by omega) (by omega) k2 hxy (by omega) (by omega) (by omega) (by omega)).symm
  | true =>
   have k2 : l < cs.length := k2
   have k3 : f + (m + 1) ≤ zap cs := k3
   have hxy : zba cs (l - 1) (f + j) = zba cs l (f + j') := hxy
   have hdj : (zba cs (l - 1) (f + j) != zba cs l (f + j)) = true := hdj
   rw [bne_iff_ne] at hdj
   exact hdj (hcv (l - 1) (f + j) l (f + j') l (f + j) (by omega) (by omega) k2 (by omega) hxy (by omega) (by omega) (by omega) (by omega)).symm
 ·intro i hi
  have e1 : (zcm (zbx cs lv l f (m + 1)))[i]? = Option.some (zcm (zbx cs lv l f (m + 1)))[i] := List.getElem?_eq_getElem (by omega)
  have e2 : (zcm (zbx cs lv l f (m + 1)))[i + 1]? = Option.some (zcm (zbx cs lv l f (m + 1)))[i + 1] := List.getElem?_eq_getElem hi
  obtain ⟨j, h1, h2, h3⟩ := foldP_next _ i _ _ e1 e2
  obtain ⟨a1, a2⟩ := one_at _ _ h1
  obtain ⟨b1, b2⟩ := one_at _ _ h2
  rw [rd_at e1, rd_at e2, a2, b2]
  rw [a2, b2] at h3
  cases lv with
  | false =>
   have k2 : l < zap cs := k2
   have k3 : f + (m + 1) ≤ cs.length := k3
   exact near_true hF hsm (f + j) (l - 1) (f + (j + 1)) (l - 1) (by omega) (by omega) (by omega) (by omega) (.inr ⟨rfl, .inl rfl⟩) h3
  | true =>
   have k2 : l < cs.length := k2
   have k3 : f + (m + 1) ≤ zap cs := k3
   exact near_true hF hsm (l - 1) (f + j) (l - 1) (f + (j + 1)) (by omega) (by omega) (by omega) (by omega) (.inl ⟨rfl, .inl rfl⟩) h3
 ·have r1 : rd (zcm (zbx cs lv l f (m + 1))) 0 = (zcq cs lv l f).1 := rd_at (i := 0) ha
  have r2 : rd (zcm (zci cs lv l f (m + 1))) 0 = (zcq cs lv l f).2 := rd_at (i := 0) hb
  rw [r1, r2]
  have hdj := hd f (by omega) (by omega)
  cases lv with
  | false =>
   have k2 : l < zap cs := k2
   have k3 : f + (m + 1) ≤ cs.length := k3
   have hdj : (zba cs f (l - 1) != zba cs f l) = true := hdj
   rw [bne_iff_ne] at hdj
   exact near_true hF hsm f (l - 1) f l (by omega) (by omega) (by omega) (by omega) (.inl ⟨rfl, .inl (by omega)⟩) hdj
  | true =>
   have k2 : l < cs.length := k2
   have k3 : f + (m + 1) ≤ zap cs := k3
   have hdj : (zba cs (l - 1) f != zba cs l f) = true := hdj
   rw [bne_iff_ne] at hdj
   exact near_true hF hsm (l - 1) f l f (by omega) (by omega) (by omega) (by omega) (.inr ⟨rfl, .inl (by omega)⟩) hdj
theorem sides_l1 {p : List ByteArray} {A B : List Int} (S : SideFacts p A B) (i : Nat) (hi : i < A.length) (hnext : Evs (fun k => laws_FnSides.l0 k p A B ((i + 1 : Nat) : Int)) true) :
  ∀ d j, j + d = B.length → Evs (fun k => laws_FnSides.l1 k p A B (i : Int) (j : Int)) true := by
 have hs := S.small
 intro d
 induction d with
 | zero =>
  intro j hj
  refine Evs.stepNeg (fun k => by conv => lhs; unfold laws_FnSides.l1) (by omega) ?_
  by_cases h0 : i = 0
  ·refine Evs.neg (by omega) ?_
   rw [zbg (by omega)]
   exact hnext
  ·have e := zaa.mk (show wrap64 ((i : Int) - 1) = ((i - 1 : Nat) : Int) by rw [zat (by omega) (by omega)]; omega)
   have hn := S.next (i - 1) (by omega)
   rw [show i - 1 + 1 = i by omega] at hn
   refine Evs.pos (by omega) ?_
   rw [e.out]
   refine Evs.pos (by omega) (Evs.pos (by omega) (Evs.pos (by omega) (Evs.pos (by omega) (Evs.bindS hn (Evs.pos rfl ?_)))))
   rw [zbg (by omega)]
   exact hnext
 | succ d ih =>
  intro j hj
  have h1 : A[i]? = Option.some A[i] := List.getElem?_eq_getElem hi
  have h2 : B[j]? = Option.some B[j] := List.getElem?_eq_getElem (by omega)
  refine Evs.stepPos (fun k => by conv => lhs; unfold laws_FnSides.l1) (by omega) ?_
  refine Evs.pos (by omega) (Evs.pos (by omega) (Evs.pos (by omega) ?_))
  rw [rd_at h1, rd_at h2]
  refine Evs.neg (S.apart _ (List.getElem_mem _) _ (List.getElem_mem _)) ?_
  rw [zbg (by omega)]
  exact ih (j + 1) (by omega)
theorem sides_l0 {p : List ByteArray} {A B : List Int} (S : SideFacts p A B) : ∀ d i, i + d = A.length → Evs (fun k => laws_FnSides.l0 k p A B (i : Int)) true := by
 have hs := S.small
 have ho := S.some
 intro d
 induction d with
 | zero =>
  intro i hi
  refine Evs.stepNeg (fun k => by conv => lhs; unfold laws_FnSides.l0) (by omega) ?_
  exact Evs.pos (by omega) (Evs.pos (by omega) (Evs.pos (by omega) (Evs.pos (by omega) (Evs.bindS S.head (Evs.const _)))))
 | succ d ih =>
  intro i hi
  refine Evs.stepPos (fun k => by conv => lhs; unfold laws_FnSides.l0) (by omega) ?_
  exact sides_l1 S i (by omega) (ih (i + 1) (by omega)) B.length 0 (by omega)
theorem FnSides : laws_FnSides.Pure := by
 intro l0 h1 h2 h3
 by_cases big : (l0.length : Int) > 1048576
 ·exact ⟨0, by unfold laws_FnSides.f; rw [if_pos big]⟩
 ·obtain ⟨p, a, hp, hl⟩ := DrawWallSides_ev l0 (fun x hx => byte_of (h3 x hx))
  have hsm : smallB p = true := (smallB_iff _).2 hl.small
  have hI : impl_WallSides.f p a = some (zce p a) := by unfold impl_WallSides.f; rw [if_pos hsm]
  have hS := WallSides_ev p a hl.small
  have bad : zce p a = ([], [], false) → ∃ k, laws_FnSides.f k l0 = some true := by
   intro e
   rw [e] at hI hS
   apply Evs.ex
   refine Evs.neg big (Evs.bind hp (Evs.bindS hI (Evs.bind hS (Evs.neg (by simp) (Evs.bind (sameInts_refl _ (by simp)) (Evs.pos rfl (Evs.bind (sameInts_refl _ (by simp)) (Evs.pos rfl ?_))))))))
   refine Evs.stepPos (fun k => by conv => lhs; unfold laws_FnSides.j0) (by simp) ?_
   exact Evs.pos (by simp) (Evs.bind (sameInts_refl _ (by simp)) (Evs.pos rfl (Evs.bind (sameInts_refl _ (by simp)) (Evs.const _))))
  cases hF : zcn p with
  | none => exact bad (by unfold zce; rw [hF])
  | some t =>
   obtain ⟨cs, rs⟩ := t
   have e2 : zce p a = if (decide (0 ≤ a) && decide (a < (zbv cs).length)) = true then
    (zcm (zbx cs ((zcg cs).getD a.toNat (false, 0, 0, 0)).1 ((zcg cs).getD a.toNat (false, 0, 0, 0)).2.1 ((zcg cs).getD a.toNat (false, 0, 0, 0)).2.2.1 ((zcg cs).getD a.toNat (false, 0, 0, 0)).2.2.2), zcm (zci cs ((zcg cs).getD a.toNat (false, 0, 0, 0)).1 ((zcg cs).getD a.toNat (false, 0, 0, 0)).2.1 ((zcg cs).getD a.toNat (false, 0, 0, 0)).2.2.1 ((zcg cs).getD a.toNat (false, 0, 0, 0)).2.2.2), true) else ([], [], false) := by unfold zce; rw [hF]
   by_cases hc : (decide (0 ≤ a) && decide (a < (zbv cs).length)) = true
   ·rw [if_pos hc] at e2
    rw [Bool.and_eq_true, decide_eq_true_eq, decide_eq_true_eq] at hc
    obtain ⟨i, rfl⟩ := Int.eq_ofNat_of_zero_le hc.1
    obtain ⟨lv, l, f, n, hP, k1, k2, k3, k4, k5, k6⟩ := wallsP_ok (floorF_ok hF) i (by rw [wallsP_length]; omega)
    rw [Int.toNat_natCast, ycn, hP] at e2
    have e3 : zce p (i : Int) = (zcm (zbx cs lv l f n), zcm (zci cs lv l f n), true) := e2
    have S := side_facts hF hsm lv l f n (List.mem_of_getElem? hP) k1 k2 k3 k4 k6
    have hs := S.small
    rw [e3] at hI hS
    generalize zcm (zbx cs lv l f n) = A at *
    generalize zcm (zci cs lv l f n) = B at *
    apply Evs.ex
    refine Evs.neg big (Evs.bind hp (Evs.bindS hI (Evs.bind hS (Evs.neg (by simp) (Evs.bind (sameInts_refl A (by omega)) (Evs.pos rfl (Evs.bind (sameInts_refl B (by omega)) (Evs.pos rfl ?_))))))))
    refine Evs.stepNeg (fun k => by conv => lhs; unfold laws_FnSides.j0) (by simp) ?_
    exact sides_l0 S A.length 0 (by omega)
   ·exact bad (by rw [e2, if_neg hc])
end Go.Proofs.Ytaepgogafkmooaa.Pure
