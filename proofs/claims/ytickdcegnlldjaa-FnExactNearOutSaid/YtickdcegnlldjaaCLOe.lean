/- Part 5 of the proof of FnExactNearOut: what the program's functions and the reference's compute. -/
import Derived.Test.YtickdcegnlldjaaCLOd
set_option linter.unusedSimpArgs false
set_option linter.unusedVariables false
namespace Go.Proofs.Ytickdcegnlldjaa.LO
open Go.Proofs.Ytickdcegnlldjaa.PB Go.Proofs.Ytickdcegnlldjaa.Hd
open Go.RowKit Go.PW.PrintWords Go.PW.PrintLast Go.PW.PrintMore
attribute [local go_sem] zcg zce zco zcn zbo zbn zcf zcd   -- for this text's walks alone
mutual
def laws_FnExactNearOut.j0 : Nat → List ByteArray → Int → List Int → Bool → List ByteArray → List Int → Bool → Bool → Option (Bool)
 | 0, _, _, _, _, _, _, _, _ => none
 | k + 1, x0, x1, x6, x7, x8, x9, x10, x44 => if x44 = true then (some false) else ((laws_toStringS.f k x0).bind fun t242 => ((laws_eqStringS.f k x8 t242).bind fun t245 => (if t245 = true then ((laws_markStringS.f k x8 1).bind fun bt246 => (if bt246.1 < 0 then (laws_FnExactNearOut.j1 k x0 x1 x6 x7 x9 true) else ((laws_eqIntS.f k x9 x6).bind fun t248 => (if t248 = true then (laws_FnExactNearOut.j1 k x0 x1 x6 x7 x9 (x10 != x7)) else (laws_FnExactNearOut.j1 k x0 x1 x6 x7 x9 true))))) else (some false))))
def laws_FnExactNearOut.j1 : Nat → List ByteArray → Int → List Int → Bool → List Int → Bool → Option (Bool)
 | 0, _, _, _, _, _, _ => none
 | k + 1, x0, x1, x6, x7, x9, x65 => if x65 = true then (some false) else ((laws_markIntS.f k x9 1).bind fun bt249 => ((laws_heldIntS.f k bt249.2 1).bind fun t251 => (if t251 < 0 then (some false) else (if t251 = bt249.1 then ((laws_toStringS.f k x0).bind fun t252 => ((impl_NearOut.f t252 x1).bind fun bt255 => ((laws_eqIntS.f k bt255.1 x6).bind fun t259 => (if t259 = true then (laws_FnExactNearOut.j2 k bt249.2 bt249.1 (bt255.2 != x7)) else (laws_FnExactNearOut.j2 k bt249.2 bt249.1 true))))) else (some false)))))
def laws_FnExactNearOut.j2 : Nat → List Int → Int → Bool → Option (Bool)
 | 0, _, _, _ => none
 | k + 1, x9, x12, x92 => if x92 = true then (some false) else ((laws_heldIntS.f k x9 1).bind fun t260 => (if t260 < 0 then (some false) else (if t260 = x12 then (some true) else (some false))))
end
def laws_FnExactNearOut.f (k : Nat) (l0 : List ByteArray) (a1 : Int) : Option (Bool) := (laws_szStringS.f k l0 1048576).bind fun t226 => (if t226 < 0 then (some true) else ((laws_toStringS.f k l0).bind fun t227 => ((spec_NearOut.f t227 a1).bind fun bt230 => ((laws_toStringS.f k l0).bind fun t234 => ((impl_NearOut.f t234 a1).bind fun bt237 => ((laws_eqIntS.f k bt237.1 bt230.1).bind fun t241 => (if t241 = true then (laws_FnExactNearOut.j0 k l0 a1 bt230.1 bt230.2 t234 bt237.1 bt237.2 (bt237.2 != bt230.2)) else (laws_FnExactNearOut.j0 k l0 a1 bt230.1 bt230.2 t234 bt237.1 bt237.2 true))))))))
set_option maxHeartbeats 8000000 in
set_option maxRecDepth 100000 in
theorem laws_FnExactNearOut.calls (k : Nat) (A0 : Option Addr) (c0 : Nat) (l0 : List ByteArray) (a1 : Int) (r : Bool) (w : World) (hr0 : Kd.C Kd.string w A0 l0.length l0) (hc0 : l0.length ≤ c0) (h : laws_FnExactNearOut.f k l0 a1 = some r) :
  Calls Try.prog 3 #[.slice A0 l0.length c0, .int .i64 a1] w fun e w' => e = .returned (.bool r) ∧ Below w.heap.size w w' := by
 have HR0 := zaa.mk hr0
 have HC0 := zaa.mk hc0
 clear hr0 hc0
 have HB := zaa.mk (Below.refl w.heap.size w)
 have H : ((laws_szStringS.f k l0 1048576).bind fun t226 => (if t226 < 0 then (some true) else ((laws_toStringS.f k l0).bind fun t227 => ((spec_NearOut.f t227 a1).bind fun bt230 => ((laws_toStringS.f k l0).bind fun t234 => ((impl_NearOut.f t234 a1).bind fun bt237 => ((laws_eqIntS.f k bt237.1 bt230.1).bind fun t241 => (if t241 = true then (laws_FnExactNearOut.j0 k l0 a1 bt230.1 bt230.2 t234 bt237.1 bt237.2 (bt237.2 != bt230.2)) else (laws_FnExactNearOut.j0 k l0 a1 bt230.1 bt230.2 t234 bt237.1 bt237.2 true))))))))) = some r := h
 clear h
 replace H := Option.bind_eq_some_iff.mp H
 obtain ⟨t226, A30, H⟩ := H
 replace H : (if t226 < 0 then (some true) else ((laws_toStringS.f k l0).bind fun t227 => ((spec_NearOut.f t227 a1).bind fun bt230 => ((laws_toStringS.f k l0).bind fun t234 => ((impl_NearOut.f t234 a1).bind fun bt237 => ((laws_eqIntS.f k bt237.1 bt230.1).bind fun t241 => (if t241 = true then (laws_FnExactNearOut.j0 k l0 a1 bt230.1 bt230.2 t234 bt237.1 bt237.2 (bt237.2 != bt230.2)) else (laws_FnExactNearOut.j0 k l0 a1 bt230.1 bt230.2 t234 bt237.1 bt237.2 true)))))))) = some r := H
 have A3 := zaa.mk A30
 clear A30
 by_cases c4 : t226 < 0
 ·rw [if_pos c4] at H
  have c4b0 : decide (t226 < 0) = true := decide_eq_true c4
  clear c4
  obtain rfl := Option.some.inj H
  go_enter Try.func3, Try.ntmps3
  go_wp2_with (first | ((with_reducible refine zar (f := 12) rfl ?_); refine zbp (some 18) rfl rfl Try.func12 (by kernel_rfl) rfl #[.slice A0 l0.length c0, .int .i64 1048576] rfl (by (try simp only [List.map_toArray, List.map_cons, List.map_nil]); first | done | rfl | (simp only [List.length_drop, List.length_take]; rfl)) ?_; (with_reducible refine (laws_szStringS.calls k _ _ l0 1048576 t226 _ ?side1 ?side2 A3.out).mono ?_); (case side1 => repeat (first | exact HR0.out | (with_reducible refine Kd.C_alloc ?_ _) | (with_reducible refine Kd.C_drewN ?_ _) | (with_reducible refine Kd.C_drew ?_))); (case side2 => exact HC0.out); rintro e w' ⟨rfl, ⟨nd, rfl⟩⟩; refine ⟨_, rfl, ?_⟩))
  go_ret
  exact ⟨by first | rfl | (simp [zam, zal] <;> rfl) | (simp [*, zam, zal] <;> rfl), by repeat (first | (with_reducible first | exact HB.out | apply zac | apply zab | apply zad) | exact HB.out)⟩
 ·rw [if_neg c4] at H
  have c4b0 : decide (t226 < 0) = false := decide_eq_false c4
  clear c4
  replace H := Option.bind_eq_some_iff.mp H
  obtain ⟨t227, A50, H⟩ := H
  replace H : ((spec_NearOut.f t227 a1).bind fun bt230 => ((laws_toStringS.f k l0).bind fun t234 => ((impl_NearOut.f t234 a1).bind fun bt237 => ((laws_eqIntS.f k bt237.1 bt230.1).bind fun t241 => (if t241 = true then (laws_FnExactNearOut.j0 k l0 a1 bt230.1 bt230.2 t234 bt237.1 bt237.2 (bt237.2 != bt230.2)) else (laws_FnExactNearOut.j0 k l0 a1 bt230.1 bt230.2 t234 bt237.1 bt237.2 true)))))) = some r := H
  have A5 := zaa.mk A50
  clear A50
  replace H := Option.bind_eq_some_iff.mp H
  obtain ⟨⟨t230, t231⟩, A60, H⟩ := H
  replace H : ((laws_toStringS.f k l0).bind fun t234 => ((impl_NearOut.f t234 a1).bind fun bt237 => ((laws_eqIntS.f k bt237.1 t230).bind fun t241 => (if t241 = true then (laws_FnExactNearOut.j0 k l0 a1 t230 t231 t234 bt237.1 bt237.2 (bt237.2 != t231)) else (laws_FnExactNearOut.j0 k l0 a1 t230 t231 t234 bt237.1 bt237.2 true))))) = some r := H
  have A6 := zaa.mk A60
  clear A60
  replace H := Option.bind_eq_some_iff.mp H
  obtain ⟨t234, A70, H⟩ := H
  replace H : ((impl_NearOut.f t234 a1).bind fun bt237 => ((laws_eqIntS.f k bt237.1 t230).bind fun t241 => (if t241 = true then (laws_FnExactNearOut.j0 k l0 a1 t230 t231 t234 bt237.1 bt237.2 (bt237.2 != t231)) else (laws_FnExactNearOut.j0 k l0 a1 t230 t231 t234 bt237.1 bt237.2 true)))) = some r := H
  have A7 := zaa.mk A70
  clear A70
  replace H := Option.bind_eq_some_iff.mp H
  obtain ⟨⟨t237, t238⟩, A80, H⟩ := H
  replace H : ((laws_eqIntS.f k t237 t230).bind fun t241 => (if t241 = true then (laws_FnExactNearOut.j0 k l0 a1 t230 t231 t234 t237 t238 (t238 != t231)) else (laws_FnExactNearOut.j0 k l0 a1 t230 t231 t234 t237 t238 true))) = some r := H
  have A8 := zaa.mk A80
  clear A80
  have HC9 := zaa.mk H
  clear H
  go_enter Try.func3, Try.ntmps3
  go_upto_region 8 with (first | ((with_reducible refine zar (f := 12) rfl ?_); refine zbp (some 18) rfl rfl Try.func12 (by kernel_rfl) rfl #[.slice A0 l0.length c0, .int .i64 1048576] rfl (by (try simp only [List.map_toArray, List.map_cons, List.map_nil]); first | done | rfl | (simp only [List.length_drop, List.length_take]; rfl)) ?_; (with_reducible refine (laws_szStringS.calls k _ _ l0 1048576 t226 _ ?side1 ?side2 A3.out).mono ?_); (case side1 => repeat (first | exact HR0.out | (with_reducible refine Kd.C_alloc ?_ _) | (with_reducible refine Kd.C_drewN ?_ _) | (with_reducible refine Kd.C_drew ?_))); (case side2 => exact HC0.out); rintro e w' ⟨rfl, ⟨nd, rfl⟩⟩; refine ⟨_, rfl, ?_⟩) | ((with_reducible refine zar (f := 14) rfl ?_); refine zbp (some 23) rfl rfl Try.func14 (by kernel_rfl) rfl #[.slice A0 l0.length c0] rfl (by (try simp only [List.map_toArray, List.map_cons, List.map_nil]); first | done | rfl | (simp only [List.length_drop, List.length_take]; rfl)) ?_; (with_reducible refine (laws_toStringS.calls k _ _ l0 t227 _ ?side1 ?side2 A5.out).mono ?_); (case side1 => repeat (first | exact HR0.out | (with_reducible refine Kd.C_alloc ?_ _) | (with_reducible refine Kd.C_drewN ?_ _) | (with_reducible refine Kd.C_drew ?_))); (case side2 => exact HC0.out); rintro e w10 ⟨v228, rfl, ho0, hb⟩; refine ⟨_, rfl, ?_⟩; have n0_ := zaa.mk (Kd.R_lower ho0 (zai (by repeat (first | (with_reducible first | exact HB.out | apply zac | apply zab | apply zad) | exact HB.out)))); have n1_ := zaa.mk (zaf (by repeat (first | (with_reducible first | exact HB.out | apply zac | apply zab | apply zad) | exact HB.out)) hb); clear HB; have HO229 := n0_; have HB := n1_; clear n0_ n1_; (try clear hb); (try clear hb2); (try clear hk); (try clear hi); (try clear ho0); obtain ⟨Ao11, co11, eo11⟩ := Kd.R_slice HO229.out; subst eo11) | ((with_reducible refine zar (f := 13) rfl ?_); refine zbp (some 25) rfl rfl Try.func13 (by kernel_rfl) rfl #[.slice Ao11 t227.length co11, .int .i64 a1] rfl (by (try simp only [List.map_toArray, List.map_cons, List.map_nil]); first | done | rfl | (simp only [List.length_drop, List.length_take]; rfl)) ?_; (with_reducible refine (spec_NearOut.calls _ _ t227 a1 t230 t231 _ ?side1 ?side2 A6.out).mono ?_); (case side1 => repeat (first | exact (Kd.R_reads' HO229.out).2.2 | (with_reducible refine Kd.C_alloc ?_ _) | (with_reducible refine Kd.C_drewN ?_ _) | (with_reducible refine Kd.C_drew ?_))); (case side2 => exact (Kd.R_reads' HO229.out).2.1); rintro e w12 ⟨v232, rfl, ho0, hb⟩; refine ⟨_, rfl, ?_⟩; have n0_ := zaa.mk (Kd.R_below (by (with_reducible repeat (first | apply Kd.R_alloc | apply Kd.R_drewN | apply Kd.R_drew)); exact HO229.out) hb); have n1_ := zaa.mk (Kd.R_lower ho0 (zai (by repeat (first | (with_reducible first | exact HB.out | apply zac | apply zab | apply zad) | exact HB.out)))); have n2_ := zaa.mk (zaf (by repeat (first | (with_reducible first | exact HB.out | apply zac | apply zab | apply zad) | exact HB.out)) hb); clear HO229; clear HB; have HO229 := n0_; have HO233 := n1_; have HB := n2_; clear n0_ n1_ n2_; (try clear hb); (try clear hb2); (try clear hk); (try clear hi); (try clear ho0)) | ((with_reducible refine zar (f := 14) rfl ?_); refine zbp (some 29) rfl rfl Try.func14 (by kernel_rfl) rfl #[.slice A0 l0.length c0] rfl (by (try simp only [List.map_toArray, List.map_cons, List.map_nil]); first | done | rfl | (simp only [List.length_drop, List.length_take]; rfl)) ?_; (with_reducible refine (laws_toStringS.calls k _ _ l0 t234 _ ?side1 ?side2 A7.out).mono ?_); (case side1 => repeat (first | exact (Kd.C_below HR0.out HB.out) | (with_reducible refine Kd.C_alloc ?_ _) | (with_reducible refine Kd.C_drewN ?_ _) | (with_reducible refine Kd.C_drew ?_))); (case side2 => exact HC0.out); rintro e w13 ⟨v235, rfl, ho0, hb⟩; refine ⟨_, rfl, ?_⟩; have n0_ := zaa.mk (Kd.R_elder' (by (with_reducible repeat (first | apply Kd.R_alloc | apply Kd.R_drewN | apply Kd.R_drew)); exact HO229.out) (Kd.R_base ho0) hb); have n1_ := zaa.mk (Kd.R_below (by (with_reducible repeat (first | apply Kd.R_alloc | apply Kd.R_drewN | apply Kd.R_drew)); exact HO233.out) hb); have n2_ := zaa.mk (Kd.R_lower (Kd.R_new' ho0 (Kd.R_lt (by (with_reducible repeat (first | apply Kd.R_alloc | apply Kd.R_drewN | apply Kd.R_drew)); exact HO229.out))) (zai (by repeat (first | (with_reducible first | exact HB.out | apply zac | apply zab | apply zad) | exact HB.out)))); have n3_ := zaa.mk (zaf (by repeat (first | (with_reducible first | exact HB.out | apply zac | apply zab | apply zad) | exact HB.out)) hb); clear HO229; clear HO233; clear HB; have HO229 := n0_; have HO233 := n1_; have HO236 := n2_; have HB := n3_; clear n0_ n1_ n2_ n3_; (try clear hb); (try clear hb2); (try clear hk); (try clear hi); (try clear ho0); obtain ⟨Ao14, co14, eo14⟩ := Kd.R_slice HO236.out; subst eo14) | ((with_reducible refine zar (f := 15) rfl ?_); refine zbp (some 33) rfl rfl Try.func15 (by kernel_rfl) rfl #[.slice Ao14 t234.length co14, .int .i64 a1] rfl (by (try simp only [List.map_toArray, List.map_cons, List.map_nil]); first | done | rfl | (simp only [List.length_drop, List.length_take]; rfl)) ?_; (with_reducible refine (impl_NearOut.calls _ _ t234 a1 t237 t238 _ ?side1 ?side2 A8.out).mono ?_); (case side1 => repeat (first | exact (Kd.R_reads' HO236.out).2.2 | (with_reducible refine Kd.C_alloc ?_ _) | (with_reducible refine Kd.C_drewN ?_ _) | (with_reducible refine Kd.C_drew ?_))); (case side2 => exact (Kd.R_reads' HO236.out).2.1); rintro e w15 ⟨v239, rfl, ho0, hb⟩; refine ⟨_, rfl, ?_⟩; have n0_ := zaa.mk (Kd.R_below (by (with_reducible repeat (first | apply Kd.R_alloc | apply Kd.R_drewN | apply Kd.R_drew)); exact HO229.out) hb); have n1_ := zaa.mk (Kd.R_elder' (by (with_reducible repeat (first | apply Kd.R_alloc | apply Kd.R_drewN | apply Kd.R_drew)); exact HO233.out) (Kd.R_base ho0) hb); have n2_ := zaa.mk (Kd.R_below (by (with_reducible repeat (first | apply Kd.R_alloc | apply Kd.R_drewN | apply Kd.R_drew)); exact HO236.out) hb); have n3_ := zaa.mk (Kd.R_lower (Kd.R_new' ho0 (Kd.R_lt (by (with_reducible repeat (first | apply Kd.R_alloc | apply Kd.R_drewN | apply Kd.R_drew)); exact HO233.out))) (zai (by repeat (first | (with_reducible first | exact HB.out | apply zac | apply zab | apply zad) | exact HB.out)))); have n4_ := zaa.mk (zaf (by repeat (first | (with_reducible first | exact HB.out | apply zac | apply zab | apply zad) | exact HB.out)) hb); clear HO229; clear HO233; clear HO236; clear HB; have HO229 := n0_; have HO233 := n1_; have HO236 := n2_; have HO240 := n3_; have HB := n4_; clear n0_ n1_ n2_ n3_ n4_; (try clear hb); (try clear hb2); (try clear hk); (try clear hi); (try clear ho0)))
  (try simp only [Act.put, List.setIfInBounds_toArray, List.set_cons_zero, List.set_cons_succ])
  go_cut [44] (fun v44 wc => ∃ (kq : Nat) (x44_8 : Bool), v44 = .bool x44_8 ∧ zaa (laws_FnExactNearOut.j0 kq l0 a1 t230 t231 t234 t237 t238 x44_8 = some r) ∧ zaa (kq ≤ k) ∧ zaa (Kd.R (Kd.int .i64) 3 wc w.heap.size (fun k_ => some k_ ≠ (v239 : Value).ownBlock) v232 t230) ∧ zaa (Kd.R Kd.string 9 wc w.heap.size (fun _ => True) (.slice Ao14 t234.length co14) t234) ∧ zaa (Kd.R (Kd.int .i64) 3 wc w.heap.size (fun k_ => some k_ ≠ (v232 : Value).ownBlock) v239 t237) ∧ zaa (Below w.heap.size w wc))
  case first =>
   have H := HC9.out
   clear HC9
   replace H := Option.bind_eq_some_iff.mp H
   obtain ⟨t241, A160, H⟩ := H
   replace H : (if t241 = true then (laws_FnExactNearOut.j0 k l0 a1 t230 t231 t234 t237 t238 (t238 != t231)) else (laws_FnExactNearOut.j0 k l0 a1 t230 t231 t234 t237 t238 true)) = some r := H
   have A16 := zaa.mk A160
   clear A160
   by_cases c17 : t241 = true
   ·subst c17
    have H1 : (laws_FnExactNearOut.j0 k l0 a1 t230 t231 t234 t237 t238 (t238 != t231)) = some r := by rw [if_pos rfl] at H; exact H
    clear H
    have H := H1
    clear H1
    have H' := zaa.mk H
    clear H
    obtain ⟨Ao18, co18, eo18⟩ := Kd.R_slice HO240.out
    subst eo18
    obtain ⟨Ao19, co19, eo19⟩ := Kd.R_slice HO233.out
    subst eo19
    go_wp2_with (first | ((with_reducible refine zar (f := 16) rfl ?_); refine zbp (some 38) rfl rfl Try.func16 (by kernel_rfl) rfl #[.slice Ao18 t237.length co18, .slice Ao19 t230.length co19] rfl (by (try simp only [List.map_toArray, List.map_cons, List.map_nil]); first | done | rfl | (simp only [List.length_drop, List.length_take]; rfl)) ?_; (with_reducible refine (laws_eqIntS.calls k _ _ t237 _ _ t230 true _ ?side1 ?side2 ?side3 ?side4 A16.out).mono ?_); (case side1 => repeat (first | exact (Kd.R_reads' HO240.out).2.2 | (with_reducible refine Kd.C_alloc ?_ _) | (with_reducible refine Kd.C_drewN ?_ _) | (with_reducible refine Kd.C_drew ?_))); (case side2 => exact (Kd.R_reads' HO240.out).2.1); (case side3 => repeat (first | exact (Kd.R_reads' HO233.out).2.2 | (with_reducible refine Kd.C_alloc ?_ _) | (with_reducible refine Kd.C_drewN ?_ _) | (with_reducible refine Kd.C_drew ?_))); (case side4 => exact (Kd.R_reads' HO233.out).2.1); rintro e w' ⟨rfl, ⟨nd, rfl⟩⟩; refine ⟨_, rfl, ?_⟩))
    go_meet
    case rel => exact ⟨_, ((t238 != t231)), (by first | rfl | (simp; done) | (simp [*]; done)), H', ⟨by first | omega | exact Nat.le_refl _⟩, ⟨by (with_reducible repeat (first | apply Kd.R_alloc | apply Kd.R_drewN | apply Kd.R_drew)); exact Kd.R_mono HO233.out (fun _ hk => hk.2)⟩, ⟨by (with_reducible repeat (first | apply Kd.R_alloc | apply Kd.R_drewN | apply Kd.R_drew)); exact Kd.R_mono HO236.out (fun _ hk => trivial)⟩, ⟨by (with_reducible repeat (first | apply Kd.R_alloc | apply Kd.R_drewN | apply Kd.R_drew)); exact Kd.R_mono HO240.out (fun _ hk => hk.2)⟩, ⟨by repeat (first | (with_reducible first | exact HB.out | apply zac | apply zab | apply zad) | exact HB.out)⟩⟩
   ·replace c17 := Bool.eq_false_iff.mpr c17
    subst c17
    have H1 : (laws_FnExactNearOut.j0 k l0 a1 t230 t231 t234 t237 t238 true) = some r := by rw [if_neg (show ¬ (false = true) by decide)] at H; exact H
    clear H
    have H := H1
    clear H1
    have H' := zaa.mk H
    clear H
    obtain ⟨Ao20, co20, eo20⟩ := Kd.R_slice HO240.out
    subst eo20
    obtain ⟨Ao21, co21, eo21⟩ := Kd.R_slice HO233.out
    subst eo21
    go_wp2_with (first | ((with_reducible refine zar (f := 16) rfl ?_); refine zbp (some 38) rfl rfl Try.func16 (by kernel_rfl) rfl #[.slice Ao20 t237.length co20, .slice Ao21 t230.length co21] rfl (by (try simp only [List.map_toArray, List.map_cons, List.map_nil]); first | done | rfl | (simp only [List.length_drop, List.length_take]; rfl)) ?_; (with_reducible refine (laws_eqIntS.calls k _ _ t237 _ _ t230 false _ ?side1 ?side2 ?side3 ?side4 A16.out).mono ?_); (case side1 => repeat (first | exact (Kd.R_reads' HO240.out).2.2 | (with_reducible refine Kd.C_alloc ?_ _) | (with_reducible refine Kd.C_drewN ?_ _) | (with_reducible refine Kd.C_drew ?_))); (case side2 => exact (Kd.R_reads' HO240.out).2.1); (case side3 => repeat (first | exact (Kd.R_reads' HO233.out).2.2 | (with_reducible refine Kd.C_alloc ?_ _) | (with_reducible refine Kd.C_drewN ?_ _) | (with_reducible refine Kd.C_drew ?_))); (case side4 => exact (Kd.R_reads' HO233.out).2.1); rintro e w' ⟨rfl, ⟨nd, rfl⟩⟩; refine ⟨_, rfl, ?_⟩))
    go_meet
    case rel => exact ⟨_, (true), (by first | rfl | (simp; done) | (simp [*]; done)), H', ⟨by first | omega | exact Nat.le_refl _⟩, ⟨by (with_reducible repeat (first | apply Kd.R_alloc | apply Kd.R_drewN | apply Kd.R_drew)); exact Kd.R_mono HO233.out (fun _ hk => hk.2)⟩, ⟨by (with_reducible repeat (first | apply Kd.R_alloc | apply Kd.R_drewN | apply Kd.R_drew)); exact Kd.R_mono HO236.out (fun _ hk => trivial)⟩, ⟨by (with_reducible repeat (first | apply Kd.R_alloc | apply Kd.R_drewN | apply Kd.R_drew)); exact Kd.R_mono HO240.out (fun _ hk => hk.2)⟩, ⟨by repeat (first | (with_reducible first | exact HB.out | apply zac | apply zab | apply zad) | exact HB.out)⟩⟩
  case rest =>
   clear HC9
   try clear c1
   try clear p2
   try clear c3
   try clear c4
   try clear c4b0
   try clear c12
   try clear c13
   try clear c14
   try clear c15
   try clear c16
   try clear c17
   obtain ⟨kq, x44_8, rfl, HA, HJ8, HO_6, HO_8, HO_9, HB⟩ := hcut
   cases kq with
   | zero => exact absurd HA.out (by simp [laws_FnExactNearOut.j0])
   | succ kj8 =>
    have H := HA.out
    clear HA
    simp only [laws_FnExactNearOut.j0] at H
    by_cases c22 : x44_8 = true
    ·subst c22
     have H1 : (some false) = some r := by rw [if_pos rfl] at H; exact H
     clear H
     have H := H1
     clear H1
     obtain rfl := Option.some.inj H
     go_wp2
     go_ret
     exact ⟨by first | rfl | (simp [zam, zal] <;> rfl) | (simp [*, zam, zal] <;> rfl), by repeat (first | (with_reducible first | exact HB.out | apply zac | apply zab | apply zad) | exact HB.out)⟩
    ·replace c22 := Bool.eq_false_iff.mpr c22
     subst c22
     have H1 : ((laws_toStringS.f kj8 l0).bind fun t242 => ((laws_eqStringS.f kj8 t234 t242).bind fun t245 => (if t245 = true then ((laws_markStringS.f kj8 t234 1).bind fun bt246 => (if bt246.1 < 0 then (laws_FnExactNearOut.j1 kj8 l0 a1 t230 t231 t237 true) else ((laws_eqIntS.f kj8 t237 t230).bind fun t248 => (if t248 = true then (laws_FnExactNearOut.j1 kj8 l0 a1 t230 t231 t237 (t238 != t231)) else (laws_FnExactNearOut.j1 kj8 l0 a1 t230 t231 t237 true))))) else (some false)))) = some r := by rw [if_neg (show ¬ (false = true) by decide)] at H; exact H
     clear H
     have H := H1
     clear H1
     replace H := Option.bind_eq_some_iff.mp H
     obtain ⟨t242, A230, H⟩ := H
     replace H : ((laws_eqStringS.f kj8 t234 t242).bind fun t245 => (if t245 = true then ((laws_markStringS.f kj8 t234 1).bind fun bt246 => (if bt246.1 < 0 then (laws_FnExactNearOut.j1 kj8 l0 a1 t230 t231 t237 true) else ((laws_eqIntS.f kj8 t237 t230).bind fun t248 => (if t248 = true then (laws_FnExactNearOut.j1 kj8 l0 a1 t230 t231 t237 (t238 != t231)) else (laws_FnExactNearOut.j1 kj8 l0 a1 t230 t231 t237 true))))) else (some false))) = some r := H
     have A23 := zaa.mk A230
     clear A230
     replace H := Option.bind_eq_some_iff.mp H
     obtain ⟨t245, A240, H⟩ := H
     replace H : (if t245 = true then ((laws_markStringS.f kj8 t234 1).bind fun bt246 => (if bt246.1 < 0 then (laws_FnExactNearOut.j1 kj8 l0 a1 t230 t231 t237 true) else ((laws_eqIntS.f kj8 t237 t230).bind fun t248 => (if t248 = true then (laws_FnExactNearOut.j1 kj8 l0 a1 t230 t231 t237 (t238 != t231)) else (laws_FnExactNearOut.j1 kj8 l0 a1 t230 t231 t237 true))))) else (some false)) = some r := H
     have A24 := zaa.mk A240
     clear A240
     by_cases c25 : t245 = true
     ·subst c25
      have H1 : ((laws_markStringS.f kj8 t234 1).bind fun bt246 => (if bt246.1 < 0 then (laws_FnExactNearOut.j1 kj8 l0 a1 t230 t231 t237 true) else ((laws_eqIntS.f kj8 t237 t230).bind fun t248 => (if t248 = true then (laws_FnExactNearOut.j1 kj8 l0 a1 t230 t231 t237 (t238 != t231)) else (laws_FnExactNearOut.j1 kj8 l0 a1 t230 t231 t237 true))))) = some r := by rw [if_pos rfl] at H; exact H
      clear H
      have H := H1
      clear H1
      replace H := Option.bind_eq_some_iff.mp H
      obtain ⟨⟨t246, t247⟩, A260, H⟩ := H
      replace H : (if t246 < 0 then (laws_FnExactNearOut.j1 kj8 l0 a1 t230 t231 t237 true) else ((laws_eqIntS.f kj8 t237 t230).bind fun t248 => (if t248 = true then (laws_FnExactNearOut.j1 kj8 l0 a1 t230 t231 t237 (t238 != t231)) else (laws_FnExactNearOut.j1 kj8 l0 a1 t230 t231 t237 true)))) = some r := H
      have A26 := zaa.mk A260
      clear A260
      have HC27 := zaa.mk H
      clear H
      go_upto_region 14 with (first | ((with_reducible refine zar (f := 14) rfl ?_); refine zbp (some 47) rfl rfl Try.func14 (by kernel_rfl) rfl #[.slice A0 l0.length c0] rfl (by (try simp only [List.map_toArray, List.map_cons, List.map_nil]); first | done | rfl | (simp only [List.length_drop, List.length_take]; rfl)) ?_; (with_reducible refine (laws_toStringS.calls kj8 _ _ l0 t242 _ ?side1 ?side2 A23.out).mono ?_); (case side1 => repeat (first | exact (Kd.C_below HR0.out HB.out) | (with_reducible refine Kd.C_alloc ?_ _) | (with_reducible refine Kd.C_drewN ?_ _) | (with_reducible refine Kd.C_drew ?_))); (case side2 => exact HC0.out); rintro e w28 ⟨v243, rfl, ho0, hb⟩; refine ⟨_, rfl, ?_⟩; have n0_ := zaa.mk (Kd.R_below (by (with_reducible repeat (first | apply Kd.R_alloc | apply Kd.R_drewN | apply Kd.R_drew)); exact HO_6.out) hb); have n1_ := zaa.mk (Kd.R_elder' (by (with_reducible repeat (first | apply Kd.R_alloc | apply Kd.R_drewN | apply Kd.R_drew)); exact HO_8.out) (Kd.R_base ho0) hb); have n2_ := zaa.mk (Kd.R_below (by (with_reducible repeat (first | apply Kd.R_alloc | apply Kd.R_drewN | apply Kd.R_drew)); exact HO_9.out) hb); have n3_ := zaa.mk (Kd.R_lower (Kd.R_new' ho0 (Kd.R_lt (by (with_reducible repeat (first | apply Kd.R_alloc | apply Kd.R_drewN | apply Kd.R_drew)); exact HO_8.out))) (zai (by repeat (first | (with_reducible first | exact HB.out | apply zac | apply zab | apply zad) | exact HB.out)))); have n4_ := zaa.mk (zaf (by repeat (first | (with_reducible first | exact HB.out | apply zac | apply zab | apply zad) | exact HB.out)) hb); clear HO_6; clear HO_8; clear HO_9; clear HB; have HO_6 := n0_; have HO_8 := n1_; have HO_9 := n2_; have HO244 := n3_; have HB := n4_; clear n0_ n1_ n2_ n3_ n4_; (try clear hb); (try clear hb2); (try clear hk); (try clear hi); (try clear ho0); obtain ⟨Ao29, co29, eo29⟩ := Kd.R_slice HO244.out; subst eo29) | ((with_reducible refine zar (f := 17) rfl ?_); refine zbp (some 48) rfl rfl Try.func17 (by kernel_rfl) rfl #[.slice Ao14 t234.length co14, .slice Ao29 t242.length co29] rfl (by (try simp only [List.map_toArray, List.map_cons, List.map_nil]); first | done | rfl | (simp only [List.length_drop, List.length_take]; rfl)) ?_; (with_reducible refine (laws_eqStringS.calls kj8 _ _ t234 _ _ t242 true _ ?side1 ?side2 ?side3 ?side4 A24.out).mono ?_); (case side1 => repeat (first | exact (Kd.R_reads' HO_8.out).2.2 | (with_reducible refine Kd.C_alloc ?_ _) | (with_reducible refine Kd.C_drewN ?_ _) | (with_reducible refine Kd.C_drew ?_))); (case side2 => exact (Kd.R_reads' HO_8.out).2.1); (case side3 => repeat (first | exact (Kd.R_reads' HO244.out).2.2 | (with_reducible refine Kd.C_alloc ?_ _) | (with_reducible refine Kd.C_drewN ?_ _) | (with_reducible refine Kd.C_drew ?_))); (case side4 => exact (Kd.R_reads' HO244.out).2.1); rintro e w' ⟨rfl, ⟨nd, rfl⟩⟩; refine ⟨_, rfl, ?_⟩) | ((with_reducible refine zar (f := 18) rfl ?_); refine zbp (some 52) rfl rfl Try.func18 (by kernel_rfl) rfl #[.slice Ao14 t234.length co14, .int .i64 1] rfl (by (try simp only [List.map_toArray, List.map_cons, List.map_nil]); first | done | rfl | (simp only [List.length_drop, List.length_take]; rfl)) ?_; (with_reducible refine (laws_markStringS.calls kj8 (fun k_ => some k_ = (.slice Ao14 t234.length co14 : Value).ownBlock) (.slice Ao14 t234.length co14) t234 1 t246 t247 w _ ?side1 ?side2 A26.out).mono ?_); (case side1 => repeat (first | (with_reducible first | exact HB.out | apply zac | apply zab | apply zad) | exact HB.out)); (case side2 => exact Kd.R_tight rfl HO_8.out); rintro e w30 ⟨rfl, hy0, hb, hkp⟩; refine ⟨_, rfl, ?_⟩; have n0_ := zaa.mk (Kd.R_mono (ok' := fun k_ => some k_ ≠ (v239 : Value).ownBlock) (Kd.R_keptB ((Kd.R_apart' HO_6.out (Kd.R_typed HO_8.out) (by decide))) hkp (fun k_ hk_ hs_ => (hk_.2) hs_)) (fun k_ hk_ => hk_.1.1)); have n1_ := zaa.mk (Kd.R_reok rfl hy0 (fun k_ e_ => HO_8.out.1 k_ e_)); have n2_ := zaa.mk (Kd.R_mono (ok' := fun k_ => some k_ ≠ (v232 : Value).ownBlock) (Kd.R_keptB ((Kd.R_apart' HO_9.out (Kd.R_typed HO_8.out) (by decide))) hkp (fun k_ hk_ hs_ => (hk_.2) hs_)) (fun k_ hk_ => hk_.1.1)); have n3_ := zaa.mk (Kd.R_mono (ok' := fun k_ => some k_ ≠ (.slice Ao14 t234.length co14 : Value).ownBlock) (Kd.R_keptB (HO244.out) hkp (fun k_ hk_ hs_ => (hk_.2) hs_)) (fun k_ hk_ => hk_.1.2)); have n4_ := zaa.mk (hb); clear HO_6; clear HO_8; clear HO_9; clear HO244; clear HB; have HO_6 := n0_; have HO_8 := n1_; have HO_9 := n2_; have HO244 := n3_; have HB := n4_; clear n0_ n1_ n2_ n3_ n4_; (try clear hb); (try clear hkp); (try clear hy0)))
      (try simp only [Act.put, List.setIfInBounds_toArray, List.set_cons_zero, List.set_cons_succ])
      go_cut [65] (fun v65 wc => ∃ (kq : Nat) (x65_26 : Bool), v65 = .bool x65_26 ∧ zaa (laws_FnExactNearOut.j1 kq l0 a1 t230 t231 t237 x65_26 = some r) ∧ zaa (kq ≤ kj8) ∧ zaa (Kd.R (Kd.int .i64) 3 wc w.heap.size (fun k_ => some k_ ≠ (v239 : Value).ownBlock) v232 t230) ∧ zaa (Kd.R (Kd.int .i64) 3 wc w.heap.size (fun k_ => some k_ ≠ (v232 : Value).ownBlock) v239 t237) ∧ zaa (Below w.heap.size w wc))
      case first =>
       have H := HC27.out
       clear HC27
       by_cases c31 : t246 < 0
       ·rw [if_pos c31] at H
        have c31b0 : decide (t246 < 0) = true := decide_eq_true c31
        clear c31
        (first | rw [c31b0] | (simp only [zak, zan]; rw [c31b0]) | skip)
        have H' := zaa.mk H
        clear H
        go_wp2
        go_meet
        case rel => exact ⟨_, (true), (by first | rfl | (simp; done) | (simp [*]; done)), H', ⟨by have := HJ8.out; first | omega | exact Nat.le_refl _⟩, ⟨by (with_reducible repeat (first | apply Kd.R_alloc | apply Kd.R_drewN | apply Kd.R_drew)); exact HO_6.out⟩, ⟨by (with_reducible repeat (first | apply Kd.R_alloc | apply Kd.R_drewN | apply Kd.R_drew)); exact HO_9.out⟩, ⟨by repeat (first | (with_reducible first | exact HB.out | apply zac | apply zab | apply zad) | exact HB.out)⟩⟩
       ·rw [if_neg c31] at H
        have c31b0 : decide (t246 < 0) = false := decide_eq_false c31
        clear c31
        (first | rw [c31b0] | (simp only [zak, zan]; rw [c31b0]) | skip)
        replace H := Option.bind_eq_some_iff.mp H
        obtain ⟨t248, A320, H⟩ := H
        replace H : (if t248 = true then (laws_FnExactNearOut.j1 kj8 l0 a1 t230 t231 t237 (t238 != t231)) else (laws_FnExactNearOut.j1 kj8 l0 a1 t230 t231 t237 true)) = some r := H
        have A32 := zaa.mk A320
        clear A320
        by_cases c33 : t248 = true
        ·subst c33
         have H1 : (laws_FnExactNearOut.j1 kj8 l0 a1 t230 t231 t237 (t238 != t231)) = some r := by rw [if_pos rfl] at H; exact H
         clear H
         have H := H1
         clear H1
         have H' := zaa.mk H
         clear H
         obtain ⟨Ao34, co34, eo34⟩ := Kd.R_slice HO_9.out
         subst eo34
         obtain ⟨Ao35, co35, eo35⟩ := Kd.R_slice HO_6.out
         subst eo35
         go_wp2_with (first | (go_at_call 16; (with_reducible refine (laws_eqIntS.calls kj8 _ _ t237 _ _ t230 true _ ?side1 ?side2 ?side3 ?side4 A32.out).mono ?_); (case side1 => repeat (first | exact (Kd.R_reads' HO_9.out).2.2 | (with_reducible refine Kd.C_alloc ?_ _) | (with_reducible refine Kd.C_drewN ?_ _) | (with_reducible refine Kd.C_drew ?_))); (case side2 => exact (Kd.R_reads' HO_9.out).2.1); (case side3 => repeat (first | exact (Kd.R_reads' HO_6.out).2.2 | (with_reducible refine Kd.C_alloc ?_ _) | (with_reducible refine Kd.C_drewN ?_ _) | (with_reducible refine Kd.C_drew ?_))); (case side4 => exact (Kd.R_reads' HO_6.out).2.1); rintro e w' ⟨rfl, ⟨nd, rfl⟩⟩))
         go_meet
         case rel => exact ⟨_, ((t238 != t231)), (by first | rfl | (simp; done) | (simp [*]; done)), H', ⟨by have := HJ8.out; first | omega | exact Nat.le_refl _⟩, ⟨by (with_reducible repeat (first | apply Kd.R_alloc | apply Kd.R_drewN | apply Kd.R_drew)); exact HO_6.out⟩, ⟨by (with_reducible repeat (first | apply Kd.R_alloc | apply Kd.R_drewN | apply Kd.R_drew)); exact HO_9.out⟩, ⟨by repeat (first | (with_reducible first | exact HB.out | apply zac | apply zab | apply zad) | exact HB.out)⟩⟩
        ·replace c33 := Bool.eq_false_iff.mpr c33
         subst c33
         have H1 : (laws_FnExactNearOut.j1 kj8 l0 a1 t230 t231 t237 true) = some r := by rw [if_neg (show ¬ (false = true) by decide)] at H; exact H
         clear H
         have H := H1
         clear H1
         have H' := zaa.mk H
         clear H
         obtain ⟨Ao36, co36, eo36⟩ := Kd.R_slice HO_9.out
         subst eo36
         obtain ⟨Ao37, co37, eo37⟩ := Kd.R_slice HO_6.out
         subst eo37
         go_wp2_with (first | (go_at_call 16; (with_reducible refine (laws_eqIntS.calls kj8 _ _ t237 _ _ t230 false _ ?side1 ?side2 ?side3 ?side4 A32.out).mono ?_); (case side1 => repeat (first | exact (Kd.R_reads' HO_9.out).2.2 | (with_reducible refine Kd.C_alloc ?_ _) | (with_reducible refine Kd.C_drewN ?_ _) | (with_reducible refine Kd.C_drew ?_))); (case side2 => exact (Kd.R_reads' HO_9.out).2.1); (case side3 => repeat (first | exact (Kd.R_reads' HO_6.out).2.2 | (with_reducible refine Kd.C_alloc ?_ _) | (with_reducible refine Kd.C_drewN ?_ _) | (with_reducible refine Kd.C_drew ?_))); (case side4 => exact (Kd.R_reads' HO_6.out).2.1); rintro e w' ⟨rfl, ⟨nd, rfl⟩⟩))
         go_meet
         case rel => exact ⟨_, (true), (by first | rfl | (simp; done) | (simp [*]; done)), H', ⟨by have := HJ8.out; first | omega | exact Nat.le_refl _⟩, ⟨by (with_reducible repeat (first | apply Kd.R_alloc | apply Kd.R_drewN | apply Kd.R_drew)); exact HO_6.out⟩, ⟨by (with_reducible repeat (first | apply Kd.R_alloc | apply Kd.R_drewN | apply Kd.R_drew)); exact HO_9.out⟩, ⟨by repeat (first | (with_reducible first | exact HB.out | apply zac | apply zab | apply zad) | exact HB.out)⟩⟩
      case rest =>
       clear HC27
       try clear c1
       try clear c2
       try clear p2
       try clear c3
       try clear c4
       try clear c4b0
       try clear c12
       try clear c13
       try clear c14
       try clear c15
       try clear c16
       try clear c17
       try clear c18
       try clear c22
       try clear c25
       try clear c31
       try clear c31b0
       try clear c33
       try clear p2
       obtain ⟨kq, x65_26, rfl, HA, HJ26, HO_6, HO_9, HB⟩ := hcut
       cases kq with
       | zero => exact absurd HA.out (by simp [laws_FnExactNearOut.j1])
       | succ kj26 =>
        have H := HA.out
        clear HA
        simp only [laws_FnExactNearOut.j1] at H
        by_cases c38 : x65_26 = true
        ·subst c38
         have H1 : (some false) = some r := by rw [if_pos rfl] at H; exact H
         clear H
         have H := H1
         clear H1
         obtain rfl := Option.some.inj H
         go_wp2
         go_ret
         exact ⟨by first | rfl | (simp [zam, zal] <;> rfl) | (simp [*, zam, zal] <;> rfl), by repeat (first | (with_reducible first | exact HB.out | apply zac | apply zab | apply zad) | exact HB.out)⟩
        ·replace c38 := Bool.eq_false_iff.mpr c38
         subst c38
         have H1 : ((laws_markIntS.f kj26 t237 1).bind fun bt249 => ((laws_heldIntS.f kj26 bt249.2 1).bind fun t251 => (if t251 < 0 then (some false) else (if t251 = bt249.1 then ((laws_toStringS.f kj26 l0).bind fun t252 => ((impl_NearOut.f t252 a1).bind fun bt255 => ((laws_eqIntS.f kj26 bt255.1 t230).bind fun t259 => (if t259 = true then (laws_FnExactNearOut.j2 kj26 bt249.2 bt249.1 (bt255.2 != t231)) else (laws_FnExactNearOut.j2 kj26 bt249.2 bt249.1 true))))) else (some false))))) = some r := by rw [if_neg (show ¬ (false = true) by decide)] at H; exact H
         clear H
         have H := H1
         clear H1
         replace H := Option.bind_eq_some_iff.mp H
         obtain ⟨⟨t249, t250⟩, A390, H⟩ := H
         replace H : ((laws_heldIntS.f kj26 t250 1).bind fun t251 => (if t251 < 0 then (some false) else (if t251 = t249 then ((laws_toStringS.f kj26 l0).bind fun t252 => ((impl_NearOut.f t252 a1).bind fun bt255 => ((laws_eqIntS.f kj26 bt255.1 t230).bind fun t259 => (if t259 = true then (laws_FnExactNearOut.j2 kj26 t250 t249 (bt255.2 != t231)) else (laws_FnExactNearOut.j2 kj26 t250 t249 true))))) else (some false)))) = some r := H
         have A39 := zaa.mk A390
         clear A390
         replace H := Option.bind_eq_some_iff.mp H
         obtain ⟨t251, A400, H⟩ := H
         replace H : (if t251 < 0 then (some false) else (if t251 = t249 then ((laws_toStringS.f kj26 l0).bind fun t252 => ((impl_NearOut.f t252 a1).bind fun bt255 => ((laws_eqIntS.f kj26 bt255.1 t230).bind fun t259 => (if t259 = true then (laws_FnExactNearOut.j2 kj26 t250 t249 (bt255.2 != t231)) else (laws_FnExactNearOut.j2 kj26 t250 t249 true))))) else (some false))) = some r := H
         have A40 := zaa.mk A400
         clear A400
         by_cases c41 : t251 < 0
         ·rw [if_pos c41] at H
          have c41b0 : decide (t251 < 0) = true := decide_eq_true c41
          clear c41
          obtain rfl := Option.some.inj H
          obtain ⟨Ao42, co42, eo42⟩ := Kd.R_slice HO_9.out
          subst eo42
          go_wp2_with (first | ((with_reducible refine zar (f := 19) rfl ?_); refine zbp (some 68) rfl rfl Try.func19 (by kernel_rfl) rfl #[.slice Ao42 t237.length co42, .int .i64 1] rfl (by (try simp only [List.map_toArray, List.map_cons, List.map_nil]); first | done | rfl | (simp only [List.length_drop, List.length_take]; rfl)) ?_; (with_reducible refine (laws_markIntS.calls kj26 (fun k_ => some k_ = (.slice Ao42 t237.length co42 : Value).ownBlock) (.slice Ao42 t237.length co42) t237 1 t249 t250 w _ ?side1 ?side2 A39.out).mono ?_); (case side1 => repeat (first | (with_reducible first | exact HB.out | apply zac | apply zab | apply zad) | exact HB.out)); (case side2 => exact Kd.R_tight rfl HO_9.out); rintro e w43 ⟨rfl, hy0, hb, hkp⟩; refine ⟨_, rfl, ?_⟩; have n0_ := zaa.mk (Kd.R_mono (ok' := fun k_ => some k_ ≠ (.slice Ao42 t237.length co42 : Value).ownBlock) (Kd.R_keptB (HO_6.out) hkp (fun k_ hk_ hs_ => (hk_) hs_)) (fun k_ hk_ => hk_.1)); have n1_ := zaa.mk (Kd.R_reok rfl hy0 (fun k_ e_ => HO_9.out.1 k_ e_)); have n2_ := zaa.mk (hb); clear HO_6; clear HO_9; clear HB; have HO_6 := n0_; have HO_9 := n1_; have HB := n2_; clear n0_ n1_ n2_; (try clear hb); (try clear hkp); (try clear hy0)) | ((with_reducible refine zar (f := 20) rfl ?_); refine zbp (some 71) rfl rfl Try.func20 (by kernel_rfl) rfl #[.slice Ao42 t250.length co42, .int .i64 1] rfl (by (try simp only [List.map_toArray, List.map_cons, List.map_nil]); first | done | (rw [show t250.length = t237.length from (Kd.R_reads' HO_9.out).1.symm] <;> rfl) | rfl | (simp only [List.length_drop, List.length_take]; rfl)) ?_; (with_reducible refine (laws_heldIntS.calls kj26 _ _ t250 1 t251 _ ?side1 ?side2 A40.out).mono ?_); (case side1 => repeat (first | exact (Kd.R_reads' HO_9.out).2.2 | (with_reducible refine Kd.C_alloc ?_ _) | (with_reducible refine Kd.C_drewN ?_ _) | (with_reducible refine Kd.C_drew ?_))); (case side2 => rw [show t250.length = t237.length from (Kd.R_reads' HO_9.out).1.symm]; exact (Kd.R_reads' HO_9.out).2.1); rintro e w' ⟨rfl, ⟨nd, rfl⟩⟩; refine ⟨_, rfl, ?_⟩))
          go_ret
          exact ⟨by first | rfl | (simp [zam, zal] <;> rfl) | (simp [*, zam, zal] <;> rfl), by repeat (first | (with_reducible first | exact HB.out | apply zac | apply zab | apply zad) | exact HB.out)⟩
         ·rw [if_neg c41] at H
          have c41b0 : decide (t251 < 0) = false := decide_eq_false c41
          clear c41
          by_cases c44 : t251 = t249
          ·rw [if_pos c44] at H
           have c44b0 : (t251 == t249) = true := beq_iff_eq.mpr c44
           have c44b1 : (t251 != t249) = false := bne_eq_false_iff_eq.mpr c44
           clear c44
           replace H := Option.bind_eq_some_iff.mp H
           obtain ⟨t252, A450, H⟩ := H
           replace H : ((impl_NearOut.f t252 a1).bind fun bt255 => ((laws_eqIntS.f kj26 bt255.1 t230).bind fun t259 => (if t259 = true then (laws_FnExactNearOut.j2 kj26 t250 t249 (bt255.2 != t231)) else (laws_FnExactNearOut.j2 kj26 t250 t249 true)))) = some r := H
           have A45 := zaa.mk A450
           clear A450
           replace H := Option.bind_eq_some_iff.mp H
           obtain ⟨⟨t255, t256⟩, A460, H⟩ := H
           replace H : ((laws_eqIntS.f kj26 t255 t230).bind fun t259 => (if t259 = true then (laws_FnExactNearOut.j2 kj26 t250 t249 (t256 != t231)) else (laws_FnExactNearOut.j2 kj26 t250 t249 true))) = some r := H
           have A46 := zaa.mk A460
           clear A460
           have HC47 := zaa.mk H
           clear H
           obtain ⟨Ao48, co48, eo48⟩ := Kd.R_slice HO_9.out
           subst eo48
           go_upto_region 25 with (first | ((with_reducible refine zar (f := 19) rfl ?_); refine zbp (some 68) rfl rfl Try.func19 (by kernel_rfl) rfl #[.slice Ao48 t237.length co48, .int .i64 1] rfl (by (try simp only [List.map_toArray, List.map_cons, List.map_nil]); first | done | rfl | (simp only [List.length_drop, List.length_take]; rfl)) ?_; (with_reducible refine (laws_markIntS.calls kj26 (fun k_ => some k_ = (.slice Ao48 t237.length co48 : Value).ownBlock) (.slice Ao48 t237.length co48) t237 1 t249 t250 w _ ?side1 ?side2 A39.out).mono ?_); (case side1 => repeat (first | (with_reducible first | exact HB.out | apply zac | apply zab | apply zad) | exact HB.out)); (case side2 => exact Kd.R_tight rfl HO_9.out); rintro e w49 ⟨rfl, hy0, hb, hkp⟩; refine ⟨_, rfl, ?_⟩; have n0_ := zaa.mk (Kd.R_mono (ok' := fun k_ => some k_ ≠ (.slice Ao48 t237.length co48 : Value).ownBlock) (Kd.R_keptB (HO_6.out) hkp (fun k_ hk_ hs_ => (hk_) hs_)) (fun k_ hk_ => hk_.1)); have n1_ := zaa.mk (Kd.R_reok rfl hy0 (fun k_ e_ => HO_9.out.1 k_ e_)); have n2_ := zaa.mk (hb); clear HO_6; clear HO_9; clear HB; have HO_6 := n0_; have HO_9 := n1_; have HB := n2_; clear n0_ n1_ n2_; (try clear hb); (try clear hkp); (try clear hy0)) | ((with_reducible refine zar (f := 20) rfl ?_); refine zbp (some 71) rfl rfl Try.func20 (by kernel_rfl) rfl #[.slice Ao48 t250.length co48, .int .i64 1] rfl (by (try simp only [List.map_toArray, List.map_cons, List.map_nil]); first | done | (rw [show t250.length = t237.length from (Kd.R_reads' HO_9.out).1.symm] <;> rfl) | rfl | (simp only [List.length_drop, List.length_take]; rfl)) ?_; (with_reducible refine (laws_heldIntS.calls kj26 _ _ t250 1 t251 _ ?side1 ?side2 A40.out).mono ?_); (case side1 => repeat (first | exact (Kd.R_reads' HO_9.out).2.2 | (with_reducible refine Kd.C_alloc ?_ _) | (with_reducible refine Kd.C_drewN ?_ _) | (with_reducible refine Kd.C_drew ?_))); (case side2 => rw [show t250.length = t237.length from (Kd.R_reads' HO_9.out).1.symm]; exact (Kd.R_reads' HO_9.out).2.1); rintro e w' ⟨rfl, ⟨nd, rfl⟩⟩; refine ⟨_, rfl, ?_⟩) | ((with_reducible refine zar (f := 14) rfl ?_); refine zbp (some 79) rfl rfl Try.func14 (by kernel_rfl) rfl #[.slice A0 l0.length c0] rfl (by (try simp only [List.map_toArray, List.map_cons, List.map_nil]); first | done | rfl | (simp only [List.length_drop, List.length_take]; rfl)) ?_; (with_reducible refine (laws_toStringS.calls kj26 _ _ l0 t252 _ ?side1 ?side2 A45.out).mono ?_); (case side1 => repeat (first | exact (Kd.C_below HR0.out (by repeat (first | (with_reducible first | exact HB.out | apply zac | apply zab | apply zad) | exact HB.out))) | (with_reducible refine Kd.C_alloc ?_ _) | (with_reducible refine Kd.C_drewN ?_ _) | (with_reducible refine Kd.C_drew ?_))); (case side2 => exact HC0.out); rintro e w50 ⟨v253, rfl, ho0, hb⟩; refine ⟨_, rfl, ?_⟩; have n0_ := zaa.mk (Kd.R_below (by (with_reducible repeat (first | apply Kd.R_alloc | apply Kd.R_drewN | apply Kd.R_drew)); exact HO_6.out) hb); have n1_ := zaa.mk (Kd.R_below (by (with_reducible repeat (first | apply Kd.R_alloc | apply Kd.R_drewN | apply Kd.R_drew)); exact HO_9.out) hb); have n2_ := zaa.mk (Kd.R_lower ho0 (zai (by repeat (first | (with_reducible first | exact HB.out | apply zac | apply zab | apply zad) | exact HB.out)))); have n3_ := zaa.mk (zaf (by repeat (first | (with_reducible first | exact HB.out | apply zac | apply zab | apply zad) | exact HB.out)) hb); clear HO_6; clear HO_9; clear HB; have HO_6 := n0_; have HO_9 := n1_; have HO254 := n2_; have HB := n3_; clear n0_ n1_ n2_ n3_; (try clear hb); (try clear hb2); (try clear hk); (try clear hi); (try clear ho0); obtain ⟨Ao51, co51, eo51⟩ := Kd.R_slice HO254.out; subst eo51) | ((with_reducible refine zar (f := 15) rfl ?_); refine zbp (some 81) rfl rfl Try.func15 (by kernel_rfl) rfl #[.slice Ao51 t252.length co51, .int .i64 a1] rfl (by (try simp only [List.map_toArray, List.map_cons, List.map_nil]); first | done | rfl | (simp only [List.length_drop, List.length_take]; rfl)) ?_; (with_reducible refine (impl_NearOut.calls _ _ t252 a1 t255 t256 _ ?side1 ?side2 A46.out).mono ?_); (case side1 => repeat (first | exact (Kd.R_reads' HO254.out).2.2 | (with_reducible refine Kd.C_alloc ?_ _) | (with_reducible refine Kd.C_drewN ?_ _) | (with_reducible refine Kd.C_drew ?_))); (case side2 => exact (Kd.R_reads' HO254.out).2.1); rintro e w52 ⟨v257, rfl, ho0, hb⟩; refine ⟨_, rfl, ?_⟩; have n0_ := zaa.mk (Kd.R_elder' (by (with_reducible repeat (first | apply Kd.R_alloc | apply Kd.R_drewN | apply Kd.R_drew)); exact HO_6.out) (Kd.R_base ho0) hb); have n1_ := zaa.mk (Kd.R_elder' (by (with_reducible repeat (first | apply Kd.R_alloc | apply Kd.R_drewN | apply Kd.R_drew)); exact HO_9.out) (Kd.R_base ho0) hb); have n2_ := zaa.mk (Kd.R_below (by (with_reducible repeat (first | apply Kd.R_alloc | apply Kd.R_drewN | apply Kd.R_drew)); exact HO254.out) hb); have n3_ := zaa.mk (Kd.R_lower (Kd.R_new' (Kd.R_new' ho0 (Kd.R_lt (by (with_reducible repeat (first | apply Kd.R_alloc | apply Kd.R_drewN | apply Kd.R_drew)); exact HO_6.out))) (Kd.R_lt (by (with_reducible repeat (first | apply Kd.R_alloc | apply Kd.R_drewN | apply Kd.R_drew)); exact HO_9.out))) (zai (by repeat (first | (with_reducible first | exact HB.out | apply zac | apply zab | apply zad) | exact HB.out)))); have n4_ := zaa.mk (zaf (by repeat (first | (with_reducible first | exact HB.out | apply zac | apply zab | apply zad) | exact HB.out)) hb); clear HO_6; clear HO_9; clear HO254; clear HB; have HO_6 := n0_; have HO_9 := n1_; have HO254 := n2_; have HO258 := n3_; have HB := n4_; clear n0_ n1_ n2_ n3_ n4_; (try clear hb); (try clear hb2); (try clear hk); (try clear hi); (try clear ho0)))
           (try simp only [Act.put, List.setIfInBounds_toArray, List.set_cons_zero, List.set_cons_succ])
           go_cut [92] (fun v92 wc => ∃ (kq : Nat) (x92_46 : Bool), v92 = .bool x92_46 ∧ zaa (laws_FnExactNearOut.j2 kq t250 t249 x92_46 = some r) ∧ zaa (kq ≤ kj26) ∧ zaa (Kd.R (Kd.int .i64) 3 wc w.heap.size (fun _ => True) (.slice Ao48 t237.length co48) t250) ∧ zaa (Below w.heap.size w wc))
           case first =>
            have H := HC47.out
            clear HC47
            replace H := Option.bind_eq_some_iff.mp H
            obtain ⟨t259, A530, H⟩ := H
            replace H : (if t259 = true then (laws_FnExactNearOut.j2 kj26 t250 t249 (t256 != t231)) else (laws_FnExactNearOut.j2 kj26 t250 t249 true)) = some r := H
            have A53 := zaa.mk A530
            clear A530
            by_cases c54 : t259 = true
            ·subst c54
             have H1 : (laws_FnExactNearOut.j2 kj26 t250 t249 (t256 != t231)) = some r := by rw [if_pos rfl] at H; exact H
             clear H
             have H := H1
             clear H1
             have H' := zaa.mk H
             clear H
             obtain ⟨Ao55, co55, eo55⟩ := Kd.R_slice HO258.out
             subst eo55
             obtain ⟨Ao56, co56, eo56⟩ := Kd.R_slice HO_6.out
             subst eo56
             go_wp2_with (first | ((with_reducible refine zar (f := 16) rfl ?_); refine zbp (some 86) rfl rfl Try.func16 (by kernel_rfl) rfl #[.slice Ao55 t255.length co55, .slice Ao56 t230.length co56] rfl (by (try simp only [List.map_toArray, List.map_cons, List.map_nil]); first | done | rfl | (simp only [List.length_drop, List.length_take]; rfl)) ?_; (with_reducible refine (laws_eqIntS.calls kj26 _ _ t255 _ _ t230 true _ ?side1 ?side2 ?side3 ?side4 A53.out).mono ?_); (case side1 => repeat (first | exact (Kd.R_reads' HO258.out).2.2 | (with_reducible refine Kd.C_alloc ?_ _) | (with_reducible refine Kd.C_drewN ?_ _) | (with_reducible refine Kd.C_drew ?_))); (case side2 => exact (Kd.R_reads' HO258.out).2.1); (case side3 => repeat (first | exact (Kd.R_reads' HO_6.out).2.2 | (with_reducible refine Kd.C_alloc ?_ _) | (with_reducible refine Kd.C_drewN ?_ _) | (with_reducible refine Kd.C_drew ?_))); (case side4 => exact (Kd.R_reads' HO_6.out).2.1); rintro e w' ⟨rfl, ⟨nd, rfl⟩⟩; refine ⟨_, rfl, ?_⟩))
             go_meet
             case rel => exact ⟨_, ((t256 != t231)), (by first | rfl | (simp; done) | (simp [*]; done)), H', ⟨by have := HJ8.out; have := HJ26.out; first | omega | exact Nat.le_refl _⟩, ⟨by (with_reducible repeat (first | apply Kd.R_alloc | apply Kd.R_drewN | apply Kd.R_drew)); exact Kd.R_mono HO_9.out (fun _ hk => trivial)⟩, ⟨by repeat (first | (with_reducible first | exact HB.out | apply zac | apply zab | apply zad) | exact HB.out)⟩⟩
            ·replace c54 := Bool.eq_false_iff.mpr c54
             subst c54
             have H1 : (laws_FnExactNearOut.j2 kj26 t250 t249 true) = some r := by rw [if_neg (show ¬ (false = true) by decide)] at H; exact H
             clear H
             have H := H1
             clear H1
             have H' := zaa.mk H
             clear H
             obtain ⟨Ao57, co57, eo57⟩ := Kd.R_slice HO258.out
             subst eo57
             obtain ⟨Ao58, co58, eo58⟩ := Kd.R_slice HO_6.out
             subst eo58
             go_wp2_with (first | ((with_reducible refine zar (f := 16) rfl ?_); refine zbp (some 86) rfl rfl Try.func16 (by kernel_rfl) rfl #[.slice Ao57 t255.length co57, .slice Ao58 t230.length co58] rfl (by (try simp only [List.map_toArray, List.map_cons, List.map_nil]); first | done | rfl | (simp only [List.length_drop, List.length_take]; rfl)) ?_; (with_reducible refine (laws_eqIntS.calls kj26 _ _ t255 _ _ t230 false _ ?side1 ?side2 ?side3 ?side4 A53.out).mono ?_); (case side1 => repeat (first | exact (Kd.R_reads' HO258.out).2.2 | (with_reducible refine Kd.C_alloc ?_ _) | (with_reducible refine Kd.C_drewN ?_ _) | (with_reducible refine Kd.C_drew ?_))); (case side2 => exact (Kd.R_reads' HO258.out).2.1); (case side3 => repeat (first | exact (Kd.R_reads' HO_6.out).2.2 | (with_reducible refine Kd.C_alloc ?_ _) | (with_reducible refine Kd.C_drewN ?_ _) | (with_reducible refine Kd.C_drew ?_))); (case side4 => exact (Kd.R_reads' HO_6.out).2.1); rintro e w' ⟨rfl, ⟨nd, rfl⟩⟩; refine ⟨_, rfl, ?_⟩))
             go_meet
             case rel => exact ⟨_, (true), (by first | rfl | (simp; done) | (simp [*]; done)), H', ⟨by have := HJ8.out; have := HJ26.out; first | omega | exact Nat.le_refl _⟩, ⟨by (with_reducible repeat (first | apply Kd.R_alloc | apply Kd.R_drewN | apply Kd.R_drew)); exact Kd.R_mono HO_9.out (fun _ hk => trivial)⟩, ⟨by repeat (first | (with_reducible first | exact HB.out | apply zac | apply zab | apply zad) | exact HB.out)⟩⟩
           case rest =>
            clear HC47
            try clear c1
            try clear c2
            try clear p2
            try clear c3
            try clear c4
            try clear c4b0
            try clear c5
            try clear c12
            try clear c13
            try clear c14
            try clear c15
            try clear c16
            try clear c17
            try clear c18
            try clear c19
            try clear c20
            try clear c22
            try clear c25
            try clear c31
            try clear c31b0
            try clear c33
            try clear c38
            try clear c41
            try clear c41b0
            try clear c44
            try clear c44b0
            try clear c44b1
            try clear c54
            try clear p2
            obtain ⟨kq, x92_46, rfl, HA, HJ46, HO_9, HB⟩ := hcut
            have hl9_46 := (Kd.R_reads' HO_9.out).1
            rw [hl9_46] at HO_9
            (try simp only [hl9_46])
            cases kq with
            | zero => exact absurd HA.out (by simp [laws_FnExactNearOut.j2])
            | succ kj46 =>
             have H := HA.out
             clear HA
             simp only [laws_FnExactNearOut.j2] at H
             by_cases c59 : x92_46 = true
             ·subst c59
              have H1 : (some false) = some r := by rw [if_pos rfl] at H; exact H
              clear H
              have H := H1
              clear H1
              obtain rfl := Option.some.inj H
              go_wp2
              go_ret
              exact ⟨by first | rfl | (simp [zam, zal] <;> rfl) | (simp [*, zam, zal] <;> rfl), by repeat (first | (with_reducible first | exact HB.out | apply zac | apply zab | apply zad) | exact HB.out)⟩
             ·replace c59 := Bool.eq_false_iff.mpr c59
              subst c59
              have H1 : ((laws_heldIntS.f kj46 t250 1).bind fun t260 => (if t260 < 0 then (some false) else (if t260 = t249 then (some true) else (some false)))) = some r := by rw [if_neg (show ¬ (false = true) by decide)] at H; exact H
              clear H
              have H := H1
              clear H1
              replace H := Option.bind_eq_some_iff.mp H
              obtain ⟨t260, A600, H⟩ := H
              replace H : (if t260 < 0 then (some false) else (if t260 = t249 then (some true) else (some false))) = some r := H
              have A60 := zaa.mk A600
              clear A600
              by_cases c61 : t260 < 0
              ·rw [if_pos c61] at H
               have c61b0 : decide (t260 < 0) = true := decide_eq_true c61
               clear c61
               obtain rfl := Option.some.inj H
               go_wp2_with (first | ((with_reducible refine zar (f := 20) rfl ?_); refine zbp (some 95) rfl rfl Try.func20 (by kernel_rfl) rfl #[.slice Ao48 t250.length co48, .int .i64 1] rfl (by (try simp only [List.map_toArray, List.map_cons, List.map_nil]); first | done | rfl | (simp only [List.length_drop, List.length_take]; rfl)) ?_; (with_reducible refine (laws_heldIntS.calls kj46 _ _ t250 1 t260 _ ?side1 ?side2 A60.out).mono ?_); (case side1 => repeat (first | exact (Kd.R_reads' HO_9.out).2.2 | (with_reducible refine Kd.C_alloc ?_ _) | (with_reducible refine Kd.C_drewN ?_ _) | (with_reducible refine Kd.C_drew ?_))); (case side2 => exact (Kd.R_reads' HO_9.out).2.1); rintro e w' ⟨rfl, ⟨nd, rfl⟩⟩; refine ⟨_, rfl, ?_⟩))
               go_ret
               exact ⟨by first | rfl | (simp [zam, zal] <;> rfl) | (simp [*, zam, zal] <;> rfl), by repeat (first | (with_reducible first | exact HB.out | apply zac | apply zab | apply zad) | exact HB.out)⟩
              ·rw [if_neg c61] at H
               have c61b0 : decide (t260 < 0) = false := decide_eq_false c61
               clear c61
               by_cases c62 : t260 = t249
               ·rw [if_pos c62] at H
                have c62b0 : (t260 == t249) = true := beq_iff_eq.mpr c62
                have c62b1 : (t260 != t249) = false := bne_eq_false_iff_eq.mpr c62
                clear c62
                obtain rfl := Option.some.inj H
                go_wp2_with (first | ((with_reducible refine zar (f := 20) rfl ?_); refine zbp (some 95) rfl rfl Try.func20 (by kernel_rfl) rfl #[.slice Ao48 t250.length co48, .int .i64 1] rfl (by (try simp only [List.map_toArray, List.map_cons, List.map_nil]); first | done | rfl | (simp only [List.length_drop, List.length_take]; rfl)) ?_; (with_reducible refine (laws_heldIntS.calls kj46 _ _ t250 1 t260 _ ?side1 ?side2 A60.out).mono ?_); (case side1 => repeat (first | exact (Kd.R_reads' HO_9.out).2.2 | (with_reducible refine Kd.C_alloc ?_ _) | (with_reducible refine Kd.C_drewN ?_ _) | (with_reducible refine Kd.C_drew ?_))); (case side2 => exact (Kd.R_reads' HO_9.out).2.1); rintro e w' ⟨rfl, ⟨nd, rfl⟩⟩; refine ⟨_, rfl, ?_⟩))
                go_ret
                exact ⟨by first | rfl | (simp [zam, zal] <;> rfl) | (simp [*, zam, zal] <;> rfl), by repeat (first | (with_reducible first | exact HB.out | apply zac | apply zab | apply zad) | exact HB.out)⟩
               ·rw [if_neg c62] at H
                have c62b0 : (t260 == t249) = false := beq_eq_false_iff_ne.mpr c62
                have c62b1 : (t260 != t249) = true := bne_iff_ne.mpr c62
                obtain rfl := Option.some.inj H
                go_wp2_with (first | ((with_reducible refine zar (f := 20) rfl ?_); refine zbp (some 95) rfl rfl Try.func20 (by kernel_rfl) rfl #[.slice Ao48 t250.length co48, .int .i64 1] rfl (by (try simp only [List.map_toArray, List.map_cons, List.map_nil]); first | done | rfl | (simp only [List.length_drop, List.length_take]; rfl)) ?_; (with_reducible refine (laws_heldIntS.calls kj46 _ _ t250 1 t260 _ ?side1 ?side2 A60.out).mono ?_); (case side1 => repeat (first | exact (Kd.R_reads' HO_9.out).2.2 | (with_reducible refine Kd.C_alloc ?_ _) | (with_reducible refine Kd.C_drewN ?_ _) | (with_reducible refine Kd.C_drew ?_))); (case side2 => exact (Kd.R_reads' HO_9.out).2.1); rintro e w' ⟨rfl, ⟨nd, rfl⟩⟩; refine ⟨_, rfl, ?_⟩))
                go_ret
                exact ⟨by first | rfl | (simp [zam, zal] <;> rfl) | (simp [*, zam, zal] <;> rfl), by repeat (first | (with_reducible first | exact HB.out | apply zac | apply zab | apply zad) | exact HB.out)⟩
          ·rw [if_neg c44] at H
           have c44b0 : (t251 == t249) = false := beq_eq_false_iff_ne.mpr c44
           have c44b1 : (t251 != t249) = true := bne_iff_ne.mpr c44
           obtain rfl := Option.some.inj H
           obtain ⟨Ao63, co63, eo63⟩ := Kd.R_slice HO_9.out
           subst eo63
           go_wp2_with (first | ((with_reducible refine zar (f := 19) rfl ?_); refine zbp (some 68) rfl rfl Try.func19 (by kernel_rfl) rfl #[.slice Ao63 t237.length co63, .int .i64 1] rfl (by (try simp only [List.map_toArray, List.map_cons, List.map_nil]); first | done | rfl | (simp only [List.length_drop, List.length_take]; rfl)) ?_; (with_reducible refine (laws_markIntS.calls kj26 (fun k_ => some k_ = (.slice Ao63 t237.length co63 : Value).ownBlock) (.slice Ao63 t237.length co63) t237 1 t249 t250 w _ ?side1 ?side2 A39.out).mono ?_); (case side1 => repeat (first | (with_reducible first | exact HB.out | apply zac | apply zab | apply zad) | exact HB.out)); (case side2 => exact Kd.R_tight rfl HO_9.out); rintro e w64 ⟨rfl, hy0, hb, hkp⟩; refine ⟨_, rfl, ?_⟩; have n0_ := zaa.mk (Kd.R_mono (ok' := fun k_ => some k_ ≠ (.slice Ao63 t237.length co63 : Value).ownBlock) (Kd.R_keptB (HO_6.out) hkp (fun k_ hk_ hs_ => (hk_) hs_)) (fun k_ hk_ => hk_.1)); have n1_ := zaa.mk (Kd.R_reok rfl hy0 (fun k_ e_ => HO_9.out.1 k_ e_)); have n2_ := zaa.mk (hb); clear HO_6; clear HO_9; clear HB; have HO_6 := n0_; have HO_9 := n1_; have HB := n2_; clear n0_ n1_ n2_; (try clear hb); (try clear hkp); (try clear hy0)) | ((with_reducible refine zar (f := 20) rfl ?_); refine zbp (some 71) rfl rfl Try.func20 (by kernel_rfl) rfl #[.slice Ao63 t250.length co63, .int .i64 1] rfl (by (try simp only [List.map_toArray, List.map_cons, List.map_nil]); first | done | (rw [show t250.length = t237.length from (Kd.R_reads' HO_9.out).1.symm] <;> rfl) | rfl | (simp only [List.length_drop, List.length_take]; rfl)) ?_; (with_reducible refine (laws_heldIntS.calls kj26 _ _ t250 1 t251 _ ?side1 ?side2 A40.out).mono ?_); (case side1 => repeat (first | exact (Kd.R_reads' HO_9.out).2.2 | (with_reducible refine Kd.C_alloc ?_ _) | (with_reducible refine Kd.C_drewN ?_ _) | (with_reducible refine Kd.C_drew ?_))); (case side2 => rw [show t250.length = t237.length from (Kd.R_reads' HO_9.out).1.symm]; exact (Kd.R_reads' HO_9.out).2.1); rintro e w' ⟨rfl, ⟨nd, rfl⟩⟩; refine ⟨_, rfl, ?_⟩))
           go_ret
           exact ⟨by first | rfl | (simp [zam, zal] <;> rfl) | (simp [*, zam, zal] <;> rfl), by repeat (first | (with_reducible first | exact HB.out | apply zac | apply zab | apply zad) | exact HB.out)⟩
     ·replace c25 := Bool.eq_false_iff.mpr c25
      subst c25
      have H1 : (some false) = some r := by rw [if_neg (show ¬ (false = true) by decide)] at H; exact H
      clear H
      have H := H1
      clear H1
      obtain rfl := Option.some.inj H
      go_wp2_with (first | ((with_reducible refine zar (f := 14) rfl ?_); refine zbp (some 47) rfl rfl Try.func14 (by kernel_rfl) rfl #[.slice A0 l0.length c0] rfl (by (try simp only [List.map_toArray, List.map_cons, List.map_nil]); first | done | rfl | (simp only [List.length_drop, List.length_take]; rfl)) ?_; (with_reducible refine (laws_toStringS.calls kj8 _ _ l0 t242 _ ?side1 ?side2 A23.out).mono ?_); (case side1 => repeat (first | exact (Kd.C_below HR0.out HB.out) | (with_reducible refine Kd.C_alloc ?_ _) | (with_reducible refine Kd.C_drewN ?_ _) | (with_reducible refine Kd.C_drew ?_))); (case side2 => exact HC0.out); rintro e w65 ⟨v243, rfl, ho0, hb⟩; refine ⟨_, rfl, ?_⟩; have n0_ := zaa.mk (Kd.R_below (by (with_reducible repeat (first | apply Kd.R_alloc | apply Kd.R_drewN | apply Kd.R_drew)); exact HO_6.out) hb); have n1_ := zaa.mk (Kd.R_elder' (by (with_reducible repeat (first | apply Kd.R_alloc | apply Kd.R_drewN | apply Kd.R_drew)); exact HO_8.out) (Kd.R_base ho0) hb); have n2_ := zaa.mk (Kd.R_below (by (with_reducible repeat (first | apply Kd.R_alloc | apply Kd.R_drewN | apply Kd.R_drew)); exact HO_9.out) hb); have n3_ := zaa.mk (Kd.R_lower (Kd.R_new' ho0 (Kd.R_lt (by (with_reducible repeat (first | apply Kd.R_alloc | apply Kd.R_drewN | apply Kd.R_drew)); exact HO_8.out))) (zai (by repeat (first | (with_reducible first | exact HB.out | apply zac | apply zab | apply zad) | exact HB.out)))); have n4_ := zaa.mk (zaf (by repeat (first | (with_reducible first | exact HB.out | apply zac | apply zab | apply zad) | exact HB.out)) hb); clear HO_6; clear HO_8; clear HO_9; clear HB; have HO_6 := n0_; have HO_8 := n1_; have HO_9 := n2_; have HO244 := n3_; have HB := n4_; clear n0_ n1_ n2_ n3_ n4_; (try clear hb); (try clear hb2); (try clear hk); (try clear hi); (try clear ho0); obtain ⟨Ao66, co66, eo66⟩ := Kd.R_slice HO244.out; subst eo66) | ((with_reducible refine zar (f := 17) rfl ?_); refine zbp (some 48) rfl rfl Try.func17 (by kernel_rfl) rfl #[.slice Ao14 t234.length co14, .slice Ao66 t242.length co66] rfl (by (try simp only [List.map_toArray, List.map_cons, List.map_nil]); first | done | rfl | (simp only [List.length_drop, List.length_take]; rfl)) ?_; (with_reducible refine (laws_eqStringS.calls kj8 _ _ t234 _ _ t242 false _ ?side1 ?side2 ?side3 ?side4 A24.out).mono ?_); (case side1 => repeat (first | exact (Kd.R_reads' HO_8.out).2.2 | (with_reducible refine Kd.C_alloc ?_ _) | (with_reducible refine Kd.C_drewN ?_ _) | (with_reducible refine Kd.C_drew ?_))); (case side2 => exact (Kd.R_reads' HO_8.out).2.1); (case side3 => repeat (first | exact (Kd.R_reads' HO244.out).2.2 | (with_reducible refine Kd.C_alloc ?_ _) | (with_reducible refine Kd.C_drewN ?_ _) | (with_reducible refine Kd.C_drew ?_))); (case side4 => exact (Kd.R_reads' HO244.out).2.1); rintro e w' ⟨rfl, ⟨nd, rfl⟩⟩; refine ⟨_, rfl, ?_⟩))
      go_ret
      exact ⟨by first | rfl | (simp [zam, zal] <;> rfl) | (simp [*, zam, zal] <;> rfl), by repeat (first | (with_reducible first | exact HB.out | apply zac | apply zab | apply zad) | exact HB.out)⟩
end Go.Proofs.Ytickdcegnlldjaa.LO
namespace Go.Proofs.Ytickdcegnlldjaa.Hd
open Go.RowKit Go.PW.PrintWords Go.PW.PrintLast Go.PW.PrintMore Go.Proofs.Ytickdcegnlldjaa.PB
theorem sz_loop (l : List ByteArray) (hl : l.length ≤ 1048576) (hs : ∀ s ∈ l, s.size ≤ 9223372036854775807) : ∀ m i (a : Int), i + m = l.length → 0 ≤ a → a ≤ 1048576 → (∀ j, j < i → ∀ s, l[j]? = some s → s.size ≤ 1048576) → ∃ v, Evs (fun k => laws_szStringS.l0 k l a (i : Int)) v ∧ (v < 0 ∨ (zcp l ∧ 0 ≤ v ∧ v ≤ a)) := by
 intro m
 induction m with
 | zero =>
  intro i a hi h0 h1 hj
  refine ⟨a, Evs.step (h := fun _ => some a) (fun k => ?_) (Evs.const _), .inr ⟨⟨hl, fun s hs => ?_⟩, h0, Int.le_refl _⟩⟩
  ·conv => lhs; unfold laws_szStringS.l0
   rw [if_neg (by omega)]
  ·obtain ⟨j, hj2, e⟩ := List.mem_iff_getElem.1 hs
   exact hj j (by omega) s (by rw [List.getElem?_eq_getElem hj2, e])
 | succ m ih =>
  intro i a hi h0 h1 hj
  obtain ⟨s, hsi⟩ : ∃ s, l[i]? = some s := ⟨_, List.getElem?_eq_getElem (by omega)⟩
  have hsz := hs s (List.mem_of_getElem? hsi)
  by_cases hneg : a - (s.size : Int) < 0
  ·refine ⟨-1, Evs.step (h := fun _ => some (-1)) (fun k => ?_) (Evs.const _), .inl (by omega)⟩
   conv => lhs; unfold laws_szStringS.l0
   rw [if_pos (by omega), if_pos (by omega), zbm hsi, zap (by omega) (by omega), if_pos hneg]
  ·obtain ⟨v, hv, hor⟩ := ih (i + 1) (a - (s.size : Int)) (by omega) (by omega) (by omega) (fun j hj1 s1 h1 => by
    rcases Nat.lt_or_eq_of_le (Nat.lt_succ_iff.1 hj1) with h2 | h2
    ·exact hj j h2 s1 h1
    ·subst h2
     rw [hsi] at h1
     have := Option.some.inj h1
     subst this
     omega)
   refine ⟨v, Evs.step (h := fun k => laws_szStringS.l0 k l (a - (s.size : Int)) ((i + 1 : Nat) : Int)) (fun k => ?_) hv, ?_⟩
   ·conv => lhs; unfold laws_szStringS.l0
    rw [if_pos (by omega), if_pos (by omega), zbm hsi, zap (x := a - (s.size : Int)) (by omega) (by omega), if_neg hneg, zbf (by omega)]
   ·rcases hor with h | ⟨h2, h3, h4⟩
    ·exact .inl h
    ·exact .inr ⟨h2, h3, by omega⟩
theorem sz_ev (l : List ByteArray) (hf : fits l) (a : Int) (h0 : 0 ≤ a) (h1 : a ≤ 1048576) : ∃ v, Evs (fun k => laws_szStringS.f k l a) v ∧ (v < 0 ∨ (zcp l ∧ 0 ≤ v ∧ v ≤ a)) := by
 have hl := hf.1
 by_cases hneg : a - (l.length : Int) < 0
 ·refine ⟨-1, Evs.congr (h := fun _ => some (-1)) (fun k => ?_) (Evs.const _), .inl (by omega)⟩
  unfold laws_szStringS.f
  rw [zap (by omega) (by omega), if_pos hneg]
 ·obtain ⟨v, hv, hor⟩ := sz_loop l (by omega) hf.2 l.length 0 (a - (l.length : Int)) (by omega) (by omega) (by omega) (fun j hj => by omega)
  refine ⟨v, Evs.congr (fun k => ?_) hv, ?_⟩
  ·unfold laws_szStringS.f
   rw [zap (by omega) (by omega), if_neg hneg]
   rfl
  ·rcases hor with h | ⟨h2, h3, h4⟩
   ·exact .inl h
   ·exact .inr ⟨h2, h3, by omega⟩
theorem to_loop (l : List ByteArray) (hl : l.length ≤ 1048576) : ∀ m i, i + m = l.length → Evs (fun k => laws_toStringS.l0 k l (l.take i ++ List.replicate m (⟨#[]⟩ : ByteArray)) (i : Int)) l := by
 intro m
 induction m with
 | zero =>
  intro i hi
  refine Evs.step (h := fun _ => some l) (fun k => ?_) (Evs.const _)
  conv => lhs; unfold laws_toStringS.l0
  rw [if_neg (by omega), List.take_of_length_le (by omega)]
  simp
 | succ m ih =>
  intro i hi
  obtain ⟨s, hsi⟩ : ∃ s, l[i]? = some s := ⟨_, List.getElem?_eq_getElem (by omega)⟩
  refine Evs.step (h := fun k => laws_toStringS.l0 k l (l.take (i + 1) ++ List.replicate m (⟨#[]⟩ : ByteArray)) ((i + 1 : Nat) : Int)) (fun k => ?_) (ih (i + 1) (by omega))
  conv => lhs; unfold laws_toStringS.l0
  have hset : (l.take i ++ List.replicate (m + 1) (⟨#[]⟩ : ByteArray)).set i s = l.take (i + 1) ++ List.replicate m (⟨#[]⟩ : ByteArray) := by
   rw [List.set_append_right _ _ (by simp; omega), show i - (l.take i).length = 0 by simp; omega, List.replicate_succ, List.set_cons_zero, List.take_add_one, hsi]
   simp
  rw [if_pos (by omega), if_pos (by omega), if_pos (by simp; omega), zbm hsi, Int.toNat_natCast, hset, zbf (by omega)]
theorem toS_ev (l : List ByteArray) (hl : l.length ≤ 1048576) : Evs (fun k => laws_toStringS.f k l) l := by
 refine Evs.congr (fun k => ?_) (to_loop l hl l.length 0 (by omega))
 unfold laws_toStringS.f
 rw [if_pos (by omega), if_pos (by omega), Int.toNat_natCast]
 simp
theorem eq_loop (p q : List ByteArray) (hl : p.length = q.length) (hb : p.length ≤ 1048576) : ∀ m i, i + m = p.length → p.take i = q.take i → Evs (fun k => laws_eqStringS.l0 k p q (i : Int)) (decide (p = q)) := by
 intro m
 induction m with
 | zero =>
  intro i hi ht
  have e : p = q := by
   rw [show i = p.length by omega, List.take_length, hl, List.take_length] at ht
   exact ht
  refine Evs.step (h := fun _ => some (decide (p = q))) (fun k => ?_) (Evs.const _)
  conv => lhs; unfold laws_eqStringS.l0
  rw [if_neg (by omega), decide_eq_true e]
 | succ m ih =>
  intro i hi ht
  by_cases he : p[i] = q[i]
  ·refine Evs.step (h := fun k => laws_eqStringS.l0 k p q ((i + 1 : Nat) : Int)) (fun k => ?_) (ih (i + 1) (by omega) (by
    rw [List.take_add_one, List.take_add_one, ht, List.getElem?_eq_getElem (by omega), List.getElem?_eq_getElem (by omega), he]))
   conv => lhs; unfold laws_eqStringS.l0
   rw [if_pos (by omega), if_pos (by omega), if_pos (by omega), rdOf_get p i (by omega), rdOf_get q i (by omega), if_pos (toList_inj.2 he), zbf (by omega)]
  ·have hne : p ≠ q := by rintro rfl; exact he rfl
   refine Evs.step (h := fun _ => some (decide (p = q))) (fun k => ?_) (Evs.const _)
   conv => lhs; unfold laws_eqStringS.l0
   rw [if_pos (by omega), if_pos (by omega), if_pos (by omega), rdOf_get p i (by omega), rdOf_get q i (by omega), if_neg (fun h => he (toList_inj.1 h)), decide_eq_false hne]
theorem eqS_ev (p q : List ByteArray) (hb : p.length ≤ 1048576) : Evs (fun k => laws_eqStringS.f k p q) (decide (p = q)) := by
 by_cases h : p.length = q.length
 ·refine Evs.congr (fun k => ?_) (eq_loop p q h hb p.length 0 (by omega) (by simp))
  unfold laws_eqStringS.f
  rw [if_pos (by omega)]
  rfl
 ·have hne : p ≠ q := by rintro rfl; exact h rfl
  refine Evs.congr (h := fun _ => some (decide (p = q))) (fun k => ?_) (Evs.const _)
  unfold laws_eqStringS.f
  rw [if_neg (by omega), decide_eq_false hne]
theorem eqS_same (p : List ByteArray) (hb : p.length ≤ 1048576) : Evs (fun k => laws_eqStringS.f k p p) true := by
 have := eqS_ev p p hb
 rwa [decide_eq_true rfl] at this
theorem append_size (a b : ByteArray) : (a ++ b).size = a.size + b.size := by simp
theorem mark_loop : ∀ (B n : Nat) (out : ByteArray), n ≤ B → out.size + n ≤ 1099511627776 → ∃ s, Evs (fun k => laws_markText.l0 k (n : Int) out) s
 | 0, n, out, hn, hb => by
  refine ⟨(⟨#[109]⟩ : ByteArray) ++ out, Evs.step (h := fun _ => some ((⟨#[109]⟩ : ByteArray) ++ out)) (fun k => ?_) (Evs.const _)⟩
  conv => lhs; unfold laws_markText.l0
  rw [if_neg (by omega), if_pos (by omega)]
 | B + 1, n, out, hn, hb => by
  rcases Nat.eq_zero_or_pos n with h0 | h0
  ·subst h0
   refine ⟨(⟨#[109]⟩ : ByteArray) ++ out, Evs.step (h := fun _ => some ((⟨#[109]⟩ : ByteArray) ++ out)) (fun k => ?_) (Evs.const _)⟩
   conv => lhs; unfold laws_markText.l0
   rw [if_neg (by omega), if_pos (by omega)]
  ·have hsz : (strOfNums [(wrap64 (48 + (Int.tmod (n : Int) 10))) % 256]).size = 1 := rfl
   obtain ⟨s, hs⟩ := mark_loop B (n / 10) (strOfNums [(wrap64 (48 + (Int.tmod (n : Int) 10))) % 256] ++ out) (by omega) (by rw [append_size, hsz]; omega)
   refine ⟨s, Evs.step (h := fun k => laws_markText.l0 k ((n / 10 : Nat) : Int) (strOfNums [(wrap64 (48 + (Int.tmod (n : Int) 10))) % 256] ++ out)) (fun k => ?_) hs⟩
   conv => lhs; unfold laws_markText.l0
   have hd : Int.tdiv (n : Int) 10 = ((n / 10 : Nat) : Int) := by rw [Int.tdiv_eq_ediv_of_nonneg (by omega)]; omega
   rw [if_pos (by omega)]
   simp only [Option.bind_some]
   rw [hsz, if_pos (by omega), hd, zap (x := ((n / 10 : Nat) : Int)) (by omega) (by omega)]
theorem mark_ex (n : Nat) : ∃ s, n ≤ 1099511627776 → Evs (fun k => laws_markText.f k (n : Int)) s := by
 by_cases hn : n ≤ 1099511627776
 ·rcases Nat.eq_zero_or_pos n with h0 | h0
  ·subst h0
   refine ⟨⟨#[109, 48]⟩, fun _ => Evs.congr (h := fun _ => some (⟨#[109, 48]⟩ : ByteArray)) (fun k => ?_) (Evs.const _)⟩
   unfold laws_markText.f
   rw [if_pos (by omega)]
  ·obtain ⟨s, hs⟩ := mark_loop n n ⟨#[]⟩ (Nat.le_refl _) (by show 0 + n ≤ _; omega)
   refine ⟨s, fun _ => Evs.congr (fun k => ?_) hs⟩
   unfold laws_markText.f
   rw [if_neg (by omega)]
 ·exact ⟨⟨#[]⟩, fun h => absurd h hn⟩
noncomputable def mkT (n : Nat) : ByteArray := (mark_ex n).choose
theorem mkT_ev (n : Nat) (hn : n ≤ 1099511627776) : Evs (fun k => laws_markText.f k (n : Int)) (mkT n) := (mark_ex n).choose_spec hn
noncomputable def marksOf (a n : Nat) : List ByteArray := (List.range n).map fun i => mkT (a + i)
theorem marksOf_length (a n : Nat) : (marksOf a n).length = n := by simp [marksOf]
theorem markS_loop (l : List ByteArray) (hl : l.length ≤ 1048576) (a : Nat) (ha : a ≤ 2097153) : ∀ m i, i + m = l.length → Evs (fun k => laws_markStringS.l0 k (marksOf a i ++ l.drop i) ((a + i : Nat) : Int) (i : Int)) (((a + l.length : Nat) : Int), marksOf a l.length) := by
 intro m
 induction m with
 | zero =>
  intro i hi
  obtain rfl : i = l.length := by omega
  refine Evs.step (h := fun _ => some (((a + l.length : Nat) : Int), marksOf a l.length)) (fun k => ?_) (Evs.const _)
  conv => lhs; unfold laws_markStringS.l0
  rw [if_neg (by simp [marksOf_length])]
  simp
 | succ m ih =>
  intro i hi
  have hset : (marksOf a i ++ l.drop i).set i (mkT (a + i)) = marksOf a (i + 1) ++ l.drop (i + 1) := by
   rw [List.set_append_right _ _ (by rw [marksOf_length]; exact Nat.le_refl _), marksOf_length, Nat.sub_self, List.drop_eq_getElem_cons (by omega), List.set_cons_zero]
   unfold marksOf
   rw [List.range_succ, List.map_append]
   simp
  refine Evs.step (h := fun k => (laws_markText.f k ((a + i : Nat) : Int)).bind fun t220 => laws_markStringS.l0 k ((marksOf a i ++ l.drop i).set i t220) ((a + (i + 1) : Nat) : Int) ((i + 1 : Nat) : Int)) (fun k => ?_) (Evs.bind (mkT_ev (a + i) (by omega)) (by rw [hset]; exact ih (i + 1) (by omega)))
  conv => lhs; unfold laws_markStringS.l0
  rw [if_pos (by simp [marksOf_length]; omega)]
  congr 1
  funext t
  have e : wrap64 (((a + i : Nat) : Int) + 1) = ((a + (i + 1) : Nat) : Int) := by rw [zap (by omega) (by omega)]; omega
  rw [if_pos (by omega), Int.toNat_natCast, zbf (i := i) (by omega), e]
theorem markS_ev (l : List ByteArray) (hl : l.length ≤ 1048576) (a : Nat) (ha : a ≤ 2097153) : Evs (fun k => laws_markStringS.f k l (a : Int)) (((a + l.length : Nat) : Int), marksOf a l.length) := by
 have := markS_loop l hl a ha l.length 0 (by omega)
 refine Evs.congr (fun k => ?_) this
 unfold laws_markStringS.f
 simp [marksOf]
theorem eqI_loop (p : List Int) (hb : p.length ≤ 1048576) : ∀ m i, i + m = p.length → Evs (fun k => laws_eqIntS.l0 k p p (i : Int)) true := by
 intro m
 induction m with
 | zero =>
  intro i hi
  refine Evs.step (h := fun _ => some true) (fun k => ?_) (Evs.const _)
  conv => lhs; unfold laws_eqIntS.l0
  rw [if_neg (by omega)]
 | succ m ih =>
  intro i hi
  refine Evs.step (fun k => ?_) (ih (i + 1) (by omega))
  conv => lhs; unfold laws_eqIntS.l0
  rw [if_pos (by omega), if_pos (by omega), if_pos (by omega), if_pos rfl, zbf (by omega)]
theorem eqI_same (p : List Int) (hb : p.length ≤ 1048576) : Evs (fun k => laws_eqIntS.f k p p) true := by
 refine Evs.congr (fun k => ?_) (eqI_loop p hb p.length 0 (by omega))
 unfold laws_eqIntS.f
 rw [if_pos rfl]
 rfl
def marksI (a n : Nat) : List Int := (List.range n).map fun i => ((a + i : Nat) : Int)
theorem marksI_length (a n : Nat) : (marksI a n).length = n := by simp [marksI]
theorem markI_loop (l : List Int) (hl : l.length ≤ 1048576) (a : Nat) (ha : a ≤ 2097153) : ∀ m i, i + m = l.length → Evs (fun k => laws_markIntS.l0 k (marksI a i ++ l.drop i) ((a + i : Nat) : Int) (i : Int)) (((a + l.length : Nat) : Int), marksI a l.length) := by
 intro m
 induction m with
 | zero =>
  intro i hi
  obtain rfl : i = l.length := by omega
  refine Evs.step (h := fun _ => some (((a + l.length : Nat) : Int), marksI a l.length)) (fun k => ?_) (Evs.const _)
  conv => lhs; unfold laws_markIntS.l0
  rw [if_neg (by simp [marksI_length])]
  simp
 | succ m ih =>
  intro i hi
  have hset : (marksI a i ++ l.drop i).set i ((a + i : Nat) : Int) = marksI a (i + 1) ++ l.drop (i + 1) := by
   rw [List.set_append_right _ _ (by rw [marksI_length]; exact Nat.le_refl _), marksI_length, Nat.sub_self, List.drop_eq_getElem_cons (by omega), List.set_cons_zero]
   unfold marksI
   rw [List.range_succ, List.map_append]
   simp
  have hnx := ih (i + 1) (by omega)
  rw [← hset] at hnx
  refine Evs.step (fun k => ?_) hnx
  conv => lhs; unfold laws_markIntS.l0
  have e : wrap64 (((a + i : Nat) : Int) + 1) = ((a + (i + 1) : Nat) : Int) := by rw [zap (by omega) (by omega)]; omega
  rw [if_pos (by simp [marksI_length]; omega), if_pos (by omega), Int.toNat_natCast, zbf (i := i) (by omega), e]
theorem markI_ev (l : List Int) (hl : l.length ≤ 1048576) (a : Nat) (ha : a ≤ 2097153) : Evs (fun k => laws_markIntS.f k l (a : Int)) (((a + l.length : Nat) : Int), marksI a l.length) := by
 have := markI_loop l hl a ha l.length 0 (by omega)
 refine Evs.congr (fun k => ?_) this
 unfold laws_markIntS.f
 simp [marksI]
theorem heldI_loop (n : Nat) (hl : n ≤ 1048576) (a : Nat) (ha : a ≤ 2097153) : ∀ m i, i + m = n → Evs (fun k => laws_heldIntS.l0 k (marksI a n) ((a + i : Nat) : Int) (i : Int)) ((a + n : Nat) : Int) := by
 intro m
 induction m with
 | zero =>
  intro i hi
  obtain rfl : i = n := by omega
  refine Evs.step (h := fun _ => some ((a + i : Nat) : Int)) (fun k => ?_) (Evs.const _)
  conv => lhs; unfold laws_heldIntS.l0
  rw [if_neg (by simp [marksI_length])]
 | succ m ih =>
  intro i hi
  have hget : rd (marksI a n) (i : Int) = ((a + i : Nat) : Int) := by
   unfold rd marksI
   rw [Int.toNat_natCast, List.getD_eq_getElem?_getD, List.getElem?_map, List.getElem?_range (by omega)]
   rfl
  refine Evs.step (fun k => ?_) (ih (i + 1) (by omega))
  conv => lhs; unfold laws_heldIntS.l0
  have e : wrap64 (((a + i : Nat) : Int) + 1) = ((a + (i + 1) : Nat) : Int) := by rw [zap (by omega) (by omega)]; omega
  rw [if_pos (by rw [marksI_length]; omega), if_pos (by omega), hget, if_pos rfl, zbf (i := i) (by omega), e]
theorem heldI_ev (n : Nat) (hl : n ≤ 1048576) (a : Nat) (ha : a ≤ 2097153) : Evs (fun k => laws_heldIntS.f k (marksI a n) (a : Int)) ((a + n : Nat) : Int) := heldI_loop n hl a ha n 0 (by omega)
end Go.Proofs.Ytickdcegnlldjaa.Hd
namespace Go.Proofs.Ytickdcegnlldjaa.LO
open Go.RowKit Go.PW.PrintWords Go.PW.PrintLast Go.PW.PrintMore Go.Proofs.Ytickdcegnlldjaa.PB Go.Proofs.Ytickdcegnlldjaa.Hd
theorem laws_FnExactNearOut.j0_eq (k : Nat) (x0 : List ByteArray) (x1 : Int) (x6 : List Int) (x7 : Bool) (x8 : List ByteArray) (x9 : List Int) (x10 : Bool) (x44 : Bool) : laws_FnExactNearOut.j0 (k + 1) x0 x1 x6 x7 x8 x9 x10 x44 = (if x44 = true then (some false) else ((laws_toStringS.f k x0).bind fun t242 => ((laws_eqStringS.f k x8 t242).bind fun t245 => (if t245 = true then ((laws_markStringS.f k x8 1).bind fun bt246 => (if bt246.1 < 0 then (laws_FnExactNearOut.j1 k x0 x1 x6 x7 x9 true) else ((laws_eqIntS.f k x9 x6).bind fun t248 => (if t248 = true then (laws_FnExactNearOut.j1 k x0 x1 x6 x7 x9 (x10 != x7)) else (laws_FnExactNearOut.j1 k x0 x1 x6 x7 x9 true))))) else (some false))))) := by simp only [laws_FnExactNearOut.j0]
theorem laws_FnExactNearOut.j1_eq (k : Nat) (x0 : List ByteArray) (x1 : Int) (x6 : List Int) (x7 : Bool) (x9 : List Int) (x65 : Bool) : laws_FnExactNearOut.j1 (k + 1) x0 x1 x6 x7 x9 x65 = (if x65 = true then (some false) else ((laws_markIntS.f k x9 1).bind fun bt249 => ((laws_heldIntS.f k bt249.2 1).bind fun t251 => (if t251 < 0 then (some false) else (if t251 = bt249.1 then ((laws_toStringS.f k x0).bind fun t252 => ((impl_NearOut.f t252 x1).bind fun bt255 => ((laws_eqIntS.f k bt255.1 x6).bind fun t259 => (if t259 = true then (laws_FnExactNearOut.j2 k bt249.2 bt249.1 (bt255.2 != x7)) else (laws_FnExactNearOut.j2 k bt249.2 bt249.1 true))))) else (some false)))))) := by simp only [laws_FnExactNearOut.j1]
theorem laws_FnExactNearOut.j2_eq (k : Nat) (x9 : List Int) (x12 : Int) (x92 : Bool) : laws_FnExactNearOut.j2 (k + 1) x9 x12 x92 = (if x92 = true then (some false) else ((laws_heldIntS.f k x9 1).bind fun t260 => (if t260 < 0 then (some false) else (if t260 = x12 then (some true) else (some false))))) := by simp only [laws_FnExactNearOut.j2]
theorem len_res (l0 : List ByteArray) (a1 : Int) : (zbc l0 a1).1.length ≤ 1048576 := by
 have := nearOutF_len l0 a1
 omega
theorem impl_res (l0 : List ByteArray) (a1 : Int) (hs_l0 : zcp l0) : impl_NearOut.f l0 a1 = some (zbc l0 a1) := by
 unfold impl_NearOut.f
 rw [if_pos ((smallB_iff _).2 hs_l0)]
theorem j2_ev (n : Nat) (hn : n ≤ 1048576) : Evs (fun k => laws_FnExactNearOut.j2 k (marksI 1 n) ((1 + n : Nat) : Int) false) true := by
 refine Evs.step (fun k => laws_FnExactNearOut.j2_eq k _ _ _) ?_
 refine Evs.neg (by simp) (Evs.bind (heldI_ev n hn 1 (by omega)) (Evs.neg (by omega) (Evs.pos rfl (Evs.const _))))
theorem j1_ev (l0 : List ByteArray) (a1 : Int) (hs_l0 : zcp l0) : Evs (fun k => laws_FnExactNearOut.j1 k l0 a1 (zbc l0 a1).1 (zbc l0 a1).2 (zbc l0 a1).1 false) true := by
 have hl := len_res l0 a1
 have hi := impl_res l0 a1 hs_l0
 refine Evs.step (fun k => laws_FnExactNearOut.j1_eq k _ _ _ _ _ _) ?_
 refine Evs.neg (by simp) (Evs.bind (markI_ev _ hl 1 (by omega)) (Evs.bind (heldI_ev _ hl 1 (by omega)) (Evs.neg (by omega) (Evs.pos rfl (Evs.bind (toS_ev l0 hs_l0.1) (Evs.bindS hi (Evs.bind (eqI_same _ hl) (Evs.pos rfl ?_))))))))
 have e : ((zbc l0 a1).2 != (zbc l0 a1).2) = false := by simp
 try dsimp only
 rw [e]
 exact j2_ev _ hl
theorem j0_ev (l0 : List ByteArray) (a1 : Int) (hs_l0 : zcp l0) : Evs (fun k => laws_FnExactNearOut.j0 k l0 a1 (zbc l0 a1).1 (zbc l0 a1).2 l0 (zbc l0 a1).1 (zbc l0 a1).2 false) true := by
 have hl := len_res l0 a1
 refine Evs.step (fun k => laws_FnExactNearOut.j0_eq k _ _ _ _ _ _ _ _) ?_
 refine Evs.neg (by simp) (Evs.bind (toS_ev l0 hs_l0.1) (Evs.bind (eqS_same l0 hs_l0.1) (Evs.pos rfl (Evs.bind (markS_ev l0 hs_l0.1 (1) (by have := hs_l0.1; omega)) (Evs.neg (by dsimp only; omega) (Evs.bind (eqI_same _ hl) (Evs.pos rfl ?_)))))))
 have e : ((zbc l0 a1).2 != (zbc l0 a1).2) = false := by simp
 try dsimp only
 rw [e]
 exact j1_ev l0 a1 hs_l0
theorem law_ev (l0 : List ByteArray) (a1 : Int) (hf_l0 : fits l0) : Evs (fun k => laws_FnExactNearOut.f k l0 a1) true := by
 unfold laws_FnExactNearOut.f
 obtain ⟨v0, e0, h0⟩ := sz_ev l0 hf_l0 1048576 (by omega) (by omega)
 refine Evs.bind e0 ?_
 rcases h0 with h0 | ⟨hs_l0, g0, k0⟩
 ·exact Evs.pos h0 (Evs.const _)
 refine Evs.neg (by omega) ?_
 have hl := len_res l0 a1
 have hi := impl_res l0 a1 hs_l0
 refine Evs.bind (toS_ev l0 hs_l0.1) (Evs.bind (NearOut_ev l0 a1 hs_l0) (Evs.bind (toS_ev l0 hs_l0.1) (Evs.bindS hi (Evs.bind (eqI_same _ hl) (Evs.pos rfl ?_)))))
 have e : ((zbc l0 a1).2 != (zbc l0 a1).2) = false := by simp
 try dsimp only
 rw [e]
 exact j0_ev l0 a1 hs_l0
end Go.Proofs.Ytickdcegnlldjaa.LO
