/- Part 4 of the proof of FnTight: what the program's functions and the reference's compute. -/
import Derived.Maps.OwnSet
import Derived.Maps.Views
import Derived.Test.YtickdcegnlldjaaCPTIc
set_option linter.unusedSimpArgs false
set_option linter.unusedVariables false
open Bool renaming true → zt, false → zf
open List renaming setIfInBounds_toArray → yba, set_cons_zero → ybb, set_cons_succ → ybc, map_toArray → ybd, map_cons → ybe, map_nil → ybf, length_take → ybg, length_drop → ybh, getD_eq_getElem?_getD → ybi
open ByteArray renaming empty → ybj
open Option renaming bind_eq_some_iff → ybk, bind_some → ybl
open Nat renaming le_refl → ybm
open Go.PW.PrintWords.Kd renaming R_alloc → ybn, R_drewN → ybo, R_drew → ybp, V_alloc → ybq, V_drewN → ybr, V_drew → ybs, C_alloc → ybt, C_drewN → ybu, C_drew → ybv
namespace Go.Proofs.Ytickdcegnlldjaa.SM
open Go.Proofs.Ytickdcegnlldjaa.PB Go.Proofs.Ytickdcegnlldjaa.Hd
open Go.RowKit Go.PW.PrintWords Go.PW.PrintLast Go.PW.PrintMore
attribute [local go_sem] zce zcc zcq zcp zbv zbu zcd zcb   -- for this text's walks alone
mutual
def spec_PlanSplit.j0 : Nat → List ByteArray → ByteArray → Int → Int → Int → Int → Int → Bool → Option (List ByteArray × Bool)
 | 0, _, _, _, _, _, _, _, _ => none
 | k + 1, x0, x2, x3, x10, x11, x12, x13, x29 => if x29 = true then ((spec_l1Put.f x0 (wrap64 (x10 + x3)) x11 (wrap64 (x12 - x3)) x13 122).bind fun t199 => ((spec_l1Done.f k t199).bind fun bt202 => (some (bt202.1, bt202.2)))) else (if x2.toList = ([118] : List UInt8) then ((spec_l6In.f x3 1 (wrap64 (x13 - 1))).bind fun t206 => (spec_PlanSplit.j1 k x0 x3 x10 x11 x12 x13 t206)) else (spec_PlanSplit.j1 k x0 x3 x10 x11 x12 x13 false))
def spec_PlanSplit.j1 : Nat → List ByteArray → Int → Int → Int → Int → Int → Bool → Option (List ByteArray × Bool)
 | 0, _, _, _, _, _, _, _ => none
 | k + 1, x0, x3, x10, x11, x12, x13, x51 => if x51 = true then ((spec_l1Put.f x0 x10 (wrap64 (x11 + x3)) x12 (wrap64 (x13 - x3)) 122).bind fun t207 => ((spec_l1Done.f k t207).bind fun bt210 => (some (bt210.1, bt210.2)))) else ((spec_l1None.f).bind fun bt214 => (some (bt214.1, bt214.2)))
end
def spec_PlanSplit.f (k : Nat) (l0 : List ByteArray) (a1 : Int) (a2 : ByteArray) (a3 : Int) : Option (List ByteArray × Bool) := (spec_l1Given.f k l0 a1).bind fun t189 => (if t189 = true then ((spec_l1Room.f k l0 a1).bind fun bt194 => (if a2.toList = ([104] : List UInt8) then ((spec_l6In.f a3 1 (wrap64 (bt194.2.2.1 - 1))).bind fun t198 => (spec_PlanSplit.j0 k l0 a2 a3 bt194.1 bt194.2.1 bt194.2.2.1 bt194.2.2.2 t198)) else (spec_PlanSplit.j0 k l0 a2 a3 bt194.1 bt194.2.1 bt194.2.2.1 bt194.2.2.2 false))) else ((spec_l1None.f).bind fun bt190 => (some (bt190.1, bt190.2))))
set_option maxHeartbeats 8000000 in
set_option maxRecDepth 100000 in
theorem spec_PlanSplit.calls (k : Nat) (A0 : Option Addr) (c0 : Nat) (l0 : List ByteArray) (a1 : Int) (a2 : ByteArray) (a3 : Int) (r1 : List ByteArray) (r2 : Bool) (w : World) (hr0 : Kd.C Kd.string w A0 l0.length l0) (hc0 : l0.length ≤ c0) (h : spec_PlanSplit.f k l0 a1 a2 a3 = some (r1, r2)) :
  Calls Try.prog 121 #[.slice A0 l0.length c0, .int .i64 a1, .string a2, .int .i64 a3] w fun e w' => ∃ v0_ : Value, e = .returned (.tuple #[v0_, .bool r2]) ∧ Kd.R Kd.string 9 w' w.heap.size (fun _ => True) v0_ r1 ∧ Below w.heap.size w w' := by
 have HR0 := zaa.mk hr0
 have HC0 := zaa.mk hc0
 clear hr0 hc0
 have HB := zaa.mk (Below.refl w.heap.size w)
 have H : ((spec_l1Given.f k l0 a1).bind fun t189 => (if t189 = true then ((spec_l1Room.f k l0 a1).bind fun bt194 => (if a2.toList = ([104] : List UInt8) then ((spec_l6In.f a3 1 (wrap64 (bt194.2.2.1 - 1))).bind fun t198 => (spec_PlanSplit.j0 k l0 a2 a3 bt194.1 bt194.2.1 bt194.2.2.1 bt194.2.2.2 t198)) else (spec_PlanSplit.j0 k l0 a2 a3 bt194.1 bt194.2.1 bt194.2.2.1 bt194.2.2.2 false))) else ((spec_l1None.f).bind fun bt190 => (some (bt190.1, bt190.2))))) = some (r1, r2) := h
 clear h
 replace H := ybk.mp H
 obtain ⟨t189, A50, H⟩ := H
 replace H : (if t189 = true then ((spec_l1Room.f k l0 a1).bind fun bt194 => (if a2.toList = ([104] : List UInt8) then ((spec_l6In.f a3 1 (wrap64 (bt194.2.2.1 - 1))).bind fun t198 => (spec_PlanSplit.j0 k l0 a2 a3 bt194.1 bt194.2.1 bt194.2.2.1 bt194.2.2.2 t198)) else (spec_PlanSplit.j0 k l0 a2 a3 bt194.1 bt194.2.1 bt194.2.2.1 bt194.2.2.2 false))) else ((spec_l1None.f).bind fun bt190 => (some (bt190.1, bt190.2)))) = some (r1, r2) := H
 have A5 := zaa.mk A50
 clear A50
 by_cases c6 : t189 = true
 ·subst c6
  have H1 : ((spec_l1Room.f k l0 a1).bind fun bt194 => (if a2.toList = ([104] : List UInt8) then ((spec_l6In.f a3 1 (wrap64 (bt194.2.2.1 - 1))).bind fun t198 => (spec_PlanSplit.j0 k l0 a2 a3 bt194.1 bt194.2.1 bt194.2.2.1 bt194.2.2.2 t198)) else (spec_PlanSplit.j0 k l0 a2 a3 bt194.1 bt194.2.1 bt194.2.2.1 bt194.2.2.2 false))) = some (r1, r2) := by rw [if_pos rfl] at H; exact H
  clear H
  have H := H1
  clear H1
  replace H := ybk.mp H
  obtain ⟨⟨t194, t195, t196, t197⟩, A70, H⟩ := H
  replace H : (if a2.toList = ([104] : List UInt8) then ((spec_l6In.f a3 1 (wrap64 (t196 - 1))).bind fun t198 => (spec_PlanSplit.j0 k l0 a2 a3 t194 t195 t196 t197 t198)) else (spec_PlanSplit.j0 k l0 a2 a3 t194 t195 t196 t197 false)) = some (r1, r2) := H
  have A7 := zaa.mk A70
  clear A70
  have HC8 := zaa.mk H
  clear H
  go_enter Try.func121, Try.ntmps121
  go_upto_region 4 with (first | ((with_reducible refine zah (f := 125) rfl ?_); refine zaz (some 16) rfl rfl Try.func125 (by kernel_rfl) rfl #[.slice A0 l0.length c0, .int .i64 a1] rfl (by (try simp only [ybd, ybe, ybf]); first | done | rfl | (simp only [ybh, ybg]; rfl)) ?_; (with_reducible refine (spec_l1Given.calls k _ _ l0 a1 true _ ?side1 ?side2 A5.out).mono ?_); (case side1 => repeat (first | exact HR0.out | (with_reducible refine ybt ?_ _) | (with_reducible refine ybu ?_ _) | (with_reducible refine ybv ?_))); (case side2 => exact HC0.out); rintro e w9 ⟨rfl, hb⟩; refine ⟨_, rfl, ?_⟩; have n0_ := zaa.mk (zae (by repeat (first | (with_reducible first | exact HB.out | apply zac | apply zab | apply zad) | exact HB.out)) hb); clear HB; have HB := n0_; clear n0_; (try clear hb); (try clear hb2); (try clear hk); (try clear hi)) | ((with_reducible refine zah (f := 88) rfl ?_); refine zaz (some 24) rfl rfl Try.func88 (by kernel_rfl) rfl #[.slice A0 l0.length c0, .int .i64 a1] rfl (by (try simp only [ybd, ybe, ybf]); first | done | rfl | (simp only [ybh, ybg]; rfl)) ?_; (with_reducible refine (spec_l1Room.calls k _ _ l0 a1 t194 t195 t196 t197 _ ?side1 ?side2 A7.out).mono ?_); (case side1 => repeat (first | exact (Kd.C_below HR0.out HB.out) | (with_reducible refine ybt ?_ _) | (with_reducible refine ybu ?_ _) | (with_reducible refine ybv ?_))); (case side2 => exact HC0.out); rintro e w10 ⟨rfl, hb⟩; refine ⟨_, rfl, ?_⟩; have n0_ := zaa.mk (zae (by repeat (first | (with_reducible first | exact HB.out | apply zac | apply zab | apply zad) | exact HB.out)) hb); clear HB; have HB := n0_; clear n0_; (try clear hb); (try clear hb2); (try clear hk); (try clear hi)))
  (try simp only [Act.put, yba, ybb, ybc])
  go_cut [29] (fun v29 wc => ∃ (kq : Nat) (x29_7 : Bool), v29 = .bool x29_7 ∧ zaa (spec_PlanSplit.j0 kq l0 a2 a3 t194 t195 t196 t197 x29_7 = some (r1, r2)) ∧ zaa (kq ≤ k) ∧ zaa (Below w.heap.size w wc))
  case first =>
   have H := HC8.out
   clear HC8
   by_cases c11 : a2.toList = ([104] : List UInt8)
   ·rw [if_pos c11] at H
    have c11b0 : (a2.toList == ([104] : List UInt8)) = true := beq_iff_eq.mpr c11
    have c11b1 : (a2.toList != ([104] : List UInt8)) = false := bne_eq_false_iff_eq.mpr c11
    clear c11
    (first | rw [c11b0] | (simp only [zau, zav]; rw [c11b0]) | skip)
    replace H := ybk.mp H
    obtain ⟨t198, A120, H⟩ := H
    replace H : (spec_PlanSplit.j0 k l0 a2 a3 t194 t195 t196 t197 t198) = some (r1, r2) := H
    have A12 := zaa.mk A120
    clear A120
    have H' := zaa.mk H
    clear H
    go_wp2_with (first | (go_at_call 46; (with_reducible refine (spec_l6In.calls a3 1 (wrap64 (t196 - 1)) t198 _ A12.out).mono ?_); rintro e w' ⟨rfl, ⟨nd, rfl⟩⟩))
    go_meet
    case rel => exact ⟨_, (t198), (by first | rfl | (simp; done) | (simp [*]; done)), H', ⟨by first | omega | exact ybm _⟩, ⟨by repeat (first | (with_reducible first | exact HB.out | apply zac | apply zab | apply zad) | exact HB.out)⟩⟩
   ·rw [if_neg c11] at H
    have c11b0 : (a2.toList == ([104] : List UInt8)) = false := beq_eq_false_iff_ne.mpr c11
    have c11b1 : (a2.toList != ([104] : List UInt8)) = true := bne_iff_ne.mpr c11
    (first | rw [c11b0] | (simp only [zau, zav]; rw [c11b0]) | skip)
    have H' := zaa.mk H
    clear H
    go_wp2
    go_meet
    case rel => exact ⟨_, (false), (by first | rfl | (simp; done) | (simp [*]; done)), H', ⟨by first | omega | exact ybm _⟩, ⟨by repeat (first | (with_reducible first | exact HB.out | apply zac | apply zab | apply zad) | exact HB.out)⟩⟩
  case rest =>
   clear HC8
   try clear c1
   try clear p2
   try clear c6
   try clear p6
   try clear c8
   try clear c11
   try clear c11b0
   try clear c11b1
   try clear c12
   obtain ⟨kq, x29_7, rfl, HA, HJ7, HB⟩ := hcut
   cases kq with
   | zero => exact absurd HA.out (by simp [spec_PlanSplit.j0])
   | succ kj7 =>
    have H := HA.out
    clear HA
    simp only [spec_PlanSplit.j0] at H
    by_cases c13 : x29_7 = true
    ·subst c13
     have H1 : ((spec_l1Put.f l0 (wrap64 (t194 + a3)) t195 (wrap64 (t196 - a3)) t197 122).bind fun t199 => ((spec_l1Done.f kj7 t199).bind fun bt202 => (some (bt202.1, bt202.2)))) = some (r1, r2) := by rw [if_pos rfl] at H; exact H
     clear H
     have H := H1
     clear H1
     replace H := ybk.mp H
     obtain ⟨t199, A140, H⟩ := H
     replace H : ((spec_l1Done.f kj7 t199).bind fun bt202 => (some (bt202.1, bt202.2))) = some (r1, r2) := H
     have A14 := zaa.mk A140
     clear A140
     replace H := ybk.mp H
     obtain ⟨⟨t202, t203⟩, A150, H⟩ := H
     replace H : (some (t202, t203)) = some (r1, r2) := H
     have A15 := zaa.mk A150
     clear A150
     simp only [Option.some.injEq, Prod.mk.injEq] at H
     obtain ⟨rfl, rfl⟩ := H
     go_wp2_with (first | ((with_reducible refine zah (f := 127) rfl ?_); refine zaz (some 47) rfl rfl Try.func127 (by kernel_rfl) rfl #[.slice A0 l0.length c0, .int .i64 (wrap64 (t194 + a3)), .int .i64 t195, .int .i64 (wrap64 (t196 - a3)), .int .i64 t197, .int .u8 122] rfl (by (try simp only [ybd, ybe, ybf]); first | done | rfl | (simp only [ybh, ybg]; rfl)) ?_; (with_reducible refine (spec_l1Put.calls _ _ l0 (wrap64 (t194 + a3)) t195 (wrap64 (t196 - a3)) t197 122 t199 _ ?side1 ?side2 A14.out).mono ?_); (case side1 => repeat (first | exact (Kd.C_below HR0.out HB.out) | (with_reducible refine ybt ?_ _) | (with_reducible refine ybu ?_ _) | (with_reducible refine ybv ?_))); (case side2 => exact HC0.out); rintro e w16 ⟨v200, rfl, ho0, hb⟩; refine ⟨_, rfl, ?_⟩; have n0_ := zaa.mk (Kd.R_lower ho0 (zag (by repeat (first | (with_reducible first | exact HB.out | apply zac | apply zab | apply zad) | exact HB.out)))); have n1_ := zaa.mk (zae (by repeat (first | (with_reducible first | exact HB.out | apply zac | apply zab | apply zad) | exact HB.out)) hb); clear HB; have HO201 := n0_; have HB := n1_; clear n0_ n1_; (try clear hb); (try clear hb2); (try clear hk); (try clear hi); (try clear ho0); obtain ⟨Ao17, co17, eo17⟩ := Kd.R_slice HO201.out; subst eo17) | ((with_reducible refine zah (f := 126) rfl ?_); refine zaz (some 48) rfl rfl Try.func126 (by kernel_rfl) rfl #[.slice Ao17 t199.length co17] rfl (by (try simp only [ybd, ybe, ybf]); first | done | rfl | (simp only [ybh, ybg]; rfl)) ?_; (with_reducible refine (spec_l1Done.calls kj7 _ _ t199 t202 t203 _ ?side1 ?side2 A15.out).mono ?_); (case side1 => repeat (first | exact (Kd.R_reads' HO201.out).2.2 | (with_reducible refine ybt ?_ _) | (with_reducible refine ybu ?_ _) | (with_reducible refine ybv ?_))); (case side2 => exact (Kd.R_reads' HO201.out).2.1); rintro e w18 ⟨v204, rfl, ho0, hb⟩; refine ⟨_, rfl, ?_⟩; have n0_ := zaa.mk (Kd.R_elder' (by (with_reducible repeat (first | apply ybn | apply ybo | apply ybp)); exact HO201.out) (Kd.R_base ho0) hb); have n1_ := zaa.mk (Kd.R_lower (Kd.R_new' ho0 (Kd.R_lt (by (with_reducible repeat (first | apply ybn | apply ybo | apply ybp)); exact HO201.out))) (zag (by repeat (first | (with_reducible first | exact HB.out | apply zac | apply zab | apply zad) | exact HB.out)))); have n2_ := zaa.mk (zae (by repeat (first | (with_reducible first | exact HB.out | apply zac | apply zab | apply zad) | exact HB.out)) hb); clear HO201; clear HB; have HO201 := n0_; have HO205 := n1_; have HB := n2_; clear n0_ n1_ n2_; (try clear hb); (try clear hb2); (try clear hk); (try clear hi); (try clear ho0)))
     go_ret2
     exact ⟨_, by first | rfl | (simp [zap, zao] <;> rfl) | (simp [*, zap, zao] <;> rfl), by (with_reducible repeat (first | apply ybn | apply ybo | apply ybp)); exact Kd.R_mono HO205.out (fun _ hk => trivial), by repeat (first | (with_reducible first | exact HB.out | apply zac | apply zab | apply zad) | exact HB.out)⟩
    ·replace c13 := Bool.eq_false_iff.mpr c13
     subst c13
     have H1 : (if a2.toList = ([118] : List UInt8) then ((spec_l6In.f a3 1 (wrap64 (t197 - 1))).bind fun t206 => (spec_PlanSplit.j1 kj7 l0 a3 t194 t195 t196 t197 t206)) else (spec_PlanSplit.j1 kj7 l0 a3 t194 t195 t196 t197 false)) = some (r1, r2) := by rw [if_neg (show ¬ (false = true) by decide)] at H; exact H
     clear H
     have H := H1
     clear H1
     have HC19 := zaa.mk H
     clear H
     go_upto_region 6 with (fail)
     go_cut [51] (fun v51 wc => ∃ (kq : Nat) (x51_18 : Bool), v51 = .bool x51_18 ∧ zaa (spec_PlanSplit.j1 kq l0 a3 t194 t195 t196 t197 x51_18 = some (r1, r2)) ∧ zaa (kq ≤ kj7) ∧ zaa (Below w.heap.size w wc))
     case first =>
      have H := HC19.out
      clear HC19
      by_cases c20 : a2.toList = ([118] : List UInt8)
      ·rw [if_pos c20] at H
       have c20b0 : (a2.toList == ([118] : List UInt8)) = true := beq_iff_eq.mpr c20
       have c20b1 : (a2.toList != ([118] : List UInt8)) = false := bne_eq_false_iff_eq.mpr c20
       clear c20
       (first | rw [c20b0] | (simp only [zau, zav]; rw [c20b0]) | skip)
       replace H := ybk.mp H
       obtain ⟨t206, A210, H⟩ := H
       replace H : (spec_PlanSplit.j1 kj7 l0 a3 t194 t195 t196 t197 t206) = some (r1, r2) := H
       have A21 := zaa.mk A210
       clear A210
       have H' := zaa.mk H
       clear H
       go_wp2_with (first | (go_at_call 46; (with_reducible refine (spec_l6In.calls a3 1 (wrap64 (t197 - 1)) t206 _ A21.out).mono ?_); rintro e w' ⟨rfl, ⟨nd, rfl⟩⟩))
       go_meet
       case rel => exact ⟨_, (t206), (by first | rfl | (simp; done) | (simp [*]; done)), H', ⟨by have := HJ7.out; first | omega | exact ybm _⟩, ⟨by repeat (first | (with_reducible first | exact HB.out | apply zac | apply zab | apply zad) | exact HB.out)⟩⟩
      ·rw [if_neg c20] at H
       have c20b0 : (a2.toList == ([118] : List UInt8)) = false := beq_eq_false_iff_ne.mpr c20
       have c20b1 : (a2.toList != ([118] : List UInt8)) = true := bne_iff_ne.mpr c20
       (first | rw [c20b0] | (simp only [zau, zav]; rw [c20b0]) | skip)
       have H' := zaa.mk H
       clear H
       go_wp2
       go_meet
       case rel => exact ⟨_, (false), (by first | rfl | (simp; done) | (simp [*]; done)), H', ⟨by have := HJ7.out; first | omega | exact ybm _⟩, ⟨by repeat (first | (with_reducible first | exact HB.out | apply zac | apply zab | apply zad) | exact HB.out)⟩⟩
     case rest =>
      clear HC19
      try clear c1
      try clear c2
      try clear p2
      try clear c6
      try clear p6
      try clear c8
      try clear c11
      try clear c11b0
      try clear c11b1
      try clear c12
      try clear c13
      try clear c20
      try clear c20b0
      try clear c20b1
      try clear p2
      try clear p6
      obtain ⟨kq, x51_18, rfl, HA, HJ18, HB⟩ := hcut
      cases kq with
      | zero => exact absurd HA.out (by simp [spec_PlanSplit.j1])
      | succ kj18 =>
       have H := HA.out
       clear HA
       simp only [spec_PlanSplit.j1] at H
       by_cases c22 : x51_18 = true
       ·subst c22
        have H1 : ((spec_l1Put.f l0 t194 (wrap64 (t195 + a3)) t196 (wrap64 (t197 - a3)) 122).bind fun t207 => ((spec_l1Done.f kj18 t207).bind fun bt210 => (some (bt210.1, bt210.2)))) = some (r1, r2) := by rw [if_pos rfl] at H; exact H
        clear H
        have H := H1
        clear H1
        replace H := ybk.mp H
        obtain ⟨t207, A230, H⟩ := H
        replace H : ((spec_l1Done.f kj18 t207).bind fun bt210 => (some (bt210.1, bt210.2))) = some (r1, r2) := H
        have A23 := zaa.mk A230
        clear A230
        replace H := ybk.mp H
        obtain ⟨⟨t210, t211⟩, A240, H⟩ := H
        replace H : (some (t210, t211)) = some (r1, r2) := H
        have A24 := zaa.mk A240
        clear A240
        simp only [Option.some.injEq, Prod.mk.injEq] at H
        obtain ⟨rfl, rfl⟩ := H
        go_wp2_with (first | ((with_reducible refine zah (f := 127) rfl ?_); refine zaz (some 69) rfl rfl Try.func127 (by kernel_rfl) rfl #[.slice A0 l0.length c0, .int .i64 t194, .int .i64 (wrap64 (t195 + a3)), .int .i64 t196, .int .i64 (wrap64 (t197 - a3)), .int .u8 122] rfl (by (try simp only [ybd, ybe, ybf]); first | done | rfl | (simp only [ybh, ybg]; rfl)) ?_; (with_reducible refine (spec_l1Put.calls _ _ l0 t194 (wrap64 (t195 + a3)) t196 (wrap64 (t197 - a3)) 122 t207 _ ?side1 ?side2 A23.out).mono ?_); (case side1 => repeat (first | exact (Kd.C_below HR0.out HB.out) | (with_reducible refine ybt ?_ _) | (with_reducible refine ybu ?_ _) | (with_reducible refine ybv ?_))); (case side2 => exact HC0.out); rintro e w25 ⟨v208, rfl, ho0, hb⟩; refine ⟨_, rfl, ?_⟩; have n0_ := zaa.mk (Kd.R_lower ho0 (zag (by repeat (first | (with_reducible first | exact HB.out | apply zac | apply zab | apply zad) | exact HB.out)))); have n1_ := zaa.mk (zae (by repeat (first | (with_reducible first | exact HB.out | apply zac | apply zab | apply zad) | exact HB.out)) hb); clear HB; have HO209 := n0_; have HB := n1_; clear n0_ n1_; (try clear hb); (try clear hb2); (try clear hk); (try clear hi); (try clear ho0); obtain ⟨Ao26, co26, eo26⟩ := Kd.R_slice HO209.out; subst eo26) | ((with_reducible refine zah (f := 126) rfl ?_); refine zaz (some 70) rfl rfl Try.func126 (by kernel_rfl) rfl #[.slice Ao26 t207.length co26] rfl (by (try simp only [ybd, ybe, ybf]); first | done | rfl | (simp only [ybh, ybg]; rfl)) ?_; (with_reducible refine (spec_l1Done.calls kj18 _ _ t207 t210 t211 _ ?side1 ?side2 A24.out).mono ?_); (case side1 => repeat (first | exact (Kd.R_reads' HO209.out).2.2 | (with_reducible refine ybt ?_ _) | (with_reducible refine ybu ?_ _) | (with_reducible refine ybv ?_))); (case side2 => exact (Kd.R_reads' HO209.out).2.1); rintro e w27 ⟨v212, rfl, ho0, hb⟩; refine ⟨_, rfl, ?_⟩; have n0_ := zaa.mk (Kd.R_elder' (by (with_reducible repeat (first | apply ybn | apply ybo | apply ybp)); exact HO209.out) (Kd.R_base ho0) hb); have n1_ := zaa.mk (Kd.R_lower (Kd.R_new' ho0 (Kd.R_lt (by (with_reducible repeat (first | apply ybn | apply ybo | apply ybp)); exact HO209.out))) (zag (by repeat (first | (with_reducible first | exact HB.out | apply zac | apply zab | apply zad) | exact HB.out)))); have n2_ := zaa.mk (zae (by repeat (first | (with_reducible first | exact HB.out | apply zac | apply zab | apply zad) | exact HB.out)) hb); clear HO209; clear HB; have HO209 := n0_; have HO213 := n1_; have HB := n2_; clear n0_ n1_ n2_; (try clear hb); (try clear hb2); (try clear hk); (try clear hi); (try clear ho0)))
        go_ret2
        exact ⟨_, by first | rfl | (simp [zap, zao] <;> rfl) | (simp [*, zap, zao] <;> rfl), by (with_reducible repeat (first | apply ybn | apply ybo | apply ybp)); exact Kd.R_mono HO213.out (fun _ hk => trivial), by repeat (first | (with_reducible first | exact HB.out | apply zac | apply zab | apply zad) | exact HB.out)⟩
       ·replace c22 := Bool.eq_false_iff.mpr c22
        subst c22
        have H1 : ((spec_l1None.f).bind fun bt214 => (some (bt214.1, bt214.2))) = some (r1, r2) := by rw [if_neg (show ¬ (false = true) by decide)] at H; exact H
        clear H
        have H := H1
        clear H1
        replace H := ybk.mp H
        obtain ⟨⟨t214, t215⟩, A280, H⟩ := H
        replace H : (some (t214, t215)) = some (r1, r2) := H
        have A28 := zaa.mk A280
        clear A280
        simp only [Option.some.injEq, Prod.mk.injEq] at H
        obtain ⟨rfl, rfl⟩ := H
        go_wp2_with (first | ((with_reducible refine zah (f := 66) rfl ?_); refine zaz (some 73) rfl rfl Try.func66 (by kernel_rfl) rfl #[] rfl (by (try simp only [ybd, ybe, ybf]); first | done | rfl | (simp only [ybh, ybg]; rfl)) ?_; (with_reducible refine (spec_l1None.calls  t214 t215 _ A28.out).mono ?_); rintro e w29 ⟨v216, rfl, ho0, hb⟩; refine ⟨_, rfl, ?_⟩; have n0_ := zaa.mk (Kd.R_lower ho0 (zag (by repeat (first | (with_reducible first | exact HB.out | apply zac | apply zab | apply zad) | exact HB.out)))); have n1_ := zaa.mk (zae (by repeat (first | (with_reducible first | exact HB.out | apply zac | apply zab | apply zad) | exact HB.out)) hb); clear HB; have HO217 := n0_; have HB := n1_; clear n0_ n1_; (try clear hb); (try clear hb2); (try clear hk); (try clear hi); (try clear ho0)))
        go_ret2
        exact ⟨_, by first | rfl | (simp [zap, zao] <;> rfl) | (simp [*, zap, zao] <;> rfl), by (with_reducible repeat (first | apply ybn | apply ybo | apply ybp)); exact HO217.out, by repeat (first | (with_reducible first | exact HB.out | apply zac | apply zab | apply zad) | exact HB.out)⟩
 ·replace c6 := Bool.eq_false_iff.mpr c6
  subst c6
  have H1 : ((spec_l1None.f).bind fun bt190 => (some (bt190.1, bt190.2))) = some (r1, r2) := by rw [if_neg (show ¬ (false = true) by decide)] at H; exact H
  clear H
  have H := H1
  clear H1
  replace H := ybk.mp H
  obtain ⟨⟨t190, t191⟩, A300, H⟩ := H
  replace H : (some (t190, t191)) = some (r1, r2) := H
  have A30 := zaa.mk A300
  clear A300
  simp only [Option.some.injEq, Prod.mk.injEq] at H
  obtain ⟨rfl, rfl⟩ := H
  go_enter Try.func121, Try.ntmps121
  go_wp2_with (first | ((with_reducible refine zah (f := 125) rfl ?_); refine zaz (some 16) rfl rfl Try.func125 (by kernel_rfl) rfl #[.slice A0 l0.length c0, .int .i64 a1] rfl (by (try simp only [ybd, ybe, ybf]); first | done | rfl | (simp only [ybh, ybg]; rfl)) ?_; (with_reducible refine (spec_l1Given.calls k _ _ l0 a1 false _ ?side1 ?side2 A5.out).mono ?_); (case side1 => repeat (first | exact HR0.out | (with_reducible refine ybt ?_ _) | (with_reducible refine ybu ?_ _) | (with_reducible refine ybv ?_))); (case side2 => exact HC0.out); rintro e w31 ⟨rfl, hb⟩; refine ⟨_, rfl, ?_⟩; have n0_ := zaa.mk (zae (by repeat (first | (with_reducible first | exact HB.out | apply zac | apply zab | apply zad) | exact HB.out)) hb); clear HB; have HB := n0_; clear n0_; (try clear hb); (try clear hb2); (try clear hk); (try clear hi)) | ((with_reducible refine zah (f := 66) rfl ?_); refine zaz (some 18) rfl rfl Try.func66 (by kernel_rfl) rfl #[] rfl (by (try simp only [ybd, ybe, ybf]); first | done | rfl | (simp only [ybh, ybg]; rfl)) ?_; (with_reducible refine (spec_l1None.calls  t190 t191 _ A30.out).mono ?_); rintro e w32 ⟨v192, rfl, ho0, hb⟩; refine ⟨_, rfl, ?_⟩; have n0_ := zaa.mk (Kd.R_lower ho0 (zag (by repeat (first | (with_reducible first | exact HB.out | apply zac | apply zab | apply zad) | exact HB.out)))); have n1_ := zaa.mk (zae (by repeat (first | (with_reducible first | exact HB.out | apply zac | apply zab | apply zad) | exact HB.out)) hb); clear HB; have HO193 := n0_; have HB := n1_; clear n0_ n1_; (try clear hb); (try clear hb2); (try clear hk); (try clear hi); (try clear ho0)))
  go_ret2
  exact ⟨_, by first | rfl | (simp [zap, zao] <;> rfl) | (simp [*, zap, zao] <;> rfl), by (with_reducible repeat (first | apply ybn | apply ybo | apply ybp)); exact HO193.out, by repeat (first | (with_reducible first | exact HB.out | apply zac | apply zab | apply zad) | exact HB.out)⟩
def spec_l91Cut.l0 : Nat → List ByteArray → Int → Int → List Int → Int → Option (List ByteArray × Int)
 | 0, _, _, _, _, _ => none
 | k + 1, x1, x2, x7, x1000, x1001 => if x7 < x2 then ((spec_l1Rooms.f k x1).bind fun t221 => ((spec_l6Rd_pick.f k x1000 x1001 t221).bind fun bt222 => ((spec_l6Rd_of.f k x1000 bt222.2 (([(⟨#[104]⟩ : ByteArray), (⟨#[118]⟩ : ByteArray)] : List ByteArray))).bind fun bt227 => ((spec_l6Rd_pick.f k x1000 bt227.2 3).bind fun bt229 => ((spec_PlanSplit.f k x1 bt222.1 bt227.1 (wrap64 (1 + bt229.1))).bind fun bt231 => (if bt231.2 = true then (spec_l91Cut.l0 k bt231.1 x2 (wrap64 (x7 + 1)) x1000 bt229.2) else (spec_l91Cut.l0 k x1 x2 (wrap64 (x7 + 1)) x1000 bt229.2))))))) else (some (x1, x1001))
def spec_l91Cut.f (k : Nat) (s0_0 : List Int) (s0_1 : Int) (l1 : List ByteArray) (a2 : Int) : Option (List ByteArray × Int) := spec_l91Cut.l0 k l1 a2 0 s0_0 s0_1
set_option maxHeartbeats 8000000 in
set_option maxRecDepth 100000 in
theorem spec_l91Cut.calls (k : Nat) (g : Nat) (s0_0 : List Int) (s0_1 : Int) (P1_ : Nat → Prop) (A1 : Option Addr) (c1 : Nat) (l1 : List ByteArray) (a2 : Int) (r1 : List ByteArray) (r2 : Int) (w0 w : World) (hI : zaf w0 w g s0_0 s0_1) (hB : Below w0.heap.size w0 w) (hs1 : Kd.V Kd.string 9 w w.heap.size (fun k_ => P1_ k_ ∧ k_ ≠ g) (.slice A1 l1.length c1) l1) (h : spec_l91Cut.f k s0_0 s0_1 l1 a2 = some (r1, r2)) :
  Calls Try.prog 111 #[.pointer (some ⟨g, 0, none⟩), .slice A1 l1.length c1, .int .i64 a2] w fun e w' => ∃ v0_ : Value, e = .returned (v0_) ∧ Kd.V Kd.string 9 w' w.heap.size (fun k_ => (P1_ k_ ∨ w.heap.size ≤ k_)) v0_ r1 ∧ zaf w0 w' g s0_0 r2 ∧ Below w0.heap.size w0 w' ∧ zai w w' g none := by
 have HO1 := zaa.mk (show Kd.V Kd.string 9 w w.heap.size (fun k_ => (P1_ k_ ∨ w.heap.size ≤ k_) ∧ k_ ≠ g) (.slice A1 l1.length c1) l1 from Kd.V_mono hs1 (fun k_ hk => ⟨.inl hk.1, hk.2⟩))
 have HI0 := zaa.mk hI
 have HK := zaa.mk (zai.refl w g none)
 have HL := zaa.mk hB.size
 clear hI
 have HW0 := zaa.mk hB.size
 have HB := zaa.mk hB
 clear hB
 have H : (spec_l91Cut.l0 k l1 a2 0 s0_0 s0_1) = some (r1, r2) := h
 clear h
 have H' := zaa.mk H
 clear H
 go_enter Try.func111, Try.ntmps111
 go_wp2
 go_loopg [1, 7] k (fun kq v1 v7 w' => ∃ (x1_1 : List ByteArray) (x7_1 : Int) (x1001_1 : Int), v7 = .int .i64 x7_1 ∧ zaa (spec_l91Cut.l0 kq x1_1 a2 x7_1 s0_0 x1001_1 = some (r1, r2)) ∧ zaa (kq ≤ k) ∧ zaa (Kd.V Kd.string 9 w' w.heap.size (fun k_ => (P1_ k_ ∨ w.heap.size ≤ k_) ∧ k_ ≠ g) v1 x1_1) ∧ zaa (zaf w0 w' g s0_0 x1001_1) ∧ zaa (zai w w' g none) ∧ zaa (Below w0.heap.size w0 w'))
 case atStart => exact ⟨(l1), (0), (s0_1), (by first | rfl | (simp; done) | (simp [*]; done)), H', ⟨ybm _⟩, ⟨by (with_reducible repeat (first | apply ybq | apply ybr | apply ybs)); exact HO1.out⟩, ⟨by repeat (first | (with_reducible first | exact HI0.out | apply zaf.alloc | apply zaf.drewN | apply zaf.drew | apply zaf.set_1) | exact HI0.out)⟩, ⟨by repeat (first | (with_reducible first | exact HK.out | apply zai.set_ | apply zal | apply zaq | apply zam) | exact HK.out)⟩, ⟨by repeat (first | (with_reducible first | exact HB.out | apply zac | apply zab | apply zad | refine zan ?_ (zaf.ge HI0.out)) | exact HB.out)⟩⟩
 case round =>
  clear H'
  try clear c1
  try clear p2
  obtain ⟨x1_1, x7_1, x1001_1, rfl, HA, HK1, HO_1, HI0, HK, HB⟩ := hrel
  cases gk with
  | zero => exact absurd HA.out (by simp [spec_l91Cut.l0])
  | succ k1 =>
   have H := HA.out
   clear HA
   simp only [spec_l91Cut.l0] at H
   by_cases c4 : x7_1 < a2
   ·rw [if_pos c4] at H
    have c4b0 : decide (x7_1 < a2) = true := decide_eq_true c4
    clear c4
    replace H := ybk.mp H
    obtain ⟨t221, A50, H⟩ := H
    replace H : ((spec_l6Rd_pick.f k1 s0_0 x1001_1 t221).bind fun bt222 => ((spec_l6Rd_of.f k1 s0_0 bt222.2 (([(⟨#[104]⟩ : ByteArray), (⟨#[118]⟩ : ByteArray)] : List ByteArray))).bind fun bt227 => ((spec_l6Rd_pick.f k1 s0_0 bt227.2 3).bind fun bt229 => ((spec_PlanSplit.f k1 x1_1 bt222.1 bt227.1 (wrap64 (1 + bt229.1))).bind fun bt231 => (if bt231.2 = true then (spec_l91Cut.l0 k1 bt231.1 a2 (wrap64 (x7_1 + 1)) s0_0 bt229.2) else (spec_l91Cut.l0 k1 x1_1 a2 (wrap64 (x7_1 + 1)) s0_0 bt229.2)))))) = some (r1, r2) := H
    have A5 := zaa.mk A50
    clear A50
    replace H := ybk.mp H
    obtain ⟨⟨t222, t223⟩, A60, H⟩ := H
    replace H : ((spec_l6Rd_of.f k1 s0_0 t223 (([(⟨#[104]⟩ : ByteArray), (⟨#[118]⟩ : ByteArray)] : List ByteArray))).bind fun bt227 => ((spec_l6Rd_pick.f k1 s0_0 bt227.2 3).bind fun bt229 => ((spec_PlanSplit.f k1 x1_1 t222 bt227.1 (wrap64 (1 + bt229.1))).bind fun bt231 => (if bt231.2 = true then (spec_l91Cut.l0 k1 bt231.1 a2 (wrap64 (x7_1 + 1)) s0_0 bt229.2) else (spec_l91Cut.l0 k1 x1_1 a2 (wrap64 (x7_1 + 1)) s0_0 bt229.2))))) = some (r1, r2) := H
    have A6 := zaa.mk A60
    clear A60
    obtain ⟨y224, hy224⟩ : ∃ y_ : List ByteArray, y_ = (([(⟨#[104]⟩ : ByteArray), (⟨#[118]⟩ : ByteArray)] : List ByteArray)) := ⟨_, rfl⟩
    replace H : ((spec_l6Rd_of.f k1 s0_0 t223 y224).bind fun bt227 => ((spec_l6Rd_pick.f k1 s0_0 bt227.2 3).bind fun bt229 => ((spec_PlanSplit.f k1 x1_1 t222 bt227.1 (wrap64 (1 + bt229.1))).bind fun bt231 => (if bt231.2 = true then (spec_l91Cut.l0 k1 bt231.1 a2 (wrap64 (x7_1 + 1)) s0_0 bt229.2) else (spec_l91Cut.l0 k1 x1_1 a2 (wrap64 (x7_1 + 1)) s0_0 bt229.2))))) = some (r1, r2) := by first | (rw [hy224]; with_reducible exact H) | (have H2_ := (ybl _ _).symm.trans H; rw [hy224]; with_reducible exact H2_) | (have H2_ := (ybl _ _).symm.trans H; with_reducible exact H2_) | with_reducible exact H | (rw [hy224]; exact H) | exact H
    have Ny224 := zaa.mk hy224
    clear hy224
    replace H := ybk.mp H
    obtain ⟨⟨t227, t228⟩, A70, H⟩ := H
    replace H : ((spec_l6Rd_pick.f k1 s0_0 t228 3).bind fun bt229 => ((spec_PlanSplit.f k1 x1_1 t222 t227 (wrap64 (1 + bt229.1))).bind fun bt231 => (if bt231.2 = true then (spec_l91Cut.l0 k1 bt231.1 a2 (wrap64 (x7_1 + 1)) s0_0 bt229.2) else (spec_l91Cut.l0 k1 x1_1 a2 (wrap64 (x7_1 + 1)) s0_0 bt229.2)))) = some (r1, r2) := H
    have A7 := zaa.mk A70
    clear A70
    replace H := ybk.mp H
    obtain ⟨⟨t229, t230⟩, A80, H⟩ := H
    replace H : ((spec_PlanSplit.f k1 x1_1 t222 t227 (wrap64 (1 + t229))).bind fun bt231 => (if bt231.2 = true then (spec_l91Cut.l0 k1 bt231.1 a2 (wrap64 (x7_1 + 1)) s0_0 t230) else (spec_l91Cut.l0 k1 x1_1 a2 (wrap64 (x7_1 + 1)) s0_0 t230))) = some (r1, r2) := H
    have A8 := zaa.mk A80
    clear A80
    replace H := ybk.mp H
    obtain ⟨⟨t231, t232⟩, A90, H⟩ := H
    replace H : (if t232 = true then (spec_l91Cut.l0 k1 t231 a2 (wrap64 (x7_1 + 1)) s0_0 t230) else (spec_l91Cut.l0 k1 x1_1 a2 (wrap64 (x7_1 + 1)) s0_0 t230)) = some (r1, r2) := H
    have A9 := zaa.mk A90
    clear A90
    by_cases c10 : t232 = true
    ·subst c10
     have H1 : (spec_l91Cut.l0 k1 t231 a2 (wrap64 (x7_1 + 1)) s0_0 t230) = some (r1, r2) := by rw [if_pos rfl] at H; exact H
     clear H
     have H := H1
     clear H1
     have H' := zaa.mk H
     clear H
     obtain ⟨Ao11, co11, eo11⟩ := Kd.V_slice HO_1.out
     subst eo11
     go_wp2_with (first | ((with_reducible refine zah (f := 87) rfl ?_); refine zaz (some 18) rfl rfl Try.func87 (by kernel_rfl) rfl #[.slice Ao11 x1_1.length co11] rfl (by (try simp only [ybd, ybe, ybf]); first | done | rfl | (simp only [ybh, ybg]; rfl)) ?_; (with_reducible refine (spec_l1Rooms.calls k1 _ _ x1_1 t221 _ ?side1 ?side2 A5.out).mono ?_); (case side1 => repeat (first | exact (Kd.V_reads' HO_1.out).2.2 | (with_reducible refine ybt ?_ _) | (with_reducible refine ybu ?_ _) | (with_reducible refine ybv ?_))); (case side2 => exact (Kd.V_reads' HO_1.out).2.1); rintro e w12 ⟨rfl, hb⟩; refine ⟨_, rfl, ?_⟩; have n0_ := zaa.mk (Kd.V_below (by (with_reducible repeat (first | apply ybq | apply ybr | apply ybs)); exact HO_1.out) hb); have n1_ := zaa.mk (zaf.below (by repeat (first | (with_reducible first | exact HI0.out | apply zaf.alloc | apply zaf.drewN | apply zaf.drew | apply zaf.set_1) | exact HI0.out)) hb); have n2_ := zaa.mk (zai.trans (by repeat (first | (with_reducible first | exact HK.out | apply zai.set_ | apply zal | apply zaq | apply zam) | exact HK.out)) (zai.of_below hb g none) (.inl rfl)); have n3_ := zaa.mk (zae (by repeat (first | (with_reducible first | exact HB.out | apply zac | apply zab | apply zad | refine zan ?_ (zaf.ge HI0.out)) | exact HB.out)) hb); clear HO_1; clear HI0; clear HK; clear HB; have HO_1 := n0_; have HI0 := n1_; have HK := n2_; have HB := n3_; clear n0_ n1_ n2_ n3_; (try clear hb); (try clear hb2); (try clear hk); (try clear hi)) | ((with_reducible refine zah (f := 58) rfl ?_); refine zaz (some 19) rfl rfl Try.func58 (by kernel_rfl) rfl #[.pointer (some ⟨g, 0, none⟩), .int .i64 t221] rfl (by (try simp only [ybd, ybe, ybf]); first | done | rfl | (simp only [ybh, ybg]; rfl)) ?_; (with_reducible refine (spec_l6Rd_pick.calls k1 g s0_0 x1001_1 t221 t222 t223 w0 _ ?side1 ?side2 A6.out).mono ?_); (case side1 => repeat (first | (with_reducible first | exact HI0.out | apply zaf.alloc | apply zaf.drewN | apply zaf.drew | apply zaf.set_1) | exact HI0.out)); (case side2 => repeat (first | (with_reducible first | exact HB.out | apply zac | apply zab | apply zad | refine zan ?_ (zaf.ge HI0.out)) | exact HB.out)); rintro e w13 ⟨rfl, hi, hb, hk⟩; refine ⟨_, rfl, ?_⟩; have n0_ := zaa.mk (Kd.V_mono (Kd.V_keep (Kd.V_mono (ok := fun k_ => (((P1_ k_ ∨ w.heap.size ≤ k_)) ∧ k_ ≠ g)) (by (with_reducible repeat (first | apply ybq | apply ybr | apply ybs)); exact HO_1.out) (fun k_ hk_ => (⟨hk_, hk_.2⟩ : _ ∧ k_ ≠ g))) hk (fun _ h => h.2)) (fun _ h => h.1)); have n1_ := zaa.mk (zai.trans (by repeat (first | (with_reducible first | exact HK.out | apply zai.set_ | apply zal | apply zaq | apply zam) | exact HK.out)) hk (.inl rfl)); have n2_ := zaa.mk (hb); have n3_ := zaa.mk (hi); clear HO_1; clear HK; clear HB; clear HI0; have HO_1 := n0_; have HK := n1_; have HB := n2_; have HI0 := n3_; clear n0_ n1_ n2_ n3_; (try clear hb); (try clear hb2); (try clear hk); (try clear hi)) | ((with_reducible refine zbb (N := 24) rfl ?_); refine Kd.R_lit Kd.string _ 9 ?hg (N := 24) ?hd (xs := ([(⟨#[104]⟩ : ByteArray), (⟨#[118]⟩ : ByteArray)] : List ByteArray)) (inner := [.string (⟨#[104]⟩ : ByteArray), .string (⟨#[118]⟩ : ByteArray)]) (ok := fun _ => True) (okp := fun _ => True) ?hr ?hp (fun _ hk => hk) trivial (Below.refl _ _) (ybm _) (by simp) ?_; (case hd => rfl); (case hg => rfl); (case hr => first | (go_simp; done) | (go_simp; rfl)); (case hp => exact (Reps.one (show Kd.M Kd.string _ _ _ (⟨#[104]⟩ : ByteArray) [.string (⟨#[104]⟩ : ByteArray)] from rfl) (Reps.one (show Kd.M Kd.string _ _ _ (⟨#[118]⟩ : ByteArray) [.string (⟨#[118]⟩ : ByteArray)] from rfl) (Reps.none _ _)))); intro v225 w14 ho15 hb hg_ hnew_; clear hg_ hnew_; (first | rw [← Ny224.out] at ho15 | (simp only [Int.reduceToNat] at ho15; rw [← Ny224.out] at ho15)); have n0_ := zaa.mk (Kd.V_elder' (by (with_reducible repeat (first | apply ybq | apply ybr | apply ybs)); exact HO_1.out) (Kd.R_base ho15) hb); have n1_ := zaa.mk (Kd.R_lower (Kd.R_newM (M := fun k_ => (w.heap.size ≤ k_)) ho15 (zbg (w := w) (g := g) (row := none) (by repeat (first | (with_reducible first | exact HK.out | apply zai.set_ | apply zal | apply zaq | apply zam) | exact HK.out))) (fun k_ h_ => h_)) (zbg (w := w) (g := g) (row := none) (by repeat (first | (with_reducible first | exact HK.out | apply zai.set_ | apply zal | apply zaq | apply zam) | exact HK.out)))); have n2_ := zaa.mk (zaf.below (by repeat (first | (with_reducible first | exact HI0.out | apply zaf.alloc | apply zaf.drewN | apply zaf.drew | apply zaf.set_1) | exact HI0.out)) hb); have n3_ := zaa.mk (zai.trans (by repeat (first | (with_reducible first | exact HK.out | apply zai.set_ | apply zal | apply zaq | apply zam) | exact HK.out)) (zai.of_below hb g none) (.inl rfl)); have n4_ := zaa.mk (zae (by repeat (first | (with_reducible first | exact HB.out | apply zac | apply zab | apply zad | refine zan ?_ (zaf.ge HI0.out)) | exact HB.out)) hb); clear HO_1; clear HI0; clear HK; clear HB; have HO_1 := n0_; have HO226 := n1_; have HI0 := n2_; have HK := n3_; have HB := n4_; clear n0_ n1_ n2_ n3_ n4_; clear hb ho15; obtain ⟨Ao16, co16, eo16⟩ := Kd.R_slice HO226.out; subst eo16) | ((with_reducible refine zah (f := 122) rfl ?_); refine zaz (some 25) rfl rfl Try.func122 (by kernel_rfl) rfl #[.pointer (some ⟨g, 0, none⟩), .slice Ao16 y224.length co16] rfl (by (try simp only [ybd, ybe, ybf]); first | done | rfl | (simp only [ybh, ybg]; rfl)) ?_; (with_reducible refine (spec_l6Rd_of.calls k1 g s0_0 t223 _ _ y224 t227 t228 w0 _ ?side1 ?side2 ?side3 ?side4 ?side5 A7.out).mono ?_); (case side1 => repeat (first | (with_reducible first | exact HI0.out | apply zaf.alloc | apply zaf.drewN | apply zaf.drew | apply zaf.set_1) | exact HI0.out)); (case side2 => repeat (first | (with_reducible first | exact HB.out | apply zac | apply zab | apply zad | refine zan ?_ (zaf.ge HI0.out)) | exact HB.out)); (case side3 => repeat (first | exact (Kd.R_reads' HO226.out).2.2 | (with_reducible refine ybt ?_ _) | (with_reducible refine ybu ?_ _) | (with_reducible refine ybv ?_))); (case side4 => exact (Kd.R_reads' HO226.out).2.1); (case side5 => exact far_slice (zaf.own_ne HI0.out HO226.out (by decide))); rintro e w17 ⟨rfl, hi, hb, hk⟩; refine ⟨_, rfl, ?_⟩; have n0_ := zaa.mk (Kd.V_mono (Kd.V_keep (Kd.V_mono (ok := fun k_ => ((((P1_ k_ ∨ w.heap.size ≤ k_)) ∧ k_ ≠ g) ∧ some k_ ≠ (.slice Ao16 y224.length co16 : Value).ownBlock)) (by (with_reducible repeat (first | apply ybq | apply ybr | apply ybs)); exact HO_1.out) (fun k_ hk_ => (⟨hk_, hk_.1.2⟩ : _ ∧ k_ ≠ g))) hk (fun _ h => h.2)) (fun _ h => h.1)); have n1_ := zaa.mk (Kd.R_mono (Kd.R_keep (zaf.apart (show zaf w0 _ g s0_0 t223 from by repeat (first | (with_reducible first | exact HI0.out | apply zaf.alloc | apply zaf.drewN | apply zaf.drew | apply zaf.set_1) | exact HI0.out)) (by (with_reducible repeat (first | apply ybn | apply ybo | apply ybp)); exact HO226.out) (by decide)) hk (fun _ h => h.2)) (fun _ h => h.1)); have n2_ := zaa.mk (zai.trans (by repeat (first | (with_reducible first | exact HK.out | apply zai.set_ | apply zal | apply zaq | apply zam) | exact HK.out)) hk (.inl rfl)); have n3_ := zaa.mk (hb); have n4_ := zaa.mk (hi); clear HO_1; clear HO226; clear HK; clear HB; clear HI0; have HO_1 := n0_; have HO226 := n1_; have HK := n2_; have HB := n3_; have HI0 := n4_; clear n0_ n1_ n2_ n3_ n4_; (try clear hb); (try clear hb2); (try clear hk); (try clear hi)) | ((with_reducible refine zah (f := 58) rfl ?_); refine zaz (some 27) rfl rfl Try.func58 (by kernel_rfl) rfl #[.pointer (some ⟨g, 0, none⟩), .int .i64 3] rfl (by (try simp only [ybd, ybe, ybf]); first | done | rfl | (simp only [ybh, ybg]; rfl)) ?_; (with_reducible refine (spec_l6Rd_pick.calls k1 g s0_0 t228 3 t229 t230 w0 _ ?side1 ?side2 A8.out).mono ?_); (case side1 => repeat (first | (with_reducible first | exact HI0.out | apply zaf.alloc | apply zaf.drewN | apply zaf.drew | apply zaf.set_1) | exact HI0.out)); (case side2 => repeat (first | (with_reducible first | exact HB.out | apply zac | apply zab | apply zad | refine zan ?_ (zaf.ge HI0.out)) | exact HB.out)); rintro e w18 ⟨rfl, hi, hb, hk⟩; refine ⟨_, rfl, ?_⟩; have n0_ := zaa.mk (Kd.V_mono (Kd.V_keep (Kd.V_mono (ok := fun k_ => ((((P1_ k_ ∨ w.heap.size ≤ k_)) ∧ k_ ≠ g) ∧ some k_ ≠ (.slice Ao16 y224.length co16 : Value).ownBlock)) (by (with_reducible repeat (first | apply ybq | apply ybr | apply ybs)); exact HO_1.out) (fun k_ hk_ => (⟨hk_, hk_.1.2⟩ : _ ∧ k_ ≠ g))) hk (fun _ h => h.2)) (fun _ h => h.1)); have n1_ := zaa.mk (Kd.R_mono (Kd.R_keep (zaf.apart (show zaf w0 _ g s0_0 t228 from by repeat (first | (with_reducible first | exact HI0.out | apply zaf.alloc | apply zaf.drewN | apply zaf.drew | apply zaf.set_1) | exact HI0.out)) (by (with_reducible repeat (first | apply ybn | apply ybo | apply ybp)); exact HO226.out) (by decide)) hk (fun _ h => h.2)) (fun _ h => h.1)); have n2_ := zaa.mk (zai.trans (by repeat (first | (with_reducible first | exact HK.out | apply zai.set_ | apply zal | apply zaq | apply zam) | exact HK.out)) hk (.inl rfl)); have n3_ := zaa.mk (hb); have n4_ := zaa.mk (hi); clear HO_1; clear HO226; clear HK; clear HB; clear HI0; have HO_1 := n0_; have HO226 := n1_; have HK := n2_; have HB := n3_; have HI0 := n4_; clear n0_ n1_ n2_ n3_ n4_; (try clear hb); (try clear hb2); (try clear hk); (try clear hi)) | ((with_reducible refine zah (f := 121) rfl ?_); refine zaz (some 29) rfl rfl Try.func121 (by kernel_rfl) rfl #[.slice Ao11 x1_1.length co11, .int .i64 t222, .string t227, .int .i64 (wrap64 (1 + t229))] rfl (by (try simp only [ybd, ybe, ybf]); first | done | rfl | (simp only [ybh, ybg]; rfl)) ?_; (with_reducible refine (spec_PlanSplit.calls k1 _ _ x1_1 t222 t227 (wrap64 (1 + t229)) t231 true _ ?side1 ?side2 A9.out).mono ?_); (case side1 => repeat (first | exact (Kd.V_reads' HO_1.out).2.2 | (with_reducible refine ybt ?_ _) | (with_reducible refine ybu ?_ _) | (with_reducible refine ybv ?_))); (case side2 => exact (Kd.V_reads' HO_1.out).2.1); rintro e w19 ⟨v233, rfl, ho0, hb⟩; refine ⟨_, rfl, ?_⟩; have n0_ := zaa.mk (Kd.V_elder' (by (with_reducible repeat (first | apply ybq | apply ybr | apply ybs)); exact HO_1.out) (Kd.R_base ho0) hb); have n1_ := zaa.mk (Kd.R_elder' (by (with_reducible repeat (first | apply ybn | apply ybo | apply ybp)); exact HO226.out) (Kd.R_base ho0) hb); have n2_ := zaa.mk (Kd.R_lower (Kd.R_new' (Kd.R_newM (M := fun k_ => (w.heap.size ≤ k_)) ho0 (zbg (w := w) (g := g) (row := none) (by repeat (first | (with_reducible first | exact HK.out | apply zai.set_ | apply zal | apply zaq | apply zam) | exact HK.out))) (fun k_ h_ => h_)) (Kd.R_lt (by (with_reducible repeat (first | apply ybn | apply ybo | apply ybp)); exact HO226.out))) (zbg (w := w) (g := g) (row := none) (by repeat (first | (with_reducible first | exact HK.out | apply zai.set_ | apply zal | apply zaq | apply zam) | exact HK.out)))); have n3_ := zaa.mk (zaf.below (by repeat (first | (with_reducible first | exact HI0.out | apply zaf.alloc | apply zaf.drewN | apply zaf.drew | apply zaf.set_1) | exact HI0.out)) hb); have n4_ := zaa.mk (zai.trans (by repeat (first | (with_reducible first | exact HK.out | apply zai.set_ | apply zal | apply zaq | apply zam) | exact HK.out)) (zai.of_below hb g none) (.inl rfl)); have n5_ := zaa.mk (zae (by repeat (first | (with_reducible first | exact HB.out | apply zac | apply zab | apply zad | refine zan ?_ (zaf.ge HI0.out)) | exact HB.out)) hb); clear HO_1; clear HO226; clear HI0; clear HK; clear HB; have HO_1 := n0_; have HO226 := n1_; have HO234 := n2_; have HI0 := n3_; have HK := n4_; have HB := n5_; clear n0_ n1_ n2_ n3_ n4_ n5_; (try clear hb); (try clear hb2); (try clear hk); (try clear hi); (try clear ho0)))
     go_roundg k1
     case measure => have := HK1.out; omega
     case rel => exact ⟨(t231), (wrap64 (x7_1 + 1)), (t230), (by first | rfl | (simp; done) | (simp [*]; done)), H', ⟨by have := HK1.out; omega⟩, ⟨Kd.V_mono (Kd.R_V (by (with_reducible repeat (first | apply ybn | apply ybo | apply ybp)); exact Kd.R_mono (ok' := fun k_ => w.heap.size ≤ k_ ∧ k_ ≠ g) (zaf.apart HI0.out HO234.out (by decide)) (fun _ hk => ⟨by first | exact hk.1.1.1 | exact hk.1.1.2 | exact hk.1.2 | exact hk.1.1, hk.2⟩))) (fun k_ hk => by first | exact ⟨(.inr (hk.1)), hk.2⟩ | exact (.inr (hk)))⟩, ⟨by repeat (first | (with_reducible first | exact HI0.out | apply zaf.alloc | apply zaf.drewN | apply zaf.drew | apply zaf.set_1) | exact HI0.out)⟩, ⟨by repeat (first | (with_reducible first | exact HK.out | apply zai.set_ | apply zal | apply zaq | apply zam) | exact HK.out)⟩, ⟨by repeat (first | (with_reducible first | exact HB.out | apply zac | apply zab | apply zad | refine zan ?_ (zaf.ge HI0.out)) | exact HB.out)⟩⟩
    ·replace c10 := Bool.eq_false_iff.mpr c10
     subst c10
     have H1 : (spec_l91Cut.l0 k1 x1_1 a2 (wrap64 (x7_1 + 1)) s0_0 t230) = some (r1, r2) := by rw [if_neg (show ¬ (false = true) by decide)] at H; exact H
     clear H
     have H := H1
     clear H1
     have H' := zaa.mk H
     clear H
     obtain ⟨Ao20, co20, eo20⟩ := Kd.V_slice HO_1.out
     subst eo20
     go_wp2_with (first | ((with_reducible refine zah (f := 87) rfl ?_); refine zaz (some 18) rfl rfl Try.func87 (by kernel_rfl) rfl #[.slice Ao20 x1_1.length co20] rfl (by (try simp only [ybd, ybe, ybf]); first | done | rfl | (simp only [ybh, ybg]; rfl)) ?_; (with_reducible refine (spec_l1Rooms.calls k1 _ _ x1_1 t221 _ ?side1 ?side2 A5.out).mono ?_); (case side1 => repeat (first | exact (Kd.V_reads' HO_1.out).2.2 | (with_reducible refine ybt ?_ _) | (with_reducible refine ybu ?_ _) | (with_reducible refine ybv ?_))); (case side2 => exact (Kd.V_reads' HO_1.out).2.1); rintro e w21 ⟨rfl, hb⟩; refine ⟨_, rfl, ?_⟩; have n0_ := zaa.mk (Kd.V_below (by (with_reducible repeat (first | apply ybq | apply ybr | apply ybs)); exact HO_1.out) hb); have n1_ := zaa.mk (zaf.below (by repeat (first | (with_reducible first | exact HI0.out | apply zaf.alloc | apply zaf.drewN | apply zaf.drew | apply zaf.set_1) | exact HI0.out)) hb); have n2_ := zaa.mk (zai.trans (by repeat (first | (with_reducible first | exact HK.out | apply zai.set_ | apply zal | apply zaq | apply zam) | exact HK.out)) (zai.of_below hb g none) (.inl rfl)); have n3_ := zaa.mk (zae (by repeat (first | (with_reducible first | exact HB.out | apply zac | apply zab | apply zad | refine zan ?_ (zaf.ge HI0.out)) | exact HB.out)) hb); clear HO_1; clear HI0; clear HK; clear HB; have HO_1 := n0_; have HI0 := n1_; have HK := n2_; have HB := n3_; clear n0_ n1_ n2_ n3_; (try clear hb); (try clear hb2); (try clear hk); (try clear hi)) | ((with_reducible refine zah (f := 58) rfl ?_); refine zaz (some 19) rfl rfl Try.func58 (by kernel_rfl) rfl #[.pointer (some ⟨g, 0, none⟩), .int .i64 t221] rfl (by (try simp only [ybd, ybe, ybf]); first | done | rfl | (simp only [ybh, ybg]; rfl)) ?_; (with_reducible refine (spec_l6Rd_pick.calls k1 g s0_0 x1001_1 t221 t222 t223 w0 _ ?side1 ?side2 A6.out).mono ?_); (case side1 => repeat (first | (with_reducible first | exact HI0.out | apply zaf.alloc | apply zaf.drewN | apply zaf.drew | apply zaf.set_1) | exact HI0.out)); (case side2 => repeat (first | (with_reducible first | exact HB.out | apply zac | apply zab | apply zad | refine zan ?_ (zaf.ge HI0.out)) | exact HB.out)); rintro e w22 ⟨rfl, hi, hb, hk⟩; refine ⟨_, rfl, ?_⟩; have n0_ := zaa.mk (Kd.V_mono (Kd.V_keep (Kd.V_mono (ok := fun k_ => (((P1_ k_ ∨ w.heap.size ≤ k_)) ∧ k_ ≠ g)) (by (with_reducible repeat (first | apply ybq | apply ybr | apply ybs)); exact HO_1.out) (fun k_ hk_ => (⟨hk_, hk_.2⟩ : _ ∧ k_ ≠ g))) hk (fun _ h => h.2)) (fun _ h => h.1)); have n1_ := zaa.mk (zai.trans (by repeat (first | (with_reducible first | exact HK.out | apply zai.set_ | apply zal | apply zaq | apply zam) | exact HK.out)) hk (.inl rfl)); have n2_ := zaa.mk (hb); have n3_ := zaa.mk (hi); clear HO_1; clear HK; clear HB; clear HI0; have HO_1 := n0_; have HK := n1_; have HB := n2_; have HI0 := n3_; clear n0_ n1_ n2_ n3_; (try clear hb); (try clear hb2); (try clear hk); (try clear hi)) | ((with_reducible refine zbb (N := 24) rfl ?_); refine Kd.R_lit Kd.string _ 9 ?hg (N := 24) ?hd (xs := ([(⟨#[104]⟩ : ByteArray), (⟨#[118]⟩ : ByteArray)] : List ByteArray)) (inner := [.string (⟨#[104]⟩ : ByteArray), .string (⟨#[118]⟩ : ByteArray)]) (ok := fun _ => True) (okp := fun _ => True) ?hr ?hp (fun _ hk => hk) trivial (Below.refl _ _) (ybm _) (by simp) ?_; (case hd => rfl); (case hg => rfl); (case hr => first | (go_simp; done) | (go_simp; rfl)); (case hp => exact (Reps.one (show Kd.M Kd.string _ _ _ (⟨#[104]⟩ : ByteArray) [.string (⟨#[104]⟩ : ByteArray)] from rfl) (Reps.one (show Kd.M Kd.string _ _ _ (⟨#[118]⟩ : ByteArray) [.string (⟨#[118]⟩ : ByteArray)] from rfl) (Reps.none _ _)))); intro v225 w23 ho24 hb hg_ hnew_; clear hg_ hnew_; (first | rw [← Ny224.out] at ho24 | (simp only [Int.reduceToNat] at ho24; rw [← Ny224.out] at ho24)); have n0_ := zaa.mk (Kd.V_elder' (by (with_reducible repeat (first | apply ybq | apply ybr | apply ybs)); exact HO_1.out) (Kd.R_base ho24) hb); have n1_ := zaa.mk (Kd.R_lower (Kd.R_newM (M := fun k_ => (w.heap.size ≤ k_)) ho24 (zbg (w := w) (g := g) (row := none) (by repeat (first | (with_reducible first | exact HK.out | apply zai.set_ | apply zal | apply zaq | apply zam) | exact HK.out))) (fun k_ h_ => h_)) (zbg (w := w) (g := g) (row := none) (by repeat (first | (with_reducible first | exact HK.out | apply zai.set_ | apply zal | apply zaq | apply zam) | exact HK.out)))); have n2_ := zaa.mk (zaf.below (by repeat (first | (with_reducible first | exact HI0.out | apply zaf.alloc | apply zaf.drewN | apply zaf.drew | apply zaf.set_1) | exact HI0.out)) hb); have n3_ := zaa.mk (zai.trans (by repeat (first | (with_reducible first | exact HK.out | apply zai.set_ | apply zal | apply zaq | apply zam) | exact HK.out)) (zai.of_below hb g none) (.inl rfl)); have n4_ := zaa.mk (zae (by repeat (first | (with_reducible first | exact HB.out | apply zac | apply zab | apply zad | refine zan ?_ (zaf.ge HI0.out)) | exact HB.out)) hb); clear HO_1; clear HI0; clear HK; clear HB; have HO_1 := n0_; have HO226 := n1_; have HI0 := n2_; have HK := n3_; have HB := n4_; clear n0_ n1_ n2_ n3_ n4_; clear hb ho24; obtain ⟨Ao25, co25, eo25⟩ := Kd.R_slice HO226.out; subst eo25) | ((with_reducible refine zah (f := 122) rfl ?_); refine zaz (some 25) rfl rfl Try.func122 (by kernel_rfl) rfl #[.pointer (some ⟨g, 0, none⟩), .slice Ao25 y224.length co25] rfl (by (try simp only [ybd, ybe, ybf]); first | done | rfl | (simp only [ybh, ybg]; rfl)) ?_; (with_reducible refine (spec_l6Rd_of.calls k1 g s0_0 t223 _ _ y224 t227 t228 w0 _ ?side1 ?side2 ?side3 ?side4 ?side5 A7.out).mono ?_); (case side1 => repeat (first | (with_reducible first | exact HI0.out | apply zaf.alloc | apply zaf.drewN | apply zaf.drew | apply zaf.set_1) | exact HI0.out)); (case side2 => repeat (first | (with_reducible first | exact HB.out | apply zac | apply zab | apply zad | refine zan ?_ (zaf.ge HI0.out)) | exact HB.out)); (case side3 => repeat (first | exact (Kd.R_reads' HO226.out).2.2 | (with_reducible refine ybt ?_ _) | (with_reducible refine ybu ?_ _) | (with_reducible refine ybv ?_))); (case side4 => exact (Kd.R_reads' HO226.out).2.1); (case side5 => exact far_slice (zaf.own_ne HI0.out HO226.out (by decide))); rintro e w26 ⟨rfl, hi, hb, hk⟩; refine ⟨_, rfl, ?_⟩; have n0_ := zaa.mk (Kd.V_mono (Kd.V_keep (Kd.V_mono (ok := fun k_ => ((((P1_ k_ ∨ w.heap.size ≤ k_)) ∧ k_ ≠ g) ∧ some k_ ≠ (.slice Ao25 y224.length co25 : Value).ownBlock)) (by (with_reducible repeat (first | apply ybq | apply ybr | apply ybs)); exact HO_1.out) (fun k_ hk_ => (⟨hk_, hk_.1.2⟩ : _ ∧ k_ ≠ g))) hk (fun _ h => h.2)) (fun _ h => h.1)); have n1_ := zaa.mk (Kd.R_mono (Kd.R_keep (zaf.apart (show zaf w0 _ g s0_0 t223 from by repeat (first | (with_reducible first | exact HI0.out | apply zaf.alloc | apply zaf.drewN | apply zaf.drew | apply zaf.set_1) | exact HI0.out)) (by (with_reducible repeat (first | apply ybn | apply ybo | apply ybp)); exact HO226.out) (by decide)) hk (fun _ h => h.2)) (fun _ h => h.1)); have n2_ := zaa.mk (zai.trans (by repeat (first | (with_reducible first | exact HK.out | apply zai.set_ | apply zal | apply zaq | apply zam) | exact HK.out)) hk (.inl rfl)); have n3_ := zaa.mk (hb); have n4_ := zaa.mk (hi); clear HO_1; clear HO226; clear HK; clear HB; clear HI0; have HO_1 := n0_; have HO226 := n1_; have HK := n2_; have HB := n3_; have HI0 := n4_; clear n0_ n1_ n2_ n3_ n4_; (try clear hb); (try clear hb2); (try clear hk); (try clear hi)) | ((with_reducible refine zah (f := 58) rfl ?_); refine zaz (some 27) rfl rfl Try.func58 (by kernel_rfl) rfl #[.pointer (some ⟨g, 0, none⟩), .int .i64 3] rfl (by (try simp only [ybd, ybe, ybf]); first | done | rfl | (simp only [ybh, ybg]; rfl)) ?_; (with_reducible refine (spec_l6Rd_pick.calls k1 g s0_0 t228 3 t229 t230 w0 _ ?side1 ?side2 A8.out).mono ?_); (case side1 => repeat (first | (with_reducible first | exact HI0.out | apply zaf.alloc | apply zaf.drewN | apply zaf.drew | apply zaf.set_1) | exact HI0.out)); (case side2 => repeat (first | (with_reducible first | exact HB.out | apply zac | apply zab | apply zad | refine zan ?_ (zaf.ge HI0.out)) | exact HB.out)); rintro e w27 ⟨rfl, hi, hb, hk⟩; refine ⟨_, rfl, ?_⟩; have n0_ := zaa.mk (Kd.V_mono (Kd.V_keep (Kd.V_mono (ok := fun k_ => ((((P1_ k_ ∨ w.heap.size ≤ k_)) ∧ k_ ≠ g) ∧ some k_ ≠ (.slice Ao25 y224.length co25 : Value).ownBlock)) (by (with_reducible repeat (first | apply ybq | apply ybr | apply ybs)); exact HO_1.out) (fun k_ hk_ => (⟨hk_, hk_.1.2⟩ : _ ∧ k_ ≠ g))) hk (fun _ h => h.2)) (fun _ h => h.1)); have n1_ := zaa.mk (Kd.R_mono (Kd.R_keep (zaf.apart (show zaf w0 _ g s0_0 t228 from by repeat (first | (with_reducible first | exact HI0.out | apply zaf.alloc | apply zaf.drewN | apply zaf.drew | apply zaf.set_1) | exact HI0.out)) (by (with_reducible repeat (first | apply ybn | apply ybo | apply ybp)); exact HO226.out) (by decide)) hk (fun _ h => h.2)) (fun _ h => h.1)); have n2_ := zaa.mk (zai.trans (by repeat (first | (with_reducible first | exact HK.out | apply zai.set_ | apply zal | apply zaq | apply zam) | exact HK.out)) hk (.inl rfl)); have n3_ := zaa.mk (hb); have n4_ := zaa.mk (hi); clear HO_1; clear HO226; clear HK; clear HB; clear HI0; have HO_1 := n0_; have HO226 := n1_; have HK := n2_; have HB := n3_; have HI0 := n4_; clear n0_ n1_ n2_ n3_ n4_; (try clear hb); (try clear hb2); (try clear hk); (try clear hi)) | ((with_reducible refine zah (f := 121) rfl ?_); refine zaz (some 29) rfl rfl Try.func121 (by kernel_rfl) rfl #[.slice Ao20 x1_1.length co20, .int .i64 t222, .string t227, .int .i64 (wrap64 (1 + t229))] rfl (by (try simp only [ybd, ybe, ybf]); first | done | rfl | (simp only [ybh, ybg]; rfl)) ?_; (with_reducible refine (spec_PlanSplit.calls k1 _ _ x1_1 t222 t227 (wrap64 (1 + t229)) t231 false _ ?side1 ?side2 A9.out).mono ?_); (case side1 => repeat (first | exact (Kd.V_reads' HO_1.out).2.2 | (with_reducible refine ybt ?_ _) | (with_reducible refine ybu ?_ _) | (with_reducible refine ybv ?_))); (case side2 => exact (Kd.V_reads' HO_1.out).2.1); rintro e w28 ⟨v233, rfl, ho0, hb⟩; refine ⟨_, rfl, ?_⟩; have n0_ := zaa.mk (Kd.V_elder' (by (with_reducible repeat (first | apply ybq | apply ybr | apply ybs)); exact HO_1.out) (Kd.R_base ho0) hb); have n1_ := zaa.mk (Kd.R_elder' (by (with_reducible repeat (first | apply ybn | apply ybo | apply ybp)); exact HO226.out) (Kd.R_base ho0) hb); have n2_ := zaa.mk (Kd.R_lower (Kd.R_new' (Kd.R_newM (M := fun k_ => (w.heap.size ≤ k_)) ho0 (zbg (w := w) (g := g) (row := none) (by repeat (first | (with_reducible first | exact HK.out | apply zai.set_ | apply zal | apply zaq | apply zam) | exact HK.out))) (fun k_ h_ => h_)) (Kd.R_lt (by (with_reducible repeat (first | apply ybn | apply ybo | apply ybp)); exact HO226.out))) (zbg (w := w) (g := g) (row := none) (by repeat (first | (with_reducible first | exact HK.out | apply zai.set_ | apply zal | apply zaq | apply zam) | exact HK.out)))); have n3_ := zaa.mk (zaf.below (by repeat (first | (with_reducible first | exact HI0.out | apply zaf.alloc | apply zaf.drewN | apply zaf.drew | apply zaf.set_1) | exact HI0.out)) hb); have n4_ := zaa.mk (zai.trans (by repeat (first | (with_reducible first | exact HK.out | apply zai.set_ | apply zal | apply zaq | apply zam) | exact HK.out)) (zai.of_below hb g none) (.inl rfl)); have n5_ := zaa.mk (zae (by repeat (first | (with_reducible first | exact HB.out | apply zac | apply zab | apply zad | refine zan ?_ (zaf.ge HI0.out)) | exact HB.out)) hb); clear HO_1; clear HO226; clear HI0; clear HK; clear HB; have HO_1 := n0_; have HO226 := n1_; have HO234 := n2_; have HI0 := n3_; have HK := n4_; have HB := n5_; clear n0_ n1_ n2_ n3_ n4_ n5_; (try clear hb); (try clear hb2); (try clear hk); (try clear hi); (try clear ho0)))
     go_roundg k1
     case measure => have := HK1.out; omega
     case rel => exact ⟨(x1_1), (wrap64 (x7_1 + 1)), (t230), (by first | rfl | (simp; done) | (simp [*]; done)), H', ⟨by have := HK1.out; omega⟩, ⟨by (with_reducible repeat (first | apply ybq | apply ybr | apply ybs)); exact Kd.V_mono HO_1.out (fun _ hk => ⟨hk.1.1.1, hk.1.1.2⟩)⟩, ⟨by repeat (first | (with_reducible first | exact HI0.out | apply zaf.alloc | apply zaf.drewN | apply zaf.drew | apply zaf.set_1) | exact HI0.out)⟩, ⟨by repeat (first | (with_reducible first | exact HK.out | apply zai.set_ | apply zal | apply zaq | apply zam) | exact HK.out)⟩, ⟨by repeat (first | (with_reducible first | exact HB.out | apply zac | apply zab | apply zad | refine zan ?_ (zaf.ge HI0.out)) | exact HB.out)⟩⟩
   ·rw [if_neg c4] at H
    have c4b0 : decide (x7_1 < a2) = false := decide_eq_false c4
    clear c4
    simp only [Option.some.injEq, Prod.mk.injEq] at H
    obtain ⟨rfl, rfl⟩ := H
    go_wp2
    go_ret
    exact ⟨_, by first | rfl | (simp [zap, zao] <;> rfl) | (simp [*, zap, zao] <;> rfl), by (with_reducible repeat (first | apply ybq | apply ybr | apply ybs)); exact Kd.V_mono HO_1.out (fun _ hk => hk.1), by repeat (first | (with_reducible first | exact HI0.out | apply zaf.alloc | apply zaf.drewN | apply zaf.drew | apply zaf.set_1) | exact HI0.out), by repeat (first | (with_reducible first | exact HB.out | apply zac | apply zab | apply zad | refine zan ?_ (zaf.ge HI0.out)) | exact HB.out), by repeat (first | (with_reducible first | exact HK.out | apply zai.set_ | apply zal | apply zaq | apply zam) | exact HK.out)⟩
mutual
def spec_l91Plan.j0 : Nat → Int → Int → Bool → List Int → Int → Option (List ByteArray × Int)
 | 0, _, _, _, _, _ => none
 | k + 1, x1, x2, x17, x1000, x1001 => if x17 = true then ((spec_l6Rd_pick.f k x1000 x1001 2).bind fun bt252 => ((spec_l91Cut.f k x1000 bt252.2 (([(⟨#[97, 97, 98]⟩ : ByteArray), (⟨#[99, 100, 98]⟩ : ByteArray), (⟨#[99, 101, 101]⟩ : ByteArray)] : List ByteArray)) bt252.1).bind fun bt254 => (some (bt254.1, bt254.2)))) else (if x1 = 4 then (if x2 = 4 then ((spec_l6Rd_pick.f k x1000 x1001 2).bind fun bt258 => (spec_l91Plan.j1 k x1 x2 (bt258.1 == 0) x1000 bt258.2)) else (spec_l91Plan.j1 k x1 x2 false x1000 x1001)) else (spec_l91Plan.j1 k x1 x2 false x1000 x1001))
def spec_l91Plan.j1 : Nat → Int → Int → Bool → List Int → Int → Option (List ByteArray × Int)
 | 0, _, _, _, _, _ => none
 | k + 1, x1, x2, x33, x1000, x1001 => if x33 = true then ((spec_l6Rd_pick.f k x1000 x1001 4).bind fun bt263 => ((spec_l91Cut.f k x1000 bt263.2 (([(⟨#[97, 97, 97, 98]⟩ : ByteArray), (⟨#[99, 100, 100, 98]⟩ : ByteArray), (⟨#[99, 100, 100, 98]⟩ : ByteArray), (⟨#[99, 101, 101, 101]⟩ : ByteArray)] : List ByteArray)) bt263.1).bind fun bt265 => (some (bt265.1, bt265.2)))) else ((spec_l91Empty.f k x1 x2).bind fun t269 => ((spec_l6Rd_pick.f k x1000 x1001 9).bind fun bt272 => ((spec_l91Cut.f k x1000 bt272.2 t269 bt272.1).bind fun bt274 => (some (bt274.1, bt274.2)))))
end
def spec_l91Plan.f (k : Nat) (s0_0 : List Int) (s0_1 : Int) (a1 : Int) (a2 : Int) : Option (List ByteArray × Int) := if a1 = 3 then (if a2 = 3 then ((spec_l6Rd_pick.f k s0_0 s0_1 2).bind fun bt247 => (spec_l91Plan.j0 k a1 a2 (bt247.1 == 0) s0_0 bt247.2)) else (spec_l91Plan.j0 k a1 a2 false s0_0 s0_1)) else (spec_l91Plan.j0 k a1 a2 false s0_0 s0_1)
set_option maxHeartbeats 8000000 in
set_option maxRecDepth 100000 in
theorem spec_l91Plan.calls (k : Nat) (g : Nat) (s0_0 : List Int) (s0_1 : Int) (a1 : Int) (a2 : Int) (r1 : List ByteArray) (r2 : Int) (w0 w : World) (hI : zaf w0 w g s0_0 s0_1) (hB : Below w0.heap.size w0 w) (h : spec_l91Plan.f k s0_0 s0_1 a1 a2 = some (r1, r2)) :
  Calls Try.prog 94 #[.pointer (some ⟨g, 0, none⟩), .int .i64 a1, .int .i64 a2] w fun e w' => ∃ v0_ : Value, e = .returned (v0_) ∧ Kd.V Kd.string 9 w' w.heap.size (fun k_ => (w.heap.size ≤ k_)) v0_ r1 ∧ zaf w0 w' g s0_0 r2 ∧ Below w0.heap.size w0 w' ∧ zai w w' g none := by
 have HI0 := zaa.mk hI
 have HK := zaa.mk (zai.refl w g none)
 have HL := zaa.mk hB.size
 clear hI
 have HW0 := zaa.mk hB.size
 have HB := zaa.mk hB
 clear hB
 have H : (if a1 = 3 then (if a2 = 3 then ((spec_l6Rd_pick.f k s0_0 s0_1 2).bind fun bt247 => (spec_l91Plan.j0 k a1 a2 (bt247.1 == 0) s0_0 bt247.2)) else (spec_l91Plan.j0 k a1 a2 false s0_0 s0_1)) else (spec_l91Plan.j0 k a1 a2 false s0_0 s0_1)) = some (r1, r2) := h
 clear h
 have HC4 := zaa.mk H
 clear H
 go_enter Try.func94, Try.ntmps94
 go_upto_region 1 with (fail)
 go_cut [17] (fun v17 wc => ∃ (kq : Nat) (x17_3 : Bool) (x1001_3 : Int), v17 = .bool x17_3 ∧ zaa (spec_l91Plan.j0 kq a1 a2 x17_3 s0_0 x1001_3 = some (r1, r2)) ∧ zaa (kq ≤ k) ∧ zaa (zaf w0 wc g s0_0 x1001_3) ∧ zaa (zai w wc g none) ∧ zaa (Below w0.heap.size w0 wc))
 case first =>
  have H := HC4.out
  clear HC4
  by_cases c5 : a1 = 3
  ·rw [if_pos c5] at H
   have c5b0 : (a1 == 3) = true := beq_iff_eq.mpr c5
   have c5b1 : (a1 != 3) = false := bne_eq_false_iff_eq.mpr c5
   clear c5
   (first | rw [c5b0] | (simp only [zau, zav]; rw [c5b0]) | skip)
   by_cases c6 : a2 = 3
   ·rw [if_pos c6] at H
    have c6b0 : (a2 == 3) = true := beq_iff_eq.mpr c6
    have c6b1 : (a2 != 3) = false := bne_eq_false_iff_eq.mpr c6
    clear c6
    replace H := ybk.mp H
    obtain ⟨⟨t247, t248⟩, A70, H⟩ := H
    replace H : (spec_l91Plan.j0 k a1 a2 (t247 == 0) s0_0 t248) = some (r1, r2) := H
    have A7 := zaa.mk A70
    clear A70
    have H' := zaa.mk H
    clear H
    go_wp2_with (first | (go_at_call 58; (with_reducible refine (spec_l6Rd_pick.calls k g s0_0 s0_1 2 t247 t248 w0 _ ?side1 ?side2 A7.out).mono ?_); (case side1 => repeat (first | (with_reducible first | exact HI0.out | apply zaf.alloc | apply zaf.drewN | apply zaf.drew | apply zaf.set_1) | exact HI0.out)); (case side2 => repeat (first | (with_reducible first | exact HB.out | apply zac | apply zab | apply zad | refine zan ?_ (zaf.ge HI0.out)) | exact HB.out)); rintro e w8 ⟨rfl, hi, hb, hk⟩; have n0_ := zaa.mk (zai.trans (by repeat (first | (with_reducible first | exact HK.out | apply zai.set_ | apply zal | apply zaq | apply zam) | exact HK.out)) hk (.inl rfl)); have n1_ := zaa.mk (hb); have n2_ := zaa.mk (hi); clear HK; clear HB; clear HI0; have HK := n0_; have HB := n1_; have HI0 := n2_; clear n0_ n1_ n2_; (try clear hb); (try clear hb2); (try clear hk); (try clear hi)))
    go_meet
    case rel => exact ⟨_, ((t247 == 0)), (t248), (by first | rfl | (simp; done) | (simp [*]; done)), H', ⟨by first | omega | exact ybm _⟩, ⟨by repeat (first | (with_reducible first | exact HI0.out | apply zaf.alloc | apply zaf.drewN | apply zaf.drew | apply zaf.set_1) | exact HI0.out)⟩, ⟨by repeat (first | (with_reducible first | exact HK.out | apply zai.set_ | apply zal | apply zaq | apply zam) | exact HK.out)⟩, ⟨by repeat (first | (with_reducible first | exact HB.out | apply zac | apply zab | apply zad | refine zan ?_ (zaf.ge HI0.out)) | exact HB.out)⟩⟩
   ·rw [if_neg c6] at H
    have c6b0 : (a2 == 3) = false := beq_eq_false_iff_ne.mpr c6
    have c6b1 : (a2 != 3) = true := bne_iff_ne.mpr c6
    have H' := zaa.mk H
    clear H
    go_wp2
    go_meet
    case rel => exact ⟨_, (false), (s0_1), (by first | rfl | (simp; done) | (simp [*]; done)), H', ⟨by first | omega | exact ybm _⟩, ⟨by repeat (first | (with_reducible first | exact HI0.out | apply zaf.alloc | apply zaf.drewN | apply zaf.drew | apply zaf.set_1) | exact HI0.out)⟩, ⟨by repeat (first | (with_reducible first | exact HK.out | apply zai.set_ | apply zal | apply zaq | apply zam) | exact HK.out)⟩, ⟨by repeat (first | (with_reducible first | exact HB.out | apply zac | apply zab | apply zad | refine zan ?_ (zaf.ge HI0.out)) | exact HB.out)⟩⟩
  ·rw [if_neg c5] at H
   have c5b0 : (a1 == 3) = false := beq_eq_false_iff_ne.mpr c5
   have c5b1 : (a1 != 3) = true := bne_iff_ne.mpr c5
   (first | rw [c5b0] | (simp only [zau, zav]; rw [c5b0]) | skip)
   have H' := zaa.mk H
   clear H
   go_wp2
   go_meet
   case rel => exact ⟨_, (false), (s0_1), (by first | rfl | (simp; done) | (simp [*]; done)), H', ⟨by first | omega | exact ybm _⟩, ⟨by repeat (first | (with_reducible first | exact HI0.out | apply zaf.alloc | apply zaf.drewN | apply zaf.drew | apply zaf.set_1) | exact HI0.out)⟩, ⟨by repeat (first | (with_reducible first | exact HK.out | apply zai.set_ | apply zal | apply zaq | apply zam) | exact HK.out)⟩, ⟨by repeat (first | (with_reducible first | exact HB.out | apply zac | apply zab | apply zad | refine zan ?_ (zaf.ge HI0.out)) | exact HB.out)⟩⟩
 case rest =>
  clear HC4
  try clear p2
  try clear c5
  try clear c5b0
  try clear c5b1
  try clear c6
  try clear c6b0
  try clear c6b1
  obtain ⟨kq, x17_3, x1001_3, rfl, HA, HJ3, HI0, HK, HB⟩ := hcut
  cases kq with
  | zero => exact absurd HA.out (by simp [spec_l91Plan.j0])
  | succ kj3 =>
   have H := HA.out
   clear HA
   simp only [spec_l91Plan.j0] at H
   by_cases c9 : x17_3 = true
   ·subst c9
    have H1 : ((spec_l6Rd_pick.f kj3 s0_0 x1001_3 2).bind fun bt252 => ((spec_l91Cut.f kj3 s0_0 bt252.2 (([(⟨#[97, 97, 98]⟩ : ByteArray), (⟨#[99, 100, 98]⟩ : ByteArray), (⟨#[99, 101, 101]⟩ : ByteArray)] : List ByteArray)) bt252.1).bind fun bt254 => (some (bt254.1, bt254.2)))) = some (r1, r2) := by rw [if_pos rfl] at H; exact H
    clear H
    have H := H1
    clear H1
    obtain ⟨y249, hy249⟩ : ∃ y_ : List ByteArray, y_ = (([(⟨#[97, 97, 98]⟩ : ByteArray), (⟨#[99, 100, 98]⟩ : ByteArray), (⟨#[99, 101, 101]⟩ : ByteArray)] : List ByteArray)) := ⟨_, rfl⟩
    replace H : ((spec_l6Rd_pick.f kj3 s0_0 x1001_3 2).bind fun bt252 => ((spec_l91Cut.f kj3 s0_0 bt252.2 y249 bt252.1).bind fun bt254 => (some (bt254.1, bt254.2)))) = some (r1, r2) := by first | (rw [hy249]; with_reducible exact H) | (have H2_ := (ybl _ _).symm.trans H; rw [hy249]; with_reducible exact H2_) | (have H2_ := (ybl _ _).symm.trans H; with_reducible exact H2_) | with_reducible exact H | (rw [hy249]; exact H) | exact H
    have Ny249 := zaa.mk hy249
    clear hy249
    replace H := ybk.mp H
    obtain ⟨⟨t252, t253⟩, A100, H⟩ := H
    replace H : ((spec_l91Cut.f kj3 s0_0 t253 y249 t252).bind fun bt254 => (some (bt254.1, bt254.2))) = some (r1, r2) := H
    have A10 := zaa.mk A100
    clear A100
    replace H := ybk.mp H
    obtain ⟨⟨t254, t257⟩, A110, H⟩ := H
    replace H : (some (t254, t257)) = some (r1, r2) := H
    have A11 := zaa.mk A110
    clear A110
    simp only [Option.some.injEq, Prod.mk.injEq] at H
    obtain ⟨rfl, rfl⟩ := H
    go_wp2_with (first | ((with_reducible refine zbb (N := 19) rfl ?_); refine Kd.R_lit Kd.string _ 9 ?hg (N := 19) ?hd (xs := ([(⟨#[97, 97, 98]⟩ : ByteArray), (⟨#[99, 100, 98]⟩ : ByteArray), (⟨#[99, 101, 101]⟩ : ByteArray)] : List ByteArray)) (inner := [.string (⟨#[97, 97, 98]⟩ : ByteArray), .string (⟨#[99, 100, 98]⟩ : ByteArray), .string (⟨#[99, 101, 101]⟩ : ByteArray)]) (ok := fun _ => True) (okp := fun _ => True) ?hr ?hp (fun _ hk => hk) trivial (Below.refl _ _) (ybm _) (by simp) ?_; (case hd => rfl); (case hg => rfl); (case hr => first | (go_simp; done) | (go_simp; rfl)); (case hp => exact (Reps.one (show Kd.M Kd.string _ _ _ (⟨#[97, 97, 98]⟩ : ByteArray) [.string (⟨#[97, 97, 98]⟩ : ByteArray)] from rfl) (Reps.one (show Kd.M Kd.string _ _ _ (⟨#[99, 100, 98]⟩ : ByteArray) [.string (⟨#[99, 100, 98]⟩ : ByteArray)] from rfl) (Reps.one (show Kd.M Kd.string _ _ _ (⟨#[99, 101, 101]⟩ : ByteArray) [.string (⟨#[99, 101, 101]⟩ : ByteArray)] from rfl) (Reps.none _ _))))); intro v250 w12 ho13 hb hg_ hnew_; clear hg_ hnew_; (first | rw [← Ny249.out] at ho13 | (simp only [Int.reduceToNat] at ho13; rw [← Ny249.out] at ho13)); have n0_ := zaa.mk (Kd.R_lower (Kd.R_newM (M := fun k_ => (w.heap.size ≤ k_)) ho13 (zbg (w := w) (g := g) (row := none) (by repeat (first | (with_reducible first | exact HK.out | apply zai.set_ | apply zal | apply zaq | apply zam) | exact HK.out))) (fun k_ h_ => h_)) (zbg (w := w) (g := g) (row := none) (by repeat (first | (with_reducible first | exact HK.out | apply zai.set_ | apply zal | apply zaq | apply zam) | exact HK.out)))); have n1_ := zaa.mk (zaf.below (by repeat (first | (with_reducible first | exact HI0.out | apply zaf.alloc | apply zaf.drewN | apply zaf.drew | apply zaf.set_1) | exact HI0.out)) hb); have n2_ := zaa.mk (zai.trans (by repeat (first | (with_reducible first | exact HK.out | apply zai.set_ | apply zal | apply zaq | apply zam) | exact HK.out)) (zai.of_below hb g none) (.inl rfl)); have n3_ := zaa.mk (zae (by repeat (first | (with_reducible first | exact HB.out | apply zac | apply zab | apply zad | refine zan ?_ (zaf.ge HI0.out)) | exact HB.out)) hb); clear HI0; clear HK; clear HB; have HO251 := n0_; have HI0 := n1_; have HK := n2_; have HB := n3_; clear n0_ n1_ n2_ n3_; clear hb ho13) | ((with_reducible refine zah (f := 58) rfl ?_); refine zaz (some 21) rfl rfl Try.func58 (by kernel_rfl) rfl #[.pointer (some ⟨g, 0, none⟩), .int .i64 2] rfl (by (try simp only [ybd, ybe, ybf]); first | done | rfl | (simp only [ybh, ybg]; rfl)) ?_; (with_reducible refine (spec_l6Rd_pick.calls kj3 g s0_0 x1001_3 2 t252 t253 w0 _ ?side1 ?side2 A10.out).mono ?_); (case side1 => repeat (first | (with_reducible first | exact HI0.out | apply zaf.alloc | apply zaf.drewN | apply zaf.drew | apply zaf.set_1) | exact HI0.out)); (case side2 => repeat (first | (with_reducible first | exact HB.out | apply zac | apply zab | apply zad | refine zan ?_ (zaf.ge HI0.out)) | exact HB.out)); rintro e w14 ⟨rfl, hi, hb, hk⟩; refine ⟨_, rfl, ?_⟩; have n0_ := zaa.mk (Kd.R_mono (Kd.R_keep (zaf.apart (show zaf w0 _ g s0_0 x1001_3 from by repeat (first | (with_reducible first | exact HI0.out | apply zaf.alloc | apply zaf.drewN | apply zaf.drew | apply zaf.set_1) | exact HI0.out)) (by (with_reducible repeat (first | apply ybn | apply ybo | apply ybp)); exact HO251.out) (by decide)) hk (fun _ h => h.2)) (fun _ h => h.1)); have n1_ := zaa.mk (zai.trans (by repeat (first | (with_reducible first | exact HK.out | apply zai.set_ | apply zal | apply zaq | apply zam) | exact HK.out)) hk (.inl rfl)); have n2_ := zaa.mk (hb); have n3_ := zaa.mk (hi); clear HO251; clear HK; clear HB; clear HI0; have HO251 := n0_; have HK := n1_; have HB := n2_; have HI0 := n3_; clear n0_ n1_ n2_ n3_; (try clear hb); (try clear hb2); (try clear hk); (try clear hi); obtain ⟨Ao15, co15, eo15⟩ := Kd.R_slice HO251.out; subst eo15) | ((with_reducible refine zah (f := 111) rfl ?_); refine zaz (some 22) rfl rfl Try.func111 (by kernel_rfl) rfl #[.pointer (some ⟨g, 0, none⟩), .slice Ao15 y249.length co15, .int .i64 t252] rfl (by (try simp only [ybd, ybe, ybf]); first | done | rfl | (simp only [ybh, ybg]; rfl)) ?_; (with_reducible refine (spec_l91Cut.calls kj3 g s0_0 t253 (fun k_ => some k_ = (.slice Ao15 y249.length co15 : Value).ownBlock) _ _ y249 t252 t254 t257 w0 _ ?side1 ?side2 ?side3 A11.out).mono ?_); (case side1 => repeat (first | (with_reducible first | exact HI0.out | apply zaf.alloc | apply zaf.drewN | apply zaf.drew | apply zaf.set_1) | exact HI0.out)); (case side2 => repeat (first | (with_reducible first | exact HB.out | apply zac | apply zab | apply zad | refine zan ?_ (zaf.ge HI0.out)) | exact HB.out)); (case side3 => exact Kd.V_mono (Kd.R_V (Kd.R_tight rfl (zaf.apart HI0.out (HO251.out) (by decide)))) (fun k_ hk_ => ⟨hk_, ((zaf.apart HI0.out (HO251.out) (by decide)).1 k_ hk_.symm).2⟩)); rintro e w16 ⟨v255, rfl, ho0, hi, hb, hk⟩; refine ⟨_, rfl, ?_⟩; have n0_ := zaa.mk (Kd.R_mono (Kd.R_keep (zaf.apart (show zaf w0 _ g s0_0 t253 from by repeat (first | (with_reducible first | exact HI0.out | apply zaf.alloc | apply zaf.drewN | apply zaf.drew | apply zaf.set_1) | exact HI0.out)) (by (with_reducible repeat (first | apply ybn | apply ybo | apply ybp)); exact HO251.out) (by decide)) hk (fun _ h => h.2)) (fun _ h => h.1)); have n1_ := zaa.mk (Kd.V_lower (Kd.V_mono (ok' := fun k_ => (w.heap.size ≤ k_) ∧ k_ ≠ g) ho0 (fun k_ hk_ => ⟨Or.elim hk_ (fun hs_ => ((zaf.apart HI0.out (HO251.out) (by decide)).1 k_ hs_.symm).1.1) (fun hn_ => (Nat.le_trans (zbg (w := w) (g := g) (row := none) (by repeat (first | (with_reducible first | exact HK.out | apply zai.set_ | apply zal | apply zaq | apply zam) | exact HK.out))) hn_)), Or.elim hk_ (fun hs_ => ((zaf.apart HI0.out (HO251.out) (by decide)).1 k_ hs_.symm).2) (fun hn_ => (zaf.fresh (by repeat (first | (with_reducible first | exact HI0.out | apply zaf.alloc | apply zaf.drewN | apply zaf.drew | apply zaf.set_1) | exact HI0.out)) k_ hn_))⟩)) (zbg (w := w) (g := g) (row := none) (by repeat (first | (with_reducible first | exact HK.out | apply zai.set_ | apply zal | apply zaq | apply zam) | exact HK.out)))); have n2_ := zaa.mk (zai.trans (by repeat (first | (with_reducible first | exact HK.out | apply zai.set_ | apply zal | apply zaq | apply zam) | exact HK.out)) hk (.inl rfl)); have n3_ := zaa.mk (hb); have n4_ := zaa.mk (hi); clear HO251; clear HK; clear HB; clear HI0; have HO251 := n0_; have HO256 := n1_; have HK := n2_; have HB := n3_; have HI0 := n4_; clear n0_ n1_ n2_ n3_ n4_; (try clear hb); (try clear hb2); (try clear hk); (try clear hi); (try clear ho0)))
    go_ret
    exact ⟨_, by first | rfl | (simp [zap, zao] <;> rfl) | (simp [*, zap, zao] <;> rfl), by (with_reducible repeat (first | apply ybq | apply ybr | apply ybs)); exact Kd.V_mono HO256.out (fun _ hk => hk.1), by repeat (first | (with_reducible first | exact HI0.out | apply zaf.alloc | apply zaf.drewN | apply zaf.drew | apply zaf.set_1) | exact HI0.out), by repeat (first | (with_reducible first | exact HB.out | apply zac | apply zab | apply zad | refine zan ?_ (zaf.ge HI0.out)) | exact HB.out), by repeat (first | (with_reducible first | exact HK.out | apply zai.set_ | apply zal | apply zaq | apply zam) | exact HK.out)⟩
   ·replace c9 := Bool.eq_false_iff.mpr c9
    subst c9
    have H1 : (if a1 = 4 then (if a2 = 4 then ((spec_l6Rd_pick.f kj3 s0_0 x1001_3 2).bind fun bt258 => (spec_l91Plan.j1 kj3 a1 a2 (bt258.1 == 0) s0_0 bt258.2)) else (spec_l91Plan.j1 kj3 a1 a2 false s0_0 x1001_3)) else (spec_l91Plan.j1 kj3 a1 a2 false s0_0 x1001_3)) = some (r1, r2) := by rw [if_neg (show ¬ (false = true) by decide)] at H; exact H
    clear H
    have H := H1
    clear H1
    have HC17 := zaa.mk H
    clear H
    go_upto_region 3 with (fail)
    go_cut [33] (fun v33 wc => ∃ (kq : Nat) (x33_16 : Bool) (x1001_16 : Int), v33 = .bool x33_16 ∧ zaa (spec_l91Plan.j1 kq a1 a2 x33_16 s0_0 x1001_16 = some (r1, r2)) ∧ zaa (kq ≤ kj3) ∧ zaa (zaf w0 wc g s0_0 x1001_16) ∧ zaa (zai w wc g none) ∧ zaa (Below w0.heap.size w0 wc))
    case first =>
     have H := HC17.out
     clear HC17
     by_cases c18 : a1 = 4
     ·rw [if_pos c18] at H
      have c18b0 : (a1 == 4) = true := beq_iff_eq.mpr c18
      have c18b1 : (a1 != 4) = false := bne_eq_false_iff_eq.mpr c18
      clear c18
      (first | rw [c18b0] | (simp only [zau, zav]; rw [c18b0]) | skip)
      by_cases c19 : a2 = 4
      ·rw [if_pos c19] at H
       have c19b0 : (a2 == 4) = true := beq_iff_eq.mpr c19
       have c19b1 : (a2 != 4) = false := bne_eq_false_iff_eq.mpr c19
       clear c19
       replace H := ybk.mp H
       obtain ⟨⟨t258, t259⟩, A200, H⟩ := H
       replace H : (spec_l91Plan.j1 kj3 a1 a2 (t258 == 0) s0_0 t259) = some (r1, r2) := H
       have A20 := zaa.mk A200
       clear A200
       have H' := zaa.mk H
       clear H
       go_wp2_with (first | (go_at_call 58; (with_reducible refine (spec_l6Rd_pick.calls kj3 g s0_0 x1001_3 2 t258 t259 w0 _ ?side1 ?side2 A20.out).mono ?_); (case side1 => repeat (first | (with_reducible first | exact HI0.out | apply zaf.alloc | apply zaf.drewN | apply zaf.drew | apply zaf.set_1) | exact HI0.out)); (case side2 => repeat (first | (with_reducible first | exact HB.out | apply zac | apply zab | apply zad | refine zan ?_ (zaf.ge HI0.out)) | exact HB.out)); rintro e w21 ⟨rfl, hi, hb, hk⟩; have n0_ := zaa.mk (zai.trans (by repeat (first | (with_reducible first | exact HK.out | apply zai.set_ | apply zal | apply zaq | apply zam) | exact HK.out)) hk (.inl rfl)); have n1_ := zaa.mk (hb); have n2_ := zaa.mk (hi); clear HK; clear HB; clear HI0; have HK := n0_; have HB := n1_; have HI0 := n2_; clear n0_ n1_ n2_; (try clear hb); (try clear hb2); (try clear hk); (try clear hi)))
       go_meet
       case rel => exact ⟨_, ((t258 == 0)), (t259), (by first | rfl | (simp; done) | (simp [*]; done)), H', ⟨by have := HJ3.out; first | omega | exact ybm _⟩, ⟨by repeat (first | (with_reducible first | exact HI0.out | apply zaf.alloc | apply zaf.drewN | apply zaf.drew | apply zaf.set_1) | exact HI0.out)⟩, ⟨by repeat (first | (with_reducible first | exact HK.out | apply zai.set_ | apply zal | apply zaq | apply zam) | exact HK.out)⟩, ⟨by repeat (first | (with_reducible first | exact HB.out | apply zac | apply zab | apply zad | refine zan ?_ (zaf.ge HI0.out)) | exact HB.out)⟩⟩
      ·rw [if_neg c19] at H
       have c19b0 : (a2 == 4) = false := beq_eq_false_iff_ne.mpr c19
       have c19b1 : (a2 != 4) = true := bne_iff_ne.mpr c19
       have H' := zaa.mk H
       clear H
       go_wp2
       go_meet
       case rel => exact ⟨_, (false), (x1001_3), (by first | rfl | (simp; done) | (simp [*]; done)), H', ⟨by have := HJ3.out; first | omega | exact ybm _⟩, ⟨by repeat (first | (with_reducible first | exact HI0.out | apply zaf.alloc | apply zaf.drewN | apply zaf.drew | apply zaf.set_1) | exact HI0.out)⟩, ⟨by repeat (first | (with_reducible first | exact HK.out | apply zai.set_ | apply zal | apply zaq | apply zam) | exact HK.out)⟩, ⟨by repeat (first | (with_reducible first | exact HB.out | apply zac | apply zab | apply zad | refine zan ?_ (zaf.ge HI0.out)) | exact HB.out)⟩⟩
     ·rw [if_neg c18] at H
      have c18b0 : (a1 == 4) = false := beq_eq_false_iff_ne.mpr c18
      have c18b1 : (a1 != 4) = true := bne_iff_ne.mpr c18
      (first | rw [c18b0] | (simp only [zau, zav]; rw [c18b0]) | skip)
      have H' := zaa.mk H
      clear H
      go_wp2
      go_meet
      case rel => exact ⟨_, (false), (x1001_3), (by first | rfl | (simp; done) | (simp [*]; done)), H', ⟨by have := HJ3.out; first | omega | exact ybm _⟩, ⟨by repeat (first | (with_reducible first | exact HI0.out | apply zaf.alloc | apply zaf.drewN | apply zaf.drew | apply zaf.set_1) | exact HI0.out)⟩, ⟨by repeat (first | (with_reducible first | exact HK.out | apply zai.set_ | apply zal | apply zaq | apply zam) | exact HK.out)⟩, ⟨by repeat (first | (with_reducible first | exact HB.out | apply zac | apply zab | apply zad | refine zan ?_ (zaf.ge HI0.out)) | exact HB.out)⟩⟩
    case rest =>
     clear HC17
     try clear c1
     try clear p2
     try clear c5
     try clear c5b0
     try clear c5b1
     try clear c6
     try clear c6b0
     try clear c6b1
     try clear c9
     try clear c11
     try clear c18
     try clear c18b0
     try clear c18b1
     try clear c19
     try clear c19b0
     try clear c19b1
     try clear p2
     obtain ⟨kq, x33_16, x1001_16, rfl, HA, HJ16, HI0, HK, HB⟩ := hcut
     cases kq with
     | zero => exact absurd HA.out (by simp [spec_l91Plan.j1])
     | succ kj16 =>
      have H := HA.out
      clear HA
      simp only [spec_l91Plan.j1] at H
      by_cases c22 : x33_16 = true
      ·subst c22
       have H1 : ((spec_l6Rd_pick.f kj16 s0_0 x1001_16 4).bind fun bt263 => ((spec_l91Cut.f kj16 s0_0 bt263.2 (([(⟨#[97, 97, 97, 98]⟩ : ByteArray), (⟨#[99, 100, 100, 98]⟩ : ByteArray), (⟨#[99, 100, 100, 98]⟩ : ByteArray), (⟨#[99, 101, 101, 101]⟩ : ByteArray)] : List ByteArray)) bt263.1).bind fun bt265 => (some (bt265.1, bt265.2)))) = some (r1, r2) := by rw [if_pos rfl] at H; exact H
       clear H
       have H := H1
       clear H1
       obtain ⟨y260, hy260⟩ : ∃ y_ : List ByteArray, y_ = (([(⟨#[97, 97, 97, 98]⟩ : ByteArray), (⟨#[99, 100, 100, 98]⟩ : ByteArray), (⟨#[99, 100, 100, 98]⟩ : ByteArray), (⟨#[99, 101, 101, 101]⟩ : ByteArray)] : List ByteArray)) := ⟨_, rfl⟩
       replace H : ((spec_l6Rd_pick.f kj16 s0_0 x1001_16 4).bind fun bt263 => ((spec_l91Cut.f kj16 s0_0 bt263.2 y260 bt263.1).bind fun bt265 => (some (bt265.1, bt265.2)))) = some (r1, r2) := by first | (rw [hy260]; with_reducible exact H) | (have H2_ := (ybl _ _).symm.trans H; rw [hy260]; with_reducible exact H2_) | (have H2_ := (ybl _ _).symm.trans H; with_reducible exact H2_) | with_reducible exact H | (rw [hy260]; exact H) | exact H
       have Ny260 := zaa.mk hy260
       clear hy260
       replace H := ybk.mp H
       obtain ⟨⟨t263, t264⟩, A230, H⟩ := H
       replace H : ((spec_l91Cut.f kj16 s0_0 t264 y260 t263).bind fun bt265 => (some (bt265.1, bt265.2))) = some (r1, r2) := H
       have A23 := zaa.mk A230
       clear A230
       replace H := ybk.mp H
       obtain ⟨⟨t265, t268⟩, A240, H⟩ := H
       replace H : (some (t265, t268)) = some (r1, r2) := H
       have A24 := zaa.mk A240
       clear A240
       simp only [Option.some.injEq, Prod.mk.injEq] at H
       obtain ⟨rfl, rfl⟩ := H
       go_wp2_with (first | ((with_reducible refine zbb (N := 35) rfl ?_); refine Kd.R_lit Kd.string _ 9 ?hg (N := 35) ?hd (xs := ([(⟨#[97, 97, 97, 98]⟩ : ByteArray), (⟨#[99, 100, 100, 98]⟩ : ByteArray), (⟨#[99, 100, 100, 98]⟩ : ByteArray), (⟨#[99, 101, 101, 101]⟩ : ByteArray)] : List ByteArray)) (inner := [.string (⟨#[97, 97, 97, 98]⟩ : ByteArray), .string (⟨#[99, 100, 100, 98]⟩ : ByteArray), .string (⟨#[99, 100, 100, 98]⟩ : ByteArray), .string (⟨#[99, 101, 101, 101]⟩ : ByteArray)]) (ok := fun _ => True) (okp := fun _ => True) ?hr ?hp (fun _ hk => hk) trivial (Below.refl _ _) (ybm _) (by simp) ?_; (case hd => rfl); (case hg => rfl); (case hr => first | (go_simp; done) | (go_simp; rfl)); (case hp => exact (Reps.one (show Kd.M Kd.string _ _ _ (⟨#[97, 97, 97, 98]⟩ : ByteArray) [.string (⟨#[97, 97, 97, 98]⟩ : ByteArray)] from rfl) (Reps.one (show Kd.M Kd.string _ _ _ (⟨#[99, 100, 100, 98]⟩ : ByteArray) [.string (⟨#[99, 100, 100, 98]⟩ : ByteArray)] from rfl) (Reps.one (show Kd.M Kd.string _ _ _ (⟨#[99, 100, 100, 98]⟩ : ByteArray) [.string (⟨#[99, 100, 100, 98]⟩ : ByteArray)] from rfl) (Reps.one (show Kd.M Kd.string _ _ _ (⟨#[99, 101, 101, 101]⟩ : ByteArray) [.string (⟨#[99, 101, 101, 101]⟩ : ByteArray)] from rfl) (Reps.none _ _)))))); intro v261 w25 ho26 hb hg_ hnew_; clear hg_ hnew_; (first | rw [← Ny260.out] at ho26 | (simp only [Int.reduceToNat] at ho26; rw [← Ny260.out] at ho26)); have n0_ := zaa.mk (Kd.R_lower (Kd.R_newM (M := fun k_ => (w.heap.size ≤ k_)) ho26 (zbg (w := w) (g := g) (row := none) (by repeat (first | (with_reducible first | exact HK.out | apply zai.set_ | apply zal | apply zaq | apply zam) | exact HK.out))) (fun k_ h_ => h_)) (zbg (w := w) (g := g) (row := none) (by repeat (first | (with_reducible first | exact HK.out | apply zai.set_ | apply zal | apply zaq | apply zam) | exact HK.out)))); have n1_ := zaa.mk (zaf.below (by repeat (first | (with_reducible first | exact HI0.out | apply zaf.alloc | apply zaf.drewN | apply zaf.drew | apply zaf.set_1) | exact HI0.out)) hb); have n2_ := zaa.mk (zai.trans (by repeat (first | (with_reducible first | exact HK.out | apply zai.set_ | apply zal | apply zaq | apply zam) | exact HK.out)) (zai.of_below hb g none) (.inl rfl)); have n3_ := zaa.mk (zae (by repeat (first | (with_reducible first | exact HB.out | apply zac | apply zab | apply zad | refine zan ?_ (zaf.ge HI0.out)) | exact HB.out)) hb); clear HI0; clear HK; clear HB; have HO262 := n0_; have HI0 := n1_; have HK := n2_; have HB := n3_; clear n0_ n1_ n2_ n3_; clear hb ho26) | ((with_reducible refine zah (f := 58) rfl ?_); refine zaz (some 37) rfl rfl Try.func58 (by kernel_rfl) rfl #[.pointer (some ⟨g, 0, none⟩), .int .i64 4] rfl (by (try simp only [ybd, ybe, ybf]); first | done | rfl | (simp only [ybh, ybg]; rfl)) ?_; (with_reducible refine (spec_l6Rd_pick.calls kj16 g s0_0 x1001_16 4 t263 t264 w0 _ ?side1 ?side2 A23.out).mono ?_); (case side1 => repeat (first | (with_reducible first | exact HI0.out | apply zaf.alloc | apply zaf.drewN | apply zaf.drew | apply zaf.set_1) | exact HI0.out)); (case side2 => repeat (first | (with_reducible first | exact HB.out | apply zac | apply zab | apply zad | refine zan ?_ (zaf.ge HI0.out)) | exact HB.out)); rintro e w27 ⟨rfl, hi, hb, hk⟩; refine ⟨_, rfl, ?_⟩; have n0_ := zaa.mk (Kd.R_mono (Kd.R_keep (zaf.apart (show zaf w0 _ g s0_0 x1001_16 from by repeat (first | (with_reducible first | exact HI0.out | apply zaf.alloc | apply zaf.drewN | apply zaf.drew | apply zaf.set_1) | exact HI0.out)) (by (with_reducible repeat (first | apply ybn | apply ybo | apply ybp)); exact HO262.out) (by decide)) hk (fun _ h => h.2)) (fun _ h => h.1)); have n1_ := zaa.mk (zai.trans (by repeat (first | (with_reducible first | exact HK.out | apply zai.set_ | apply zal | apply zaq | apply zam) | exact HK.out)) hk (.inl rfl)); have n2_ := zaa.mk (hb); have n3_ := zaa.mk (hi); clear HO262; clear HK; clear HB; clear HI0; have HO262 := n0_; have HK := n1_; have HB := n2_; have HI0 := n3_; clear n0_ n1_ n2_ n3_; (try clear hb); (try clear hb2); (try clear hk); (try clear hi); obtain ⟨Ao28, co28, eo28⟩ := Kd.R_slice HO262.out; subst eo28) | ((with_reducible refine zah (f := 111) rfl ?_); refine zaz (some 38) rfl rfl Try.func111 (by kernel_rfl) rfl #[.pointer (some ⟨g, 0, none⟩), .slice Ao28 y260.length co28, .int .i64 t263] rfl (by (try simp only [ybd, ybe, ybf]); first | done | rfl | (simp only [ybh, ybg]; rfl)) ?_; (with_reducible refine (spec_l91Cut.calls kj16 g s0_0 t264 (fun k_ => some k_ = (.slice Ao28 y260.length co28 : Value).ownBlock) _ _ y260 t263 t265 t268 w0 _ ?side1 ?side2 ?side3 A24.out).mono ?_); (case side1 => repeat (first | (with_reducible first | exact HI0.out | apply zaf.alloc | apply zaf.drewN | apply zaf.drew | apply zaf.set_1) | exact HI0.out)); (case side2 => repeat (first | (with_reducible first | exact HB.out | apply zac | apply zab | apply zad | refine zan ?_ (zaf.ge HI0.out)) | exact HB.out)); (case side3 => exact Kd.V_mono (Kd.R_V (Kd.R_tight rfl (zaf.apart HI0.out (HO262.out) (by decide)))) (fun k_ hk_ => ⟨hk_, ((zaf.apart HI0.out (HO262.out) (by decide)).1 k_ hk_.symm).2⟩)); rintro e w29 ⟨v266, rfl, ho0, hi, hb, hk⟩; refine ⟨_, rfl, ?_⟩; have n0_ := zaa.mk (Kd.R_mono (Kd.R_keep (zaf.apart (show zaf w0 _ g s0_0 t264 from by repeat (first | (with_reducible first | exact HI0.out | apply zaf.alloc | apply zaf.drewN | apply zaf.drew | apply zaf.set_1) | exact HI0.out)) (by (with_reducible repeat (first | apply ybn | apply ybo | apply ybp)); exact HO262.out) (by decide)) hk (fun _ h => h.2)) (fun _ h => h.1)); have n1_ := zaa.mk (Kd.V_lower (Kd.V_mono (ok' := fun k_ => (w.heap.size ≤ k_) ∧ k_ ≠ g) ho0 (fun k_ hk_ => ⟨Or.elim hk_ (fun hs_ => ((zaf.apart HI0.out (HO262.out) (by decide)).1 k_ hs_.symm).1.1) (fun hn_ => (Nat.le_trans (zbg (w := w) (g := g) (row := none) (by repeat (first | (with_reducible first | exact HK.out | apply zai.set_ | apply zal | apply zaq | apply zam) | exact HK.out))) hn_)), Or.elim hk_ (fun hs_ => ((zaf.apart HI0.out (HO262.out) (by decide)).1 k_ hs_.symm).2) (fun hn_ => (zaf.fresh (by repeat (first | (with_reducible first | exact HI0.out | apply zaf.alloc | apply zaf.drewN | apply zaf.drew | apply zaf.set_1) | exact HI0.out)) k_ hn_))⟩)) (zbg (w := w) (g := g) (row := none) (by repeat (first | (with_reducible first | exact HK.out | apply zai.set_ | apply zal | apply zaq | apply zam) | exact HK.out)))); have n2_ := zaa.mk (zai.trans (by repeat (first | (with_reducible first | exact HK.out | apply zai.set_ | apply zal | apply zaq | apply zam) | exact HK.out)) hk (.inl rfl)); have n3_ := zaa.mk (hb); have n4_ := zaa.mk (hi); clear HO262; clear HK; clear HB; clear HI0; have HO262 := n0_; have HO267 := n1_; have HK := n2_; have HB := n3_; have HI0 := n4_; clear n0_ n1_ n2_ n3_ n4_; (try clear hb); (try clear hb2); (try clear hk); (try clear hi); (try clear ho0)))
       go_ret
       exact ⟨_, by first | rfl | (simp [zap, zao] <;> rfl) | (simp [*, zap, zao] <;> rfl), by (with_reducible repeat (first | apply ybq | apply ybr | apply ybs)); exact Kd.V_mono HO267.out (fun _ hk => hk.1), by repeat (first | (with_reducible first | exact HI0.out | apply zaf.alloc | apply zaf.drewN | apply zaf.drew | apply zaf.set_1) | exact HI0.out), by repeat (first | (with_reducible first | exact HB.out | apply zac | apply zab | apply zad | refine zan ?_ (zaf.ge HI0.out)) | exact HB.out), by repeat (first | (with_reducible first | exact HK.out | apply zai.set_ | apply zal | apply zaq | apply zam) | exact HK.out)⟩
      ·replace c22 := Bool.eq_false_iff.mpr c22
       subst c22
       have H1 : ((spec_l91Empty.f kj16 a1 a2).bind fun t269 => ((spec_l6Rd_pick.f kj16 s0_0 x1001_16 9).bind fun bt272 => ((spec_l91Cut.f kj16 s0_0 bt272.2 t269 bt272.1).bind fun bt274 => (some (bt274.1, bt274.2))))) = some (r1, r2) := by rw [if_neg (show ¬ (false = true) by decide)] at H; exact H
       clear H
       have H := H1
       clear H1
       replace H := ybk.mp H
       obtain ⟨t269, A300, H⟩ := H
       replace H : ((spec_l6Rd_pick.f kj16 s0_0 x1001_16 9).bind fun bt272 => ((spec_l91Cut.f kj16 s0_0 bt272.2 t269 bt272.1).bind fun bt274 => (some (bt274.1, bt274.2)))) = some (r1, r2) := H
       have A30 := zaa.mk A300
       clear A300
       replace H := ybk.mp H
       obtain ⟨⟨t272, t273⟩, A310, H⟩ := H
       replace H : ((spec_l91Cut.f kj16 s0_0 t273 t269 t272).bind fun bt274 => (some (bt274.1, bt274.2))) = some (r1, r2) := H
       have A31 := zaa.mk A310
       clear A310
       replace H := ybk.mp H
       obtain ⟨⟨t274, t277⟩, A320, H⟩ := H
       replace H : (some (t274, t277)) = some (r1, r2) := H
       have A32 := zaa.mk A320
       clear A320
       simp only [Option.some.injEq, Prod.mk.injEq] at H
       obtain ⟨rfl, rfl⟩ := H
       go_wp2_with (first | ((with_reducible refine zah (f := 112) rfl ?_); refine zaz (some 42) rfl rfl Try.func112 (by kernel_rfl) rfl #[.int .i64 a1, .int .i64 a2] rfl (by (try simp only [ybd, ybe, ybf]); first | done | rfl | (simp only [ybh, ybg]; rfl)) ?_; (with_reducible refine (spec_l91Empty.calls kj16 a1 a2 t269 _ A30.out).mono ?_); rintro e w33 ⟨v270, rfl, ho0, hb⟩; refine ⟨_, rfl, ?_⟩; have n0_ := zaa.mk (Kd.R_lower (Kd.R_newM (M := fun k_ => (w.heap.size ≤ k_)) ho0 (zbg (w := w) (g := g) (row := none) (by repeat (first | (with_reducible first | exact HK.out | apply zai.set_ | apply zal | apply zaq | apply zam) | exact HK.out))) (fun k_ h_ => h_)) (zbg (w := w) (g := g) (row := none) (by repeat (first | (with_reducible first | exact HK.out | apply zai.set_ | apply zal | apply zaq | apply zam) | exact HK.out)))); have n1_ := zaa.mk (zaf.below (by repeat (first | (with_reducible first | exact HI0.out | apply zaf.alloc | apply zaf.drewN | apply zaf.drew | apply zaf.set_1) | exact HI0.out)) hb); have n2_ := zaa.mk (zai.trans (by repeat (first | (with_reducible first | exact HK.out | apply zai.set_ | apply zal | apply zaq | apply zam) | exact HK.out)) (zai.of_below hb g none) (.inl rfl)); have n3_ := zaa.mk (zae (by repeat (first | (with_reducible first | exact HB.out | apply zac | apply zab | apply zad | refine zan ?_ (zaf.ge HI0.out)) | exact HB.out)) hb); clear HI0; clear HK; clear HB; have HO271 := n0_; have HI0 := n1_; have HK := n2_; have HB := n3_; clear n0_ n1_ n2_ n3_; (try clear hb); (try clear hb2); (try clear hk); (try clear hi); (try clear ho0)) | ((with_reducible refine zah (f := 58) rfl ?_); refine zaz (some 44) rfl rfl Try.func58 (by kernel_rfl) rfl #[.pointer (some ⟨g, 0, none⟩), .int .i64 9] rfl (by (try simp only [ybd, ybe, ybf]); first | done | rfl | (simp only [ybh, ybg]; rfl)) ?_; (with_reducible refine (spec_l6Rd_pick.calls kj16 g s0_0 x1001_16 9 t272 t273 w0 _ ?side1 ?side2 A31.out).mono ?_); (case side1 => repeat (first | (with_reducible first | exact HI0.out | apply zaf.alloc | apply zaf.drewN | apply zaf.drew | apply zaf.set_1) | exact HI0.out)); (case side2 => repeat (first | (with_reducible first | exact HB.out | apply zac | apply zab | apply zad | refine zan ?_ (zaf.ge HI0.out)) | exact HB.out)); rintro e w34 ⟨rfl, hi, hb, hk⟩; refine ⟨_, rfl, ?_⟩; have n0_ := zaa.mk (Kd.R_mono (Kd.R_keep (zaf.apart (show zaf w0 _ g s0_0 x1001_16 from by repeat (first | (with_reducible first | exact HI0.out | apply zaf.alloc | apply zaf.drewN | apply zaf.drew | apply zaf.set_1) | exact HI0.out)) (by (with_reducible repeat (first | apply ybn | apply ybo | apply ybp)); exact HO271.out) (by decide)) hk (fun _ h => h.2)) (fun _ h => h.1)); have n1_ := zaa.mk (zai.trans (by repeat (first | (with_reducible first | exact HK.out | apply zai.set_ | apply zal | apply zaq | apply zam) | exact HK.out)) hk (.inl rfl)); have n2_ := zaa.mk (hb); have n3_ := zaa.mk (hi); clear HO271; clear HK; clear HB; clear HI0; have HO271 := n0_; have HK := n1_; have HB := n2_; have HI0 := n3_; clear n0_ n1_ n2_ n3_; (try clear hb); (try clear hb2); (try clear hk); (try clear hi); obtain ⟨Ao35, co35, eo35⟩ := Kd.R_slice HO271.out; subst eo35) | ((with_reducible refine zah (f := 111) rfl ?_); refine zaz (some 45) rfl rfl Try.func111 (by kernel_rfl) rfl #[.pointer (some ⟨g, 0, none⟩), .slice Ao35 t269.length co35, .int .i64 t272] rfl (by (try simp only [ybd, ybe, ybf]); first | done | rfl | (simp only [ybh, ybg]; rfl)) ?_; (with_reducible refine (spec_l91Cut.calls kj16 g s0_0 t273 (fun k_ => some k_ = (.slice Ao35 t269.length co35 : Value).ownBlock) _ _ t269 t272 t274 t277 w0 _ ?side1 ?side2 ?side3 A32.out).mono ?_); (case side1 => repeat (first | (with_reducible first | exact HI0.out | apply zaf.alloc | apply zaf.drewN | apply zaf.drew | apply zaf.set_1) | exact HI0.out)); (case side2 => repeat (first | (with_reducible first | exact HB.out | apply zac | apply zab | apply zad | refine zan ?_ (zaf.ge HI0.out)) | exact HB.out)); (case side3 => exact Kd.V_mono (Kd.R_V (Kd.R_tight rfl (zaf.apart HI0.out (HO271.out) (by decide)))) (fun k_ hk_ => ⟨hk_, ((zaf.apart HI0.out (HO271.out) (by decide)).1 k_ hk_.symm).2⟩)); rintro e w36 ⟨v275, rfl, ho0, hi, hb, hk⟩; refine ⟨_, rfl, ?_⟩; have n0_ := zaa.mk (Kd.R_mono (Kd.R_keep (zaf.apart (show zaf w0 _ g s0_0 t273 from by repeat (first | (with_reducible first | exact HI0.out | apply zaf.alloc | apply zaf.drewN | apply zaf.drew | apply zaf.set_1) | exact HI0.out)) (by (with_reducible repeat (first | apply ybn | apply ybo | apply ybp)); exact HO271.out) (by decide)) hk (fun _ h => h.2)) (fun _ h => h.1)); have n1_ := zaa.mk (Kd.V_lower (Kd.V_mono (ok' := fun k_ => (w.heap.size ≤ k_) ∧ k_ ≠ g) ho0 (fun k_ hk_ => ⟨Or.elim hk_ (fun hs_ => ((zaf.apart HI0.out (HO271.out) (by decide)).1 k_ hs_.symm).1.1) (fun hn_ => (Nat.le_trans (zbg (w := w) (g := g) (row := none) (by repeat (first | (with_reducible first | exact HK.out | apply zai.set_ | apply zal | apply zaq | apply zam) | exact HK.out))) hn_)), Or.elim hk_ (fun hs_ => ((zaf.apart HI0.out (HO271.out) (by decide)).1 k_ hs_.symm).2) (fun hn_ => (zaf.fresh (by repeat (first | (with_reducible first | exact HI0.out | apply zaf.alloc | apply zaf.drewN | apply zaf.drew | apply zaf.set_1) | exact HI0.out)) k_ hn_))⟩)) (zbg (w := w) (g := g) (row := none) (by repeat (first | (with_reducible first | exact HK.out | apply zai.set_ | apply zal | apply zaq | apply zam) | exact HK.out)))); have n2_ := zaa.mk (zai.trans (by repeat (first | (with_reducible first | exact HK.out | apply zai.set_ | apply zal | apply zaq | apply zam) | exact HK.out)) hk (.inl rfl)); have n3_ := zaa.mk (hb); have n4_ := zaa.mk (hi); clear HO271; clear HK; clear HB; clear HI0; have HO271 := n0_; have HO276 := n1_; have HK := n2_; have HB := n3_; have HI0 := n4_; clear n0_ n1_ n2_ n3_ n4_; (try clear hb); (try clear hb2); (try clear hk); (try clear hi); (try clear ho0)))
       go_ret
       exact ⟨_, by first | rfl | (simp [zap, zao] <;> rfl) | (simp [*, zap, zao] <;> rfl), by (with_reducible repeat (first | apply ybq | apply ybr | apply ybs)); exact Kd.V_mono HO276.out (fun _ hk => hk.1), by repeat (first | (with_reducible first | exact HI0.out | apply zaf.alloc | apply zaf.drewN | apply zaf.drew | apply zaf.set_1) | exact HI0.out), by repeat (first | (with_reducible first | exact HB.out | apply zac | apply zab | apply zad | refine zan ?_ (zaf.ge HI0.out)) | exact HB.out), by repeat (first | (with_reducible first | exact HK.out | apply zai.set_ | apply zal | apply zaq | apply zam) | exact HK.out)⟩
def spec_l91Some.f (k : Nat) (s0_0 : List Int) (s0_1 : Int) (a1 : Int) (a2 : Int) : Option (List ByteArray × Int) := (spec_l6Rd_pick.f k s0_0 s0_1 a1).bind fun bt278 => ((spec_l6Rd_pick.f k s0_0 bt278.2 a2).bind fun bt280 => ((spec_l91Plan.f k s0_0 bt280.2 (wrap64 (1 + bt278.1)) (wrap64 (1 + bt280.1))).bind fun bt282 => ((spec_l6Rd_pick.f k s0_0 bt282.2 50).bind fun bt286 => (if bt286.1 = 0 then ((some (([] : List ByteArray) : List ByteArray)).bind fun y288 => (if y288.length + bt282.1.length < 8796093022208 then ((some (y288 ++ bt282.1 : List ByteArray)).bind fun y291 => (if 0 ≤ (wrap64 ((wrap64 (1 + bt278.1)) - 1)) then (if (wrap64 ((wrap64 (1 + bt278.1)) - 1)) < (y291.length : Int) then (if (rdOf ybj y291 (wrap64 ((wrap64 (1 + bt278.1)) - 1))).size + 1 ≤ 9223372036854775807 then (some ((y291.set ((wrap64 ((wrap64 (1 + bt278.1)) - 1)) : Int).toNat ((rdOf ybj y291 (wrap64 ((wrap64 (1 + bt278.1)) - 1))) ++ (⟨#[97]⟩ : ByteArray))), bt286.2)) else (none)) else (none)) else (none))) else (none))) else (if bt286.1 = 1 then ((some (([] : List ByteArray) : List ByteArray)).bind fun y296 => (if y296.length + bt282.1.length < 8796093022208 then ((some (y296 ++ bt282.1 : List ByteArray)).bind fun y299 => (if 0 < (y299.length : Int) then (if 1 ≤ ((rdOf ybj y299 0).size : Int) then (if 1 + ((rdOf ybj y299 0).extract 1 (rdOf ybj y299 0).size).size ≤ 9223372036854775807 then (some ((y299.set (0 : Int).toNat ((⟨#[122]⟩ : ByteArray) ++ ((rdOf ybj y299 0).extract 1 (rdOf ybj y299 0).size))), bt286.2)) else (none)) else (none)) else (none))) else (none))) else (some (bt282.1, bt286.2)))))))
set_option maxHeartbeats 8000000 in
set_option maxRecDepth 100000 in
theorem spec_l91Some.calls (k : Nat) (g : Nat) (s0_0 : List Int) (s0_1 : Int) (a1 : Int) (a2 : Int) (r1 : List ByteArray) (r2 : Int) (w0 w : World) (hI : zaf w0 w g s0_0 s0_1) (hB : Below w0.heap.size w0 w) (h : spec_l91Some.f k s0_0 s0_1 a1 a2 = some (r1, r2)) :
  Calls Try.prog 57 #[.pointer (some ⟨g, 0, none⟩), .int .i64 a1, .int .i64 a2] w fun e w' => ∃ v0_ : Value, e = .returned (v0_) ∧ Kd.V Kd.string 9 w' w.heap.size (fun k_ => (w.heap.size ≤ k_)) v0_ r1 ∧ zaf w0 w' g s0_0 r2 ∧ Below w0.heap.size w0 w' ∧ zai w w' g none := by
 have HI0 := zaa.mk hI
 have HK := zaa.mk (zai.refl w g none)
 have HL := zaa.mk hB.size
 clear hI
 have HW0 := zaa.mk hB.size
 have HB := zaa.mk hB
 clear hB
 have H : ((spec_l6Rd_pick.f k s0_0 s0_1 a1).bind fun bt278 => ((spec_l6Rd_pick.f k s0_0 bt278.2 a2).bind fun bt280 => ((spec_l91Plan.f k s0_0 bt280.2 (wrap64 (1 + bt278.1)) (wrap64 (1 + bt280.1))).bind fun bt282 => ((spec_l6Rd_pick.f k s0_0 bt282.2 50).bind fun bt286 => (if bt286.1 = 0 then ((some (([] : List ByteArray) : List ByteArray)).bind fun y288 => (if y288.length + bt282.1.length < 8796093022208 then ((some (y288 ++ bt282.1 : List ByteArray)).bind fun y291 => (if 0 ≤ (wrap64 ((wrap64 (1 + bt278.1)) - 1)) then (if (wrap64 ((wrap64 (1 + bt278.1)) - 1)) < (y291.length : Int) then (if (rdOf ybj y291 (wrap64 ((wrap64 (1 + bt278.1)) - 1))).size + 1 ≤ 9223372036854775807 then (some ((y291.set ((wrap64 ((wrap64 (1 + bt278.1)) - 1)) : Int).toNat ((rdOf ybj y291 (wrap64 ((wrap64 (1 + bt278.1)) - 1))) ++ (⟨#[97]⟩ : ByteArray))), bt286.2)) else (none)) else (none)) else (none))) else (none))) else (if bt286.1 = 1 then ((some (([] : List ByteArray) : List ByteArray)).bind fun y296 => (if y296.length + bt282.1.length < 8796093022208 then ((some (y296 ++ bt282.1 : List ByteArray)).bind fun y299 => (if 0 < (y299.length : Int) then (if 1 ≤ ((rdOf ybj y299 0).size : Int) then (if 1 + ((rdOf ybj y299 0).extract 1 (rdOf ybj y299 0).size).size ≤ 9223372036854775807 then (some ((y299.set (0 : Int).toNat ((⟨#[122]⟩ : ByteArray) ++ ((rdOf ybj y299 0).extract 1 (rdOf ybj y299 0).size))), bt286.2)) else (none)) else (none)) else (none))) else (none))) else (some (bt282.1, bt286.2)))))))) = some (r1, r2) := h
 clear h
 replace H := ybk.mp H
 obtain ⟨⟨t278, t279⟩, A40, H⟩ := H
 replace H : ((spec_l6Rd_pick.f k s0_0 t279 a2).bind fun bt280 => ((spec_l91Plan.f k s0_0 bt280.2 (wrap64 (1 + t278)) (wrap64 (1 + bt280.1))).bind fun bt282 => ((spec_l6Rd_pick.f k s0_0 bt282.2 50).bind fun bt286 => (if bt286.1 = 0 then ((some (([] : List ByteArray) : List ByteArray)).bind fun y288 => (if y288.length + bt282.1.length < 8796093022208 then ((some (y288 ++ bt282.1 : List ByteArray)).bind fun y291 => (if 0 ≤ (wrap64 ((wrap64 (1 + t278)) - 1)) then (if (wrap64 ((wrap64 (1 + t278)) - 1)) < (y291.length : Int) then (if (rdOf ybj y291 (wrap64 ((wrap64 (1 + t278)) - 1))).size + 1 ≤ 9223372036854775807 then (some ((y291.set ((wrap64 ((wrap64 (1 + t278)) - 1)) : Int).toNat ((rdOf ybj y291 (wrap64 ((wrap64 (1 + t278)) - 1))) ++ (⟨#[97]⟩ : ByteArray))), bt286.2)) else (none)) else (none)) else (none))) else (none))) else (if bt286.1 = 1 then ((some (([] : List ByteArray) : List ByteArray)).bind fun y296 => (if y296.length + bt282.1.length < 8796093022208 then ((some (y296 ++ bt282.1 : List ByteArray)).bind fun y299 => (if 0 < (y299.length : Int) then (if 1 ≤ ((rdOf ybj y299 0).size : Int) then (if 1 + ((rdOf ybj y299 0).extract 1 (rdOf ybj y299 0).size).size ≤ 9223372036854775807 then (some ((y299.set (0 : Int).toNat ((⟨#[122]⟩ : ByteArray) ++ ((rdOf ybj y299 0).extract 1 (rdOf ybj y299 0).size))), bt286.2)) else (none)) else (none)) else (none))) else (none))) else (some (bt282.1, bt286.2))))))) = some (r1, r2) := H
 have A4 := zaa.mk A40
 clear A40
 replace H := ybk.mp H
 obtain ⟨⟨t280, t281⟩, A50, H⟩ := H
 replace H : ((spec_l91Plan.f k s0_0 t281 (wrap64 (1 + t278)) (wrap64 (1 + t280))).bind fun bt282 => ((spec_l6Rd_pick.f k s0_0 bt282.2 50).bind fun bt286 => (if bt286.1 = 0 then ((some (([] : List ByteArray) : List ByteArray)).bind fun y288 => (if y288.length + bt282.1.length < 8796093022208 then ((some (y288 ++ bt282.1 : List ByteArray)).bind fun y291 => (if 0 ≤ (wrap64 ((wrap64 (1 + t278)) - 1)) then (if (wrap64 ((wrap64 (1 + t278)) - 1)) < (y291.length : Int) then (if (rdOf ybj y291 (wrap64 ((wrap64 (1 + t278)) - 1))).size + 1 ≤ 9223372036854775807 then (some ((y291.set ((wrap64 ((wrap64 (1 + t278)) - 1)) : Int).toNat ((rdOf ybj y291 (wrap64 ((wrap64 (1 + t278)) - 1))) ++ (⟨#[97]⟩ : ByteArray))), bt286.2)) else (none)) else (none)) else (none))) else (none))) else (if bt286.1 = 1 then ((some (([] : List ByteArray) : List ByteArray)).bind fun y296 => (if y296.length + bt282.1.length < 8796093022208 then ((some (y296 ++ bt282.1 : List ByteArray)).bind fun y299 => (if 0 < (y299.length : Int) then (if 1 ≤ ((rdOf ybj y299 0).size : Int) then (if 1 + ((rdOf ybj y299 0).extract 1 (rdOf ybj y299 0).size).size ≤ 9223372036854775807 then (some ((y299.set (0 : Int).toNat ((⟨#[122]⟩ : ByteArray) ++ ((rdOf ybj y299 0).extract 1 (rdOf ybj y299 0).size))), bt286.2)) else (none)) else (none)) else (none))) else (none))) else (some (bt282.1, bt286.2)))))) = some (r1, r2) := H
 have A5 := zaa.mk A50
 clear A50
 replace H := ybk.mp H
 obtain ⟨⟨t282, t285⟩, A60, H⟩ := H
 replace H : ((spec_l6Rd_pick.f k s0_0 t285 50).bind fun bt286 => (if bt286.1 = 0 then ((some (([] : List ByteArray) : List ByteArray)).bind fun y288 => (if y288.length + t282.length < 8796093022208 then ((some (y288 ++ t282 : List ByteArray)).bind fun y291 => (if 0 ≤ (wrap64 ((wrap64 (1 + t278)) - 1)) then (if (wrap64 ((wrap64 (1 + t278)) - 1)) < (y291.length : Int) then (if (rdOf ybj y291 (wrap64 ((wrap64 (1 + t278)) - 1))).size + 1 ≤ 9223372036854775807 then (some ((y291.set ((wrap64 ((wrap64 (1 + t278)) - 1)) : Int).toNat ((rdOf ybj y291 (wrap64 ((wrap64 (1 + t278)) - 1))) ++ (⟨#[97]⟩ : ByteArray))), bt286.2)) else (none)) else (none)) else (none))) else (none))) else (if bt286.1 = 1 then ((some (([] : List ByteArray) : List ByteArray)).bind fun y296 => (if y296.length + t282.length < 8796093022208 then ((some (y296 ++ t282 : List ByteArray)).bind fun y299 => (if 0 < (y299.length : Int) then (if 1 ≤ ((rdOf ybj y299 0).size : Int) then (if 1 + ((rdOf ybj y299 0).extract 1 (rdOf ybj y299 0).size).size ≤ 9223372036854775807 then (some ((y299.set (0 : Int).toNat ((⟨#[122]⟩ : ByteArray) ++ ((rdOf ybj y299 0).extract 1 (rdOf ybj y299 0).size))), bt286.2)) else (none)) else (none)) else (none))) else (none))) else (some (t282, bt286.2))))) = some (r1, r2) := H
 have A6 := zaa.mk A60
 clear A60
 replace H := ybk.mp H
 obtain ⟨⟨t286, t287⟩, A70, H⟩ := H
 replace H : (if t286 = 0 then ((some (([] : List ByteArray) : List ByteArray)).bind fun y288 => (if y288.length + t282.length < 8796093022208 then ((some (y288 ++ t282 : List ByteArray)).bind fun y291 => (if 0 ≤ (wrap64 ((wrap64 (1 + t278)) - 1)) then (if (wrap64 ((wrap64 (1 + t278)) - 1)) < (y291.length : Int) then (if (rdOf ybj y291 (wrap64 ((wrap64 (1 + t278)) - 1))).size + 1 ≤ 9223372036854775807 then (some ((y291.set ((wrap64 ((wrap64 (1 + t278)) - 1)) : Int).toNat ((rdOf ybj y291 (wrap64 ((wrap64 (1 + t278)) - 1))) ++ (⟨#[97]⟩ : ByteArray))), t287)) else (none)) else (none)) else (none))) else (none))) else (if t286 = 1 then ((some (([] : List ByteArray) : List ByteArray)).bind fun y296 => (if y296.length + t282.length < 8796093022208 then ((some (y296 ++ t282 : List ByteArray)).bind fun y299 => (if 0 < (y299.length : Int) then (if 1 ≤ ((rdOf ybj y299 0).size : Int) then (if 1 + ((rdOf ybj y299 0).extract 1 (rdOf ybj y299 0).size).size ≤ 9223372036854775807 then (some ((y299.set (0 : Int).toNat ((⟨#[122]⟩ : ByteArray) ++ ((rdOf ybj y299 0).extract 1 (rdOf ybj y299 0).size))), t287)) else (none)) else (none)) else (none))) else (none))) else (some (t282, t287)))) = some (r1, r2) := H
 have A7 := zaa.mk A70
 clear A70
 by_cases c8 : t286 = 0
 ·rw [if_pos c8] at H
  have c8b0 : (t286 == 0) = true := beq_iff_eq.mpr c8
  have c8b1 : (t286 != 0) = false := bne_eq_false_iff_eq.mpr c8
  clear c8
  obtain ⟨y288, hy288⟩ : ∃ y_ : List ByteArray, y_ = (([] : List ByteArray)) := ⟨_, rfl⟩
  replace H : (if y288.length + t282.length < 8796093022208 then ((some (y288 ++ t282 : List ByteArray)).bind fun y291 => (if 0 ≤ (wrap64 ((wrap64 (1 + t278)) - 1)) then (if (wrap64 ((wrap64 (1 + t278)) - 1)) < (y291.length : Int) then (if (rdOf ybj y291 (wrap64 ((wrap64 (1 + t278)) - 1))).size + 1 ≤ 9223372036854775807 then (some ((y291.set ((wrap64 ((wrap64 (1 + t278)) - 1)) : Int).toNat ((rdOf ybj y291 (wrap64 ((wrap64 (1 + t278)) - 1))) ++ (⟨#[97]⟩ : ByteArray))), t287)) else (none)) else (none)) else (none))) else (none)) = some (r1, r2) := by first | (rw [hy288]; with_reducible exact H) | (have H2_ := (ybl _ _).symm.trans H; rw [hy288]; with_reducible exact H2_) | (have H2_ := (ybl _ _).symm.trans H; with_reducible exact H2_) | with_reducible exact H | (rw [hy288]; exact H) | exact H
  have Ny288 := zaa.mk hy288
  clear hy288
  by_cases c9 : y288.length + t282.length < 8796093022208
  ·rw [if_pos c9] at H
   have LMc9 := zaa.mk c9
   clear c9
   obtain ⟨y291, hy291⟩ : ∃ y_ : List ByteArray, y_ = (y288 ++ t282) := ⟨_, rfl⟩
   replace H : (if 0 ≤ (wrap64 ((wrap64 (1 + t278)) - 1)) then (if (wrap64 ((wrap64 (1 + t278)) - 1)) < (y291.length : Int) then (if (rdOf ybj y291 (wrap64 ((wrap64 (1 + t278)) - 1))).size + 1 ≤ 9223372036854775807 then (some ((y291.set ((wrap64 ((wrap64 (1 + t278)) - 1)) : Int).toNat ((rdOf ybj y291 (wrap64 ((wrap64 (1 + t278)) - 1))) ++ (⟨#[97]⟩ : ByteArray))), t287)) else (none)) else (none)) else (none)) = some (r1, r2) := by first | (rw [hy291]; with_reducible exact H) | (have H2_ := (ybl _ _).symm.trans H; rw [hy291]; with_reducible exact H2_) | (have H2_ := (ybl _ _).symm.trans H; with_reducible exact H2_) | with_reducible exact H | (rw [hy291]; exact H) | exact H
   have Ny291 := zaa.mk hy291
   clear hy291
   obtain ⟨ji10, hji10⟩ : ∃ j_ : Int, (wrap64 ((wrap64 (1 + t278)) - 1)) = j_ := ⟨_, rfl⟩
   replace H : (if 0 ≤ (ji10) then (if (ji10) < (y291.length : Int) then (if (rdOf ybj y291 (ji10)).size + 1 ≤ 9223372036854775807 then (some ((y291.set ((ji10) : Int).toNat ((rdOf ybj y291 (ji10)) ++ (⟨#[97]⟩ : ByteArray))), t287)) else (none)) else (none)) else (none)) = some (r1, r2) := by first | (rw [hji10] at H; exact H) | (simp only [hji10] at H ⊢; exact H)
   (try rw [hji10] at A4)
   (try rw [hji10] at A5)
   (try rw [hji10] at A6)
   (try rw [hji10] at A7)
   have hji10w : (IntKind.i64.wrap ((wrap64 (1 + t278)) - 1)) = ji10 := (zau _).trans hji10
   by_cases c11 : 0 ≤ (ji10)
   ·rw [if_pos c11] at H
    have c11b0 : decide (0 ≤ (ji10)) = true := decide_eq_true c11
    clear c11
    by_cases c12 : (ji10) < (y291.length : Int)
    ·rw [if_pos c12] at H
     have c12b0 : decide ((ji10) < (y291.length : Int)) = true := decide_eq_true c12
     clear c12
     by_cases c13 : (rdOf ybj y291 (ji10)).size + 1 ≤ 9223372036854775807
     ·rw [if_pos c13] at H
      have c13b0 := eq_true c13
      have c13b1 : decide ((rdOf ybj y291 (ji10)).size + 1 ≤ 9223372036854775807) = true := decide_eq_true c13
      try have c13b2 : (9223372036854775807 < (rdOf ybj y291 (ji10)).size + 1) = False := eq_false (Nat.not_lt.2 c13)
      obtain ⟨y295, hy295⟩ : ∃ y_ : List ByteArray, y_ = (y291.set ((ji10) : Int).toNat ((rdOf ybj y291 (ji10)) ++ (⟨#[97]⟩ : ByteArray))) := ⟨_, rfl⟩
      replace H : (some (y295, t287)) = some (r1, r2) := by first | (rw [hy295]; with_reducible exact H) | (have H2_ := (ybl _ _).symm.trans H; rw [hy295]; with_reducible exact H2_) | (have H2_ := (ybl _ _).symm.trans H; with_reducible exact H2_) | with_reducible exact H | (rw [hy295]; exact H) | exact H
      have Ny295 := zaa.mk hy295
      clear hy295
      simp only [Option.some.injEq, Prod.mk.injEq] at H
      obtain ⟨rfl, rfl⟩ := H
      go_enter Try.func57, Try.ntmps57
      go_wp2_with (first | ((with_reducible refine zah (f := 58) rfl ?_); refine zaz (some 11) rfl rfl Try.func58 (by kernel_rfl) rfl #[.pointer (some ⟨g, 0, none⟩), .int .i64 a1] rfl (by (try simp only [ybd, ybe, ybf]); first | done | rfl | (simp only [ybh, ybg]; rfl)) ?_; (with_reducible refine (spec_l6Rd_pick.calls k g s0_0 s0_1 a1 t278 t279 w0 _ ?side1 ?side2 A4.out).mono ?_); (case side1 => repeat (first | (with_reducible first | exact HI0.out | apply zaf.alloc | apply zaf.drewN | apply zaf.drew | apply zaf.set_1) | exact HI0.out)); (case side2 => repeat (first | (with_reducible first | exact HB.out | apply zac | apply zab | apply zad | refine zan ?_ (zaf.ge HI0.out)) | exact HB.out)); rintro e w15 ⟨rfl, hi, hb, hk⟩; refine ⟨_, rfl, ?_⟩; have n0_ := zaa.mk (zai.trans (by repeat (first | (with_reducible first | exact HK.out | apply zai.set_ | apply zal | apply zaq | apply zam) | exact HK.out)) hk (.inl rfl)); have n1_ := zaa.mk (hb); have n2_ := zaa.mk (hi); clear HK; clear HB; clear HI0; have HK := n0_; have HB := n1_; have HI0 := n2_; clear n0_ n1_ n2_; (try clear hb); (try clear hb2); (try clear hk); (try clear hi)) | ((with_reducible refine zah (f := 58) rfl ?_); refine zaz (some 17) rfl rfl Try.func58 (by kernel_rfl) rfl #[.pointer (some ⟨g, 0, none⟩), .int .i64 a2] rfl (by (try simp only [ybd, ybe, ybf]); first | done | rfl | (simp only [ybh, ybg]; rfl)) ?_; (with_reducible refine (spec_l6Rd_pick.calls k g s0_0 t279 a2 t280 t281 w0 _ ?side1 ?side2 A5.out).mono ?_); (case side1 => repeat (first | (with_reducible first | exact HI0.out | apply zaf.alloc | apply zaf.drewN | apply zaf.drew | apply zaf.set_1) | exact HI0.out)); (case side2 => repeat (first | (with_reducible first | exact HB.out | apply zac | apply zab | apply zad | refine zan ?_ (zaf.ge HI0.out)) | exact HB.out)); rintro e w16 ⟨rfl, hi, hb, hk⟩; refine ⟨_, rfl, ?_⟩; have n0_ := zaa.mk (zai.trans (by repeat (first | (with_reducible first | exact HK.out | apply zai.set_ | apply zal | apply zaq | apply zam) | exact HK.out)) hk (.inl rfl)); have n1_ := zaa.mk (hb); have n2_ := zaa.mk (hi); clear HK; clear HB; clear HI0; have HK := n0_; have HB := n1_; have HI0 := n2_; clear n0_ n1_ n2_; (try clear hb); (try clear hb2); (try clear hk); (try clear hi)) | ((with_reducible refine zah (f := 94) rfl ?_); refine zaz (some 19) rfl rfl Try.func94 (by kernel_rfl) rfl #[.pointer (some ⟨g, 0, none⟩), .int .i64 (wrap64 (1 + t278)), .int .i64 (wrap64 (1 + t280))] rfl (by (try simp only [ybd, ybe, ybf]); first | done | rfl | (simp only [ybh, ybg]; rfl)) ?_; (with_reducible refine (spec_l91Plan.calls k g s0_0 t281 (wrap64 (1 + t278)) (wrap64 (1 + t280)) t282 t285 w0 _ ?side1 ?side2 A6.out).mono ?_); (case side1 => repeat (first | (with_reducible first | exact HI0.out | apply zaf.alloc | apply zaf.drewN | apply zaf.drew | apply zaf.set_1) | exact HI0.out)); (case side2 => repeat (first | (with_reducible first | exact HB.out | apply zac | apply zab | apply zad | refine zan ?_ (zaf.ge HI0.out)) | exact HB.out)); rintro e w17 ⟨v283, rfl, ho0, hi, hb, hk⟩; refine ⟨_, rfl, ?_⟩; have n0_ := zaa.mk (Kd.V_lower (Kd.V_mono (ok' := fun k_ => (w.heap.size ≤ k_) ∧ k_ ≠ g) ho0 (fun k_ hk_ => ⟨(Nat.le_trans (zbg (w := w) (g := g) (row := none) (by repeat (first | (with_reducible first | exact HK.out | apply zai.set_ | apply zal | apply zaq | apply zam) | exact HK.out))) hk_), (zaf.fresh (by repeat (first | (with_reducible first | exact HI0.out | apply zaf.alloc | apply zaf.drewN | apply zaf.drew | apply zaf.set_1) | exact HI0.out)) k_ hk_)⟩)) (zbg (w := w) (g := g) (row := none) (by repeat (first | (with_reducible first | exact HK.out | apply zai.set_ | apply zal | apply zaq | apply zam) | exact HK.out)))); have n1_ := zaa.mk (zai.trans (by repeat (first | (with_reducible first | exact HK.out | apply zai.set_ | apply zal | apply zaq | apply zam) | exact HK.out)) hk (.inl rfl)); have n2_ := zaa.mk (hb); have n3_ := zaa.mk (hi); clear HK; clear HB; clear HI0; have HO284 := n0_; have HK := n1_; have HB := n2_; have HI0 := n3_; clear n0_ n1_ n2_ n3_; (try clear hb); (try clear hb2); (try clear hk); (try clear hi); (try clear ho0)) | ((with_reducible refine zah (f := 58) rfl ?_); refine zaz (some 21) rfl rfl Try.func58 (by kernel_rfl) rfl #[.pointer (some ⟨g, 0, none⟩), .int .i64 50] rfl (by (try simp only [ybd, ybe, ybf]); first | done | rfl | (simp only [ybh, ybg]; rfl)) ?_; (with_reducible refine (spec_l6Rd_pick.calls k g s0_0 t285 50 t286 t287 w0 _ ?side1 ?side2 A7.out).mono ?_); (case side1 => repeat (first | (with_reducible first | exact HI0.out | apply zaf.alloc | apply zaf.drewN | apply zaf.drew | apply zaf.set_1) | exact HI0.out)); (case side2 => repeat (first | (with_reducible first | exact HB.out | apply zac | apply zab | apply zad | refine zan ?_ (zaf.ge HI0.out)) | exact HB.out)); rintro e w18 ⟨rfl, hi, hb, hk⟩; refine ⟨_, rfl, ?_⟩; have n0_ := zaa.mk (Kd.V_mono (Kd.V_keep (Kd.V_mono (ok := fun k_ => (((w.heap.size ≤ k_)) ∧ k_ ≠ g)) (by (with_reducible repeat (first | apply ybq | apply ybr | apply ybs)); exact HO284.out) (fun k_ hk_ => (⟨hk_, hk_.2⟩ : _ ∧ k_ ≠ g))) hk (fun _ h => h.2)) (fun _ h => h.1)); have n1_ := zaa.mk (zai.trans (by repeat (first | (with_reducible first | exact HK.out | apply zai.set_ | apply zal | apply zaq | apply zam) | exact HK.out)) hk (.inl rfl)); have n2_ := zaa.mk (hb); have n3_ := zaa.mk (hi); clear HO284; clear HK; clear HB; clear HI0; have HO284 := n0_; have HK := n1_; have HB := n2_; have HI0 := n3_; clear n0_ n1_ n2_ n3_; (try clear hb); (try clear hb2); (try clear hk); (try clear hi)) | ((with_reducible refine zbb (N := 24) rfl ?_); refine Kd.R_lit Kd.string _ 9 ?hg (N := 24) ?hd (xs := ([] : List ByteArray)) (inner := []) (ok := fun _ => True) (okp := fun _ => True) ?hr ?hp (fun _ hk => hk) trivial (Below.refl _ _) (ybm _) (by simp) ?_; (case hd => rfl); (case hg => rfl); (case hr => first | (go_simp; done) | (go_simp; rfl)); (case hp => exact (Reps.none _ _)); intro v289 w19 ho20 hb hg_ hnew_; clear hg_ hnew_; (first | rw [← Ny288.out] at ho20 | (simp only [Int.reduceToNat] at ho20; rw [← Ny288.out] at ho20)); have n0_ := zaa.mk (Kd.V_elder' (by (with_reducible repeat (first | apply ybq | apply ybr | apply ybs)); exact HO284.out) (Kd.R_base ho20) hb); have n1_ := zaa.mk (Kd.R_lower (Kd.R_newM (M := fun k_ => (w.heap.size ≤ k_)) ho20 (zbg (w := w) (g := g) (row := none) (by repeat (first | (with_reducible first | exact HK.out | apply zai.set_ | apply zal | apply zaq | apply zam) | exact HK.out))) (fun k_ h_ => h_)) (zbg (w := w) (g := g) (row := none) (by repeat (first | (with_reducible first | exact HK.out | apply zai.set_ | apply zal | apply zaq | apply zam) | exact HK.out)))); have n2_ := zaa.mk (zaf.below (by repeat (first | (with_reducible first | exact HI0.out | apply zaf.alloc | apply zaf.drewN | apply zaf.drew | apply zaf.set_1) | exact HI0.out)) hb); have n3_ := zaa.mk (zai.trans (by repeat (first | (with_reducible first | exact HK.out | apply zai.set_ | apply zal | apply zaq | apply zam) | exact HK.out)) (zai.of_below hb g none) (.inl rfl)); have n4_ := zaa.mk (zae (by repeat (first | (with_reducible first | exact HB.out | apply zac | apply zab | apply zad | refine zan ?_ (zaf.ge HI0.out)) | exact HB.out)) hb); clear HO284; clear HI0; clear HK; clear HB; have HO284 := n0_; have HO290 := n1_; have HI0 := n2_; have HK := n3_; have HB := n4_; clear n0_ n1_ n2_ n3_ n4_; clear hb ho20; obtain ⟨Ao22, co22, eo22⟩ := Kd.V_slice HO284.out; subst eo22) | ((with_reducible refine zax (b := .append) (xs := #[.tmp 24, .tmp 25]) rfl ?_); at_builtin; refine Kd.R_append_rows Kd.string w.heap.size rfl (.tmp 24) (.tmp 25) 22 9 (.string ⟨#[]⟩) 16 rfl Try.underlying22 info9 rfl (by decide) (by omega) v289 y288 t282 _ _ _ (fun k_ => (w.heap.size ≤ k_)) (fun _ => False) rfl rfl ?aO ?aR (fun _ _ h => h) (fun _ h => h.elim) ?aF (Below.refl _ _) ?aS ?aL ?_; (case aR => repeat (first | exact (Kd.V_reads' HO284.out).2.2 | (with_reducible refine ybt ?_ _) | (with_reducible refine ybu ?_ _) | (with_reducible refine ybv ?_))); (case aF => exact (fun k_ hk => (Nat.le_trans (zbg (w := w) (g := g) (row := none) (by repeat (first | (with_reducible first | exact HK.out | apply zai.set_ | apply zal | apply zaq | apply zam) | exact HK.out))) hk))); (case aO => exact (by (with_reducible repeat (first | apply ybn | apply ybo | apply ybp)); exact Kd.R_mono HO290.out (fun _ hk => hk.1))); (case aS => exact (zbg (w := w) (g := g) (row := none) (by repeat (first | (with_reducible first | exact HK.out | apply zai.set_ | apply zal | apply zaq | apply zam) | exact HK.out)))); (case aL => have := LMc9.out; omega); intro v292 w21 ho hb hg hat; rw [← Ny291.out] at ho; have n0_ := zaa.mk (zaf.grown (by repeat (first | (with_reducible first | exact HI0.out | apply zaf.alloc | apply zaf.drewN | apply zaf.drew | apply zaf.set_1) | exact HI0.out)) hg (zaf.own_ne HI0.out HO290.out (by decide))); have n1_ := zaa.mk (Kd.V_afterv (ok := (fun k_ => (w.heap.size ≤ k_) ∧ k_ ≠ g)) (by (with_reducible repeat (first | apply ybq | apply ybr | apply ybs)); exact HO284.out) hg hat); have n2_ := zaa.mk (below_weaken (by repeat (first | (with_reducible first | exact HB.out | apply zac | apply zab | apply zad | refine zan ?_ (zaf.ge HI0.out)) | exact HB.out)) HL.out hb); have n3_ := zaa.mk (zai.trans (by repeat (first | (with_reducible first | exact HK.out | apply zai.set_ | apply zal | apply zaq | apply zam) | exact HK.out)) (zai.of_grown hg g) (Kd.R_base2 HO290.out)); have n4_ := zaa.mk (ho); clear HI0; clear HO284; clear HB; clear HK; clear HO290; have HI0 := n0_; have HO284 := n1_; have HB := n2_; have HK := n3_; have HO293 := n4_; clear n0_ n1_ n2_ n3_ n4_; clear ho hb hg hat; obtain ⟨Ao23, co23, eo23⟩ := Kd.R_slice HO293.out; subst eo23; have p294 : 0 ≤ ((ji10) : Int) := of_decide_eq_true (by assumption); have q294 : (ji10) < (y291.length : Int) := of_decide_eq_true (by assumption); obtain ⟨ad294, e294, hx294_0⟩ := Kd.at_string (Kd.R_reads' HO293.out).2.2 (ji10) p294 q294; cases e294; replace p294 := eq_true p294; replace q294 := eq_true q294; have p14 : 0 ≤ ((ji10) : Int) := of_decide_eq_true (by assumption); have q14 : ((ji10) : Int) < ((y291.length : Int) : Int) := of_decide_eq_true (by assumption); obtain ⟨go14, co14, eo14, gb14, gl14, cl14, HG14⟩ := Kd.R_form HO293.out (by omega); (first | cases eo14 | (injection eo14 with ea_ en_ ec_; (first | subst ea_ | (injection ea_ with ea_; subst ea_)); subst ec_; clear en_)); have GB14 := zaa.mk gb14; have GG14 := zaa.mk HG14; clear gb14 gl14 HG14; (first | simp only [add_plain] at hx294_0 | skip); obtain ⟨hx14_0, hf14_0⟩ := Kd.R_celln (⟨#[]⟩ : ByteArray) HO293.out ((ji10) : Int) p14 q14; replace p14 := eq_true p14; replace q14 := eq_true q14; obtain ⟨hy24_, hz24_⟩ := Kd.R_celln (⟨#[]⟩ : ByteArray) HO293.out ((ji10) : Int) (of_decide_eq_true (by assumption)) (of_decide_eq_true (by assumption)); have HP24 := Kd.R_putg HO293.out ((ji10) : Int) ((rdOf ybj y291 (ji10)) ++ (⟨#[97]⟩ : ByteArray))) | ((with_reducible refine gate_store (t := 9) (p := 36) rfl ?_); refine store_event (t := 9) (p := 36) (v := ?vo_w25) (w1 := (w21.setCell ⟨go14, ((ji10) : Int).toNat, none⟩ (.string ((rdOf ybj y291 (ji10)) ++ (⟨#[97]⟩ : ByteArray))))) ?hg ?ho ?hn ?hr ?_; (case ho => rfl); (case hg => rfl); (case hn => rfl); (case hr => first | (go_simp; done) | (go_simp; rfl)); intro w25 hw; have hg : w21.grownBy w25 (some go14) := (by rw [hw]; exact HP24.2); have hp_ : Kd.R Kd.string 9 w25 w.heap.size (fun k_ => (w.heap.size ≤ k_)) (.slice (some ⟨go14, 0, none⟩) y291.length co23) y295 := (by rw [hw, Ny295.out]; exact HP24.1); clear HP24; have n0_ := zaa.mk (zaf.grown (by repeat (first | (with_reducible first | exact HI0.out | apply zaf.alloc | apply zaf.drewN | apply zaf.drew | apply zaf.set_1) | exact HI0.out)) hg (zaf.own_ne HI0.out HO293.out (by decide))); have n1_ := zaa.mk (Kd.V_afterv (v := (.slice (some ⟨go14, 0, none⟩) y291.length co23)) (v1 := (.slice (some ⟨go14, 0, none⟩) y291.length co23)) (ok := (fun k_ => (w.heap.size ≤ k_) ∧ k_ ≠ g)) (by (with_reducible repeat (first | apply ybq | apply ybr | apply ybs)); exact HO284.out) hg (.inl rfl)); have n2_ := zaa.mk (hp_); have n3_ := zaa.mk ((by rw [hw]; exact zan (HB.out) (Nat.le_trans HL.out GB14.out) : Below w0.heap.size w0 w25)); have n4_ := zaa.mk (zai.trans (by repeat (first | (with_reducible first | exact HK.out | apply zai.set_ | apply zal | apply zaq | apply zam) | exact HK.out)) (zai.of_grown hg g) (Kd.R_base2 HO293.out)); clear HI0; clear HO284; clear HO293; clear HB; clear HK; have HI0 := n0_; have HO284 := n1_; have HO293 := n2_; have HB := n3_; have HK := n4_; clear n0_ n1_ n2_ n3_ n4_; clear hg hw hp_))
      go_ret
      exact ⟨_, by first | rfl | (simp [zap, zao] <;> rfl) | (simp only [← hji10]; first | rfl | (simp [zap, zao] <;> rfl)) | (simp [*, zap, zao] <;> rfl), Kd.R_V (by (with_reducible repeat (first | apply ybn | apply ybo | apply ybp)); exact HO293.out), by repeat (first | (with_reducible first | exact HI0.out | apply zaf.alloc | apply zaf.drewN | apply zaf.drew | apply zaf.set_1) | exact HI0.out), by repeat (first | (with_reducible first | exact HB.out | apply zac | apply zab | apply zad | refine zan ?_ (zaf.ge HI0.out)) | exact HB.out), by repeat (first | (with_reducible first | exact HK.out | apply zai.set_ | apply zal | apply zaq | apply zam) | exact HK.out)⟩
     ·rw [if_neg c13] at H
      exact absurd H (by simp)
    ·rw [if_neg c12] at H
     exact absurd H (by simp)
   ·rw [if_neg c11] at H
    exact absurd H (by simp)
  ·rw [if_neg c9] at H
   exact absurd H (by simp)
 ·rw [if_neg c8] at H
  have c8b0 : (t286 == 0) = false := beq_eq_false_iff_ne.mpr c8
  have c8b1 : (t286 != 0) = true := bne_iff_ne.mpr c8
  by_cases c26 : t286 = 1
  ·rw [if_pos c26] at H
   have c26b0 : (t286 == 1) = true := beq_iff_eq.mpr c26
   have c26b1 : (t286 != 1) = false := bne_eq_false_iff_eq.mpr c26
   clear c26
   obtain ⟨y296, hy296⟩ : ∃ y_ : List ByteArray, y_ = (([] : List ByteArray)) := ⟨_, rfl⟩
   replace H : (if y296.length + t282.length < 8796093022208 then ((some (y296 ++ t282 : List ByteArray)).bind fun y299 => (if 0 < (y299.length : Int) then (if 1 ≤ ((rdOf ybj y299 0).size : Int) then (if 1 + ((rdOf ybj y299 0).extract 1 (rdOf ybj y299 0).size).size ≤ 9223372036854775807 then (some ((y299.set (0 : Int).toNat ((⟨#[122]⟩ : ByteArray) ++ ((rdOf ybj y299 0).extract 1 (rdOf ybj y299 0).size))), t287)) else (none)) else (none)) else (none))) else (none)) = some (r1, r2) := by first | (rw [hy296]; with_reducible exact H) | (have H2_ := (ybl _ _).symm.trans H; rw [hy296]; with_reducible exact H2_) | (have H2_ := (ybl _ _).symm.trans H; with_reducible exact H2_) | with_reducible exact H | (rw [hy296]; exact H) | exact H
   have Ny296 := zaa.mk hy296
   clear hy296
   by_cases c27 : y296.length + t282.length < 8796093022208
   ·rw [if_pos c27] at H
    have LMc27 := zaa.mk c27
    clear c27
    obtain ⟨y299, hy299⟩ : ∃ y_ : List ByteArray, y_ = (y296 ++ t282) := ⟨_, rfl⟩
    replace H : (if 0 < (y299.length : Int) then (if 1 ≤ ((rdOf ybj y299 0).size : Int) then (if 1 + ((rdOf ybj y299 0).extract 1 (rdOf ybj y299 0).size).size ≤ 9223372036854775807 then (some ((y299.set (0 : Int).toNat ((⟨#[122]⟩ : ByteArray) ++ ((rdOf ybj y299 0).extract 1 (rdOf ybj y299 0).size))), t287)) else (none)) else (none)) else (none)) = some (r1, r2) := by first | (rw [hy299]; with_reducible exact H) | (have H2_ := (ybl _ _).symm.trans H; rw [hy299]; with_reducible exact H2_) | (have H2_ := (ybl _ _).symm.trans H; with_reducible exact H2_) | with_reducible exact H | (rw [hy299]; exact H) | exact H
    have Ny299 := zaa.mk hy299
    clear hy299
    by_cases c28 : 0 < (y299.length : Int)
    ·rw [if_pos c28] at H
     have c28b0 : decide (0 < (y299.length : Int)) = true := decide_eq_true c28
     have c28b1 : decide (0 < y299.length) = true := decide_eq_true (by omega)
     clear c28
     by_cases c29 : 1 ≤ ((rdOf ybj y299 0).size : Int)
     ·rw [if_pos c29] at H
      have c29b0 := eq_true c29
      have c29b1 : decide (1 ≤ ((rdOf ybj y299 0).size : Int)) = true := decide_eq_true c29
      clear c29
      by_cases c30 : 1 + ((rdOf ybj y299 0).extract 1 (rdOf ybj y299 0).size).size ≤ 9223372036854775807
      ·rw [if_pos c30] at H
       have c30b0 := eq_true c30
       have c30b1 : decide (1 + ((rdOf ybj y299 0).extract 1 (rdOf ybj y299 0).size).size ≤ 9223372036854775807) = true := decide_eq_true c30
       try have c30b2 : (9223372036854775807 < 1 + ((rdOf ybj y299 0).extract 1 (rdOf ybj y299 0).size).size) = False := eq_false (Nat.not_lt.2 c30)
       try have c30b3 : (9223372036854775807 < 1 + ((rdOf ybj y299 0).size - 1)) = False := eq_false (by have h_ := c30; rw [ByteArray.size_extract] at h_; omega)
       obtain ⟨y303, hy303⟩ : ∃ y_ : List ByteArray, y_ = (y299.set (0 : Int).toNat ((⟨#[122]⟩ : ByteArray) ++ ((rdOf ybj y299 0).extract 1 (rdOf ybj y299 0).size))) := ⟨_, rfl⟩
       replace H : (some (y303, t287)) = some (r1, r2) := by first | (rw [hy303]; with_reducible exact H) | (have H2_ := (ybl _ _).symm.trans H; rw [hy303]; with_reducible exact H2_) | (have H2_ := (ybl _ _).symm.trans H; with_reducible exact H2_) | with_reducible exact H | (rw [hy303]; exact H) | exact H
       have Ny303 := zaa.mk hy303
       clear hy303
       simp only [Option.some.injEq, Prod.mk.injEq] at H
       obtain ⟨rfl, rfl⟩ := H
       go_enter Try.func57, Try.ntmps57
       go_wp2_with (first | ((with_reducible refine zah (f := 58) rfl ?_); refine zaz (some 11) rfl rfl Try.func58 (by kernel_rfl) rfl #[.pointer (some ⟨g, 0, none⟩), .int .i64 a1] rfl (by (try simp only [ybd, ybe, ybf]); first | done | rfl | (simp only [ybh, ybg]; rfl)) ?_; (with_reducible refine (spec_l6Rd_pick.calls k g s0_0 s0_1 a1 t278 t279 w0 _ ?side1 ?side2 A4.out).mono ?_); (case side1 => repeat (first | (with_reducible first | exact HI0.out | apply zaf.alloc | apply zaf.drewN | apply zaf.drew | apply zaf.set_1) | exact HI0.out)); (case side2 => repeat (first | (with_reducible first | exact HB.out | apply zac | apply zab | apply zad | refine zan ?_ (zaf.ge HI0.out)) | exact HB.out)); rintro e w32 ⟨rfl, hi, hb, hk⟩; refine ⟨_, rfl, ?_⟩; have n0_ := zaa.mk (zai.trans (by repeat (first | (with_reducible first | exact HK.out | apply zai.set_ | apply zal | apply zaq | apply zam) | exact HK.out)) hk (.inl rfl)); have n1_ := zaa.mk (hb); have n2_ := zaa.mk (hi); clear HK; clear HB; clear HI0; have HK := n0_; have HB := n1_; have HI0 := n2_; clear n0_ n1_ n2_; (try clear hb); (try clear hb2); (try clear hk); (try clear hi)) | ((with_reducible refine zah (f := 58) rfl ?_); refine zaz (some 17) rfl rfl Try.func58 (by kernel_rfl) rfl #[.pointer (some ⟨g, 0, none⟩), .int .i64 a2] rfl (by (try simp only [ybd, ybe, ybf]); first | done | rfl | (simp only [ybh, ybg]; rfl)) ?_; (with_reducible refine (spec_l6Rd_pick.calls k g s0_0 t279 a2 t280 t281 w0 _ ?side1 ?side2 A5.out).mono ?_); (case side1 => repeat (first | (with_reducible first | exact HI0.out | apply zaf.alloc | apply zaf.drewN | apply zaf.drew | apply zaf.set_1) | exact HI0.out)); (case side2 => repeat (first | (with_reducible first | exact HB.out | apply zac | apply zab | apply zad | refine zan ?_ (zaf.ge HI0.out)) | exact HB.out)); rintro e w33 ⟨rfl, hi, hb, hk⟩; refine ⟨_, rfl, ?_⟩; have n0_ := zaa.mk (zai.trans (by repeat (first | (with_reducible first | exact HK.out | apply zai.set_ | apply zal | apply zaq | apply zam) | exact HK.out)) hk (.inl rfl)); have n1_ := zaa.mk (hb); have n2_ := zaa.mk (hi); clear HK; clear HB; clear HI0; have HK := n0_; have HB := n1_; have HI0 := n2_; clear n0_ n1_ n2_; (try clear hb); (try clear hb2); (try clear hk); (try clear hi)) | ((with_reducible refine zah (f := 94) rfl ?_); refine zaz (some 19) rfl rfl Try.func94 (by kernel_rfl) rfl #[.pointer (some ⟨g, 0, none⟩), .int .i64 (wrap64 (1 + t278)), .int .i64 (wrap64 (1 + t280))] rfl (by (try simp only [ybd, ybe, ybf]); first | done | rfl | (simp only [ybh, ybg]; rfl)) ?_; (with_reducible refine (spec_l91Plan.calls k g s0_0 t281 (wrap64 (1 + t278)) (wrap64 (1 + t280)) t282 t285 w0 _ ?side1 ?side2 A6.out).mono ?_); (case side1 => repeat (first | (with_reducible first | exact HI0.out | apply zaf.alloc | apply zaf.drewN | apply zaf.drew | apply zaf.set_1) | exact HI0.out)); (case side2 => repeat (first | (with_reducible first | exact HB.out | apply zac | apply zab | apply zad | refine zan ?_ (zaf.ge HI0.out)) | exact HB.out)); rintro e w34 ⟨v283, rfl, ho0, hi, hb, hk⟩; refine ⟨_, rfl, ?_⟩; have n0_ := zaa.mk (Kd.V_lower (Kd.V_mono (ok' := fun k_ => (w.heap.size ≤ k_) ∧ k_ ≠ g) ho0 (fun k_ hk_ => ⟨(Nat.le_trans (zbg (w := w) (g := g) (row := none) (by repeat (first | (with_reducible first | exact HK.out | apply zai.set_ | apply zal | apply zaq | apply zam) | exact HK.out))) hk_), (zaf.fresh (by repeat (first | (with_reducible first | exact HI0.out | apply zaf.alloc | apply zaf.drewN | apply zaf.drew | apply zaf.set_1) | exact HI0.out)) k_ hk_)⟩)) (zbg (w := w) (g := g) (row := none) (by repeat (first | (with_reducible first | exact HK.out | apply zai.set_ | apply zal | apply zaq | apply zam) | exact HK.out)))); have n1_ := zaa.mk (zai.trans (by repeat (first | (with_reducible first | exact HK.out | apply zai.set_ | apply zal | apply zaq | apply zam) | exact HK.out)) hk (.inl rfl)); have n2_ := zaa.mk (hb); have n3_ := zaa.mk (hi); clear HK; clear HB; clear HI0; have HO284 := n0_; have HK := n1_; have HB := n2_; have HI0 := n3_; clear n0_ n1_ n2_ n3_; (try clear hb); (try clear hb2); (try clear hk); (try clear hi); (try clear ho0)) | ((with_reducible refine zah (f := 58) rfl ?_); refine zaz (some 21) rfl rfl Try.func58 (by kernel_rfl) rfl #[.pointer (some ⟨g, 0, none⟩), .int .i64 50] rfl (by (try simp only [ybd, ybe, ybf]); first | done | rfl | (simp only [ybh, ybg]; rfl)) ?_; (with_reducible refine (spec_l6Rd_pick.calls k g s0_0 t285 50 t286 t287 w0 _ ?side1 ?side2 A7.out).mono ?_); (case side1 => repeat (first | (with_reducible first | exact HI0.out | apply zaf.alloc | apply zaf.drewN | apply zaf.drew | apply zaf.set_1) | exact HI0.out)); (case side2 => repeat (first | (with_reducible first | exact HB.out | apply zac | apply zab | apply zad | refine zan ?_ (zaf.ge HI0.out)) | exact HB.out)); rintro e w35 ⟨rfl, hi, hb, hk⟩; refine ⟨_, rfl, ?_⟩; have n0_ := zaa.mk (Kd.V_mono (Kd.V_keep (Kd.V_mono (ok := fun k_ => (((w.heap.size ≤ k_)) ∧ k_ ≠ g)) (by (with_reducible repeat (first | apply ybq | apply ybr | apply ybs)); exact HO284.out) (fun k_ hk_ => (⟨hk_, hk_.2⟩ : _ ∧ k_ ≠ g))) hk (fun _ h => h.2)) (fun _ h => h.1)); have n1_ := zaa.mk (zai.trans (by repeat (first | (with_reducible first | exact HK.out | apply zai.set_ | apply zal | apply zaq | apply zam) | exact HK.out)) hk (.inl rfl)); have n2_ := zaa.mk (hb); have n3_ := zaa.mk (hi); clear HO284; clear HK; clear HB; clear HI0; have HO284 := n0_; have HK := n1_; have HB := n2_; have HI0 := n3_; clear n0_ n1_ n2_ n3_; (try clear hb); (try clear hb2); (try clear hk); (try clear hi)) | ((with_reducible refine zbb (N := 39) rfl ?_); refine Kd.R_lit Kd.string _ 9 ?hg (N := 39) ?hd (xs := ([] : List ByteArray)) (inner := []) (ok := fun _ => True) (okp := fun _ => True) ?hr ?hp (fun _ hk => hk) trivial (Below.refl _ _) (ybm _) (by simp) ?_; (case hd => rfl); (case hg => rfl); (case hr => first | (go_simp; done) | (go_simp; rfl)); (case hp => exact (Reps.none _ _)); intro v297 w36 ho37 hb hg_ hnew_; clear hg_ hnew_; (first | rw [← Ny296.out] at ho37 | (simp only [Int.reduceToNat] at ho37; rw [← Ny296.out] at ho37)); have n0_ := zaa.mk (Kd.V_elder' (by (with_reducible repeat (first | apply ybq | apply ybr | apply ybs)); exact HO284.out) (Kd.R_base ho37) hb); have n1_ := zaa.mk (Kd.R_lower (Kd.R_newM (M := fun k_ => (w.heap.size ≤ k_)) ho37 (zbg (w := w) (g := g) (row := none) (by repeat (first | (with_reducible first | exact HK.out | apply zai.set_ | apply zal | apply zaq | apply zam) | exact HK.out))) (fun k_ h_ => h_)) (zbg (w := w) (g := g) (row := none) (by repeat (first | (with_reducible first | exact HK.out | apply zai.set_ | apply zal | apply zaq | apply zam) | exact HK.out)))); have n2_ := zaa.mk (zaf.below (by repeat (first | (with_reducible first | exact HI0.out | apply zaf.alloc | apply zaf.drewN | apply zaf.drew | apply zaf.set_1) | exact HI0.out)) hb); have n3_ := zaa.mk (zai.trans (by repeat (first | (with_reducible first | exact HK.out | apply zai.set_ | apply zal | apply zaq | apply zam) | exact HK.out)) (zai.of_below hb g none) (.inl rfl)); have n4_ := zaa.mk (zae (by repeat (first | (with_reducible first | exact HB.out | apply zac | apply zab | apply zad | refine zan ?_ (zaf.ge HI0.out)) | exact HB.out)) hb); clear HO284; clear HI0; clear HK; clear HB; have HO284 := n0_; have HO298 := n1_; have HI0 := n2_; have HK := n3_; have HB := n4_; clear n0_ n1_ n2_ n3_ n4_; clear hb ho37; obtain ⟨Ao39, co39, eo39⟩ := Kd.V_slice HO284.out; subst eo39) | ((with_reducible refine zax (b := .append) (xs := #[.tmp 39, .tmp 40]) rfl ?_); at_builtin; refine Kd.R_append_rows Kd.string w.heap.size rfl (.tmp 39) (.tmp 40) 22 9 (.string ⟨#[]⟩) 16 rfl Try.underlying22 info9 rfl (by decide) (by omega) v297 y296 t282 _ _ _ (fun k_ => (w.heap.size ≤ k_)) (fun _ => False) rfl rfl ?aO ?aR (fun _ _ h => h) (fun _ h => h.elim) ?aF (Below.refl _ _) ?aS ?aL ?_; (case aR => repeat (first | exact (Kd.V_reads' HO284.out).2.2 | (with_reducible refine ybt ?_ _) | (with_reducible refine ybu ?_ _) | (with_reducible refine ybv ?_))); (case aF => exact (fun k_ hk => (Nat.le_trans (zbg (w := w) (g := g) (row := none) (by repeat (first | (with_reducible first | exact HK.out | apply zai.set_ | apply zal | apply zaq | apply zam) | exact HK.out))) hk))); (case aO => exact (by (with_reducible repeat (first | apply ybn | apply ybo | apply ybp)); exact Kd.R_mono HO298.out (fun _ hk => hk.1))); (case aS => exact (zbg (w := w) (g := g) (row := none) (by repeat (first | (with_reducible first | exact HK.out | apply zai.set_ | apply zal | apply zaq | apply zam) | exact HK.out)))); (case aL => have := LMc27.out; omega); intro v300 w38 ho hb hg hat; rw [← Ny299.out] at ho; have n0_ := zaa.mk (zaf.grown (by repeat (first | (with_reducible first | exact HI0.out | apply zaf.alloc | apply zaf.drewN | apply zaf.drew | apply zaf.set_1) | exact HI0.out)) hg (zaf.own_ne HI0.out HO298.out (by decide))); have n1_ := zaa.mk (Kd.V_afterv (ok := (fun k_ => (w.heap.size ≤ k_) ∧ k_ ≠ g)) (by (with_reducible repeat (first | apply ybq | apply ybr | apply ybs)); exact HO284.out) hg hat); have n2_ := zaa.mk (below_weaken (by repeat (first | (with_reducible first | exact HB.out | apply zac | apply zab | apply zad | refine zan ?_ (zaf.ge HI0.out)) | exact HB.out)) HL.out hb); have n3_ := zaa.mk (zai.trans (by repeat (first | (with_reducible first | exact HK.out | apply zai.set_ | apply zal | apply zaq | apply zam) | exact HK.out)) (zai.of_grown hg g) (Kd.R_base2 HO298.out)); have n4_ := zaa.mk (ho); clear HI0; clear HO284; clear HB; clear HK; clear HO298; have HI0 := n0_; have HO284 := n1_; have HB := n2_; have HK := n3_; have HO301 := n4_; clear n0_ n1_ n2_ n3_ n4_; clear ho hb hg hat; obtain ⟨Ao40, co40, eo40⟩ := Kd.R_slice HO301.out; subst eo40; have p302 : 0 ≤ (0 : Int) := (by omega); have q302 : 0 < (y299.length : Int) := of_decide_eq_true (by assumption); obtain ⟨ad302, e302, hx302_0⟩ := Kd.at_string (Kd.R_reads' HO301.out).2.2 0 p302 q302; cases e302; have qi302 : (0 < y299.length) = True := eq_true (by omega); (try rw [show ((0 : Int)).toNat = 0 from rfl] at hx302_0); (try rw [Addr.add_zero'] at hx302_0); replace p302 := eq_true p302; replace q302 := eq_true q302; have p31 : 0 ≤ (0 : Int) := (by omega); have q31 : (0 : Int) < ((y299.length : Int) : Int) := of_decide_eq_true (by assumption); have qi31 : (0 < y299.length) = True := eq_true (by omega); obtain ⟨go31, co31, eo31, gb31, gl31, cl31, HG31⟩ := Kd.R_form HO301.out (by omega); (first | cases eo31 | (injection eo31 with ea_ en_ ec_; (first | subst ea_ | (injection ea_ with ea_; subst ea_)); subst ec_; clear en_)); have GB31 := zaa.mk gb31; have GG31 := zaa.mk HG31; clear gb31 gl31 HG31; (first | simp only [add_plain] at hx302_0 | skip); obtain ⟨hx31_0, hf31_0⟩ := Kd.R_celln (⟨#[]⟩ : ByteArray) HO301.out (0 : Int) p31 q31; (try rw [show ((0 : Int)).toNat = 0 from rfl] at hx31_0); (try simp only [Nat.reduceMul, Nat.zero_mul, Nat.zero_add, Nat.reduceAdd] at hx31_0); (try rw [show ((0 : Int)).toNat = 0 from rfl] at hf31_0); (try simp only [Nat.reduceMul, Nat.zero_mul, Nat.zero_add, Nat.reduceAdd] at hf31_0); replace p31 := eq_true p31; replace q31 := eq_true q31; obtain ⟨hy41_, hz41_⟩ := Kd.R_celln (⟨#[]⟩ : ByteArray) HO301.out (0 : Int) (by omega) (of_decide_eq_true (by assumption)); (try simp only [Int.reduceToNat, Int.toNat_zero, Int.toNat_ofNat, Nat.reduceMul, Nat.zero_mul, Nat.zero_add] at hy41_ hz41_); (try rw [show ((0 : Int)).toNat = 0 from rfl] at hy41_); (try rw [show ((0 : Int)).toNat = 0 from rfl] at hz41_); have HP41 := Kd.R_putg HO301.out (0 : Int) ((⟨#[122]⟩ : ByteArray) ++ ((rdOf ybj y299 0).extract 1 (rdOf ybj y299 0).size))) | ((with_reducible refine gate_store (t := 9) (p := 48) rfl ?_); refine store_event (t := 9) (p := 48) (v := ?vo_w42) (w1 := (w38.setCell ⟨go31, (0 : Int).toNat, none⟩ (.string ((⟨#[122]⟩ : ByteArray) ++ ((rdOf ybj y299 0).extract 1 (rdOf ybj y299 0).size))))) ?hg ?ho ?hn ?hr ?_; (case ho => rfl); (case hg => rfl); (case hn => rfl); (case hr => first | (go_simp; done) | (go_simp; rfl)); intro w42 hw; have hg : w38.grownBy w42 (some go31) := (by rw [hw]; exact HP41.2); have hp_ : Kd.R Kd.string 9 w42 w.heap.size (fun k_ => (w.heap.size ≤ k_)) (.slice (some ⟨go31, 0, none⟩) y299.length co40) y303 := (by rw [hw, Ny303.out]; exact HP41.1); clear HP41; have n0_ := zaa.mk (zaf.grown (by repeat (first | (with_reducible first | exact HI0.out | apply zaf.alloc | apply zaf.drewN | apply zaf.drew | apply zaf.set_1) | exact HI0.out)) hg (zaf.own_ne HI0.out HO301.out (by decide))); have n1_ := zaa.mk (Kd.V_afterv (v := (.slice (some ⟨go31, 0, none⟩) y299.length co40)) (v1 := (.slice (some ⟨go31, 0, none⟩) y299.length co40)) (ok := (fun k_ => (w.heap.size ≤ k_) ∧ k_ ≠ g)) (by (with_reducible repeat (first | apply ybq | apply ybr | apply ybs)); exact HO284.out) hg (.inl rfl)); have n2_ := zaa.mk (hp_); have n3_ := zaa.mk ((by rw [hw]; exact zan (HB.out) (Nat.le_trans HL.out GB31.out) : Below w0.heap.size w0 w42)); have n4_ := zaa.mk (zai.trans (by repeat (first | (with_reducible first | exact HK.out | apply zai.set_ | apply zal | apply zaq | apply zam) | exact HK.out)) (zai.of_grown hg g) (Kd.R_base2 HO301.out)); clear HI0; clear HO284; clear HO301; clear HB; clear HK; have HI0 := n0_; have HO284 := n1_; have HO301 := n2_; have HB := n3_; have HK := n4_; clear n0_ n1_ n2_ n3_ n4_; clear hg hw hp_))
       go_ret
       exact ⟨_, by first | rfl | (simp [zap, zao] <;> rfl) | (simp [*, zap, zao] <;> rfl), Kd.R_V (by (with_reducible repeat (first | apply ybn | apply ybo | apply ybp)); exact HO301.out), by repeat (first | (with_reducible first | exact HI0.out | apply zaf.alloc | apply zaf.drewN | apply zaf.drew | apply zaf.set_1) | exact HI0.out), by repeat (first | (with_reducible first | exact HB.out | apply zac | apply zab | apply zad | refine zan ?_ (zaf.ge HI0.out)) | exact HB.out), by repeat (first | (with_reducible first | exact HK.out | apply zai.set_ | apply zal | apply zaq | apply zam) | exact HK.out)⟩
      ·rw [if_neg c30] at H
       exact absurd H (by simp)
     ·rw [if_neg c29] at H
      exact absurd H (by simp)
    ·rw [if_neg c28] at H
     exact absurd H (by simp)
   ·rw [if_neg c27] at H
    exact absurd H (by simp)
  ·rw [if_neg c26] at H
   have c26b0 : (t286 == 1) = false := beq_eq_false_iff_ne.mpr c26
   have c26b1 : (t286 != 1) = true := bne_iff_ne.mpr c26
   simp only [Option.some.injEq, Prod.mk.injEq] at H
   obtain ⟨rfl, rfl⟩ := H
   go_enter Try.func57, Try.ntmps57
   go_wp2_with (first | ((with_reducible refine zah (f := 58) rfl ?_); refine zaz (some 11) rfl rfl Try.func58 (by kernel_rfl) rfl #[.pointer (some ⟨g, 0, none⟩), .int .i64 a1] rfl (by (try simp only [ybd, ybe, ybf]); first | done | rfl | (simp only [ybh, ybg]; rfl)) ?_; (with_reducible refine (spec_l6Rd_pick.calls k g s0_0 s0_1 a1 t278 t279 w0 _ ?side1 ?side2 A4.out).mono ?_); (case side1 => repeat (first | (with_reducible first | exact HI0.out | apply zaf.alloc | apply zaf.drewN | apply zaf.drew | apply zaf.set_1) | exact HI0.out)); (case side2 => repeat (first | (with_reducible first | exact HB.out | apply zac | apply zab | apply zad | refine zan ?_ (zaf.ge HI0.out)) | exact HB.out)); rintro e w43 ⟨rfl, hi, hb, hk⟩; refine ⟨_, rfl, ?_⟩; have n0_ := zaa.mk (zai.trans (by repeat (first | (with_reducible first | exact HK.out | apply zai.set_ | apply zal | apply zaq | apply zam) | exact HK.out)) hk (.inl rfl)); have n1_ := zaa.mk (hb); have n2_ := zaa.mk (hi); clear HK; clear HB; clear HI0; have HK := n0_; have HB := n1_; have HI0 := n2_; clear n0_ n1_ n2_; (try clear hb); (try clear hb2); (try clear hk); (try clear hi)) | ((with_reducible refine zah (f := 58) rfl ?_); refine zaz (some 17) rfl rfl Try.func58 (by kernel_rfl) rfl #[.pointer (some ⟨g, 0, none⟩), .int .i64 a2] rfl (by (try simp only [ybd, ybe, ybf]); first | done | rfl | (simp only [ybh, ybg]; rfl)) ?_; (with_reducible refine (spec_l6Rd_pick.calls k g s0_0 t279 a2 t280 t281 w0 _ ?side1 ?side2 A5.out).mono ?_); (case side1 => repeat (first | (with_reducible first | exact HI0.out | apply zaf.alloc | apply zaf.drewN | apply zaf.drew | apply zaf.set_1) | exact HI0.out)); (case side2 => repeat (first | (with_reducible first | exact HB.out | apply zac | apply zab | apply zad | refine zan ?_ (zaf.ge HI0.out)) | exact HB.out)); rintro e w44 ⟨rfl, hi, hb, hk⟩; refine ⟨_, rfl, ?_⟩; have n0_ := zaa.mk (zai.trans (by repeat (first | (with_reducible first | exact HK.out | apply zai.set_ | apply zal | apply zaq | apply zam) | exact HK.out)) hk (.inl rfl)); have n1_ := zaa.mk (hb); have n2_ := zaa.mk (hi); clear HK; clear HB; clear HI0; have HK := n0_; have HB := n1_; have HI0 := n2_; clear n0_ n1_ n2_; (try clear hb); (try clear hb2); (try clear hk); (try clear hi)) | ((with_reducible refine zah (f := 94) rfl ?_); refine zaz (some 19) rfl rfl Try.func94 (by kernel_rfl) rfl #[.pointer (some ⟨g, 0, none⟩), .int .i64 (wrap64 (1 + t278)), .int .i64 (wrap64 (1 + t280))] rfl (by (try simp only [ybd, ybe, ybf]); first | done | rfl | (simp only [ybh, ybg]; rfl)) ?_; (with_reducible refine (spec_l91Plan.calls k g s0_0 t281 (wrap64 (1 + t278)) (wrap64 (1 + t280)) t282 t285 w0 _ ?side1 ?side2 A6.out).mono ?_); (case side1 => repeat (first | (with_reducible first | exact HI0.out | apply zaf.alloc | apply zaf.drewN | apply zaf.drew | apply zaf.set_1) | exact HI0.out)); (case side2 => repeat (first | (with_reducible first | exact HB.out | apply zac | apply zab | apply zad | refine zan ?_ (zaf.ge HI0.out)) | exact HB.out)); rintro e w45 ⟨v283, rfl, ho0, hi, hb, hk⟩; refine ⟨_, rfl, ?_⟩; have n0_ := zaa.mk (Kd.V_lower (Kd.V_mono (ok' := fun k_ => (w.heap.size ≤ k_) ∧ k_ ≠ g) ho0 (fun k_ hk_ => ⟨(Nat.le_trans (zbg (w := w) (g := g) (row := none) (by repeat (first | (with_reducible first | exact HK.out | apply zai.set_ | apply zal | apply zaq | apply zam) | exact HK.out))) hk_), (zaf.fresh (by repeat (first | (with_reducible first | exact HI0.out | apply zaf.alloc | apply zaf.drewN | apply zaf.drew | apply zaf.set_1) | exact HI0.out)) k_ hk_)⟩)) (zbg (w := w) (g := g) (row := none) (by repeat (first | (with_reducible first | exact HK.out | apply zai.set_ | apply zal | apply zaq | apply zam) | exact HK.out)))); have n1_ := zaa.mk (zai.trans (by repeat (first | (with_reducible first | exact HK.out | apply zai.set_ | apply zal | apply zaq | apply zam) | exact HK.out)) hk (.inl rfl)); have n2_ := zaa.mk (hb); have n3_ := zaa.mk (hi); clear HK; clear HB; clear HI0; have HO284 := n0_; have HK := n1_; have HB := n2_; have HI0 := n3_; clear n0_ n1_ n2_ n3_; (try clear hb); (try clear hb2); (try clear hk); (try clear hi); (try clear ho0)) | ((with_reducible refine zah (f := 58) rfl ?_); refine zaz (some 21) rfl rfl Try.func58 (by kernel_rfl) rfl #[.pointer (some ⟨g, 0, none⟩), .int .i64 50] rfl (by (try simp only [ybd, ybe, ybf]); first | done | rfl | (simp only [ybh, ybg]; rfl)) ?_; (with_reducible refine (spec_l6Rd_pick.calls k g s0_0 t285 50 t286 t287 w0 _ ?side1 ?side2 A7.out).mono ?_); (case side1 => repeat (first | (with_reducible first | exact HI0.out | apply zaf.alloc | apply zaf.drewN | apply zaf.drew | apply zaf.set_1) | exact HI0.out)); (case side2 => repeat (first | (with_reducible first | exact HB.out | apply zac | apply zab | apply zad | refine zan ?_ (zaf.ge HI0.out)) | exact HB.out)); rintro e w46 ⟨rfl, hi, hb, hk⟩; refine ⟨_, rfl, ?_⟩; have n0_ := zaa.mk (Kd.V_mono (Kd.V_keep (Kd.V_mono (ok := fun k_ => (((w.heap.size ≤ k_)) ∧ k_ ≠ g)) (by (with_reducible repeat (first | apply ybq | apply ybr | apply ybs)); exact HO284.out) (fun k_ hk_ => (⟨hk_, hk_.2⟩ : _ ∧ k_ ≠ g))) hk (fun _ h => h.2)) (fun _ h => h.1)); have n1_ := zaa.mk (zai.trans (by repeat (first | (with_reducible first | exact HK.out | apply zai.set_ | apply zal | apply zaq | apply zam) | exact HK.out)) hk (.inl rfl)); have n2_ := zaa.mk (hb); have n3_ := zaa.mk (hi); clear HO284; clear HK; clear HB; clear HI0; have HO284 := n0_; have HK := n1_; have HB := n2_; have HI0 := n3_; clear n0_ n1_ n2_ n3_; (try clear hb); (try clear hb2); (try clear hk); (try clear hi)))
   go_ret
   exact ⟨_, by first | rfl | (simp [zap, zao] <;> rfl) | (simp [*, zap, zao] <;> rfl), by (with_reducible repeat (first | apply ybq | apply ybr | apply ybs)); exact Kd.V_mono HO284.out (fun _ hk => hk.1), by repeat (first | (with_reducible first | exact HI0.out | apply zaf.alloc | apply zaf.drewN | apply zaf.drew | apply zaf.set_1) | exact HI0.out), by repeat (first | (with_reducible first | exact HB.out | apply zac | apply zab | apply zad | refine zan ?_ (zaf.ge HI0.out)) | exact HB.out), by repeat (first | (with_reducible first | exact HK.out | apply zai.set_ | apply zal | apply zaq | apply zam) | exact HK.out)⟩
def spec_l91One.f (k : Nat) (l0 : List Int) : Option (List ByteArray) := (spec_l6Open.f l0).bind fun bt317 => ((spec_l91Some.f k bt317.1 bt317.2 5 5).bind fun bt320 => (some bt320.1))
set_option maxHeartbeats 8000000 in
set_option maxRecDepth 100000 in
theorem spec_l91One.calls (k : Nat) (A0 : Option Addr) (c0 : Nat) (l0 : List Int) (r : List ByteArray) (w : World) (hr0 : Kd.C (Kd.int .u8) w A0 l0.length l0) (hc0 : l0.length ≤ c0) (h : spec_l91One.f k l0 = some r) :
  Calls Try.prog 60 #[.slice A0 l0.length c0] w fun e w' => ∃ v0_ : Value, e = .returned (v0_) ∧ Kd.V Kd.string 9 w' w.heap.size (fun k_ => (w.heap.size ≤ k_)) v0_ r ∧ Below w.heap.size w w' := by
 have HR0 := zaa.mk hr0
 have HC0 := zaa.mk hc0
 clear hr0 hc0
 have HB := zaa.mk (Below.refl w.heap.size w)
 have H : ((spec_l6Open.f l0).bind fun bt317 => ((spec_l91Some.f k bt317.1 bt317.2 5 5).bind fun bt320 => (some bt320.1))) = some r := h
 clear h
 replace H := ybk.mp H
 obtain ⟨⟨t317, t318⟩, A20, H⟩ := H
 replace H : ((spec_l91Some.f k t317 t318 5 5).bind fun bt320 => (some bt320.1)) = some r := H
 have A2 := zaa.mk A20
 clear A20
 replace H := ybk.mp H
 obtain ⟨⟨t320, t323⟩, A30, H⟩ := H
 replace H : (some t320) = some r := H
 have A3 := zaa.mk A30
 clear A30
 obtain rfl := Option.some.inj H
 go_enter Try.func60, Try.ntmps60
 go_wp2_with (first | ((with_reducible refine zah (f := 56) rfl ?_); refine zaz (some 4) rfl rfl Try.func56 (by kernel_rfl) rfl #[.slice A0 l0.length c0] rfl (by (try simp only [ybd, ybe, ybf]); first | done | rfl | (simp only [ybh, ybg]; rfl)) ?_; (with_reducible refine (spec_l6Open.calls _ _ l0 t317 t318 w _ ?side1 ?side2 ?side3 A2.out).mono ?_); (case side1 => repeat (first | (with_reducible first | exact HB.out | apply zac | apply zab | apply zad) | exact HB.out)); (case side2 => exact HR0.out); (case side3 => exact HC0.out); rintro e w4 ⟨g319, rfl, hi, hb, hb2⟩; refine ⟨_, rfl, ?_⟩; have n0_ := zaa.mk (hb); have n1_ := zaa.mk (hi); clear HB; have HB := n0_; have HI319 := n1_; clear n0_ n1_; (try clear hb); (try clear hb2); (try clear hk); (try clear hi)) | ((with_reducible refine zah (f := 57) rfl ?_); refine zaz (some 5) rfl rfl Try.func57 (by kernel_rfl) rfl #[.pointer (some ⟨g319, 0, none⟩), .int .i64 5, .int .i64 5] rfl (by (try simp only [ybd, ybe, ybf]); first | done | rfl | (simp only [ybh, ybg]; rfl)) ?_; (with_reducible refine (spec_l91Some.calls k g319 t317 t318 5 5 t320 t323 w _ ?side1 ?side2 A3.out).mono ?_); (case side1 => repeat (first | (with_reducible first | exact HI319.out | apply zaf.alloc | apply zaf.drewN | apply zaf.drew | apply zaf.set_1) | exact HI319.out)); (case side2 => repeat (first | (with_reducible first | exact HB.out | apply zac | apply zab | apply zad | refine zan ?_ (zaf.ge HI319.out)) | exact HB.out)); rintro e w5 ⟨v321, rfl, ho0, hi, hb, hk⟩; refine ⟨_, rfl, ?_⟩; have n0_ := zaa.mk (Kd.V_lower (Kd.V_mono (ok' := fun k_ => (w.heap.size ≤ k_) ∧ k_ ≠ g319) ho0 (fun k_ hk_ => ⟨(Nat.le_trans (zag (by repeat (first | (with_reducible first | exact HB.out | apply zac | apply zab | apply zad | refine zan ?_ (zaf.ge HI319.out)) | exact HB.out))) hk_), (zaf.fresh (by repeat (first | (with_reducible first | exact HI319.out | apply zaf.alloc | apply zaf.drewN | apply zaf.drew | apply zaf.set_1) | exact HI319.out)) k_ hk_)⟩)) (zag (by repeat (first | (with_reducible first | exact HB.out | apply zac | apply zab | apply zad | refine zan ?_ (zaf.ge HI319.out)) | exact HB.out)))); have n1_ := zaa.mk (hb); have n2_ := zaa.mk (hi); clear HB; clear HI319; have HO322 := n0_; have HB := n1_; have HI319 := n2_; clear n0_ n1_ n2_; (try clear hb); (try clear hb2); (try clear hk); (try clear hi); (try clear ho0)))
 go_ret
 exact ⟨_, by first | rfl | (simp [zap, zao] <;> rfl) | (simp [*, zap, zao] <;> rfl), by (with_reducible repeat (first | apply ybq | apply ybr | apply ybs)); exact Kd.V_mono HO322.out (fun _ hk => hk.1), by repeat (first | (with_reducible first | exact HB.out | apply zac | apply zab | apply zad | refine zan ?_ (zaf.ge HI319.out)) | exact HB.out)⟩
def spec_DrawPlanTight.f (k : Nat) (l0 : List Int) : Option (List ByteArray) := (spec_l91One.f k l0).bind fun t327 => (some t327)
set_option maxHeartbeats 8000000 in
set_option maxRecDepth 100000 in
theorem spec_DrawPlanTight.calls (k : Nat) (A0 : Option Addr) (c0 : Nat) (l0 : List Int) (r : List ByteArray) (w : World) (hr0 : Kd.C (Kd.int .u8) w A0 l0.length l0) (hc0 : l0.length ≤ c0) (h : spec_DrawPlanTight.f k l0 = some r) :
  Calls Try.prog 35 #[.slice A0 l0.length c0] w fun e w' => ∃ v0_ : Value, e = .returned (v0_) ∧ Kd.V Kd.string 9 w' w.heap.size (fun k_ => (w.heap.size ≤ k_)) v0_ r ∧ Below w.heap.size w w' := by
 have HR0 := zaa.mk hr0
 have HC0 := zaa.mk hc0
 clear hr0 hc0
 have HB := zaa.mk (Below.refl w.heap.size w)
 have H : ((spec_l91One.f k l0).bind fun t327 => (some t327)) = some r := h
 clear h
 replace H := ybk.mp H
 obtain ⟨t327, A20, H⟩ := H
 replace H : (some t327) = some r := H
 have A2 := zaa.mk A20
 clear A20
 obtain rfl := Option.some.inj H
 go_enter Try.func35, Try.ntmps35
 go_wp2_with (first | ((with_reducible refine zah (f := 60) rfl ?_); refine zaz (some 4) rfl rfl Try.func60 (by kernel_rfl) rfl #[.slice A0 l0.length c0] rfl (by (try simp only [ybd, ybe, ybf]); first | done | rfl | (simp only [ybh, ybg]; rfl)) ?_; (with_reducible refine (spec_l91One.calls k _ _ l0 t327 _ ?side1 ?side2 A2.out).mono ?_); (case side1 => repeat (first | exact HR0.out | (with_reducible refine ybt ?_ _) | (with_reducible refine ybu ?_ _) | (with_reducible refine ybv ?_))); (case side2 => exact HC0.out); rintro e w3 ⟨v328, rfl, ho0, hb⟩; refine ⟨_, rfl, ?_⟩; have n0_ := zaa.mk (Kd.V_lower (Kd.V_mono (ok' := fun k_ => (w.heap.size ≤ k_)) ho0 (fun k_ hk_ => (Nat.le_trans (zag (by repeat (first | (with_reducible first | exact HB.out | apply zac | apply zab | apply zad) | exact HB.out))) hk_))) (zag (by repeat (first | (with_reducible first | exact HB.out | apply zac | apply zab | apply zad) | exact HB.out)))); have n1_ := zaa.mk (zae (by repeat (first | (with_reducible first | exact HB.out | apply zac | apply zab | apply zad) | exact HB.out)) hb); clear HB; have HO329 := n0_; have HB := n1_; clear n0_ n1_; (try clear hb); (try clear hb2); (try clear hk); (try clear hi); (try clear ho0)))
 go_ret
 exact ⟨_, by first | rfl | (simp [zap, zao] <;> rfl) | (simp [*, zap, zao] <;> rfl), by (with_reducible repeat (first | apply ybq | apply ybr | apply ybs)); exact HO329.out, by repeat (first | (with_reducible first | exact HB.out | apply zac | apply zab | apply zad) | exact HB.out)⟩
end Go.Proofs.Ytickdcegnlldjaa.SM
namespace Go.Proofs.Ytickdcegnlldjaa.Hd
open Go.RowKit Go.PW.PrintWords Go.PW.PrintLast Go.PW.PrintMore Go.Proofs.Ytickdcegnlldjaa.PB
section
variable {P : Program} {ops : Array Oper} {Q : Exit → Act → World → Prop}
theorem goesv_ {oi : Oper} {N : Option Tmp} {a : Act} {w : World} {K : Act → World → Prop} {f : FuncId} {fn : Func} {x : Operand} {captured : Array Value} {xs_ : Array Operand} {ts : Array TypeId} (hf : P.funcs[f]? = some fn) (hname : (fn.name == "runtime.NumGoroutine") = false) (hb : fn.body.isSome = true) (args : Array Value)
  (hw : Region.wanted oi (yielded ops a.tmps) = true) (hN : oi.dst = N) (hop : oi.op = .call { callee := .value x, args := xs_, argTypes := ts }) (hx : a.eval x = .func (.func f) #[] captured) (hargs : xs_.map a.eval = args)
  (h : Calls P f (args ++ captured) w fun e w' => ∃ v, e = .returned v ∧ K (a.put N v) w') : if Region.wanted oi (yielded ops a.tmps) = true then Oper.wp P oi a w K Q else K (a.put N undef) w := by
 refine call_ f (args ++ captured) hw hN ?_ h
 have he := enters_ hf hname hb (args ++ captured) w
 unfold execOp
 simp [hop, resolve, Deferred.ofValue, invoke, hx, hargs, he]
theorem goesvL_ {rest : List Oper} {oi : Oper} {a : Act} {w : World} (N : Option Tmp) (hd : oi.dst = N) (hg : oi.guard = none) {f : FuncId} {fn : Func} {x : Operand} {captured : Array Value} {xs_ : Array Operand} {ts : Array TypeId} (hf : P.funcs[f]? = some fn) (hname : (fn.name == "runtime.NumGoroutine") = false) (hb : fn.body.isSome = true) (args : Array Value)
  (hop : oi.op = .call { callee := .value x, args := xs_, argTypes := ts }) (hx : a.eval x = .func (.func f) #[] captured) (hargs : xs_.map a.eval = args)
  (h : Calls P f (args ++ captured) w fun e w' => ∃ v, e = .returned v ∧ wpList P ops Q rest (a.put N v) w') : wpList P ops Q (oi :: rest) a w := by
 refine wpList_plain hg fun K hK => ?_
 have he := enters_ hf hname hb (args ++ captured) w
 have hrun : (execOp a.eval oi).run P w = .ok (.enter f (args ++ captured)) w := by
  unfold execOp
  simp [hop, resolve, Deferred.ofValue, invoke, hx, hargs, he]
 unfold Oper.wp
 rw [hrun, Oper.upon_enter]
 refine h.mono fun e w'' hh => ?_
 obtain ⟨v, rfl, hk⟩ := hh
 subst hd
 exact hK _ _ hk
end
theorem zip_at {α β : Type} {xs : List α} {ys : List β} {i : Nat} {x : α} {y : β} (hx : xs[i]? = some x) (hy : ys[i]? = some y) : (xs.zip ys)[i]? = some (x, y) := by
 simp [List.zip, List.getElem?_zipWith, hx, hy]
theorem nodup_at {xs : List Nat} (h : xs.Nodup) {i k x : Nat} (hi : xs[i]? = some x) (hk : xs[k]? = some x) : i = k := by
 induction xs generalizing i k with
 | nil => simp at hi
 | cons a r ih =>
  rw [List.nodup_cons] at h
  cases i with
  | zero =>
   cases k with
   | zero => rfl
   | succ k =>
    simp at hi hk
    subst hi
    exact absurd (List.mem_of_getElem? hk) h.1
  | succ i =>
   cases k with
   | zero =>
    simp at hi hk
    subst hk
    exact absurd (List.mem_of_getElem? hi) h.1
   | succ k =>
    simp at hi hk
    rw [ih h.2 hi hk]
def rowV (p : Nat × List Int) : Value := .slice (some ⟨p.1, 0, none⟩) p.2.length p.2.length
structure MatAt (W : World) (g n : Nat) (bs : List Nat) (rows : List (List Int)) : Prop where
 len : bs.length = rows.length
 top : W.heap[g]? = some (.cells ((bs.zip rows).map rowV ++ List.replicate (n - rows.length) (Value.slice none 0 0)).toArray 24 (0, 0))
 row : ∀ (i : Nat) (b : Nat) (r : List Int), bs[i]? = some b → rows[i]? = some r → W.heap[b]? = some (.cells (r.map (Value.int .i64)).toArray 3 (0, 0))
 nodup : (g :: bs).Nodup
theorem MatAt.move {W W1 : World} {g n : Nat} {bs : List Nat} {rows : List (List Int)} (h : MatAt W g n bs rows) (hm : ∀ k, k ∈ g :: bs → W1.heap[k]? = W.heap[k]?) : MatAt W1 g n bs rows :=
 ⟨h.len, (hm g List.mem_cons_self).trans h.top, fun i b r hb hr => (hm b (List.mem_cons_of_mem _ (List.mem_of_getElem? hb))).trans (h.row i b r hb hr), h.nodup⟩
theorem MatAt.lt {W : World} {g n : Nat} {bs : List Nat} {rows : List (List Int)} (h : MatAt W g n bs rows) : ∀ k, k ∈ g :: bs → k < W.heap.size := by
 intro k hk
 rcases List.mem_cons.1 hk with rfl | hk
 ·exact (Array.getElem?_eq_some_iff.1 h.top).1
 ·obtain ⟨i, hi, rfl⟩ := List.getElem_of_mem hk
  have hr : i < rows.length := by rw [← h.len]; exact hi
  exact (Array.getElem?_eq_some_iff.1 (h.row i _ _ (List.getElem?_eq_getElem hi) (List.getElem?_eq_getElem hr))).1
theorem MatAt.topCell {W : World} {g n : Nat} {bs : List Nat} {rows : List (List Int)} (h : MatAt W g n bs rows) (i : Nat) (b : Nat) (r : List Int) (hb : bs[i]? = some b) (hr : rows[i]? = some r) : W.cell? ⟨g, i, none⟩ = some (.slice (some ⟨b, 0, none⟩) r.length r.length) := by
 simp only [World.cell?, h.top]
 have h1 : ((bs.zip rows).map rowV)[i]? = some (rowV (b, r)) := by
  rw [List.getElem?_map, zip_at hb hr]; rfl
 have h2 := (List.getElem?_eq_some_iff.1 h1).1
 simp only [Option.isSome_none, Bool.false_eq_true, if_false]
 rw [List.getElem?_toArray, List.getElem?_append_left h2, h1]
 rfl
theorem MatAt.rowCell {W : World} {g n : Nat} {bs : List Nat} {rows : List (List Int)} (h : MatAt W g n bs rows) (i j : Nat) (b : Nat) (r : List Int) (x : Int) (hb : bs[i]? = some b) (hr : rows[i]? = some r) (hx : r[j]? = some x) : W.cell? ⟨b, j, none⟩ = some (.int .i64 x) ∧ W.frozen? ⟨b, j, none⟩ = false := by
 have h1 := h.row i b r hb hr
 refine ⟨?_, by simp [World.frozen?, h1]⟩
 simp only [World.cell?, h1]
 simp [hx]
theorem MatAt.reads {W : World} {g n : Nat} {bs : List Nat} {rows : List (List Int)} (h : MatAt W g n bs rows) (hn : rows.length ≤ 1048576) (hm : ∀ r ∈ rows, r.length ≤ 1048576) : (Kd.slice 3 (Kd.int .i64)).C W (some ⟨g, 0, none⟩) rows.length rows := by
 refine ⟨rfl, by omega, fun _ => ⟨_, rfl, fun i r hr => ?_⟩⟩
 have hi := (List.getElem?_eq_some_iff.1 hr).1
 obtain ⟨b, hb⟩ : ∃ b, bs[i]? = some b := ⟨_, List.getElem?_eq_getElem (by rw [h.len]; exact hi)⟩
 have hrl := hm r (List.mem_of_getElem? hr)
 refine ⟨[.slice (some ⟨b, 0, none⟩) r.length r.length], rfl, ⟨_, _, rfl, ybm _, rfl, by omega, fun _ => ⟨_, rfl, fun j x hx => ?_⟩⟩, fun k u hu => ?_⟩
 ·refine ⟨[.int .i64 x], rfl, rfl, fun k u hu => ?_⟩
  have hk : k = 0 := by
   rcases Nat.eq_zero_or_pos k with h0 | h0
   ·exact h0
   ·rw [List.getElem?_eq_none (by simp; omega)] at hu; cases hu
  subst hk
  have hu' : Value.int .i64 x = u := by simpa using hu
  subst hu'
  show W.cell? ((⟨b, 0, none⟩ : Addr).add (j * 1 + 0)) = _
  rw [Nat.mul_one, Nat.add_zero, add_plain]
  exact (h.rowCell i j b r x hb hr hx).1
 ·have hk : k = 0 := by
   rcases Nat.eq_zero_or_pos k with h0 | h0
   ·exact h0
   ·rw [List.getElem?_eq_none (by simp; omega)] at hu; cases hu
  subst hk
  have hu' : Value.slice (some ⟨b, 0, none⟩) r.length r.length = u := by simpa using hu
  subst hu'
  show W.cell? ((⟨g, 0, none⟩ : Addr).add (i * 1 + 0)) = _
  rw [Nat.mul_one, Nat.add_zero, add_plain]
  exact h.topCell i b r hb hr
theorem MatAt.set {W : World} {g n : Nat} {bs : List Nat} {rows : List (List Int)} (h : MatAt W g n bs rows) (i j : Nat) (b : Nat) (r : List Int) (x : Int) (hb : bs[i]? = some b) (hr : rows[i]? = some r) : MatAt (W.setCell ⟨b, j, none⟩ (.int .i64 x)) g n bs (rows.set i (r.set j x)) := by
 have hbm : b ∈ bs := List.mem_of_getElem? hb
 have hgb : g ≠ b := fun e => (List.nodup_cons.1 h.nodup).1 (e ▸ hbm)
 have hil := (List.getElem?_eq_some_iff.1 hb).1
 have hrl := (List.getElem?_eq_some_iff.1 hr).1
 refine ⟨by rw [List.length_set]; exact h.len, ?_, fun k b' r' hb' hr' => ?_, h.nodup⟩
 ·rw [Below.heap_setCell _ _ _ _ hgb, h.top, List.length_set]
  have h1 : (bs.zip (rows.set i (r.set j x))).map rowV = (bs.zip rows).map rowV := by
   apply List.ext_getElem?
   intro k
   simp only [List.getElem?_map]
   by_cases hk : i = k
   ·subst hk
    rw [zip_at hb hr, zip_at hb (List.getElem?_set_self hrl)]
    simp [rowV]
   ·congr 1
    simp only [List.zip, List.getElem?_zipWith, List.getElem?_set_ne hk]
  rw [h1]
 ·by_cases hk : i = k
  ·subst hk
   rw [hb] at hb'
   obtain rfl := Option.some.inj hb'
   rw [List.getElem?_set_self hrl] at hr'
   obtain rfl := Option.some.inj hr'
   have h1 := h.row i b r hb hr
   simp only [World.setCell, Array.getElem?_modify, if_true]
   rw [h1]
   simp [List.map_set]
  ·have hne : b' ≠ b := fun e => by
    subst e
    exact hk (nodup_at (List.nodup_cons.1 h.nodup).2 hb hb')
   rw [Below.heap_setCell _ _ _ _ hne]
   rw [List.getElem?_set_ne hk] at hr'
   exact h.row k b' r' hb' hr'
theorem MatAt.push {W W1 : World} {g n b : Nat} {bs : List Nat} {rows : List (List Int)} {r : List Int} (h : MatAt W g n bs rows) (hk : rows.length < n) (hb : ∀ k, k ∈ g :: bs → k ≠ b)
  (htop : W1.heap[g]? = some (.cells ((((bs.zip rows).map rowV ++ List.replicate (n - rows.length) (Value.slice none 0 0)).set rows.length (rowV (b, r))).toArray) 24 (0, 0)))
  (hrow : W1.heap[b]? = some (.cells (r.map (Value.int .i64)).toArray 3 (0, 0))) (hm : ∀ k, k ∈ bs → W1.heap[k]? = W.heap[k]?) : MatAt W1 g n (bs ++ [b]) (rows ++ [r]) := by
 refine ⟨by simp [h.len], ?_, fun i b' r' hb' hr' => ?_, ?_⟩
 ·rw [htop]
  congr 3
  have h1 : ((bs.zip rows).map rowV).length = rows.length := by simp [h.len]
  rw [List.set_append_right _ _ (by omega), h1, Nat.sub_self, List.zip_append h.len, List.map_append, List.append_assoc]
  congr 1
  obtain ⟨m, hm⟩ : ∃ m, n - rows.length = m + 1 := ⟨n - rows.length - 1, by omega⟩
  rw [hm, List.replicate_succ, ybb, List.length_append, List.length_singleton, show n - (rows.length + 1) = m by omega]
  rfl
 ·rcases Nat.lt_or_ge i rows.length with hi | hi
  ·rw [List.getElem?_append_left (by rw [h.len]; exact hi)] at hb'
   rw [List.getElem?_append_left hi] at hr'
   rw [hm b' (List.mem_of_getElem? hb')]
   exact h.row i b' r' hb' hr'
  ·have : i = rows.length := by
    have := (List.getElem?_eq_some_iff.1 hr').1
    simp at this
    omega
   subst this
   rw [← h.len] at hb'
   simp at hb' hr'
   subst hb'; subst hr'
   exact hrow
 ·have h0 := h.nodup
  rw [← List.cons_append, List.nodup_append]
  exact ⟨h0, by simp, fun a ha c hc => by
   simp at hc
   subst hc
   exact hb a ha⟩
end Go.Proofs.Ytickdcegnlldjaa.Hd
namespace Go.Proofs.Ytickdcegnlldjaa.Hd
open Go.RowKit Go.PW.PrintWords Go.PW.PrintLast Go.PW.PrintMore Go.Proofs.Ytickdcegnlldjaa.PB
theorem C_row {α : Type} {d : Kd α} {e : Nat} {w : World} {A : Option Addr} {n : Nat} {xs : List (List α)} (h : (Kd.slice e d).C w A n xs) (i : Nat) (x : List α) (hx : xs[i]? = some x) :
  ∃ ad Ai ci, A = some ad ∧ w.cell? (ad.add i) = some (.slice Ai x.length ci) ∧ x.length ≤ ci ∧ d.C w Ai x.length x := by
 have hi := (List.getElem?_eq_some_iff.1 hx).1
 obtain ⟨ad, e1, hc⟩ := h.2.2 (by have := h.1; omega)
 obtain ⟨c, hs, ⟨Ai, ci, rfl, hl, hr⟩, hcell⟩ := hc i x hx
 refine ⟨ad, Ai, ci, e1, ?_, hl, hr⟩
 have := hcell 0 (.slice Ai x.length ci) rfl
 simpa [Kd.slice] using this
theorem C_len {α : Type} {d : Kd α} {w : World} {A : Option Addr} {n : Nat} {xs : List α} (h : d.C w A n xs) : xs.length = n ∧ n ≤ 9223372036854775807 := ⟨h.1, h.2.1⟩
def PredFn (P : Program) (f : FuncId) (caps : Array Value) (w : World) (p : List Int → Bool) : Prop :=
 ∀ (W : World) (row : List Int) (A : Option Addr) (c : Nat), Below w.heap.size w W → (Kd.int .i64).C W A row.length row → row.length ≤ c → Calls P f (#[.slice A row.length c] ++ caps) W fun e W' => e = .returned (.bool (p row)) ∧ Below W.heap.size W W'
def IndexPost (w : World) (rows : List (List Int)) (p : List Int → Bool) (e : Ending) (w' : World) : Prop := ∃ i : Int, e = .returned (.int .i64 i) ∧ decide (0 ≤ i) = rows.any p ∧ Below w.heap.size w w'
set_option maxHeartbeats 4000000 in
set_option maxRecDepth 100000 in
theorem index_calls (f : FuncId) (fn : Func) (hf : Try.prog.funcs[f]? = some fn) (hname : (fn.name == "runtime.NumGoroutine") = false) (hb : fn.body.isSome = true) (caps : Array Value) (p : List Int → Bool) (A0 : Option Addr) (c0 : Nat) (rows : List (List Int)) (w : World)
  (hr0 : (Kd.slice 3 (Kd.int .i64)).C w A0 rows.length rows) (hp : PredFn Try.prog f caps w p) :
  Calls Try.prog 99 #[.slice A0 rows.length c0, .func (.func f) #[] caps] w (IndexPost w rows p) := by
 have hn := (C_len hr0).2
 have HR0 := zaa.mk hr0
 have HP := zaa.mk hp
 have HF := zaa.mk hf
 have HN := zaa.mk hname
 have HBd := zaa.mk hb
 clear hr0 hp hf hname hb
 have b1 : (rows.length : Int) ≤ 9223372036854775807 := by omega
 go_enter Try.func99, Try.ntmps99
 go_wp2
 go_loopg [8] rows.length (fun kq v8 w' => ∃ i : Nat, v8 = .int .i64 (i : Int) ∧ zaa (i + kq = rows.length) ∧ zaa ((rows.take i).any p = false) ∧ zaa (Below w.heap.size w w'))
 case atStart => exact ⟨0, rfl, ⟨by omega⟩, ⟨by simp⟩, ⟨Below.refl _ _⟩⟩
 case round =>
  obtain ⟨i, rfl, HK, HA, HB⟩ := hrel
  by_cases hi : i < rows.length
  ·have hlt : (i : Int) < rows.length := by omega
   have hi0 : (0 : Int) ≤ i := by omega
   obtain ⟨row, hrow⟩ : ∃ row, rows[i]? = some row := ⟨_, List.getElem?_eq_getElem hi⟩
   obtain ⟨ad, Ai, ci, e1, hx, hl, hr⟩ := C_row HR0.out i row hrow
   cases e1
   replace hx := zar HB.out hx
   have HRi := zaa.mk (Kd.C_below hr HB.out)
   have HLi := zaa.mk hl
   have HRow := zaa.mk hrow
   have HT := zaa.mk (show (rows.take (i + 1)).any p = p row by
    rw [List.take_add_one, hrow, List.any_append, HA.out]; simp)
   clear hr hl hrow
   generalize hpv : p row = b at HT
   have HPV := zaa.mk hpv
   clear hpv
   cases b
   ·go_wp2_with (first | ((with_reducible refine zbb (N := 16) rfl ?_); refine goesvL_ (some 16) rfl rfl HF.out HN.out HBd.out #[.slice Ai row.length ci] rfl rfl (by (try simp only [ybd, ybe, ybf]); first | done | rfl) ?_; refine (HP.out _ row Ai ci HB.out HRi.out HLi.out).mono ?_; rintro e w8 ⟨rfl, hb8⟩; rw [HPV.out]; refine ⟨_, rfl, ?_⟩; have HB8 := zaa.mk (zae HB.out hb8); clear hb8))
    go_roundg (rows.length - (i + 1))
    case measure => have := HK.out; omega
    case rel => exact ⟨i + 1, by first | rfl | (congr 1; omega), ⟨by have := HK.out; omega⟩, HT, HB8⟩
   ·go_wp2_with (first | ((with_reducible refine zbb (N := 16) rfl ?_); refine goesvL_ (some 16) rfl rfl HF.out HN.out HBd.out #[.slice Ai row.length ci] rfl rfl (by (try simp only [ybd, ybe, ybf]); first | done | rfl) ?_; refine (HP.out _ row Ai ci HB.out HRi.out HLi.out).mono ?_; rintro e w8 ⟨rfl, hb8⟩; rw [HPV.out]; refine ⟨_, rfl, ?_⟩; have HB8 := zaa.mk (zae HB.out hb8); clear hb8))
    go_ret
    refine ⟨i, rfl, ?_, HB8.out⟩
    rw [decide_eq_true (by omega), ← List.take_append_drop (i + 1) rows, List.any_append, HT.out]
    rfl
  ·have hge : ¬ (i : Int) < rows.length := by omega
   obtain rfl : i = rows.length := by have := HK.out; omega
   go_wp2
   go_ret
   refine ⟨-1, rfl, ?_, HB.out⟩
   have := HA.out
   rw [List.take_length] at this
   rw [this]
   rfl
set_option maxHeartbeats 4000000 in
set_option maxRecDepth 100000 in
theorem contains_calls (f : FuncId) (fn : Func) (hf : Try.prog.funcs[f]? = some fn) (hname : (fn.name == "runtime.NumGoroutine") = false) (hb : fn.body.isSome = true) (caps : Array Value) (p : List Int → Bool) (A0 : Option Addr) (c0 : Nat) (rows : List (List Int)) (w : World)
  (hr0 : (Kd.slice 3 (Kd.int .i64)).C w A0 rows.length rows) (hp : PredFn Try.prog f caps w p) :
  Calls Try.prog 74 #[.slice A0 rows.length c0, .func (.func f) #[] caps] w fun e w' => e = .returned (.bool (rows.any p)) ∧ Below w.heap.size w w' := by
 have H := zaa.mk (index_calls f fn hf hname hb caps p A0 c0 rows w hr0 hp)
 clear hr0 hp hf hname hb
 generalize hv : rows.any p = v
 have HV := zaa.mk hv
 clear hv
 go_enter Try.func74, Try.ntmps74
 go_wp2_with (first | (go_at_call 99; refine H.out.mono ?_; rintro e w8 ⟨i, rfl, hi, hb8⟩; rw [HV.out] at hi; have HB8 := zaa.mk hb8; clear hb8))
 go_ret
 exact ⟨by rw [← hi]; rfl, HB8.out⟩
set_option maxHeartbeats 4000000 in
set_option maxRecDepth 100000 in
theorem settled1_pred (w : World) (gw wide : Nat) (hw : w.cell? ⟨gw, 0, none⟩ = some (.int .i64 (wide : Int))) (hwl : wide ≤ 1048576) : PredFn Try.prog 116 #[.pointer (some ⟨gw, 0, none⟩)] w (fun row => row.length != wide) := by
 intro W row A c hb hr hc
 have hx := zar hb hw
 have HB := zaa.mk hb
 have hrl := (C_len hr).2
 clear hb hw hr hc
 by_cases h : row.length = wide
 ·subst h
  show Calls _ _ #[.slice A row.length c, .pointer (some ⟨gw, 0, none⟩)] W _
  go_enter Try.func116, Try.ntmps116
  go_wp2
  go_ret
  exact ⟨by simp, Below.refl _ _⟩
 ·have hne : ((row.length : Int) != (wide : Int)) = true := by rw [bne_iff_ne]; omega
  have hne2 : (row.length != wide) = true := by rw [bne_iff_ne]; exact h
  rw [show (fun row : List Int => row.length != wide) row = true from hne2]
  show Calls _ _ #[.slice A row.length c, .pointer (some ⟨gw, 0, none⟩)] W _
  go_enter Try.func116, Try.ntmps116
  go_wp2
  go_ret
  exact ⟨by simp, Below.refl _ _⟩
open Go.Maps Go.WideMaps
def putPlace (D : DataW Unit) (p : Int × Nat) : DataW Unit := D.put (.int .i64 p.1) (.lit (.int .i64 (p.2 : Int)))
def mapD (ks : List Int) : DataW Unit := ks.zipIdx.foldl putPlace (.map [])
theorem mapD_snoc (ks : List Int) (x : Int) : mapD (ks ++ [x]) = (mapD ks).put (.int .i64 x) (.lit (.int .i64 (ks.length : Int))) := by
 simp [mapD, List.zipIdx_append, putPlace]
theorem list_snoc_ind {α : Type} {p : List α → Prop} (h0 : p []) (h1 : ∀ xs x, p xs → p (xs ++ [x])) : ∀ xs, p xs := by
 intro xs
 have : ∀ n (xs : List α), xs.length = n → p xs := by
  intro n
  induction n with
  | zero => intro xs h; rw [List.eq_nil_of_length_eq_zero h]; exact h0
  | succ n ih =>
   intro xs h
   have hne : xs ≠ [] := by intro e; rw [e] at h; simp at h
   rw [← List.dropLast_concat_getLast hne]
   exact h1 _ _ (ih _ (by simp [h]))
 exact this _ xs rfl
theorem mapD_isMap (ks : List Int) : IsMap (mapD ks) := by
 refine list_snoc_ind (p := fun ks => IsMap (mapD ks)) isMap_empty (fun xs x ih => ?_) ks
 rw [mapD_snoc]
 exact ih.put _ _
theorem key_ne {x y : Int} (h : x ≠ y) : (Lit.int .i64 x) ≠ Lit.int .i64 y := by
 intro e
 injection e with _ e
 exact h e
theorem mapD_has (ks : List Int) (x : Int) : has (mapD ks) (.int .i64 x) = decide (x ∈ ks) := by
 refine list_snoc_ind (p := fun ks => has (mapD ks) (.int .i64 x) = decide (x ∈ ks)) (by simp [mapD, has]) (fun xs y ih => ?_) ks
 rw [mapD_snoc]
 by_cases h : x = y
 ·subst h
  rw [has_put_same (mapD_isMap _) (show WideAt.IsKeyLit (.int .i64 _) from trivial)]
  simp
 ·rw [has_put_other (key_ne h), ih]
  simp [h]
theorem mapD_at (ks : List Int) (x : Int) (hn : ks.Nodup) : (mapD ks).atKey (.int .i64 x) (.lit (.int .i64 0)) = .lit (.int .i64 (if x ∈ ks then (ks.idxOf x : Int) else 0)) := by
 revert hn
 refine list_snoc_ind (p := fun ks => ks.Nodup → (mapD ks).atKey (.int .i64 x) (.lit (.int .i64 0)) = .lit (.int .i64 (if x ∈ ks then (ks.idxOf x : Int) else 0))) (fun _ => by simp [mapD, DataW.atKey]) (fun xs y ih hn => ?_) ks
 rw [mapD_snoc]
 have hn2 := List.nodup_append.1 hn
 by_cases h : x = y
 ·subst h
  rw [atKey_put_same (mapD_isMap _) (show WideAt.IsKeyLit (.int .i64 _) from trivial)]
  have hx : x ∉ xs := fun hx => hn2.2.2 x hx x (by simp) rfl
  rw [if_pos (by simp), List.idxOf_append, if_neg hx]
  simp
 ·rw [atKey_put_other (key_ne h), ih hn2.1]
  by_cases hx : x ∈ xs
  ·rw [if_pos hx, if_pos (by simp [hx]), List.idxOf_append, if_pos hx]
  ·rw [if_neg hx, if_neg (by simp [hx, h])]
structure IMap (W : World) (b : Nat) (ks : List Int) : Prop where
 own : W.ownsMap Try.prog 3 (plainElem (H := Unit) Try.prog 3) b ks.length (mapD ks)
 nodup : ks.Nodup
theorem keyed : Keyed Try.prog 3 := int_keyed Try.underlying3
theorem zeroI (w : World) : (zeroValue 3).run Try.prog w = .ok (.int .i64 0) w := by kernel_rfl
theorem wf_of {x : Int} (h0 : -9223372036854775808 ≤ x) (h1 : x ≤ 9223372036854775807) : (Lit.int .i64 x).wf = true := by
 simp only [Lit.wf, IntKind.min, IntKind.max, IntKind.signed, IntKind.bits, Bool.and_eq_true, decide_eq_true_eq, if_true]
 omega
theorem IMap.made (W : World) : IMap (W.alloc (.map #[] 0)) W.heap.size [] := ⟨World.ownsMap_made _ _ _ _, List.nodup_nil⟩
theorem IMap.move {W W' : World} {b : Nat} {ks : List Int} (h : IMap W b ks) (hm : W'.heap[b]? = W.heap[b]?) : IMap W' b ks := by
 obtain ⟨⟨es, clock, hb, F, hs, hD⟩, hn⟩ := h
 exact ⟨⟨es, clock, hm.trans hb, F, hs, hD⟩, hn⟩
theorem IMap.lt {W : World} {b : Nat} {ks : List Int} (h : IMap W b ks) : b < W.heap.size := h.own.lt
theorem IMap.notCells {W : World} {b : Nat} {ks : List Int} (h : IMap W b ks) {cs : Array Value} {t : TypeId} {fz : Nat × Nat} {g : Nat} (hg : W.heap[g]? = some (.cells cs t fz)) : b ≠ g := by
 obtain ⟨⟨es, clock, hb, F, hs, hD⟩, hn⟩ := h
 rintro rfl
 rw [hb] at hg
 cases hg
theorem IMap.look {W : World} {b : Nat} {ks : List Int} (h : IMap W b ks) (x : Int) (h0 : -9223372036854775808 ≤ x) (h1 : x ≤ 9223372036854775807) :
  (Instr.lookup 118 (.map (some b)) (.int .i64 x) true).run Try.prog W = .ok (.tuple #[.int .i64 (if x ∈ ks then (ks.idxOf x : Int) else 0), .bool (decide (x ∈ ks))]) W := by
 obtain ⟨v, ps, hrun, hv⟩ := h.own.look_ok keyed Try.underlying118 (zeroI W) (plainElem_int Try.underlying3 (by decide)) (keyOf_int_mk Try.underlying3 (wf_of h0 h1))
 rw [hrun, mapD_has]
 obtain ⟨c, rfl, hc, hwc⟩ := plainElem_int_inv Try.underlying3 hv
 rw [mapD_at _ _ h.nodup] at hc
 simp only [Prod.mk.injEq] at hc
 have h2 : (if x ∈ ks then (ks.idxOf x : Int) else 0) = c := by
  exact (Lit.int.inj (DataW.lit.inj hc.1)).2
 rw [h2]
theorem mapD_size {W : World} {b : Nat} {ks : List Int} (h : IMap W b ks) : size (mapD ks) = ks.length := by
 have hn := h.nodup
 clear h
 revert hn
 have hT : ∀ ks, Tidy (mapD ks) := fun ks => by
  refine list_snoc_ind (p := fun ks => Tidy (mapD ks)) tidy_empty (fun xs x ih => ?_) ks
  rw [mapD_snoc]
  exact ih.put (show WideAt.IsKeyLit (.int .i64 x) from trivial) _
 refine list_snoc_ind (p := fun ks => ks.Nodup → size (mapD ks) = ks.length) (fun _ => rfl) (fun xs y ih hn => ?_) ks
 have hn2 := List.nodup_append.1 hn
 have hy : y ∉ xs := fun hx => hn2.2.2 y hx y (by simp) rfl
 rw [mapD_snoc, size_put (hT _), mapD_has, ih hn2.1]
 simp [hy]
theorem IMap.len {W : World} {b : Nat} {ks : List Int} (h : IMap W b ks) (ty : TypeId) : (Builtin.len_ #[118] ty #[.map (some b)]).run Try.prog W = .ok (.int .i64 (ks.length : Int)) W := by
 have := h.own.len (t := 118) Try.underlying118 ty
 rw [mapD_size h] at this
 exact this
theorem IMap.put {W : World} {b : Nat} {ks : List Int} (h : IMap W b ks) (x : Int) (h0 : -9223372036854775808 ≤ x) (h1 : x ≤ 9223372036854775807) (hx : x ∉ ks) (hl : ks.length ≤ 1048576) :
  ∃ w', (Instr.mapUpdate 118 (.map (some b)) (.int .i64 x) (.int .i64 (ks.length : Int))).run Try.prog W = .ok () w' ∧ IMap w' b (ks ++ [x]) ∧ W.grownBy w' (some b) := by
 obtain ⟨w', hrun, hown, hgr⟩ := h.own.update keyed (t := 118) Try.underlying118 (by unfold maxLen; omega) (keyOf_int_mk Try.underlying3 (wf_of h0 h1)) (plainElem_int Try.underlying3 (wf_of (x := (ks.length : Int)) (by omega) (by omega)))
 refine ⟨w', hrun, ⟨?_, ?_⟩, hgr⟩
 ·rw [mapD_snoc, List.length_append]
  exact hown
 ·rw [List.nodup_append]
  exact ⟨h.nodup, by simp, fun a ha c hc => by
   simp at hc
   subst hc
   exact fun e => hx (e ▸ ha)⟩
end Go.Proofs.Ytickdcegnlldjaa.Hd
namespace Go.Proofs.Ytickdcegnlldjaa.Hd
open Go.RowKit Go.PW.PrintWords Go.PW.PrintLast Go.PW.PrintMore Go.Proofs.Ytickdcegnlldjaa.PB
structure Other (F : Nat → Prop) (w w' : World) : Prop where
 os : w'.os = w.os
 tape : w'.tape = w.tape
 output : w'.output = w.output
 size : w.heap.size ≤ w'.heap.size
 block : ∀ k, k < w.heap.size → ¬ F k → w'.heap[k]? = w.heap[k]?
theorem Other.refl (F : Nat → Prop) (w : World) : Other F w w := ⟨rfl, rfl, rfl, ybm _, fun _ _ _ => rfl⟩
theorem Other.trans {F F' : Nat → Prop} {a b c : World} (h : Other F a b) (k : Other F' b c) (hF : ∀ i, F' i → F i ∨ a.heap.size ≤ i) : Other F a c :=
 ⟨k.os.trans h.os, k.tape.trans h.tape, k.output.trans h.output, Nat.le_trans h.size k.size, fun i hi hn => (k.block i (Nat.lt_of_lt_of_le hi h.size) (fun hf => by
  rcases hF i hf with h1 | h1
  ·exact hn h1
  ·omega)).trans (h.block i hi hn)⟩
theorem Other.of_below {F : Nat → Prop} {w w' : World} (h : Below w.heap.size w w') : Other F w w' := ⟨h.os, h.tape, h.output, h.size, fun k hk _ => h.block k hk⟩
theorem Other.below {w w' : World} (h : Other (fun _ => False) w w') : Below w.heap.size w w' := ⟨h.os, h.tape, h.output, h.size, fun k hk => h.block k hk (fun h => h)⟩
theorem Other.below_ {F : Nat → Prop} {a b c : World} (h : Other F a b) (k : Below b.heap.size b c) : Other F a c :=
 h.trans (F' := fun _ => False) (Other.of_below k) (fun _ hf => hf.elim)
theorem Other.set_ {F : Nat → Prop} {a b : World} (h : Other F a b) {p : Addr} (hp : a.heap.size ≤ p.block) (u : Value) : Other F a (b.setCell p u) :=
 ⟨h.os, h.tape, h.output, by simpa [World.setCell] using h.size, fun i hi hn => (Below.heap_setCell _ _ _ _ (by omega)).trans (h.block i hi hn)⟩
theorem Other.drew {F : Nat → Prop} {a b : World} (h : Other F a b) : Other F a b.drew := ⟨h.os, h.tape, h.output, h.size, h.block⟩
section
variable {P : Program} {ops : Array Oper} {rest : List Oper} {o : Oper} {a : Act} {Q : Exit → Act → World → Prop}
theorem make_event {W : World} (hgd : o.guard = none) {N : Tmp} (hd : o.dst = some N) (t e : TypeId) (x y : Operand) (ho : o.op = .makeSlice t x y) (n : Nat) (hx : a.eval x = .int .i64 n) (hy : a.eval y = .int .i64 n)
  (ht : P.underlying t = some (.slice e)) (z : Value) (bytes : Nat) (hinfo : (P.info? e).map (fun i => (i.zero, i.size, i.bytes)) = some (some z, 1, bytes)) (hz : z.cells = #[z]) (hb0 : 0 < bytes) (hl : n * bytes ≤ 281474976710656)
  (h : ∀ g w1, g = W.heap.size → w1.heap[g]? = some (.cells (List.replicate n z).toArray e (0, 0)) → Below W.heap.size W w1 → w1.heap.size = g + 1 → wpList P ops Q rest (a.put o.dst (.slice (some ⟨g, 0, none⟩) n n)) w1) : wpList P ops Q (o :: rest) a W := by
 obtain ⟨i0, hi, hzz⟩ := Option.map_eq_some_iff.1 hinfo
 simp only [Prod.mk.injEq] at hzz
 obtain ⟨hz0, hz1, hz2⟩ := hzz
 have hm : n ≤ 281474976710656 := Nat.le_trans (Nat.le_mul_of_pos_right _ hb0) hl
 have hr := run_make (P := P) W t e i0 z ht hi hz0 .i64 .i64 (n : Int) (n : Int) (by omega) (by omega)
  (by
   have h3 : ((i0.bytes * n : Nat) : Int) ≤ 281474976710656 := by rw [hz2, Nat.mul_comm]; omega
   rwa [Int.natCast_mul] at h3) (by omega)
 simp only [Int.toNat_natCast] at hr
 rw [hz1] at hr
 refine Kd.event_run hgd (w1 := W.alloc (.cells (madeCells z.cells (n * 1)) e)) (by simp [execOp, ho, hx, hy, hr]) (h W.heap.size _ rfl ?_ (zac (Below.refl _ _) _) (by simp))
 rw [heap_alloc_new]
 congr 2
 apply Array.ext
 ·simp [size_madeCells]
 ·intro i h1 h2
  have hi1 : i < n := by simpa using h2
  simp [madeCells, hz, Nat.mod_one]
end
theorem skip_step {P : Program} {ops : Array Oper} {o : Oper} {a : Act} {Q : Exit → Act → World → Prop} {Kc : Act → World → Prop} {N : Option Tmp} {W w1 : World} (hw : Region.wanted o (yielded ops a.tmps) = true) (hN : o.dst = none) (hrun : (execOp a.eval o).run P W = .ok .skip w1) (h : Kc a w1) : if Region.wanted o (yielded ops a.tmps) = true then Oper.wp P o a W Kc Q else Kc (a.put N undef) W := by
 rw [if_pos hw]
 unfold Oper.wp
 rw [hrun, Oper.upon_skip, hN]
 exact h
def zbc (hi wi : Nat) (g : Nat → Nat → Int) : List (List Int) := (List.range hi).map fun r => (List.range wi).map fun c => g r c
def partRow (wi c : Nat) (g : Nat → Int) : List Int := (List.range c).map g ++ List.replicate (wi - c) 0
theorem partRow_length (wi c : Nat) (g : Nat → Int) (h : c ≤ wi) : (partRow wi c g).length = wi := by simp [partRow]; omega
theorem partRow_zero (wi : Nat) (g : Nat → Int) : partRow wi 0 g = List.replicate wi 0 := by simp [partRow]
theorem partRow_all (wi : Nat) (g : Nat → Int) : partRow wi wi g = (List.range wi).map g := by simp [partRow]
theorem partRow_succ (wi c : Nat) (g : Nat → Int) (h : c < wi) : (partRow wi c g).set c (g c) = partRow wi (c + 1) g := by
 unfold partRow
 have h1 : ((List.range c).map g).length = c := by simp
 rw [List.set_append_right _ _ (by omega), h1, Nat.sub_self, List.range_succ, List.map_append, List.append_assoc]
 congr 1
 obtain ⟨m, hm⟩ : ∃ m, wi - c = m + 1 := ⟨wi - c - 1, by omega⟩
 rw [hm, List.replicate_succ, ybb, show wi - (c + 1) = m by omega]
 rfl
theorem partRow_at (wi c : Nat) (g : Nat → Int) (h : c < wi) : (partRow wi c g)[c]? = some 0 := by
 unfold partRow
 have h1 : ((List.range c).map g).length = c := by simp
 rw [List.getElem?_append_right (by omega), h1, Nat.sub_self, List.getElem?_replicate, if_pos (by omega)]
theorem zbk (hi wi : Nat) (g : Nat → Nat → Int) : (zbc hi wi g).length = hi := by simp [zbc]
theorem gridOf_succ (r wi : Nat) (g : Nat → Nat → Int) : zbc (r + 1) wi g = zbc r wi g ++ [(List.range wi).map (g r)] := by
 simp [zbc, List.range_succ]
structure CellFn (P : Program) (f : FuncId) (caps : Array Value) (hi wi : Nat) (g : Nat → Nat → Int) (Inv : Nat → (Nat → Prop) → World → Prop) : Prop where
 move : ∀ n F W W', Inv n F W → W.heap.size ≤ W'.heap.size → (∀ k, F k → W'.heap[k]? = W.heap[k]?) → Inv n F W'
 lt : ∀ n F W k, Inv n F W → F k → k < W.heap.size
 calls : ∀ n F W (r c : Nat), r < hi → c < wi → n = r * wi + c → Inv n F W → Calls P f (#[.int .i64 r, .int .i64 c] ++ caps) W fun e W' => e = .returned (.int .i64 (g r c)) ∧ ∃ F', Inv (n + 1) F' W' ∧ (∀ k, F' k → F k ∨ W.heap.size ≤ k) ∧ Other F W W'
theorem blank_push {wr w2 : World} {g0 hi wi r b : Nat} {bs : List Nat} {g : Nat → Nat → Int} (HM : MatAt wr g0 hi bs (zbc r wi g)) (hr : r < hi) (hb : b = wr.heap.size) (HB : Below wr.heap.size wr w2) (HW : w2.heap[b]? = some (.cells (List.replicate wi (Value.int .i64 0)).toArray 3 (0, 0))) :
  MatAt (w2.setCell ⟨g0, r, none⟩ (.slice (some ⟨b, 0, none⟩) wi wi)) g0 hi (bs ++ [b]) (zbc r wi g ++ [partRow wi 0 (g r)]) := by
 have hlt := HM.lt
 have hg0 := hlt g0 List.mem_cons_self
 refine HM.push (by rw [zbk]; exact hr) (fun k hk => by have := hlt k hk; omega) ?_ ?_ (fun k hk => ?_)
 ·have h1 := (HB.block g0 hg0).trans HM.top
  simp only [World.setCell, Array.getElem?_modify, if_true]
  rw [h1, zbk]
  simp [rowV, partRow_length wi 0 (g r) (Nat.zero_le _)]
 ·rw [Below.heap_setCell _ _ _ _ (by show b ≠ g0; omega), HW, partRow_zero]
  simp
 ·have hk2 := hlt k (List.mem_cons_of_mem _ hk)
  rw [Below.heap_setCell _ _ _ _ (fun e => (List.nodup_cons.1 HM.nodup).1 (by rw [← show k = g0 from e]; exact hk)), HB.block k hk2]
def BlankPost (w : World) (hi wi : Nat) (g : Nat → Nat → Int) (Inv : Nat → (Nat → Prop) → World → Prop) (F0 : Nat → Prop) (e : Ending) (w' : World) : Prop := ∃ g0 bs F', e = .returned (.slice (some ⟨g0, 0, none⟩) hi hi) ∧ MatAt w' g0 hi bs (zbc hi wi g) ∧ (∀ k, k ∈ g0 :: bs → w.heap.size ≤ k ∧ ¬ F' k) ∧ Inv (hi * wi) F' w' ∧ (∀ k, F' k → F0 k ∨ w.heap.size ≤ k) ∧ Other F0 w w'
set_option maxHeartbeats 4000000 in
set_option maxRecDepth 100000 in
theorem blank_calls (f : FuncId) (fn : Func) (hf : Try.prog.funcs[f]? = some fn) (hname : (fn.name == "runtime.NumGoroutine") = false) (hb : fn.body.isSome = true) (caps : Array Value) (hi wi : Nat) (g : Nat → Nat → Int) (Inv : Nat → (Nat → Prop) → World → Prop)
  (hC : CellFn Try.prog f caps hi wi g Inv) (F0 : Nat → Prop) (w : World) (h0 : Inv 0 F0 w) (hhi : hi ≤ 1048576) (hwi : wi ≤ 1048576) :
  Calls Try.prog 75 #[.int .i64 hi, .int .i64 wi, .func (.func f) #[] caps] w (BlankPost w hi wi g Inv F0) := by
 have H0 := zaa.mk h0
 have HC := zaa.mk hC
 have HF := zaa.mk hf
 have HN := zaa.mk hname
 have HBd := zaa.mk hb
 clear h0 hC hf hname hb
 have i53 : (Try.prog.info? 24).map (fun i => (i.zero, i.size, i.bytes)) = some (some (.slice none 0 0), 1, 24) := by kernel_rfl
 have i3 : (Try.prog.info? 3).map (fun i => (i.zero, i.size, i.bytes)) = some (some (.int .i64 0), 1, 8) := by kernel_rfl
 have I53 := zaa.mk i53
 have I3 := zaa.mk i3
 clear i53 i3
 have b0 : (0 : Int) ≤ hi := by omega
 have b1 : (hi : Int) ≤ 1048576 := by omega
 have b2 : (0 : Int) ≤ wi := by omega
 have b3 : (wi : Int) ≤ 1048576 := by omega
 go_enter Try.func75, Try.ntmps75
 go_wp2_with (first | ((with_reducible refine zbb (N := 11) rfl ?_); refine make_event rfl (N := 11) rfl _ 24 _ _ rfl hi rfl rfl Try.underlying55 _ _ I53.out rfl (by decide) (by omega) ?_; intro g0 w1 hg hw1 hb1 hs1; have HG := zaa.mk hg; have HW1 := zaa.mk hw1; have HB1 := zaa.mk hb1; have HS1 := zaa.mk hs1; clear hg hw1 hb1 hs1))
 have hM0 : MatAt w1 g0 hi [] (zbc 0 wi g) := ⟨rfl, by simpa [zbc] using HW1.out, fun i b r hb hr => by simp at hb, by simp⟩
 have hI0 : Inv 0 F0 w1 := HC.out.move _ _ _ _ H0.out HB1.out.size (fun k hk => HB1.out.block k (HC.out.lt _ _ _ _ H0.out hk))
 have HM0 := zaa.mk hM0
 have HI0 := zaa.mk hI0
 have HO0 := zaa.mk (Other.of_below (F := F0) HB1.out)
 clear hM0 hI0
 go_loopg [14] hi (fun kq v14 w' => ∃ (r : Nat) (bs : List Nat) (F : Nat → Prop), v14 = .int .i64 (r : Int) ∧ zaa (r + kq = hi) ∧ zaa (MatAt w' g0 hi bs (zbc r wi g)) ∧ zaa (∀ k, k ∈ g0 :: bs → w.heap.size ≤ k ∧ ¬ F k) ∧ zaa (Inv (r * wi) F w') ∧ zaa (∀ k, F k → F0 k ∨ w.heap.size ≤ k) ∧ zaa (Other F0 w w'))
 case atStart => exact ⟨0, [], F0, rfl, ⟨by omega⟩, HM0, ⟨by
  intro k hk
  simp at hk
  subst hk
  exact ⟨by rw [HG.out]; exact ybm _, fun hf => by have := HC.out.lt _ _ _ _ H0.out hf; have := HG.out; omega⟩⟩, ⟨by simpa using HI0.out⟩, ⟨fun k hk => .inl hk⟩, HO0⟩
 case round =>
  clear HM0 HI0 HO0
  obtain ⟨r, bs, F, rfl, HK, HM, HS, HI, HFs, HO⟩ := hrel
  by_cases hr : r < hi
  ·have hlt : (r : Int) < hi := by omega
   have hr0 : (0 : Int) ≤ r := by omega
   have hr1 : (r : Int) ≤ 1048576 := by omega
   have hlen := zbk r wi g
   have hx0 : wr.cell? ⟨g0, r, none⟩ = some (.slice none 0 0) ∧ wr.frozen? ⟨g0, r, none⟩ = false := by
    have h1 := HM.out.top
    rw [hlen] at h1
    have h2 : ((bs.zip (zbc r wi g)).map rowV).length = r := by simp [HM.out.len, hlen]
    refine ⟨?_, by simp [World.frozen?, h1]⟩
    simp only [World.cell?, h1]
    simp only [Option.isSome_none, Bool.false_eq_true, if_false]
    rw [List.getElem?_toArray, List.getElem?_append_right (by omega), h2, Nat.sub_self, List.getElem?_replicate, if_pos (by omega)]
   obtain ⟨hx1, hf1⟩ := hx0
   clear hlen
   go_wp2_with (first | ((with_reducible refine zbb (N := 20) rfl ?_); refine make_event rfl (N := 20) rfl _ 3 _ _ rfl wi rfl rfl Try.underlying24 _ _ I3.out rfl (by decide) (by omega) ?_; intro b w2 hg hw1 hb1 hs1; have HGb := zaa.mk hg; have HW2 := zaa.mk hw1; have HB2 := zaa.mk hb1; have HS2 := zaa.mk hs1; have hx2 : w2.cell? ⟨g0, r, none⟩ = some (.slice none 0 0) := zar hb1 hx1; have hf2 : w2.frozen? ⟨g0, r, none⟩ = false := ((hb1.frozen (p := ⟨g0, r, none⟩) (World.block_lt_of_cell? wr _ hx1)).trans hf1); clear hg hw1 hb1 hs1 hx1 hf1))
   have HM3 := zaa.mk (blank_push HM.out hr HGb.out HB2.out HW2.out)
   have hg0lt := HM.out.lt g0 List.mem_cons_self
   have HS3 := zaa.mk (show ∀ k, k ∈ g0 :: (bs ++ [b]) → w.heap.size ≤ k ∧ ¬ F k from fun k hk => by
    rw [← List.cons_append, List.mem_append] at hk
    rcases hk with hk | hk
    ·exact HS.out k hk
    ·simp at hk
     subst hk
     exact ⟨by rw [HGb.out]; exact HO.out.size, fun hf => by have := HC.out.lt _ _ _ _ HI.out hf; have := HGb.out; omega⟩)
   have HI3 := zaa.mk (show Inv (r * wi) F (w2.setCell ⟨g0, r, none⟩ (.slice (some ⟨b, 0, none⟩) wi wi)) from HC.out.move _ _ _ _ HI.out (by simpa [World.setCell] using HB2.out.size) (fun k hk => by
    have h1 := HC.out.lt _ _ _ _ HI.out hk
    rw [Below.heap_setCell _ _ _ _ (fun e => (HS.out g0 List.mem_cons_self).2 (by rw [← show k = g0 from e]; exact hk)), HB2.out.block k h1]))
   have HO3 := zaa.mk ((HO.out.below_ HB2.out).set_ (p := ⟨g0, r, none⟩) (HS.out g0 List.mem_cons_self).1 (.slice (some ⟨b, 0, none⟩) wi wi))
   clear HM HS HI HO HW2 HB2 HS2 hx2 hf2 hg0lt
   go_loopg [27] wi (fun kq v27 w' => ∃ (c : Nat) (F1 : Nat → Prop), v27 = .int .i64 (c : Int) ∧ zaa (c + kq = wi) ∧ zaa (MatAt w' g0 hi (bs ++ [b]) (zbc r wi g ++ [partRow wi c (g r)])) ∧ zaa (∀ k, k ∈ g0 :: (bs ++ [b]) → w.heap.size ≤ k ∧ ¬ F1 k) ∧ zaa (Inv (r * wi + c) F1 w') ∧ zaa (∀ k, F1 k → F0 k ∨ w.heap.size ≤ k) ∧ zaa (Other F0 w w'))
   case atStart => exact ⟨0, F, rfl, ⟨by omega⟩, HM3, HS3, ⟨by simpa using HI3.out⟩, HFs, HO3⟩
   case round =>
    clear HM3 HS3 HI3 HO3 HFs F
    obtain ⟨c, F, rfl, HK2, HM, HS, HI, HFs, HO⟩ := hrel
    by_cases hc : c < wi
    ·have hlt2 : (c : Int) < wi := by omega
     have hc0 : (0 : Int) ≤ c := by omega
     have hc1 : (c : Int) ≤ 1048576 := by omega
     have hbl : bs.length = r := by have := HM.out.len; rw [List.length_append, List.length_append, zbk] at this; simpa using this
     have hbr : (bs ++ [b])[r]? = some b := by rw [List.getElem?_append_right (by omega), hbl]; simp
     have hrr : (zbc r wi g ++ [partRow wi c (g r)])[r]? = some (partRow wi c (g r)) := by rw [List.getElem?_append_right (by rw [zbk]; omega), zbk]; simp
     have hpl := partRow_length wi c (g r) (by omega)
     have HBR := zaa.mk hbr
     have HRR := zaa.mk hrr
     have hxt := HM.out.topCell r b _ hbr hrr
     rw [hpl] at hxt
     have HXT := zaa.mk hxt
     clear hbr hrr hbl hpl
     go_wp2
     refine start_ (n := 11) (S := fun w' => w'.cell? ⟨g0, r, none⟩ = some (.slice (some ⟨b, 0, none⟩) wi wi)) (ds := []) #[zf, zf, zf, zf, zf, zf, zf, zf, zf, zf, zf] (by kernel_rfl) rfl rfl (hxt) (fun hHeld => ?_)
     clear hxt
     have HM := zaa.mk (show MatAt wr.drew g0 hi (bs ++ [b]) (zbc r wi g ++ [partRow wi c (g r)]) from HM.out.move (fun _ _ => rfl))
     have HI := zaa.mk (show Inv (r * wi + c) F wr.drew from HC.out.move _ _ _ _ HI.out (ybm _) (fun _ _ => rfl))
     have HO := zaa.mk (HO.out.drew)
     generalize wr.drew = w7 at HM HI HO hHeld ⊢
     refine zbd (i := 0) (N := some 30) (v := ?_) (a' := ?_) #[zt, zf, zf, zf, zf, zf, zf, zf, zf, zf, zf] rfl rfl (by kernel_rfl) (fun _ _ _ h => h) (Or.inl ⟨by rfl, ?_⟩) ?_ ?_
     rotate_left
     ·intro w'; go_simp; with_reducible rfl
     rotate_left
     ·simp only [Act.put, yba, ybb, ybc, zau, zav]; rfl
     refine zbd (i := 1) (N := some 31) (v := ?_) (a' := ?_) #[zt, zt, zf, zf, zf, zf, zf, zf, zf, zf, zf] rfl rfl (by kernel_rfl) (fun _ _ _ h => h) (Or.inl ⟨by rfl, ?_⟩) ?_ ?_
     rotate_left
     ·intro w'; go_simp; with_reducible rfl
     rotate_left
     ·simp only [Act.put, yba, ybb, ybc, zau, zav]; rfl
     refine zbd (i := 4) (N := some 34) (v := ?_) (a' := ?_) #[zt, zt, zf, zf, zt, zf, zf, zf, zf, zf, zf] rfl rfl (by kernel_rfl) (fun _ _ _ h => h) (Or.inl ⟨by rfl, ?_⟩) ?_ ?_
     rotate_left
     ·intro w'; go_simp; with_reducible rfl
     rotate_left
     ·simp only [Act.put, yba, ybb, ybc, zau, zav]; rfl
     refine zbd (i := 5) (N := some 35) (v := ?_) (a' := ?_) #[zt, zt, zf, zf, zt, zt, zf, zf, zf, zf, zf] rfl rfl (by kernel_rfl) (fun _ _ _ h => h) (Or.inl ⟨by rfl, ?_⟩) ?_ ?_
     rotate_left
     ·intro w'; go_simp; with_reducible rfl
     rotate_left
     ·simp only [Act.put, yba, ybb, ybc, zau, zav]; rfl
     refine zbd (i := 6) (N := some 36) (v := ?_) (a' := ?_) #[zt, zt, zf, zf, zt, zt, zt, zf, zf, zf, zf] rfl rfl (by kernel_rfl) (fun _ _ _ h => h) (Or.inl ⟨by rfl, ?_⟩) ?_ ?_
     rotate_left
     ·intro w'; go_simp; with_reducible rfl
     rotate_left
     ·simp only [Act.put, yba, ybb, ybc, zau, zav]; rfl
     refine zbd (i := 7) (N := some 37) (v := ?_) (a' := ?_) #[zt, zt, zf, zf, zt, zt, zt, zt, zf, zf, zf] rfl rfl (by kernel_rfl) (fun _ _ _ h => h) (Or.inl ⟨by rfl, ?_⟩) ?_ ?_
     rotate_left
     ·intro w'; go_simp; with_reducible rfl
     rotate_left
     ·simp only [Act.put, yba, ybb, ybc, zau, zav]; rfl
     refine zbd (i := 2) (N := some 32) (v := ?_) (a' := ?_) #[zt, zt, zt, zf, zt, zt, zt, zt, zf, zf, zf] rfl rfl (by kernel_rfl) (fun _ _ _ h => h) (Or.inl ⟨by rfl, ?_⟩) ?_ ?_
     rotate_left
     ·intro w'; go_simp; with_reducible rfl
     rotate_left
     ·simp only [Act.put, yba, ybb, ybc, zau, zav]; rfl
     refine take_ (i := 3) (N := some 33) (v := ?_) (a' := ?_) #[zt, zt, zt, zt, zt, zt, zt, zt, zf, zf, zf] rfl rfl (by kernel_rfl) (fun _ _ _ h => h) (Or.inl ⟨by rfl, ?_⟩) hHeld ?_ ?_
     rotate_left
     ·rintro w' s0
      go_simp
      with_reducible rfl
     rotate_left
     ·simp only [Act.put, yba, ybb, ybc, zau, zav]; rfl
     refine one_ (i := 8) (N := some 38) #[zt, zt, zt, zt, zt, zt, zt, zt, zt, zf, zf] rfl rfl (by kernel_rfl) (by decide) (fun K hK => ?_)
     refine goesv_ HF.out HN.out HBd.out #[.int .i64 (r : Int), .int .i64 (c : Int)] (by rfl) rfl rfl rfl (by (try simp only [ybd, ybe, ybf]); first | done | rfl) ?_
     refine (HC.out.calls (r * wi + c) F w7 r c hr hc rfl HI.out).mono ?_
     rintro e w8 ⟨rfl, F1, hI1, hF1, hO1⟩
     refine ⟨_, rfl, ?_⟩
     have hlt7 := HM.out.lt
     have hkeep : ∀ k, k ∈ g0 :: (bs ++ [b]) → w8.heap[k]? = w7.heap[k]? := fun k hk => hO1.block k (hlt7 k hk) (HS.out k hk).2
     have HM1 := zaa.mk (HM.out.move hkeep)
     have HS1_ := zaa.mk (show ∀ k, k ∈ g0 :: (bs ++ [b]) → w.heap.size ≤ k ∧ ¬ F1 k from fun k hk => ⟨(HS.out k hk).1, fun hf => by
      rcases hF1 k hf with h1 | h1
      ·exact (HS.out k hk).2 h1
      ·have := hlt7 k hk; omega⟩)
     have HFs1 := zaa.mk (show ∀ k, F1 k → F0 k ∨ w.heap.size ≤ k from fun k hf => by
      rcases hF1 k hf with h1 | h1
      ·exact HFs.out k h1
      ·exact .inr (Nat.le_trans HO.out.size h1))
     have HO1 := zaa.mk (HO.out.trans hO1 HFs.out)
     have HI1 := zaa.mk hI1
     refine hK.out _ _ ((World.cell?_of_block (w := w7) (hkeep g0 List.mem_cons_self)).trans hHeld) (fun hHeld => ?_)
     clear hK K HM HS HI HFs HO hlt7 hkeep hI1 hF1 hO1
     refine norm_ (a' := ?_) ?_ ?_
     rotate_left
     ·show Act.put _ (some 38) _ = _
      simp only [Act.put, yba, ybb, ybc, zau, zav]
      rfl
     refine zbd (i := 9) (N := some 39) (v := ?_) (a' := ?_) #[zt, zt, zt, zt, zt, zt, zt, zt, zt, zt, zf] rfl rfl (by kernel_rfl) (fun _ _ _ h => h) (Or.inl ⟨by rfl, ?_⟩) ?_ ?_
     rotate_left
     ·intro w'; go_simp; with_reducible rfl
     rotate_left
     ·simp only [Act.put, yba, ybb, ybc, zau, zav]; rfl
     obtain ⟨hx9, hf9⟩ := HM1.out.rowCell r c b _ 0 HBR.out HRR.out (partRow_at wi c (g r) hc)
     refine one_ (i := 10) (N := none) #[zt, zt, zt, zt, zt, zt, zt, zt, zt, zt, zt] rfl rfl (by kernel_rfl) (by decide) (fun K hK => ?_)
     refine skip_step (by rfl) rfl (w1 := w8.setCell ⟨b, c, none⟩ (.int .i64 (g r c))) (by go_simp; done) ?_
     have hb0 : w.heap.size ≤ b := (HS1_.out b (by simp)).1
     have hgb : g0 ≠ b := fun e => (List.nodup_cons.1 HM1.out.nodup).1 (by rw [e]; simp)
     have HM2 := zaa.mk (show MatAt (w8.setCell ⟨b, c, none⟩ (.int .i64 (g r c))) g0 hi (bs ++ [b]) (zbc r wi g ++ [partRow wi (c + 1) (g r)]) by
      have z := HM1.out.set r c b _ (g r c) HBR.out HRR.out
      rw [partRow_succ wi c (g r) hc, List.set_append_right _ _ (by rw [zbk]; exact ybm _), zbk, Nat.sub_self, ybb] at z
      exact z)
     have HI2 := zaa.mk (show Inv (r * wi + (c + 1)) F1 (w8.setCell ⟨b, c, none⟩ (.int .i64 (g r c))) from HC.out.move _ _ _ _ HI1.out (by simp [World.setCell]) (fun k hk => Below.heap_setCell _ _ _ _ (fun e => (HS1_.out b (by simp)).2 (by rw [← show k = b from e]; exact hk))))
     have HO2 := zaa.mk (HO1.out.set_ (p := ⟨b, c, none⟩) hb0 (.int .i64 (g r c)))
     refine hK.out _ _ (by rw [← hHeld]; exact World.cell?_of_block (Below.heap_setCell _ _ _ _ hgb)) (fun hHeld => ?_)
     clear hK K HM1 HI1 HO1 hb0 hx9 hf9 hgb
     generalize w8.setCell ⟨b, c, none⟩ (.int .i64 (g r c)) = w9 at HM2 HI2 HO2 hHeld ⊢
     refine done_ (by kernel_rfl) ?_
     clear hHeld
     go_wp2
     go_roundg (wi - (c + 1))
     case measure => have := HK2.out; omega
     case rel => exact ⟨c + 1, F1, by first | rfl | (congr 1; omega), ⟨by have := HK2.out; omega⟩, HM2, HS1_, HI2, HFs1, HO2⟩
    ·have hge : ¬ (c : Int) < wi := by omega
     obtain rfl : c = wi := by have := HK2.out; omega
     go_wp2
     go_roundg (hi - (r + 1))
     case measure => have := HK.out; omega
     case rel => exact ⟨r + 1, bs ++ [b], F, by first | rfl | (congr 1; omega), ⟨by have := HK.out; omega⟩, ⟨by rw [gridOf_succ, ← partRow_all]; exact HM.out⟩, HS, ⟨by rw [Nat.succ_mul]; exact HI.out⟩, HFs, HO⟩
  ·have hge : ¬ (r : Int) < hi := by omega
   obtain rfl : r = hi := by have := HK.out; omega
   go_wp2
   go_ret
   exact ⟨g0, bs, F, rfl, HM.out, HS.out, HI.out, HFs.out, HO.out⟩
end Go.Proofs.Ytickdcegnlldjaa.Hd
namespace Go.Proofs.Ytickdcegnlldjaa.Hd
open Go.RowKit Go.PW.PrintWords Go.PW.PrintLast Go.PW.PrintMore Go.Proofs.Ytickdcegnlldjaa.PB
abbrev Rc := S120
abbrev kRc := k120
def oneR (r c : Nat) : Rc := ⟨r, c, 1, 1⟩
def bothR (a b : Rc) : Rc := ⟨min a.f0 b.f0, min a.f1 b.f1, max (a.f0 + a.f2) (b.f0 + b.f2) - min a.f0 b.f0, max (a.f1 + a.f3) (b.f1 + b.f3) - min a.f1 b.f1⟩
def zcf : Rc := ⟨0, 0, 0, 0⟩
def stepS (st : List Int × List Rc) (r c : Nat) (x : Int) : List Int × List Rc :=
 if x ∈ st.1 then (st.1, st.2.set (st.1.idxOf x) (bothR (st.2.getD (st.1.idxOf x) zcf) (oneR r c)))
 else (st.1 ++ [x], st.2 ++ [bothR (oneR r c) (oneR r c)])
def zbe (rows : List (List Int)) (r c : Nat) : Int := (rows.getD r []).getD c 0
def stAt (rows : List (List Int)) (wi : Nat) : Nat → List Int × List Rc
 | 0 => ([], [])
 | n + 1 => stepS (stAt rows wi n) (n / wi) (n % wi) (zbe rows (n / wi) (n % wi))
def numAt (rows : List (List Int)) (wi : Nat) (r c : Nat) : Int := ((stAt rows wi (r * wi + c + 1)).1.idxOf (zbe rows r c) : Int)
def boundR (a : Rc) (hi wi : Nat) : Prop := 0 ≤ a.f0 ∧ 0 ≤ a.f1 ∧ 1 ≤ a.f2 ∧ 1 ≤ a.f3 ∧ a.f0 + a.f2 ≤ hi ∧ a.f1 + a.f3 ≤ wi
theorem oneR_bound {r c hi wi : Nat} (hr : r < hi) (hc : c < wi) : boundR (oneR r c) hi wi := by
 simp only [boundR, oneR]
 omega
theorem bothR_bound {a b : Rc} {hi wi : Nat} (ha : boundR a hi wi) (hb : boundR b hi wi) : boundR (bothR a b) hi wi := by
 simp only [boundR, bothR] at *
 omega
theorem stAt_inv (rows : List (List Int)) (hi wi : Nat) : ∀ n, n ≤ hi * wi → (stAt rows wi n).1.length = (stAt rows wi n).2.length ∧ (stAt rows wi n).1.Nodup ∧ (stAt rows wi n).1.length ≤ n ∧ ∀ a ∈ (stAt rows wi n).2, boundR a hi wi
 | 0, _ => by simp [stAt]
 | n + 1, h => by
  obtain ⟨h1, h2, h3, h4⟩ := stAt_inv rows hi wi n (by omega)
  have hwi : 0 < wi := by
   rcases Nat.eq_zero_or_pos wi with h0 | h0
   ·subst h0; simp at h
   ·exact h0
  have hr : n / wi < hi := by
   rw [Nat.div_lt_iff_lt_mul hwi]
   omega
  have hc : n % wi < wi := Nat.mod_lt _ hwi
  have ho := oneR_bound hr hc
  simp only [stAt, stepS]
  split
  ·rename_i hx
   refine ⟨by simpa using h1, h2, Nat.le_succ_of_le h3, fun a ha => ?_⟩
   rcases List.mem_or_eq_of_mem_set ha with ha | ha
   ·exact h4 a ha
   ·subst ha
    refine bothR_bound (h4 _ ?_) ho
    have hi2 : (stAt rows wi n).1.idxOf (zbe rows (n / wi) (n % wi)) < (stAt rows wi n).2.length := by rw [← h1]; exact List.idxOf_lt_length_of_mem hx
    rw [ybi, List.getElem?_eq_getElem hi2]
    exact List.getElem_mem hi2
  ·rename_i hx
   refine ⟨by simp [h1], ?_, by simp; omega, fun a ha => ?_⟩
   ·rw [List.nodup_append]
    exact ⟨h2, by simp, fun a ha b hb => by
     simp at hb
     subst hb
     exact fun e => hx (e ▸ ha)⟩
   ·rcases List.mem_append.1 ha with ha | ha
    ·exact h4 a ha
    ·simp at ha
     subst ha
     exact bothR_bound ho ho
theorem both_f (a b : Rc) (hi wi : Nat) (ha : boundR a hi wi) (hb : boundR b hi wi) (hh : hi ≤ 1048576) (hw : wi ≤ 1048576) : PC.impl_rect_both.f a.f0 a.f1 a.f2 a.f3 b.f0 b.f1 b.f2 b.f3 = some ((bothR a b).f0, (bothR a b).f1, (bothR a b).f2, (bothR a b).f3) := by
 obtain ⟨a1, a2, a3, a4, a5, a6⟩ := ha
 obtain ⟨b1, b2, b3, b4, b5, b6⟩ := hb
 have e1 : ∀ x : Int, -9223372036854775808 ≤ x → x ≤ 9223372036854775807 → wrap64 x = x := fun x h0 h1 => by unfold wrap64; omega
 have m1 : ∀ x y : Int, mn x y = min x y := fun x y => by unfold mn; omega
 have m2 : ∀ x y : Int, mx x y = max x y := fun x y => by unfold mx; omega
 simp only [PC.impl_rect_both.f, bothR, m1, m2]
 rw [e1 (a.f0 + a.f2) (by omega) (by omega), e1 (b.f0 + b.f2) (by omega) (by omega), e1 (a.f1 + a.f3) (by omega) (by omega), e1 (b.f1 + b.f3) (by omega) (by omega)]
 rw [e1 (max (a.f0 + a.f2) (b.f0 + b.f2) - min a.f0 b.f0) (by omega) (by omega), e1 (max (a.f1 + a.f3) (b.f1 + b.f3) - min a.f1 b.f1) (by omega) (by omega)]
section
variable {P : Program} {ops : Array Oper} {o : Oper} {a : Act} {Q : Exit → Act → World → Prop} {Kc : Act → World → Prop} {W : World}
theorem cells_step {N : Option Tmp} (hw : Region.wanted o (yielded ops a.tmps) = true) (hN : o.dst = none) {t e : TypeId} {p x : Operand} (ho : o.op = .store t p x) {g off : Nat} {cur : Array Value} (haddr : a.eval p = .pointer (some ⟨g, off, none⟩)) (u : Value) (hx : a.eval x = u) (seg : List Value) (hu : u.cells.toList = seg) (ht : (P.info? t).map (·.size) = some seg.length)
  (hh : W.heap[g]? = some (.cells cur e (0, 0))) (hfit : off + seg.length ≤ cur.size) (h1 : ∀ q ∈ seg, q.oneCell' = true) (h : Kc a (W.setCells g off seg)) : if Region.wanted o (yielded ops a.tmps) = true then Oper.wp P o a W Kc Q else Kc (a.put N undef) W := by
 refine skip_step hw hN (w1 := W.setCells g off seg) ?_ h
 have hr := run_store_run (P := P) t u seg hh hu ht hfit h1
 simp [execOp, ho, haddr, hx, hr]
theorem map_step {N : Option Tmp} {w1 : World} (hw : Region.wanted o (yielded ops a.tmps) = true) (hN : o.dst = none) {t : TypeId} {m k v : Operand} (ho : o.op = .mapUpdate t m k v) (hrun : (Instr.mapUpdate t (a.eval m) (a.eval k) (a.eval v)).run P W = .ok () w1) (h : Kc a w1) : if Region.wanted o (yielded ops a.tmps) = true then Oper.wp P o a W Kc Q else Kc (a.put N undef) W := by
 refine skip_step hw hN (w1 := w1) ?_ h
 simp [execOp, ho, hrun]
end
structure SInv (w0 : World) (gn gc gv gf bm : Nat) (A : Option Addr) (cap : Nat) (rows : List (List Int)) (wi : Nat) (v : Value) (n : Nat) (F : Nat → Prop) (W : World) : Prop where
 old : ∀ k, k < w0.heap.size → W.heap[k]? = w0.heap[k]?
 size : w0.heap.size ≤ W.heap.size
 num : W.heap[gn]? = some (.cells #[.map (some bm)] 118 (0, 0))
 cel : W.heap[gc]? = some (.cells #[.slice A rows.length cap] 55 (0, 0))
 flo : W.heap[gv]? = some (.cells #[.pointer (some ⟨gf, 0, none⟩)] 52 (0, 0))
 str : W.heap[gf]? = some (.cells #[.slice none 0 0, v] 58 (0, 0))
 map : IMap W bm (stAt rows wi n).1
 row : Kd.R kRc 120 W w0.heap.size (fun k => some k = v.ownBlock) v (stAt rows wi n).2
 base : w0.heap.size ≤ gn ∧ w0.heap.size ≤ gc ∧ w0.heap.size ≤ gv ∧ w0.heap.size ≤ gf ∧ w0.heap.size ≤ bm
 foot : ∀ k, F k ↔ (k < w0.heap.size ∨ k = gn ∨ k = gc ∨ k = gv ∨ k = gf ∨ k = bm ∨ some k = v.ownBlock)
section
variable {w0 W W' : World} {gn gc gv gf bm cap wi n : Nat} {A : Option Addr} {rows : List (List Int)} {v : Value} {F : Nat → Prop}
theorem SInv.move (h : SInv w0 gn gc gv gf bm A cap rows wi v n F W) (hs : W.heap.size ≤ W'.heap.size) (hm : ∀ k, F k → W'.heap[k]? = W.heap[k]?) : SInv w0 gn gc gv gf bm A cap rows wi v n F W' := by
 have hm' : ∀ k, (k < w0.heap.size ∨ k = gn ∨ k = gc ∨ k = gv ∨ k = gf ∨ k = bm ∨ some k = v.ownBlock) → W'.heap[k]? = W.heap[k]? := fun k hk => hm k ((h.foot k).2 hk)
 exact ⟨fun k hk => (hm' k (.inl hk)).trans (h.old k hk), Nat.le_trans h.size hs, (hm' gn (by simp)).trans h.num, (hm' gc (by simp)).trans h.cel, (hm' gv (by simp)).trans h.flo, (hm' gf (by simp)).trans h.str, h.map.move (hm' bm (by simp)), Kd.R_move h.row (fun k hk => hm' k (by simp [hk])), h.base, h.foot⟩
theorem SInv.lt (h : SInv w0 gn gc gv gf bm A cap rows wi v n F W) : ∀ k, F k → k < W.heap.size := by
 intro k hk
 have hlt : ∀ {g : Nat} {o : Obj}, W.heap[g]? = some o → g < W.heap.size := fun h => (Array.getElem?_eq_some_iff.1 h).1
 rcases (h.foot k).1 hk with h1 | rfl | rfl | rfl | rfl | rfl | h1
 ·exact Nat.lt_of_lt_of_le h1 h.size
 ·exact hlt h.num
 ·exact hlt h.cel
 ·exact hlt h.flo
 ·exact hlt h.str
 ·exact h.map.lt
 ·exact Kd.R_lt h.row k h1.symm
end
structure GridIn (w0 : World) (A : Option Addr) (rows : List (List Int)) (hi wi : Nat) : Prop where
 reads : (Kd.slice 3 (Kd.int .i64)).C w0 A rows.length rows
 high : rows.length = hi
 wide : ∀ r ∈ rows, r.length = wi
 hi_le : hi ≤ 1048576
 wi_le : wi ≤ 1048576
 many : hi * wi ≤ 1048576
 vals : ∀ r ∈ rows, ∀ x ∈ r, 0 ≤ x ∧ x ≤ 1048576
theorem GridIn.cell {w0 : World} {A : Option Addr} {rows : List (List Int)} {hi wi : Nat} (h : GridIn w0 A rows hi wi) (r c : Nat) (hr : r < hi) (hc : c < wi) :
  ∃ (ad ad2 : Addr) (ci : Nat) (row : List Int), A = some ad ∧ w0.cell? (ad.add r) = some (.slice (some ad2) row.length ci) ∧ row.length = wi ∧ w0.cell? (ad2.add c) = some (.int .i64 (zbe rows r c)) ∧ 0 ≤ zbe rows r c ∧ zbe rows r c ≤ 1048576 := by
 have hrl : r < rows.length := by rw [h.high]; exact hr
 have hrow := List.getElem?_eq_getElem hrl
 have hmem := List.getElem_mem hrl
 obtain ⟨ad, Ai, ci, e1, hx, hl, hrr⟩ := C_row h.reads r _ hrow
 have hw := h.wide _ hmem
 obtain ⟨ad2, e2, hx2⟩ := Kd.at_int hrr (c : Int) (by omega) (by omega)
 subst e2
 have hv : rd rows[r] (c : Int) = zbe rows r c := by
  unfold rd zbe
  rw [ybi (l := rows), hrow]
  simp
 have hcl : c < rows[r].length := by omega
 have hb := h.vals _ hmem (rows[r][c]) (List.getElem_mem hcl)
 have hv2 : zbe rows r c = rows[r][c] := by
  unfold zbe
  rw [ybi (l := rows), hrow, Option.getD_some, ybi, List.getElem?_eq_getElem hcl]
  rfl
 rw [hv, show ((c : Int).toNat) = c by omega] at hx2
 exact ⟨ad, ad2, ci, _, e1, hx, hw, hx2, by rw [hv2]; exact hb.1, by rw [hv2]; exact hb.2⟩
theorem rc_cells {W : World} {B g n cap : Nat} {ok : Nat → Prop} {rs : List Rc} (h : Kd.R kRc 120 W B ok (.slice (some ⟨g, 0, none⟩) n cap) rs) (k : Nat) (hk : k < rs.length) :
  W.cell? ⟨g, k * 4, none⟩ = some (.int .i64 (rs.getD k zcf).f0) ∧ W.cell? ⟨g, k * 4 + 1, none⟩ = some (.int .i64 (rs.getD k zcf).f1) ∧ W.cell? ⟨g, k * 4 + 2, none⟩ = some (.int .i64 (rs.getD k zcf).f2) ∧ W.cell? ⟨g, k * 4 + 3, none⟩ = some (.int .i64 (rs.getD k zcf).f3) := by
 obtain ⟨A, c, e, hl, hC⟩ := Kd.R_reads h
 injection e with e1 e2 e3
 subst e1; subst e2
 obtain ⟨ad, e4, h0, h1, h2, h3⟩ := at_T120 hC (k : Int) (by omega) (by omega)
 injection e4 with e4
 subst e4
 have e5 : rd_T120 rs (k : Int) = rs.getD k zcf := by
  unfold rd_T120
  rw [show ((k : Int).toNat) = k by omega]
  rfl
 rw [show ((k : Int).toNat) = k by omega, add_plain, e5] at h0 h1 h2 h3
 exact ⟨h0, h1, h2, h3⟩
theorem rc_block {W : World} {B g n cap : Nat} {ok : Nat → Prop} {rs : List Rc} (h : Kd.R kRc 120 W B ok (.slice (some ⟨g, 0, none⟩) n cap) rs) : ∃ cur, W.heap[g]? = some (.cells cur 120 (0, 0)) ∧ rs.length * 4 ≤ cur.size := by
 obtain ⟨h0, inner, ho, hr⟩ := h
 rcases ho.2 with ⟨e, _⟩ | ⟨g', cap', cur, e, hb, hg, hn, hm, hs, ht⟩
 ·cases e
 ·injection e with e1 e2 e3
  injection e1 with e1
  injection e1 with e1
  subst e1
  refine ⟨cur, hg, ?_⟩
  rw [hs]
  exact Nat.mul_le_mul_right _ hn
theorem rc_put {W : World} {B g n cap : Nat} {ok : Nat → Prop} {rs : List Rc} (h : Kd.R kRc 120 W B ok (.slice (some ⟨g, 0, none⟩) n cap) rs) (k : Nat) (hk : k < rs.length) (x : Rc) :
  Kd.R kRc 120 (W.setCells g (k * 4) [.int .i64 x.f0, .int .i64 x.f1, .int .i64 x.f2, .int .i64 x.f3]) B ok (.slice (some ⟨g, 0, none⟩) n cap) (rs.set k x) ∧ W.grownBy (W.setCells g (k * 4) [.int .i64 x.f0, .int .i64 x.f1, .int .i64 x.f2, .int .i64 x.f3]) (some g) := by
 obtain ⟨y0, y1, y2, y3⟩ := rc_cells h k hk
 have hn := (Kd.R_reads' h).1
 have z := Kd.R_seg h (k : Int) (by omega) (by omega) (c := [.int .i64 (rs.getD k zcf).f0, .int .i64 (rs.getD k zcf).f1, .int .i64 (rs.getD k zcf).f2, .int .i64 (rs.getD k zcf).f3]) (seg := [.int .i64 x.f0, .int .i64 x.f1, .int .i64 x.f2, .int .i64 x.f3]) (j := 0) rfl (fun j u hu => by
   rw [show ((k : Int).toNat) = k by omega]
   show W.cell? ⟨g, k * 4 + j, none⟩ = some u
   match j, hu with
   | 0, hu => rw [Nat.add_zero, y0]; exact hu
   | 1, hu => rw [y1]; exact hu
   | 2, hu => rw [y2]; exact hu
   | 3, hu => rw [y3]; exact hu
   | j + 4, hu => rw [List.getElem?_eq_none (by simp)] at hu; cases hu) (ybm 4) (x' := x) (okp := fun _ => False) (k120_mkM W B _ x) (fun k hk => hk.elim)
 rw [show ((k : Int).toNat) = k by omega] at z
 exact z
def FoundPost (W : World) (B : Nat) (v : Value) (rs : List Rc) (k r c : Nat) (e : Ending) (W' : World) : Prop :=
 e = .returned (.int .i64 (k : Int)) ∧ Kd.R kRc 120 W' B (fun k => some k = v.ownBlock) v (rs.set k (bothR (rs.getD k zcf) (oneR r c))) ∧ W.grownBy W' v.ownBlock
set_option maxHeartbeats 4000000 in
set_option maxRecDepth 100000 in
theorem found_walk (W : World) (B gn gc gv gf bm : Nat) (ad ad2 : Addr) (nr cap nc ci : Nat) (x : Int) (k : Nat) (rs : List Rc) (v : Value) (r c hi wi : Nat) (hr : r < hi) (hc : c < wi) (hhi : hi ≤ 1048576) (hwi : wi ≤ 1048576) (hrn : r < nr) (hcn : c < nc) (hnr : nr ≤ 1048576) (hnc : nc ≤ 1048576)
  (hx1 : W.cell? ⟨gn, 0, none⟩ = some (.map (some bm))) (hx2 : W.cell? ⟨gc, 0, none⟩ = some (.slice (some ad) nr cap)) (hx3 : W.cell? (ad.add r) = some (.slice (some ad2) nc ci)) (hx4 : W.cell? (ad2.add c) = some (.int .i64 x))
  (hlook : ∀ W' : World, W'.heap[bm]? = W.heap[bm]? → (Instr.lookup 118 (.map (some bm)) (.int .i64 x) true).run Try.prog W' = .ok (.tuple #[.int .i64 (k : Int), .bool true]) W')
  (hx5 : W.cell? ⟨gv, 0, none⟩ = some (.pointer (some ⟨gf, 0, none⟩))) (hx6 : W.heap[gf]? = some (.cells #[.slice none 0 0, v] 58 (0, 0)))
  (hrow : Kd.R kRc 120 W B (fun k => some k = v.ownBlock) v rs) (hk : k < rs.length) (hrl : rs.length ≤ 1048576) (hbd : ∀ a ∈ rs, boundR a hi wi) :
  Calls Try.prog 117 #[.int .i64 r, .int .i64 c, .pointer (some ⟨gn, 0, none⟩), .pointer (some ⟨gc, 0, none⟩), .pointer (some ⟨gv, 0, none⟩)] W (FoundPost W B v rs k r c) := by
 have hL := hlook W.drew rfl
 have HRow := zaa.mk hrow
 have HBd := zaa.mk hbd
 have H5 := zaa.mk hx5
 have H6 := zaa.mk hx6
 clear hlook hrow hbd hx5 hx6
 have r0 : (0 : Int) ≤ r := by omega
 have r1 : (r : Int) < nr := by omega
 have r2 : (r : Int) ≤ 1048576 := by omega
 have c0 : (0 : Int) ≤ c := by omega
 have c1 : (c : Int) < nc := by omega
 have c2 : (c : Int) ≤ 1048576 := by omega
 go_enter Try.func117, Try.ntmps117
 go_wp2
 refine start_ (n := 14) (S := fun w' => w'.cell? ⟨gn, 0, none⟩ = some (.map (some bm)) ∧ w'.cell? ⟨gc, 0, none⟩ = some (.slice (some ad) nr cap) ∧ w'.cell? (ad.add r) = some (.slice (some ad2) nc ci) ∧ w'.cell? (ad2.add c) = some (.int .i64 x) ∧ (Instr.lookup 118 (.map (some bm)) (.int .i64 x) true).run Try.prog w' = .ok (.tuple #[.int .i64 (k : Int), .bool true]) w') (ds := []) #[zf, zf, zf, zf, zf, zf, zf, zf, zf, zf, zf, zf, zf, zf] (by kernel_rfl) rfl rfl (⟨hx1, hx2, hx3, hx4, hL⟩) (fun hHeld => ?_)
 refine take_ (i := 0) (N := some 11) (v := ?_) (a' := ?_) #[zt, zf, zf, zf, zf, zf, zf, zf, zf, zf, zf, zf, zf, zf] rfl rfl (by kernel_rfl) (fun _ _ _ h => h) (Or.inl ⟨by rfl, ?_⟩) hHeld ?_ ?_
 rotate_left
 ·rintro w' ⟨s0, s1, s2, s3, s4⟩
  go_simp
  with_reducible rfl
 rotate_left
 ·simp only [Act.put, yba, ybb, ybc, zau, zav]; rfl
 refine take_ (i := 1) (N := some 12) (v := ?_) (a' := ?_) #[zt, zt, zf, zf, zf, zf, zf, zf, zf, zf, zf, zf, zf, zf] rfl rfl (by kernel_rfl) (fun _ _ _ h => h) (Or.inl ⟨by rfl, ?_⟩) hHeld ?_ ?_
 rotate_left
 ·rintro w' ⟨s0, s1, s2, s3, s4⟩
  go_simp
  with_reducible rfl
 rotate_left
 ·simp only [Act.put, yba, ybb, ybc, zau, zav]; rfl
 refine zbd (i := 2) (N := some 13) (v := ?_) (a' := ?_) #[zt, zt, zt, zf, zf, zf, zf, zf, zf, zf, zf, zf, zf, zf] rfl rfl (by kernel_rfl) (fun _ _ _ h => h) (Or.inl ⟨by rfl, ?_⟩) ?_ ?_
 rotate_left
 ·intro w'; go_simp; with_reducible rfl
 rotate_left
 ·simp only [Act.put, yba, ybb, ybc, zau, zav]; rfl
 refine zbd (i := 3) (N := some 14) (v := ?_) (a' := ?_) #[zt, zt, zt, zt, zf, zf, zf, zf, zf, zf, zf, zf, zf, zf] rfl rfl (by kernel_rfl) (fun _ _ _ h => h) (Or.inl ⟨by rfl, ?_⟩) ?_ ?_
 rotate_left
 ·intro w'; go_simp; with_reducible rfl
 rotate_left
 ·simp only [Act.put, yba, ybb, ybc, zau, zav]; rfl
 refine take_ (i := 4) (N := some 15) (v := ?_) (a' := ?_) #[zt, zt, zt, zt, zt, zf, zf, zf, zf, zf, zf, zf, zf, zf] rfl rfl (by kernel_rfl) (fun _ _ _ h => h) (Or.inl ⟨by rfl, ?_⟩) hHeld ?_ ?_
 rotate_left
 ·rintro w' ⟨s0, s1, s2, s3, s4⟩
  go_simp
  with_reducible rfl
 rotate_left
 ·simp only [Act.put, yba, ybb, ybc, zau, zav]; rfl
 refine zbd (i := 5) (N := some 16) (v := ?_) (a' := ?_) #[zt, zt, zt, zt, zt, zt, zf, zf, zf, zf, zf, zf, zf, zf] rfl rfl (by kernel_rfl) (fun _ _ _ h => h) (Or.inl ⟨by rfl, ?_⟩) ?_ ?_
 rotate_left
 ·intro w'; go_simp; with_reducible rfl
 rotate_left
 ·simp only [Act.put, yba, ybb, ybc, zau, zav]; rfl
 refine zbd (i := 6) (N := some 17) (v := ?_) (a' := ?_) #[zt, zt, zt, zt, zt, zt, zt, zf, zf, zf, zf, zf, zf, zf] rfl rfl (by kernel_rfl) (fun _ _ _ h => h) (Or.inl ⟨by rfl, ?_⟩) ?_ ?_
 rotate_left
 ·intro w'; go_simp; with_reducible rfl
 rotate_left
 ·simp only [Act.put, yba, ybb, ybc, zau, zav]; rfl
 refine take_ (i := 7) (N := some 18) (v := ?_) (a' := ?_) #[zt, zt, zt, zt, zt, zt, zt, zt, zf, zf, zf, zf, zf, zf] rfl rfl (by kernel_rfl) (fun _ _ _ h => h) (Or.inl ⟨by rfl, ?_⟩) hHeld ?_ ?_
 rotate_left
 ·rintro w' ⟨s0, s1, s2, s3, s4⟩
  go_simp
  with_reducible rfl
 rotate_left
 ·simp only [Act.put, yba, ybb, ybc, zau, zav]; rfl
 refine take_ (i := 8) (N := some 19) (v := ?_) (a' := ?_) #[zt, zt, zt, zt, zt, zt, zt, zt, zt, zf, zf, zf, zf, zf] rfl rfl (by kernel_rfl) (fun _ _ _ h => h) (Or.inl ⟨by rfl, ?_⟩) hHeld ?_ ?_
 rotate_left
 ·rintro w' ⟨s0, s1, s2, s3, s4⟩
  go_simp
  with_reducible rfl
 rotate_left
 ·simp only [Act.put, yba, ybb, ybc, zau, zav]; rfl
 refine zbd (i := 9) (N := some 10) (v := ?_) (a' := ?_) #[zt, zt, zt, zt, zt, zt, zt, zt, zt, zt, zf, zf, zf, zf] rfl rfl (by kernel_rfl) (fun _ _ _ h => h) (Or.inl ⟨by rfl, ?_⟩) ?_ ?_
 rotate_left
 ·intro w'; go_simp; with_reducible rfl
 rotate_left
 ·simp only [Act.put, yba, ybb, ybc, zau, zav]; rfl
 refine zbd (i := 10) (N := some 20) (v := ?_) (a' := ?_) #[zt, zt, zt, zt, zt, zt, zt, zt, zt, zt, zt, zf, zf, zf] rfl rfl (by kernel_rfl) (fun _ _ _ h => h) (Or.inl ⟨by rfl, ?_⟩) ?_ ?_
 rotate_left
 ·intro w'; go_simp; with_reducible rfl
 rotate_left
 ·simp only [Act.put, yba, ybb, ybc, zau, zav]; rfl
 refine zbd (i := 11) (N := some 21) (v := ?_) (a' := ?_) #[zt, zt, zt, zt, zt, zt, zt, zt, zt, zt, zt, zt, zf, zf] rfl rfl (by kernel_rfl) (fun _ _ _ h => h) (Or.inl ⟨by rfl, ?_⟩) ?_ ?_
 rotate_left
 ·intro w'; go_simp; with_reducible rfl
 rotate_left
 ·simp only [Act.put, yba, ybb, ybc, zau, zav]; rfl
 refine zbd (i := 12) (N := some 8) (v := ?_) (a' := ?_) #[zt, zt, zt, zt, zt, zt, zt, zt, zt, zt, zt, zt, zt, zf] rfl rfl (by kernel_rfl) (fun _ _ _ h => h) (Or.inl ⟨by rfl, ?_⟩) ?_ ?_
 rotate_left
 ·intro w'; go_simp; with_reducible rfl
 rotate_left
 ·simp only [Act.put, yba, ybb, ybc, zau, zav]; rfl
 refine zbd (i := 13) (N := some 9) (v := ?_) (a' := ?_) #[zt, zt, zt, zt, zt, zt, zt, zt, zt, zt, zt, zt, zt, zt] rfl rfl (by kernel_rfl) (fun _ _ _ h => h) (Or.inl ⟨by rfl, ?_⟩) ?_ ?_
 rotate_left
 ·intro w'; go_simp; with_reducible rfl
 rotate_left
 ·simp only [Act.put, yba, ybb, ybc, zau, zav]; rfl
 refine done_ (by kernel_rfl) ?_
 clear hHeld hx1 hx2 hx3 hx4 hL
 have HRow := zaa.mk (show Kd.R kRc 120 W.drew B (fun k => some k = v.ownBlock) v rs from ybp HRow.out)
 have hpos : 0 < rs.length := by omega
 obtain ⟨gr, cp, rfl, hgr, hlt, cells, hcells⟩ := Kd.R_form HRow.out hpos
 obtain ⟨y0, y1, y2, y3⟩ := rc_cells HRow.out k hk
 have hgrf : gr ≠ gf := by
  rintro rfl
  have z := H6.out
  rw [show W.drew.heap = W.heap from rfl] at hcells
  rw [hcells] at z
  injection z with z
  injection z with _ z
  cases z
 have x5 : W.drew.cell? ⟨gv, 0, none⟩ = some (.pointer (some ⟨gf, 0, none⟩)) := H5.out
 have x6 : W.drew.cell? ⟨gf, 1, none⟩ = some (.slice (some ⟨gr, 0, none⟩) rs.length cp) := (zat (w := W.drew) H6.out 1).trans rfl
 have k0 : (0 : Int) ≤ k := by omega
 have k1 : (k : Int) < rs.length := by omega
 have k2 : (rs.length : Int) ≤ 1048576 := by omega
 have hmem : rs.getD k zcf ∈ rs := by rw [ybi, List.getElem?_eq_getElem hk]; exact List.getElem_mem hk
 have hb1 := HBd.out _ hmem
 generalize hold : rs.getD k zcf = old at y0 y1 y2 y3 hb1
 have HOLD := zaa.mk hold
 have HB1 := zaa.mk hb1
 have HNE := zaa.mk hgrf
 have HC := zaa.mk hcells
 clear hold hb1 hmem hcells hlt hgrf
 go_wp2
 refine start_ (n := 18) (S := fun w' => w'.cell? ⟨gv, 0, none⟩ = some (.pointer (some ⟨gf, 0, none⟩)) ∧ w'.cell? ⟨gf, 1, none⟩ = some (.slice (some ⟨gr, 0, none⟩) rs.length cp) ∧ w'.cell? ⟨gr, k * 4, none⟩ = some (.int .i64 old.f0) ∧ w'.cell? ⟨gr, k * 4 + 1, none⟩ = some (.int .i64 old.f1) ∧ w'.cell? ⟨gr, k * 4 + 2, none⟩ = some (.int .i64 old.f2) ∧ w'.cell? ⟨gr, k * 4 + 3, none⟩ = some (.int .i64 old.f3)) (ds := [17]) #[zf, zf, zf, zf, zf, zf, zf, zf, zf, zf, zf, zf, zf, zf, zf, zf, zf, zf] (by kernel_rfl) rfl rfl (⟨x5, x6, y0, y1, y2, y3⟩) (fun hHeld => ?_)
 refine take_ (i := 0) (N := some 47) (v := ?_) (a' := ?_) #[zt, zf, zf, zf, zf, zf, zf, zf, zf, zf, zf, zf, zf, zf, zf, zf, zf, zf] rfl rfl (by kernel_rfl) (fun _ _ _ h => h) (Or.inl ⟨by rfl, ?_⟩) hHeld ?_ ?_
 rotate_left
 ·rintro w' ⟨s0, s1, s2, s3, s4, s5⟩
  go_simp
  with_reducible rfl
 rotate_left
 ·simp only [Act.put, yba, ybb, ybc, zau, zav]; rfl
 refine zbd (i := 1) (N := some 48) (v := ?_) (a' := ?_) #[zt, zt, zf, zf, zf, zf, zf, zf, zf, zf, zf, zf, zf, zf, zf, zf, zf, zf] rfl rfl (by kernel_rfl) (fun _ _ _ h => h) (Or.inl ⟨by rfl, ?_⟩) ?_ ?_
 rotate_left
 ·intro w'; go_simp; with_reducible rfl
 rotate_left
 ·simp only [Act.put, yba, ybb, ybc, zau, zav]; rfl
 refine zbd (i := 2) (N := some 49) (v := ?_) (a' := ?_) #[zt, zt, zt, zf, zf, zf, zf, zf, zf, zf, zf, zf, zf, zf, zf, zf, zf, zf] rfl rfl (by kernel_rfl) (fun _ _ _ h => h) (Or.inl ⟨by rfl, ?_⟩) ?_ ?_
 rotate_left
 ·intro w'; go_simp; with_reducible rfl
 rotate_left
 ·simp only [Act.put, yba, ybb, ybc, zau, zav]; rfl
 refine take_ (i := 3) (N := some 50) (v := ?_) (a' := ?_) #[zt, zt, zt, zt, zf, zf, zf, zf, zf, zf, zf, zf, zf, zf, zf, zf, zf, zf] rfl rfl (by kernel_rfl) (fun _ _ _ h => h) (Or.inl ⟨by rfl, ?_⟩) hHeld ?_ ?_
 rotate_left
 ·rintro w' ⟨s0, s1, s2, s3, s4, s5⟩
  go_simp
  with_reducible rfl
 rotate_left
 ·simp only [Act.put, yba, ybb, ybc, zau, zav]; rfl
 refine zbd (i := 4) (N := some 51) (v := ?_) (a' := ?_) #[zt, zt, zt, zt, zt, zf, zf, zf, zf, zf, zf, zf, zf, zf, zf, zf, zf, zf] rfl rfl (by kernel_rfl) (fun _ _ _ h => h) (Or.inl ⟨by rfl, ?_⟩) ?_ ?_
 rotate_left
 ·intro w'; go_simp; with_reducible rfl
 rotate_left
 ·simp only [Act.put, yba, ybb, ybc, zau, zav]; rfl
 refine take_ (i := 5) (N := some 52) (v := ?_) (a' := ?_) #[zt, zt, zt, zt, zt, zt, zf, zf, zf, zf, zf, zf, zf, zf, zf, zf, zf, zf] rfl rfl (by kernel_rfl) (fun _ _ _ h => h) (Or.inl ⟨by rfl, ?_⟩) hHeld ?_ ?_
 rotate_left
 ·rintro w' ⟨s0, s1, s2, s3, s4, s5⟩
  go_simp
  with_reducible rfl
 rotate_left
 ·simp only [Act.put, yba, ybb, ybc, zau, zav]; rfl
 refine zbd (i := 6) (N := some 53) (v := ?_) (a' := ?_) #[zt, zt, zt, zt, zt, zt, zt, zf, zf, zf, zf, zf, zf, zf, zf, zf, zf, zf] rfl rfl (by kernel_rfl) (fun _ _ _ h => h) (Or.inl ⟨by rfl, ?_⟩) ?_ ?_
 rotate_left
 ·intro w'; go_simp; with_reducible rfl
 rotate_left
 ·simp only [Act.put, yba, ybb, ybc, zau, zav]; rfl
 refine zbd (i := 7) (N := some 54) (v := ?_) (a' := ?_) #[zt, zt, zt, zt, zt, zt, zt, zt, zf, zf, zf, zf, zf, zf, zf, zf, zf, zf] rfl rfl (by kernel_rfl) (fun _ _ _ h => h) (Or.inl ⟨by rfl, ?_⟩) ?_ ?_
 rotate_left
 ·intro w'; go_simp; with_reducible rfl
 rotate_left
 ·simp only [Act.put, yba, ybb, ybc, zau, zav]; rfl
 refine take_ (i := 8) (N := some 55) (v := ?_) (a' := ?_) #[zt, zt, zt, zt, zt, zt, zt, zt, zt, zf, zf, zf, zf, zf, zf, zf, zf, zf] rfl rfl (by kernel_rfl) (fun _ _ _ h => h) (Or.inl ⟨by rfl, ?_⟩) hHeld ?_ ?_
 rotate_left
 ·rintro w' ⟨s0, s1, s2, s3, s4, s5⟩
  go_simp
  with_reducible rfl
 rotate_left
 ·simp only [Act.put, yba, ybb, ybc, zau, zav]; rfl
 refine zbd (i := 9) (N := some 56) (v := ?_) (a' := ?_) #[zt, zt, zt, zt, zt, zt, zt, zt, zt, zt, zf, zf, zf, zf, zf, zf, zf, zf] rfl rfl (by kernel_rfl) (fun _ _ _ h => h) (Or.inl ⟨by rfl, ?_⟩) ?_ ?_
 rotate_left
 ·intro w'; go_simp; with_reducible rfl
 rotate_left
 ·simp only [Act.put, yba, ybb, ybc, zau, zav]; rfl
 refine zbd (i := 10) (N := some 57) (v := ?_) (a' := ?_) #[zt, zt, zt, zt, zt, zt, zt, zt, zt, zt, zt, zf, zf, zf, zf, zf, zf, zf] rfl rfl (by kernel_rfl) (fun _ _ _ h => h) (Or.inl ⟨by rfl, ?_⟩) ?_ ?_
 rotate_left
 ·intro w'; go_simp; with_reducible rfl
 rotate_left
 ·simp only [Act.put, yba, ybb, ybc, zau, zav]; rfl
 refine take_ (i := 11) (N := some 58) (v := ?_) (a' := ?_) #[zt, zt, zt, zt, zt, zt, zt, zt, zt, zt, zt, zt, zf, zf, zf, zf, zf, zf] rfl rfl (by kernel_rfl) (fun _ _ _ h => h) (Or.inl ⟨by rfl, ?_⟩) hHeld ?_ ?_
 rotate_left
 ·rintro w' ⟨s0, s1, s2, s3, s4, s5⟩
  go_simp
  with_reducible rfl
 rotate_left
 ·simp only [Act.put, yba, ybb, ybc, zau, zav]; rfl
 refine zbd (i := 12) (N := some 59) (v := ?_) (a' := ?_) #[zt, zt, zt, zt, zt, zt, zt, zt, zt, zt, zt, zt, zt, zf, zf, zf, zf, zf] rfl rfl (by kernel_rfl) (fun _ _ _ h => h) (Or.inl ⟨by rfl, ?_⟩) ?_ ?_
 rotate_left
 ·intro w'; go_simp; with_reducible rfl
 rotate_left
 ·simp only [Act.put, yba, ybb, ybc, zau, zav]; rfl
 refine zbd (i := 13) (N := some 60) (v := ?_) (a' := ?_) #[zt, zt, zt, zt, zt, zt, zt, zt, zt, zt, zt, zt, zt, zt, zf, zf, zf, zf] rfl rfl (by kernel_rfl) (fun _ _ _ h => h) (Or.inl ⟨by rfl, ?_⟩) ?_ ?_
 rotate_left
 ·intro w'; go_simp; with_reducible rfl
 rotate_left
 ·simp only [Act.put, yba, ybb, ybc, zau, zav]; rfl
 refine zbd (i := 14) (N := some 61) (v := ?_) (a' := ?_) #[zt, zt, zt, zt, zt, zt, zt, zt, zt, zt, zt, zt, zt, zt, zt, zf, zf, zf] rfl rfl (by kernel_rfl) (fun _ _ _ h => h) (Or.inl ⟨by rfl, ?_⟩) ?_ ?_
 rotate_left
 ·intro w'; go_simp; with_reducible rfl
 rotate_left
 ·simp only [Act.put, yba, ybb, ybc, zau, zav]; rfl
 refine one_ (i := 15) (N := some 62) #[zt, zt, zt, zt, zt, zt, zt, zt, zt, zt, zt, zt, zt, zt, zt, zt, zf, zf] rfl rfl (by kernel_rfl) (by decide) (fun K hK => ?_)
 refine goes_ Try.func118 (by kernel_rfl) rfl #[.agg #[.int .i64 old.f0, .int .i64 old.f1, .int .i64 old.f2, .int .i64 old.f3], .agg #[.int .i64 (r : Int), .int .i64 (c : Int), .int .i64 1, .int .i64 1]] (by rfl) rfl rfl (by (try simp only [ybd, ybe, ybf]); first | done | rfl) ?_
 refine (PC.impl_rect_both.calls old.f0 old.f1 old.f2 old.f3 r c 1 1 _ _ _ _ _ (both_f old (oneR r c) hi wi HB1.out (oneR_bound hr hc) hhi hwi)).mono ?_
 rintro e w8 ⟨rfl, hb8⟩
 refine ⟨_, rfl, ?_⟩
 have HB8 := zaa.mk (show Below W.heap.size W w8 from ⟨hb8.os, hb8.tape, hb8.output, hb8.size, hb8.block⟩)
 refine hK.out _ _ ⟨zar hb8 hHeld.1, zar hb8 hHeld.2.1, zar hb8 hHeld.2.2.1, zar hb8 hHeld.2.2.2.1, zar hb8 hHeld.2.2.2.2.1, zar hb8 hHeld.2.2.2.2.2⟩ (fun hHeld => ?_)
 clear hK K hb8
 refine norm_ (a' := ?_) ?_ ?_
 rotate_left
 ·show Act.put _ (some 62) _ = _
  simp only [Act.put, yba, ybb, ybc, zau, zav]
  rfl
 generalize hnew : bothR old (oneR r c) = nw
 have HNEW := zaa.mk hnew
 clear hnew
 refine zbd (i := 16) (N := some 63) (v := ?_) (a' := ?_) #[zt, zt, zt, zt, zt, zt, zt, zt, zt, zt, zt, zt, zt, zt, zt, zt, zt, zf] rfl rfl (by kernel_rfl) (fun _ _ _ h => h) (Or.inl ⟨by rfl, ?_⟩) ?_ ?_
 rotate_left
 ·intro w'; go_simp; with_reducible rfl
 rotate_left
 ·simp only [Act.put, yba, ybb, ybc, zau, zav]; rfl
 have hrow8 := Kd.R_below HRow.out (show Below W.drew.heap.size W.drew w8 from ⟨HB8.out.os, HB8.out.tape, HB8.out.output, HB8.out.size, HB8.out.block⟩)
 obtain ⟨cur8, hc8, hs8⟩ := rc_block hrow8
 refine last_ (i := 17) (N := none) #[zt, zt, zt, zt, zt, zt, zt, zt, zt, zt, zt, zt, zt, zt, zt, zt, zt, zt] rfl rfl (by kernel_rfl) (by decide) (fun K hK => ?_)
 refine cells_step (W := w8) (by rfl) rfl (t := 120) (e := 120) rfl (g := gr) (off := k * 4) (cur := cur8) rfl (.agg #[.int .i64 nw.f0, .int .i64 nw.f1, .int .i64 nw.f2, .int .i64 nw.f3]) rfl [.int .i64 nw.f0, .int .i64 nw.f1, .int .i64 nw.f2, .int .i64 nw.f3] rfl (by kernel_rfl) hc8 (by simp; omega) (by simp; exact ⟨rfl, rfl, rfl, rfl⟩) ?_
 refine hK.out _ _ ?_
 clear hK K hHeld
 have hput := rc_put hrow8 k hk nw
 have HPUT := zaa.mk hput
 clear hput hrow8 hc8
 generalize w8.setCells gr (k * 4) [.int .i64 nw.f0, .int .i64 nw.f1, .int .i64 nw.f2, .int .i64 nw.f3] = w9 at HPUT ⊢
 refine done_ (by kernel_rfl) ?_
 go_wp2
 go_ret
 refine ⟨rfl, ?_, ?_⟩
 ·rw [HOLD.out, HNEW.out]
  exact HPUT.out.1
 ·have hg := HPUT.out.2
  exact ⟨hg.os.trans HB8.out.os, hg.tape.trans HB8.out.tape, hg.output.trans HB8.out.output, Nat.le_trans HB8.out.size hg.size, fun i hi hne => (hg.block i (Nat.lt_of_lt_of_le hi HB8.out.size) hne).trans (HB8.out.block i hi)⟩
end Go.Proofs.Ytickdcegnlldjaa.Hd
