/- Part 3 of the proof of FnNear: what the program's functions and the reference's compute. -/
import Derived.Test.YtoijjkhdfooapaaProg
import Derived.Below
import Derived.Deep.Draws
import Derived.Deep.AppendLies
import Derived.Maps.AppendAt
import Derived.OwnWalk
import Derived.Laws.BytesArg
import Derived.Laws.MakeOwn
import Derived.Laws.OwnMore
import Derived.Deep.OwnRows
import Derived.Tactics
import Derived.Lib.ConvBytes
import Derived.Laws.Slices
import Derived.WalkKit
import Derived.KernelRfl
import Derived.RowKit3
import Derived.Deep.LoopGhost
import Derived.Deep.QuietTactic
import Derived.BigQuiet
import Derived.WideLaws
import Derived.Deep.DeepCutAuto
import Derived.Deep.CutBlock
import Derived.Deep.RegionHeld3
import Derived.Laws.Rows
import Derived.Lib.AppendStr
import Derived.ArgAppend
import Derived.Laws.IdiomCopy
import Derived.OrdersHeld
import Derived.Laws.BitsLemmas
import Derived.RowKit
import Derived.Test.YtoijjkhdfooapaaCPNEb
set_option linter.unusedSimpArgs false
set_option linter.unusedVariables false
namespace Go.Proofs.Ytoijjkhdfooapaa.PB
open Go.RowKit Go.PW.PrintWords Go.PW.PrintLast Go.PW.PrintMore
attribute [local go_sem] zbw zbu zcj zci zbp zbo zbv zbt   -- for this text's walks alone
mutual
def impl_floor_walls.l0 : Nat → List (S60) → List Bool → Int → Int → List (List Int) → List (S87) → Option ((List (S60)))
 | 0, _, _, _, _, _, _ => none
 | k + 1, x3, x12, x13, x14, x1000, x1001 => if x14 < x13 then (if 0 ≤ x14 then (if x14 < (x12.length : Int) then ((impl_floor_wide.f x1000 x1001).bind fun t272 => ((impl_floor_high.f x1000 x1001).bind fun t273 => (if rdOf false x12 x14 = true then (impl_floor_walls.j1 k x3 (rdOf false x12 x14) t273 t272 x12 x13 x14 x1000 x1001) else (impl_floor_walls.j1 k x3 (rdOf false x12 x14) t272 t273 x12 x13 x14 x1000 x1001)))) else (none)) else (none)) else (some x3)
def impl_floor_walls.j1 : Nat → List (S60) → Bool → Int → Int → List Bool → Int → Int → List (List Int) → List (S87) → Option ((List (S60)))
 | 0, _, _, _, _, _, _, _, _, _ => none
 | k + 1, x3, x5, x6, x7, x12, x13, x14, x1000, x1001 => impl_floor_walls.l1 k x3 x5 x6 x7 1 x12 x13 x14 x1000 x1001
def impl_floor_walls.l1 : Nat → List (S60) → Bool → Int → Int → Int → List Bool → Int → Int → List (List Int) → List (S87) → Option ((List (S60)))
 | 0, _, _, _, _, _, _, _, _, _, _ => none
 | k + 1, x3, x5, x6, x7, x8, x12, x13, x14, x1000, x1001 => if x8 < x6 then (impl_floor_walls.l2 k x3 x5 x6 x7 x8 false x12 x13 x14 x7 0 x1000 x1001) else (impl_floor_walls.l0 k x3 x12 x13 (wrap64 (x14 + 1)) x1000 x1001)
def impl_floor_walls.l2 : Nat → List (S60) → Bool → Int → Int → Int → Bool → List Bool → Int → Int → Int → Int → List (List Int) → List (S87) → Option ((List (S60)))
 | 0, _, _, _, _, _, _, _, _, _, _, _, _, _ => none
 | k + 1, x3, x5, x6, x7, x8, x9, x12, x13, x14, x30, x31, x1000, x1001 => if x31 < x30 then ((impl_floor_differ.f x1000 x1001 x5 x8 x31).bind fun t274 => (if t274 = true then (impl_floor_walls.j4 k x3 x5 x6 x7 x8 x31 t274 x12 x13 x14 x30 x31 x9 x1000 x1001) else (impl_floor_walls.j4 k x3 x5 x6 x7 x8 x31 t274 x12 x13 x14 x30 x31 false x1000 x1001))) else (impl_floor_walls.l1 k x3 x5 x6 x7 (wrap64 (x8 + 1)) x12 x13 x14 x1000 x1001)
def impl_floor_walls.j4 : Nat → List (S60) → Bool → Int → Int → Int → Int → Bool → List Bool → Int → Int → Int → Int → Bool → List (List Int) → List (S87) → Option ((List (S60)))
 | 0, _, _, _, _, _, _, _, _, _, _, _, _, _, _, _ => none
 | k + 1, x3, x5, x6, x7, x8, x10, x11, x12, x13, x14, x30, x31, x39, x1000, x1001 => if x39 = true then (if 0 ≤ (wrap64 ((x3.length : Int) - 1)) then (if (wrap64 ((x3.length : Int) - 1)) < (x3.length : Int) then (impl_floor_walls.l2 k (x3.set ((wrap64 ((x3.length : Int) - 1)) : Int).toNat (⟨(zcb x3 (wrap64 ((x3.length : Int) - 1))).f0, (zcb x3 (wrap64 ((x3.length : Int) - 1))).f1, (zcb x3 (wrap64 ((x3.length : Int) - 1))).f2, wrap64 (((zcb x3 (wrap64 ((x3.length : Int) - 1))).f3) + 1)⟩ : S60)) x5 x6 x7 x8 x11 x12 x13 x14 x30 (wrap64 (x31 + 1)) x1000 x1001) else (none)) else (none)) else (if x11 = true then (if x3.length < 4398046511104 then (impl_floor_walls.l2 k (x3 ++ [(⟨x5, x8, x10, 1⟩ : S60)]) x5 x6 x7 x8 x11 x12 x13 x14 x30 (wrap64 (x31 + 1)) x1000 x1001) else (none)) else (impl_floor_walls.l2 k x3 x5 x6 x7 x8 x11 x12 x13 x14 x30 (wrap64 (x31 + 1)) x1000 x1001))
end
def impl_floor_walls.f (k : Nat) (s0_0 : List (List Int)) (s0_1 : List (S87)) : Option ((List (S60))) := (some (([false, true] : List Bool) : List Bool)).bind fun y268 => (impl_floor_walls.l0 k ([] : List (S60)) y268 (y268.length : Int) 0 s0_0 s0_1)
set_option maxHeartbeats 8000000 in
set_option maxRecDepth 100000 in
theorem impl_floor_walls.calls (k : Nat) (g : Nat) (s0_0 : List (List Int)) (s0_1 : List (S87)) (r : List (S60)) (w0 w : World) (hI : zau w0 w g s0_0 s0_1) (hB : Below w0.heap.size w0 w) (h : impl_floor_walls.f k s0_0 s0_1 = some r) :
  Calls Try.prog 57 #[.pointer (some ⟨g, 0, none⟩)] w fun e w' => ∃ v0_ : Value, e = .returned (v0_) ∧ Kd.R k60 60 w' w.heap.size (fun _ => True) v0_ r ∧ zau w0 w' g s0_0 s0_1 ∧ Below w0.heap.size w0 w' ∧ zaf w w' g none := by
 have hu60 := Try.underlying60
 have HI0 := zaa.mk hI
 have HK := zaa.mk (zaf.refl w g none)
 have HL := zaa.mk hB.size
 clear hI
 have HW0 := zaa.mk hB.size
 have HB := zaa.mk hB
 clear hB
 have H : ((some (([false, true] : List Bool) : List Bool)).bind fun y268 => (impl_floor_walls.l0 k ([] : List (S60)) y268 (y268.length : Int) 0 s0_0 s0_1)) = some r := h
 clear h
 obtain ⟨y268, hy268⟩ : ∃ y_ : List Bool, y_ = (([false, true] : List Bool)) := ⟨_, rfl⟩
 replace H : (impl_floor_walls.l0 k ([] : List (S60)) y268 (y268.length : Int) 0 s0_0 s0_1) = some r := by first | (rw [hy268]; with_reducible exact H) | (have H2_ := (Option.bind_some _ _).symm.trans H; rw [hy268]; with_reducible exact H2_) | (have H2_ := (Option.bind_some _ _).symm.trans H; with_reducible exact H2_) | with_reducible exact H | (rw [hy268]; exact H) | exact H
 have Ny268 := zaa.mk hy268
 clear hy268
 have H' := zaa.mk H
 clear H
 go_enter Try.func57, Try.ntmps57
 go_wp2_with (first | ((with_reducible refine zbc (N := 12) rfl ?_); refine Kd.R_lit Kd.bool _ 4 ?hg (N := 12) ?hd (xs := ([false, true] : List Bool)) (inner := [.bool false, .bool true]) (ok := fun _ => True) (okp := fun _ => True) ?hr ?hp (fun _ hk => hk) trivial (Below.refl _ _) (Nat.le_refl _) (by simp) ?_; (case hd => rfl); (case hg => rfl); (case hr => first | (go_simp; done) | (go_simp; rfl)); (case hp => exact (Reps.one (show Kd.M Kd.bool _ _ _ false [.bool false] from rfl) (Reps.one (show Kd.M Kd.bool _ _ _ true [.bool true] from rfl) (Reps.none _ _)))); intro v269 w2 ho3 hb hg_ hnew_; clear hg_ hnew_; (first | rw [← Ny268.out] at ho3 | (simp only [Int.reduceToNat] at ho3; rw [← Ny268.out] at ho3)); have n0_ := zaa.mk (Kd.R_lower ho3 (zbf (w := w) (g := g) (row := none) (by repeat (first | (with_reducible first | exact HK.out | apply zaf.set_ | apply zag | apply zak | apply zah) | exact HK.out)))); have n1_ := zaa.mk (zau.below (by repeat (first | (with_reducible first | exact HI0.out | apply zau.alloc | apply zau.drewN | apply zau.drew) | exact HI0.out)) hb); have n2_ := zaa.mk (zaf.trans (by repeat (first | (with_reducible first | exact HK.out | apply zaf.set_ | apply zag | apply zak | apply zah) | exact HK.out)) (zaf.of_below hb g none) (.inl rfl)); have n3_ := zaa.mk (zaj (by repeat (first | (with_reducible first | exact HB.out | apply zac | apply zab | apply zad | refine zai ?_ (zau.ge HI0.out)) | exact HB.out)) hb); clear HI0; clear HK; clear HB; have HO270 := n0_; have HI0 := n1_; have HK := n2_; have HB := n3_; clear n0_ n1_ n2_ n3_; clear hb ho3; obtain ⟨Ao4, co4, eo4⟩ := Kd.R_slice HO270.out; subst eo4))
 go_loopg [3, 14] k (fun kq v3 v14 w' => ∃ (x3_1 : List (S60)) (x14_1 : Int), v14 = .int .i64 x14_1 ∧ zaa (impl_floor_walls.l0 kq x3_1 y268 (y268.length : Int) x14_1 s0_0 s0_1 = some r) ∧ zaa (kq ≤ k) ∧ zaa (Kd.R k60 60 w' w.heap.size (fun _ => True) v3 x3_1) ∧ zaa (Kd.R Kd.bool 4 w' w.heap.size (fun _ => True) (.slice Ao4 y268.length co4) y268) ∧ zaa (zau w0 w' g s0_0 s0_1) ∧ zaa (zaf w w' g none) ∧ zaa (Below w0.heap.size w0 w'))
 case atStart => exact ⟨(([] : List (S60))), (0), (by first | rfl | (simp; done) | (simp [*]; done)), H', ⟨Nat.le_refl _⟩, ⟨by first | exact Kd.R_nil _ _ _ _ _ | exact Kd.N_nil _ _ _ _ _ | exact Kd.V_nil _ _ _ _ _ | exact Kd.Q_nil _ _ _ _ _ | exact Kd.S_nil _ _ _ _ _⟩, ⟨by (with_reducible repeat (first | apply Kd.R_alloc | apply Kd.R_drewN | apply Kd.R_drew)); exact HO270.out⟩, ⟨by repeat (first | (with_reducible first | exact HI0.out | apply zau.alloc | apply zau.drewN | apply zau.drew) | exact HI0.out)⟩, ⟨by repeat (first | (with_reducible first | exact HK.out | apply zaf.set_ | apply zag | apply zak | apply zah) | exact HK.out)⟩, ⟨by repeat (first | (with_reducible first | exact HB.out | apply zac | apply zab | apply zad | refine zai ?_ (zau.ge HI0.out)) | exact HB.out)⟩⟩
 case round =>
  clear H'
  try clear p2
  obtain ⟨x3_1, x14_1, rfl, HA, HK1, HO_3, HO_12, HI0, HK, HB⟩ := hrel
  cases gk with
  | zero => exact absurd HA.out (by simp [impl_floor_walls.l0])
  | succ k1 =>
   have H := HA.out
   clear HA
   simp only [impl_floor_walls.l0] at H
   by_cases c5 : x14_1 < (y268.length : Int)
   ·rw [if_pos c5] at H
    have c5b0 : decide (x14_1 < (y268.length : Int)) = true := decide_eq_true c5
    clear c5
    by_cases c6 : 0 ≤ x14_1
    ·rw [if_pos c6] at H
     have c6b0 : decide (0 ≤ x14_1) = true := decide_eq_true c6
     clear c6
     by_cases c7 : x14_1 < (y268.length : Int)
     ·rw [if_pos c7] at H
      have c7b0 : decide (x14_1 < (y268.length : Int)) = true := decide_eq_true c7
      clear c7
      replace H := Option.bind_eq_some_iff.mp H
      obtain ⟨t272, A80, H⟩ := H
      replace H : ((impl_floor_high.f s0_0 s0_1).bind fun t273 => (if rdOf false y268 x14_1 = true then (impl_floor_walls.j1 k1 x3_1 (rdOf false y268 x14_1) t273 t272 y268 (y268.length : Int) x14_1 s0_0 s0_1) else (impl_floor_walls.j1 k1 x3_1 (rdOf false y268 x14_1) t272 t273 y268 (y268.length : Int) x14_1 s0_0 s0_1))) = some r := H
      have A8 := zaa.mk A80
      clear A80
      replace H := Option.bind_eq_some_iff.mp H
      obtain ⟨t273, A90, H⟩ := H
      replace H : (if rdOf false y268 x14_1 = true then (impl_floor_walls.j1 k1 x3_1 (rdOf false y268 x14_1) t273 t272 y268 (y268.length : Int) x14_1 s0_0 s0_1) else (impl_floor_walls.j1 k1 x3_1 (rdOf false y268 x14_1) t272 t273 y268 (y268.length : Int) x14_1 s0_0 s0_1)) = some r := H
      have A9 := zaa.mk A90
      clear A90
      have HC10 := zaa.mk H
      clear H
      have p271 : 0 ≤ (x14_1 : Int) := of_decide_eq_true (by first | (with_reducible assumption) | assumption)
      have q271 : x14_1 < (y268.length : Int) := of_decide_eq_true (by first | (with_reducible assumption) | assumption)
      obtain ⟨ad271, e271, hx271_0⟩ := Kd.at_bool (Kd.R_reads' HO_12.out).2.2 x14_1 p271 q271
      cases e271
      replace p271 := eq_true p271
      replace q271 := eq_true q271
      go_upto_if 22 with (first | ((with_reducible refine zal (f := 65) rfl ?_); refine zbb (some 19) rfl rfl Try.func65 (by kernel_rfl) rfl #[.pointer (some ⟨g, 0, none⟩)] rfl (by (try simp only [List.map_toArray, List.map_cons, List.map_nil]); first | done | rfl | (simp only [List.length_drop, List.length_take]; rfl)) ?_; (with_reducible refine (impl_floor_wide.calls g s0_0 s0_1 t272 w0 _ ?side1 ?side2 A8.out).mono ?_); (case side1 => repeat (first | (with_reducible first | exact HI0.out | apply zau.alloc | apply zau.drewN | apply zau.drew) | exact HI0.out)); (case side2 => repeat (first | (with_reducible first | exact HB.out | apply zac | apply zab | apply zad | refine zai ?_ (zau.ge HI0.out)) | exact HB.out)); rintro e w11 ⟨rfl, hi, hb, hk⟩; refine ⟨_, rfl, ?_⟩; have n0_ := zaa.mk (Kd.R_mono (Kd.R_keep (zau.apart (show zau w0 _ g s0_0 s0_1 from by repeat (first | (with_reducible first | exact HI0.out | apply zau.alloc | apply zau.drewN | apply zau.drew) | exact HI0.out)) (by (with_reducible repeat (first | apply Kd.R_alloc | apply Kd.R_drewN | apply Kd.R_drew)); exact HO_3.out) (by decide)) hk (fun _ h => h.2)) (fun _ h => h.1)); have n1_ := zaa.mk (Kd.R_mono (Kd.R_keep (zau.apart (show zau w0 _ g s0_0 s0_1 from by repeat (first | (with_reducible first | exact HI0.out | apply zau.alloc | apply zau.drewN | apply zau.drew) | exact HI0.out)) (by (with_reducible repeat (first | apply Kd.R_alloc | apply Kd.R_drewN | apply Kd.R_drew)); exact HO_12.out) (by decide)) hk (fun _ h => h.2)) (fun _ h => h.1)); have n2_ := zaa.mk (zaf.trans (by repeat (first | (with_reducible first | exact HK.out | apply zaf.set_ | apply zag | apply zak | apply zah) | exact HK.out)) hk (.inl rfl)); have n3_ := zaa.mk (hb); have n4_ := zaa.mk (hi); clear HO_3; clear HO_12; clear HK; clear HB; clear HI0; have HO_3 := n0_; have HO_12 := n1_; have HK := n2_; have HB := n3_; have HI0 := n4_; clear n0_ n1_ n2_ n3_ n4_; (try clear hb); (try clear hb2); (try clear hk); (try clear hi)) | ((with_reducible refine zal (f := 66) rfl ?_); refine zbb (some 21) rfl rfl Try.func66 (by kernel_rfl) rfl #[.pointer (some ⟨g, 0, none⟩)] rfl (by (try simp only [List.map_toArray, List.map_cons, List.map_nil]); first | done | rfl | (simp only [List.length_drop, List.length_take]; rfl)) ?_; (with_reducible refine (impl_floor_high.calls g s0_0 s0_1 t273 w0 _ ?side1 ?side2 A9.out).mono ?_); (case side1 => repeat (first | (with_reducible first | exact HI0.out | apply zau.alloc | apply zau.drewN | apply zau.drew) | exact HI0.out)); (case side2 => repeat (first | (with_reducible first | exact HB.out | apply zac | apply zab | apply zad | refine zai ?_ (zau.ge HI0.out)) | exact HB.out)); rintro e w12 ⟨rfl, hi, hb, hk⟩; refine ⟨_, rfl, ?_⟩; have n0_ := zaa.mk (Kd.R_mono (Kd.R_keep (zau.apart (show zau w0 _ g s0_0 s0_1 from by repeat (first | (with_reducible first | exact HI0.out | apply zau.alloc | apply zau.drewN | apply zau.drew) | exact HI0.out)) (by (with_reducible repeat (first | apply Kd.R_alloc | apply Kd.R_drewN | apply Kd.R_drew)); exact HO_3.out) (by decide)) hk (fun _ h => h.2)) (fun _ h => h.1)); have n1_ := zaa.mk (Kd.R_mono (Kd.R_keep (zau.apart (show zau w0 _ g s0_0 s0_1 from by repeat (first | (with_reducible first | exact HI0.out | apply zau.alloc | apply zau.drewN | apply zau.drew) | exact HI0.out)) (by (with_reducible repeat (first | apply Kd.R_alloc | apply Kd.R_drewN | apply Kd.R_drew)); exact HO_12.out) (by decide)) hk (fun _ h => h.2)) (fun _ h => h.1)); have n2_ := zaa.mk (zaf.trans (by repeat (first | (with_reducible first | exact HK.out | apply zaf.set_ | apply zag | apply zak | apply zah) | exact HK.out)) hk (.inl rfl)); have n3_ := zaa.mk (hb); have n4_ := zaa.mk (hi); clear HO_3; clear HO_12; clear HK; clear HB; clear HI0; have HO_3 := n0_; have HO_12 := n1_; have HK := n2_; have HB := n3_; have HI0 := n4_; clear n0_ n1_ n2_ n3_ n4_; (try clear hb); (try clear hb2); (try clear hk); (try clear hi)))
      (try simp only [Act.put, List.setIfInBounds_toArray, List.set_cons_zero, List.set_cons_succ])
      obtain ⟨lv_, hlv_⟩ : ∃ b_ : Bool, b_ = (rdOf false y268 x14_1) := ⟨_, rfl⟩
      rw [← hlv_]
      have Hlv_ := zaa.mk hlv_
      clear hlv_
      go_cut [6, 7] (fun v6 v7 wc => ∃ (kq : Nat) (x6_9 : Int) (x7_9 : Int), v6 = .int .i64 x6_9 ∧ v7 = .int .i64 x7_9 ∧ zaa (impl_floor_walls.j1 kq x3_1 lv_ x6_9 x7_9 y268 (y268.length : Int) x14_1 s0_0 s0_1 = some r) ∧ zaa (kq ≤ k1) ∧ zaa (Kd.R k60 60 wc w.heap.size (fun _ => True) u3 x3_1) ∧ zaa (Kd.R Kd.bool 4 wc w.heap.size (fun _ => True) (.slice (some ad271) y268.length co4) y268) ∧ zaa (zau w0 wc g s0_0 s0_1) ∧ zaa (zaf w wc g none) ∧ zaa (Below w0.heap.size w0 wc))
      case first =>
       have H := HC10.out
       clear HC10
       obtain ⟨bq13, hbq13⟩ : ∃ b_ : Bool, b_ = (rdOf false y268 x14_1) := ⟨_, rfl⟩
       replace H : (if bq13 = true then (impl_floor_walls.j1 k1 x3_1 bq13 t273 t272 y268 (y268.length : Int) x14_1 s0_0 s0_1) else (impl_floor_walls.j1 k1 x3_1 bq13 t272 t273 y268 (y268.length : Int) x14_1 s0_0 s0_1)) = some r := by rw [← hbq13] at H; exact H
       have Nbq13 := zaa.mk hbq13
       clear hbq13
       obtain rfl : bq13 = lv_ := Nbq13.out.trans Hlv_.out.symm
       by_cases c14 : bq13 = true
       ·subst c14
        have H1 : (impl_floor_walls.j1 k1 x3_1 true t273 t272 y268 (y268.length : Int) x14_1 s0_0 s0_1) = some r := by rw [if_pos rfl] at H; exact H
        clear H
        have H := H1
        clear H1
        have H' := zaa.mk H
        clear H
        go_wp2
        go_meet
        case rel => exact ⟨_, (t273), (t272), (by first | rfl | (simp; done) | (simp [*]; done)), (by first | rfl | (simp; done) | (simp [*]; done)), H', ⟨by have := HK1.out; first | omega | exact Nat.le_refl _⟩, ⟨by (with_reducible repeat (first | apply Kd.R_alloc | apply Kd.R_drewN | apply Kd.R_drew)); exact HO_3.out⟩, ⟨by (with_reducible repeat (first | apply Kd.R_alloc | apply Kd.R_drewN | apply Kd.R_drew)); exact HO_12.out⟩, ⟨by repeat (first | (with_reducible first | exact HI0.out | apply zau.alloc | apply zau.drewN | apply zau.drew) | exact HI0.out)⟩, ⟨by repeat (first | (with_reducible first | exact HK.out | apply zaf.set_ | apply zag | apply zak | apply zah) | exact HK.out)⟩, ⟨by repeat (first | (with_reducible first | exact HB.out | apply zac | apply zab | apply zad | refine zai ?_ (zau.ge HI0.out)) | exact HB.out)⟩⟩
       ·replace c14 := Bool.eq_false_iff.mpr c14
        subst c14
        have H1 : (impl_floor_walls.j1 k1 x3_1 false t272 t273 y268 (y268.length : Int) x14_1 s0_0 s0_1) = some r := by rw [if_neg (show ¬ (false = true) by decide)] at H; exact H
        clear H
        have H := H1
        clear H1
        have H' := zaa.mk H
        clear H
        go_wp2
        go_meet
        case rel => exact ⟨_, (t272), (t273), (by first | rfl | (simp; done) | (simp [*]; done)), (by first | rfl | (simp; done) | (simp [*]; done)), H', ⟨by have := HK1.out; first | omega | exact Nat.le_refl _⟩, ⟨by (with_reducible repeat (first | apply Kd.R_alloc | apply Kd.R_drewN | apply Kd.R_drew)); exact HO_3.out⟩, ⟨by (with_reducible repeat (first | apply Kd.R_alloc | apply Kd.R_drewN | apply Kd.R_drew)); exact HO_12.out⟩, ⟨by repeat (first | (with_reducible first | exact HI0.out | apply zau.alloc | apply zau.drewN | apply zau.drew) | exact HI0.out)⟩, ⟨by repeat (first | (with_reducible first | exact HK.out | apply zaf.set_ | apply zag | apply zak | apply zah) | exact HK.out)⟩, ⟨by repeat (first | (with_reducible first | exact HB.out | apply zac | apply zab | apply zad | refine zai ?_ (zau.ge HI0.out)) | exact HB.out)⟩⟩
      case rest =>
       have hlv_ := Hlv_.out
       clear Hlv_
       subst hlv_
       clear HC10
       try clear c1
       try clear q1
       try clear p2
       try clear q2
       try clear hx2
       try clear c5
       try clear c5b0
       try clear c6
       try clear c6b0
       try clear c7
       try clear c7b0
       try clear q13
       try clear c14
       try clear hx271_0
       try clear p2
       try clear p271
       try clear q271
       obtain ⟨kq, x6_9, x7_9, rfl, rfl, HA, HJ9, HO_3, HO_12, HI0, HK, HB⟩ := hcut
       cases kq with
       | zero => exact absurd HA.out (by simp [impl_floor_walls.j1])
       | succ kj9 =>
        have H := HA.out
        clear HA
        simp only [impl_floor_walls.j1] at H
        have H' := zaa.mk H
        clear H
        go_wp2
        go_loopg [3, 8] kj9 (fun kq v3 v8 w' => ∃ (x3_3 : List (S60)) (x8_3 : Int), v8 = .int .i64 x8_3 ∧ zaa (impl_floor_walls.l1 kq x3_3 (rdOf false y268 x14_1) x6_9 x7_9 x8_3 y268 (y268.length : Int) x14_1 s0_0 s0_1 = some r) ∧ zaa (kq ≤ kj9) ∧ zaa (Kd.R k60 60 w' w.heap.size (fun _ => True) v3 x3_3) ∧ zaa (Kd.R Kd.bool 4 w' w.heap.size (fun _ => True) (.slice (some ad271) y268.length co4) y268) ∧ zaa (zau w0 w' g s0_0 s0_1) ∧ zaa (zaf w w' g none) ∧ zaa (Below w0.heap.size w0 w'))
        case atStart => exact ⟨(x3_1), (1), (by first | rfl | (simp; done) | (simp [*]; done)), H', ⟨Nat.le_refl _⟩, ⟨by (with_reducible repeat (first | apply Kd.R_alloc | apply Kd.R_drewN | apply Kd.R_drew)); exact HO_3.out⟩, ⟨by (with_reducible repeat (first | apply Kd.R_alloc | apply Kd.R_drewN | apply Kd.R_drew)); exact HO_12.out⟩, ⟨by repeat (first | (with_reducible first | exact HI0.out | apply zau.alloc | apply zau.drewN | apply zau.drew) | exact HI0.out)⟩, ⟨by repeat (first | (with_reducible first | exact HK.out | apply zaf.set_ | apply zag | apply zak | apply zah) | exact HK.out)⟩, ⟨by repeat (first | (with_reducible first | exact HB.out | apply zac | apply zab | apply zad | refine zai ?_ (zau.ge HI0.out)) | exact HB.out)⟩⟩
        case round =>
         clear H'
         try clear c1
         try clear q1
         try clear p2
         try clear q2
         try clear hx2
         try clear c5
         try clear c5b0
         try clear c6
         try clear c6b0
         try clear c7
         try clear c7b0
         try clear q13
         try clear c14
         try clear hx271_0
         try clear p2
         try clear p271
         try clear q1
         try clear q13
         try clear q2
         try clear q271
         obtain ⟨x3_3, x8_3, rfl, HA, HK3, HO_3, HO_12, HI0, HK, HB⟩ := hrel
         cases gk with
         | zero => exact absurd HA.out (by simp [impl_floor_walls.l1])
         | succ k3 =>
          have H := HA.out
          clear HA
          simp only [impl_floor_walls.l1] at H
          by_cases c15 : x8_3 < x6_9
          ·rw [if_pos c15] at H
           have c15b0 : decide (x8_3 < x6_9) = true := decide_eq_true c15
           clear c15
           have H' := zaa.mk H
           clear H
           go_wp2
           go_loopg [3, 9, 31] k3 (fun kq v3 v9 v31 w' => ∃ (x3_4 : List (S60)) (x9_4 : Bool) (x31_4 : Int), v9 = .bool x9_4 ∧ v31 = .int .i64 x31_4 ∧ zaa (impl_floor_walls.l2 kq x3_4 (rdOf false y268 x14_1) x6_9 x7_9 x8_3 x9_4 y268 (y268.length : Int) x14_1 x7_9 x31_4 s0_0 s0_1 = some r) ∧ zaa (kq ≤ k3) ∧ zaa (Kd.R k60 60 w' w.heap.size (fun _ => True) v3 x3_4) ∧ zaa (Kd.R Kd.bool 4 w' w.heap.size (fun _ => True) (.slice (some ad271) y268.length co4) y268) ∧ zaa (zau w0 w' g s0_0 s0_1) ∧ zaa (zaf w w' g none) ∧ zaa (Below w0.heap.size w0 w'))
           case atStart => exact ⟨(x3_3), (false), (0), (by first | rfl | (simp; done) | (simp [*]; done)), (by first | rfl | (simp; done) | (simp [*]; done)), H', ⟨Nat.le_refl _⟩, ⟨by (with_reducible repeat (first | apply Kd.R_alloc | apply Kd.R_drewN | apply Kd.R_drew)); exact HO_3.out⟩, ⟨by (with_reducible repeat (first | apply Kd.R_alloc | apply Kd.R_drewN | apply Kd.R_drew)); exact HO_12.out⟩, ⟨by repeat (first | (with_reducible first | exact HI0.out | apply zau.alloc | apply zau.drewN | apply zau.drew) | exact HI0.out)⟩, ⟨by repeat (first | (with_reducible first | exact HK.out | apply zaf.set_ | apply zag | apply zak | apply zah) | exact HK.out)⟩, ⟨by repeat (first | (with_reducible first | exact HB.out | apply zac | apply zab | apply zad | refine zai ?_ (zau.ge HI0.out)) | exact HB.out)⟩⟩
           case round =>
            clear H'
            try clear c1
            try clear q1
            try clear p2
            try clear q2
            try clear hx2
            try clear c5
            try clear c5b0
            try clear c6
            try clear c6b0
            try clear c7
            try clear c7b0
            try clear q13
            try clear c14
            try clear c15
            try clear c15b0
            try clear hx271_0
            try clear p2
            try clear p271
            try clear q1
            try clear q13
            try clear q2
            try clear q271
            obtain ⟨x3_4, x9_4, x31_4, rfl, rfl, HA, HK4, HO_3, HO_12, HI0, HK, HB⟩ := hrel
            cases gk with
            | zero => exact absurd HA.out (by simp [impl_floor_walls.l2])
            | succ k4 =>
             have H := HA.out
             clear HA
             simp only [impl_floor_walls.l2] at H
             by_cases c16 : x31_4 < x7_9
             ·rw [if_pos c16] at H
              have c16b0 : decide (x31_4 < x7_9) = true := decide_eq_true c16
              clear c16
              replace H := Option.bind_eq_some_iff.mp H
              obtain ⟨t274, A170, H⟩ := H
              replace H : (if t274 = true then (impl_floor_walls.j4 k4 x3_4 (rdOf false y268 x14_1) x6_9 x7_9 x8_3 x31_4 t274 y268 (y268.length : Int) x14_1 x7_9 x31_4 x9_4 s0_0 s0_1) else (impl_floor_walls.j4 k4 x3_4 (rdOf false y268 x14_1) x6_9 x7_9 x8_3 x31_4 t274 y268 (y268.length : Int) x14_1 x7_9 x31_4 false s0_0 s0_1)) = some r := H
              have A17 := zaa.mk A170
              clear A170
              have HC18 := zaa.mk H
              clear H
              go_upto_region 16 with (first | ((with_reducible refine zal (f := 93) rfl ?_); refine zbb (some 38) rfl rfl Try.func93 (by kernel_rfl) rfl #[.pointer (some ⟨g, 0, none⟩), .bool (rdOf false y268 x14_1), .int .i64 x8_3, .int .i64 x31_4] rfl (by (try simp only [List.map_toArray, List.map_cons, List.map_nil]); first | done | rfl | (simp only [List.length_drop, List.length_take]; rfl)) ?_; (with_reducible refine (impl_floor_differ.calls g s0_0 s0_1 (rdOf false y268 x14_1) x8_3 x31_4 t274 w0 _ ?side1 ?side2 A17.out).mono ?_); (case side1 => repeat (first | (with_reducible first | exact HI0.out | apply zau.alloc | apply zau.drewN | apply zau.drew) | exact HI0.out)); (case side2 => repeat (first | (with_reducible first | exact HB.out | apply zac | apply zab | apply zad | refine zai ?_ (zau.ge HI0.out)) | exact HB.out)); rintro e w19 ⟨rfl, hi, hb, hk⟩; refine ⟨_, rfl, ?_⟩; have n0_ := zaa.mk (Kd.R_mono (Kd.R_keep (zau.apart (show zau w0 _ g s0_0 s0_1 from by repeat (first | (with_reducible first | exact HI0.out | apply zau.alloc | apply zau.drewN | apply zau.drew) | exact HI0.out)) (by (with_reducible repeat (first | apply Kd.R_alloc | apply Kd.R_drewN | apply Kd.R_drew)); exact HO_3.out) (by decide)) hk (fun _ h => h.2)) (fun _ h => h.1)); have n1_ := zaa.mk (Kd.R_mono (Kd.R_keep (zau.apart (show zau w0 _ g s0_0 s0_1 from by repeat (first | (with_reducible first | exact HI0.out | apply zau.alloc | apply zau.drewN | apply zau.drew) | exact HI0.out)) (by (with_reducible repeat (first | apply Kd.R_alloc | apply Kd.R_drewN | apply Kd.R_drew)); exact HO_12.out) (by decide)) hk (fun _ h => h.2)) (fun _ h => h.1)); have n2_ := zaa.mk (zaf.trans (by repeat (first | (with_reducible first | exact HK.out | apply zaf.set_ | apply zag | apply zak | apply zah) | exact HK.out)) hk (.inl rfl)); have n3_ := zaa.mk (hb); have n4_ := zaa.mk (hi); clear HO_3; clear HO_12; clear HK; clear HB; clear HI0; have HO_3 := n0_; have HO_12 := n1_; have HK := n2_; have HB := n3_; have HI0 := n4_; clear n0_ n1_ n2_ n3_ n4_; (try clear hb); (try clear hb2); (try clear hk); (try clear hi)))
              (try simp only [Act.put, List.setIfInBounds_toArray, List.set_cons_zero, List.set_cons_succ])
              go_cut [39] (fun v39 wc => ∃ (kq : Nat) (x39_17 : Bool), v39 = .bool x39_17 ∧ zaa (impl_floor_walls.j4 kq x3_4 (rdOf false y268 x14_1) x6_9 x7_9 x8_3 x31_4 t274 y268 (y268.length : Int) x14_1 x7_9 x31_4 x39_17 s0_0 s0_1 = some r) ∧ zaa (kq ≤ k4) ∧ zaa (Kd.R k60 60 wc w.heap.size (fun _ => True) u3 x3_4) ∧ zaa (Kd.R Kd.bool 4 wc w.heap.size (fun _ => True) (.slice (some ad271) y268.length co4) y268) ∧ zaa (zau w0 wc g s0_0 s0_1) ∧ zaa (zaf w wc g none) ∧ zaa (Below w0.heap.size w0 wc))
              case first =>
               have H := HC18.out
               clear HC18
               by_cases c20 : t274 = true
               ·subst c20
                have H1 : (impl_floor_walls.j4 k4 x3_4 (rdOf false y268 x14_1) x6_9 x7_9 x8_3 x31_4 true y268 (y268.length : Int) x14_1 x7_9 x31_4 x9_4 s0_0 s0_1) = some r := by rw [if_pos rfl] at H; exact H
                clear H
                have H := H1
                clear H1
                have H' := zaa.mk H
                clear H
                go_wp2
                go_meet
                case rel => exact ⟨_, (x9_4), (by first | rfl | (simp; done) | (simp [*]; done)), H', ⟨by have := HK1.out; have := HJ9.out; have := HK3.out; have := HK4.out; first | omega | exact Nat.le_refl _⟩, ⟨by (with_reducible repeat (first | apply Kd.R_alloc | apply Kd.R_drewN | apply Kd.R_drew)); exact HO_3.out⟩, ⟨by (with_reducible repeat (first | apply Kd.R_alloc | apply Kd.R_drewN | apply Kd.R_drew)); exact HO_12.out⟩, ⟨by repeat (first | (with_reducible first | exact HI0.out | apply zau.alloc | apply zau.drewN | apply zau.drew) | exact HI0.out)⟩, ⟨by repeat (first | (with_reducible first | exact HK.out | apply zaf.set_ | apply zag | apply zak | apply zah) | exact HK.out)⟩, ⟨by repeat (first | (with_reducible first | exact HB.out | apply zac | apply zab | apply zad | refine zai ?_ (zau.ge HI0.out)) | exact HB.out)⟩⟩
               ·replace c20 := Bool.eq_false_iff.mpr c20
                subst c20
                have H1 : (impl_floor_walls.j4 k4 x3_4 (rdOf false y268 x14_1) x6_9 x7_9 x8_3 x31_4 false y268 (y268.length : Int) x14_1 x7_9 x31_4 false s0_0 s0_1) = some r := by rw [if_neg (show ¬ (false = true) by decide)] at H; exact H
                clear H
                have H := H1
                clear H1
                have H' := zaa.mk H
                clear H
                go_wp2
                go_meet
                case rel => exact ⟨_, (false), (by first | rfl | (simp; done) | (simp [*]; done)), H', ⟨by have := HK1.out; have := HJ9.out; have := HK3.out; have := HK4.out; first | omega | exact Nat.le_refl _⟩, ⟨by (with_reducible repeat (first | apply Kd.R_alloc | apply Kd.R_drewN | apply Kd.R_drew)); exact HO_3.out⟩, ⟨by (with_reducible repeat (first | apply Kd.R_alloc | apply Kd.R_drewN | apply Kd.R_drew)); exact HO_12.out⟩, ⟨by repeat (first | (with_reducible first | exact HI0.out | apply zau.alloc | apply zau.drewN | apply zau.drew) | exact HI0.out)⟩, ⟨by repeat (first | (with_reducible first | exact HK.out | apply zaf.set_ | apply zag | apply zak | apply zah) | exact HK.out)⟩, ⟨by repeat (first | (with_reducible first | exact HB.out | apply zac | apply zab | apply zad | refine zai ?_ (zau.ge HI0.out)) | exact HB.out)⟩⟩
              case rest =>
               clear HC18
               try clear c1
               try clear q1
               try clear c2
               try clear p2
               try clear q2
               try clear hx2
               try clear c5
               try clear c5b0
               try clear c6
               try clear c6b0
               try clear c7
               try clear c7b0
               try clear c9
               try clear q13
               try clear c14
               try clear c15
               try clear c15b0
               try clear c16
               try clear c16b0
               try clear c20
               try clear hx271_0
               try clear p2
               try clear p271
               try clear q1
               try clear q13
               try clear q2
               try clear q271
               obtain ⟨kq, x39_17, rfl, HA, HJ17, HO_3, HO_12, HI0, HK, HB⟩ := hcut
               cases kq with
               | zero => exact absurd HA.out (by simp [impl_floor_walls.j4])
               | succ kj17 =>
                have H := HA.out
                clear HA
                simp only [impl_floor_walls.j4] at H
                by_cases c21 : x39_17 = true
                ·subst c21
                 have H1 : (if 0 ≤ (wrap64 ((x3_4.length : Int) - 1)) then (if (wrap64 ((x3_4.length : Int) - 1)) < (x3_4.length : Int) then (impl_floor_walls.l2 kj17 (x3_4.set ((wrap64 ((x3_4.length : Int) - 1)) : Int).toNat (⟨(zcb x3_4 (wrap64 ((x3_4.length : Int) - 1))).f0, (zcb x3_4 (wrap64 ((x3_4.length : Int) - 1))).f1, (zcb x3_4 (wrap64 ((x3_4.length : Int) - 1))).f2, wrap64 (((zcb x3_4 (wrap64 ((x3_4.length : Int) - 1))).f3) + 1)⟩ : S60)) (rdOf false y268 x14_1) x6_9 x7_9 x8_3 t274 y268 (y268.length : Int) x14_1 x7_9 (wrap64 (x31_4 + 1)) s0_0 s0_1) else (none)) else (none)) = some r := by rw [if_pos rfl] at H; exact H
                 clear H
                 have H := H1
                 clear H1
                 obtain ⟨ji22, hji22⟩ : ∃ j_ : Int, (wrap64 ((x3_4.length : Int) - 1)) = j_ := ⟨_, rfl⟩
                 replace H : (if 0 ≤ (ji22) then (if (ji22) < (x3_4.length : Int) then (impl_floor_walls.l2 kj17 (x3_4.set ((ji22) : Int).toNat (⟨(zcb x3_4 (ji22)).f0, (zcb x3_4 (ji22)).f1, (zcb x3_4 (ji22)).f2, wrap64 (((zcb x3_4 (ji22)).f3) + 1)⟩ : S60)) (rdOf false y268 x14_1) x6_9 x7_9 x8_3 t274 y268 (y268.length : Int) x14_1 x7_9 (wrap64 (x31_4 + 1)) s0_0 s0_1) else (none)) else (none)) = some r := by first | (rw [hji22] at H; exact H) | (simp only [hji22] at H ⊢; exact H)
                 have hji22w : (IntKind.i64.wrap ((x3_4.length : Int) - 1)) = ji22 := (zay _).trans hji22
                 by_cases c23 : 0 ≤ (ji22)
                 ·rw [if_pos c23] at H
                  have c23b0 : decide (0 ≤ (ji22)) = true := decide_eq_true c23
                  clear c23
                  by_cases c24 : (ji22) < (x3_4.length : Int)
                  ·rw [if_pos c24] at H
                   have c24b0 : decide ((ji22) < (x3_4.length : Int)) = true := decide_eq_true c24
                   clear c24
                   obtain ⟨y276, hy276⟩ : ∃ y_ : List (S60), y_ = (x3_4.set ((ji22) : Int).toNat (⟨(zcb x3_4 (ji22)).f0, (zcb x3_4 (ji22)).f1, (zcb x3_4 (ji22)).f2, wrap64 (((zcb x3_4 (ji22)).f3) + 1)⟩ : S60)) := ⟨_, rfl⟩
                   replace H : (impl_floor_walls.l2 kj17 y276 (rdOf false y268 x14_1) x6_9 x7_9 x8_3 t274 y268 (y268.length : Int) x14_1 x7_9 (wrap64 (x31_4 + 1)) s0_0 s0_1) = some r := by first | (rw [hy276]; with_reducible exact H) | (have H2_ := (Option.bind_some _ _).symm.trans H; rw [hy276]; with_reducible exact H2_) | (have H2_ := (Option.bind_some _ _).symm.trans H; with_reducible exact H2_) | with_reducible exact H | (rw [hy276]; exact H) | exact H
                   have Ny276 := zaa.mk hy276
                   clear hy276
                   have H' := zaa.mk H
                   clear H
                   obtain ⟨Ao26, co26, eo26⟩ := Kd.R_slice HO_3.out
                   subst eo26
                   have p275 : 0 ≤ ((ji22) : Int) := of_decide_eq_true (by first | (with_reducible assumption) | assumption)
                   have q275 : (ji22) < (x3_4.length : Int) := of_decide_eq_true (by first | (with_reducible assumption) | assumption)
                   obtain ⟨ad275, e275, hx275_0, hx275_1, hx275_2, hx275_3⟩ := at_T60 (Kd.R_reads' HO_3.out).2.2 (ji22) p275 q275
                   cases e275
                   replace p275 := eq_true p275
                   replace q275 := eq_true q275
                   have p25 : 0 ≤ ((ji22) : Int) := of_decide_eq_true (by first | (with_reducible assumption) | assumption)
                   have q25 : ((ji22) : Int) < ((x3_4.length : Int) : Int) := of_decide_eq_true (by first | (with_reducible assumption) | assumption)
                   obtain ⟨go25, co25, eo25, gb25, gl25, cl25, HG25⟩ := Kd.R_form HO_3.out (by omega)
                   (first | cases eo25 | (injection eo25 with ea_ en_ ec_; (first | subst ea_ | (injection ea_ with ea_; subst ea_)); subst ec_; clear en_))
                   have GB25 := zaa.mk gb25
                   have GG25 := zaa.mk HG25
                   clear gb25 gl25 HG25
                   (first | simp only [zcm] at hx275_0 | skip)
                   (first | simp only [zcm] at hx275_1 | skip)
                   (first | simp only [zcm] at hx275_2 | skip)
                   (first | simp only [zcm] at hx275_3 | skip)
                   obtain ⟨ce25, hcl25, hM25, hcc25, hfr25⟩ := Kd.R_elem HO_3.out z60 ((ji22) : Int) p25 q25
                   obtain rfl := k60_openM hM25
                   have hx25_0 : wc.cell? ⟨go25, ((ji22) : Int).toNat * 4, none⟩ = some (.bool ((zcb x3_4 (ji22)).f0)) := hcc25 0 _ rfl
                   have hx25_1 : wc.cell? ⟨go25, ((ji22) : Int).toNat * 4 + 1, none⟩ = some (.int .i64 ((zcb x3_4 (ji22)).f1)) := hcc25 1 _ rfl
                   have hx25_2 : wc.cell? ⟨go25, ((ji22) : Int).toNat * 4 + 2, none⟩ = some (.int .i64 ((zcb x3_4 (ji22)).f2)) := hcc25 2 _ rfl
                   have hx25_3 : wc.cell? ⟨go25, ((ji22) : Int).toNat * 4 + 3, none⟩ = some (.int .i64 ((zcb x3_4 (ji22)).f3)) := hcc25 3 _ rfl
                   have hf25_0 : wc.frozen? ⟨go25, ((ji22) : Int).toNat * 4, none⟩ = false := hfr25 0
                   have hf25_1 : wc.frozen? ⟨go25, ((ji22) : Int).toNat * 4 + 1, none⟩ = false := hfr25 1
                   have hf25_2 : wc.frozen? ⟨go25, ((ji22) : Int).toNat * 4 + 2, none⟩ = false := hfr25 2
                   have hf25_3 : wc.frozen? ⟨go25, ((ji22) : Int).toNat * 4 + 3, none⟩ = false := hfr25 3
                   clear hcl25 hcc25 hfr25 hM25
                   replace p25 := eq_true p25
                   replace q25 := eq_true q25
                   have HX27 := zaa.mk (show Kd.R k60 60 wc w.heap.size (fun _ => True) (.slice (some ⟨go25, 0, none⟩) x3_4.length co26) x3_4 from (by (with_reducible repeat (first | apply Kd.R_alloc | apply Kd.R_drewN | apply Kd.R_drew)); exact HO_3.out))
                   obtain ⟨ce27, hcl27, hM27, hcc27, hfr27⟩ := Kd.R_elem HX27.out z60 ((ji22) : Int) (of_decide_eq_true (by first | (with_reducible assumption) | assumption)) (by have h_ : ((ji22) : Int) < ((x3_4.length : Int) : Int) := of_decide_eq_true (by first | (with_reducible assumption) | assumption); first | exact h_ | (have e_ := (Kd.R_reads' HO_3.out).1; omega) | simpa using h_)
                   obtain rfl := k60_openM hM27
                   have HP27 := Kd.R_seg HX27.out ((ji22) : Int) (of_decide_eq_true (by first | (with_reducible assumption) | assumption)) (by have h_ : ((ji22) : Int) < ((x3_4.length : Int) : Int) := of_decide_eq_true (by first | (with_reducible assumption) | assumption); first | exact h_ | (have e_ := (Kd.R_reads' HO_3.out).1; omega) | simpa using h_) (seg := [.int .i64 (wrap64 (((zcb x3_4 (ji22)).f3) + 1))]) (j := 3) hcl27 hcc27 (show 4 ≤ 4 from by decide) (x' := (⟨(zcb x3_4 (ji22)).f0, (zcb x3_4 (ji22)).f1, (zcb x3_4 (ji22)).f2, wrap64 (((zcb x3_4 (ji22)).f3) + 1)⟩ : S60)) (k60_mkM _ _ _ (⟨(zcb x3_4 (ji22)).f0, (zcb x3_4 (ji22)).f1, (zcb x3_4 (ji22)).f2, wrap64 (((zcb x3_4 (ji22)).f3) + 1)⟩ : S60) ) (fun _ hk => hk)
                   have hx27_3 := hcc27 3 _ rfl
                   (try simp only [show (k60).sz = 4 from rfl, Nat.mul_one, Nat.add_zero] at hx27_3)
                   have hf27_3 := hfr27 3
                   (try simp only [show (k60).sz = 4 from rfl, Nat.mul_one, Nat.add_zero] at hf27_3)
                   clear hcl27 hcc27 hfr27 hM27
                   go_wp2_with (first | ((with_reducible refine gate_store (t := 3) (p := 53) rfl ?_); refine store_event (t := 3) (p := 53) (v := ?vo_w28) (w1 := (wc.setCell ⟨go25, ((ji22) : Int).toNat * 4 + 3, none⟩ (.int .i64 (wrap64 (((zcb x3_4 (ji22)).f3) + 1))))) ?hg ?ho ?hn ?hr ?_; (case ho => rfl); (case hg => rfl); (case hn => rfl); (case hr => first | (go_simp; done) | (go_simp; rfl)); intro w28 hw; have hg : wc.grownBy w28 (some go25) := (by rw [hw]; exact HP27.2); have hp_ : Kd.R k60 60 w28 w.heap.size (fun _ => True) (.slice (some ⟨go25, 0, none⟩) x3_4.length co26) y276 := (by rw [hw, Ny276.out]; exact HP27.1); clear HP27; have n0_ := zaa.mk (hp_); have n1_ := zaa.mk (Kd.R_over' (v := (.slice (some ⟨go25, 0, none⟩) x3_4.length co26)) (by (with_reducible repeat (first | apply Kd.R_alloc | apply Kd.R_drewN | apply Kd.R_drew)); exact HO_12.out) (Kd.R_typed HO_3.out) (by decide) hg); have n2_ := zaa.mk (zau.grown (by repeat (first | (with_reducible first | exact HI0.out | apply zau.alloc | apply zau.drewN | apply zau.drew) | exact HI0.out)) hg (zau.own_ne HI0.out HO_3.out (by decide))); have n3_ := zaa.mk ((by rw [hw]; exact zai (HB.out) (Nat.le_trans HL.out GB25.out) : Below w0.heap.size w0 w28)); have n4_ := zaa.mk (zaf.trans (by repeat (first | (with_reducible first | exact HK.out | apply zaf.set_ | apply zag | apply zak | apply zah) | exact HK.out)) (zaf.of_grown hg g) (Kd.R_base2 HO_3.out)); clear HO_3; clear HO_12; clear HI0; clear HB; clear HK; have HO_3 := n0_; have HO_12 := n1_; have HI0 := n2_; have HB := n3_; have HK := n4_; clear n0_ n1_ n2_ n3_ n4_; clear hg hw hp_))
                   go_roundg kj17
                   case measure => have := HK1.out; have := HJ9.out; have := HK3.out; have := HK4.out; have := HJ17.out; omega
                   case rel => exact ⟨(y276), (t274), (wrap64 (x31_4 + 1)), (by first | rfl | (simp; done) | (simp [*]; done)), (by first | rfl | (simp; done) | (simp [*]; done)), H', ⟨by have := HK1.out; have := HJ9.out; have := HK3.out; have := HK4.out; have := HJ17.out; omega⟩, ⟨by (with_reducible repeat (first | apply Kd.R_alloc | apply Kd.R_drewN | apply Kd.R_drew)); exact HO_3.out⟩, ⟨by (with_reducible repeat (first | apply Kd.R_alloc | apply Kd.R_drewN | apply Kd.R_drew)); exact HO_12.out⟩, ⟨by repeat (first | (with_reducible first | exact HI0.out | apply zau.alloc | apply zau.drewN | apply zau.drew) | exact HI0.out)⟩, ⟨by repeat (first | (with_reducible first | exact HK.out | apply zaf.set_ | apply zag | apply zak | apply zah) | exact HK.out)⟩, ⟨by repeat (first | (with_reducible first | exact HB.out | apply zac | apply zab | apply zad | refine zai ?_ (zau.ge HI0.out)) | exact HB.out)⟩⟩
                  ·rw [if_neg c24] at H
                   exact absurd H (by simp)
                 ·rw [if_neg c23] at H
                  exact absurd H (by simp)
                ·replace c21 := Bool.eq_false_iff.mpr c21
                 subst c21
                 have H1 : (if t274 = true then (if x3_4.length < 4398046511104 then (impl_floor_walls.l2 kj17 (x3_4 ++ [(⟨(rdOf false y268 x14_1), x8_3, x31_4, 1⟩ : S60)]) (rdOf false y268 x14_1) x6_9 x7_9 x8_3 t274 y268 (y268.length : Int) x14_1 x7_9 (wrap64 (x31_4 + 1)) s0_0 s0_1) else (none)) else (impl_floor_walls.l2 kj17 x3_4 (rdOf false y268 x14_1) x6_9 x7_9 x8_3 t274 y268 (y268.length : Int) x14_1 x7_9 (wrap64 (x31_4 + 1)) s0_0 s0_1)) = some r := by rw [if_neg (show ¬ (false = true) by decide)] at H; exact H
                 clear H
                 have H := H1
                 clear H1
                 by_cases c29 : t274 = true
                 ·subst c29
                  have H1 : (if x3_4.length < 4398046511104 then (impl_floor_walls.l2 kj17 (x3_4 ++ [(⟨(rdOf false y268 x14_1), x8_3, x31_4, 1⟩ : S60)]) (rdOf false y268 x14_1) x6_9 x7_9 x8_3 true y268 (y268.length : Int) x14_1 x7_9 (wrap64 (x31_4 + 1)) s0_0 s0_1) else (none)) = some r := by rw [if_pos rfl] at H; exact H
                  clear H
                  have H := H1
                  clear H1
                  by_cases c30 : x3_4.length < 4398046511104
                  ·rw [if_pos c30] at H
                   have LMc30 := zaa.mk c30
                   clear c30
                   obtain ⟨y277, hy277⟩ : ∃ y_ : List (S60), y_ = (x3_4 ++ [(⟨(rdOf false y268 x14_1), x8_3, x31_4, 1⟩ : S60)]) := ⟨_, rfl⟩
                   replace H : (impl_floor_walls.l2 kj17 y277 (rdOf false y268 x14_1) x6_9 x7_9 x8_3 true y268 (y268.length : Int) x14_1 x7_9 (wrap64 (x31_4 + 1)) s0_0 s0_1) = some r := by first | (rw [hy277]; with_reducible exact H) | (have H2_ := (Option.bind_some _ _).symm.trans H; rw [hy277]; with_reducible exact H2_) | (have H2_ := (Option.bind_some _ _).symm.trans H; with_reducible exact H2_) | with_reducible exact H | (rw [hy277]; exact H) | exact H
                   have Ny277 := zaa.mk hy277
                   clear hy277
                   have H' := zaa.mk H
                   clear H
                   go_wp2_with (first | ((with_reducible refine zaz (b := .append) (xs := #[.tmp 56, .tmp 61]) rfl ?_); at_builtin; refine Kd.R_append k60 w.heap.size rfl (.tmp 56) (.tmp 61) 57 60 (.agg #[(.bool false), (.int .i64 0), (.int .i64 0), (.int .i64 0)]) 32 rfl Try.underlying57 info60 rfl (by decide) (by omega) u3 x3_4 (⟨(rdOf false y268 x14_1), x8_3, x31_4, 1⟩ : S60) [.bool (rdOf false y268 x14_1), .int .i64 x8_3, .int .i64 x31_4, .int .i64 1] (fun _ => True) (fun _ => False) rfl rfl ?aP (fun _ hk => hk.elim) ?aF ?aO (Below.refl _ _) ?aS ?aL ?_; (case aP => exact k60_mkM _ _ _ (⟨(rdOf false y268 x14_1), x8_3, x31_4, 1⟩ : S60)); (case aF => exact (fun _ _ => trivial)); (case aO => exact (by (with_reducible repeat (first | apply Kd.R_alloc | apply Kd.R_drewN | apply Kd.R_drew)); exact HO_3.out)); (case aS => exact (zbf (w := w) (g := g) (row := none) (by repeat (first | (with_reducible first | exact HK.out | apply zaf.set_ | apply zag | apply zak | apply zah) | exact HK.out)))); (case aL => have := LMc30.out; omega); intro v278 w31 ho hb hg hat; rw [← Ny277.out] at ho; have n0_ := zaa.mk (Kd.R_over' (by (with_reducible repeat (first | apply Kd.R_alloc | apply Kd.R_drewN | apply Kd.R_drew)); exact HO_12.out) (Kd.R_typed (by (with_reducible repeat (first | apply Kd.R_alloc | apply Kd.R_drewN | apply Kd.R_drew)); exact HO_3.out)) (by decide) hg); have n1_ := zaa.mk (zau.grown (by repeat (first | (with_reducible first | exact HI0.out | apply zau.alloc | apply zau.drewN | apply zau.drew) | exact HI0.out)) hg (zau.own_ne HI0.out HO_3.out (by decide))); have n2_ := zaa.mk (below_weaken (by repeat (first | (with_reducible first | exact HB.out | apply zac | apply zab | apply zad | refine zai ?_ (zau.ge HI0.out)) | exact HB.out)) HL.out hb); have n3_ := zaa.mk (zaf.trans (by repeat (first | (with_reducible first | exact HK.out | apply zaf.set_ | apply zag | apply zak | apply zah) | exact HK.out)) (zaf.of_grown hg g) (Kd.R_base2 HO_3.out)); have n4_ := zaa.mk (ho); clear HO_12; clear HI0; clear HB; clear HK; clear HO_3; have HO_12 := n0_; have HI0 := n1_; have HB := n2_; have HK := n3_; have HO279 := n4_; clear n0_ n1_ n2_ n3_ n4_; clear ho hb hg hat))
                   go_roundg kj17
                   case measure => have := HK1.out; have := HJ9.out; have := HK3.out; have := HK4.out; have := HJ17.out; omega
                   case rel => exact ⟨(y277), (true), (wrap64 (x31_4 + 1)), (by first | rfl | (simp; done) | (simp [*]; done)), (by first | rfl | (simp; done) | (simp [*]; done)), H', ⟨by have := HK1.out; have := HJ9.out; have := HK3.out; have := HK4.out; have := HJ17.out; omega⟩, ⟨by (with_reducible repeat (first | apply Kd.R_alloc | apply Kd.R_drewN | apply Kd.R_drew)); exact HO279.out⟩, ⟨by (with_reducible repeat (first | apply Kd.R_alloc | apply Kd.R_drewN | apply Kd.R_drew)); exact HO_12.out⟩, ⟨by repeat (first | (with_reducible first | exact HI0.out | apply zau.alloc | apply zau.drewN | apply zau.drew) | exact HI0.out)⟩, ⟨by repeat (first | (with_reducible first | exact HK.out | apply zaf.set_ | apply zag | apply zak | apply zah) | exact HK.out)⟩, ⟨by repeat (first | (with_reducible first | exact HB.out | apply zac | apply zab | apply zad | refine zai ?_ (zau.ge HI0.out)) | exact HB.out)⟩⟩
                  ·rw [if_neg c30] at H
                   exact absurd H (by simp)
                 ·replace c29 := Bool.eq_false_iff.mpr c29
                  subst c29
                  have H1 : (impl_floor_walls.l2 kj17 x3_4 (rdOf false y268 x14_1) x6_9 x7_9 x8_3 false y268 (y268.length : Int) x14_1 x7_9 (wrap64 (x31_4 + 1)) s0_0 s0_1) = some r := by rw [if_neg (show ¬ (false = true) by decide)] at H; exact H
                  clear H
                  have H := H1
                  clear H1
                  have H' := zaa.mk H
                  clear H
                  go_wp2
                  go_roundg kj17
                  case measure => have := HK1.out; have := HJ9.out; have := HK3.out; have := HK4.out; have := HJ17.out; omega
                  case rel => exact ⟨(x3_4), (false), (wrap64 (x31_4 + 1)), (by first | rfl | (simp; done) | (simp [*]; done)), (by first | rfl | (simp; done) | (simp [*]; done)), H', ⟨by have := HK1.out; have := HJ9.out; have := HK3.out; have := HK4.out; have := HJ17.out; omega⟩, ⟨by (with_reducible repeat (first | apply Kd.R_alloc | apply Kd.R_drewN | apply Kd.R_drew)); exact HO_3.out⟩, ⟨by (with_reducible repeat (first | apply Kd.R_alloc | apply Kd.R_drewN | apply Kd.R_drew)); exact HO_12.out⟩, ⟨by repeat (first | (with_reducible first | exact HI0.out | apply zau.alloc | apply zau.drewN | apply zau.drew) | exact HI0.out)⟩, ⟨by repeat (first | (with_reducible first | exact HK.out | apply zaf.set_ | apply zag | apply zak | apply zah) | exact HK.out)⟩, ⟨by repeat (first | (with_reducible first | exact HB.out | apply zac | apply zab | apply zad | refine zai ?_ (zau.ge HI0.out)) | exact HB.out)⟩⟩
             ·rw [if_neg c16] at H
              have c16b0 : decide (x31_4 < x7_9) = false := decide_eq_false c16
              clear c16
              have H' := zaa.mk H
              clear H
              go_wp2
              go_roundg k4
              case measure => have := HK1.out; have := HJ9.out; have := HK3.out; have := HK4.out; omega
              case rel => exact ⟨(x3_4), (wrap64 (x8_3 + 1)), (by first | rfl | (simp; done) | (simp [*]; done)), H', ⟨by have := HK1.out; have := HJ9.out; have := HK3.out; have := HK4.out; omega⟩, ⟨by (with_reducible repeat (first | apply Kd.R_alloc | apply Kd.R_drewN | apply Kd.R_drew)); exact HO_3.out⟩, ⟨by (with_reducible repeat (first | apply Kd.R_alloc | apply Kd.R_drewN | apply Kd.R_drew)); exact HO_12.out⟩, ⟨by repeat (first | (with_reducible first | exact HI0.out | apply zau.alloc | apply zau.drewN | apply zau.drew) | exact HI0.out)⟩, ⟨by repeat (first | (with_reducible first | exact HK.out | apply zaf.set_ | apply zag | apply zak | apply zah) | exact HK.out)⟩, ⟨by repeat (first | (with_reducible first | exact HB.out | apply zac | apply zab | apply zad | refine zai ?_ (zau.ge HI0.out)) | exact HB.out)⟩⟩
          ·rw [if_neg c15] at H
           have c15b0 : decide (x8_3 < x6_9) = false := decide_eq_false c15
           clear c15
           have H' := zaa.mk H
           clear H
           go_wp2
           go_roundg k3
           case measure => have := HK1.out; have := HJ9.out; have := HK3.out; omega
           case rel => exact ⟨(x3_3), (wrap64 (x14_1 + 1)), (by first | rfl | (simp; done) | (simp [*]; done)), H', ⟨by have := HK1.out; have := HJ9.out; have := HK3.out; omega⟩, ⟨by (with_reducible repeat (first | apply Kd.R_alloc | apply Kd.R_drewN | apply Kd.R_drew)); exact HO_3.out⟩, ⟨by (with_reducible repeat (first | apply Kd.R_alloc | apply Kd.R_drewN | apply Kd.R_drew)); exact HO_12.out⟩, ⟨by repeat (first | (with_reducible first | exact HI0.out | apply zau.alloc | apply zau.drewN | apply zau.drew) | exact HI0.out)⟩, ⟨by repeat (first | (with_reducible first | exact HK.out | apply zaf.set_ | apply zag | apply zak | apply zah) | exact HK.out)⟩, ⟨by repeat (first | (with_reducible first | exact HB.out | apply zac | apply zab | apply zad | refine zai ?_ (zau.ge HI0.out)) | exact HB.out)⟩⟩
     ·rw [if_neg c7] at H
      exact absurd H (by simp)
    ·rw [if_neg c6] at H
     exact absurd H (by simp)
   ·rw [if_neg c5] at H
    have c5b0 : decide (x14_1 < (y268.length : Int)) = false := decide_eq_false c5
    clear c5
    obtain rfl := Option.some.inj H
    go_wp2
    go_ret
    exact ⟨_, by first | rfl | (simp [zan, zam] <;> rfl) | (simp [*, zan, zam] <;> rfl), by (with_reducible repeat (first | apply Kd.R_alloc | apply Kd.R_drewN | apply Kd.R_drew)); exact HO_3.out, by repeat (first | (with_reducible first | exact HI0.out | apply zau.alloc | apply zau.drewN | apply zau.drew) | exact HI0.out), by repeat (first | (with_reducible first | exact HB.out | apply zac | apply zab | apply zad | refine zai ?_ (zau.ge HI0.out)) | exact HB.out), by repeat (first | (with_reducible first | exact HK.out | apply zaf.set_ | apply zag | apply zak | apply zah) | exact HK.out)⟩
end Go.Proofs.Ytoijjkhdfooapaa.PB
namespace Go.Proofs.Ytoijjkhdfooapaa.PB
open Go.RowKit Go.PW.PrintWords Go.PW.PrintLast Go.PW.PrintMore
attribute [local go_sem] zbw zbu zcj zci zbp zbo zbv zbt   -- for this text's walks alone
def spec_l1Given.f (k : Nat) (l0 : List ByteArray) (a1 : Int) : Option (Bool) := (spec_PlanIn.f k l0).bind fun t463 => (if t463 = true then ((spec_l1Rooms.f k l0).bind fun t464 => ((spec_l6In.f a1 0 (wrap64 (t464 - 1))).bind fun t465 => (some t465))) else (some false))
set_option maxHeartbeats 8000000 in
set_option maxRecDepth 100000 in
theorem spec_l1Given.calls (k : Nat) (A0 : Option Addr) (c0 : Nat) (l0 : List ByteArray) (a1 : Int) (r : Bool) (w : World) (hr0 : Kd.C Kd.string w A0 l0.length l0) (hc0 : l0.length ≤ c0) (h : spec_l1Given.f k l0 a1 = some r) :
  Calls Try.prog 69 #[.slice A0 l0.length c0, .int .i64 a1] w fun e w' => e = .returned (.bool r) ∧ Below w.heap.size w w' := by
 have HR0 := zaa.mk hr0
 have HC0 := zaa.mk hc0
 clear hr0 hc0
 have HB := zaa.mk (Below.refl w.heap.size w)
 have H : ((spec_PlanIn.f k l0).bind fun t463 => (if t463 = true then ((spec_l1Rooms.f k l0).bind fun t464 => ((spec_l6In.f a1 0 (wrap64 (t464 - 1))).bind fun t465 => (some t465))) else (some false))) = some r := h
 clear h
 replace H := Option.bind_eq_some_iff.mp H
 obtain ⟨t463, A30, H⟩ := H
 replace H : (if t463 = true then ((spec_l1Rooms.f k l0).bind fun t464 => ((spec_l6In.f a1 0 (wrap64 (t464 - 1))).bind fun t465 => (some t465))) else (some false)) = some r := H
 have A3 := zaa.mk A30
 clear A30
 by_cases c4 : t463 = true
 ·subst c4
  have H1 : ((spec_l1Rooms.f k l0).bind fun t464 => ((spec_l6In.f a1 0 (wrap64 (t464 - 1))).bind fun t465 => (some t465))) = some r := by rw [if_pos rfl] at H; exact H
  clear H
  have H := H1
  clear H1
  replace H := Option.bind_eq_some_iff.mp H
  obtain ⟨t464, A50, H⟩ := H
  replace H : ((spec_l6In.f a1 0 (wrap64 (t464 - 1))).bind fun t465 => (some t465)) = some r := H
  have A5 := zaa.mk A50
  clear A50
  replace H := Option.bind_eq_some_iff.mp H
  obtain ⟨t465, A60, H⟩ := H
  replace H : (some t465) = some r := H
  have A6 := zaa.mk A60
  clear A60
  obtain rfl := Option.some.inj H
  go_enter Try.func69, Try.ntmps69
  go_wp2_with (first | ((with_reducible refine zal (f := 52) rfl ?_); refine zbb (some 6) rfl rfl Try.func52 (by kernel_rfl) rfl #[.slice A0 l0.length c0] rfl (by (try simp only [List.map_toArray, List.map_cons, List.map_nil]); first | done | rfl | (simp only [List.length_drop, List.length_take]; rfl)) ?_; (with_reducible refine (spec_PlanIn.calls k _ _ l0 true _ ?side1 ?side2 A3.out).mono ?_); (case side1 => repeat (first | exact HR0.out | (with_reducible refine Kd.C_alloc ?_ _) | (with_reducible refine Kd.C_drewN ?_ _) | (with_reducible refine Kd.C_drew ?_))); (case side2 => exact HC0.out); rintro e w7 ⟨rfl, hb⟩; refine ⟨_, rfl, ?_⟩; have n0_ := zaa.mk (zaj (by repeat (first | (with_reducible first | exact HB.out | apply zac | apply zab | apply zad) | exact HB.out)) hb); clear HB; have HB := n0_; clear n0_; (try clear hb); (try clear hb2); (try clear hk); (try clear hi)) | (go_at_call 75; (with_reducible refine (spec_l1Rooms.calls k _ _ l0 t464 _ ?side1 ?side2 A5.out).mono ?_); (case side1 => repeat (first | exact (Kd.C_below HR0.out HB.out) | (with_reducible refine Kd.C_alloc ?_ _) | (with_reducible refine Kd.C_drewN ?_ _) | (with_reducible refine Kd.C_drew ?_))); (case side2 => exact HC0.out); rintro e w8 ⟨rfl, hb⟩; have n0_ := zaa.mk (zaj (by repeat (first | (with_reducible first | exact HB.out | apply zac | apply zab | apply zad) | exact HB.out)) hb); clear HB; have HB := n0_; clear n0_; (try clear hb); (try clear hb2); (try clear hk); (try clear hi)) | (go_at_call 59; (with_reducible refine (spec_l6In.calls a1 0 (wrap64 (t464 - 1)) t465 _ A6.out).mono ?_); rintro e w' ⟨rfl, ⟨nd, rfl⟩⟩))
  go_ret
  exact ⟨by first | rfl | (simp [zan, zam] <;> rfl) | (simp [*, zan, zam] <;> rfl), by repeat (first | (with_reducible first | exact HB.out | apply zac | apply zab | apply zad) | exact HB.out)⟩
 ·replace c4 := Bool.eq_false_iff.mpr c4
  subst c4
  have H1 : (some false) = some r := by rw [if_neg (show ¬ (false = true) by decide)] at H; exact H
  clear H
  have H := H1
  clear H1
  obtain rfl := Option.some.inj H
  go_enter Try.func69, Try.ntmps69
  go_wp2_with (first | ((with_reducible refine zal (f := 52) rfl ?_); refine zbb (some 6) rfl rfl Try.func52 (by kernel_rfl) rfl #[.slice A0 l0.length c0] rfl (by (try simp only [List.map_toArray, List.map_cons, List.map_nil]); first | done | rfl | (simp only [List.length_drop, List.length_take]; rfl)) ?_; (with_reducible refine (spec_PlanIn.calls k _ _ l0 false _ ?side1 ?side2 A3.out).mono ?_); (case side1 => repeat (first | exact HR0.out | (with_reducible refine Kd.C_alloc ?_ _) | (with_reducible refine Kd.C_drewN ?_ _) | (with_reducible refine Kd.C_drew ?_))); (case side2 => exact HC0.out); rintro e w9 ⟨rfl, hb⟩; refine ⟨_, rfl, ?_⟩; have n0_ := zaa.mk (zaj (by repeat (first | (with_reducible first | exact HB.out | apply zac | apply zab | apply zad) | exact HB.out)) hb); clear HB; have HB := n0_; clear n0_; (try clear hb); (try clear hb2); (try clear hk); (try clear hi)))
  go_ret
  exact ⟨by first | rfl | (simp [zan, zam] <;> rfl) | (simp [*, zan, zam] <;> rfl), by repeat (first | (with_reducible first | exact HB.out | apply zac | apply zab | apply zad) | exact HB.out)⟩
end Go.Proofs.Ytoijjkhdfooapaa.PB
namespace Go.Proofs.Ytoijjkhdfooapaa.PB
open Go.RowKit Go.PW.PrintWords Go.PW.PrintLast Go.PW.PrintMore
attribute [local go_sem] zbw zbu zcj zci zbp zbo zbv zbt   -- for this text's walks alone
mutual
def spec_l4Length.l0 : Nat → List ByteArray → Int → Int → Int → Int → Option (Int)
 | 0, _, _, _, _, _ => none
 | k + 1, x0, x1, x2, x7, x8 => if x8 < (x0.length : Int) then (spec_l4Length.l1 k x0 x1 x2 x7 x8 1) else (some x7)
def spec_l4Length.l1 : Nat → List ByteArray → Int → Int → Int → Int → Int → Option (Int)
 | 0, _, _, _, _, _, _ => none
 | k + 1, x0, x1, x2, x7, x8, x9 => if 0 ≤ x8 then (if x8 < (x0.length : Int) then (if x9 < ((rdOf ByteArray.empty x0 x8).size : Int) then (if 0 ≤ (wrap64 (x9 - 1)) then (if (wrap64 (x9 - 1)) < ((rdOf ByteArray.empty x0 x8).size : Int) then (if 0 ≤ x9 then (if (wrap64 ((wrap64 (bt (rdOf ByteArray.empty x0 x8) (wrap64 (x9 - 1)))) - 97)) = x1 then (if (wrap64 ((wrap64 (bt (rdOf ByteArray.empty x0 x8) x9)) - 97)) = x2 then (spec_l4Length.l1 k x0 x1 x2 (wrap64 (x7 + 1)) x8 (wrap64 (x9 + 1))) else (if (wrap64 ((wrap64 (bt (rdOf ByteArray.empty x0 x8) (wrap64 (x9 - 1)))) - 97)) = x2 then (if (wrap64 ((wrap64 (bt (rdOf ByteArray.empty x0 x8) x9)) - 97)) = x1 then (spec_l4Length.l1 k x0 x1 x2 (wrap64 (x7 + 1)) x8 (wrap64 (x9 + 1))) else (spec_l4Length.l1 k x0 x1 x2 x7 x8 (wrap64 (x9 + 1)))) else (spec_l4Length.l1 k x0 x1 x2 x7 x8 (wrap64 (x9 + 1))))) else (if (wrap64 ((wrap64 (bt (rdOf ByteArray.empty x0 x8) (wrap64 (x9 - 1)))) - 97)) = x2 then (if (wrap64 ((wrap64 (bt (rdOf ByteArray.empty x0 x8) x9)) - 97)) = x1 then (spec_l4Length.l1 k x0 x1 x2 (wrap64 (x7 + 1)) x8 (wrap64 (x9 + 1))) else (spec_l4Length.l1 k x0 x1 x2 x7 x8 (wrap64 (x9 + 1)))) else (spec_l4Length.l1 k x0 x1 x2 x7 x8 (wrap64 (x9 + 1))))) else (none)) else (none)) else (none)) else (spec_l4Length.l0 k x0 x1 x2 x7 (wrap64 (x8 + 1)))) else (none)) else (none)
end
def spec_l4Length.f (k : Nat) (l0 : List ByteArray) (a1 : Int) (a2 : Int) : Option (Int) := spec_l4Length.l0 k l0 a1 a2 0 0
set_option maxHeartbeats 8000000 in
set_option maxRecDepth 100000 in
theorem spec_l4Length.calls (k : Nat) (A0 : Option Addr) (c0 : Nat) (l0 : List ByteArray) (a1 : Int) (a2 : Int) (r : Int) (w : World) (hr0 : Kd.C Kd.string w A0 l0.length l0) (hc0 : l0.length ≤ c0) (h : spec_l4Length.f k l0 a1 a2 = some r) :
  Calls Try.prog 106 #[.slice A0 l0.length c0, .int .i64 a1, .int .i64 a2] w fun e w' => e = .returned (.int .i64 r) ∧ zaw w w' := by
 have HR0 := zaa.mk hr0
 have HC0 := zaa.mk hc0
 clear hr0 hc0
 have H : (spec_l4Length.l0 k l0 a1 a2 0 0) = some r := h
 clear h
 have H' := zaa.mk H
 clear H
 go_enter Try.func106, Try.ntmps106
 go_wp2
 go_loopg [7, 8] k (fun kq v7 v8 w' => ∃ (x7_1 : Int) (x8_1 : Int), v7 = .int .i64 x7_1 ∧ v8 = .int .i64 x8_1 ∧ zaa (spec_l4Length.l0 kq l0 a1 a2 x7_1 x8_1 = some r) ∧ zaa (kq ≤ k) ∧ zaw w w')
 case atStart => exact ⟨(0), (0), (by first | rfl | (simp; done) | (simp [*]; done)), (by first | rfl | (simp; done) | (simp [*]; done)), H', ⟨Nat.le_refl _⟩, by repeat (first | exact zaw.refl _ | apply zaw.step)⟩
 case round =>
  clear H'
  try clear c1
  try clear p2
  obtain ⟨x7_1, x8_1, rfl, rfl, HA, HK1, ⟨m1, rfl⟩⟩ := hrel
  cases gk with
  | zero => exact absurd HA.out (by simp [spec_l4Length.l0])
  | succ k1 =>
   have H := HA.out
   clear HA
   simp only [spec_l4Length.l0] at H
   by_cases c4 : x8_1 < (l0.length : Int)
   ·rw [if_pos c4] at H
    have c4b0 : decide (x8_1 < (l0.length : Int)) = true := decide_eq_true c4
    clear c4
    have H' := zaa.mk H
    clear H
    go_wp2
    go_loopg [7, 9] k1 (fun kq v7 v9 w' => ∃ (x7_2 : Int) (x9_2 : Int), v7 = .int .i64 x7_2 ∧ v9 = .int .i64 x9_2 ∧ zaa (spec_l4Length.l1 kq l0 a1 a2 x7_2 x8_1 x9_2 = some r) ∧ zaa (kq ≤ k1) ∧ zaw w w')
    case atStart => exact ⟨(x7_1), (1), (by first | rfl | (simp; done) | (simp [*]; done)), (by first | rfl | (simp; done) | (simp [*]; done)), H', ⟨Nat.le_refl _⟩, by repeat (first | exact zaw.refl _ | apply zaw.step)⟩
    case round =>
     clear H'
     try clear c1
     try clear p2
     try clear c4
     try clear c4b0
     try clear p2
     obtain ⟨x7_2, x9_2, rfl, rfl, HA, HK2, ⟨m2, rfl⟩⟩ := hrel
     cases gk with
     | zero => exact absurd HA.out (by simp [spec_l4Length.l1])
     | succ k2 =>
      have H := HA.out
      clear HA
      simp only [spec_l4Length.l1] at H
      by_cases c5 : 0 ≤ x8_1
      ·rw [if_pos c5] at H
       have c5b0 : decide (0 ≤ x8_1) = true := decide_eq_true c5
       clear c5
       by_cases c6 : x8_1 < (l0.length : Int)
       ·rw [if_pos c6] at H
        have c6b0 : decide (x8_1 < (l0.length : Int)) = true := decide_eq_true c6
        clear c6
        by_cases c7 : x9_2 < ((rdOf ByteArray.empty l0 x8_1).size : Int)
        ·rw [if_pos c7] at H
         have c7b0 : decide (x9_2 < ((rdOf ByteArray.empty l0 x8_1).size : Int)) = true := decide_eq_true c7
         clear c7
         obtain ⟨ji8, hji8⟩ : ∃ j_ : Int, (wrap64 (x9_2 - 1)) = j_ := ⟨_, rfl⟩
         replace H : (if 0 ≤ (ji8) then (if (ji8) < ((rdOf ByteArray.empty l0 x8_1).size : Int) then (if 0 ≤ x9_2 then (if (wrap64 ((wrap64 (bt (rdOf ByteArray.empty l0 x8_1) (ji8))) - 97)) = a1 then (if (wrap64 ((wrap64 (bt (rdOf ByteArray.empty l0 x8_1) x9_2)) - 97)) = a2 then (spec_l4Length.l1 k2 l0 a1 a2 (wrap64 (x7_2 + 1)) x8_1 (wrap64 (x9_2 + 1))) else (if (wrap64 ((wrap64 (bt (rdOf ByteArray.empty l0 x8_1) (ji8))) - 97)) = a2 then (if (wrap64 ((wrap64 (bt (rdOf ByteArray.empty l0 x8_1) x9_2)) - 97)) = a1 then (spec_l4Length.l1 k2 l0 a1 a2 (wrap64 (x7_2 + 1)) x8_1 (wrap64 (x9_2 + 1))) else (spec_l4Length.l1 k2 l0 a1 a2 x7_2 x8_1 (wrap64 (x9_2 + 1)))) else (spec_l4Length.l1 k2 l0 a1 a2 x7_2 x8_1 (wrap64 (x9_2 + 1))))) else (if (wrap64 ((wrap64 (bt (rdOf ByteArray.empty l0 x8_1) (ji8))) - 97)) = a2 then (if (wrap64 ((wrap64 (bt (rdOf ByteArray.empty l0 x8_1) x9_2)) - 97)) = a1 then (spec_l4Length.l1 k2 l0 a1 a2 (wrap64 (x7_2 + 1)) x8_1 (wrap64 (x9_2 + 1))) else (spec_l4Length.l1 k2 l0 a1 a2 x7_2 x8_1 (wrap64 (x9_2 + 1)))) else (spec_l4Length.l1 k2 l0 a1 a2 x7_2 x8_1 (wrap64 (x9_2 + 1))))) else (none)) else (none)) else (none)) = some r := by first | (rw [hji8] at H; exact H) | (simp only [hji8] at H ⊢; exact H)
         have hji8w : (IntKind.i64.wrap (x9_2 - 1)) = ji8 := (zay _).trans hji8
         by_cases c9 : 0 ≤ (ji8)
         ·rw [if_pos c9] at H
          have c9b0 : decide (0 ≤ (ji8)) = true := decide_eq_true c9
          clear c9
          by_cases c10 : (ji8) < ((rdOf ByteArray.empty l0 x8_1).size : Int)
          ·rw [if_pos c10] at H
           have c10b0 : decide ((ji8) < ((rdOf ByteArray.empty l0 x8_1).size : Int)) = true := decide_eq_true c10
           clear c10
           by_cases c12 : 0 ≤ x9_2
           ·rw [if_pos c12] at H
            have c12b0 : decide (0 ≤ x9_2) = true := decide_eq_true c12
            clear c12
            by_cases c14 : (wrap64 ((wrap64 (bt (rdOf ByteArray.empty l0 x8_1) (ji8))) - 97)) = a1
            ·rw [if_pos c14] at H
             have c14b0 : ((wrap64 ((wrap64 (bt (rdOf ByteArray.empty l0 x8_1) (ji8))) - 97)) == a1) = true := beq_iff_eq.mpr c14
             have c14b1 : ((wrap64 ((wrap64 (bt (rdOf ByteArray.empty l0 x8_1) (ji8))) - 97)) != a1) = false := bne_eq_false_iff_eq.mpr c14
             clear c14
             by_cases c15 : (wrap64 ((wrap64 (bt (rdOf ByteArray.empty l0 x8_1) x9_2)) - 97)) = a2
             ·rw [if_pos c15] at H
              have c15b0 : ((wrap64 ((wrap64 (bt (rdOf ByteArray.empty l0 x8_1) x9_2)) - 97)) == a2) = true := beq_iff_eq.mpr c15
              have c15b1 : ((wrap64 ((wrap64 (bt (rdOf ByteArray.empty l0 x8_1) x9_2)) - 97)) != a2) = false := bne_eq_false_iff_eq.mpr c15
              clear c15
              have H' := zaa.mk H
              clear H
              have p466 : 0 ≤ (x8_1 : Int) := of_decide_eq_true (by first | (with_reducible assumption) | assumption)
              have q466 : x8_1 < (l0.length : Int) := of_decide_eq_true (by first | (with_reducible assumption) | assumption)
              obtain ⟨ad466, e466, hx466_0⟩ := Kd.at_string HR0.out x8_1 p466 q466
              cases e466
              replace p466 := eq_true p466
              replace q466 := eq_true q466
              have p467 : 0 ≤ (x8_1 : Int) := of_decide_eq_true (by first | (with_reducible assumption) | assumption)
              have q467 : x8_1 < (l0.length : Int) := of_decide_eq_true (by first | (with_reducible assumption) | assumption)
              obtain ⟨ad467, e467, hx467_0⟩ := Kd.at_string HR0.out x8_1 p467 q467
              obtain rfl : ad466 = ad467 := (by injection e467)
              replace p467 := eq_true p467
              replace q467 := eq_true q467
              have p11 : 0 ≤ ((ji8) : Int) := of_decide_eq_true (by first | (with_reducible assumption) | assumption)
              have q11 : (ji8) < ((rdOf ByteArray.empty l0 x8_1).size : Int) := of_decide_eq_true (by first | (with_reducible assumption) | assumption)
              have hx11 := bt_at (rdOf ByteArray.empty l0 x8_1) (ji8)
              replace p11 := eq_true p11
              replace q11 := eq_true q11
              have p468 : 0 ≤ (x8_1 : Int) := of_decide_eq_true (by first | (with_reducible assumption) | assumption)
              have q468 : x8_1 < (l0.length : Int) := of_decide_eq_true (by first | (with_reducible assumption) | assumption)
              obtain ⟨ad468, e468, hx468_0⟩ := Kd.at_string HR0.out x8_1 p468 q468
              obtain rfl : ad466 = ad468 := (by injection e468)
              replace p468 := eq_true p468
              replace q468 := eq_true q468
              have p13 : 0 ≤ (x9_2 : Int) := of_decide_eq_true (by first | (with_reducible assumption) | assumption)
              have q13 : x9_2 < ((rdOf ByteArray.empty l0 x8_1).size : Int) := of_decide_eq_true (by first | (with_reducible assumption) | assumption)
              have hx13 := bt_at (rdOf ByteArray.empty l0 x8_1) x9_2
              replace p13 := eq_true p13
              replace q13 := eq_true q13
              go_wp2
              go_roundg k2
              case measure => have := HK1.out; have := HK2.out; omega
              case rel => exact ⟨(wrap64 (x7_2 + 1)), (wrap64 (x9_2 + 1)), (by first | rfl | (simp; done) | (simp [*]; done)), (by first | rfl | (simp; done) | (simp [*]; done)), H', ⟨by have := HK1.out; have := HK2.out; omega⟩, by repeat (first | exact zaw.refl _ | apply zaw.step)⟩
             ·rw [if_neg c15] at H
              have c15b0 : ((wrap64 ((wrap64 (bt (rdOf ByteArray.empty l0 x8_1) x9_2)) - 97)) == a2) = false := beq_eq_false_iff_ne.mpr c15
              have c15b1 : ((wrap64 ((wrap64 (bt (rdOf ByteArray.empty l0 x8_1) x9_2)) - 97)) != a2) = true := bne_iff_ne.mpr c15
              by_cases c16 : (wrap64 ((wrap64 (bt (rdOf ByteArray.empty l0 x8_1) (ji8))) - 97)) = a2
              ·rw [if_pos c16] at H
               have c16b0 : ((wrap64 ((wrap64 (bt (rdOf ByteArray.empty l0 x8_1) (ji8))) - 97)) == a2) = true := beq_iff_eq.mpr c16
               have c16b1 : ((wrap64 ((wrap64 (bt (rdOf ByteArray.empty l0 x8_1) (ji8))) - 97)) != a2) = false := bne_eq_false_iff_eq.mpr c16
               clear c16
               by_cases c17 : (wrap64 ((wrap64 (bt (rdOf ByteArray.empty l0 x8_1) x9_2)) - 97)) = a1
               ·rw [if_pos c17] at H
                have c17b0 : ((wrap64 ((wrap64 (bt (rdOf ByteArray.empty l0 x8_1) x9_2)) - 97)) == a1) = true := beq_iff_eq.mpr c17
                have c17b1 : ((wrap64 ((wrap64 (bt (rdOf ByteArray.empty l0 x8_1) x9_2)) - 97)) != a1) = false := bne_eq_false_iff_eq.mpr c17
                clear c17
                have H' := zaa.mk H
                clear H
                have p466 : 0 ≤ (x8_1 : Int) := of_decide_eq_true (by first | (with_reducible assumption) | assumption)
                have q466 : x8_1 < (l0.length : Int) := of_decide_eq_true (by first | (with_reducible assumption) | assumption)
                obtain ⟨ad466, e466, hx466_0⟩ := Kd.at_string HR0.out x8_1 p466 q466
                cases e466
                replace p466 := eq_true p466
                replace q466 := eq_true q466
                have p467 : 0 ≤ (x8_1 : Int) := of_decide_eq_true (by first | (with_reducible assumption) | assumption)
                have q467 : x8_1 < (l0.length : Int) := of_decide_eq_true (by first | (with_reducible assumption) | assumption)
                obtain ⟨ad467, e467, hx467_0⟩ := Kd.at_string HR0.out x8_1 p467 q467
                obtain rfl : ad466 = ad467 := (by injection e467)
                replace p467 := eq_true p467
                replace q467 := eq_true q467
                have p11 : 0 ≤ ((ji8) : Int) := of_decide_eq_true (by first | (with_reducible assumption) | assumption)
                have q11 : (ji8) < ((rdOf ByteArray.empty l0 x8_1).size : Int) := of_decide_eq_true (by first | (with_reducible assumption) | assumption)
                have hx11 := bt_at (rdOf ByteArray.empty l0 x8_1) (ji8)
                replace p11 := eq_true p11
                replace q11 := eq_true q11
                have p468 : 0 ≤ (x8_1 : Int) := of_decide_eq_true (by first | (with_reducible assumption) | assumption)
                have q468 : x8_1 < (l0.length : Int) := of_decide_eq_true (by first | (with_reducible assumption) | assumption)
                obtain ⟨ad468, e468, hx468_0⟩ := Kd.at_string HR0.out x8_1 p468 q468
                obtain rfl : ad466 = ad468 := (by injection e468)
                replace p468 := eq_true p468
                replace q468 := eq_true q468
                have p13 : 0 ≤ (x9_2 : Int) := of_decide_eq_true (by first | (with_reducible assumption) | assumption)
                have q13 : x9_2 < ((rdOf ByteArray.empty l0 x8_1).size : Int) := of_decide_eq_true (by first | (with_reducible assumption) | assumption)
                have hx13 := bt_at (rdOf ByteArray.empty l0 x8_1) x9_2
                replace p13 := eq_true p13
                replace q13 := eq_true q13
                go_wp2
                go_roundg k2
                case measure => have := HK1.out; have := HK2.out; omega
                case rel => exact ⟨(wrap64 (x7_2 + 1)), (wrap64 (x9_2 + 1)), (by first | rfl | (simp; done) | (simp [*]; done)), (by first | rfl | (simp; done) | (simp [*]; done)), H', ⟨by have := HK1.out; have := HK2.out; omega⟩, by repeat (first | exact zaw.refl _ | apply zaw.step)⟩
               ·rw [if_neg c17] at H
                have c17b0 : ((wrap64 ((wrap64 (bt (rdOf ByteArray.empty l0 x8_1) x9_2)) - 97)) == a1) = false := beq_eq_false_iff_ne.mpr c17
                have c17b1 : ((wrap64 ((wrap64 (bt (rdOf ByteArray.empty l0 x8_1) x9_2)) - 97)) != a1) = true := bne_iff_ne.mpr c17
                have H' := zaa.mk H
                clear H
                have p466 : 0 ≤ (x8_1 : Int) := of_decide_eq_true (by first | (with_reducible assumption) | assumption)
                have q466 : x8_1 < (l0.length : Int) := of_decide_eq_true (by first | (with_reducible assumption) | assumption)
                obtain ⟨ad466, e466, hx466_0⟩ := Kd.at_string HR0.out x8_1 p466 q466
                cases e466
                replace p466 := eq_true p466
                replace q466 := eq_true q466
                have p467 : 0 ≤ (x8_1 : Int) := of_decide_eq_true (by first | (with_reducible assumption) | assumption)
                have q467 : x8_1 < (l0.length : Int) := of_decide_eq_true (by first | (with_reducible assumption) | assumption)
                obtain ⟨ad467, e467, hx467_0⟩ := Kd.at_string HR0.out x8_1 p467 q467
                obtain rfl : ad466 = ad467 := (by injection e467)
                replace p467 := eq_true p467
                replace q467 := eq_true q467
                have p11 : 0 ≤ ((ji8) : Int) := of_decide_eq_true (by first | (with_reducible assumption) | assumption)
                have q11 : (ji8) < ((rdOf ByteArray.empty l0 x8_1).size : Int) := of_decide_eq_true (by first | (with_reducible assumption) | assumption)
                have hx11 := bt_at (rdOf ByteArray.empty l0 x8_1) (ji8)
                replace p11 := eq_true p11
                replace q11 := eq_true q11
                have p468 : 0 ≤ (x8_1 : Int) := of_decide_eq_true (by first | (with_reducible assumption) | assumption)
                have q468 : x8_1 < (l0.length : Int) := of_decide_eq_true (by first | (with_reducible assumption) | assumption)
                obtain ⟨ad468, e468, hx468_0⟩ := Kd.at_string HR0.out x8_1 p468 q468
                obtain rfl : ad466 = ad468 := (by injection e468)
                replace p468 := eq_true p468
                replace q468 := eq_true q468
                have p13 : 0 ≤ (x9_2 : Int) := of_decide_eq_true (by first | (with_reducible assumption) | assumption)
                have q13 : x9_2 < ((rdOf ByteArray.empty l0 x8_1).size : Int) := of_decide_eq_true (by first | (with_reducible assumption) | assumption)
                have hx13 := bt_at (rdOf ByteArray.empty l0 x8_1) x9_2
                replace p13 := eq_true p13
                replace q13 := eq_true q13
                go_wp2
                go_roundg k2
                case measure => have := HK1.out; have := HK2.out; omega
                case rel => exact ⟨(x7_2), (wrap64 (x9_2 + 1)), (by first | rfl | (simp; done) | (simp [*]; done)), (by first | rfl | (simp; done) | (simp [*]; done)), H', ⟨by have := HK1.out; have := HK2.out; omega⟩, by repeat (first | exact zaw.refl _ | apply zaw.step)⟩
              ·rw [if_neg c16] at H
               have c16b0 : ((wrap64 ((wrap64 (bt (rdOf ByteArray.empty l0 x8_1) (ji8))) - 97)) == a2) = false := beq_eq_false_iff_ne.mpr c16
               have c16b1 : ((wrap64 ((wrap64 (bt (rdOf ByteArray.empty l0 x8_1) (ji8))) - 97)) != a2) = true := bne_iff_ne.mpr c16
               have H' := zaa.mk H
               clear H
               have p466 : 0 ≤ (x8_1 : Int) := of_decide_eq_true (by first | (with_reducible assumption) | assumption)
               have q466 : x8_1 < (l0.length : Int) := of_decide_eq_true (by first | (with_reducible assumption) | assumption)
               obtain ⟨ad466, e466, hx466_0⟩ := Kd.at_string HR0.out x8_1 p466 q466
               cases e466
               replace p466 := eq_true p466
               replace q466 := eq_true q466
               have p467 : 0 ≤ (x8_1 : Int) := of_decide_eq_true (by first | (with_reducible assumption) | assumption)
               have q467 : x8_1 < (l0.length : Int) := of_decide_eq_true (by first | (with_reducible assumption) | assumption)
               obtain ⟨ad467, e467, hx467_0⟩ := Kd.at_string HR0.out x8_1 p467 q467
               obtain rfl : ad466 = ad467 := (by injection e467)
               replace p467 := eq_true p467
               replace q467 := eq_true q467
               have p11 : 0 ≤ ((ji8) : Int) := of_decide_eq_true (by first | (with_reducible assumption) | assumption)
               have q11 : (ji8) < ((rdOf ByteArray.empty l0 x8_1).size : Int) := of_decide_eq_true (by first | (with_reducible assumption) | assumption)
               have hx11 := bt_at (rdOf ByteArray.empty l0 x8_1) (ji8)
               replace p11 := eq_true p11
               replace q11 := eq_true q11
               have p468 : 0 ≤ (x8_1 : Int) := of_decide_eq_true (by first | (with_reducible assumption) | assumption)
               have q468 : x8_1 < (l0.length : Int) := of_decide_eq_true (by first | (with_reducible assumption) | assumption)
               obtain ⟨ad468, e468, hx468_0⟩ := Kd.at_string HR0.out x8_1 p468 q468
               obtain rfl : ad466 = ad468 := (by injection e468)
               replace p468 := eq_true p468
               replace q468 := eq_true q468
               have p13 : 0 ≤ (x9_2 : Int) := of_decide_eq_true (by first | (with_reducible assumption) | assumption)
               have q13 : x9_2 < ((rdOf ByteArray.empty l0 x8_1).size : Int) := of_decide_eq_true (by first | (with_reducible assumption) | assumption)
               have hx13 := bt_at (rdOf ByteArray.empty l0 x8_1) x9_2
               replace p13 := eq_true p13
               replace q13 := eq_true q13
               go_wp2
               go_roundg k2
               case measure => have := HK1.out; have := HK2.out; omega
               case rel => exact ⟨(x7_2), (wrap64 (x9_2 + 1)), (by first | rfl | (simp; done) | (simp [*]; done)), (by first | rfl | (simp; done) | (simp [*]; done)), H', ⟨by have := HK1.out; have := HK2.out; omega⟩, by repeat (first | exact zaw.refl _ | apply zaw.step)⟩
            ·rw [if_neg c14] at H
             have c14b0 : ((wrap64 ((wrap64 (bt (rdOf ByteArray.empty l0 x8_1) (ji8))) - 97)) == a1) = false := beq_eq_false_iff_ne.mpr c14
             have c14b1 : ((wrap64 ((wrap64 (bt (rdOf ByteArray.empty l0 x8_1) (ji8))) - 97)) != a1) = true := bne_iff_ne.mpr c14
             by_cases c18 : (wrap64 ((wrap64 (bt (rdOf ByteArray.empty l0 x8_1) (ji8))) - 97)) = a2
             ·rw [if_pos c18] at H
              have c18b0 : ((wrap64 ((wrap64 (bt (rdOf ByteArray.empty l0 x8_1) (ji8))) - 97)) == a2) = true := beq_iff_eq.mpr c18
              have c18b1 : ((wrap64 ((wrap64 (bt (rdOf ByteArray.empty l0 x8_1) (ji8))) - 97)) != a2) = false := bne_eq_false_iff_eq.mpr c18
              clear c18
              by_cases c19 : (wrap64 ((wrap64 (bt (rdOf ByteArray.empty l0 x8_1) x9_2)) - 97)) = a1
              ·rw [if_pos c19] at H
               have c19b0 : ((wrap64 ((wrap64 (bt (rdOf ByteArray.empty l0 x8_1) x9_2)) - 97)) == a1) = true := beq_iff_eq.mpr c19
               have c19b1 : ((wrap64 ((wrap64 (bt (rdOf ByteArray.empty l0 x8_1) x9_2)) - 97)) != a1) = false := bne_eq_false_iff_eq.mpr c19
               clear c19
               have H' := zaa.mk H
               clear H
               have p466 : 0 ≤ (x8_1 : Int) := of_decide_eq_true (by first | (with_reducible assumption) | assumption)
               have q466 : x8_1 < (l0.length : Int) := of_decide_eq_true (by first | (with_reducible assumption) | assumption)
               obtain ⟨ad466, e466, hx466_0⟩ := Kd.at_string HR0.out x8_1 p466 q466
               cases e466
               replace p466 := eq_true p466
               replace q466 := eq_true q466
               have p467 : 0 ≤ (x8_1 : Int) := of_decide_eq_true (by first | (with_reducible assumption) | assumption)
               have q467 : x8_1 < (l0.length : Int) := of_decide_eq_true (by first | (with_reducible assumption) | assumption)
               obtain ⟨ad467, e467, hx467_0⟩ := Kd.at_string HR0.out x8_1 p467 q467
               obtain rfl : ad466 = ad467 := (by injection e467)
               replace p467 := eq_true p467
               replace q467 := eq_true q467
               have p11 : 0 ≤ ((ji8) : Int) := of_decide_eq_true (by first | (with_reducible assumption) | assumption)
               have q11 : (ji8) < ((rdOf ByteArray.empty l0 x8_1).size : Int) := of_decide_eq_true (by first | (with_reducible assumption) | assumption)
               have hx11 := bt_at (rdOf ByteArray.empty l0 x8_1) (ji8)
               replace p11 := eq_true p11
               replace q11 := eq_true q11
               have p468 : 0 ≤ (x8_1 : Int) := of_decide_eq_true (by first | (with_reducible assumption) | assumption)
               have q468 : x8_1 < (l0.length : Int) := of_decide_eq_true (by first | (with_reducible assumption) | assumption)
               obtain ⟨ad468, e468, hx468_0⟩ := Kd.at_string HR0.out x8_1 p468 q468
               obtain rfl : ad466 = ad468 := (by injection e468)
               replace p468 := eq_true p468
               replace q468 := eq_true q468
               have p13 : 0 ≤ (x9_2 : Int) := of_decide_eq_true (by first | (with_reducible assumption) | assumption)
               have q13 : x9_2 < ((rdOf ByteArray.empty l0 x8_1).size : Int) := of_decide_eq_true (by first | (with_reducible assumption) | assumption)
               have hx13 := bt_at (rdOf ByteArray.empty l0 x8_1) x9_2
               replace p13 := eq_true p13
               replace q13 := eq_true q13
               go_wp2
               go_roundg k2
               case measure => have := HK1.out; have := HK2.out; omega
               case rel => exact ⟨(wrap64 (x7_2 + 1)), (wrap64 (x9_2 + 1)), (by first | rfl | (simp; done) | (simp [*]; done)), (by first | rfl | (simp; done) | (simp [*]; done)), H', ⟨by have := HK1.out; have := HK2.out; omega⟩, by repeat (first | exact zaw.refl _ | apply zaw.step)⟩
              ·rw [if_neg c19] at H
               have c19b0 : ((wrap64 ((wrap64 (bt (rdOf ByteArray.empty l0 x8_1) x9_2)) - 97)) == a1) = false := beq_eq_false_iff_ne.mpr c19
               have c19b1 : ((wrap64 ((wrap64 (bt (rdOf ByteArray.empty l0 x8_1) x9_2)) - 97)) != a1) = true := bne_iff_ne.mpr c19
               have H' := zaa.mk H
               clear H
               have p466 : 0 ≤ (x8_1 : Int) := of_decide_eq_true (by first | (with_reducible assumption) | assumption)
               have q466 : x8_1 < (l0.length : Int) := of_decide_eq_true (by first | (with_reducible assumption) | assumption)
               obtain ⟨ad466, e466, hx466_0⟩ := Kd.at_string HR0.out x8_1 p466 q466
               cases e466
               replace p466 := eq_true p466
               replace q466 := eq_true q466
               have p467 : 0 ≤ (x8_1 : Int) := of_decide_eq_true (by first | (with_reducible assumption) | assumption)
               have q467 : x8_1 < (l0.length : Int) := of_decide_eq_true (by first | (with_reducible assumption) | assumption)
               obtain ⟨ad467, e467, hx467_0⟩ := Kd.at_string HR0.out x8_1 p467 q467
               obtain rfl : ad466 = ad467 := (by injection e467)
               replace p467 := eq_true p467
               replace q467 := eq_true q467
               have p11 : 0 ≤ ((ji8) : Int) := of_decide_eq_true (by first | (with_reducible assumption) | assumption)
               have q11 : (ji8) < ((rdOf ByteArray.empty l0 x8_1).size : Int) := of_decide_eq_true (by first | (with_reducible assumption) | assumption)
               have hx11 := bt_at (rdOf ByteArray.empty l0 x8_1) (ji8)
               replace p11 := eq_true p11
               replace q11 := eq_true q11
               have p468 : 0 ≤ (x8_1 : Int) := of_decide_eq_true (by first | (with_reducible assumption) | assumption)
               have q468 : x8_1 < (l0.length : Int) := of_decide_eq_true (by first | (with_reducible assumption) | assumption)
               obtain ⟨ad468, e468, hx468_0⟩ := Kd.at_string HR0.out x8_1 p468 q468
               obtain rfl : ad466 = ad468 := (by injection e468)
               replace p468 := eq_true p468
               replace q468 := eq_true q468
               have p13 : 0 ≤ (x9_2 : Int) := of_decide_eq_true (by first | (with_reducible assumption) | assumption)
               have q13 : x9_2 < ((rdOf ByteArray.empty l0 x8_1).size : Int) := of_decide_eq_true (by first | (with_reducible assumption) | assumption)
               have hx13 := bt_at (rdOf ByteArray.empty l0 x8_1) x9_2
               replace p13 := eq_true p13
               replace q13 := eq_true q13
               go_wp2
               go_roundg k2
               case measure => have := HK1.out; have := HK2.out; omega
               case rel => exact ⟨(x7_2), (wrap64 (x9_2 + 1)), (by first | rfl | (simp; done) | (simp [*]; done)), (by first | rfl | (simp; done) | (simp [*]; done)), H', ⟨by have := HK1.out; have := HK2.out; omega⟩, by repeat (first | exact zaw.refl _ | apply zaw.step)⟩
             ·rw [if_neg c18] at H
              have c18b0 : ((wrap64 ((wrap64 (bt (rdOf ByteArray.empty l0 x8_1) (ji8))) - 97)) == a2) = false := beq_eq_false_iff_ne.mpr c18
              have c18b1 : ((wrap64 ((wrap64 (bt (rdOf ByteArray.empty l0 x8_1) (ji8))) - 97)) != a2) = true := bne_iff_ne.mpr c18
              have H' := zaa.mk H
              clear H
              have p466 : 0 ≤ (x8_1 : Int) := of_decide_eq_true (by first | (with_reducible assumption) | assumption)
              have q466 : x8_1 < (l0.length : Int) := of_decide_eq_true (by first | (with_reducible assumption) | assumption)
              obtain ⟨ad466, e466, hx466_0⟩ := Kd.at_string HR0.out x8_1 p466 q466
              cases e466
              replace p466 := eq_true p466
              replace q466 := eq_true q466
              have p467 : 0 ≤ (x8_1 : Int) := of_decide_eq_true (by first | (with_reducible assumption) | assumption)
              have q467 : x8_1 < (l0.length : Int) := of_decide_eq_true (by first | (with_reducible assumption) | assumption)
              obtain ⟨ad467, e467, hx467_0⟩ := Kd.at_string HR0.out x8_1 p467 q467
              obtain rfl : ad466 = ad467 := (by injection e467)
              replace p467 := eq_true p467
              replace q467 := eq_true q467
              have p11 : 0 ≤ ((ji8) : Int) := of_decide_eq_true (by first | (with_reducible assumption) | assumption)
              have q11 : (ji8) < ((rdOf ByteArray.empty l0 x8_1).size : Int) := of_decide_eq_true (by first | (with_reducible assumption) | assumption)
              have hx11 := bt_at (rdOf ByteArray.empty l0 x8_1) (ji8)
              replace p11 := eq_true p11
              replace q11 := eq_true q11
              have p468 : 0 ≤ (x8_1 : Int) := of_decide_eq_true (by first | (with_reducible assumption) | assumption)
              have q468 : x8_1 < (l0.length : Int) := of_decide_eq_true (by first | (with_reducible assumption) | assumption)
              obtain ⟨ad468, e468, hx468_0⟩ := Kd.at_string HR0.out x8_1 p468 q468
              obtain rfl : ad466 = ad468 := (by injection e468)
              replace p468 := eq_true p468
              replace q468 := eq_true q468
              have p13 : 0 ≤ (x9_2 : Int) := of_decide_eq_true (by first | (with_reducible assumption) | assumption)
              have q13 : x9_2 < ((rdOf ByteArray.empty l0 x8_1).size : Int) := of_decide_eq_true (by first | (with_reducible assumption) | assumption)
              have hx13 := bt_at (rdOf ByteArray.empty l0 x8_1) x9_2
              replace p13 := eq_true p13
              replace q13 := eq_true q13
              go_wp2
              go_roundg k2
              case measure => have := HK1.out; have := HK2.out; omega
              case rel => exact ⟨(x7_2), (wrap64 (x9_2 + 1)), (by first | rfl | (simp; done) | (simp [*]; done)), (by first | rfl | (simp; done) | (simp [*]; done)), H', ⟨by have := HK1.out; have := HK2.out; omega⟩, by repeat (first | exact zaw.refl _ | apply zaw.step)⟩
           ·rw [if_neg c12] at H
            exact absurd H (by simp)
          ·rw [if_neg c10] at H
           exact absurd H (by simp)
         ·rw [if_neg c9] at H
          exact absurd H (by simp)
        ·rw [if_neg c7] at H
         have c7b0 : decide (x9_2 < ((rdOf ByteArray.empty l0 x8_1).size : Int)) = false := decide_eq_false c7
         clear c7
         have H' := zaa.mk H
         clear H
         have p466 : 0 ≤ (x8_1 : Int) := of_decide_eq_true (by first | (with_reducible assumption) | assumption)
         have q466 : x8_1 < (l0.length : Int) := of_decide_eq_true (by first | (with_reducible assumption) | assumption)
         obtain ⟨ad466, e466, hx466_0⟩ := Kd.at_string HR0.out x8_1 p466 q466
         cases e466
         replace p466 := eq_true p466
         replace q466 := eq_true q466
         go_wp2
         go_roundg k2
         case measure => have := HK1.out; have := HK2.out; omega
         case rel => exact ⟨(x7_2), (wrap64 (x8_1 + 1)), (by first | rfl | (simp; done) | (simp [*]; done)), (by first | rfl | (simp; done) | (simp [*]; done)), H', ⟨by have := HK1.out; have := HK2.out; omega⟩, by repeat (first | exact zaw.refl _ | apply zaw.step)⟩
       ·rw [if_neg c6] at H
        exact absurd H (by simp)
      ·rw [if_neg c5] at H
       exact absurd H (by simp)
   ·rw [if_neg c4] at H
    have c4b0 : decide (x8_1 < (l0.length : Int)) = false := decide_eq_false c4
    clear c4
    obtain rfl := Option.some.inj H
    go_wp2
    go_ret
    exact ⟨by first | rfl | (simp; done) | (simp [*]; done), by repeat (first | exact zaw.refl _ | apply zaw.step)⟩
end Go.Proofs.Ytoijjkhdfooapaa.PB
namespace Go.Proofs.Ytoijjkhdfooapaa.PB
open Go.RowKit Go.PW.PrintWords Go.PW.PrintLast Go.PW.PrintMore
attribute [local go_sem] zbw zbu zcj zci zbp zbo zbv zbt   -- for this text's walks alone
def spec_l4Beside.f (k : Nat) (l0 : List ByteArray) (a1 : Int) (a2 : Int) : Option (Int) := if a1 = a2 then (some 0) else ((spec_l4Length.f k l0 a1 a2).bind fun t469 => ((spec_l1Trans.f k l0).bind fun t470 => ((spec_l4Length.f k t470 a1 a2).bind fun t473 => (some (wrap64 (t469 + t473))))))
set_option maxHeartbeats 8000000 in
set_option maxRecDepth 100000 in
theorem spec_l4Beside.calls (k : Nat) (A0 : Option Addr) (c0 : Nat) (l0 : List ByteArray) (a1 : Int) (a2 : Int) (r : Int) (w : World) (hr0 : Kd.C Kd.string w A0 l0.length l0) (hc0 : l0.length ≤ c0) (h : spec_l4Beside.f k l0 a1 a2 = some r) :
  Calls Try.prog 81 #[.slice A0 l0.length c0, .int .i64 a1, .int .i64 a2] w fun e w' => e = .returned (.int .i64 r) ∧ Below w.heap.size w w' := by
 have HR0 := zaa.mk hr0
 have HC0 := zaa.mk hc0
 clear hr0 hc0
 have HB := zaa.mk (Below.refl w.heap.size w)
 have H : (if a1 = a2 then (some 0) else ((spec_l4Length.f k l0 a1 a2).bind fun t469 => ((spec_l1Trans.f k l0).bind fun t470 => ((spec_l4Length.f k t470 a1 a2).bind fun t473 => (some (wrap64 (t469 + t473))))))) = some r := h
 clear h
 by_cases c4 : a1 = a2
 ·rw [if_pos c4] at H
  have c4b0 : (a1 == a2) = true := beq_iff_eq.mpr c4
  have c4b1 : (a1 != a2) = false := bne_eq_false_iff_eq.mpr c4
  clear c4
  obtain rfl := Option.some.inj H
  go_enter Try.func81, Try.ntmps81
  go_wp2
  go_ret
  exact ⟨by first | rfl | (simp [zan, zam] <;> rfl) | (simp [*, zan, zam] <;> rfl), by repeat (first | (with_reducible first | exact HB.out | apply zac | apply zab | apply zad) | exact HB.out)⟩
 ·rw [if_neg c4] at H
  have c4b0 : (a1 == a2) = false := beq_eq_false_iff_ne.mpr c4
  have c4b1 : (a1 != a2) = true := bne_iff_ne.mpr c4
  replace H := Option.bind_eq_some_iff.mp H
  obtain ⟨t469, A50, H⟩ := H
  replace H : ((spec_l1Trans.f k l0).bind fun t470 => ((spec_l4Length.f k t470 a1 a2).bind fun t473 => (some (wrap64 (t469 + t473))))) = some r := H
  have A5 := zaa.mk A50
  clear A50
  replace H := Option.bind_eq_some_iff.mp H
  obtain ⟨t470, A60, H⟩ := H
  replace H : ((spec_l4Length.f k t470 a1 a2).bind fun t473 => (some (wrap64 (t469 + t473)))) = some r := H
  have A6 := zaa.mk A60
  clear A60
  replace H := Option.bind_eq_some_iff.mp H
  obtain ⟨t473, A70, H⟩ := H
  replace H : (some (wrap64 (t469 + t473))) = some r := H
  have A7 := zaa.mk A70
  clear A70
  obtain rfl := Option.some.inj H
  go_enter Try.func81, Try.ntmps81
  go_wp2_with (first | ((with_reducible refine zal (f := 106) rfl ?_); refine zbb (some 13) rfl rfl Try.func106 (by kernel_rfl) rfl #[.slice A0 l0.length c0, .int .i64 a1, .int .i64 a2] rfl (by (try simp only [List.map_toArray, List.map_cons, List.map_nil]); first | done | rfl | (simp only [List.length_drop, List.length_take]; rfl)) ?_; (with_reducible refine (spec_l4Length.calls k _ _ l0 a1 a2 t469 _ ?side1 ?side2 A5.out).mono ?_); (case side1 => repeat (first | exact HR0.out | (with_reducible refine Kd.C_alloc ?_ _) | (with_reducible refine Kd.C_drewN ?_ _) | (with_reducible refine Kd.C_drew ?_))); (case side2 => exact HC0.out); rintro e w' ⟨rfl, ⟨nd, rfl⟩⟩; refine ⟨_, rfl, ?_⟩) | ((with_reducible refine zal (f := 62) rfl ?_); refine zbb (some 15) rfl rfl Try.func62 (by kernel_rfl) rfl #[.slice A0 l0.length c0] rfl (by (try simp only [List.map_toArray, List.map_cons, List.map_nil]); first | done | rfl | (simp only [List.length_drop, List.length_take]; rfl)) ?_; (with_reducible refine (spec_l1Trans.calls k _ _ l0 t470 _ ?side1 ?side2 A6.out).mono ?_); (case side1 => repeat (first | exact HR0.out | (with_reducible refine Kd.C_alloc ?_ _) | (with_reducible refine Kd.C_drewN ?_ _) | (with_reducible refine Kd.C_drew ?_))); (case side2 => exact HC0.out); rintro e w8 ⟨v471, rfl, ho0, hb⟩; refine ⟨_, rfl, ?_⟩; have n0_ := zaa.mk (Kd.R_lower ho0 (zap (by repeat (first | (with_reducible first | exact HB.out | apply zac | apply zab | apply zad) | exact HB.out)))); have n1_ := zaa.mk (zaj (by repeat (first | (with_reducible first | exact HB.out | apply zac | apply zab | apply zad) | exact HB.out)) hb); clear HB; have HO472 := n0_; have HB := n1_; clear n0_ n1_; (try clear hb); (try clear hb2); (try clear hk); (try clear hi); (try clear ho0); obtain ⟨Ao9, co9, eo9⟩ := Kd.R_slice HO472.out; subst eo9) | ((with_reducible refine zal (f := 106) rfl ?_); refine zbb (some 18) rfl rfl Try.func106 (by kernel_rfl) rfl #[.slice Ao9 t470.length co9, .int .i64 a1, .int .i64 a2] rfl (by (try simp only [List.map_toArray, List.map_cons, List.map_nil]); first | done | rfl | (simp only [List.length_drop, List.length_take]; rfl)) ?_; (with_reducible refine (spec_l4Length.calls k _ _ t470 a1 a2 t473 _ ?side1 ?side2 A7.out).mono ?_); (case side1 => repeat (first | exact (Kd.R_reads' HO472.out).2.2 | (with_reducible refine Kd.C_alloc ?_ _) | (with_reducible refine Kd.C_drewN ?_ _) | (with_reducible refine Kd.C_drew ?_))); (case side2 => exact (Kd.R_reads' HO472.out).2.1); rintro e w' ⟨rfl, ⟨nd, rfl⟩⟩; refine ⟨_, rfl, ?_⟩))
  go_ret
  exact ⟨by first | rfl | (simp [zan, zam] <;> rfl) | (simp [*, zan, zam] <;> rfl), by repeat (first | (with_reducible first | exact HB.out | apply zac | apply zab | apply zad) | exact HB.out)⟩
def impl_floor_has.f (s0_0 : List (List Int)) (s0_1 : List (S87)) (a1 : Int) : Option (Bool) := if a1 ≥ 0 then (some (decide (a1 < (s0_1.length : Int)))) else (some false)
set_option maxHeartbeats 8000000 in
set_option maxRecDepth 100000 in
theorem impl_floor_has.calls (g : Nat) (s0_0 : List (List Int)) (s0_1 : List (S87)) (a1 : Int) (r : Bool) (w0 w : World) (hI : zau w0 w g s0_0 s0_1) (hB : Below w0.heap.size w0 w) (h : impl_floor_has.f s0_0 s0_1 a1 = some r) :
  Calls Try.prog 82 #[.pointer (some ⟨g, 0, none⟩), .int .i64 a1] w fun e w' => e = .returned (.bool r) ∧ zau w0 w' g s0_0 s0_1 ∧ Below w0.heap.size w0 w' ∧ zaf w w' g none := by
 have HI0 := zaa.mk hI
 have HK := zaa.mk (zaf.refl w g none)
 have HL := zaa.mk hB.size
 clear hI
 have HW0 := zaa.mk hB.size
 have HB := zaa.mk hB
 clear hB
 have H : (if a1 ≥ 0 then (some (decide (a1 < (s0_1.length : Int)))) else (some false)) = some r := h
 clear h
 by_cases c3 : a1 ≥ 0
 ·rw [if_pos c3] at H
  have c3b0 : decide (0 ≤ a1) = true := decide_eq_true c3
  clear c3
  obtain rfl := Option.some.inj H
  obtain ⟨ASz4_0, cSz4_0, ASz4_1, cSz4_1, HGz4, hgz4, HSz4_0, HSz4_1⟩ := HI0.out
  have hcz4_0 := cellS70_0 HGz4
  have hcz4_1 := cellS70_1 HGz4
  clear HGz4 hgz4
  go_enter Try.func82, Try.ntmps82
  go_wp2
  go_ret
  exact ⟨by first | rfl | (simp [zan, zam] <;> rfl) | (simp [*, zan, zam] <;> rfl), by repeat (first | (with_reducible first | exact HI0.out | apply zau.alloc | apply zau.drewN | apply zau.drew) | exact HI0.out), by repeat (first | (with_reducible first | exact HB.out | apply zac | apply zab | apply zad | refine zai ?_ (zau.ge HI0.out)) | exact HB.out), by repeat (first | (with_reducible first | exact HK.out | apply zaf.set_ | apply zag | apply zak | apply zah) | exact HK.out)⟩
 ·rw [if_neg c3] at H
  have c3b0 : decide (0 ≤ a1) = false := decide_eq_false c3
  clear c3
  obtain rfl := Option.some.inj H
  go_enter Try.func82, Try.ntmps82
  go_wp2
  go_ret
  exact ⟨by first | rfl | (simp [zan, zam] <;> rfl) | (simp [*, zan, zam] <;> rfl), by repeat (first | (with_reducible first | exact HI0.out | apply zau.alloc | apply zau.drewN | apply zau.drew) | exact HI0.out), by repeat (first | (with_reducible first | exact HB.out | apply zac | apply zab | apply zad | refine zai ?_ (zau.ge HI0.out)) | exact HB.out), by repeat (first | (with_reducible first | exact HK.out | apply zaf.set_ | apply zag | apply zak | apply zah) | exact HK.out)⟩
end Go.Proofs.Ytoijjkhdfooapaa.PB
namespace Go.Proofs.Ytoijjkhdfooapaa.PB
open Go.RowKit Go.PW.PrintWords Go.PW.PrintLast Go.PW.PrintMore
attribute [local go_sem] zbw zbu zcj zci zbp zbo zbv zbt   -- for this text's walks alone
def impl_near.l0 : Nat → List Int → List Int → Int → Int → Option (List Int)
 | 0, _, _, _, _ => none
 | k + 1, x5, x11, x12, x13 => if x13 < x12 then (if 0 ≤ x13 then (if x13 < (x11.length : Int) then (if (rd x11 x13) > 0 then (if x5.length < 17592186044416 then (impl_near.l0 k (x5 ++ [x13]) x11 x12 (wrap64 (x13 + 1))) else (none)) else (impl_near.l0 k x5 x11 x12 (wrap64 (x13 + 1)))) else (none)) else (none)) else (some x5)
def impl_near.f (k : Nat) (l0 : List (List Int)) (a1 : Int) : Option (List Int) := if 0 ≤ a1 then (if a1 < (l0.length : Int) then (impl_near.l0 k ([] : List Int) (zbr l0 a1) ((zbr l0 a1).length : Int) 0) else (none)) else (none)
set_option maxHeartbeats 8000000 in
set_option maxRecDepth 100000 in
theorem impl_near.calls (k : Nat) (A0 : Option Addr) (c0 : Nat) (l0 : List (List Int)) (a1 : Int) (r : List Int) (w : World) (hr0 : Kd.C (Kd.slice 3 (Kd.int .i64)) w A0 l0.length l0) (hc0 : l0.length ≤ c0) (h : impl_near.f k l0 a1 = some r) :
  Calls Try.prog 72 #[.slice A0 l0.length c0, .int .i64 a1] w fun e w' => ∃ v0_ : Value, e = .returned (v0_) ∧ Kd.R (Kd.int .i64) 3 w' w.heap.size (fun _ => True) v0_ r ∧ Below w.heap.size w w' := by
 have HR0 := zaa.mk hr0
 have HC0 := zaa.mk hc0
 clear hr0 hc0
 have HB := zaa.mk (Below.refl w.heap.size w)
 have H : (if 0 ≤ a1 then (if a1 < (l0.length : Int) then (impl_near.l0 k ([] : List Int) (zbr l0 a1) ((zbr l0 a1).length : Int) 0) else (none)) else (none)) = some r := h
 clear h
 by_cases c3 : 0 ≤ a1
 ·rw [if_pos c3] at H
  have c3b0 : decide (0 ≤ a1) = true := decide_eq_true c3
  clear c3
  by_cases c4 : a1 < (l0.length : Int)
  ·rw [if_pos c4] at H
   have c4b0 : decide (a1 < (l0.length : Int)) = true := decide_eq_true c4
   clear c4
   have H' := zaa.mk H
   clear H
   have p489 : 0 ≤ (a1 : Int) := of_decide_eq_true (by first | (with_reducible assumption) | assumption)
   have q489 : a1 < (l0.length : Int) := of_decide_eq_true (by first | (with_reducible assumption) | assumption)
   obtain ⟨ad489, A489_0, c489_0, e489, hx489_0, hl489_0, hi489_0⟩ := at_L3 HR0.out a1 p489 q489
   cases e489
   have HR489_0 := zaa.mk hi489_0
   have HC489_0 := zaa.mk hl489_0
   clear hi489_0 hl489_0
   replace p489 := eq_true p489
   replace q489 := eq_true q489
   go_enter Try.func72, Try.ntmps72
   go_wp2
   go_loopg [5, 13] k (fun kq v5 v13 w' => ∃ (x5_1 : List Int) (x13_1 : Int), v13 = .int .i64 x13_1 ∧ zaa (impl_near.l0 kq x5_1 (zbr l0 a1) ((zbr l0 a1).length : Int) x13_1 = some r) ∧ zaa (kq ≤ k) ∧ zaa (Kd.R (Kd.int .i64) 3 w' w.heap.size (fun _ => True) v5 x5_1) ∧ zaa (Below w.heap.size w w'))
   case atStart => exact ⟨(([] : List Int)), (0), (by first | rfl | (simp; done) | (simp [*]; done)), H', ⟨Nat.le_refl _⟩, ⟨by first | exact Kd.R_nil _ _ _ _ _ | exact Kd.N_nil _ _ _ _ _ | exact Kd.V_nil _ _ _ _ _ | exact Kd.Q_nil _ _ _ _ _ | exact Kd.S_nil _ _ _ _ _⟩, ⟨by repeat (first | (with_reducible first | exact HB.out | apply zac | apply zab | apply zad) | exact HB.out)⟩⟩
   case round =>
    clear H'
    try clear p2
    try clear c3
    try clear c3b0
    try clear c4
    try clear c4b0
    try clear p4
    try clear q4
    try clear hx4
    try clear hx489_0
    try clear p489
    try clear q489
    obtain ⟨x5_1, x13_1, rfl, HA, HK1, HO_5, HB⟩ := hrel
    cases gk with
    | zero => exact absurd HA.out (by simp [impl_near.l0])
    | succ k1 =>
     have H := HA.out
     clear HA
     simp only [impl_near.l0] at H
     by_cases c5 : x13_1 < ((zbr l0 a1).length : Int)
     ·rw [if_pos c5] at H
      have c5b0 : decide (x13_1 < ((zbr l0 a1).length : Int)) = true := decide_eq_true c5
      clear c5
      by_cases c6 : 0 ≤ x13_1
      ·rw [if_pos c6] at H
       have c6b0 : decide (0 ≤ x13_1) = true := decide_eq_true c6
       clear c6
       by_cases c7 : x13_1 < ((zbr l0 a1).length : Int)
       ·rw [if_pos c7] at H
        have c7b0 : decide (x13_1 < ((zbr l0 a1).length : Int)) = true := decide_eq_true c7
        clear c7
        by_cases c8 : (rd (zbr l0 a1) x13_1) > 0
        ·rw [if_pos c8] at H
         have c8b0 : decide (0 < (rd (zbr l0 a1) x13_1)) = true := decide_eq_true c8
         clear c8
         by_cases c9 : x5_1.length < 17592186044416
         ·rw [if_pos c9] at H
          have LMc9 := zaa.mk c9
          clear c9
          obtain ⟨y491, hy491⟩ : ∃ y_ : List Int, y_ = (x5_1 ++ [x13_1]) := ⟨_, rfl⟩
          replace H : (impl_near.l0 k1 y491 (zbr l0 a1) ((zbr l0 a1).length : Int) (wrap64 (x13_1 + 1))) = some r := by first | (rw [hy491]; with_reducible exact H) | (have H2_ := (Option.bind_some _ _).symm.trans H; rw [hy491]; with_reducible exact H2_) | (have H2_ := (Option.bind_some _ _).symm.trans H; with_reducible exact H2_) | with_reducible exact H | (rw [hy491]; exact H) | exact H
          have Ny491 := zaa.mk hy491
          clear hy491
          have H' := zaa.mk H
          clear H
          have p490 : 0 ≤ (x13_1 : Int) := of_decide_eq_true (by first | (with_reducible assumption) | assumption)
          have q490 : x13_1 < ((zbr l0 a1).length : Int) := of_decide_eq_true (by first | (with_reducible assumption) | assumption)
          obtain ⟨ad490, e490, hx490_0⟩ := Kd.at_int HR489_0.out x13_1 p490 q490
          cases e490
          replace hx490_0 := (HB.out.cell (World.block_lt_of_cell? w _ hx490_0)).trans hx490_0
          replace p490 := eq_true p490
          replace q490 := eq_true q490
          go_wp2_with (first | ((with_reducible refine zaz (b := .append) (xs := #[.tmp 20, .tmp 22]) rfl ?_); at_builtin; refine Kd.R_append (Kd.int .i64) (w0 := w) w.heap.size rfl (.tmp 20) (.tmp 22) 34 3 (.int .i64 0) 8 rfl Try.underlying34 info3 rfl (by decide) (by omega) u5 x5_1 x13_1 [.int .i64 x13_1] (fun _ => True) (fun _ => False) rfl rfl ?aP (fun _ hk => hk.elim) ?aF ?aO ?aB ?aS ?aL ?_; (case aP => exact rfl); (case aB => exact (by repeat (first | (with_reducible first | exact HB.out | apply zac | apply zab | apply zad) | exact HB.out))); (case aF => exact (fun _ _ => trivial)); (case aO => exact (by (with_reducible repeat (first | apply Kd.R_alloc | apply Kd.R_drewN | apply Kd.R_drew)); exact HO_5.out)); (case aS => exact (zap (by repeat (first | (with_reducible first | exact HB.out | apply zac | apply zab | apply zad) | exact HB.out)))); (case aL => have := LMc9.out; omega); intro v492 w10 ho hb hg hat; rw [← Ny491.out] at ho; have n0_ := zaa.mk (hb); have n1_ := zaa.mk (ho); clear HB; clear HO_5; have HB := n0_; have HO493 := n1_; clear n0_ n1_; clear ho hb hg hat))
          go_roundg k1
          case measure => have := HK1.out; omega
          case rel => exact ⟨(y491), (wrap64 (x13_1 + 1)), (by first | rfl | (simp; done) | (simp [*]; done)), H', ⟨by have := HK1.out; omega⟩, ⟨by (with_reducible repeat (first | apply Kd.R_alloc | apply Kd.R_drewN | apply Kd.R_drew)); exact HO493.out⟩, ⟨by repeat (first | (with_reducible first | exact HB.out | apply zac | apply zab | apply zad) | exact HB.out)⟩⟩
         ·rw [if_neg c9] at H
          exact absurd H (by simp)
        ·rw [if_neg c8] at H
         have c8b0 : decide (0 < (rd (zbr l0 a1) x13_1)) = false := decide_eq_false c8
         clear c8
         have H' := zaa.mk H
         clear H
         have p490 : 0 ≤ (x13_1 : Int) := of_decide_eq_true (by first | (with_reducible assumption) | assumption)
         have q490 : x13_1 < ((zbr l0 a1).length : Int) := of_decide_eq_true (by first | (with_reducible assumption) | assumption)
         obtain ⟨ad490, e490, hx490_0⟩ := Kd.at_int HR489_0.out x13_1 p490 q490
         cases e490
         replace hx490_0 := (HB.out.cell (World.block_lt_of_cell? w _ hx490_0)).trans hx490_0
         replace p490 := eq_true p490
         replace q490 := eq_true q490
         go_wp2
         go_roundg k1
         case measure => have := HK1.out; omega
         case rel => exact ⟨(x5_1), (wrap64 (x13_1 + 1)), (by first | rfl | (simp; done) | (simp [*]; done)), H', ⟨by have := HK1.out; omega⟩, ⟨by (with_reducible repeat (first | apply Kd.R_alloc | apply Kd.R_drewN | apply Kd.R_drew)); exact HO_5.out⟩, ⟨by repeat (first | (with_reducible first | exact HB.out | apply zac | apply zab | apply zad) | exact HB.out)⟩⟩
       ·rw [if_neg c7] at H
        exact absurd H (by simp)
      ·rw [if_neg c6] at H
       exact absurd H (by simp)
     ·rw [if_neg c5] at H
      have c5b0 : decide (x13_1 < ((zbr l0 a1).length : Int)) = false := decide_eq_false c5
      clear c5
      obtain rfl := Option.some.inj H
      go_wp2
      go_ret
      exact ⟨_, by first | rfl | (simp [zan, zam] <;> rfl) | (simp [*, zan, zam] <;> rfl), by (with_reducible repeat (first | apply Kd.R_alloc | apply Kd.R_drewN | apply Kd.R_drew)); exact HO_5.out, by repeat (first | (with_reducible first | exact HB.out | apply zac | apply zab | apply zad) | exact HB.out)⟩
  ·rw [if_neg c4] at H
   exact absurd H (by simp)
 ·rw [if_neg c3] at H
  exact absurd H (by simp)
end Go.Proofs.Ytoijjkhdfooapaa.PB
namespace Go.Proofs.Ytoijjkhdfooapaa.PB
open Go.RowKit Go.PW.PrintWords Go.PW.PrintLast Go.PW.PrintMore
attribute [local go_sem] zbw zbu zcj zci zbp zbo zbv zbt   -- for this text's walks alone
def bits_Mul32.f (a0 : Int) (a1 : Int) : Option (Int × Int) := some (((IntKind.u64.wrap ((IntKind.u64.wrap (a0)) * (IntKind.u64.wrap (a1)))) / 4294967296) % 4294967296, (IntKind.u64.wrap ((IntKind.u64.wrap (a0)) * (IntKind.u64.wrap (a1)))) % 4294967296)
set_option maxHeartbeats 8000000 in
set_option maxRecDepth 100000 in
theorem bits_Mul32.calls (a0 : Int) (a1 : Int) (r1 : Int) (r2 : Int) (w : World) (h : bits_Mul32.f a0 a1 = some (r1, r2)) :
  Calls Try.prog 119 #[.int .u32 a0, .int .u32 a1] w fun e w' => e = .returned (.tuple #[.int .u32 r1, .int .u32 r2]) ∧ zaw w w' := by
 have H : (some (((IntKind.u64.wrap ((IntKind.u64.wrap (a0)) * (IntKind.u64.wrap (a1)))) / 4294967296) % 4294967296, (IntKind.u64.wrap ((IntKind.u64.wrap (a0)) * (IntKind.u64.wrap (a1)))) % 4294967296)) = some (r1, r2) := h
 clear h
 simp only [Option.some.injEq, Prod.mk.injEq] at H
 obtain ⟨rfl, rfl⟩ := H
 go_enter Try.func119, Try.ntmps119
 go_wp2
 go_ret2
 exact ⟨by first | rfl | (simp; done) | (simp [*]; done), by repeat (first | exact zaw.refl _ | apply zaw.step)⟩
def bits_Mul64.f (a0 : Int) (a1 : Int) : Option (Int × Int) := some (IntKind.u64.wrap ((IntKind.u64.wrap ((IntKind.u64.wrap ((a0 / 4294967296) * (a1 / 4294967296))) + ((IntKind.u64.wrap ((IntKind.u64.wrap ((a0 / 4294967296) * (Go.bits .and .u64 a1 4294967295))) + ((IntKind.u64.wrap ((Go.bits .and .u64 a0 4294967295) * (Go.bits .and .u64 a1 4294967295))) / 4294967296))) / 4294967296))) + ((IntKind.u64.wrap ((Go.bits .and .u64 (IntKind.u64.wrap ((IntKind.u64.wrap ((a0 / 4294967296) * (Go.bits .and .u64 a1 4294967295))) + ((IntKind.u64.wrap ((Go.bits .and .u64 a0 4294967295) * (Go.bits .and .u64 a1 4294967295))) / 4294967296))) 4294967295) + (IntKind.u64.wrap ((Go.bits .and .u64 a0 4294967295) * (a1 / 4294967296))))) / 4294967296)), IntKind.u64.wrap (a0 * a1))
set_option maxHeartbeats 8000000 in
set_option maxRecDepth 100000 in
theorem bits_Mul64.calls (a0 : Int) (a1 : Int) (r1 : Int) (r2 : Int) (w : World) (h : bits_Mul64.f a0 a1 = some (r1, r2)) :
  Calls Try.prog 120 #[.int .u64 a0, .int .u64 a1] w fun e w' => e = .returned (.tuple #[.int .u64 r1, .int .u64 r2]) ∧ zaw w w' := by
 have H : (some (IntKind.u64.wrap ((IntKind.u64.wrap ((IntKind.u64.wrap ((a0 / 4294967296) * (a1 / 4294967296))) + ((IntKind.u64.wrap ((IntKind.u64.wrap ((a0 / 4294967296) * (Go.bits .and .u64 a1 4294967295))) + ((IntKind.u64.wrap ((Go.bits .and .u64 a0 4294967295) * (Go.bits .and .u64 a1 4294967295))) / 4294967296))) / 4294967296))) + ((IntKind.u64.wrap ((Go.bits .and .u64 (IntKind.u64.wrap ((IntKind.u64.wrap ((a0 / 4294967296) * (Go.bits .and .u64 a1 4294967295))) + ((IntKind.u64.wrap ((Go.bits .and .u64 a0 4294967295) * (Go.bits .and .u64 a1 4294967295))) / 4294967296))) 4294967295) + (IntKind.u64.wrap ((Go.bits .and .u64 a0 4294967295) * (a1 / 4294967296))))) / 4294967296)), IntKind.u64.wrap (a0 * a1))) = some (r1, r2) := h
 clear h
 simp only [Option.some.injEq, Prod.mk.injEq] at H
 obtain ⟨rfl, rfl⟩ := H
 go_enter Try.func120, Try.ntmps120
 go_wp2
 go_ret2
 exact ⟨by first | rfl | (simp; done) | (simp [*]; done), by repeat (first | exact zaw.refl _ | apply zaw.step)⟩
def bits_Mul.f (a0 : Int) (a1 : Int) : Option (Int × Int) := (bits_Mul64.f a0 a1).bind fun bt536 => (some (bt536.1, bt536.2))
set_option maxHeartbeats 8000000 in
set_option maxRecDepth 100000 in
theorem bits_Mul.calls (a0 : Int) (a1 : Int) (r1 : Int) (r2 : Int) (w : World) (h : bits_Mul.f a0 a1 = some (r1, r2)) :
  Calls Try.prog 110 #[.int .u64 a0, .int .u64 a1] w fun e w' => e = .returned (.tuple #[.int .u64 r1, .int .u64 r2]) ∧ zaw w w' := by
 have H : ((bits_Mul64.f a0 a1).bind fun bt536 => (some (bt536.1, bt536.2))) = some (r1, r2) := h
 clear h
 replace H := Option.bind_eq_some_iff.mp H
 obtain ⟨⟨t536, t537⟩, A30, H⟩ := H
 replace H : (some (t536, t537)) = some (r1, r2) := H
 have A3 := zaa.mk A30
 clear A30
 simp only [Option.some.injEq, Prod.mk.injEq] at H
 obtain ⟨rfl, rfl⟩ := H
 go_enter Try.func110, Try.ntmps110
 go_wp2_with (first | ((with_reducible refine zal (f := 120) rfl ?_); refine zbb (some 25) rfl rfl Try.func120 (by kernel_rfl) rfl #[.int .u64 a0, .int .u64 a1] rfl (by (try simp only [List.map_toArray, List.map_cons, List.map_nil]); first | done | rfl | (simp only [List.length_drop, List.length_take]; rfl)) ?_; (with_reducible refine (bits_Mul64.calls a0 a1 t536 t537 _ A3.out).mono ?_); rintro e w' ⟨rfl, ⟨nd, rfl⟩⟩; refine ⟨_, rfl, ?_⟩))
 go_ret2
 exact ⟨by first | rfl | (simp; done) | (simp [*]; done), by repeat (first | exact zaw.refl _ | apply zaw.step)⟩
end Go.Proofs.Ytoijjkhdfooapaa.PB
namespace Go.Proofs.Ytoijjkhdfooapaa.PB
open Go.RowKit Go.PW.PrintWords Go.PW.PrintLast Go.PW.PrintMore
attribute [local go_sem] zbw zbu zcj zci zbp zbo zbv zbt   -- for this text's walks alone
def zae (w0 W : World) (g : Nat) (f0 : List Int) (f1 : Int) : Prop := ∃ A0 c0, W.heap[g]? = some (.cells #[.slice A0 f0.length c0, .int .i64 f1] 118 (0, 0)) ∧ w0.heap.size ≤ g ∧ Kd.C (Kd.int .u8) w0 A0 f0.length f0
theorem zae.grown {w0 W : World} {g : Nat} {f0 : List Int} {f1 : Int} {W1 : World} {row : Option Nat} (h : zae w0 W g f0 f1) (hw : W.grownBy W1 row) (hne : some g ≠ row) : zae w0 W1 g f0 f1 := by
 obtain ⟨A0, c0, hb, hg, hr0⟩ := h
 exact ⟨A0, c0, blk_grown hb hw hne, hg, hr0⟩
theorem zae.fresh {w0 W : World} {g : Nat} {f0 : List Int} {f1 : Int} (h : zae w0 W g f0 f1) : ∀ k, W.heap.size ≤ k → k ≠ g := by
 obtain ⟨A0, c0, hb, hg, hr0⟩ := h
 exact Kd.freshB hb
theorem zae.kept {w0 W : World} {g : Nat} {f0 : List Int} {f1 : Int} {W1 : World} {S : Nat → Prop} (h : zae w0 W g f0 f1) (hk : Kept W W1 S) (hne : ¬ S g) : zae w0 W1 g f0 f1 := by
 obtain ⟨A0, c0, hb, hg, hr0⟩ := h
 exact ⟨A0, c0, blk_kept hb hk hne, hg, hr0⟩
theorem zae.below {w0 W : World} {g : Nat} {f0 : List Int} {f1 : Int} {W1 : World} (h : zae w0 W g f0 f1) (hw : Below W.heap.size W W1) : zae w0 W1 g f0 f1 := h.grown (grown_of_below hw none) (by simp)
theorem zae.alloc {w0 W : World} {g : Nat} {f0 : List Int} {f1 : Int} (h : zae w0 W g f0 f1) (o : Obj) : zae w0 (W.alloc o) g f0 f1 := h.below (zac (Below.refl _ _) o)
theorem zae.drewN {w0 W : World} {g : Nat} {f0 : List Int} {f1 : Int} (h : zae w0 W g f0 f1) (m : Nat) : zae w0 (W.drewN m) g f0 f1 := h
theorem zae.drew {w0 W : World} {g : Nat} {f0 : List Int} {f1 : Int} (h : zae w0 W g f0 f1) : zae w0 W.drew g f0 f1 := h
theorem zae.at_ {w0 W : World} {g : Nat} {f0 : List Int} {f1 : Int} {w' : World} {m : Nat} (hq : W.drewN m = w') (h : zae w0 W g f0 f1) : zae w0 w' g f0 f1 := by subst hq; exact zae.drewN h m
theorem zae.apart {w0 W : World} {g : Nat} {f0 : List Int} {f1 : Int} {α : Type} {d : Kd α} {e : Nat} {base : Nat} {ok : Nat → Prop} {v : Value} {xs : List α} (h : zae w0 W g f0 f1) (ho : d.R e W base ok v xs) (ht : ∀ q, q ∈ e :: d.E → q ≠ 118) : d.R e W base (fun k => ok k ∧ k ≠ g) v xs := by
 obtain ⟨A0, c0, hb, hg, hr0⟩ := h
 exact Kd.R_types ho hb ht
theorem zae.own_ne {w0 W : World} {g : Nat} {f0 : List Int} {f1 : Int} {α : Type} {d : Kd α} {e : Nat} {base : Nat} {ok : Nat → Prop} {v : Value} {xs : List α} (h : zae w0 W g f0 f1) (ho : d.R e W base ok v xs) (ht : e ≠ 118) : some g ≠ v.ownBlock := by
 obtain ⟨A0, c0, hb, hg, hr0⟩ := h
 exact Kd.R_ne ho hb ht
theorem zae.lt {w0 W : World} {g : Nat} {f0 : List Int} {f1 : Int} (h : zae w0 W g f0 f1) : g < W.heap.size := by
 obtain ⟨A0, c0, hb, hg, hr0⟩ := h
 exact blk_lt hb
theorem zae.ge {w0 W : World} {g : Nat} {f0 : List Int} {f1 : Int} (h : zae w0 W g f0 f1) : w0.heap.size ≤ g := by
 obtain ⟨A0, c0, hb, hg, hr0⟩ := h
 exact hg
theorem cellS118_0 {W : World} {g : Nat} {A0 : Option Addr} {c0 : Nat} {f0 : List Int} {f1 : Int} (h : W.heap[g]? = some (.cells #[.slice A0 f0.length c0, .int .i64 f1] 118 (0, 0))) : W.cell? ⟨g, 0, none⟩ = some (.slice A0 f0.length c0) := (zat h 0).trans rfl
theorem cellS118_1 {W : World} {g : Nat} {A0 : Option Addr} {c0 : Nat} {f0 : List Int} {f1 : Int} (h : W.heap[g]? = some (.cells #[.slice A0 f0.length c0, .int .i64 f1] 118 (0, 0))) : W.cell? ⟨g, 1, none⟩ = some (.int .i64 f1) := (zat h 1).trans rfl
theorem zae.set_1 {w0 W : World} {g : Nat} {f0 : List Int} {f1 : Int} (h : zae w0 W g f0 f1) (x : Int) : zae w0 (W.setCell ⟨g, 1, none⟩ (.int .i64 x)) g f0 x := by
 obtain ⟨A0, c0, hb, hg, hr0⟩ := h
 exact ⟨A0, c0, by simpa using blk_set hb 1 (.int .i64 x), hg, hr0⟩
theorem zae.new (w0 W : World) (A0 : Option Addr) (c0 : Nat) (f0 : List Int) (f1 : Int) (hB : Below w0.heap.size w0 W) (hr0 : Kd.C (Kd.int .u8) w0 A0 f0.length f0) : zae w0 (W.alloc (.cells #[.slice A0 f0.length c0, .int .i64 f1] 118)) W.heap.size f0 f1 := ⟨A0, c0, by simpa using heap_alloc_new W _, hB.size, hr0⟩
def spec_l6Open.f (l0 : List Int) : Option (List Int × Int) := if (l0.length : Int) > 2000 then (if 2000 ≤ (l0.length : Int) then (some (l0.take 2000, 0)) else (none)) else (some (l0, 0))
set_option maxHeartbeats 8000000 in
set_option maxRecDepth 100000 in
theorem spec_l6Open.calls (A0 : Option Addr) (c0 : Nat) (l0 : List Int) (r1 : List Int) (r2 : Int) (w0 w : World) (hB : Below w0.heap.size w0 w) (hr0 : Kd.C (Kd.int .u8) w0 A0 l0.length l0) (hc0 : l0.length ≤ c0) (h : spec_l6Open.f l0 = some (r1, r2)) :
  Calls Try.prog 103 #[.slice A0 l0.length c0] w fun e w' => ∃ g_ : Nat, e = .returned (.pointer (some ⟨g_, 0, none⟩)) ∧ zae w0 w' g_ r1 r2 ∧ Below w0.heap.size w0 w' ∧ Below w.heap.size w w' := by
 have hu118 := Try.underlying118
 have HR0 := zaa.mk hr0
 have HC0 := zaa.mk hc0
 clear hr0 hc0
 have HBW := zaa.mk (Below.refl w.heap.size w)
 have HW0 := zaa.mk hB.size
 have HB := zaa.mk hB
 clear hB
 have H : (if (l0.length : Int) > 2000 then (if 2000 ≤ (l0.length : Int) then (some (l0.take 2000, 0)) else (none)) else (some (l0, 0))) = some (r1, r2) := h
 clear h
 by_cases c2 : (l0.length : Int) > 2000
 ·rw [if_pos c2] at H
  have c2b0 : decide (2000 < (l0.length : Int)) = true := decide_eq_true c2
  have c2b1 : decide (2000 < l0.length) = true := decide_eq_true (by omega)
  clear c2
  by_cases c3 : 2000 ≤ (l0.length : Int)
  ·rw [if_pos c3] at H
   have c3b0 := eq_true c3
   have c3b1 : decide (2000 ≤ (l0.length : Int)) = true := decide_eq_true c3
   clear c3
   simp only [Option.some.injEq, Prod.mk.injEq] at H
   obtain ⟨rfl, rfl⟩ := H
   obtain ⟨i04, hi04, _, hsz4, _⟩ := info_parts info5
   obtain ⟨hcut4, hA4, hC4⟩ := print_take_of (P := Try.prog) (Value.int .u8) 0 45 5 .i64 Try.underlying45 hi04 hsz4 A0 c0 l0 2000 (by omega) (of_decide_eq_true (by first | (with_reducible assumption) | assumption)) HC0.out
   have HR631 := zaa.mk (Kd.C_of_reads (h1 := fun _ => rfl) (hA4 _ (Kd.reads_of_C HR0.out)))
   have HC631 := zaa.mk hC4
   clear hA4 hC4 hi04 hsz4
   go_enter Try.func103, Try.ntmps103
   go_wp2_with (first | ((with_reducible refine zbc (N := 10) rfl ?_); refine zcf ?hg (N := 10) ?hd (cs := #[.slice A0 (l0.take 2000).length c0, .int .i64 0]) (t := 118) ?hr ?_; (case hd => rfl); (case hg => rfl); (case hr => first | (go_simp; done) | (go_simp; rfl)); intro gb632 hg w5 hbox hb; have n0_ := zaa.mk (zaj HBW.out hb); have n1_ := zaa.mk (zaj (by repeat (first | (with_reducible first | exact HB.out | apply zac | apply zab | apply zad) | exact HB.out)) hb); have n2_ := zaa.mk (hbox); have n3_ := zaa.mk ((by rw [hg]; exact (zap (by repeat (first | (with_reducible first | exact HBW.out | apply zac | apply zab | apply zad) | exact HBW.out))) : w.heap.size ≤ gb632)); have n4_ := zaa.mk ((Nat.le_trans HW0.out (by rw [hg]; exact (zap (by repeat (first | (with_reducible first | exact HBW.out | apply zac | apply zab | apply zad) | exact HBW.out))) : w.heap.size ≤ gb632) : w0.heap.size ≤ gb632)); clear HBW; clear HB; have HBW := n0_; have HB := n1_; have BK632 := n2_; have GW632 := n3_; have GE632 := n4_; clear n0_ n1_ n2_ n3_ n4_; clear hb hbox hg))
   go_ret
   exact ⟨_, rfl, (show zae w0 _ gb632 (l0.take 2000) 0 from ⟨_, _, by (with_reducible repeat (first | refine zbh ?_ _ | refine zbm ?_ | refine zbi ?_ _)); exact BK632.out, GE632.out, HR631.out⟩), by repeat (first | (with_reducible first | exact HB.out | apply zac | apply zab | apply zad | refine zai ?_ GE632.out) | exact HB.out), by repeat (first | (with_reducible first | exact HBW.out | apply zac | apply zab | apply zad | refine zai ?_ GW632.out) | exact HBW.out)⟩
  ·rw [if_neg c3] at H
   exact absurd H (by simp)
 ·rw [if_neg c2] at H
  have c2b0 : decide (2000 < (l0.length : Int)) = false := decide_eq_false c2
  have c2b1 : decide (2000 < l0.length) = false := decide_eq_false (by omega)
  clear c2
  simp only [Option.some.injEq, Prod.mk.injEq] at H
  obtain ⟨rfl, rfl⟩ := H
  go_enter Try.func103, Try.ntmps103
  go_wp2_with (first | ((with_reducible refine zbc (N := 10) rfl ?_); refine zcf ?hg (N := 10) ?hd (cs := #[.slice A0 l0.length c0, .int .i64 0]) (t := 118) ?hr ?_; (case hd => rfl); (case hg => rfl); (case hr => first | (go_simp; done) | (go_simp; rfl)); intro gb633 hg w6 hbox hb; have n0_ := zaa.mk (zaj HBW.out hb); have n1_ := zaa.mk (zaj (by repeat (first | (with_reducible first | exact HB.out | apply zac | apply zab | apply zad) | exact HB.out)) hb); have n2_ := zaa.mk (hbox); have n3_ := zaa.mk ((by rw [hg]; exact (zap (by repeat (first | (with_reducible first | exact HBW.out | apply zac | apply zab | apply zad) | exact HBW.out))) : w.heap.size ≤ gb633)); have n4_ := zaa.mk ((Nat.le_trans HW0.out (by rw [hg]; exact (zap (by repeat (first | (with_reducible first | exact HBW.out | apply zac | apply zab | apply zad) | exact HBW.out))) : w.heap.size ≤ gb633) : w0.heap.size ≤ gb633)); clear HBW; clear HB; have HBW := n0_; have HB := n1_; have BK633 := n2_; have GW633 := n3_; have GE633 := n4_; clear n0_ n1_ n2_ n3_ n4_; clear hb hbox hg))
  go_ret
  exact ⟨_, rfl, (show zae w0 _ gb633 l0 0 from ⟨_, _, by (with_reducible repeat (first | refine zbh ?_ _ | refine zbm ?_ | refine zbi ?_ _)); exact BK633.out, GE633.out, HR0.out⟩), by repeat (first | (with_reducible first | exact HB.out | apply zac | apply zab | apply zad | refine zai ?_ GE633.out) | exact HB.out), by repeat (first | (with_reducible first | exact HBW.out | apply zac | apply zab | apply zad | refine zai ?_ GW633.out) | exact HBW.out)⟩
end Go.Proofs.Ytoijjkhdfooapaa.PB
namespace Go.Proofs.Ytoijjkhdfooapaa.PB
open Go.RowKit Go.PW.PrintWords Go.PW.PrintLast Go.PW.PrintMore
attribute [local go_sem] zbw zbu zcj zci zbp zbo zbv zbt   -- for this text's walks alone
def spec_l6Rd_pick.j0 : Nat → Int → Bool → List Int → Int → Option (Int × Int)
 | 0, _, _, _, _ => none
 | k + 1, x1, x24, x1000, x1001 => if x24 = true then (some (0, x1001)) else (if (wrap64 (x1001 - 1)) < (x1000.length : Int) then (if 0 ≤ (wrap64 (x1001 - 1)) then (if x1 = 0 then (none) else (some (Int.tmod (wrap64 (rd x1000 (wrap64 (x1001 - 1)))) x1, x1001))) else (none)) else (if (x1000.length : Int) = 0 then (none) else (if 0 ≤ (Int.tmod (wrap64 (x1001 - 1)) (x1000.length : Int)) then (if (Int.tmod (wrap64 (x1001 - 1)) (x1000.length : Int)) < (x1000.length : Int) then (if 0 ≤ (Int.tmod (wrap64 ((wrap64 ((wrap64 (x1001 - 1)) * 7)) + 3)) (x1000.length : Int)) then (if (Int.tmod (wrap64 ((wrap64 ((wrap64 (x1001 - 1)) * 7)) + 3)) (x1000.length : Int)) < (x1000.length : Int) then (if x1 = 0 then (none) else (some (Int.tmod (Go.bits .xor .i64 (wrap64 ((wrap64 ((wrap64 ((wrap64 ((wrap64 (rd x1000 (Int.tmod (wrap64 (x1001 - 1)) (x1000.length : Int)))) * 131)) + (wrap64 ((wrap64 (rd x1000 (Int.tmod (wrap64 ((wrap64 ((wrap64 (x1001 - 1)) * 7)) + 3)) (x1000.length : Int)))) * 1117)))) + (wrap64 ((wrap64 (x1001 - 1)) * 29)))) + (wrap64 ((wrap64 (Int.tdiv (wrap64 (x1001 - 1)) (x1000.length : Int))) * 53)))) (wrap64 (Int.tdiv (wrap64 ((wrap64 ((wrap64 ((wrap64 ((wrap64 (rd x1000 (Int.tmod (wrap64 (x1001 - 1)) (x1000.length : Int)))) * 131)) + (wrap64 ((wrap64 (rd x1000 (Int.tmod (wrap64 ((wrap64 ((wrap64 (x1001 - 1)) * 7)) + 3)) (x1000.length : Int)))) * 1117)))) + (wrap64 ((wrap64 (x1001 - 1)) * 29)))) + (wrap64 ((wrap64 (Int.tdiv (wrap64 (x1001 - 1)) (x1000.length : Int))) * 53)))) 64))) x1, x1001))) else (none)) else (none)) else (none)) else (none))))
def spec_l6Rd_pick.f (k : Nat) (s0_0 : List Int) (s0_1 : Int) (a1 : Int) : Option (Int × Int) := if a1 < 1 then (spec_l6Rd_pick.j0 k a1 true s0_0 (wrap64 (s0_1 + 1))) else (spec_l6Rd_pick.j0 k a1 ((s0_0.length : Int) == 0) s0_0 (wrap64 (s0_1 + 1)))
set_option maxHeartbeats 8000000 in
set_option maxRecDepth 100000 in
theorem spec_l6Rd_pick.calls (k : Nat) (g : Nat) (s0_0 : List Int) (s0_1 : Int) (a1 : Int) (r1 : Int) (r2 : Int) (w0 w : World) (hI : zae w0 w g s0_0 s0_1) (hB : Below w0.heap.size w0 w) (h : spec_l6Rd_pick.f k s0_0 s0_1 a1 = some (r1, r2)) :
  Calls Try.prog 105 #[.pointer (some ⟨g, 0, none⟩), .int .i64 a1] w fun e w' => e = .returned (.int .i64 r1) ∧ zae w0 w' g s0_0 r2 ∧ Below w0.heap.size w0 w' ∧ zaf w w' g none := by
 have HI0 := zaa.mk hI
 have HK := zaa.mk (zaf.refl w g none)
 have HL := zaa.mk hB.size
 clear hI
 have HW0 := zaa.mk hB.size
 have HB := zaa.mk hB
 clear hB
 have H : (if a1 < 1 then (spec_l6Rd_pick.j0 k a1 true s0_0 (wrap64 (s0_1 + 1))) else (spec_l6Rd_pick.j0 k a1 ((s0_0.length : Int) == 0) s0_0 (wrap64 (s0_1 + 1)))) = some (r1, r2) := h
 clear h
 have HC3 := zaa.mk H
 clear H
 obtain ⟨ASz4_0, cSz4_0, HGz4, hgz4, HSz4_0⟩ := HI0.out
 have hcz4_0 := cellS118_0 HGz4
 have hcz4_1 := cellS118_1 HGz4
 have hfz4_1 := zav HGz4 1
 clear HGz4 hgz4
 go_enter Try.func105, Try.ntmps105
 go_upto_region 2 with (fail)
 repeat (go_quiet (fail); go_upto_region 2 with (fail))
 go_cut [24] (fun v24 wc => ∃ (kq : Nat) (x24_2 : Bool), v24 = .bool x24_2 ∧ zaa (spec_l6Rd_pick.j0 kq a1 x24_2 s0_0 (wrap64 (s0_1 + 1)) = some (r1, r2)) ∧ zaa (kq ≤ k) ∧ zaa (zae w0 wc g s0_0 (wrap64 (s0_1 + 1))) ∧ zaa (zaf w wc g none) ∧ zaa (Below w0.heap.size w0 wc))
 case first =>
  have H := HC3.out
  clear HC3
  by_cases c5 : a1 < 1
  ·rw [if_pos c5] at H
   have c5b0 : decide (a1 < 1) = true := decide_eq_true c5
   clear c5
   (first | rw [c5b0] | (simp only [zay, zba]; rw [c5b0]) | skip)
   have H' := zaa.mk H
   clear H
   go_wp2
   repeat (go_quiet (fail); try go_wp2)
   go_meet
   case rel => exact ⟨_, (true), (by first | rfl | (simp; done) | (simp [*]; done)), H', ⟨by first | omega | exact Nat.le_refl _⟩, ⟨by repeat (first | (with_reducible first | exact HI0.out | apply zae.alloc | apply zae.drewN | apply zae.drew | apply zae.set_1) | exact HI0.out)⟩, ⟨by repeat (first | (with_reducible first | exact HK.out | apply zaf.set_ | apply zag | apply zak | apply zah) | exact HK.out)⟩, ⟨by repeat (first | (with_reducible first | exact HB.out | apply zac | apply zab | apply zad | refine zai ?_ (zae.ge HI0.out)) | exact HB.out)⟩⟩
  ·rw [if_neg c5] at H
   have c5b0 : decide (a1 < 1) = false := decide_eq_false c5
   clear c5
   (first | rw [c5b0] | (simp only [zay, zba]; rw [c5b0]) | skip)
   have H' := zaa.mk H
   clear H
   obtain ⟨ASz6_0, cSz6_0, HGz6, hgz6, HSz6_0⟩ := HI0.out
   have hcz6_0 := cellS118_0 HGz6
   have hcz6_1 := cellS118_1 HGz6
   have hfz6_1 := zav HGz6 1
   clear HGz6 hgz6
   go_wp2
   repeat (go_quiet (fail); try go_wp2)
   go_meet
   case rel => exact ⟨_, (((s0_0.length : Int) == 0)), (by first | rfl | (simp; done) | (simp [*]; done)), H', ⟨by first | omega | exact Nat.le_refl _⟩, ⟨by repeat (first | (with_reducible first | exact HI0.out | apply zae.alloc | apply zae.drewN | apply zae.drew | apply zae.set_1) | exact HI0.out)⟩, ⟨by repeat (first | (with_reducible first | exact HK.out | apply zaf.set_ | apply zag | apply zak | apply zah) | exact HK.out)⟩, ⟨by repeat (first | (with_reducible first | exact HB.out | apply zac | apply zab | apply zad | refine zai ?_ (zae.ge HI0.out)) | exact HB.out)⟩⟩
 case rest =>
  clear HC3
  try clear c1
  try clear p2
  try clear c5
  try clear c5b0
  try clear p6
  try clear hcz4_0
  try clear hcz4_1
  try clear hcz6_0
  try clear hcz6_1
  try clear hfz4_1
  try clear hfz6_1
  obtain ⟨kq, x24_2, rfl, HA, HJ2, HI0, HK, HB⟩ := hcut
  cases kq with
  | zero => exact absurd HA.out (by simp [spec_l6Rd_pick.j0])
  | succ kj2 =>
   have H := HA.out
   clear HA
   simp only [spec_l6Rd_pick.j0] at H
   by_cases c7 : x24_2 = true
   ·subst c7
    have H1 : (some (0, (wrap64 (s0_1 + 1)))) = some (r1, r2) := by rw [if_pos rfl] at H; exact H
    clear H
    have H := H1
    clear H1
    simp only [Option.some.injEq, Prod.mk.injEq] at H
    obtain ⟨rfl, rfl⟩ := H
    go_wp2
    repeat (go_quiet (fail); try go_wp2)
    go_ret
    exact ⟨by first | rfl | (simp [zan, zam] <;> rfl) | (simp [*, zan, zam] <;> rfl), by repeat (first | (with_reducible first | exact HI0.out | apply zae.alloc | apply zae.drewN | apply zae.drew | apply zae.set_1) | exact HI0.out), by repeat (first | (with_reducible first | exact HB.out | apply zac | apply zab | apply zad | refine zai ?_ (zae.ge HI0.out)) | exact HB.out), by repeat (first | (with_reducible first | exact HK.out | apply zaf.set_ | apply zag | apply zak | apply zah) | exact HK.out)⟩
   ·replace c7 := Bool.eq_false_iff.mpr c7
    subst c7
    have H1 : (if (wrap64 ((wrap64 (s0_1 + 1)) - 1)) < (s0_0.length : Int) then (if 0 ≤ (wrap64 ((wrap64 (s0_1 + 1)) - 1)) then (if a1 = 0 then (none) else (some (Int.tmod (wrap64 (rd s0_0 (wrap64 ((wrap64 (s0_1 + 1)) - 1)))) a1, (wrap64 (s0_1 + 1))))) else (none)) else (if (s0_0.length : Int) = 0 then (none) else (if 0 ≤ (Int.tmod (wrap64 ((wrap64 (s0_1 + 1)) - 1)) (s0_0.length : Int)) then (if (Int.tmod (wrap64 ((wrap64 (s0_1 + 1)) - 1)) (s0_0.length : Int)) < (s0_0.length : Int) then (if 0 ≤ (Int.tmod (wrap64 ((wrap64 ((wrap64 ((wrap64 (s0_1 + 1)) - 1)) * 7)) + 3)) (s0_0.length : Int)) then (if (Int.tmod (wrap64 ((wrap64 ((wrap64 ((wrap64 (s0_1 + 1)) - 1)) * 7)) + 3)) (s0_0.length : Int)) < (s0_0.length : Int) then (if a1 = 0 then (none) else (some (Int.tmod (Go.bits .xor .i64 (wrap64 ((wrap64 ((wrap64 ((wrap64 ((wrap64 (rd s0_0 (Int.tmod (wrap64 ((wrap64 (s0_1 + 1)) - 1)) (s0_0.length : Int)))) * 131)) + (wrap64 ((wrap64 (rd s0_0 (Int.tmod (wrap64 ((wrap64 ((wrap64 ((wrap64 (s0_1 + 1)) - 1)) * 7)) + 3)) (s0_0.length : Int)))) * 1117)))) + (wrap64 ((wrap64 ((wrap64 (s0_1 + 1)) - 1)) * 29)))) + (wrap64 ((wrap64 (Int.tdiv (wrap64 ((wrap64 (s0_1 + 1)) - 1)) (s0_0.length : Int))) * 53)))) (wrap64 (Int.tdiv (wrap64 ((wrap64 ((wrap64 ((wrap64 ((wrap64 (rd s0_0 (Int.tmod (wrap64 ((wrap64 (s0_1 + 1)) - 1)) (s0_0.length : Int)))) * 131)) + (wrap64 ((wrap64 (rd s0_0 (Int.tmod (wrap64 ((wrap64 ((wrap64 ((wrap64 (s0_1 + 1)) - 1)) * 7)) + 3)) (s0_0.length : Int)))) * 1117)))) + (wrap64 ((wrap64 ((wrap64 (s0_1 + 1)) - 1)) * 29)))) + (wrap64 ((wrap64 (Int.tdiv (wrap64 ((wrap64 (s0_1 + 1)) - 1)) (s0_0.length : Int))) * 53)))) 64))) a1, (wrap64 (s0_1 + 1))))) else (none)) else (none)) else (none)) else (none)))) = some (r1, r2) := by rw [if_neg (show ¬ (false = true) by decide)] at H; exact H
    clear H
    have H := H1
    clear H1
    by_cases c8 : (wrap64 ((wrap64 (s0_1 + 1)) - 1)) < (s0_0.length : Int)
    ·rw [if_pos c8] at H
     have c8b0 : decide ((wrap64 ((wrap64 (s0_1 + 1)) - 1)) < (s0_0.length : Int)) = true := decide_eq_true c8
     clear c8
     obtain ⟨ji9, hji9⟩ : ∃ j_ : Int, (wrap64 ((wrap64 (s0_1 + 1)) - 1)) = j_ := ⟨_, rfl⟩
     replace H : (if 0 ≤ (ji9) then (if a1 = 0 then (none) else (some (Int.tmod (wrap64 (rd s0_0 (ji9))) a1, (wrap64 (s0_1 + 1))))) else (none)) = some (r1, r2) := by first | (rw [hji9] at H; exact H) | (simp only [hji9] at H ⊢; exact H)
     (try rw [hji9] at c8b0)
     have hji9w : (IntKind.i64.wrap ((wrap64 (s0_1 + 1)) - 1)) = ji9 := (zay _).trans hji9
     by_cases c10 : 0 ≤ (ji9)
     ·rw [if_pos c10] at H
      have c10b0 : decide (0 ≤ (ji9)) = true := decide_eq_true c10
      clear c10
      by_cases c11 : a1 = 0
      ·rw [if_pos c11] at H
       exact absurd H (by simp)
      ·rw [if_neg c11] at H
       have c11b0 : (a1 == 0) = false := beq_eq_false_iff_ne.mpr c11
       have c11b1 : (a1 != 0) = true := bne_iff_ne.mpr c11
       simp only [Option.some.injEq, Prod.mk.injEq] at H
       obtain ⟨rfl, rfl⟩ := H
       obtain ⟨ASz12_0, cSz12_0, HGz12, hgz12, HSz12_0⟩ := HI0.out
       have hcz12_0 := cellS118_0 HGz12
       have hcz12_1 := cellS118_1 HGz12
       have hfz12_1 := zav HGz12 1
       clear HGz12 hgz12
       have p634 : 0 ≤ ((ji9) : Int) := of_decide_eq_true (by first | (with_reducible assumption) | assumption)
       have q634 : (ji9) < (s0_0.length : Int) := of_decide_eq_true (by first | (with_reducible assumption) | assumption)
       obtain ⟨ad634, e634, hx634_0⟩ := Kd.at_int HSz12_0 (ji9) p634 q634
       cases e634
       replace hx634_0 := zas HB.out hx634_0
       replace p634 := eq_true p634
       replace q634 := eq_true q634
       go_wp2
       repeat (go_quiet (fail); try go_wp2)
       go_ret
       exact ⟨by first | rfl | (simp [zan, zam] <;> rfl) | (simp only [← hji9]; first | rfl | (simp [zan, zam] <;> rfl)) | (simp [*, zan, zam] <;> rfl), by repeat (first | (with_reducible first | exact HI0.out | apply zae.alloc | apply zae.drewN | apply zae.drew | apply zae.set_1) | exact HI0.out), by repeat (first | (with_reducible first | exact HB.out | apply zac | apply zab | apply zad | refine zai ?_ (zae.ge HI0.out)) | exact HB.out), by repeat (first | (with_reducible first | exact HK.out | apply zaf.set_ | apply zag | apply zak | apply zah) | exact HK.out)⟩
     ·rw [if_neg c10] at H
      exact absurd H (by simp)
    ·rw [if_neg c8] at H
     have c8b0 : decide ((wrap64 ((wrap64 (s0_1 + 1)) - 1)) < (s0_0.length : Int)) = false := decide_eq_false c8
     clear c8
     by_cases c13 : (s0_0.length : Int) = 0
     ·rw [if_pos c13] at H
      exact absurd H (by simp)
     ·rw [if_neg c13] at H
      have c13b0 : ((s0_0.length : Int) == 0) = false := beq_eq_false_iff_ne.mpr c13
      have c13b1 : ((s0_0.length : Int) != 0) = true := bne_iff_ne.mpr c13
      have c13b2 : ¬ (s0_0 = []) := fun h_ => c13 (by rw [h_]; rfl)
      obtain ⟨ji14, hji14⟩ : ∃ j_ : Int, (Int.tmod (wrap64 ((wrap64 (s0_1 + 1)) - 1)) (s0_0.length : Int)) = j_ := ⟨_, rfl⟩
      replace H : (if 0 ≤ (ji14) then (if (ji14) < (s0_0.length : Int) then (if 0 ≤ (Int.tmod (wrap64 ((wrap64 ((wrap64 ((wrap64 (s0_1 + 1)) - 1)) * 7)) + 3)) (s0_0.length : Int)) then (if (Int.tmod (wrap64 ((wrap64 ((wrap64 ((wrap64 (s0_1 + 1)) - 1)) * 7)) + 3)) (s0_0.length : Int)) < (s0_0.length : Int) then (if a1 = 0 then (none) else (some (Int.tmod (Go.bits .xor .i64 (wrap64 ((wrap64 ((wrap64 ((wrap64 ((wrap64 (rd s0_0 (ji14))) * 131)) + (wrap64 ((wrap64 (rd s0_0 (Int.tmod (wrap64 ((wrap64 ((wrap64 ((wrap64 (s0_1 + 1)) - 1)) * 7)) + 3)) (s0_0.length : Int)))) * 1117)))) + (wrap64 ((wrap64 ((wrap64 (s0_1 + 1)) - 1)) * 29)))) + (wrap64 ((wrap64 (Int.tdiv (wrap64 ((wrap64 (s0_1 + 1)) - 1)) (s0_0.length : Int))) * 53)))) (wrap64 (Int.tdiv (wrap64 ((wrap64 ((wrap64 ((wrap64 ((wrap64 (rd s0_0 (ji14))) * 131)) + (wrap64 ((wrap64 (rd s0_0 (Int.tmod (wrap64 ((wrap64 ((wrap64 ((wrap64 (s0_1 + 1)) - 1)) * 7)) + 3)) (s0_0.length : Int)))) * 1117)))) + (wrap64 ((wrap64 ((wrap64 (s0_1 + 1)) - 1)) * 29)))) + (wrap64 ((wrap64 (Int.tdiv (wrap64 ((wrap64 (s0_1 + 1)) - 1)) (s0_0.length : Int))) * 53)))) 64))) a1, (wrap64 (s0_1 + 1))))) else (none)) else (none)) else (none)) else (none)) = some (r1, r2) := by first | (rw [hji14] at H; exact H) | (simp only [hji14] at H ⊢; exact H)
      by_cases c15 : 0 ≤ (ji14)
      ·rw [if_pos c15] at H
       have c15b0 : decide (0 ≤ (ji14)) = true := decide_eq_true c15
       clear c15
       by_cases c16 : (ji14) < (s0_0.length : Int)
       ·rw [if_pos c16] at H
        have c16b0 : decide ((ji14) < (s0_0.length : Int)) = true := decide_eq_true c16
        clear c16
        obtain ⟨ji17, hji17⟩ : ∃ j_ : Int, (Int.tmod (wrap64 ((wrap64 ((wrap64 ((wrap64 (s0_1 + 1)) - 1)) * 7)) + 3)) (s0_0.length : Int)) = j_ := ⟨_, rfl⟩
        replace H : (if 0 ≤ (ji17) then (if (ji17) < (s0_0.length : Int) then (if a1 = 0 then (none) else (some (Int.tmod (Go.bits .xor .i64 (wrap64 ((wrap64 ((wrap64 ((wrap64 ((wrap64 (rd s0_0 (ji14))) * 131)) + (wrap64 ((wrap64 (rd s0_0 (ji17))) * 1117)))) + (wrap64 ((wrap64 ((wrap64 (s0_1 + 1)) - 1)) * 29)))) + (wrap64 ((wrap64 (Int.tdiv (wrap64 ((wrap64 (s0_1 + 1)) - 1)) (s0_0.length : Int))) * 53)))) (wrap64 (Int.tdiv (wrap64 ((wrap64 ((wrap64 ((wrap64 ((wrap64 (rd s0_0 (ji14))) * 131)) + (wrap64 ((wrap64 (rd s0_0 (ji17))) * 1117)))) + (wrap64 ((wrap64 ((wrap64 (s0_1 + 1)) - 1)) * 29)))) + (wrap64 ((wrap64 (Int.tdiv (wrap64 ((wrap64 (s0_1 + 1)) - 1)) (s0_0.length : Int))) * 53)))) 64))) a1, (wrap64 (s0_1 + 1))))) else (none)) else (none)) = some (r1, r2) := by first | (rw [hji17] at H; exact H) | (simp only [hji17] at H ⊢; exact H)
        by_cases c18 : 0 ≤ (ji17)
        ·rw [if_pos c18] at H
         have c18b0 : decide (0 ≤ (ji17)) = true := decide_eq_true c18
         clear c18
         by_cases c19 : (ji17) < (s0_0.length : Int)
         ·rw [if_pos c19] at H
          have c19b0 : decide ((ji17) < (s0_0.length : Int)) = true := decide_eq_true c19
          clear c19
          by_cases c20 : a1 = 0
          ·rw [if_pos c20] at H
           exact absurd H (by simp)
          ·rw [if_neg c20] at H
           have c20b0 : (a1 == 0) = false := beq_eq_false_iff_ne.mpr c20
           have c20b1 : (a1 != 0) = true := bne_iff_ne.mpr c20
           simp only [Option.some.injEq, Prod.mk.injEq] at H
           obtain ⟨rfl, rfl⟩ := H
           obtain ⟨ASz21_0, cSz21_0, HGz21, hgz21, HSz21_0⟩ := HI0.out
           have hcz21_0 := cellS118_0 HGz21
           have hcz21_1 := cellS118_1 HGz21
           have hfz21_1 := zav HGz21 1
           clear HGz21 hgz21
           have p635 : 0 ≤ ((ji14) : Int) := of_decide_eq_true (by first | (with_reducible assumption) | assumption)
           have q635 : (ji14) < (s0_0.length : Int) := of_decide_eq_true (by first | (with_reducible assumption) | assumption)
           obtain ⟨ad635, e635, hx635_0⟩ := Kd.at_int HSz21_0 (ji14) p635 q635
           cases e635
           replace hx635_0 := zas HB.out hx635_0
           replace p635 := eq_true p635
           replace q635 := eq_true q635
           have p636 : 0 ≤ ((ji17) : Int) := of_decide_eq_true (by first | (with_reducible assumption) | assumption)
           have q636 : (ji17) < (s0_0.length : Int) := of_decide_eq_true (by first | (with_reducible assumption) | assumption)
           obtain ⟨ad636, e636, hx636_0⟩ := Kd.at_int HSz21_0 (ji17) p636 q636
           obtain rfl : ad635 = ad636 := (by injection e636)
           replace hx636_0 := zas HB.out hx636_0
           replace p636 := eq_true p636
           replace q636 := eq_true q636
           go_wp2
           repeat (go_quiet (fail); try go_wp2)
           go_ret
           exact ⟨by first | rfl | (simp [zan, zam] <;> rfl) | (simp only [← hji14, ← hji17]; first | rfl | (simp [zan, zam] <;> rfl)) | (simp [*, zan, zam] <;> rfl), by repeat (first | (with_reducible first | exact HI0.out | apply zae.alloc | apply zae.drewN | apply zae.drew | apply zae.set_1) | exact HI0.out), by repeat (first | (with_reducible first | exact HB.out | apply zac | apply zab | apply zad | refine zai ?_ (zae.ge HI0.out)) | exact HB.out), by repeat (first | (with_reducible first | exact HK.out | apply zaf.set_ | apply zag | apply zak | apply zah) | exact HK.out)⟩
         ·rw [if_neg c19] at H
          exact absurd H (by simp)
        ·rw [if_neg c18] at H
         exact absurd H (by simp)
       ·rw [if_neg c16] at H
        exact absurd H (by simp)
      ·rw [if_neg c15] at H
       exact absurd H (by simp)
def spec_l1None.f  : Option (List ByteArray × Bool) := some ((([] : List ByteArray)), false)
set_option maxHeartbeats 8000000 in
set_option maxRecDepth 100000 in
theorem spec_l1None.calls  (r1 : List ByteArray) (r2 : Bool) (w : World) (h : spec_l1None.f  = some (r1, r2)) :
  Calls Try.prog 127 #[] w fun e w' => ∃ v0_ : Value, e = .returned (.tuple #[v0_, .bool r2]) ∧ Kd.R Kd.string 9 w' w.heap.size (fun _ => True) v0_ r1 ∧ Below w.heap.size w w' := by
 have HB := zaa.mk (Below.refl w.heap.size w)
 have H : (some ((([] : List ByteArray)), false)) = some (r1, r2) := h
 clear h
 obtain ⟨y637, hy637⟩ : ∃ y_ : List ByteArray, y_ = (([] : List ByteArray)) := ⟨_, rfl⟩
 replace H : (some (y637, false)) = some (r1, r2) := by first | (rw [hy637]; with_reducible exact H) | (have H2_ := (Option.bind_some _ _).symm.trans H; rw [hy637]; with_reducible exact H2_) | (have H2_ := (Option.bind_some _ _).symm.trans H; with_reducible exact H2_) | with_reducible exact H | (rw [hy637]; exact H) | exact H
 have Ny637 := zaa.mk hy637
 clear hy637
 simp only [Option.some.injEq, Prod.mk.injEq] at H
 obtain ⟨rfl, rfl⟩ := H
 go_enter Try.func127, Try.ntmps127
 go_wp2_with (first | ((with_reducible refine zbc (N := 2) rfl ?_); refine Kd.R_lit Kd.string _ 9 ?hg (N := 2) ?hd (xs := ([] : List ByteArray)) (inner := []) (ok := fun _ => True) (okp := fun _ => True) ?hr ?hp (fun _ hk => hk) trivial (Below.refl _ _) (Nat.le_refl _) (by simp) ?_; (case hd => rfl); (case hg => rfl); (case hr => first | (go_simp; done) | (go_simp; rfl)); (case hp => exact (Reps.none _ _)); intro v638 w1 ho2 hb hg_ hnew_; clear hg_ hnew_; (first | rw [← Ny637.out] at ho2 | (simp only [Int.reduceToNat] at ho2; rw [← Ny637.out] at ho2)); have n0_ := zaa.mk (Kd.R_lower ho2 (zap (by repeat (first | (with_reducible first | exact HB.out | apply zac | apply zab | apply zad) | exact HB.out)))); have n1_ := zaa.mk (zaj (by repeat (first | (with_reducible first | exact HB.out | apply zac | apply zab | apply zad) | exact HB.out)) hb); clear HB; have HO639 := n0_; have HB := n1_; clear n0_ n1_; clear hb ho2))
 go_ret2
 exact ⟨_, by first | rfl | (simp [zan, zam] <;> rfl) | (simp [*, zan, zam] <;> rfl), by (with_reducible repeat (first | apply Kd.R_alloc | apply Kd.R_drewN | apply Kd.R_drew)); exact HO639.out, by repeat (first | (with_reducible first | exact HB.out | apply zac | apply zab | apply zad) | exact HB.out)⟩
def spec_l1Done.j0 : Nat → List ByteArray → Bool → Option (List ByteArray × Bool)
 | 0, _, _ => none
 | k + 1, x0, x12 => if x12 = true then ((spec_l1None.f).bind fun bt645 => (some (bt645.1, bt645.2))) else ((spec_l1Names.f k x0).bind fun t649 => (some (t649, true)))
def spec_l1Done.f (k : Nat) (l0 : List ByteArray) : Option (List ByteArray × Bool) := (spec_l1Grid.f k l0).bind fun t640 => (if t640 = true then ((spec_l1Names.f k l0).bind fun t641 => ((spec_PlanIn.f k t641).bind fun t644 => (spec_l1Done.j0 k l0 (!t644)))) else (spec_l1Done.j0 k l0 true))
set_option maxHeartbeats 8000000 in
set_option maxRecDepth 100000 in
theorem spec_l1Done.calls (k : Nat) (A0 : Option Addr) (c0 : Nat) (l0 : List ByteArray) (r1 : List ByteArray) (r2 : Bool) (w : World) (hr0 : Kd.C Kd.string w A0 l0.length l0) (hc0 : l0.length ≤ c0) (h : spec_l1Done.f k l0 = some (r1, r2)) :
  Calls Try.prog 128 #[.slice A0 l0.length c0] w fun e w' => ∃ v0_ : Value, e = .returned (.tuple #[v0_, .bool r2]) ∧ Kd.R Kd.string 9 w' w.heap.size (fun _ => True) v0_ r1 ∧ Below w.heap.size w w' := by
 have HR0 := zaa.mk hr0
 have HC0 := zaa.mk hc0
 clear hr0 hc0
 have HB := zaa.mk (Below.refl w.heap.size w)
 have H : ((spec_l1Grid.f k l0).bind fun t640 => (if t640 = true then ((spec_l1Names.f k l0).bind fun t641 => ((spec_PlanIn.f k t641).bind fun t644 => (spec_l1Done.j0 k l0 (!t644)))) else (spec_l1Done.j0 k l0 true))) = some (r1, r2) := h
 clear h
 have HC2 := zaa.mk H
 clear H
 go_enter Try.func128, Try.ntmps128
 go_upto_region 1 with (fail)
 go_cut [12] (fun v12 wc => ∃ (kq : Nat) (x12_1 : Bool), v12 = .bool x12_1 ∧ zaa (spec_l1Done.j0 kq l0 x12_1 = some (r1, r2)) ∧ zaa (kq ≤ k) ∧ zaa (Below w.heap.size w wc))
 case first =>
  have H := HC2.out
  clear HC2
  replace H := Option.bind_eq_some_iff.mp H
  obtain ⟨t640, A30, H⟩ := H
  replace H : (if t640 = true then ((spec_l1Names.f k l0).bind fun t641 => ((spec_PlanIn.f k t641).bind fun t644 => (spec_l1Done.j0 k l0 (!t644)))) else (spec_l1Done.j0 k l0 true)) = some (r1, r2) := H
  have A3 := zaa.mk A30
  clear A30
  by_cases c4 : t640 = true
  ·subst c4
   have H1 : ((spec_l1Names.f k l0).bind fun t641 => ((spec_PlanIn.f k t641).bind fun t644 => (spec_l1Done.j0 k l0 (!t644)))) = some (r1, r2) := by rw [if_pos rfl] at H; exact H
   clear H
   have H := H1
   clear H1
   replace H := Option.bind_eq_some_iff.mp H
   obtain ⟨t641, A50, H⟩ := H
   replace H : ((spec_PlanIn.f k t641).bind fun t644 => (spec_l1Done.j0 k l0 (!t644))) = some (r1, r2) := H
   have A5 := zaa.mk A50
   clear A50
   replace H := Option.bind_eq_some_iff.mp H
   obtain ⟨t644, A60, H⟩ := H
   replace H : (spec_l1Done.j0 k l0 (!t644)) = some (r1, r2) := H
   have A6 := zaa.mk A60
   clear A60
   have H' := zaa.mk H
   clear H
   go_wp2_with (first | ((with_reducible refine zal (f := 83) rfl ?_); refine zbb (some 5) rfl rfl Try.func83 (by kernel_rfl) rfl #[.slice A0 l0.length c0] rfl (by (try simp only [List.map_toArray, List.map_cons, List.map_nil]); first | done | rfl | (simp only [List.length_drop, List.length_take]; rfl)) ?_; (with_reducible refine (spec_l1Grid.calls k _ _ l0 true _ ?side1 ?side2 A3.out).mono ?_); (case side1 => repeat (first | exact (Kd.C_below HR0.out HB.out) | (with_reducible refine Kd.C_alloc ?_ _) | (with_reducible refine Kd.C_drewN ?_ _) | (with_reducible refine Kd.C_drew ?_))); (case side2 => exact HC0.out); rintro e w' ⟨rfl, ⟨nd, rfl⟩⟩; refine ⟨_, rfl, ?_⟩) | (go_at_call 85; (with_reducible refine (spec_l1Names.calls k _ _ l0 t641 _ ?side1 ?side2 A5.out).mono ?_); (case side1 => repeat (first | exact (Kd.C_below HR0.out (by repeat (first | (with_reducible first | exact HB.out | apply zac | apply zab | apply zad) | exact HB.out))) | (with_reducible refine Kd.C_alloc ?_ _) | (with_reducible refine Kd.C_drewN ?_ _) | (with_reducible refine Kd.C_drew ?_))); (case side2 => exact HC0.out); rintro e w7 ⟨v642, rfl, ho0, hb⟩; have n0_ := zaa.mk (Kd.R_lower ho0 (zap (by repeat (first | (with_reducible first | exact HB.out | apply zac | apply zab | apply zad) | exact HB.out)))); have n1_ := zaa.mk (zaj (by repeat (first | (with_reducible first | exact HB.out | apply zac | apply zab | apply zad) | exact HB.out)) hb); clear HB; have HO643 := n0_; have HB := n1_; clear n0_ n1_; (try clear hb); (try clear hb2); (try clear hk); (try clear hi); (try clear ho0); obtain ⟨Ao8, co8, eo8⟩ := Kd.R_slice HO643.out; subst eo8) | (go_at_call 52; (with_reducible refine (spec_PlanIn.calls k _ _ t641 t644 _ ?side1 ?side2 A6.out).mono ?_); (case side1 => repeat (first | exact (Kd.R_reads' HO643.out).2.2 | (with_reducible refine Kd.C_alloc ?_ _) | (with_reducible refine Kd.C_drewN ?_ _) | (with_reducible refine Kd.C_drew ?_))); (case side2 => exact (Kd.R_reads' HO643.out).2.1); rintro e w9 ⟨rfl, hb⟩; have n0_ := zaa.mk (Kd.R_below (by (with_reducible repeat (first | apply Kd.R_alloc | apply Kd.R_drewN | apply Kd.R_drew)); exact HO643.out) hb); have n1_ := zaa.mk (zaj (by repeat (first | (with_reducible first | exact HB.out | apply zac | apply zab | apply zad) | exact HB.out)) hb); clear HO643; clear HB; have HO643 := n0_; have HB := n1_; clear n0_ n1_; (try clear hb); (try clear hb2); (try clear hk); (try clear hi)))
   go_meet
   case rel => exact ⟨_, (!t644), (by first | rfl | (simp; done) | (simp [*]; done)), H', ⟨by first | omega | exact Nat.le_refl _⟩, ⟨by repeat (first | (with_reducible first | exact HB.out | apply zac | apply zab | apply zad) | exact HB.out)⟩⟩
  ·replace c4 := Bool.eq_false_iff.mpr c4
   subst c4
   have H1 : (spec_l1Done.j0 k l0 true) = some (r1, r2) := by rw [if_neg (show ¬ (false = true) by decide)] at H; exact H
   clear H
   have H := H1
   clear H1
   have H' := zaa.mk H
   clear H
   go_wp2_with (first | ((with_reducible refine zal (f := 83) rfl ?_); refine zbb (some 5) rfl rfl Try.func83 (by kernel_rfl) rfl #[.slice A0 l0.length c0] rfl (by (try simp only [List.map_toArray, List.map_cons, List.map_nil]); first | done | rfl | (simp only [List.length_drop, List.length_take]; rfl)) ?_; (with_reducible refine (spec_l1Grid.calls k _ _ l0 false _ ?side1 ?side2 A3.out).mono ?_); (case side1 => repeat (first | exact (Kd.C_below HR0.out HB.out) | (with_reducible refine Kd.C_alloc ?_ _) | (with_reducible refine Kd.C_drewN ?_ _) | (with_reducible refine Kd.C_drew ?_))); (case side2 => exact HC0.out); rintro e w' ⟨rfl, ⟨nd, rfl⟩⟩; refine ⟨_, rfl, ?_⟩))
   go_meet
   case rel => exact ⟨_, (true), (by first | rfl | (simp; done) | (simp [*]; done)), H', ⟨by first | omega | exact Nat.le_refl _⟩, ⟨by repeat (first | (with_reducible first | exact HB.out | apply zac | apply zab | apply zad) | exact HB.out)⟩⟩
 case rest =>
  clear HC2
  try clear c1
  try clear p2
  try clear c4
  try clear c8
  obtain ⟨kq, x12_1, rfl, HA, HJ1, HB⟩ := hcut
  cases kq with
  | zero => exact absurd HA.out (by simp [spec_l1Done.j0])
  | succ kj1 =>
   have H := HA.out
   clear HA
   simp only [spec_l1Done.j0] at H
   by_cases c10 : x12_1 = true
   ·subst c10
    have H1 : ((spec_l1None.f).bind fun bt645 => (some (bt645.1, bt645.2))) = some (r1, r2) := by rw [if_pos rfl] at H; exact H
    clear H
    have H := H1
    clear H1
    replace H := Option.bind_eq_some_iff.mp H
    obtain ⟨⟨t645, t646⟩, A110, H⟩ := H
    replace H : (some (t645, t646)) = some (r1, r2) := H
    have A11 := zaa.mk A110
    clear A110
    simp only [Option.some.injEq, Prod.mk.injEq] at H
    obtain ⟨rfl, rfl⟩ := H
    go_wp2_with (first | ((with_reducible refine zal (f := 127) rfl ?_); refine zbb (some 13) rfl rfl Try.func127 (by kernel_rfl) rfl #[] rfl (by (try simp only [List.map_toArray, List.map_cons, List.map_nil]); first | done | rfl | (simp only [List.length_drop, List.length_take]; rfl)) ?_; (with_reducible refine (spec_l1None.calls  t645 t646 _ A11.out).mono ?_); rintro e w12 ⟨v647, rfl, ho0, hb⟩; refine ⟨_, rfl, ?_⟩; have n0_ := zaa.mk (Kd.R_lower ho0 (zap (by repeat (first | (with_reducible first | exact HB.out | apply zac | apply zab | apply zad) | exact HB.out)))); have n1_ := zaa.mk (zaj (by repeat (first | (with_reducible first | exact HB.out | apply zac | apply zab | apply zad) | exact HB.out)) hb); clear HB; have HO648 := n0_; have HB := n1_; clear n0_ n1_; (try clear hb); (try clear hb2); (try clear hk); (try clear hi); (try clear ho0)))
    go_ret2
    exact ⟨_, by first | rfl | (simp [zan, zam] <;> rfl) | (simp [*, zan, zam] <;> rfl), by (with_reducible repeat (first | apply Kd.R_alloc | apply Kd.R_drewN | apply Kd.R_drew)); exact HO648.out, by repeat (first | (with_reducible first | exact HB.out | apply zac | apply zab | apply zad) | exact HB.out)⟩
   ·replace c10 := Bool.eq_false_iff.mpr c10
    subst c10
    have H1 : ((spec_l1Names.f kj1 l0).bind fun t649 => (some (t649, true))) = some (r1, r2) := by rw [if_neg (show ¬ (false = true) by decide)] at H; exact H
    clear H
    have H := H1
    clear H1
    replace H := Option.bind_eq_some_iff.mp H
    obtain ⟨t649, A130, H⟩ := H
    replace H : (some (t649, true)) = some (r1, r2) := H
    have A13 := zaa.mk A130
    clear A130
    simp only [Option.some.injEq, Prod.mk.injEq] at H
    obtain ⟨rfl, rfl⟩ := H
    go_wp2_with (first | ((with_reducible refine zal (f := 85) rfl ?_); refine zbb (some 17) rfl rfl Try.func85 (by kernel_rfl) rfl #[.slice A0 l0.length c0] rfl (by (try simp only [List.map_toArray, List.map_cons, List.map_nil]); first | done | rfl | (simp only [List.length_drop, List.length_take]; rfl)) ?_; (with_reducible refine (spec_l1Names.calls kj1 _ _ l0 t649 _ ?side1 ?side2 A13.out).mono ?_); (case side1 => repeat (first | exact (Kd.C_below HR0.out HB.out) | (with_reducible refine Kd.C_alloc ?_ _) | (with_reducible refine Kd.C_drewN ?_ _) | (with_reducible refine Kd.C_drew ?_))); (case side2 => exact HC0.out); rintro e w14 ⟨v650, rfl, ho0, hb⟩; refine ⟨_, rfl, ?_⟩; have n0_ := zaa.mk (Kd.R_lower ho0 (zap (by repeat (first | (with_reducible first | exact HB.out | apply zac | apply zab | apply zad) | exact HB.out)))); have n1_ := zaa.mk (zaj (by repeat (first | (with_reducible first | exact HB.out | apply zac | apply zab | apply zad) | exact HB.out)) hb); clear HB; have HO651 := n0_; have HB := n1_; clear n0_ n1_; (try clear hb); (try clear hb2); (try clear hk); (try clear hi); (try clear ho0)))
    go_ret2
    exact ⟨_, by first | rfl | (simp [zan, zam] <;> rfl) | (simp [*, zan, zam] <;> rfl), by (with_reducible repeat (first | apply Kd.R_alloc | apply Kd.R_drewN | apply Kd.R_drew)); exact HO651.out, by repeat (first | (with_reducible first | exact HB.out | apply zac | apply zab | apply zad) | exact HB.out)⟩
end Go.Proofs.Ytoijjkhdfooapaa.PB
namespace Go.Proofs.Ytoijjkhdfooapaa.PB
open Go.RowKit Go.PW.PrintWords Go.PW.PrintLast Go.PW.PrintMore
attribute [local go_sem] zbw zbu zcj zci zbp zbo zbv zbt   -- for this text's walks alone
def spec_l6Rd_of.f (k : Nat) (s0_0 : List Int) (s0_1 : Int) (l1 : List ByteArray) : Option (ByteArray × Int) := (spec_l6Rd_pick.f k s0_0 s0_1 (l1.length : Int)).bind fun bt669 => (if 0 ≤ bt669.1 then (if bt669.1 < (l1.length : Int) then (some (rdOf ByteArray.empty l1 bt669.1, bt669.2)) else (none)) else (none))
set_option maxHeartbeats 8000000 in
set_option maxRecDepth 100000 in
theorem spec_l6Rd_of.calls (k : Nat) (g : Nat) (s0_0 : List Int) (s0_1 : Int) (A1 : Option Addr) (c1 : Nat) (l1 : List ByteArray) (r1 : ByteArray) (r2 : Int) (w0 w : World) (hI : zae w0 w g s0_0 s0_1) (hB : Below w0.heap.size w0 w) (hr1 : Kd.C Kd.string w A1 l1.length l1) (hc1 : l1.length ≤ c1) (hf1 : ∀ ad, A1 = some ad → 0 < l1.length → ad.block ≠ g) (h : spec_l6Rd_of.f k s0_0 s0_1 l1 = some (r1, r2)) :
  Calls Try.prog 126 #[.pointer (some ⟨g, 0, none⟩), .slice A1 l1.length c1] w fun e w' => e = .returned (.string r1) ∧ zae w0 w' g s0_0 r2 ∧ Below w0.heap.size w0 w' ∧ zaf w w' g none := by
 have HR1 := zaa.mk hr1
 have HC1 := zaa.mk hc1
 clear hr1 hc1
 have HI0 := zaa.mk hI
 have HK := zaa.mk (zaf.refl w g none)
 have HL := zaa.mk hB.size
 clear hI
 have HW0 := zaa.mk hB.size
 have HB := zaa.mk hB
 clear hB
 have H : ((spec_l6Rd_pick.f k s0_0 s0_1 (l1.length : Int)).bind fun bt669 => (if 0 ≤ bt669.1 then (if bt669.1 < (l1.length : Int) then (some (rdOf ByteArray.empty l1 bt669.1, bt669.2)) else (none)) else (none))) = some (r1, r2) := h
 clear h
 replace H := Option.bind_eq_some_iff.mp H
 obtain ⟨⟨t669, t670⟩, A30, H⟩ := H
 replace H : (if 0 ≤ t669 then (if t669 < (l1.length : Int) then (some (rdOf ByteArray.empty l1 t669, t670)) else (none)) else (none)) = some (r1, r2) := H
 have A3 := zaa.mk A30
 clear A30
 by_cases c4 : 0 ≤ t669
 ·rw [if_pos c4] at H
  have c4b0 : decide (0 ≤ t669) = true := decide_eq_true c4
  clear c4
  by_cases c5 : t669 < (l1.length : Int)
  ·rw [if_pos c5] at H
   have c5b0 : decide (t669 < (l1.length : Int)) = true := decide_eq_true c5
   clear c5
   simp only [Option.some.injEq, Prod.mk.injEq] at H
   obtain ⟨rfl, rfl⟩ := H
   go_enter Try.func126, Try.ntmps126
   go_wp2_with (first | ((with_reducible refine zal (f := 105) rfl ?_); refine zbb (some 9) rfl rfl Try.func105 (by kernel_rfl) rfl #[.pointer (some ⟨g, 0, none⟩), .int .i64 (l1.length : Int)] rfl (by (try simp only [List.map_toArray, List.map_cons, List.map_nil]); first | done | rfl | (simp only [List.length_drop, List.length_take]; rfl)) ?_; (with_reducible refine (spec_l6Rd_pick.calls k g s0_0 s0_1 (l1.length : Int) t669 t670 w0 _ ?side1 ?side2 A3.out).mono ?_); (case side1 => repeat (first | (with_reducible first | exact HI0.out | apply zae.alloc | apply zae.drewN | apply zae.drew | apply zae.set_1) | exact HI0.out)); (case side2 => repeat (first | (with_reducible first | exact HB.out | apply zac | apply zab | apply zad | refine zai ?_ (zae.ge HI0.out)) | exact HB.out)); rintro e w6 ⟨rfl, hi, hb, hk⟩; refine ⟨_, rfl, ?_⟩; have n0_ := zaa.mk (zaf.trans (by repeat (first | (with_reducible first | exact HK.out | apply zaf.set_ | apply zag | apply zak | apply zah) | exact HK.out)) hk (.inl rfl)); have n1_ := zaa.mk (hb); have n2_ := zaa.mk (hi); clear HK; clear HB; clear HI0; have HK := n0_; have HB := n1_; have HI0 := n2_; clear n0_ n1_ n2_; (try clear hb); (try clear hb2); (try clear hk); (try clear hi); have p671 : 0 ≤ (t669 : Int) := of_decide_eq_true (by first | (with_reducible assumption) | assumption); have q671 : t669 < (l1.length : Int) := of_decide_eq_true (by first | (with_reducible assumption) | assumption); obtain ⟨ad671, e671, hx671_0⟩ := Kd.at_string HR1.out t669 p671 q671; cases e671; first | (replace hx671_0 := zas HB.out hx671_0) | (replace hx671_0 := keep_cell HK.out hx671_0 (by first | (rw [add_block]; exact hf1 _ rfl (by omega)) | exact hf1 _ rfl (by omega) | exact hf1 ad671 rfl (by omega))); replace p671 := eq_true p671; replace q671 := eq_true q671))
   go_ret
   exact ⟨by first | rfl | (simp [zan, zam] <;> rfl) | (simp [*, zan, zam] <;> rfl), by repeat (first | (with_reducible first | exact HI0.out | apply zae.alloc | apply zae.drewN | apply zae.drew | apply zae.set_1) | exact HI0.out), by repeat (first | (with_reducible first | exact HB.out | apply zac | apply zab | apply zad | refine zai ?_ (zae.ge HI0.out)) | exact HB.out), by repeat (first | (with_reducible first | exact HK.out | apply zaf.set_ | apply zag | apply zak | apply zah) | exact HK.out)⟩
  ·rw [if_neg c5] at H
   exact absurd H (by simp)
 ·rw [if_neg c4] at H
  exact absurd H (by simp)
mutual
def spec_l91Empty.l0 : Nat → Int → Int → List ByteArray → Int → Option (List ByteArray)
 | 0, _, _, _, _ => none
 | k + 1, x0, x1, x5, x6 => if x6 < x0 then (spec_l91Empty.l1 k x0 x1 x5 x6 (([] : List Int)) 0) else (some x5)
def spec_l91Empty.l1 : Nat → Int → Int → List ByteArray → Int → List Int → Int → Option (List ByteArray)
 | 0, _, _, _, _, _, _ => none
 | k + 1, x0, x1, x5, x6, x7, x8 => if x8 < x1 then (if x7.length < 140737488355328 then (spec_l91Empty.l1 k x0 x1 x5 x6 (x7 ++ [97]) (wrap64 (x8 + 1))) else (none)) else (if x5.length < 8796093022208 then (spec_l91Empty.l0 k x0 x1 (x5 ++ [strOfNums x7]) (wrap64 (x6 + 1))) else (none))
end
def spec_l91Empty.f (k : Nat) (a0 : Int) (a1 : Int) : Option (List ByteArray) := spec_l91Empty.l0 k a0 a1 (([] : List ByteArray)) 0
set_option maxHeartbeats 8000000 in
set_option maxRecDepth 100000 in
theorem spec_l91Empty.calls (k : Nat) (a0 : Int) (a1 : Int) (r : List ByteArray) (w : World) (h : spec_l91Empty.f k a0 a1 = some r) :
  Calls Try.prog 122 #[.int .i64 a0, .int .i64 a1] w fun e w' => ∃ v0_ : Value, e = .returned (v0_) ∧ Kd.R Kd.string 9 w' w.heap.size (fun _ => True) v0_ r ∧ Below w.heap.size w w' := by
 have HB := zaa.mk (Below.refl w.heap.size w)
 have H : (spec_l91Empty.l0 k a0 a1 (([] : List ByteArray)) 0) = some r := h
 clear h
 obtain ⟨y682, hy682⟩ : ∃ y_ : List ByteArray, y_ = (([] : List ByteArray)) := ⟨_, rfl⟩
 replace H : (spec_l91Empty.l0 k a0 a1 y682 0) = some r := by first | (rw [hy682]; with_reducible exact H) | (have H2_ := (Option.bind_some _ _).symm.trans H; rw [hy682]; with_reducible exact H2_) | (have H2_ := (Option.bind_some _ _).symm.trans H; with_reducible exact H2_) | with_reducible exact H | (rw [hy682]; exact H) | exact H
 have Ny682 := zaa.mk hy682
 clear hy682
 have H' := zaa.mk H
 clear H
 go_enter Try.func122, Try.ntmps122
 go_wp2_with (first | ((with_reducible refine zbc (N := 9) rfl ?_); refine Kd.R_lit Kd.string _ 9 ?hg (N := 9) ?hd (xs := ([] : List ByteArray)) (inner := []) (ok := fun _ => True) (okp := fun _ => True) ?hr ?hp (fun _ hk => hk) trivial (Below.refl _ _) (Nat.le_refl _) (by simp) ?_; (case hd => rfl); (case hg => rfl); (case hr => first | (go_simp; done) | (go_simp; rfl)); (case hp => exact (Reps.none _ _)); intro v683 w3 ho4 hb hg_ hnew_; clear hg_ hnew_; (first | rw [← Ny682.out] at ho4 | (simp only [Int.reduceToNat] at ho4; rw [← Ny682.out] at ho4)); have n0_ := zaa.mk (Kd.R_lower ho4 (zap (by repeat (first | (with_reducible first | exact HB.out | apply zac | apply zab | apply zad) | exact HB.out)))); have n1_ := zaa.mk (zaj (by repeat (first | (with_reducible first | exact HB.out | apply zac | apply zab | apply zad) | exact HB.out)) hb); clear HB; have HO684 := n0_; have HB := n1_; clear n0_ n1_; clear hb ho4))
 go_loopg [5, 6] k (fun kq v5 v6 w' => ∃ (x5_1 : List ByteArray) (x6_1 : Int), v6 = .int .i64 x6_1 ∧ zaa (spec_l91Empty.l0 kq a0 a1 x5_1 x6_1 = some r) ∧ zaa (kq ≤ k) ∧ zaa (Kd.R Kd.string 9 w' w.heap.size (fun _ => True) v5 x5_1) ∧ zaa (Below w.heap.size w w'))
 case atStart => exact ⟨(y682), (0), (by first | rfl | (simp; done) | (simp [*]; done)), H', ⟨Nat.le_refl _⟩, ⟨by (with_reducible repeat (first | apply Kd.R_alloc | apply Kd.R_drewN | apply Kd.R_drew)); exact HO684.out⟩, ⟨by repeat (first | (with_reducible first | exact HB.out | apply zac | apply zab | apply zad) | exact HB.out)⟩⟩
 case round =>
  clear H'
  try clear c1
  try clear p2
  obtain ⟨x5_1, x6_1, rfl, HA, HK1, HO_5, HB⟩ := hrel
  cases gk with
  | zero => exact absurd HA.out (by simp [spec_l91Empty.l0])
  | succ k1 =>
   have H := HA.out
   clear HA
   simp only [spec_l91Empty.l0] at H
   by_cases c5 : x6_1 < a0
   ·rw [if_pos c5] at H
    have c5b0 : decide (x6_1 < a0) = true := decide_eq_true c5
    clear c5
    obtain ⟨y685, hy685⟩ : ∃ y_ : List Int, y_ = (([] : List Int)) := ⟨_, rfl⟩
    replace H : (spec_l91Empty.l1 k1 a0 a1 x5_1 x6_1 y685 0) = some r := by first | (rw [hy685]; with_reducible exact H) | (have H2_ := (Option.bind_some _ _).symm.trans H; rw [hy685]; with_reducible exact H2_) | (have H2_ := (Option.bind_some _ _).symm.trans H; with_reducible exact H2_) | with_reducible exact H | (rw [hy685]; exact H) | exact H
    have Ny685 := zaa.mk hy685
    clear hy685
    have H' := zaa.mk H
    clear H
    go_wp2_with (first | ((with_reducible refine zbc (N := 15) rfl ?_); refine Kd.R_lit (Kd.int .u8) _ 5 ?hg (N := 15) ?hd (xs := ([] : List Int)) (inner := []) (ok := fun _ => True) (okp := fun _ => True) ?hr ?hp (fun _ hk => hk) trivial (Below.refl _ _) (Nat.le_refl _) (by simp) ?_; (case hd => rfl); (case hg => rfl); (case hr => first | (go_simp; done) | (go_simp; rfl)); (case hp => exact (Reps.none _ _)); intro v686 w6 ho7 hb hg_ hnew_; clear hg_ hnew_; (first | rw [← Ny685.out] at ho7 | (simp only [Int.reduceToNat] at ho7; rw [← Ny685.out] at ho7)); have n0_ := zaa.mk (Kd.R_below (by (with_reducible repeat (first | apply Kd.R_alloc | apply Kd.R_drewN | apply Kd.R_drew)); exact HO_5.out) hb); have n1_ := zaa.mk (Kd.R_lower ho7 (zap (by repeat (first | (with_reducible first | exact HB.out | apply zac | apply zab | apply zad) | exact HB.out)))); have n2_ := zaa.mk (zaj (by repeat (first | (with_reducible first | exact HB.out | apply zac | apply zab | apply zad) | exact HB.out)) hb); clear HO_5; clear HB; have HO_5 := n0_; have HO687 := n1_; have HB := n2_; clear n0_ n1_ n2_; clear hb ho7))
    go_loopg [7, 8] k1 (fun kq v7 v8 w' => ∃ (x7_2 : List Int) (x8_2 : Int), v8 = .int .i64 x8_2 ∧ zaa (spec_l91Empty.l1 kq a0 a1 x5_1 x6_1 x7_2 x8_2 = some r) ∧ zaa (kq ≤ k1) ∧ zaa (Kd.R Kd.string 9 w' w.heap.size (fun _ => True) u5 x5_1) ∧ zaa (Kd.R (Kd.int .u8) 5 w' w.heap.size (fun _ => True) v7 x7_2) ∧ zaa (Below w.heap.size w w'))
    case atStart => exact ⟨(y685), (0), (by first | rfl | (simp; done) | (simp [*]; done)), H', ⟨Nat.le_refl _⟩, ⟨by (with_reducible repeat (first | apply Kd.R_alloc | apply Kd.R_drewN | apply Kd.R_drew)); exact HO_5.out⟩, ⟨by (with_reducible repeat (first | apply Kd.R_alloc | apply Kd.R_drewN | apply Kd.R_drew)); exact HO687.out⟩, ⟨by repeat (first | (with_reducible first | exact HB.out | apply zac | apply zab | apply zad) | exact HB.out)⟩⟩
    case round =>
     clear H'
     try clear c1
     try clear p2
     try clear c5
     try clear c5b0
     try clear p2
     obtain ⟨x7_2, x8_2, rfl, HA, HK2, HO_5, HO_7, HB⟩ := hrel
     cases gk with
     | zero => exact absurd HA.out (by simp [spec_l91Empty.l1])
     | succ k2 =>
      have H := HA.out
      clear HA
      simp only [spec_l91Empty.l1] at H
      by_cases c8 : x8_2 < a1
      ·rw [if_pos c8] at H
       have c8b0 : decide (x8_2 < a1) = true := decide_eq_true c8
       clear c8
       by_cases c9 : x7_2.length < 140737488355328
       ·rw [if_pos c9] at H
        have LMc9 := zaa.mk c9
        clear c9
        obtain ⟨y688, hy688⟩ : ∃ y_ : List Int, y_ = (x7_2 ++ [97]) := ⟨_, rfl⟩
        replace H : (spec_l91Empty.l1 k2 a0 a1 x5_1 x6_1 y688 (wrap64 (x8_2 + 1))) = some r := by first | (rw [hy688]; with_reducible exact H) | (have H2_ := (Option.bind_some _ _).symm.trans H; rw [hy688]; with_reducible exact H2_) | (have H2_ := (Option.bind_some _ _).symm.trans H; with_reducible exact H2_) | with_reducible exact H | (rw [hy688]; exact H) | exact H
        have Ny688 := zaa.mk hy688
        clear hy688
        have H' := zaa.mk H
        clear H
        go_wp2_with (first | ((with_reducible refine zaz (b := .append) (xs := #[.tmp 21, .tmp 22]) rfl ?_); at_builtin; refine Kd.R_append (Kd.int .u8) (w0 := w) w.heap.size rfl (.tmp 21) (.tmp 22) 45 5 (.int .u8 0) 1 rfl Try.underlying45 info5 rfl (by decide) (by omega) u7 x7_2 97 [.int .u8 97] (fun _ => True) (fun _ => False) rfl rfl ?aP (fun _ hk => hk.elim) ?aF ?aO ?aB ?aS ?aL ?_; (case aP => exact rfl); (case aB => exact (by repeat (first | (with_reducible first | exact HB.out | apply zac | apply zab | apply zad) | exact HB.out))); (case aF => exact (fun _ _ => trivial)); (case aO => exact (by (with_reducible repeat (first | apply Kd.R_alloc | apply Kd.R_drewN | apply Kd.R_drew)); exact HO_7.out)); (case aS => exact (zap (by repeat (first | (with_reducible first | exact HB.out | apply zac | apply zab | apply zad) | exact HB.out)))); (case aL => have := LMc9.out; omega); intro v689 w10 ho hb hg hat; rw [← Ny688.out] at ho; have n0_ := zaa.mk (Kd.R_over' (by (with_reducible repeat (first | apply Kd.R_alloc | apply Kd.R_drewN | apply Kd.R_drew)); exact HO_5.out) (Kd.R_typed (by (with_reducible repeat (first | apply Kd.R_alloc | apply Kd.R_drewN | apply Kd.R_drew)); exact HO_7.out)) (by decide) hg); have n1_ := zaa.mk (hb); have n2_ := zaa.mk (ho); clear HO_5; clear HB; clear HO_7; have HO_5 := n0_; have HB := n1_; have HO690 := n2_; clear n0_ n1_ n2_; clear ho hb hg hat))
        go_roundg k2
        case measure => have := HK1.out; have := HK2.out; omega
        case rel => exact ⟨(y688), (wrap64 (x8_2 + 1)), (by first | rfl | (simp; done) | (simp [*]; done)), H', ⟨by have := HK1.out; have := HK2.out; omega⟩, ⟨by (with_reducible repeat (first | apply Kd.R_alloc | apply Kd.R_drewN | apply Kd.R_drew)); exact HO_5.out⟩, ⟨by (with_reducible repeat (first | apply Kd.R_alloc | apply Kd.R_drewN | apply Kd.R_drew)); exact HO690.out⟩, ⟨by repeat (first | (with_reducible first | exact HB.out | apply zac | apply zab | apply zad) | exact HB.out)⟩⟩
       ·rw [if_neg c9] at H
        exact absurd H (by simp)
      ·rw [if_neg c8] at H
       have c8b0 : decide (x8_2 < a1) = false := decide_eq_false c8
       clear c8
       by_cases c11 : x5_1.length < 8796093022208
       ·rw [if_pos c11] at H
        have LMc11 := zaa.mk c11
        clear c11
        obtain ⟨y691, hy691⟩ : ∃ y_ : List ByteArray, y_ = (x5_1 ++ [strOfNums x7_2]) := ⟨_, rfl⟩
        replace H : (spec_l91Empty.l0 k2 a0 a1 y691 (wrap64 (x6_1 + 1))) = some r := by first | (rw [hy691]; with_reducible exact H) | (have H2_ := (Option.bind_some _ _).symm.trans H; rw [hy691]; with_reducible exact H2_) | (have H2_ := (Option.bind_some _ _).symm.trans H; with_reducible exact H2_) | with_reducible exact H | (rw [hy691]; exact H) | exact H
        have Ny691 := zaa.mk hy691
        clear hy691
        have H' := zaa.mk H
        clear H
        have hcv12 := own_string (P := Try.prog) Try.underlying45 Try.underlying5 Try.underlying9 (Kd.own_of_R HO_7.out)
        go_wp2_with (first | ((with_reducible refine zaz (b := .append) (xs := #[.tmp 24, .tmp 27]) rfl ?_); at_builtin; refine Kd.R_append Kd.string (w0 := w) w.heap.size rfl (.tmp 24) (.tmp 27) 22 9 (.string ⟨#[]⟩) 16 rfl Try.underlying22 info9 rfl (by decide) (by omega) u5 x5_1 (strOfNums x7_2) [.string (strOfNums x7_2)] (fun _ => True) (fun _ => False) rfl rfl ?aP (fun _ hk => hk.elim) ?aF ?aO ?aB ?aS ?aL ?_; (case aP => exact rfl); (case aB => exact (by repeat (first | (with_reducible first | exact HB.out | apply zac | apply zab | apply zad) | exact HB.out))); (case aF => exact (fun _ _ => trivial)); (case aO => exact (by (with_reducible repeat (first | apply Kd.R_alloc | apply Kd.R_drewN | apply Kd.R_drew)); exact HO_5.out)); (case aS => exact (zap (by repeat (first | (with_reducible first | exact HB.out | apply zac | apply zab | apply zad) | exact HB.out)))); (case aL => have := LMc11.out; omega); intro v692 w13 ho hb hg hat; rw [← Ny691.out] at ho; have n0_ := zaa.mk (Kd.R_over' (by (with_reducible repeat (first | apply Kd.R_alloc | apply Kd.R_drewN | apply Kd.R_drew)); exact HO_7.out) (Kd.R_typed (by (with_reducible repeat (first | apply Kd.R_alloc | apply Kd.R_drewN | apply Kd.R_drew)); exact HO_5.out)) (by decide) hg); have n1_ := zaa.mk (hb); have n2_ := zaa.mk (ho); clear HO_7; clear HB; clear HO_5; have HO_7 := n0_; have HB := n1_; have HO693 := n2_; clear n0_ n1_ n2_; clear ho hb hg hat))
        go_roundg k2
        case measure => have := HK1.out; have := HK2.out; omega
        case rel => exact ⟨(y691), (wrap64 (x6_1 + 1)), (by first | rfl | (simp; done) | (simp [*]; done)), H', ⟨by have := HK1.out; have := HK2.out; omega⟩, ⟨by (with_reducible repeat (first | apply Kd.R_alloc | apply Kd.R_drewN | apply Kd.R_drew)); exact HO693.out⟩, ⟨by repeat (first | (with_reducible first | exact HB.out | apply zac | apply zab | apply zad) | exact HB.out)⟩⟩
       ·rw [if_neg c11] at H
        exact absurd H (by simp)
   ·rw [if_neg c5] at H
    have c5b0 : decide (x6_1 < a0) = false := decide_eq_false c5
    clear c5
    obtain rfl := Option.some.inj H
    go_wp2
    go_ret
    exact ⟨_, by first | rfl | (simp [zan, zam] <;> rfl) | (simp [*, zan, zam] <;> rfl), by (with_reducible repeat (first | apply Kd.R_alloc | apply Kd.R_drewN | apply Kd.R_drew)); exact HO_5.out, by repeat (first | (with_reducible first | exact HB.out | apply zac | apply zab | apply zad) | exact HB.out)⟩
def spec_NearIs.f (k : Nat) (l0 : List ByteArray) (a1 : Int) (a2 : Int) : Option (Bool) := (spec_l1Given.f k l0 a1).bind fun t708 => (if t708 = true then ((spec_l1Given.f k l0 a2).bind fun t709 => (if t709 = true then ((spec_l4Beside.f k l0 a1 a2).bind fun t710 => (some (decide (t710 > 0)))) else (some false))) else (some false))
set_option maxHeartbeats 8000000 in
set_option maxRecDepth 100000 in
theorem spec_NearIs.calls (k : Nat) (A0 : Option Addr) (c0 : Nat) (l0 : List ByteArray) (a1 : Int) (a2 : Int) (r : Bool) (w : World) (hr0 : Kd.C Kd.string w A0 l0.length l0) (hc0 : l0.length ≤ c0) (h : spec_NearIs.f k l0 a1 a2 = some r) :
  Calls Try.prog 47 #[.slice A0 l0.length c0, .int .i64 a1, .int .i64 a2] w fun e w' => e = .returned (.bool r) ∧ Below w.heap.size w w' := by
 have HR0 := zaa.mk hr0
 have HC0 := zaa.mk hc0
 clear hr0 hc0
 have HB := zaa.mk (Below.refl w.heap.size w)
 have H : ((spec_l1Given.f k l0 a1).bind fun t708 => (if t708 = true then ((spec_l1Given.f k l0 a2).bind fun t709 => (if t709 = true then ((spec_l4Beside.f k l0 a1 a2).bind fun t710 => (some (decide (t710 > 0)))) else (some false))) else (some false))) = some r := h
 clear h
 replace H := Option.bind_eq_some_iff.mp H
 obtain ⟨t708, A40, H⟩ := H
 replace H : (if t708 = true then ((spec_l1Given.f k l0 a2).bind fun t709 => (if t709 = true then ((spec_l4Beside.f k l0 a1 a2).bind fun t710 => (some (decide (t710 > 0)))) else (some false))) else (some false)) = some r := H
 have A4 := zaa.mk A40
 clear A40
 by_cases c5 : t708 = true
 ·subst c5
  have H1 : ((spec_l1Given.f k l0 a2).bind fun t709 => (if t709 = true then ((spec_l4Beside.f k l0 a1 a2).bind fun t710 => (some (decide (t710 > 0)))) else (some false))) = some r := by rw [if_pos rfl] at H; exact H
  clear H
  have H := H1
  clear H1
  replace H := Option.bind_eq_some_iff.mp H
  obtain ⟨t709, A60, H⟩ := H
  replace H : (if t709 = true then ((spec_l4Beside.f k l0 a1 a2).bind fun t710 => (some (decide (t710 > 0)))) else (some false)) = some r := H
  have A6 := zaa.mk A60
  clear A60
  by_cases c7 : t709 = true
  ·subst c7
   have H1 : ((spec_l4Beside.f k l0 a1 a2).bind fun t710 => (some (decide (t710 > 0)))) = some r := by rw [if_pos rfl] at H; exact H
   clear H
   have H := H1
   clear H1
   replace H := Option.bind_eq_some_iff.mp H
   obtain ⟨t710, A80, H⟩ := H
   replace H : (some (decide (t710 > 0))) = some r := H
   have A8 := zaa.mk A80
   clear A80
   obtain rfl := Option.some.inj H
   go_enter Try.func47, Try.ntmps47
   go_wp2_with (first | ((with_reducible refine zal (f := 69) rfl ?_); refine zbb (some 9) rfl rfl Try.func69 (by kernel_rfl) rfl #[.slice A0 l0.length c0, .int .i64 a1] rfl (by (try simp only [List.map_toArray, List.map_cons, List.map_nil]); first | done | rfl | (simp only [List.length_drop, List.length_take]; rfl)) ?_; (with_reducible refine (spec_l1Given.calls k _ _ l0 a1 true _ ?side1 ?side2 A4.out).mono ?_); (case side1 => repeat (first | exact HR0.out | (with_reducible refine Kd.C_alloc ?_ _) | (with_reducible refine Kd.C_drewN ?_ _) | (with_reducible refine Kd.C_drew ?_))); (case side2 => exact HC0.out); rintro e w9 ⟨rfl, hb⟩; refine ⟨_, rfl, ?_⟩; have n0_ := zaa.mk (zaj (by repeat (first | (with_reducible first | exact HB.out | apply zac | apply zab | apply zad) | exact HB.out)) hb); clear HB; have HB := n0_; clear n0_; (try clear hb); (try clear hb2); (try clear hk); (try clear hi)) | (go_at_call 69; (with_reducible refine (spec_l1Given.calls k _ _ l0 a2 true _ ?side1 ?side2 A6.out).mono ?_); (case side1 => repeat (first | exact (Kd.C_below HR0.out HB.out) | (with_reducible refine Kd.C_alloc ?_ _) | (with_reducible refine Kd.C_drewN ?_ _) | (with_reducible refine Kd.C_drew ?_))); (case side2 => exact HC0.out); rintro e w10 ⟨rfl, hb⟩; have n0_ := zaa.mk (zaj (by repeat (first | (with_reducible first | exact HB.out | apply zac | apply zab | apply zad) | exact HB.out)) hb); clear HB; have HB := n0_; clear n0_; (try clear hb); (try clear hb2); (try clear hk); (try clear hi)) | (go_at_call 81; (with_reducible refine (spec_l4Beside.calls k _ _ l0 a1 a2 t710 _ ?side1 ?side2 A8.out).mono ?_); (case side1 => repeat (first | exact (Kd.C_below HR0.out HB.out) | (with_reducible refine Kd.C_alloc ?_ _) | (with_reducible refine Kd.C_drewN ?_ _) | (with_reducible refine Kd.C_drew ?_))); (case side2 => exact HC0.out); rintro e w11 ⟨rfl, hb⟩; have n0_ := zaa.mk (zaj (by repeat (first | (with_reducible first | exact HB.out | apply zac | apply zab | apply zad) | exact HB.out)) hb); clear HB; have HB := n0_; clear n0_; (try clear hb); (try clear hb2); (try clear hk); (try clear hi)))
   go_ret
   exact ⟨by first | rfl | (simp [zan, zam] <;> rfl) | (simp [*, zan, zam] <;> rfl), by repeat (first | (with_reducible first | exact HB.out | apply zac | apply zab | apply zad) | exact HB.out)⟩
  ·replace c7 := Bool.eq_false_iff.mpr c7
   subst c7
   have H1 : (some false) = some r := by rw [if_neg (show ¬ (false = true) by decide)] at H; exact H
   clear H
   have H := H1
   clear H1
   obtain rfl := Option.some.inj H
   go_enter Try.func47, Try.ntmps47
   go_wp2_with (first | ((with_reducible refine zal (f := 69) rfl ?_); refine zbb (some 9) rfl rfl Try.func69 (by kernel_rfl) rfl #[.slice A0 l0.length c0, .int .i64 a1] rfl (by (try simp only [List.map_toArray, List.map_cons, List.map_nil]); first | done | rfl | (simp only [List.length_drop, List.length_take]; rfl)) ?_; (with_reducible refine (spec_l1Given.calls k _ _ l0 a1 true _ ?side1 ?side2 A4.out).mono ?_); (case side1 => repeat (first | exact HR0.out | (with_reducible refine Kd.C_alloc ?_ _) | (with_reducible refine Kd.C_drewN ?_ _) | (with_reducible refine Kd.C_drew ?_))); (case side2 => exact HC0.out); rintro e w12 ⟨rfl, hb⟩; refine ⟨_, rfl, ?_⟩; have n0_ := zaa.mk (zaj (by repeat (first | (with_reducible first | exact HB.out | apply zac | apply zab | apply zad) | exact HB.out)) hb); clear HB; have HB := n0_; clear n0_; (try clear hb); (try clear hb2); (try clear hk); (try clear hi)) | (go_at_call 69; (with_reducible refine (spec_l1Given.calls k _ _ l0 a2 false _ ?side1 ?side2 A6.out).mono ?_); (case side1 => repeat (first | exact (Kd.C_below HR0.out HB.out) | (with_reducible refine Kd.C_alloc ?_ _) | (with_reducible refine Kd.C_drewN ?_ _) | (with_reducible refine Kd.C_drew ?_))); (case side2 => exact HC0.out); rintro e w13 ⟨rfl, hb⟩; have n0_ := zaa.mk (zaj (by repeat (first | (with_reducible first | exact HB.out | apply zac | apply zab | apply zad) | exact HB.out)) hb); clear HB; have HB := n0_; clear n0_; (try clear hb); (try clear hb2); (try clear hk); (try clear hi)))
   go_ret
   exact ⟨by first | rfl | (simp [zan, zam] <;> rfl) | (simp [*, zan, zam] <;> rfl), by repeat (first | (with_reducible first | exact HB.out | apply zac | apply zab | apply zad) | exact HB.out)⟩
 ·replace c5 := Bool.eq_false_iff.mpr c5
  subst c5
  have H1 : (some false) = some r := by rw [if_neg (show ¬ (false = true) by decide)] at H; exact H
  clear H
  have H := H1
  clear H1
  obtain rfl := Option.some.inj H
  go_enter Try.func47, Try.ntmps47
  go_wp2_with (first | ((with_reducible refine zal (f := 69) rfl ?_); refine zbb (some 9) rfl rfl Try.func69 (by kernel_rfl) rfl #[.slice A0 l0.length c0, .int .i64 a1] rfl (by (try simp only [List.map_toArray, List.map_cons, List.map_nil]); first | done | rfl | (simp only [List.length_drop, List.length_take]; rfl)) ?_; (with_reducible refine (spec_l1Given.calls k _ _ l0 a1 false _ ?side1 ?side2 A4.out).mono ?_); (case side1 => repeat (first | exact HR0.out | (with_reducible refine Kd.C_alloc ?_ _) | (with_reducible refine Kd.C_drewN ?_ _) | (with_reducible refine Kd.C_drew ?_))); (case side2 => exact HC0.out); rintro e w14 ⟨rfl, hb⟩; refine ⟨_, rfl, ?_⟩; have n0_ := zaa.mk (zaj (by repeat (first | (with_reducible first | exact HB.out | apply zac | apply zab | apply zad) | exact HB.out)) hb); clear HB; have HB := n0_; clear n0_; (try clear hb); (try clear hb2); (try clear hk); (try clear hi)))
  go_ret
  exact ⟨by first | rfl | (simp [zan, zam] <;> rfl) | (simp [*, zan, zam] <;> rfl), by repeat (first | (with_reducible first | exact HB.out | apply zac | apply zab | apply zad) | exact HB.out)⟩
end Go.Proofs.Ytoijjkhdfooapaa.PB
namespace Go.Proofs.Ytoijjkhdfooapaa.PC
open Go.RowKit Go.PW.PrintWords Go.PW.PrintLast Go.PW.PrintMore
attribute [local go_sem] zbw zbu zcj zci zbp zbo zbv zbt   -- for this text's walks alone
def errW : Option Int → Value
 | none => .nilIface
 | some c => .iface 0 (.int .i64 c)
theorem zan : errW none = .nilIface := rfl
theorem zam (c : Int) : errW (some c) = .iface 0 (.int .i64 c) := rfl
end Go.Proofs.Ytoijjkhdfooapaa.PC
namespace Go.Proofs.Ytoijjkhdfooapaa.PC
open Go.RowKit Go.PW.PrintWords Go.PW.PrintLast Go.PW.PrintMore
attribute [local go_sem] zbw zbu zcj zci zbp zbo zbv zbt   -- for this text's walks alone
def impl_rect_both.f (a0_0 : Int) (a0_1 : Int) (a0_2 : Int) (a0_3 : Int) (a1_0 : Int) (a1_1 : Int) (a1_2 : Int) (a1_3 : Int) : Option (Int × Int × Int × Int) := some (mn a0_0 a1_0, mn a0_1 a1_1, wrap64 ((mx (wrap64 (a0_0 + a0_2)) (wrap64 (a1_0 + a1_2))) - (mn a0_0 a1_0)), wrap64 ((mx (wrap64 (a0_1 + a0_3)) (wrap64 (a1_1 + a1_3))) - (mn a0_1 a1_1)))
set_option maxHeartbeats 8000000 in
set_option maxRecDepth 100000 in
theorem impl_rect_both.calls (a0_0 : Int) (a0_1 : Int) (a0_2 : Int) (a0_3 : Int) (a1_0 : Int) (a1_1 : Int) (a1_2 : Int) (a1_3 : Int) (r1 : Int) (r2 : Int) (r3 : Int) (r4 : Int) (w : World) (h : impl_rect_both.f a0_0 a0_1 a0_2 a0_3 a1_0 a1_1 a1_2 a1_3 = some (r1, r2, r3, r4)) :
  Calls Try.prog 116 #[.agg #[.int .i64 a0_0, .int .i64 a0_1, .int .i64 a0_2, .int .i64 a0_3], .agg #[.int .i64 a1_0, .int .i64 a1_1, .int .i64 a1_2, .int .i64 a1_3]] w fun e w' => e = .returned (.agg #[.int .i64 r1, .int .i64 r2, .int .i64 r3, .int .i64 r4]) ∧ Below w.heap.size w w' := by
 have hu87 := Try.underlying87
 have HB := zaa.mk (Below.refl w.heap.size w)
 have H : (some (mn a0_0 a1_0, mn a0_1 a1_1, wrap64 ((mx (wrap64 (a0_0 + a0_2)) (wrap64 (a1_0 + a1_2))) - (mn a0_0 a1_0)), wrap64 ((mx (wrap64 (a0_1 + a0_3)) (wrap64 (a1_1 + a1_3))) - (mn a0_1 a1_1)))) = some (r1, r2, r3, r4) := h
 clear h
 obtain ⟨ji3, hji3⟩ : ∃ j_ : Int, (mn a0_0 a1_0) = j_ := ⟨_, rfl⟩
 replace H : (some (ji3, mn a0_1 a1_1, wrap64 ((mx (wrap64 (a0_0 + a0_2)) (wrap64 (a1_0 + a1_2))) - (ji3)), wrap64 ((mx (wrap64 (a0_1 + a0_3)) (wrap64 (a1_1 + a1_3))) - (mn a0_1 a1_1)))) = some (r1, r2, r3, r4) := by first | (rw [hji3] at H; exact H) | (simp only [hji3] at H ⊢; exact H)
 have hji3_ : (if a1_0 < a0_0 then a1_0 else a0_0) = ji3 := hji3
 obtain ⟨ji4, hji4⟩ : ∃ j_ : Int, (mn a0_1 a1_1) = j_ := ⟨_, rfl⟩
 replace H : (some (ji3, ji4, wrap64 ((mx (wrap64 (a0_0 + a0_2)) (wrap64 (a1_0 + a1_2))) - (ji3)), wrap64 ((mx (wrap64 (a0_1 + a0_3)) (wrap64 (a1_1 + a1_3))) - (ji4)))) = some (r1, r2, r3, r4) := by first | (rw [hji4] at H; exact H) | (simp only [hji4] at H ⊢; exact H)
 have hji4_ : (if a1_1 < a0_1 then a1_1 else a0_1) = ji4 := hji4
 obtain ⟨ji5, hji5⟩ : ∃ j_ : Int, (mx (wrap64 (a0_0 + a0_2)) (wrap64 (a1_0 + a1_2))) = j_ := ⟨_, rfl⟩
 replace H : (some (ji3, ji4, wrap64 ((ji5) - (ji3)), wrap64 ((mx (wrap64 (a0_1 + a0_3)) (wrap64 (a1_1 + a1_3))) - (ji4)))) = some (r1, r2, r3, r4) := by first | (rw [hji5] at H; exact H) | (simp only [hji5] at H ⊢; exact H)
 have hji5_ : (if (wrap64 (a0_0 + a0_2)) < (wrap64 (a1_0 + a1_2)) then (wrap64 (a1_0 + a1_2)) else (wrap64 (a0_0 + a0_2))) = ji5 := hji5
 obtain ⟨ji6, hji6⟩ : ∃ j_ : Int, (mx (wrap64 (a0_1 + a0_3)) (wrap64 (a1_1 + a1_3))) = j_ := ⟨_, rfl⟩
 replace H : (some (ji3, ji4, wrap64 ((ji5) - (ji3)), wrap64 ((ji6) - (ji4)))) = some (r1, r2, r3, r4) := by first | (rw [hji6] at H; exact H) | (simp only [hji6] at H ⊢; exact H)
 have hji6_ : (if (wrap64 (a0_1 + a0_3)) < (wrap64 (a1_1 + a1_3)) then (wrap64 (a1_1 + a1_3)) else (wrap64 (a0_1 + a0_3))) = ji6 := hji6
 simp only [Option.some.injEq, Prod.mk.injEq] at H
 obtain ⟨rfl, rfl, rfl, rfl⟩ := H
 go_enter Try.func116, Try.ntmps116
 go_wp2_with (first | ((with_reducible refine zbc (N := 2) rfl ?_); refine zcf ?hg (N := 2) ?hd (cs := #[.int .i64 a0_0, .int .i64 a0_1, .int .i64 a0_2, .int .i64 a0_3]) (t := 87) ?hr ?_; (case hd => rfl); (case hg => rfl); (case hr => first | (go_simp; done) | (go_simp; rfl)); intro gb101 hg w7 hbox hb; have n0_ := zaa.mk (zaj (by repeat (first | (with_reducible first | exact HB.out | apply zac | apply zab | apply zad) | exact HB.out)) hb); have n1_ := zaa.mk (hbox); have n2_ := zaa.mk ((by rw [hg]; exact (zap (by repeat (first | (with_reducible first | exact HB.out | apply zac | apply zab | apply zad) | exact HB.out))) : w.heap.size ≤ gb101)); have n3_ := zaa.mk ((by rw [hg]; exact (zap (by repeat (first | (with_reducible first | exact HB.out | apply zac | apply zab | apply zad) | exact HB.out))) : w.heap.size ≤ gb101)); clear HB; have HB := n0_; have BK101 := n1_; have GW101 := n2_; have GE101 := n3_; clear n0_ n1_ n2_ n3_; clear hb hbox hg) | ((with_reducible refine zbc (N := 3) rfl ?_); refine zcf ?hg (N := 3) ?hd (cs := #[.int .i64 a1_0, .int .i64 a1_1, .int .i64 a1_2, .int .i64 a1_3]) (t := 87) ?hr ?_; (case hd => rfl); (case hg => rfl); (case hr => first | (go_simp; done) | (go_simp; rfl)); intro gb102 hg w8 hbox hb; have n0_ := zaa.mk (blk_below (g := gb101) (o := .cells #[.int .i64 a0_0, .int .i64 a0_1, .int .i64 a0_2, .int .i64 a0_3] 87 (0, 0)) (by (with_reducible repeat (first | refine zbh ?_ _ | refine zbm ?_ | refine zbi ?_ _)); exact BK101.out) hb); have n1_ := zaa.mk (zaj (by repeat (first | (with_reducible first | exact HB.out | apply zac | apply zab | apply zad | refine zai ?_ GE101.out) | exact HB.out)) hb); have n2_ := zaa.mk (hbox); have n3_ := zaa.mk ((by rw [hg]; exact (zap (by repeat (first | (with_reducible first | exact HB.out | apply zac | apply zab | apply zad | refine zai ?_ GE101.out) | exact HB.out))) : w.heap.size ≤ gb102)); have n4_ := zaa.mk ((by rw [hg]; exact (zap (by repeat (first | (with_reducible first | exact HB.out | apply zac | apply zab | apply zad | refine zai ?_ GE101.out) | exact HB.out))) : w.heap.size ≤ gb102)); have n5_ := zaa.mk ((by rw [hg]; exact Nat.ne_of_lt (blk_lt (g := gb101) (o := .cells #[.int .i64 a0_0, .int .i64 a0_1, .int .i64 a0_2, .int .i64 a0_3] 87 (0, 0)) (by (with_reducible repeat (first | refine zbh ?_ _ | refine zbm ?_ | refine zbi ?_ _)); exact BK101.out)) : gb101 ≠ gb102)); have n6_ := zaa.mk ((by rw [hg]; exact Nat.ne_of_gt (blk_lt (g := gb101) (o := .cells #[.int .i64 a0_0, .int .i64 a0_1, .int .i64 a0_2, .int .i64 a0_3] 87 (0, 0)) (by (with_reducible repeat (first | refine zbh ?_ _ | refine zbm ?_ | refine zbi ?_ _)); exact BK101.out)) : gb102 ≠ gb101)); clear BK101; clear HB; have BK101 := n0_; have HB := n1_; have BK102 := n2_; have GW102 := n3_; have GE102 := n4_; have NB101_102 := n5_; have NB102_101 := n6_; clear n0_ n1_ n2_ n3_ n4_ n5_ n6_; clear hb hbox hg) | ((with_reducible refine zbc (N := 4) rfl ?_); refine zcf ?hg (N := 4) ?hd (cs := #[.int .i64 0, .int .i64 0, .int .i64 0, .int .i64 0]) (t := 87) ?hr ?_; (case hd => rfl); (case hg => rfl); (case hr => first | (go_simp; done) | (go_simp; rfl)); intro gb103 hg w9 hbox hb; have n0_ := zaa.mk (blk_below (g := gb101) (o := .cells #[.int .i64 a0_0, .int .i64 a0_1, .int .i64 a0_2, .int .i64 a0_3] 87 (0, 0)) (by (with_reducible repeat (first | refine zbh ?_ _ | refine zbm ?_ | refine zbi ?_ _)); exact BK101.out) hb); have n1_ := zaa.mk (blk_below (g := gb102) (o := .cells #[.int .i64 a1_0, .int .i64 a1_1, .int .i64 a1_2, .int .i64 a1_3] 87 (0, 0)) (by (with_reducible repeat (first | refine zbh ?_ _ | refine zbm ?_ | refine zbi ?_ _)); exact BK102.out) hb); have n2_ := zaa.mk (zaj (by repeat (first | (with_reducible first | exact HB.out | apply zac | apply zab | apply zad | refine zai ?_ GE101.out | refine zai ?_ GE102.out) | exact HB.out)) hb); have n3_ := zaa.mk (hbox); have n4_ := zaa.mk ((by rw [hg]; exact (zap (by repeat (first | (with_reducible first | exact HB.out | apply zac | apply zab | apply zad | refine zai ?_ GE101.out | refine zai ?_ GE102.out) | exact HB.out))) : w.heap.size ≤ gb103)); have n5_ := zaa.mk ((by rw [hg]; exact (zap (by repeat (first | (with_reducible first | exact HB.out | apply zac | apply zab | apply zad | refine zai ?_ GE101.out | refine zai ?_ GE102.out) | exact HB.out))) : w.heap.size ≤ gb103)); have n6_ := zaa.mk ((by rw [hg]; exact Nat.ne_of_lt (blk_lt (g := gb101) (o := .cells #[.int .i64 a0_0, .int .i64 a0_1, .int .i64 a0_2, .int .i64 a0_3] 87 (0, 0)) (by (with_reducible repeat (first | refine zbh ?_ _ | refine zbm ?_ | refine zbi ?_ _)); exact BK101.out)) : gb101 ≠ gb103)); have n7_ := zaa.mk ((by rw [hg]; exact Nat.ne_of_gt (blk_lt (g := gb101) (o := .cells #[.int .i64 a0_0, .int .i64 a0_1, .int .i64 a0_2, .int .i64 a0_3] 87 (0, 0)) (by (with_reducible repeat (first | refine zbh ?_ _ | refine zbm ?_ | refine zbi ?_ _)); exact BK101.out)) : gb103 ≠ gb101)); have n8_ := zaa.mk ((by rw [hg]; exact Nat.ne_of_lt (blk_lt (g := gb102) (o := .cells #[.int .i64 a1_0, .int .i64 a1_1, .int .i64 a1_2, .int .i64 a1_3] 87 (0, 0)) (by (with_reducible repeat (first | refine zbh ?_ _ | refine zbm ?_ | refine zbi ?_ _)); exact BK102.out)) : gb102 ≠ gb103)); have n9_ := zaa.mk ((by rw [hg]; exact Nat.ne_of_gt (blk_lt (g := gb102) (o := .cells #[.int .i64 a1_0, .int .i64 a1_1, .int .i64 a1_2, .int .i64 a1_3] 87 (0, 0)) (by (with_reducible repeat (first | refine zbh ?_ _ | refine zbm ?_ | refine zbi ?_ _)); exact BK102.out)) : gb103 ≠ gb102)); clear BK101; clear BK102; clear HB; have BK101 := n0_; have BK102 := n1_; have HB := n2_; have BK103 := n3_; have GW103 := n4_; have GE103 := n5_; have NB101_103 := n6_; have NB103_101 := n7_; have NB102_103 := n8_; have NB103_102 := n9_; clear n0_ n1_ n2_ n3_ n4_ n5_ n6_ n7_ n8_ n9_; clear hb hbox hg; have hnb10 := NB101_102.out; have hnc10 := NB102_101.out; have hnb11 := NB101_103.out; have hnc11 := NB103_101.out; have hcz12_0 : w9.cell? ⟨gb101, 0, none⟩ = some (.int .i64 a0_0) := (zat BK101.out 0).trans rfl; have hcz12_1 : w9.cell? ⟨gb101, 1, none⟩ = some (.int .i64 a0_1) := (zat BK101.out 1).trans rfl; have hcz12_2 : w9.cell? ⟨gb101, 2, none⟩ = some (.int .i64 a0_2) := (zat BK101.out 2).trans rfl; have hcz12_3 : w9.cell? ⟨gb101, 3, none⟩ = some (.int .i64 a0_3) := (zat BK101.out 3).trans rfl; have hfz12_0 := zav BK101.out 0; have hfz12_1 := zav BK101.out 1; have hfz12_2 := zav BK101.out 2; have hfz12_3 := zav BK101.out 3; have hnb13 := NB102_103.out; have hnc13 := NB103_102.out; have hcz14_0 : w9.cell? ⟨gb102, 0, none⟩ = some (.int .i64 a1_0) := (zat BK102.out 0).trans rfl; have hcz14_1 : w9.cell? ⟨gb102, 1, none⟩ = some (.int .i64 a1_1) := (zat BK102.out 1).trans rfl; have hcz14_2 : w9.cell? ⟨gb102, 2, none⟩ = some (.int .i64 a1_2) := (zat BK102.out 2).trans rfl; have hcz14_3 : w9.cell? ⟨gb102, 3, none⟩ = some (.int .i64 a1_3) := (zat BK102.out 3).trans rfl; have hfz14_0 := zav BK102.out 0; have hfz14_1 := zav BK102.out 1; have hfz14_2 := zav BK102.out 2; have hfz14_3 := zav BK102.out 3; have hcz15_0 : w9.cell? ⟨gb103, 0, none⟩ = some (.int .i64 0) := (zat BK103.out 0).trans rfl; have hcz15_1 : w9.cell? ⟨gb103, 1, none⟩ = some (.int .i64 0) := (zat BK103.out 1).trans rfl; have hcz15_2 : w9.cell? ⟨gb103, 2, none⟩ = some (.int .i64 0) := (zat BK103.out 2).trans rfl; have hcz15_3 : w9.cell? ⟨gb103, 3, none⟩ = some (.int .i64 0) := (zat BK103.out 3).trans rfl; have hfz15_0 := zav BK103.out 0; have hfz15_1 := zav BK103.out 1; have hfz15_2 := zav BK103.out 2; have hfz15_3 := zav BK103.out 3))
 repeat (go_quiet (first | ((with_reducible refine zbc (N := 2) rfl ?_); refine zcf ?hg (N := 2) ?hd (cs := #[.int .i64 a0_0, .int .i64 a0_1, .int .i64 a0_2, .int .i64 a0_3]) (t := 87) ?hr ?_; (case hd => rfl); (case hg => rfl); (case hr => first | (go_simp; done) | (go_simp; rfl)); intro gb101 hg w7 hbox hb; have n0_ := zaa.mk (zaj (by repeat (first | (with_reducible first | exact HB.out | apply zac | apply zab | apply zad) | exact HB.out)) hb); have n1_ := zaa.mk (hbox); have n2_ := zaa.mk ((by rw [hg]; exact (zap (by repeat (first | (with_reducible first | exact HB.out | apply zac | apply zab | apply zad) | exact HB.out))) : w.heap.size ≤ gb101)); have n3_ := zaa.mk ((by rw [hg]; exact (zap (by repeat (first | (with_reducible first | exact HB.out | apply zac | apply zab | apply zad) | exact HB.out))) : w.heap.size ≤ gb101)); clear HB; have HB := n0_; have BK101 := n1_; have GW101 := n2_; have GE101 := n3_; clear n0_ n1_ n2_ n3_; clear hb hbox hg) | ((with_reducible refine zbc (N := 3) rfl ?_); refine zcf ?hg (N := 3) ?hd (cs := #[.int .i64 a1_0, .int .i64 a1_1, .int .i64 a1_2, .int .i64 a1_3]) (t := 87) ?hr ?_; (case hd => rfl); (case hg => rfl); (case hr => first | (go_simp; done) | (go_simp; rfl)); intro gb102 hg w8 hbox hb; have n0_ := zaa.mk (blk_below (g := gb101) (o := .cells #[.int .i64 a0_0, .int .i64 a0_1, .int .i64 a0_2, .int .i64 a0_3] 87 (0, 0)) (by (with_reducible repeat (first | refine zbh ?_ _ | refine zbm ?_ | refine zbi ?_ _)); exact BK101.out) hb); have n1_ := zaa.mk (zaj (by repeat (first | (with_reducible first | exact HB.out | apply zac | apply zab | apply zad | refine zai ?_ GE101.out) | exact HB.out)) hb); have n2_ := zaa.mk (hbox); have n3_ := zaa.mk ((by rw [hg]; exact (zap (by repeat (first | (with_reducible first | exact HB.out | apply zac | apply zab | apply zad | refine zai ?_ GE101.out) | exact HB.out))) : w.heap.size ≤ gb102)); have n4_ := zaa.mk ((by rw [hg]; exact (zap (by repeat (first | (with_reducible first | exact HB.out | apply zac | apply zab | apply zad | refine zai ?_ GE101.out) | exact HB.out))) : w.heap.size ≤ gb102)); have n5_ := zaa.mk ((by rw [hg]; exact Nat.ne_of_lt (blk_lt (g := gb101) (o := .cells #[.int .i64 a0_0, .int .i64 a0_1, .int .i64 a0_2, .int .i64 a0_3] 87 (0, 0)) (by (with_reducible repeat (first | refine zbh ?_ _ | refine zbm ?_ | refine zbi ?_ _)); exact BK101.out)) : gb101 ≠ gb102)); have n6_ := zaa.mk ((by rw [hg]; exact Nat.ne_of_gt (blk_lt (g := gb101) (o := .cells #[.int .i64 a0_0, .int .i64 a0_1, .int .i64 a0_2, .int .i64 a0_3] 87 (0, 0)) (by (with_reducible repeat (first | refine zbh ?_ _ | refine zbm ?_ | refine zbi ?_ _)); exact BK101.out)) : gb102 ≠ gb101)); clear BK101; clear HB; have BK101 := n0_; have HB := n1_; have BK102 := n2_; have GW102 := n3_; have GE102 := n4_; have NB101_102 := n5_; have NB102_101 := n6_; clear n0_ n1_ n2_ n3_ n4_ n5_ n6_; clear hb hbox hg) | ((with_reducible refine zbc (N := 4) rfl ?_); refine zcf ?hg (N := 4) ?hd (cs := #[.int .i64 0, .int .i64 0, .int .i64 0, .int .i64 0]) (t := 87) ?hr ?_; (case hd => rfl); (case hg => rfl); (case hr => first | (go_simp; done) | (go_simp; rfl)); intro gb103 hg w9 hbox hb; have n0_ := zaa.mk (blk_below (g := gb101) (o := .cells #[.int .i64 a0_0, .int .i64 a0_1, .int .i64 a0_2, .int .i64 a0_3] 87 (0, 0)) (by (with_reducible repeat (first | refine zbh ?_ _ | refine zbm ?_ | refine zbi ?_ _)); exact BK101.out) hb); have n1_ := zaa.mk (blk_below (g := gb102) (o := .cells #[.int .i64 a1_0, .int .i64 a1_1, .int .i64 a1_2, .int .i64 a1_3] 87 (0, 0)) (by (with_reducible repeat (first | refine zbh ?_ _ | refine zbm ?_ | refine zbi ?_ _)); exact BK102.out) hb); have n2_ := zaa.mk (zaj (by repeat (first | (with_reducible first | exact HB.out | apply zac | apply zab | apply zad | refine zai ?_ GE101.out | refine zai ?_ GE102.out) | exact HB.out)) hb); have n3_ := zaa.mk (hbox); have n4_ := zaa.mk ((by rw [hg]; exact (zap (by repeat (first | (with_reducible first | exact HB.out | apply zac | apply zab | apply zad | refine zai ?_ GE101.out | refine zai ?_ GE102.out) | exact HB.out))) : w.heap.size ≤ gb103)); have n5_ := zaa.mk ((by rw [hg]; exact (zap (by repeat (first | (with_reducible first | exact HB.out | apply zac | apply zab | apply zad | refine zai ?_ GE101.out | refine zai ?_ GE102.out) | exact HB.out))) : w.heap.size ≤ gb103)); have n6_ := zaa.mk ((by rw [hg]; exact Nat.ne_of_lt (blk_lt (g := gb101) (o := .cells #[.int .i64 a0_0, .int .i64 a0_1, .int .i64 a0_2, .int .i64 a0_3] 87 (0, 0)) (by (with_reducible repeat (first | refine zbh ?_ _ | refine zbm ?_ | refine zbi ?_ _)); exact BK101.out)) : gb101 ≠ gb103)); have n7_ := zaa.mk ((by rw [hg]; exact Nat.ne_of_gt (blk_lt (g := gb101) (o := .cells #[.int .i64 a0_0, .int .i64 a0_1, .int .i64 a0_2, .int .i64 a0_3] 87 (0, 0)) (by (with_reducible repeat (first | refine zbh ?_ _ | refine zbm ?_ | refine zbi ?_ _)); exact BK101.out)) : gb103 ≠ gb101)); have n8_ := zaa.mk ((by rw [hg]; exact Nat.ne_of_lt (blk_lt (g := gb102) (o := .cells #[.int .i64 a1_0, .int .i64 a1_1, .int .i64 a1_2, .int .i64 a1_3] 87 (0, 0)) (by (with_reducible repeat (first | refine zbh ?_ _ | refine zbm ?_ | refine zbi ?_ _)); exact BK102.out)) : gb102 ≠ gb103)); have n9_ := zaa.mk ((by rw [hg]; exact Nat.ne_of_gt (blk_lt (g := gb102) (o := .cells #[.int .i64 a1_0, .int .i64 a1_1, .int .i64 a1_2, .int .i64 a1_3] 87 (0, 0)) (by (with_reducible repeat (first | refine zbh ?_ _ | refine zbm ?_ | refine zbi ?_ _)); exact BK102.out)) : gb103 ≠ gb102)); clear BK101; clear BK102; clear HB; have BK101 := n0_; have BK102 := n1_; have HB := n2_; have BK103 := n3_; have GW103 := n4_; have GE103 := n5_; have NB101_103 := n6_; have NB103_101 := n7_; have NB102_103 := n8_; have NB103_102 := n9_; clear n0_ n1_ n2_ n3_ n4_ n5_ n6_ n7_ n8_ n9_; clear hb hbox hg; have hnb10 := NB101_102.out; have hnc10 := NB102_101.out; have hnb11 := NB101_103.out; have hnc11 := NB103_101.out; have hcz12_0 : w9.cell? ⟨gb101, 0, none⟩ = some (.int .i64 a0_0) := (zat BK101.out 0).trans rfl; have hcz12_1 : w9.cell? ⟨gb101, 1, none⟩ = some (.int .i64 a0_1) := (zat BK101.out 1).trans rfl; have hcz12_2 : w9.cell? ⟨gb101, 2, none⟩ = some (.int .i64 a0_2) := (zat BK101.out 2).trans rfl; have hcz12_3 : w9.cell? ⟨gb101, 3, none⟩ = some (.int .i64 a0_3) := (zat BK101.out 3).trans rfl; have hfz12_0 := zav BK101.out 0; have hfz12_1 := zav BK101.out 1; have hfz12_2 := zav BK101.out 2; have hfz12_3 := zav BK101.out 3; have hnb13 := NB102_103.out; have hnc13 := NB103_102.out; have hcz14_0 : w9.cell? ⟨gb102, 0, none⟩ = some (.int .i64 a1_0) := (zat BK102.out 0).trans rfl; have hcz14_1 : w9.cell? ⟨gb102, 1, none⟩ = some (.int .i64 a1_1) := (zat BK102.out 1).trans rfl; have hcz14_2 : w9.cell? ⟨gb102, 2, none⟩ = some (.int .i64 a1_2) := (zat BK102.out 2).trans rfl; have hcz14_3 : w9.cell? ⟨gb102, 3, none⟩ = some (.int .i64 a1_3) := (zat BK102.out 3).trans rfl; have hfz14_0 := zav BK102.out 0; have hfz14_1 := zav BK102.out 1; have hfz14_2 := zav BK102.out 2; have hfz14_3 := zav BK102.out 3; have hcz15_0 : w9.cell? ⟨gb103, 0, none⟩ = some (.int .i64 0) := (zat BK103.out 0).trans rfl; have hcz15_1 : w9.cell? ⟨gb103, 1, none⟩ = some (.int .i64 0) := (zat BK103.out 1).trans rfl; have hcz15_2 : w9.cell? ⟨gb103, 2, none⟩ = some (.int .i64 0) := (zat BK103.out 2).trans rfl; have hcz15_3 : w9.cell? ⟨gb103, 3, none⟩ = some (.int .i64 0) := (zat BK103.out 3).trans rfl; have hfz15_0 := zav BK103.out 0; have hfz15_1 := zav BK103.out 1; have hfz15_2 := zav BK103.out 2; have hfz15_3 := zav BK103.out 3)); try go_wp2_with (first | ((with_reducible refine zbc (N := 2) rfl ?_); refine zcf ?hg (N := 2) ?hd (cs := #[.int .i64 a0_0, .int .i64 a0_1, .int .i64 a0_2, .int .i64 a0_3]) (t := 87) ?hr ?_; (case hd => rfl); (case hg => rfl); (case hr => first | (go_simp; done) | (go_simp; rfl)); intro gb101 hg w7 hbox hb; have n0_ := zaa.mk (zaj (by repeat (first | (with_reducible first | exact HB.out | apply zac | apply zab | apply zad) | exact HB.out)) hb); have n1_ := zaa.mk (hbox); have n2_ := zaa.mk ((by rw [hg]; exact (zap (by repeat (first | (with_reducible first | exact HB.out | apply zac | apply zab | apply zad) | exact HB.out))) : w.heap.size ≤ gb101)); have n3_ := zaa.mk ((by rw [hg]; exact (zap (by repeat (first | (with_reducible first | exact HB.out | apply zac | apply zab | apply zad) | exact HB.out))) : w.heap.size ≤ gb101)); clear HB; have HB := n0_; have BK101 := n1_; have GW101 := n2_; have GE101 := n3_; clear n0_ n1_ n2_ n3_; clear hb hbox hg) | ((with_reducible refine zbc (N := 3) rfl ?_); refine zcf ?hg (N := 3) ?hd (cs := #[.int .i64 a1_0, .int .i64 a1_1, .int .i64 a1_2, .int .i64 a1_3]) (t := 87) ?hr ?_; (case hd => rfl); (case hg => rfl); (case hr => first | (go_simp; done) | (go_simp; rfl)); intro gb102 hg w8 hbox hb; have n0_ := zaa.mk (blk_below (g := gb101) (o := .cells #[.int .i64 a0_0, .int .i64 a0_1, .int .i64 a0_2, .int .i64 a0_3] 87 (0, 0)) (by (with_reducible repeat (first | refine zbh ?_ _ | refine zbm ?_ | refine zbi ?_ _)); exact BK101.out) hb); have n1_ := zaa.mk (zaj (by repeat (first | (with_reducible first | exact HB.out | apply zac | apply zab | apply zad | refine zai ?_ GE101.out) | exact HB.out)) hb); have n2_ := zaa.mk (hbox); have n3_ := zaa.mk ((by rw [hg]; exact (zap (by repeat (first | (with_reducible first | exact HB.out | apply zac | apply zab | apply zad | refine zai ?_ GE101.out) | exact HB.out))) : w.heap.size ≤ gb102)); have n4_ := zaa.mk ((by rw [hg]; exact (zap (by repeat (first | (with_reducible first | exact HB.out | apply zac | apply zab | apply zad | refine zai ?_ GE101.out) | exact HB.out))) : w.heap.size ≤ gb102)); have n5_ := zaa.mk ((by rw [hg]; exact Nat.ne_of_lt (blk_lt (g := gb101) (o := .cells #[.int .i64 a0_0, .int .i64 a0_1, .int .i64 a0_2, .int .i64 a0_3] 87 (0, 0)) (by (with_reducible repeat (first | refine zbh ?_ _ | refine zbm ?_ | refine zbi ?_ _)); exact BK101.out)) : gb101 ≠ gb102)); have n6_ := zaa.mk ((by rw [hg]; exact Nat.ne_of_gt (blk_lt (g := gb101) (o := .cells #[.int .i64 a0_0, .int .i64 a0_1, .int .i64 a0_2, .int .i64 a0_3] 87 (0, 0)) (by (with_reducible repeat (first | refine zbh ?_ _ | refine zbm ?_ | refine zbi ?_ _)); exact BK101.out)) : gb102 ≠ gb101)); clear BK101; clear HB; have BK101 := n0_; have HB := n1_; have BK102 := n2_; have GW102 := n3_; have GE102 := n4_; have NB101_102 := n5_; have NB102_101 := n6_; clear n0_ n1_ n2_ n3_ n4_ n5_ n6_; clear hb hbox hg) | ((with_reducible refine zbc (N := 4) rfl ?_); refine zcf ?hg (N := 4) ?hd (cs := #[.int .i64 0, .int .i64 0, .int .i64 0, .int .i64 0]) (t := 87) ?hr ?_; (case hd => rfl); (case hg => rfl); (case hr => first | (go_simp; done) | (go_simp; rfl)); intro gb103 hg w9 hbox hb; have n0_ := zaa.mk (blk_below (g := gb101) (o := .cells #[.int .i64 a0_0, .int .i64 a0_1, .int .i64 a0_2, .int .i64 a0_3] 87 (0, 0)) (by (with_reducible repeat (first | refine zbh ?_ _ | refine zbm ?_ | refine zbi ?_ _)); exact BK101.out) hb); have n1_ := zaa.mk (blk_below (g := gb102) (o := .cells #[.int .i64 a1_0, .int .i64 a1_1, .int .i64 a1_2, .int .i64 a1_3] 87 (0, 0)) (by (with_reducible repeat (first | refine zbh ?_ _ | refine zbm ?_ | refine zbi ?_ _)); exact BK102.out) hb); have n2_ := zaa.mk (zaj (by repeat (first | (with_reducible first | exact HB.out | apply zac | apply zab | apply zad | refine zai ?_ GE101.out | refine zai ?_ GE102.out) | exact HB.out)) hb); have n3_ := zaa.mk (hbox); have n4_ := zaa.mk ((by rw [hg]; exact (zap (by repeat (first | (with_reducible first | exact HB.out | apply zac | apply zab | apply zad | refine zai ?_ GE101.out | refine zai ?_ GE102.out) | exact HB.out))) : w.heap.size ≤ gb103)); have n5_ := zaa.mk ((by rw [hg]; exact (zap (by repeat (first | (with_reducible first | exact HB.out | apply zac | apply zab | apply zad | refine zai ?_ GE101.out | refine zai ?_ GE102.out) | exact HB.out))) : w.heap.size ≤ gb103)); have n6_ := zaa.mk ((by rw [hg]; exact Nat.ne_of_lt (blk_lt (g := gb101) (o := .cells #[.int .i64 a0_0, .int .i64 a0_1, .int .i64 a0_2, .int .i64 a0_3] 87 (0, 0)) (by (with_reducible repeat (first | refine zbh ?_ _ | refine zbm ?_ | refine zbi ?_ _)); exact BK101.out)) : gb101 ≠ gb103)); have n7_ := zaa.mk ((by rw [hg]; exact Nat.ne_of_gt (blk_lt (g := gb101) (o := .cells #[.int .i64 a0_0, .int .i64 a0_1, .int .i64 a0_2, .int .i64 a0_3] 87 (0, 0)) (by (with_reducible repeat (first | refine zbh ?_ _ | refine zbm ?_ | refine zbi ?_ _)); exact BK101.out)) : gb103 ≠ gb101)); have n8_ := zaa.mk ((by rw [hg]; exact Nat.ne_of_lt (blk_lt (g := gb102) (o := .cells #[.int .i64 a1_0, .int .i64 a1_1, .int .i64 a1_2, .int .i64 a1_3] 87 (0, 0)) (by (with_reducible repeat (first | refine zbh ?_ _ | refine zbm ?_ | refine zbi ?_ _)); exact BK102.out)) : gb102 ≠ gb103)); have n9_ := zaa.mk ((by rw [hg]; exact Nat.ne_of_gt (blk_lt (g := gb102) (o := .cells #[.int .i64 a1_0, .int .i64 a1_1, .int .i64 a1_2, .int .i64 a1_3] 87 (0, 0)) (by (with_reducible repeat (first | refine zbh ?_ _ | refine zbm ?_ | refine zbi ?_ _)); exact BK102.out)) : gb103 ≠ gb102)); clear BK101; clear BK102; clear HB; have BK101 := n0_; have BK102 := n1_; have HB := n2_; have BK103 := n3_; have GW103 := n4_; have GE103 := n5_; have NB101_103 := n6_; have NB103_101 := n7_; have NB102_103 := n8_; have NB103_102 := n9_; clear n0_ n1_ n2_ n3_ n4_ n5_ n6_ n7_ n8_ n9_; clear hb hbox hg; have hnb10 := NB101_102.out; have hnc10 := NB102_101.out; have hnb11 := NB101_103.out; have hnc11 := NB103_101.out; have hcz12_0 : w9.cell? ⟨gb101, 0, none⟩ = some (.int .i64 a0_0) := (zat BK101.out 0).trans rfl; have hcz12_1 : w9.cell? ⟨gb101, 1, none⟩ = some (.int .i64 a0_1) := (zat BK101.out 1).trans rfl; have hcz12_2 : w9.cell? ⟨gb101, 2, none⟩ = some (.int .i64 a0_2) := (zat BK101.out 2).trans rfl; have hcz12_3 : w9.cell? ⟨gb101, 3, none⟩ = some (.int .i64 a0_3) := (zat BK101.out 3).trans rfl; have hfz12_0 := zav BK101.out 0; have hfz12_1 := zav BK101.out 1; have hfz12_2 := zav BK101.out 2; have hfz12_3 := zav BK101.out 3; have hnb13 := NB102_103.out; have hnc13 := NB103_102.out; have hcz14_0 : w9.cell? ⟨gb102, 0, none⟩ = some (.int .i64 a1_0) := (zat BK102.out 0).trans rfl; have hcz14_1 : w9.cell? ⟨gb102, 1, none⟩ = some (.int .i64 a1_1) := (zat BK102.out 1).trans rfl; have hcz14_2 : w9.cell? ⟨gb102, 2, none⟩ = some (.int .i64 a1_2) := (zat BK102.out 2).trans rfl; have hcz14_3 : w9.cell? ⟨gb102, 3, none⟩ = some (.int .i64 a1_3) := (zat BK102.out 3).trans rfl; have hfz14_0 := zav BK102.out 0; have hfz14_1 := zav BK102.out 1; have hfz14_2 := zav BK102.out 2; have hfz14_3 := zav BK102.out 3; have hcz15_0 : w9.cell? ⟨gb103, 0, none⟩ = some (.int .i64 0) := (zat BK103.out 0).trans rfl; have hcz15_1 : w9.cell? ⟨gb103, 1, none⟩ = some (.int .i64 0) := (zat BK103.out 1).trans rfl; have hcz15_2 : w9.cell? ⟨gb103, 2, none⟩ = some (.int .i64 0) := (zat BK103.out 2).trans rfl; have hcz15_3 : w9.cell? ⟨gb103, 3, none⟩ = some (.int .i64 0) := (zat BK103.out 3).trans rfl; have hfz15_0 := zav BK103.out 0; have hfz15_1 := zav BK103.out 1; have hfz15_2 := zav BK103.out 2; have hfz15_3 := zav BK103.out 3)))
 refine bodyPost_ret (results_cell_row rfl _ _ gb103 87 #[.int .i64 ji3, .int .i64 ji4, .int .i64 (wrap64 ((ji5) - (ji3))), .int .i64 (wrap64 ((ji6) - (ji4)))] (0, 0) _ rfl (by (with_reducible repeat (first | refine zbh ?_ _ | refine zbm ?_ | refine zbi ?_ _)); refine blk_put (cs := #[.int .i64 ji3, .int .i64 ji4, .int .i64 (wrap64 ((ji5) - (ji3))), .int .i64 0]) ?_ 3 _ rfl; (with_reducible repeat (first | refine zbh ?_ _ | refine zbm ?_ | refine zbi ?_ _)); refine blk_put (cs := #[.int .i64 ji3, .int .i64 ji4, .int .i64 0, .int .i64 0]) ?_ 2 _ rfl; (with_reducible repeat (first | refine zbh ?_ _ | refine zbm ?_ | refine zbi ?_ _)); refine blk_put (cs := #[.int .i64 ji3, .int .i64 0, .int .i64 0, .int .i64 0]) ?_ 1 _ rfl; (with_reducible repeat (first | refine zbh ?_ _ | refine zbm ?_ | refine zbi ?_ _)); refine blk_put (cs := #[.int .i64 0, .int .i64 0, .int .i64 0, .int .i64 0]) ?_ 0 _ rfl; (with_reducible repeat (first | refine zbh ?_ _ | refine zbm ?_ | refine zbi ?_ _)); exact BK103.out) Try.underlying87 rfl (by kernel_rfl)) rfl ?_
 exact ⟨by first | rfl | (simp [zan, zam] <;> rfl) | (simp only [← hji3, ← hji4, ← hji5, ← hji6]; first | rfl | (simp [zan, zam] <;> rfl)) | (simp [*, zan, zam] <;> rfl), by repeat (first | (with_reducible first | exact HB.out | apply zac | apply zab | apply zad | refine zai ?_ GE101.out | refine zai ?_ GE102.out | refine zai ?_ GE103.out) | exact HB.out)⟩
end Go.Proofs.Ytoijjkhdfooapaa.PC
namespace Go.Proofs.Ytoijjkhdfooapaa.Hd
open Go.RowKit Go.PW.PrintWords Go.PW.PrintLast Go.PW.PrintMore
def BRow (W : World) (base : Nat) (g : Nat) (cap : Nat) (e : TypeId) (xs : List Int) : Prop :=
 ∃ (cur : Array Value), base ≤ g ∧ W.heap[g]? = some (.cells cur e (cur.size, cur.size + 1)) ∧ xs.length ≤ cur.size ∧ cur.toList.take xs.length = nums .u8 xs
section
variable {W : World} {base g cap : Nat} {e : TypeId} {xs : List Int}
theorem BRow.cell (h : BRow W base g cap e xs) (i : Nat) (hi : i < xs.length) : W.cell? ⟨g, i, none⟩ = some (.int .u8 (xs.getD i 0)) ∧ W.frozen? ⟨g, i, none⟩ = false := by
 obtain ⟨cur, hb, hg, hl, ht⟩ := h
 have h1 : cur.toList[i]? = some (.int .u8 (xs.getD i 0)) := by
  have h2 : (cur.toList.take xs.length)[i]? = some (.int .u8 (xs.getD i 0)) := by
   rw [ht]; simp [nums, List.getD_eq_getElem?_getD, hi]
  rw [List.getElem?_take] at h2
  simpa [hi] using h2
 constructor
 ·simp only [World.cell?, hg]
  simpa using h1
 ·have : ¬ cur.size ≤ i := by omega
  simp [World.frozen?, hg, this]
theorem BRow.set (h : BRow W base g cap e xs) (i : Nat) (x : Int) : BRow (W.setCell ⟨g, i, none⟩ (.int .u8 x)) base g cap e (xs.set i x) := by
 obtain ⟨cur, hb, hg, hl, ht⟩ := h
 refine ⟨cur.setIfInBounds i (.int .u8 x), hb, ?_, ?_, ?_⟩
 ·simp [World.setCell, Array.getElem?_modify, hg]
 ·simpa using hl
 ·rw [Array.toList_setIfInBounds, List.length_set, List.take_set, ht]
  simp [nums]
theorem BRow.typed (h : BRow W base g cap e xs) : ∃ cur fz, W.heap[g]? = some (.cells cur e fz) := by
 obtain ⟨cur, hb, hg, hl, ht⟩ := h
 exact ⟨cur, _, hg⟩
theorem BRow.base_le (h : BRow W base g cap e xs) : base ≤ g := h.choose_spec.1
theorem BRow.lt (h : BRow W base g cap e xs) : g < W.heap.size := by
 obtain ⟨cur, hb, hg, hl, ht⟩ := h
 exact (Array.getElem?_eq_some_iff.1 hg).1
theorem BRow.move (h : BRow W base g cap e xs) {W1 : World} (hm : W1.heap[g]? = W.heap[g]?) : BRow W1 base g cap e xs := by
 obtain ⟨cur, hb, hg, hl, ht⟩ := h
 exact ⟨cur, hb, hm.trans hg, hl, ht⟩
theorem BRow.lower (h : BRow W base g cap e xs) {base' : Nat} (hb' : base' ≤ base) : BRow W base' g cap e xs := by
 obtain ⟨cur, hb, hg, hl, ht⟩ := h
 exact ⟨cur, Nat.le_trans hb' hb, hg, hl, ht⟩
theorem BRow.reads (h : BRow W base g cap e xs) (hm : xs.length ≤ 9223372036854775807) : (Kd.int .u8).C W (some ⟨g, 0, none⟩) xs.length xs := by
 refine ⟨rfl, hm, fun _ => ⟨_, rfl, fun j p hj => ?_⟩⟩
 have hjl := (List.getElem?_eq_some_iff.1 hj).1
 refine ⟨[.int .u8 p], rfl, rfl, fun i u hu => ?_⟩
 have hi : i = 0 := by
  rcases Nat.eq_zero_or_pos i with h0 | h0
  ·exact h0
  ·rw [List.getElem?_eq_none (by simp; omega)] at hu; cases hu
 subst hi
 have hu' : Value.int .u8 p = u := by simpa using hu
 subst hu'
 have h1 := (h.cell j hjl).1
 rw [List.getD_eq_getElem?_getD, hj] at h1
 show W.cell? ((⟨g, 0, none⟩ : Addr).add (j * 1 + 0)) = _
 rw [Nat.mul_one, Nat.add_zero, zcm]
 exact h1
end
theorem R_typesF {α : Type} {d : Kd α} {e : Nat} {w : World} {base : Nat} {ok : Nat → Prop} {v : Value} {xs : List α} (h : d.R e w base ok v xs) {g t : Nat} {cells : Array Value} {fz : Nat × Nat} (hb : w.heap[g]? = some (.cells cells t fz)) (ht : ∀ q, q ∈ e :: d.E → q ≠ t) : d.R e w base (fun k => ok k ∧ k ≠ g) v xs :=
 Kd.R_mono (Kd.R_bound h) (fun k hk => ⟨hk.1, by
  obtain ⟨_, _, _, q, hq, cells', hc⟩ := hk
  rintro rfl
  rw [hc] at hb
  injection hb with hb
  injection hb with _ hb
  exact ht q hq hb⟩)
theorem R_setF {α : Type} {d : Kd α} {e : Nat} {w : World} {base : Nat} {ok : Nat → Prop} {v : Value} {xs : List α} (h : d.R e w base ok v xs) {g t : Nat} {cells : Array Value} {fz : Nat × Nat} (hb : w.heap[g]? = some (.cells cells t fz)) (ht : ∀ q, q ∈ e :: d.E → q ≠ t) (j : Nat) (u : Value) : d.R e (w.setCell ⟨g, j, none⟩ u) base ok v xs :=
 Kd.R_mono (Kd.R_far (p := ⟨g, j, none⟩) (R_typesF h hb ht) (fun _ hk => hk.2) u) (fun _ hk => hk.1)
section
variable {P : Program} {ops : Array Oper} {rest : List Oper} {o : Oper} {a : Act} {Q : Exit → Act → World → Prop}
theorem conv_event {W : World} (hgd : o.guard = none) {N : Tmp} (_hd : o.dst = some N) {src dst e : TypeId} {x : Operand} {s : ByteArray} {u : TypeDesc} (ho : o.op = .convert src dst x) (hx : a.eval x = .string s)
  (hs : P.underlying src = some u) (hdst : P.underlying dst = some (.slice e)) (he : P.underlying e = some (.int .u8))
  (h : ∀ g cap w1, g = W.heap.size → BRow w1 W.heap.size g cap e (bytesOf s) → Below W.heap.size W w1 → wpList P ops Q rest (a.put o.dst (.slice (some ⟨g, 0, none⟩) s.size cap)) w1) : wpList P ops Q (o :: rest) a W := by
 refine Kd.event_run hgd (w1 := Lib.bytesWorld W e s) ?_ (h W.heap.size (grownCap W s.size 0 e) _ rfl ?_ ?_)
 ·simp only [execOp, ho, hx]
  have := Lib.run_convert_string_bytes (P := P) W src dst e s hs hdst he
  simp [this]
 ·refine ⟨Lib.bytesCells W e s, Nat.le_refl _, Lib.bytesWorld_at_new W e s, ?_, ?_⟩
  ·simp [Lib.bytesCells, bytesOf]
  ·simp [Lib.bytesCells, bytesOf, nums]
 ·refine ⟨?_, ?_, ?_, ?_, fun k hk => Lib.bytesWorld_at_old W e s k hk⟩
  ·simp [Lib.bytesWorld, World.freeze, World.alloc, World.drew, -World.alloc_eq, -World.drew_eq]
  ·simp [Lib.bytesWorld, World.freeze, World.alloc, World.drew, -World.alloc_eq, -World.drew_eq]
  ·simp [Lib.bytesWorld, World.freeze, World.alloc, World.drew, -World.alloc_eq, -World.drew_eq]
  ·rw [Lib.bytesWorld_size]; omega
end
end Go.Proofs.Ytoijjkhdfooapaa.Hd
namespace Go.Proofs.Ytoijjkhdfooapaa.Hd
open Go.RowKit Go.PW.PrintWords Go.PW.PrintLast Go.PW.PrintMore Go.Proofs.Ytoijjkhdfooapaa.PB
def putN (xs : List Int) (l n : Nat) (c : Int) : List Int := xs.mapIdx fun k x => if l ≤ k ∧ k < l + n then c else x
def putS (s : ByteArray) (l n : Nat) (c : Int) : ByteArray := strOfNums (putN (bytesOf s) l n c)
def putR (xs : List ByteArray) (t n l m : Nat) (c : Int) : List ByteArray := xs.mapIdx fun k s => if t ≤ k ∧ k < t + n then putS s l m c else s
theorem putN_length (xs : List Int) (l n : Nat) (c : Int) : (putN xs l n c).length = xs.length := by simp [putN]
theorem putN_zero (xs : List Int) (l : Nat) (c : Int) : putN xs l 0 c = xs := by
 unfold putN
 apply List.ext_getElem
 ·simp
 ·intro i h1 h2
  simp only [List.getElem_mapIdx]
  rw [if_neg (by omega)]
theorem putN_succ (xs : List Int) (l n : Nat) (c : Int) : (putN xs l n c).set (l + n) c = putN xs l (n + 1) c := by
 unfold putN
 apply List.ext_getElem
 ·simp
 ·intro i h1 h2
  rw [List.getElem_set]
  simp only [List.getElem_mapIdx]
  by_cases h : l + n = i
  ·rw [if_pos h, if_pos (by omega)]
  ·rw [if_neg h]
   by_cases h3 : l ≤ i ∧ i < l + n
   ·rw [if_pos h3, if_pos (by omega)]
   ·rw [if_neg h3, if_neg (by omega)]
theorem putR_length (xs : List ByteArray) (t n l m : Nat) (c : Int) : (putR xs t n l m c).length = xs.length := by simp [putR]
theorem putR_zero (xs : List ByteArray) (t l m : Nat) (c : Int) : putR xs t 0 l m c = xs := by
 unfold putR
 apply List.ext_getElem
 ·simp
 ·intro i h1 h2
  simp only [List.getElem_mapIdx]
  rw [if_neg (by omega)]
theorem putR_succ (xs : List ByteArray) (t n l m : Nat) (c : Int) : (putR xs t n l m c).set (t + n) (putS (xs.getD (t + n) ByteArray.empty) l m c) = putR xs t (n + 1) l m c := by
 unfold putR
 apply List.ext_getElem
 ·simp
 ·intro i h1 h2
  rw [List.getElem_set]
  simp only [List.getElem_mapIdx]
  by_cases h : t + n = i
  ·subst h
   rw [if_pos rfl, if_pos (by omega)]
   congr 1
   have h3 : t + n < xs.length := by simpa using h2
   simp [List.getD_eq_getElem?_getD, h3]
  ·rw [if_neg h]
   by_cases h3 : t ≤ i ∧ i < t + n
   ·rw [if_pos h3, if_pos (by omega)]
   ·rw [if_neg h3, if_neg (by omega)]
theorem putR_at (xs : List ByteArray) (t n l m : Nat) (c : Int) : (putR xs t n l m c).getD (t + n) ByteArray.empty = xs.getD (t + n) ByteArray.empty := by
 unfold putR
 simp only [List.getD_eq_getElem?_getD, List.getElem?_mapIdx]
 cases h : xs[t + n]? with
 | none => rfl
 | some x =>
  simp only [Option.map_some, Option.getD_some]
  rw [if_neg (by omega)]
def putOk (l0 : List ByteArray) (t l h m : Int) (c : Int) : Bool :=
 decide (0 ≤ t) && decide (0 ≤ l) && decide (0 ≤ h) && decide (0 ≤ m) && decide (0 ≤ c) && decide (c ≤ 255) && decide (l0.length ≤ 1048576) && decide (t + h ≤ l0.length) && decide (l ≤ 1048576) && decide (m ≤ 1048576) && (l0.all fun s => decide (l + m ≤ s.size) && decide (s.size ≤ 1048576))
def spec_l1Put.f (l0 : List ByteArray) (a1 a2 a3 a4 a5 : Int) : Option (List ByteArray) :=
 if putOk l0 a1 a2 a3 a4 a5 = true then some (putR l0 a1.toNat a3.toNat a2.toNat a4.toNat a5) else none
set_option maxHeartbeats 4000000 in
set_option maxRecDepth 100000 in
theorem l1Put_walk (A0 : Option Addr) (c0 : Nat) (l0 : List ByteArray) (t l h m : Nat) (c : Int) (w : World) (hr0 : Kd.C Kd.string w A0 l0.length l0) (hc0 : l0.length ≤ c0)
  (hc : 0 ≤ c) (hc2 : c ≤ 255) (hlen : l0.length ≤ 1048576) (hth : t + h ≤ l0.length) (hlb : l ≤ 1048576) (hmb : m ≤ 1048576) (hs : ∀ i, i < l0.length → l + m ≤ (l0.getD i ByteArray.empty).size ∧ (l0.getD i ByteArray.empty).size ≤ 1048576) :
  Calls Try.prog 129 #[.slice A0 l0.length c0, .int .i64 t, .int .i64 l, .int .i64 h, .int .i64 m, .int .u8 c] w fun e w' => ∃ v0_ : Value, e = .returned (v0_) ∧ Kd.R Kd.string 9 w' w.heap.size (fun _ => True) v0_ (putR l0 t h l m c) ∧ Below w.heap.size w w' := by
 have HR0 := zaa.mk hr0
 have HC0 := zaa.mk hc0
 have HS := zaa.mk hs
 clear hr0 hc0 hs
 have HB := zaa.mk (Below.refl w.heap.size w)
 have ht0 : (0 : Int) ≤ t := by omega
 have ht1 : (t : Int) ≤ 1048576 := by omega
 have hh0 : (0 : Int) ≤ h := by omega
 have hh1 : (h : Int) ≤ 1048576 := by omega
 have hl0 : (0 : Int) ≤ l := by omega
 have hl1 : (l : Int) ≤ 1048576 := by omega
 have hm0 : (0 : Int) ≤ m := by omega
 have hm1 : (m : Int) ≤ 1048576 := by omega
 go_enter Try.func129, Try.ntmps129
 go_wp2_with (first
  | ((with_reducible refine zbc (N := 17) rfl ?_); refine Kd.R_lit Kd.string _ 9 ?hg (N := 17) ?hd (xs := ([] : List ByteArray)) (inner := []) (ok := fun _ => True) (okp := fun _ => True) ?hr ?hp (fun _ hk => hk) trivial (Below.refl _ _) (Nat.le_refl _) (by simp) ?_; (case hd => rfl); (case hg => rfl); (case hr => first | (go_simp; done) | (go_simp; rfl)); (case hp => exact (Reps.none _ _)); intro v1 w1 ho hb hg_ hnew_; clear hg_ hnew_; have HO1 := zaa.mk (Kd.R_lower ho (zap HB.out)); have n1_ := zaa.mk (zaj HB.out hb); clear HB; have HB := n1_; clear n1_; clear hb ho)
  | ((with_reducible refine zaz (b := .append) (xs := #[.tmp 17, .tmp 18]) rfl ?_); at_builtin; refine Kd.R_append_rows Kd.string (w0 := w) w.heap.size rfl (.tmp 17) (.tmp 18) 22 9 (.string ⟨#[]⟩) 16 rfl Try.underlying22 info9 rfl (by decide) (by omega) v1 [] l0 _ _ _ (fun _ => True) (fun _ => False) rfl rfl ?aO ?aR (fun _ _ h => h) (fun _ h => h.elim) ?aF ?aB ?aS ?aL ?_; (case aR => exact Kd.C_below HR0.out HB.out); (case aB => exact HB.out); (case aF => exact (fun _ _ => trivial)); (case aO => exact HO1.out); (case aS => exact zap HB.out); (case aL => simp; omega); intro v2 w2 ho hb hg hat; have n0_ := zaa.mk hb; have HO2 := zaa.mk ho; clear HB; clear HO1; have HB := n0_; clear n0_; clear ho hb hg hat))
 go_loopg [14] h (fun kq v14 w' => ∃ j : Nat, v14 = .int .i64 ((t : Int) + j) ∧ zaa (j + kq = h) ∧ zaa (Kd.R Kd.string 9 w' w.heap.size (fun _ => True) v2 (putR l0 t j l m c)) ∧ zaa (Below w.heap.size w w'))
 case atStart => exact ⟨0, by simp, ⟨by omega⟩, ⟨by rw [putR_zero]; simpa using HO2.out⟩, ⟨HB.out⟩⟩
 case round =>
  clear HO2 HB
  obtain ⟨j, rfl, HK, HO, HB⟩ := hrel
  by_cases hj : j < h
  ·have hlt : (t : Int) + j < t + h := by omega
   have hj0 : (0 : Int) ≤ (t : Int) + j := by omega
   have hj1 : (t : Int) + j ≤ 1048576 := by omega
   have hjl : t + j < l0.length := by omega
   have HLR := zaa.mk (putR_length l0 t j l m c)
   have hjl2 : (t : Int) + j < ((putR l0 t j l m c).length : Int) := by have := HLR.out; omega
   obtain ⟨g3, c3, e3, b3, l3, cl3, hg3⟩ := Kd.R_form HO.out (by have := HLR.out; omega)
   subst e3
   clear hg3 l3
   have B3 := zaa.mk b3
   obtain ⟨hx3, hf3⟩ := Kd.R_celln (⟨#[]⟩ : ByteArray) HO.out ((t : Int) + j) (by omega) (by omega)
   rw [show (((t : Int) + j).toNat) = t + j by omega, show rdOf (⟨#[]⟩ : ByteArray) (putR l0 t j l m c) ((t : Int) + j) = l0.getD (t + j) ByteArray.empty by unfold rdOf; rw [show (((t : Int) + j).toNat) = t + j by omega]; exact putR_at l0 t j l m c] at hx3
   rw [show (((t : Int) + j).toNat) = t + j by omega] at hf3
   generalize hs : l0.getD (t + j) ByteArray.empty = s at hx3
   have HSJ := zaa.mk hs
   have hss := HS.out (t + j) hjl
   rw [hs] at hss
   clear hs
   go_wp2_with (first
    | ((with_reducible refine zbc (N := 32) rfl ?_); refine conv_event (P := Try.prog) rfl (N := 32) rfl (src := 9) (dst := 45) (e := 5) (s := s) rfl rfl Try.underlying9 Try.underlying45 Try.underlying5 ?_; intro g4 c4 w4 hg4 hrow hb; have HRow := zaa.mk (hrow.lower (zap HB.out)); have n1_ := zaa.mk (zaj HB.out hb); have HO4 := zaa.mk (Kd.R_below HO.out hb); clear HB HO; have HB := n1_; have HO := HO4; clear n1_ HO4; clear hb hrow hg4 hx3 hf3))
   go_loopg [16] m (fun kq v16 w' => ∃ i : Nat, v16 = .int .i64 ((l : Int) + i) ∧ zaa (i + kq = m) ∧ zaa (BRow w' w.heap.size g4 c4 5 (putN (bytesOf s) l i c)) ∧ zaa (Kd.string.R 9 w' w.heap.size (fun x => True) (Value.slice (some { block := g3, off := 0 }) (putR l0 t j l m c).length c3) (putR l0 t j l m c)) ∧ zaa (Below w.heap.size w w'))
   case atStart => exact ⟨0, by simp, ⟨by omega⟩, ⟨by rw [putN_zero]; exact HRow.out⟩, HO, HB⟩
   case round =>
    clear HRow HB HO
    obtain ⟨i, rfl, HK2, HRow, HO, HB⟩ := hrel
    by_cases hi : i < m
    ·have hlt2 : (l : Int) + i < l + m := by omega
     have hi0 : (0 : Int) ≤ (l : Int) + i := by omega
     have hi1 : (l : Int) + i ≤ 2097152 := by omega
     have hsz : (l : Int) + i < s.size := by omega
     have hss1 : (s.size : Int) ≤ 1048576 := by omega
     obtain ⟨hx4, hf4⟩ := HRow.out.cell (l + i) (by rw [putN_length, zbg]; omega)
     have HP := zaa.mk (HRow.out.set (l + i) c)
     go_wp2_with (first | ((with_reducible refine gate_store (t := 5) (p := 44) rfl ?_); refine store_event (t := 5) (p := 44) (v := ?vo) (w1 := (wr.setCell ⟨g4, l + i, none⟩ (.int .u8 c))) ?hg ?ho ?hn ?hr ?_; (case ho => rfl); (case hg => rfl); (case hn => rfl); (case hr => first | (go_simp; done) | (go_simp; rfl)); intro w11 hw; have n0_ := zaa.mk (show BRow w11 w.heap.size g4 c4 5 (putN (bytesOf s) l (i + 1) c) by rw [hw, ← putN_succ]; exact HP.out); have n1_ := zaa.mk (show Kd.string.R 9 w11 w.heap.size (fun x => True) (Value.slice (some { block := g3, off := 0 }) (putR l0 t j l m c).length c3) (putR l0 t j l m c) by rw [hw]; exact R_setF HO.out HRow.out.typed.choose_spec.choose_spec (by decide) _ _); have n2_ := zaa.mk (show Below w.heap.size w w11 by rw [hw]; exact zai HB.out HRow.out.base_le); clear HRow HO HB HP; have HRow := n0_; have HO := n1_; have HB := n2_; clear n0_ n1_ n2_; clear hw))
     go_roundg (m - (i + 1))
     case measure => have := HK2.out; omega
     case rel => exact ⟨i + 1, by first | rfl | (congr 1; omega), ⟨by have := HK2.out; omega⟩, HRow, HO, HB⟩
    ·have hge : ¬ ((l : Int) + i < l + m) := by omega
     obtain rfl : i = m := by have := HK2.out; omega
     have hstr := Kd.C_string (P := Try.prog) (src := 45) (dst := 9) (c := c4) Try.underlying45 Try.underlying5 Try.underlying9 (HRow.out.reads (by rw [putN_length, zbg]; omega))
     rw [putN_length, zbg] at hstr
     obtain ⟨hx3, hf3⟩ := Kd.R_celln (⟨#[]⟩ : ByteArray) HO.out ((t : Int) + j) (by omega) (by omega)
     rw [show (((t : Int) + j).toNat) = t + j by omega] at hx3 hf3
     have HP := zaa.mk (Kd.R_putg HO.out ((t : Int) + j) (putS s l i c))
     go_wp2
     go_roundg (h - (j + 1))
     case measure => have := HK.out; omega
     case rel => exact ⟨j + 1, by first | rfl | (congr 1; omega), ⟨by have := HK.out; omega⟩, ⟨by rw [← putR_succ, HSJ.out]; have z := HP.out.1; rw [show (((t : Int) + j).toNat) = t + j by omega] at z; exact z⟩, ⟨zai HB.out B3.out⟩⟩
  ·have hge : ¬ ((t : Int) + j < t + h) := by omega
   obtain rfl : j = h := by have := HK.out; omega
   go_wp2
   go_ret
   exact ⟨_, rfl, HO.out, HB.out⟩
theorem spec_l1Put.calls (A0 : Option Addr) (c0 : Nat) (l0 : List ByteArray) (a1 a2 a3 a4 a5 : Int) (r : List ByteArray) (w : World) (hr0 : Kd.C Kd.string w A0 l0.length l0) (hc0 : l0.length ≤ c0) (h : spec_l1Put.f l0 a1 a2 a3 a4 a5 = some r) :
  Calls Try.prog 129 #[.slice A0 l0.length c0, .int .i64 a1, .int .i64 a2, .int .i64 a3, .int .i64 a4, .int .u8 a5] w fun e w' => ∃ v0_ : Value, e = .returned (v0_) ∧ Kd.R Kd.string 9 w' w.heap.size (fun _ => True) v0_ r ∧ Below w.heap.size w w' := by
 unfold spec_l1Put.f at h
 by_cases hk : putOk l0 a1 a2 a3 a4 a5 = true
 ·rw [if_pos hk] at h
  obtain rfl := Option.some.inj h
  simp only [putOk, Bool.and_eq_true, decide_eq_true_eq, List.all_eq_true] at hk
  obtain ⟨⟨⟨⟨⟨⟨⟨⟨⟨⟨h1, h2⟩, h3⟩, h4⟩, h5⟩, h6⟩, h7⟩, h8⟩, h9⟩, h10⟩, h11⟩ := hk
  obtain ⟨t, rfl⟩ := Int.eq_ofNat_of_zero_le h1
  obtain ⟨l, rfl⟩ := Int.eq_ofNat_of_zero_le h2
  obtain ⟨hh, rfl⟩ := Int.eq_ofNat_of_zero_le h3
  obtain ⟨m, rfl⟩ := Int.eq_ofNat_of_zero_le h4
  simp only [Int.toNat_natCast]
  refine l1Put_walk A0 c0 l0 t l hh m a5 w hr0 hc0 h5 h6 h7 (by omega) (by omega) (by omega) (fun i hi => ?_)
  have := h11 _ (List.getElem_mem hi)
  rw [List.getD_eq_getElem?_getD, List.getElem?_eq_getElem hi]
  simp only [Option.getD_some]
  omega
 ·rw [if_neg hk] at h
  cases h
end Go.Proofs.Ytoijjkhdfooapaa.Hd
namespace Go.Proofs.Ytoijjkhdfooapaa.SM
open Go.Proofs.Ytoijjkhdfooapaa.PB Go.Proofs.Ytoijjkhdfooapaa.Hd
open Go.RowKit Go.PW.PrintWords Go.PW.PrintLast Go.PW.PrintMore
attribute [local go_sem] zbw zbu zcj zci zbp zbo zbv zbt   -- for this text's walks alone
def errW : Option Int → Value
 | none => .nilIface
 | some c => .iface 0 (.int .i64 c)
theorem zan : errW none = .nilIface := rfl
theorem zam (c : Int) : errW (some c) = .iface 0 (.int .i64 c) := rfl
theorem info5 : (Try.prog.info? 5).map (fun i => (i.zero, i.size, i.bytes)) = some (some (.int .u8 0), 1, 1) := by kernel_rfl
theorem info9 : (Try.prog.info? 9).map (fun i => (i.zero, i.size, i.bytes)) = some (some (.string ⟨#[]⟩), 1, 16) := by kernel_rfl
end Go.Proofs.Ytoijjkhdfooapaa.SM
