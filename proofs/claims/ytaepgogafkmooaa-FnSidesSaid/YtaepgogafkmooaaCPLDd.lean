/- Part 4 of the proof of FnSides: what the program's functions and the reference's compute. -/
import Derived.Test.YtaepgogafkmooaaProg
import Derived.Below
import Derived.Deep.Draws
import Derived.Deep.AppendLies
import Derived.Maps.AppendAt
import Derived.OwnWalk
import Derived.Laws.BytesArg
import Derived.Laws.MakeOwn
import Derived.Laws.OwnMore
import Derived.Deep.OwnRows
import Derived.Tactics
import Derived.Lib.ConvBytes
import Derived.Laws.Slices
import Derived.WalkKit
import Derived.KernelRfl
import Derived.RowKit3
import Derived.Deep.LoopGhost
import Derived.Deep.QuietTactic
import Derived.BigQuiet
import Derived.WideLaws
import Derived.Deep.DeepCutAuto
import Derived.Deep.CutBlock
import Derived.Deep.RegionHeld3
import Derived.Laws.Rows
import Derived.Lib.AppendStr
import Derived.ArgAppend
import Derived.Laws.IdiomCopy
import Derived.OrdersHeld
import Derived.Laws.BitsLemmas
import Derived.RowKit
import Derived.Test.YtaepgogafkmooaaCPLDc
set_option linter.unusedSimpArgs false
set_option linter.unusedVariables false
open List renaming map_toArray → ybf, map_cons → ybg, map_nil → ybh, length_take → ybi, length_drop → ybj, getD_eq_getElem?_getD → ybk
open ByteArray renaming empty → ybl
open Option renaming bind_eq_some_iff → ybm, bind_some → ybn
open Nat renaming le_refl → ybo
open Go.PW.PrintWords.Kd renaming R_alloc → ybp, R_drewN → ybq, R_drew → ybr, V_alloc → ybs, V_drewN → ybt, V_drew → ybu, C_alloc → ybv, C_drewN → ybw, C_drew → ybx
namespace Go.Proofs.Ytaepgogafkmooaa.PB
open Go.RowKit Go.PW.PrintWords Go.PW.PrintLast Go.PW.PrintMore
attribute [local go_sem] zcb zbz max_two min_two zbs zbr zca zby   -- for this text's walks alone
def spec_l1Done.j0 : Nat → List ByteArray → Bool → Option (List ByteArray × Bool)
 | 0, _, _ => none
 | k + 1, x0, x12 => if x12 = true then ((spec_l1None.f).bind fun bt182 => (some (bt182.1, bt182.2))) else ((spec_l1Names.f k x0).bind fun t186 => (some (t186, true)))
def spec_l1Done.f (k : Nat) (l0 : List ByteArray) : Option (List ByteArray × Bool) := (spec_l1Grid.f k l0).bind fun t177 => (if t177 = true then ((spec_l1Names.f k l0).bind fun t178 => ((spec_PlanIn.f k t178).bind fun t181 => (spec_l1Done.j0 k l0 (!t181)))) else (spec_l1Done.j0 k l0 true))
set_option maxHeartbeats 8000000 in
set_option maxRecDepth 100000 in
theorem spec_l1Done.calls (k : Nat) (A0 : Option Addr) (c0 : Nat) (l0 : List ByteArray) (r1 : List ByteArray) (r2 : Bool) (w : World) (hr0 : Kd.C Kd.string w A0 l0.length l0) (hc0 : l0.length ≤ c0) (h : spec_l1Done.f k l0 = some (r1, r2)) :
  Calls Try.prog 76 #[.slice A0 l0.length c0] w fun e w' => ∃ v0_ : Value, e = .returned (.tuple #[v0_, .bool r2]) ∧ Kd.R Kd.string 9 w' w.heap.size (fun _ => True) v0_ r1 ∧ Below w.heap.size w w' := by
 have HR0 := zaa.mk hr0
 have HC0 := zaa.mk hc0
 clear hr0 hc0
 have HB := zaa.mk (Below.refl w.heap.size w)
 have H : ((spec_l1Grid.f k l0).bind fun t177 => (if t177 = true then ((spec_l1Names.f k l0).bind fun t178 => ((spec_PlanIn.f k t178).bind fun t181 => (spec_l1Done.j0 k l0 (!t181)))) else (spec_l1Done.j0 k l0 true))) = some (r1, r2) := h
 clear h
 have HC2 := zaa.mk H
 clear H
 go_enter Try.func76, Try.ntmps76
 go_upto_region 1 with (fail)
 go_cut [12] (fun v12 wc => ∃ (kq : Nat) (x12_1 : Bool), v12 = .bool x12_1 ∧ zaa (spec_l1Done.j0 kq l0 x12_1 = some (r1, r2)) ∧ zaa (kq ≤ k) ∧ zaa (Below w.heap.size w wc))
 case first =>
  have H := HC2.out
  clear HC2
  replace H := ybm.mp H
  obtain ⟨t177, A30, H⟩ := H
  replace H : (if t177 = true then ((spec_l1Names.f k l0).bind fun t178 => ((spec_PlanIn.f k t178).bind fun t181 => (spec_l1Done.j0 k l0 (!t181)))) else (spec_l1Done.j0 k l0 true)) = some (r1, r2) := H
  have A3 := zaa.mk A30
  clear A30
  by_cases c4 : t177 = true
  ·subst c4
   have H1 : ((spec_l1Names.f k l0).bind fun t178 => ((spec_PlanIn.f k t178).bind fun t181 => (spec_l1Done.j0 k l0 (!t181)))) = some (r1, r2) := by rw [if_pos rfl] at H; exact H
   clear H
   have H := H1
   clear H1
   replace H := ybm.mp H
   obtain ⟨t178, A50, H⟩ := H
   replace H : ((spec_PlanIn.f k t178).bind fun t181 => (spec_l1Done.j0 k l0 (!t181))) = some (r1, r2) := H
   have A5 := zaa.mk A50
   clear A50
   replace H := ybm.mp H
   obtain ⟨t181, A60, H⟩ := H
   replace H : (spec_l1Done.j0 k l0 (!t181)) = some (r1, r2) := H
   have A6 := zaa.mk A60
   clear A60
   have H' := zaa.mk H
   clear H
   go_wp2_with (first | ((with_reducible refine zaq (f := 121) rfl ?_); refine zbf (some 5) rfl rfl Try.func121 (by kernel_rfl) rfl #[.slice A0 l0.length c0] rfl (by (try simp only [ybf, ybg, ybh]); first | done | rfl | (simp only [ybj, ybi]; rfl)) ?_; (with_reducible refine (spec_l1Grid.calls k _ _ l0 true _ ?side1 ?side2 A3.out).mono ?_); (case side1 => repeat (first | exact (Kd.C_below HR0.out HB.out) | (with_reducible refine ybv ?_ _) | (with_reducible refine ybw ?_ _) | (with_reducible refine ybx ?_))); (case side2 => exact HC0.out); rintro e w' ⟨rfl, ⟨nd, rfl⟩⟩; refine ⟨_, rfl, ?_⟩) | (go_at_call 122; (with_reducible refine (spec_l1Names.calls k _ _ l0 t178 _ ?side1 ?side2 A5.out).mono ?_); (case side1 => repeat (first | exact (Kd.C_below HR0.out (by repeat (first | (with_reducible first | exact HB.out | apply zac | apply zab | apply zad) | exact HB.out))) | (with_reducible refine ybv ?_ _) | (with_reducible refine ybw ?_ _) | (with_reducible refine ybx ?_))); (case side2 => exact HC0.out); rintro e w7 ⟨v179, rfl, ho0, hb⟩; have n0_ := zaa.mk (Kd.R_lower ho0 (zai (by repeat (first | (with_reducible first | exact HB.out | apply zac | apply zab | apply zad) | exact HB.out)))); have n1_ := zaa.mk (zag (by repeat (first | (with_reducible first | exact HB.out | apply zac | apply zab | apply zad) | exact HB.out)) hb); clear HB; have HO180 := n0_; have HB := n1_; clear n0_ n1_; (try clear hb); (try clear hb2); (try clear hk); (try clear hi); (try clear ho0); obtain ⟨Ao8, co8, eo8⟩ := Kd.R_slice HO180.out; subst eo8) | (go_at_call 81; (with_reducible refine (spec_PlanIn.calls k _ _ t178 t181 _ ?side1 ?side2 A6.out).mono ?_); (case side1 => repeat (first | exact (Kd.R_reads' HO180.out).2.2 | (with_reducible refine ybv ?_ _) | (with_reducible refine ybw ?_ _) | (with_reducible refine ybx ?_))); (case side2 => exact (Kd.R_reads' HO180.out).2.1); rintro e w9 ⟨rfl, hb⟩; have n0_ := zaa.mk (Kd.R_below (by (with_reducible repeat (first | apply ybp | apply ybq | apply ybr)); exact HO180.out) hb); have n1_ := zaa.mk (zag (by repeat (first | (with_reducible first | exact HB.out | apply zac | apply zab | apply zad) | exact HB.out)) hb); clear HO180; clear HB; have HO180 := n0_; have HB := n1_; clear n0_ n1_; (try clear hb); (try clear hb2); (try clear hk); (try clear hi)))
   go_meet
   case rel => exact ⟨_, (!t181), (by first | rfl | (simp; done) | (simp [*]; done)), H', ⟨by first | omega | exact ybo _⟩, ⟨by repeat (first | (with_reducible first | exact HB.out | apply zac | apply zab | apply zad) | exact HB.out)⟩⟩
  ·replace c4 := Bool.eq_false_iff.mpr c4
   subst c4
   have H1 : (spec_l1Done.j0 k l0 true) = some (r1, r2) := by rw [if_neg (show ¬ (false = true) by decide)] at H; exact H
   clear H
   have H := H1
   clear H1
   have H' := zaa.mk H
   clear H
   go_wp2_with (first | ((with_reducible refine zaq (f := 121) rfl ?_); refine zbf (some 5) rfl rfl Try.func121 (by kernel_rfl) rfl #[.slice A0 l0.length c0] rfl (by (try simp only [ybf, ybg, ybh]); first | done | rfl | (simp only [ybj, ybi]; rfl)) ?_; (with_reducible refine (spec_l1Grid.calls k _ _ l0 false _ ?side1 ?side2 A3.out).mono ?_); (case side1 => repeat (first | exact (Kd.C_below HR0.out HB.out) | (with_reducible refine ybv ?_ _) | (with_reducible refine ybw ?_ _) | (with_reducible refine ybx ?_))); (case side2 => exact HC0.out); rintro e w' ⟨rfl, ⟨nd, rfl⟩⟩; refine ⟨_, rfl, ?_⟩))
   go_meet
   case rel => exact ⟨_, (true), (by first | rfl | (simp; done) | (simp [*]; done)), H', ⟨by first | omega | exact ybo _⟩, ⟨by repeat (first | (with_reducible first | exact HB.out | apply zac | apply zab | apply zad) | exact HB.out)⟩⟩
 case rest =>
  clear HC2
  try clear c1
  try clear p2
  try clear c4
  try clear c7
  obtain ⟨kq, x12_1, rfl, HA, HJ1, HB⟩ := hcut
  cases kq with
  | zero => exact absurd HA.out (by simp [spec_l1Done.j0])
  | succ kj1 =>
   have H := HA.out
   clear HA
   simp only [spec_l1Done.j0] at H
   by_cases c10 : x12_1 = true
   ·subst c10
    have H1 : ((spec_l1None.f).bind fun bt182 => (some (bt182.1, bt182.2))) = some (r1, r2) := by rw [if_pos rfl] at H; exact H
    clear H
    have H := H1
    clear H1
    replace H := ybm.mp H
    obtain ⟨⟨t182, t183⟩, A110, H⟩ := H
    replace H : (some (t182, t183)) = some (r1, r2) := H
    have A11 := zaa.mk A110
    clear A110
    simp only [Option.some.injEq, Prod.mk.injEq] at H
    obtain ⟨rfl, rfl⟩ := H
    go_wp2_with (first | ((with_reducible refine zaq (f := 74) rfl ?_); refine zbf (some 13) rfl rfl Try.func74 (by kernel_rfl) rfl #[] rfl (by (try simp only [ybf, ybg, ybh]); first | done | rfl | (simp only [ybj, ybi]; rfl)) ?_; (with_reducible refine (spec_l1None.calls  t182 t183 _ A11.out).mono ?_); rintro e w12 ⟨v184, rfl, ho0, hb⟩; refine ⟨_, rfl, ?_⟩; have n0_ := zaa.mk (Kd.R_lower ho0 (zai (by repeat (first | (with_reducible first | exact HB.out | apply zac | apply zab | apply zad) | exact HB.out)))); have n1_ := zaa.mk (zag (by repeat (first | (with_reducible first | exact HB.out | apply zac | apply zab | apply zad) | exact HB.out)) hb); clear HB; have HO185 := n0_; have HB := n1_; clear n0_ n1_; (try clear hb); (try clear hb2); (try clear hk); (try clear hi); (try clear ho0)))
    go_ret2
    exact ⟨_, by first | rfl | (simp [zan, zam] <;> rfl) | (simp [*, zan, zam] <;> rfl), by (with_reducible repeat (first | apply ybp | apply ybq | apply ybr)); exact HO185.out, by repeat (first | (with_reducible first | exact HB.out | apply zac | apply zab | apply zad) | exact HB.out)⟩
   ·replace c10 := Bool.eq_false_iff.mpr c10
    subst c10
    have H1 : ((spec_l1Names.f kj1 l0).bind fun t186 => (some (t186, true))) = some (r1, r2) := by rw [if_neg (show ¬ (false = true) by decide)] at H; exact H
    clear H
    have H := H1
    clear H1
    replace H := ybm.mp H
    obtain ⟨t186, A130, H⟩ := H
    replace H : (some (t186, true)) = some (r1, r2) := H
    have A13 := zaa.mk A130
    clear A130
    simp only [Option.some.injEq, Prod.mk.injEq] at H
    obtain ⟨rfl, rfl⟩ := H
    go_wp2_with (first | ((with_reducible refine zaq (f := 122) rfl ?_); refine zbf (some 17) rfl rfl Try.func122 (by kernel_rfl) rfl #[.slice A0 l0.length c0] rfl (by (try simp only [ybf, ybg, ybh]); first | done | rfl | (simp only [ybj, ybi]; rfl)) ?_; (with_reducible refine (spec_l1Names.calls kj1 _ _ l0 t186 _ ?side1 ?side2 A13.out).mono ?_); (case side1 => repeat (first | exact (Kd.C_below HR0.out HB.out) | (with_reducible refine ybv ?_ _) | (with_reducible refine ybw ?_ _) | (with_reducible refine ybx ?_))); (case side2 => exact HC0.out); rintro e w14 ⟨v187, rfl, ho0, hb⟩; refine ⟨_, rfl, ?_⟩; have n0_ := zaa.mk (Kd.R_lower ho0 (zai (by repeat (first | (with_reducible first | exact HB.out | apply zac | apply zab | apply zad) | exact HB.out)))); have n1_ := zaa.mk (zag (by repeat (first | (with_reducible first | exact HB.out | apply zac | apply zab | apply zad) | exact HB.out)) hb); clear HB; have HO188 := n0_; have HB := n1_; clear n0_ n1_; (try clear hb); (try clear hb2); (try clear hk); (try clear hi); (try clear ho0)))
    go_ret2
    exact ⟨_, by first | rfl | (simp [zan, zam] <;> rfl) | (simp [*, zan, zam] <;> rfl), by (with_reducible repeat (first | apply ybp | apply ybq | apply ybr)); exact HO188.out, by repeat (first | (with_reducible first | exact HB.out | apply zac | apply zab | apply zad) | exact HB.out)⟩
def spec_l6Rd_of.f (k : Nat) (s0_0 : List Int) (s0_1 : Int) (l1 : List ByteArray) : Option (ByteArray × Int) := (spec_l6Rd_pick.f k s0_0 s0_1 (l1.length : Int)).bind fun bt206 => (if 0 ≤ bt206.1 then (if bt206.1 < (l1.length : Int) then (some (rdOf ybl l1 bt206.1, bt206.2)) else (none)) else (none))
set_option maxHeartbeats 8000000 in
set_option maxRecDepth 100000 in
theorem spec_l6Rd_of.calls (k : Nat) (g : Nat) (s0_0 : List Int) (s0_1 : Int) (A1 : Option Addr) (c1 : Nat) (l1 : List ByteArray) (r1 : ByteArray) (r2 : Int) (w0 w : World) (hI : zae w0 w g s0_0 s0_1) (hB : Below w0.heap.size w0 w) (hr1 : Kd.C Kd.string w A1 l1.length l1) (hc1 : l1.length ≤ c1) (hf1 : ∀ ad, A1 = some ad → 0 < l1.length → ad.block ≠ g) (h : spec_l6Rd_of.f k s0_0 s0_1 l1 = some (r1, r2)) :
  Calls Try.prog 148 #[.pointer (some ⟨g, 0, none⟩), .slice A1 l1.length c1] w fun e w' => e = .returned (.string r1) ∧ zae w0 w' g s0_0 r2 ∧ Below w0.heap.size w0 w' ∧ zaf w w' g none := by
 have HR1 := zaa.mk hr1
 have HC1 := zaa.mk hc1
 clear hr1 hc1
 have HI0 := zaa.mk hI
 have HK := zaa.mk (zaf.refl w g none)
 have HL := zaa.mk hB.size
 clear hI
 have HW0 := zaa.mk hB.size
 have HB := zaa.mk hB
 clear hB
 have H : ((spec_l6Rd_pick.f k s0_0 s0_1 (l1.length : Int)).bind fun bt206 => (if 0 ≤ bt206.1 then (if bt206.1 < (l1.length : Int) then (some (rdOf ybl l1 bt206.1, bt206.2)) else (none)) else (none))) = some (r1, r2) := h
 clear h
 replace H := ybm.mp H
 obtain ⟨⟨t206, t207⟩, A30, H⟩ := H
 replace H : (if 0 ≤ t206 then (if t206 < (l1.length : Int) then (some (rdOf ybl l1 t206, t207)) else (none)) else (none)) = some (r1, r2) := H
 have A3 := zaa.mk A30
 clear A30
 by_cases c4 : 0 ≤ t206
 ·rw [if_pos c4] at H
  have c4b0 : decide (0 ≤ t206) = true := decide_eq_true c4
  clear c4
  by_cases c5 : t206 < (l1.length : Int)
  ·rw [if_pos c5] at H
   have c5b0 : decide (t206 < (l1.length : Int)) = true := decide_eq_true c5
   clear c5
   simp only [Option.some.injEq, Prod.mk.injEq] at H
   obtain ⟨rfl, rfl⟩ := H
   go_enter Try.func148, Try.ntmps148
   go_wp2_with (first | ((with_reducible refine zaq (f := 63) rfl ?_); refine zbf (some 9) rfl rfl Try.func63 (by kernel_rfl) rfl #[.pointer (some ⟨g, 0, none⟩), .int .i64 (l1.length : Int)] rfl (by (try simp only [ybf, ybg, ybh]); first | done | rfl | (simp only [ybj, ybi]; rfl)) ?_; (with_reducible refine (spec_l6Rd_pick.calls k g s0_0 s0_1 (l1.length : Int) t206 t207 w0 _ ?side1 ?side2 A3.out).mono ?_); (case side1 => repeat (first | (with_reducible first | exact HI0.out | apply zae.alloc | apply zae.drewN | apply zae.drew | apply zae.set_1) | exact HI0.out)); (case side2 => repeat (first | (with_reducible first | exact HB.out | apply zac | apply zab | apply zad | refine zah ?_ (zae.ge HI0.out)) | exact HB.out)); rintro e w6 ⟨rfl, hi, hb, hk⟩; refine ⟨_, rfl, ?_⟩; have n0_ := zaa.mk (zaf.trans (by repeat (first | (with_reducible first | exact HK.out | apply zaf.set_ | apply zaj | apply zal | apply zak) | exact HK.out)) hk (.inl rfl)); have n1_ := zaa.mk (hb); have n2_ := zaa.mk (hi); clear HK; clear HB; clear HI0; have HK := n0_; have HB := n1_; have HI0 := n2_; clear n0_ n1_ n2_; (try clear hb); (try clear hb2); (try clear hk); (try clear hi); have p208 : 0 ≤ (t206 : Int) := of_decide_eq_true (by assumption); have q208 : t206 < (l1.length : Int) := of_decide_eq_true (by assumption); obtain ⟨ad208, e208, hx208_0⟩ := Kd.at_string HR1.out t206 p208 q208; cases e208; first | (replace hx208_0 := zau HB.out hx208_0) | (replace hx208_0 := keep_cell HK.out hx208_0 (by first | (rw [add_block]; exact hf1 _ rfl (by omega)) | exact hf1 _ rfl (by omega) | exact hf1 ad208 rfl (by omega))); replace p208 := eq_true p208; replace q208 := eq_true q208))
   go_ret
   exact ⟨by first | rfl | (simp [zan, zam] <;> rfl) | (simp [*, zan, zam] <;> rfl), by repeat (first | (with_reducible first | exact HI0.out | apply zae.alloc | apply zae.drewN | apply zae.drew | apply zae.set_1) | exact HI0.out), by repeat (first | (with_reducible first | exact HB.out | apply zac | apply zab | apply zad | refine zah ?_ (zae.ge HI0.out)) | exact HB.out), by repeat (first | (with_reducible first | exact HK.out | apply zaf.set_ | apply zaj | apply zal | apply zak) | exact HK.out)⟩
  ·rw [if_neg c5] at H
   exact absurd H (by simp)
 ·rw [if_neg c4] at H
  exact absurd H (by simp)
mutual
def spec_l91Empty.l0 : Nat → Int → Int → List ByteArray → Int → Option (List ByteArray)
 | 0, _, _, _, _ => none
 | k + 1, x0, x1, x5, x6 => if x6 < x0 then (spec_l91Empty.l1 k x0 x1 x5 x6 (([] : List Int)) 0) else (some x5)
def spec_l91Empty.l1 : Nat → Int → Int → List ByteArray → Int → List Int → Int → Option (List ByteArray)
 | 0, _, _, _, _, _, _ => none
 | k + 1, x0, x1, x5, x6, x7, x8 => if x8 < x1 then (if x7.length < 140737488355328 then (spec_l91Empty.l1 k x0 x1 x5 x6 (x7 ++ [97]) (wrap64 (x8 + 1))) else (none)) else (if x5.length < 8796093022208 then (spec_l91Empty.l0 k x0 x1 (x5 ++ [strOfNums x7]) (wrap64 (x6 + 1))) else (none))
end
def spec_l91Empty.f (k : Nat) (a0 : Int) (a1 : Int) : Option (List ByteArray) := spec_l91Empty.l0 k a0 a1 (([] : List ByteArray)) 0
set_option maxHeartbeats 8000000 in
set_option maxRecDepth 100000 in
theorem spec_l91Empty.calls (k : Nat) (a0 : Int) (a1 : Int) (r : List ByteArray) (w : World) (h : spec_l91Empty.f k a0 a1 = some r) :
  Calls Try.prog 135 #[.int .i64 a0, .int .i64 a1] w fun e w' => ∃ v0_ : Value, e = .returned (v0_) ∧ Kd.R Kd.string 9 w' w.heap.size (fun _ => True) v0_ r ∧ Below w.heap.size w w' := by
 have HB := zaa.mk (Below.refl w.heap.size w)
 have H : (spec_l91Empty.l0 k a0 a1 (([] : List ByteArray)) 0) = some r := h
 clear h
 obtain ⟨y219, hy219⟩ : ∃ y_ : List ByteArray, y_ = (([] : List ByteArray)) := ⟨_, rfl⟩
 replace H : (spec_l91Empty.l0 k a0 a1 y219 0) = some r := by first | (rw [hy219]; with_reducible exact H) | (have H2_ := (ybn _ _).symm.trans H; rw [hy219]; with_reducible exact H2_) | (have H2_ := (ybn _ _).symm.trans H; with_reducible exact H2_) | with_reducible exact H | (rw [hy219]; exact H) | exact H
 have Ny219 := zaa.mk hy219
 clear hy219
 have H' := zaa.mk H
 clear H
 go_enter Try.func135, Try.ntmps135
 go_wp2_with (first | ((with_reducible refine zbc (N := 9) rfl ?_); refine Kd.R_lit Kd.string _ 9 ?hg (N := 9) ?hd (xs := ([] : List ByteArray)) (inner := []) (ok := fun _ => True) (okp := fun _ => True) ?hr ?hp (fun _ hk => hk) trivial (Below.refl _ _) (ybo _) (by simp) ?_; (case hd => rfl); (case hg => rfl); (case hr => first | (go_simp; done) | (go_simp; rfl)); (case hp => exact (Reps.none _ _)); intro v220 w3 ho4 hb hg_ hnew_; clear hg_ hnew_; (first | rw [← Ny219.out] at ho4 | (simp only [Int.reduceToNat] at ho4; rw [← Ny219.out] at ho4)); have n0_ := zaa.mk (Kd.R_lower ho4 (zai (by repeat (first | (with_reducible first | exact HB.out | apply zac | apply zab | apply zad) | exact HB.out)))); have n1_ := zaa.mk (zag (by repeat (first | (with_reducible first | exact HB.out | apply zac | apply zab | apply zad) | exact HB.out)) hb); clear HB; have HO221 := n0_; have HB := n1_; clear n0_ n1_; clear hb ho4))
 go_loopg [5, 6] k (fun kq v5 v6 w' => ∃ (x5_1 : List ByteArray) (x6_1 : Int), v6 = .int .i64 x6_1 ∧ zaa (spec_l91Empty.l0 kq a0 a1 x5_1 x6_1 = some r) ∧ zaa (kq ≤ k) ∧ zaa (Kd.R Kd.string 9 w' w.heap.size (fun _ => True) v5 x5_1) ∧ zaa (Below w.heap.size w w'))
 case atStart => exact ⟨(y219), (0), (by first | rfl | (simp; done) | (simp [*]; done)), H', ⟨ybo _⟩, ⟨by (with_reducible repeat (first | apply ybp | apply ybq | apply ybr)); exact HO221.out⟩, ⟨by repeat (first | (with_reducible first | exact HB.out | apply zac | apply zab | apply zad) | exact HB.out)⟩⟩
 case round =>
  clear H'
  try clear c1
  try clear p2
  obtain ⟨x5_1, x6_1, rfl, HA, HK1, HO_5, HB⟩ := hrel
  cases gk with
  | zero => exact absurd HA.out (by simp [spec_l91Empty.l0])
  | succ k1 =>
   have H := HA.out
   clear HA
   simp only [spec_l91Empty.l0] at H
   by_cases c5 : x6_1 < a0
   ·rw [if_pos c5] at H
    have c5b0 : decide (x6_1 < a0) = true := decide_eq_true c5
    clear c5
    obtain ⟨y222, hy222⟩ : ∃ y_ : List Int, y_ = (([] : List Int)) := ⟨_, rfl⟩
    replace H : (spec_l91Empty.l1 k1 a0 a1 x5_1 x6_1 y222 0) = some r := by first | (rw [hy222]; with_reducible exact H) | (have H2_ := (ybn _ _).symm.trans H; rw [hy222]; with_reducible exact H2_) | (have H2_ := (ybn _ _).symm.trans H; with_reducible exact H2_) | with_reducible exact H | (rw [hy222]; exact H) | exact H
    have Ny222 := zaa.mk hy222
    clear hy222
    have H' := zaa.mk H
    clear H
    go_wp2_with (first | ((with_reducible refine zbc (N := 15) rfl ?_); refine Kd.R_lit (Kd.int .u8) _ 5 ?hg (N := 15) ?hd (xs := ([] : List Int)) (inner := []) (ok := fun _ => True) (okp := fun _ => True) ?hr ?hp (fun _ hk => hk) trivial (Below.refl _ _) (ybo _) (by simp) ?_; (case hd => rfl); (case hg => rfl); (case hr => first | (go_simp; done) | (go_simp; rfl)); (case hp => exact (Reps.none _ _)); intro v223 w6 ho7 hb hg_ hnew_; clear hg_ hnew_; (first | rw [← Ny222.out] at ho7 | (simp only [Int.reduceToNat] at ho7; rw [← Ny222.out] at ho7)); have n0_ := zaa.mk (Kd.R_below (by (with_reducible repeat (first | apply ybp | apply ybq | apply ybr)); exact HO_5.out) hb); have n1_ := zaa.mk (Kd.R_lower ho7 (zai (by repeat (first | (with_reducible first | exact HB.out | apply zac | apply zab | apply zad) | exact HB.out)))); have n2_ := zaa.mk (zag (by repeat (first | (with_reducible first | exact HB.out | apply zac | apply zab | apply zad) | exact HB.out)) hb); clear HO_5; clear HB; have HO_5 := n0_; have HO224 := n1_; have HB := n2_; clear n0_ n1_ n2_; clear hb ho7))
    go_loopg [7, 8] k1 (fun kq v7 v8 w' => ∃ (x7_2 : List Int) (x8_2 : Int), v8 = .int .i64 x8_2 ∧ zaa (spec_l91Empty.l1 kq a0 a1 x5_1 x6_1 x7_2 x8_2 = some r) ∧ zaa (kq ≤ k1) ∧ zaa (Kd.R Kd.string 9 w' w.heap.size (fun _ => True) u5 x5_1) ∧ zaa (Kd.R (Kd.int .u8) 5 w' w.heap.size (fun _ => True) v7 x7_2) ∧ zaa (Below w.heap.size w w'))
    case atStart => exact ⟨(y222), (0), (by first | rfl | (simp; done) | (simp [*]; done)), H', ⟨ybo _⟩, ⟨by (with_reducible repeat (first | apply ybp | apply ybq | apply ybr)); exact HO_5.out⟩, ⟨by (with_reducible repeat (first | apply ybp | apply ybq | apply ybr)); exact HO224.out⟩, ⟨by repeat (first | (with_reducible first | exact HB.out | apply zac | apply zab | apply zad) | exact HB.out)⟩⟩
    case round =>
     clear H'
     try clear c1
     try clear p2
     try clear c5
     try clear c5b0
     try clear p2
     obtain ⟨x7_2, x8_2, rfl, HA, HK2, HO_5, HO_7, HB⟩ := hrel
     cases gk with
     | zero => exact absurd HA.out (by simp [spec_l91Empty.l1])
     | succ k2 =>
      have H := HA.out
      clear HA
      simp only [spec_l91Empty.l1] at H
      by_cases c8 : x8_2 < a1
      ·rw [if_pos c8] at H
       have c8b0 : decide (x8_2 < a1) = true := decide_eq_true c8
       clear c8
       by_cases c9 : x7_2.length < 140737488355328
       ·rw [if_pos c9] at H
        have LMc9 := zaa.mk c9
        clear c9
        obtain ⟨y225, hy225⟩ : ∃ y_ : List Int, y_ = (x7_2 ++ [97]) := ⟨_, rfl⟩
        replace H : (spec_l91Empty.l1 k2 a0 a1 x5_1 x6_1 y225 (wrap64 (x8_2 + 1))) = some r := by first | (rw [hy225]; with_reducible exact H) | (have H2_ := (ybn _ _).symm.trans H; rw [hy225]; with_reducible exact H2_) | (have H2_ := (ybn _ _).symm.trans H; with_reducible exact H2_) | with_reducible exact H | (rw [hy225]; exact H) | exact H
        have Ny225 := zaa.mk hy225
        clear hy225
        have H' := zaa.mk H
        clear H
        go_wp2_with (first | ((with_reducible refine zay (b := .append) (xs := #[.tmp 21, .tmp 22]) rfl ?_); at_builtin; refine Kd.R_append (Kd.int .u8) (w0 := w) w.heap.size rfl (.tmp 21) (.tmp 22) 22 5 (.int .u8 0) 1 rfl Try.underlying22 info5 rfl (by decide) (by omega) u7 x7_2 97 [.int .u8 97] (fun _ => True) (fun _ => False) rfl rfl ?aP (fun _ hk => hk.elim) ?aF ?aO ?aB ?aS ?aL ?_; (case aP => exact rfl); (case aB => exact (by repeat (first | (with_reducible first | exact HB.out | apply zac | apply zab | apply zad) | exact HB.out))); (case aF => exact (fun _ _ => trivial)); (case aO => exact (by (with_reducible repeat (first | apply ybp | apply ybq | apply ybr)); exact HO_7.out)); (case aS => exact (zai (by repeat (first | (with_reducible first | exact HB.out | apply zac | apply zab | apply zad) | exact HB.out)))); (case aL => have := LMc9.out; omega); intro v226 w10 ho hb hg hat; rw [← Ny225.out] at ho; have n0_ := zaa.mk (Kd.R_over' (by (with_reducible repeat (first | apply ybp | apply ybq | apply ybr)); exact HO_5.out) (Kd.R_typed (by (with_reducible repeat (first | apply ybp | apply ybq | apply ybr)); exact HO_7.out)) (by decide) hg); have n1_ := zaa.mk (hb); have n2_ := zaa.mk (ho); clear HO_5; clear HB; clear HO_7; have HO_5 := n0_; have HB := n1_; have HO227 := n2_; clear n0_ n1_ n2_; clear ho hb hg hat))
        go_roundg k2
        case measure => have := HK1.out; have := HK2.out; omega
        case rel => exact ⟨(y225), (wrap64 (x8_2 + 1)), (by first | rfl | (simp; done) | (simp [*]; done)), H', ⟨by have := HK1.out; have := HK2.out; omega⟩, ⟨by (with_reducible repeat (first | apply ybp | apply ybq | apply ybr)); exact HO_5.out⟩, ⟨by (with_reducible repeat (first | apply ybp | apply ybq | apply ybr)); exact HO227.out⟩, ⟨by repeat (first | (with_reducible first | exact HB.out | apply zac | apply zab | apply zad) | exact HB.out)⟩⟩
       ·rw [if_neg c9] at H
        exact absurd H (by simp)
      ·rw [if_neg c8] at H
       have c8b0 : decide (x8_2 < a1) = false := decide_eq_false c8
       clear c8
       by_cases c11 : x5_1.length < 8796093022208
       ·rw [if_pos c11] at H
        have LMc11 := zaa.mk c11
        clear c11
        obtain ⟨y228, hy228⟩ : ∃ y_ : List ByteArray, y_ = (x5_1 ++ [strOfNums x7_2]) := ⟨_, rfl⟩
        replace H : (spec_l91Empty.l0 k2 a0 a1 y228 (wrap64 (x6_1 + 1))) = some r := by first | (rw [hy228]; with_reducible exact H) | (have H2_ := (ybn _ _).symm.trans H; rw [hy228]; with_reducible exact H2_) | (have H2_ := (ybn _ _).symm.trans H; with_reducible exact H2_) | with_reducible exact H | (rw [hy228]; exact H) | exact H
        have Ny228 := zaa.mk hy228
        clear hy228
        have H' := zaa.mk H
        clear H
        have hcv12 := own_string (P := Try.prog) Try.underlying22 Try.underlying5 Try.underlying9 (Kd.own_of_R HO_7.out)
        go_wp2_with (first | ((with_reducible refine zay (b := .append) (xs := #[.tmp 24, .tmp 27]) rfl ?_); at_builtin; refine Kd.R_append Kd.string (w0 := w) w.heap.size rfl (.tmp 24) (.tmp 27) 23 9 (.string ⟨#[]⟩) 16 rfl Try.underlying23 info9 rfl (by decide) (by omega) u5 x5_1 (strOfNums x7_2) [.string (strOfNums x7_2)] (fun _ => True) (fun _ => False) rfl rfl ?aP (fun _ hk => hk.elim) ?aF ?aO ?aB ?aS ?aL ?_; (case aP => exact rfl); (case aB => exact (by repeat (first | (with_reducible first | exact HB.out | apply zac | apply zab | apply zad) | exact HB.out))); (case aF => exact (fun _ _ => trivial)); (case aO => exact (by (with_reducible repeat (first | apply ybp | apply ybq | apply ybr)); exact HO_5.out)); (case aS => exact (zai (by repeat (first | (with_reducible first | exact HB.out | apply zac | apply zab | apply zad) | exact HB.out)))); (case aL => have := LMc11.out; omega); intro v229 w13 ho hb hg hat; rw [← Ny228.out] at ho; have n0_ := zaa.mk (Kd.R_over' (by (with_reducible repeat (first | apply ybp | apply ybq | apply ybr)); exact HO_7.out) (Kd.R_typed (by (with_reducible repeat (first | apply ybp | apply ybq | apply ybr)); exact HO_5.out)) (by decide) hg); have n1_ := zaa.mk (hb); have n2_ := zaa.mk (ho); clear HO_7; clear HB; clear HO_5; have HO_7 := n0_; have HB := n1_; have HO230 := n2_; clear n0_ n1_ n2_; clear ho hb hg hat))
        go_roundg k2
        case measure => have := HK1.out; have := HK2.out; omega
        case rel => exact ⟨(y228), (wrap64 (x6_1 + 1)), (by first | rfl | (simp; done) | (simp [*]; done)), H', ⟨by have := HK1.out; have := HK2.out; omega⟩, ⟨by (with_reducible repeat (first | apply ybp | apply ybq | apply ybr)); exact HO230.out⟩, ⟨by repeat (first | (with_reducible first | exact HB.out | apply zac | apply zab | apply zad) | exact HB.out)⟩⟩
       ·rw [if_neg c11] at H
        exact absurd H (by simp)
   ·rw [if_neg c5] at H
    have c5b0 : decide (x6_1 < a0) = false := decide_eq_false c5
    clear c5
    obtain rfl := Option.some.inj H
    go_wp2
    go_ret
    exact ⟨_, by first | rfl | (simp [zan, zam] <;> rfl) | (simp [*, zan, zam] <;> rfl), by (with_reducible repeat (first | apply ybp | apply ybq | apply ybr)); exact HO_5.out, by repeat (first | (with_reducible first | exact HB.out | apply zac | apply zab | apply zad) | exact HB.out)⟩
end Go.Proofs.Ytaepgogafkmooaa.PB
namespace Go.Proofs.Ytaepgogafkmooaa.PC
open Go.RowKit Go.PW.PrintWords Go.PW.PrintLast Go.PW.PrintMore
attribute [local go_sem] zcb zbz max_two min_two zbs zbr zca zby   -- for this text's walks alone
def errW : Option Int → Value
 | none => .nilIface
 | some c => .iface 0 (.int .i64 c)
theorem zan : errW none = .nilIface := rfl
theorem zam (c : Int) : errW (some c) = .iface 0 (.int .i64 c) := rfl
end Go.Proofs.Ytaepgogafkmooaa.PC
namespace Go.Proofs.Ytaepgogafkmooaa.PC
open Go.RowKit Go.PW.PrintWords Go.PW.PrintLast Go.PW.PrintMore
attribute [local go_sem] zcb zbz max_two min_two zbs zbr zca zby   -- for this text's walks alone
def impl_rect_both.f (a0_0 : Int) (a0_1 : Int) (a0_2 : Int) (a0_3 : Int) (a1_0 : Int) (a1_1 : Int) (a1_2 : Int) (a1_3 : Int) : Option (Int × Int × Int × Int) := some (mn a0_0 a1_0, mn a0_1 a1_1, wrap64 ((mx (wrap64 (a0_0 + a0_2)) (wrap64 (a1_0 + a1_2))) - (mn a0_0 a1_0)), wrap64 ((mx (wrap64 (a0_1 + a0_3)) (wrap64 (a1_1 + a1_3))) - (mn a0_1 a1_1)))
set_option maxHeartbeats 8000000 in
set_option maxRecDepth 100000 in
theorem impl_rect_both.calls (a0_0 : Int) (a0_1 : Int) (a0_2 : Int) (a0_3 : Int) (a1_0 : Int) (a1_1 : Int) (a1_2 : Int) (a1_3 : Int) (r1 : Int) (r2 : Int) (r3 : Int) (r4 : Int) (w : World) (h : impl_rect_both.f a0_0 a0_1 a0_2 a0_3 a1_0 a1_1 a1_2 a1_3 = some (r1, r2, r3, r4)) :
  Calls Try.prog 141 #[.agg #[.int .i64 a0_0, .int .i64 a0_1, .int .i64 a0_2, .int .i64 a0_3], .agg #[.int .i64 a1_0, .int .i64 a1_1, .int .i64 a1_2, .int .i64 a1_3]] w fun e w' => e = .returned (.agg #[.int .i64 r1, .int .i64 r2, .int .i64 r3, .int .i64 r4]) ∧ Below w.heap.size w w' := by
 have hu131 := Try.underlying131
 have HB := zaa.mk (Below.refl w.heap.size w)
 have H : (some (mn a0_0 a1_0, mn a0_1 a1_1, wrap64 ((mx (wrap64 (a0_0 + a0_2)) (wrap64 (a1_0 + a1_2))) - (mn a0_0 a1_0)), wrap64 ((mx (wrap64 (a0_1 + a0_3)) (wrap64 (a1_1 + a1_3))) - (mn a0_1 a1_1)))) = some (r1, r2, r3, r4) := h
 clear h
 obtain ⟨ji3, hji3⟩ : ∃ j_ : Int, (mn a0_0 a1_0) = j_ := ⟨_, rfl⟩
 replace H : (some (ji3, mn a0_1 a1_1, wrap64 ((mx (wrap64 (a0_0 + a0_2)) (wrap64 (a1_0 + a1_2))) - (ji3)), wrap64 ((mx (wrap64 (a0_1 + a0_3)) (wrap64 (a1_1 + a1_3))) - (mn a0_1 a1_1)))) = some (r1, r2, r3, r4) := by first | (rw [hji3] at H; exact H) | (simp only [hji3] at H ⊢; exact H)
 have hji3_ : (if a1_0 < a0_0 then a1_0 else a0_0) = ji3 := hji3
 obtain ⟨ji4, hji4⟩ : ∃ j_ : Int, (mn a0_1 a1_1) = j_ := ⟨_, rfl⟩
 replace H : (some (ji3, ji4, wrap64 ((mx (wrap64 (a0_0 + a0_2)) (wrap64 (a1_0 + a1_2))) - (ji3)), wrap64 ((mx (wrap64 (a0_1 + a0_3)) (wrap64 (a1_1 + a1_3))) - (ji4)))) = some (r1, r2, r3, r4) := by first | (rw [hji4] at H; exact H) | (simp only [hji4] at H ⊢; exact H)
 have hji4_ : (if a1_1 < a0_1 then a1_1 else a0_1) = ji4 := hji4
 obtain ⟨ji5, hji5⟩ : ∃ j_ : Int, (mx (wrap64 (a0_0 + a0_2)) (wrap64 (a1_0 + a1_2))) = j_ := ⟨_, rfl⟩
 replace H : (some (ji3, ji4, wrap64 ((ji5) - (ji3)), wrap64 ((mx (wrap64 (a0_1 + a0_3)) (wrap64 (a1_1 + a1_3))) - (ji4)))) = some (r1, r2, r3, r4) := by first | (rw [hji5] at H; exact H) | (simp only [hji5] at H ⊢; exact H)
 have hji5_ : (if (wrap64 (a0_0 + a0_2)) < (wrap64 (a1_0 + a1_2)) then (wrap64 (a1_0 + a1_2)) else (wrap64 (a0_0 + a0_2))) = ji5 := hji5
 obtain ⟨ji6, hji6⟩ : ∃ j_ : Int, (mx (wrap64 (a0_1 + a0_3)) (wrap64 (a1_1 + a1_3))) = j_ := ⟨_, rfl⟩
 replace H : (some (ji3, ji4, wrap64 ((ji5) - (ji3)), wrap64 ((ji6) - (ji4)))) = some (r1, r2, r3, r4) := by first | (rw [hji6] at H; exact H) | (simp only [hji6] at H ⊢; exact H)
 have hji6_ : (if (wrap64 (a0_1 + a0_3)) < (wrap64 (a1_1 + a1_3)) then (wrap64 (a1_1 + a1_3)) else (wrap64 (a0_1 + a0_3))) = ji6 := hji6
 simp only [Option.some.injEq, Prod.mk.injEq] at H
 obtain ⟨rfl, rfl, rfl, rfl⟩ := H
 go_enter Try.func141, Try.ntmps141
 go_wp2_with (first | ((with_reducible refine zbc (N := 2) rfl ?_); refine zcl ?hg (N := 2) ?hd (cs := #[.int .i64 a0_0, .int .i64 a0_1, .int .i64 a0_2, .int .i64 a0_3]) (t := 131) ?hr ?_; (case hd => rfl); (case hg => rfl); (case hr => first | (go_simp; done) | (go_simp; rfl)); intro gb101 hg w7 hbox hb; have n0_ := zaa.mk (zag (by repeat (first | (with_reducible first | exact HB.out | apply zac | apply zab | apply zad) | exact HB.out)) hb); have n1_ := zaa.mk (hbox); have n2_ := zaa.mk ((by rw [hg]; exact (zai (by repeat (first | (with_reducible first | exact HB.out | apply zac | apply zab | apply zad) | exact HB.out))) : w.heap.size ≤ gb101)); have n3_ := zaa.mk ((by rw [hg]; exact (zai (by repeat (first | (with_reducible first | exact HB.out | apply zac | apply zab | apply zad) | exact HB.out))) : w.heap.size ≤ gb101)); clear HB; have HB := n0_; have BK101 := n1_; have GW101 := n2_; have GE101 := n3_; clear n0_ n1_ n2_ n3_; clear hb hbox hg) | ((with_reducible refine zbc (N := 3) rfl ?_); refine zcl ?hg (N := 3) ?hd (cs := #[.int .i64 a1_0, .int .i64 a1_1, .int .i64 a1_2, .int .i64 a1_3]) (t := 131) ?hr ?_; (case hd => rfl); (case hg => rfl); (case hr => first | (go_simp; done) | (go_simp; rfl)); intro gb102 hg w8 hbox hb; have n0_ := zaa.mk (blk_below (g := gb101) (o := .cells #[.int .i64 a0_0, .int .i64 a0_1, .int .i64 a0_2, .int .i64 a0_3] 131 (0, 0)) (by (with_reducible repeat (first | refine zbk ?_ _ | refine zbp ?_ | refine zbl ?_ _)); exact BK101.out) hb); have n1_ := zaa.mk (zag (by repeat (first | (with_reducible first | exact HB.out | apply zac | apply zab | apply zad | refine zah ?_ GE101.out) | exact HB.out)) hb); have n2_ := zaa.mk (hbox); have n3_ := zaa.mk ((by rw [hg]; exact (zai (by repeat (first | (with_reducible first | exact HB.out | apply zac | apply zab | apply zad | refine zah ?_ GE101.out) | exact HB.out))) : w.heap.size ≤ gb102)); have n4_ := zaa.mk ((by rw [hg]; exact (zai (by repeat (first | (with_reducible first | exact HB.out | apply zac | apply zab | apply zad | refine zah ?_ GE101.out) | exact HB.out))) : w.heap.size ≤ gb102)); have n5_ := zaa.mk ((by rw [hg]; exact Nat.ne_of_lt (blk_lt (g := gb101) (o := .cells #[.int .i64 a0_0, .int .i64 a0_1, .int .i64 a0_2, .int .i64 a0_3] 131 (0, 0)) (by (with_reducible repeat (first | refine zbk ?_ _ | refine zbp ?_ | refine zbl ?_ _)); exact BK101.out)) : gb101 ≠ gb102)); have n6_ := zaa.mk ((by rw [hg]; exact Nat.ne_of_gt (blk_lt (g := gb101) (o := .cells #[.int .i64 a0_0, .int .i64 a0_1, .int .i64 a0_2, .int .i64 a0_3] 131 (0, 0)) (by (with_reducible repeat (first | refine zbk ?_ _ | refine zbp ?_ | refine zbl ?_ _)); exact BK101.out)) : gb102 ≠ gb101)); clear BK101; clear HB; have BK101 := n0_; have HB := n1_; have BK102 := n2_; have GW102 := n3_; have GE102 := n4_; have NB101_102 := n5_; have NB102_101 := n6_; clear n0_ n1_ n2_ n3_ n4_ n5_ n6_; clear hb hbox hg) | ((with_reducible refine zbc (N := 4) rfl ?_); refine zcl ?hg (N := 4) ?hd (cs := #[.int .i64 0, .int .i64 0, .int .i64 0, .int .i64 0]) (t := 131) ?hr ?_; (case hd => rfl); (case hg => rfl); (case hr => first | (go_simp; done) | (go_simp; rfl)); intro gb103 hg w9 hbox hb; have n0_ := zaa.mk (blk_below (g := gb101) (o := .cells #[.int .i64 a0_0, .int .i64 a0_1, .int .i64 a0_2, .int .i64 a0_3] 131 (0, 0)) (by (with_reducible repeat (first | refine zbk ?_ _ | refine zbp ?_ | refine zbl ?_ _)); exact BK101.out) hb); have n1_ := zaa.mk (blk_below (g := gb102) (o := .cells #[.int .i64 a1_0, .int .i64 a1_1, .int .i64 a1_2, .int .i64 a1_3] 131 (0, 0)) (by (with_reducible repeat (first | refine zbk ?_ _ | refine zbp ?_ | refine zbl ?_ _)); exact BK102.out) hb); have n2_ := zaa.mk (zag (by repeat (first | (with_reducible first | exact HB.out | apply zac | apply zab | apply zad | refine zah ?_ GE101.out | refine zah ?_ GE102.out) | exact HB.out)) hb); have n3_ := zaa.mk (hbox); have n4_ := zaa.mk ((by rw [hg]; exact (zai (by repeat (first | (with_reducible first | exact HB.out | apply zac | apply zab | apply zad | refine zah ?_ GE101.out | refine zah ?_ GE102.out) | exact HB.out))) : w.heap.size ≤ gb103)); have n5_ := zaa.mk ((by rw [hg]; exact (zai (by repeat (first | (with_reducible first | exact HB.out | apply zac | apply zab | apply zad | refine zah ?_ GE101.out | refine zah ?_ GE102.out) | exact HB.out))) : w.heap.size ≤ gb103)); have n6_ := zaa.mk ((by rw [hg]; exact Nat.ne_of_lt (blk_lt (g := gb101) (o := .cells #[.int .i64 a0_0, .int .i64 a0_1, .int .i64 a0_2, .int .i64 a0_3] 131 (0, 0)) (by (with_reducible repeat (first | refine zbk ?_ _ | refine zbp ?_ | refine zbl ?_ _)); exact BK101.out)) : gb101 ≠ gb103)); have n7_ := zaa.mk ((by rw [hg]; exact Nat.ne_of_gt (blk_lt (g := gb101) (o := .cells #[.int .i64 a0_0, .int .i64 a0_1, .int .i64 a0_2, .int .i64 a0_3] 131 (0, 0)) (by (with_reducible repeat (first | refine zbk ?_ _ | refine zbp ?_ | refine zbl ?_ _)); exact BK101.out)) : gb103 ≠ gb101)); have n8_ := zaa.mk ((by rw [hg]; exact Nat.ne_of_lt (blk_lt (g := gb102) (o := .cells #[.int .i64 a1_0, .int .i64 a1_1, .int .i64 a1_2, .int .i64 a1_3] 131 (0, 0)) (by (with_reducible repeat (first | refine zbk ?_ _ | refine zbp ?_ | refine zbl ?_ _)); exact BK102.out)) : gb102 ≠ gb103)); have n9_ := zaa.mk ((by rw [hg]; exact Nat.ne_of_gt (blk_lt (g := gb102) (o := .cells #[.int .i64 a1_0, .int .i64 a1_1, .int .i64 a1_2, .int .i64 a1_3] 131 (0, 0)) (by (with_reducible repeat (first | refine zbk ?_ _ | refine zbp ?_ | refine zbl ?_ _)); exact BK102.out)) : gb103 ≠ gb102)); clear BK101; clear BK102; clear HB; have BK101 := n0_; have BK102 := n1_; have HB := n2_; have BK103 := n3_; have GW103 := n4_; have GE103 := n5_; have NB101_103 := n6_; have NB103_101 := n7_; have NB102_103 := n8_; have NB103_102 := n9_; clear n0_ n1_ n2_ n3_ n4_ n5_ n6_ n7_ n8_ n9_; clear hb hbox hg; have hnb10 := NB101_102.out; have hnc10 := NB102_101.out; have hnb11 := NB101_103.out; have hnc11 := NB103_101.out; have hcz12_0 : w9.cell? ⟨gb101, 0, none⟩ = some (.int .i64 a0_0) := (zax BK101.out 0).trans rfl; have hcz12_1 : w9.cell? ⟨gb101, 1, none⟩ = some (.int .i64 a0_1) := (zax BK101.out 1).trans rfl; have hcz12_2 : w9.cell? ⟨gb101, 2, none⟩ = some (.int .i64 a0_2) := (zax BK101.out 2).trans rfl; have hcz12_3 : w9.cell? ⟨gb101, 3, none⟩ = some (.int .i64 a0_3) := (zax BK101.out 3).trans rfl; have hfz12_0 := zbb BK101.out 0; have hfz12_1 := zbb BK101.out 1; have hfz12_2 := zbb BK101.out 2; have hfz12_3 := zbb BK101.out 3; have hnb13 := NB102_103.out; have hnc13 := NB103_102.out; have hcz14_0 : w9.cell? ⟨gb102, 0, none⟩ = some (.int .i64 a1_0) := (zax BK102.out 0).trans rfl; have hcz14_1 : w9.cell? ⟨gb102, 1, none⟩ = some (.int .i64 a1_1) := (zax BK102.out 1).trans rfl; have hcz14_2 : w9.cell? ⟨gb102, 2, none⟩ = some (.int .i64 a1_2) := (zax BK102.out 2).trans rfl; have hcz14_3 : w9.cell? ⟨gb102, 3, none⟩ = some (.int .i64 a1_3) := (zax BK102.out 3).trans rfl; have hfz14_0 := zbb BK102.out 0; have hfz14_1 := zbb BK102.out 1; have hfz14_2 := zbb BK102.out 2; have hfz14_3 := zbb BK102.out 3; have hcz15_0 : w9.cell? ⟨gb103, 0, none⟩ = some (.int .i64 0) := (zax BK103.out 0).trans rfl; have hcz15_1 : w9.cell? ⟨gb103, 1, none⟩ = some (.int .i64 0) := (zax BK103.out 1).trans rfl; have hcz15_2 : w9.cell? ⟨gb103, 2, none⟩ = some (.int .i64 0) := (zax BK103.out 2).trans rfl; have hcz15_3 : w9.cell? ⟨gb103, 3, none⟩ = some (.int .i64 0) := (zax BK103.out 3).trans rfl; have hfz15_0 := zbb BK103.out 0; have hfz15_1 := zbb BK103.out 1; have hfz15_2 := zbb BK103.out 2; have hfz15_3 := zbb BK103.out 3))
 repeat (go_quiet (fail); try go_wp2_with (fail))
 refine bodyPost_ret (results_cell_row rfl _ _ gb103 131 #[.int .i64 ji3, .int .i64 ji4, .int .i64 (wrap64 ((ji5) - (ji3))), .int .i64 (wrap64 ((ji6) - (ji4)))] (0, 0) _ rfl (by (with_reducible repeat (first | refine zbk ?_ _ | refine zbp ?_ | refine zbl ?_ _)); refine blk_put (cs := #[.int .i64 ji3, .int .i64 ji4, .int .i64 (wrap64 ((ji5) - (ji3))), .int .i64 0]) ?_ 3 _ rfl; (with_reducible repeat (first | refine zbk ?_ _ | refine zbp ?_ | refine zbl ?_ _)); refine blk_put (cs := #[.int .i64 ji3, .int .i64 ji4, .int .i64 0, .int .i64 0]) ?_ 2 _ rfl; (with_reducible repeat (first | refine zbk ?_ _ | refine zbp ?_ | refine zbl ?_ _)); refine blk_put (cs := #[.int .i64 ji3, .int .i64 0, .int .i64 0, .int .i64 0]) ?_ 1 _ rfl; (with_reducible repeat (first | refine zbk ?_ _ | refine zbp ?_ | refine zbl ?_ _)); refine blk_put (cs := #[.int .i64 0, .int .i64 0, .int .i64 0, .int .i64 0]) ?_ 0 _ rfl; (with_reducible repeat (first | refine zbk ?_ _ | refine zbp ?_ | refine zbl ?_ _)); exact BK103.out) Try.underlying131 rfl (by kernel_rfl)) rfl ?_
 exact ⟨by first | rfl | (simp [zan, zam] <;> rfl) | (simp only [← hji3, ← hji4, ← hji5, ← hji6]; first | rfl | (simp [zan, zam] <;> rfl)) | (simp [*, zan, zam] <;> rfl), by repeat (first | (with_reducible first | exact HB.out | apply zac | apply zab | apply zad | refine zah ?_ GE101.out | refine zah ?_ GE102.out | refine zah ?_ GE103.out) | exact HB.out)⟩
end Go.Proofs.Ytaepgogafkmooaa.PC
namespace Go.Proofs.Ytaepgogafkmooaa.Hd
open Go.RowKit Go.PW.PrintWords Go.PW.PrintLast Go.PW.PrintMore
def BRow (W : World) (base : Nat) (g : Nat) (cap : Nat) (e : TypeId) (xs : List Int) : Prop :=
 ∃ (cur : Array Value), base ≤ g ∧ W.heap[g]? = some (.cells cur e (cur.size, cur.size + 1)) ∧ xs.length ≤ cur.size ∧ cur.toList.take xs.length = nums .u8 xs
section
variable {W : World} {base g cap : Nat} {e : TypeId} {xs : List Int}
theorem BRow.cell (h : BRow W base g cap e xs) (i : Nat) (hi : i < xs.length) : W.cell? ⟨g, i, none⟩ = some (.int .u8 (xs.getD i 0)) ∧ W.frozen? ⟨g, i, none⟩ = false := by
 obtain ⟨cur, hb, hg, hl, ht⟩ := h
 have h1 : cur.toList[i]? = some (.int .u8 (xs.getD i 0)) := by
  have h2 : (cur.toList.take xs.length)[i]? = some (.int .u8 (xs.getD i 0)) := by
   rw [ht]; simp [nums, ybk, hi]
  rw [List.getElem?_take] at h2
  simpa [hi] using h2
 constructor
 ·simp only [World.cell?, hg]
  simpa using h1
 ·have : ¬ cur.size ≤ i := by omega
  simp [World.frozen?, hg, this]
theorem BRow.set (h : BRow W base g cap e xs) (i : Nat) (x : Int) : BRow (W.setCell ⟨g, i, none⟩ (.int .u8 x)) base g cap e (xs.set i x) := by
 obtain ⟨cur, hb, hg, hl, ht⟩ := h
 refine ⟨cur.setIfInBounds i (.int .u8 x), hb, ?_, ?_, ?_⟩
 ·simp [World.setCell, Array.getElem?_modify, hg]
 ·simpa using hl
 ·rw [Array.toList_setIfInBounds, List.length_set, List.take_set, ht]
  simp [nums]
theorem BRow.typed (h : BRow W base g cap e xs) : ∃ cur fz, W.heap[g]? = some (.cells cur e fz) := by
 obtain ⟨cur, hb, hg, hl, ht⟩ := h
 exact ⟨cur, _, hg⟩
theorem BRow.base_le (h : BRow W base g cap e xs) : base ≤ g := h.choose_spec.1
theorem BRow.lt (h : BRow W base g cap e xs) : g < W.heap.size := by
 obtain ⟨cur, hb, hg, hl, ht⟩ := h
 exact (Array.getElem?_eq_some_iff.1 hg).1
theorem BRow.move (h : BRow W base g cap e xs) {W1 : World} (hm : W1.heap[g]? = W.heap[g]?) : BRow W1 base g cap e xs := by
 obtain ⟨cur, hb, hg, hl, ht⟩ := h
 exact ⟨cur, hb, hm.trans hg, hl, ht⟩
theorem BRow.lower (h : BRow W base g cap e xs) {base' : Nat} (hb' : base' ≤ base) : BRow W base' g cap e xs := by
 obtain ⟨cur, hb, hg, hl, ht⟩ := h
 exact ⟨cur, Nat.le_trans hb' hb, hg, hl, ht⟩
theorem BRow.reads (h : BRow W base g cap e xs) (hm : xs.length ≤ 9223372036854775807) : (Kd.int .u8).C W (some ⟨g, 0, none⟩) xs.length xs := by
 refine ⟨rfl, hm, fun _ => ⟨_, rfl, fun j p hj => ?_⟩⟩
 have hjl := (List.getElem?_eq_some_iff.1 hj).1
 refine ⟨[.int .u8 p], rfl, rfl, fun i u hu => ?_⟩
 have hi : i = 0 := by
  rcases Nat.eq_zero_or_pos i with h0 | h0
  ·exact h0
  ·rw [List.getElem?_eq_none (by simp; omega)] at hu; cases hu
 subst hi
 have hu' : Value.int .u8 p = u := by simpa using hu
 subst hu'
 have h1 := (h.cell j hjl).1
 rw [ybk, hj] at h1
 show W.cell? ((⟨g, 0, none⟩ : Addr).add (j * 1 + 0)) = _
 rw [Nat.mul_one, Nat.add_zero, add_plain]
 exact h1
end
theorem R_typesF {α : Type} {d : Kd α} {e : Nat} {w : World} {base : Nat} {ok : Nat → Prop} {v : Value} {xs : List α} (h : d.R e w base ok v xs) {g t : Nat} {cells : Array Value} {fz : Nat × Nat} (hb : w.heap[g]? = some (.cells cells t fz)) (ht : ∀ q, q ∈ e :: d.E → q ≠ t) : d.R e w base (fun k => ok k ∧ k ≠ g) v xs :=
 Kd.R_mono (Kd.R_bound h) (fun k hk => ⟨hk.1, by
  obtain ⟨_, _, _, q, hq, cells', hc⟩ := hk
  rintro rfl
  rw [hc] at hb
  injection hb with hb
  injection hb with _ hb
  exact ht q hq hb⟩)
theorem R_setF {α : Type} {d : Kd α} {e : Nat} {w : World} {base : Nat} {ok : Nat → Prop} {v : Value} {xs : List α} (h : d.R e w base ok v xs) {g t : Nat} {cells : Array Value} {fz : Nat × Nat} (hb : w.heap[g]? = some (.cells cells t fz)) (ht : ∀ q, q ∈ e :: d.E → q ≠ t) (j : Nat) (u : Value) : d.R e (w.setCell ⟨g, j, none⟩ u) base ok v xs :=
 Kd.R_mono (Kd.R_far (p := ⟨g, j, none⟩) (R_typesF h hb ht) (fun _ hk => hk.2) u) (fun _ hk => hk.1)
section
variable {P : Program} {ops : Array Oper} {rest : List Oper} {o : Oper} {a : Act} {Q : Exit → Act → World → Prop}
theorem conv_event {W : World} (hgd : o.guard = none) {N : Tmp} (_hd : o.dst = some N) {src dst e : TypeId} {x : Operand} {s : ByteArray} {u : TypeDesc} (ho : o.op = .convert src dst x) (hx : a.eval x = .string s)
  (hs : P.underlying src = some u) (hdst : P.underlying dst = some (.slice e)) (he : P.underlying e = some (.int .u8))
  (h : ∀ g cap w1, g = W.heap.size → BRow w1 W.heap.size g cap e (bytesOf s) → Below W.heap.size W w1 → wpList P ops Q rest (a.put o.dst (.slice (some ⟨g, 0, none⟩) s.size cap)) w1) : wpList P ops Q (o :: rest) a W := by
 refine Kd.event_run hgd (w1 := Lib.bytesWorld W e s) ?_ (h W.heap.size (grownCap W s.size 0 e) _ rfl ?_ ?_)
 ·simp only [execOp, ho, hx]
  have := Lib.run_convert_string_bytes (P := P) W src dst e s hs hdst he
  simp [this]
 ·refine ⟨Lib.bytesCells W e s, ybo _, Lib.bytesWorld_at_new W e s, ?_, ?_⟩
  ·simp [Lib.bytesCells, bytesOf]
  ·simp [Lib.bytesCells, bytesOf, nums]
 ·refine ⟨?_, ?_, ?_, ?_, fun k hk => Lib.bytesWorld_at_old W e s k hk⟩
  ·simp [Lib.bytesWorld, World.freeze, World.alloc, World.drew, -World.alloc_eq, -World.drew_eq]
  ·simp [Lib.bytesWorld, World.freeze, World.alloc, World.drew, -World.alloc_eq, -World.drew_eq]
  ·simp [Lib.bytesWorld, World.freeze, World.alloc, World.drew, -World.alloc_eq, -World.drew_eq]
  ·rw [Lib.bytesWorld_size]; omega
end
end Go.Proofs.Ytaepgogafkmooaa.Hd
namespace Go.Proofs.Ytaepgogafkmooaa.Hd
open Go.RowKit Go.PW.PrintWords Go.PW.PrintLast Go.PW.PrintMore Go.Proofs.Ytaepgogafkmooaa.PB
def putN (xs : List Int) (l n : Nat) (c : Int) : List Int := xs.mapIdx fun k x => if l ≤ k ∧ k < l + n then c else x
def putS (s : ByteArray) (l n : Nat) (c : Int) : ByteArray := strOfNums (putN (bytesOf s) l n c)
def putR (xs : List ByteArray) (t n l m : Nat) (c : Int) : List ByteArray := xs.mapIdx fun k s => if t ≤ k ∧ k < t + n then putS s l m c else s
theorem putN_length (xs : List Int) (l n : Nat) (c : Int) : (putN xs l n c).length = xs.length := by simp [putN]
theorem putN_zero (xs : List Int) (l : Nat) (c : Int) : putN xs l 0 c = xs := by
 unfold putN
 apply List.ext_getElem
 ·simp
 ·intro i h1 h2
  simp only [List.getElem_mapIdx]
  rw [if_neg (by omega)]
theorem putN_succ (xs : List Int) (l n : Nat) (c : Int) : (putN xs l n c).set (l + n) c = putN xs l (n + 1) c := by
 unfold putN
 apply List.ext_getElem
 ·simp
 ·intro i h1 h2
  rw [List.getElem_set]
  simp only [List.getElem_mapIdx]
  by_cases h : l + n = i
  ·rw [if_pos h, if_pos (by omega)]
  ·rw [if_neg h]
   by_cases h3 : l ≤ i ∧ i < l + n
   ·rw [if_pos h3, if_pos (by omega)]
   ·rw [if_neg h3, if_neg (by omega)]
theorem putR_length (xs : List ByteArray) (t n l m : Nat) (c : Int) : (putR xs t n l m c).length = xs.length := by simp [putR]
theorem putR_zero (xs : List ByteArray) (t l m : Nat) (c : Int) : putR xs t 0 l m c = xs := by
 unfold putR
 apply List.ext_getElem
 ·simp
 ·intro i h1 h2
  simp only [List.getElem_mapIdx]
  rw [if_neg (by omega)]
theorem putR_succ (xs : List ByteArray) (t n l m : Nat) (c : Int) : (putR xs t n l m c).set (t + n) (putS (xs.getD (t + n) ybl) l m c) = putR xs t (n + 1) l m c := by
 unfold putR
 apply List.ext_getElem
 ·simp
 ·intro i h1 h2
  rw [List.getElem_set]
  simp only [List.getElem_mapIdx]
  by_cases h : t + n = i
  ·subst h
   rw [if_pos rfl, if_pos (by omega)]
   congr 1
   have h3 : t + n < xs.length := by simpa using h2
   simp [ybk, h3]
  ·rw [if_neg h]
   by_cases h3 : t ≤ i ∧ i < t + n
   ·rw [if_pos h3, if_pos (by omega)]
   ·rw [if_neg h3, if_neg (by omega)]
theorem putR_at (xs : List ByteArray) (t n l m : Nat) (c : Int) : (putR xs t n l m c).getD (t + n) ybl = xs.getD (t + n) ybl := by
 unfold putR
 simp only [ybk, List.getElem?_mapIdx]
 cases h : xs[t + n]? with
 | none => rfl
 | some x =>
  simp only [Option.map_some, Option.getD_some]
  rw [if_neg (by omega)]
def putOk (l0 : List ByteArray) (t l h m : Int) (c : Int) : Bool :=
 decide (0 ≤ t) && decide (0 ≤ l) && decide (0 ≤ h) && decide (0 ≤ m) && decide (0 ≤ c) && decide (c ≤ 255) && decide (l0.length ≤ 1048576) && decide (t + h ≤ l0.length) && decide (l ≤ 1048576) && decide (m ≤ 1048576) && (l0.all fun s => decide (l + m ≤ s.size) && decide (s.size ≤ 1048576))
def spec_l1Put.f (l0 : List ByteArray) (a1 a2 a3 a4 a5 : Int) : Option (List ByteArray) :=
 if putOk l0 a1 a2 a3 a4 a5 = true then some (putR l0 a1.toNat a3.toNat a2.toNat a4.toNat a5) else none
set_option maxHeartbeats 4000000 in
set_option maxRecDepth 100000 in
theorem l1Put_walk (A0 : Option Addr) (c0 : Nat) (l0 : List ByteArray) (t l h m : Nat) (c : Int) (w : World) (hr0 : Kd.C Kd.string w A0 l0.length l0) (hc0 : l0.length ≤ c0)
  (hc : 0 ≤ c) (hc2 : c ≤ 255) (hlen : l0.length ≤ 1048576) (hth : t + h ≤ l0.length) (hlb : l ≤ 1048576) (hmb : m ≤ 1048576) (hs : ∀ i, i < l0.length → l + m ≤ (l0.getD i ybl).size ∧ (l0.getD i ybl).size ≤ 1048576) :
  Calls Try.prog 77 #[.slice A0 l0.length c0, .int .i64 t, .int .i64 l, .int .i64 h, .int .i64 m, .int .u8 c] w fun e w' => ∃ v0_ : Value, e = .returned (v0_) ∧ Kd.R Kd.string 9 w' w.heap.size (fun _ => True) v0_ (putR l0 t h l m c) ∧ Below w.heap.size w w' := by
 have HR0 := zaa.mk hr0
 have HC0 := zaa.mk hc0
 have HS := zaa.mk hs
 clear hr0 hc0 hs
 have HB := zaa.mk (Below.refl w.heap.size w)
 have ht0 : (0 : Int) ≤ t := by omega
 have ht1 : (t : Int) ≤ 1048576 := by omega
 have hh0 : (0 : Int) ≤ h := by omega
 have hh1 : (h : Int) ≤ 1048576 := by omega
 have hl0 : (0 : Int) ≤ l := by omega
 have hl1 : (l : Int) ≤ 1048576 := by omega
 have hm0 : (0 : Int) ≤ m := by omega
 have hm1 : (m : Int) ≤ 1048576 := by omega
 go_enter Try.func77, Try.ntmps77
 go_wp2_with (first
  | ((with_reducible refine zbc (N := 17) rfl ?_); refine Kd.R_lit Kd.string _ 9 ?hg (N := 17) ?hd (xs := ([] : List ByteArray)) (inner := []) (ok := fun _ => True) (okp := fun _ => True) ?hr ?hp (fun _ hk => hk) trivial (Below.refl _ _) (ybo _) (by simp) ?_; (case hd => rfl); (case hg => rfl); (case hr => first | (go_simp; done) | (go_simp; rfl)); (case hp => exact (Reps.none _ _)); intro v1 w1 ho hb hg_ hnew_; clear hg_ hnew_; have HO1 := zaa.mk (Kd.R_lower ho (zai HB.out)); have n1_ := zaa.mk (zag HB.out hb); clear HB; have HB := n1_; clear n1_; clear hb ho)
  | ((with_reducible refine zay (b := .append) (xs := #[.tmp 17, .tmp 18]) rfl ?_); at_builtin; refine Kd.R_append_rows Kd.string (w0 := w) w.heap.size rfl (.tmp 17) (.tmp 18) 23 9 (.string ⟨#[]⟩) 16 rfl Try.underlying23 info9 rfl (by decide) (by omega) v1 [] l0 _ _ _ (fun _ => True) (fun _ => False) rfl rfl ?aO ?aR (fun _ _ h => h) (fun _ h => h.elim) ?aF ?aB ?aS ?aL ?_; (case aR => exact Kd.C_below HR0.out HB.out); (case aB => exact HB.out); (case aF => exact (fun _ _ => trivial)); (case aO => exact HO1.out); (case aS => exact zai HB.out); (case aL => simp; omega); intro v2 w2 ho hb hg hat; have n0_ := zaa.mk hb; have HO2 := zaa.mk ho; clear HB; clear HO1; have HB := n0_; clear n0_; clear ho hb hg hat))
 go_loopg [14] h (fun kq v14 w' => ∃ j : Nat, v14 = .int .i64 ((t : Int) + j) ∧ zaa (j + kq = h) ∧ zaa (Kd.R Kd.string 9 w' w.heap.size (fun _ => True) v2 (putR l0 t j l m c)) ∧ zaa (Below w.heap.size w w'))
 case atStart => exact ⟨0, by simp, ⟨by omega⟩, ⟨by rw [putR_zero]; simpa using HO2.out⟩, ⟨HB.out⟩⟩
 case round =>
  clear HO2 HB
  obtain ⟨j, rfl, HK, HO, HB⟩ := hrel
  by_cases hj : j < h
  ·have hlt : (t : Int) + j < t + h := by omega
   have hj0 : (0 : Int) ≤ (t : Int) + j := by omega
   have hj1 : (t : Int) + j ≤ 1048576 := by omega
   have hjl : t + j < l0.length := by omega
   have HLR := zaa.mk (putR_length l0 t j l m c)
   have hjl2 : (t : Int) + j < ((putR l0 t j l m c).length : Int) := by have := HLR.out; omega
   obtain ⟨g3, c3, e3, b3, l3, cl3, hg3⟩ := Kd.R_form HO.out (by have := HLR.out; omega)
   subst e3
   clear hg3 l3
   have B3 := zaa.mk b3
   obtain ⟨hx3, hf3⟩ := Kd.R_celln (⟨#[]⟩ : ByteArray) HO.out ((t : Int) + j) (by omega) (by omega)
   rw [show (((t : Int) + j).toNat) = t + j by omega, show rdOf (⟨#[]⟩ : ByteArray) (putR l0 t j l m c) ((t : Int) + j) = l0.getD (t + j) ybl by unfold rdOf; rw [show (((t : Int) + j).toNat) = t + j by omega]; exact putR_at l0 t j l m c] at hx3
   rw [show (((t : Int) + j).toNat) = t + j by omega] at hf3
   generalize hs : l0.getD (t + j) ybl = s at hx3
   have HSJ := zaa.mk hs
   have hss := HS.out (t + j) hjl
   rw [hs] at hss
   clear hs
   go_wp2_with (first
    | ((with_reducible refine zbc (N := 32) rfl ?_); refine conv_event (P := Try.prog) rfl (N := 32) rfl (src := 9) (dst := 22) (e := 5) (s := s) rfl rfl Try.underlying9 Try.underlying22 Try.underlying5 ?_; intro g4 c4 w4 hg4 hrow hb; have HRow := zaa.mk (hrow.lower (zai HB.out)); have n1_ := zaa.mk (zag HB.out hb); have HO4 := zaa.mk (Kd.R_below HO.out hb); clear HB HO; have HB := n1_; have HO := HO4; clear n1_ HO4; clear hb hrow hg4 hx3 hf3))
   go_loopg [16] m (fun kq v16 w' => ∃ i : Nat, v16 = .int .i64 ((l : Int) + i) ∧ zaa (i + kq = m) ∧ zaa (BRow w' w.heap.size g4 c4 5 (putN (bytesOf s) l i c)) ∧ zaa (Kd.string.R 9 w' w.heap.size (fun x => True) (Value.slice (some { block := g3, off := 0 }) (putR l0 t j l m c).length c3) (putR l0 t j l m c)) ∧ zaa (Below w.heap.size w w'))
   case atStart => exact ⟨0, by simp, ⟨by omega⟩, ⟨by rw [putN_zero]; exact HRow.out⟩, HO, HB⟩
   case round =>
    clear HRow HB HO
    obtain ⟨i, rfl, HK2, HRow, HO, HB⟩ := hrel
    by_cases hi : i < m
    ·have hlt2 : (l : Int) + i < l + m := by omega
     have hi0 : (0 : Int) ≤ (l : Int) + i := by omega
     have hi1 : (l : Int) + i ≤ 2097152 := by omega
     have hsz : (l : Int) + i < s.size := by omega
     have hss1 : (s.size : Int) ≤ 1048576 := by omega
     obtain ⟨hx4, hf4⟩ := HRow.out.cell (l + i) (by rw [putN_length, zbi]; omega)
     have HP := zaa.mk (HRow.out.set (l + i) c)
     go_wp2_with (first | ((with_reducible refine gate_store (t := 5) (p := 44) rfl ?_); refine store_event (t := 5) (p := 44) (v := ?vo) (w1 := (wr.setCell ⟨g4, l + i, none⟩ (.int .u8 c))) ?hg ?ho ?hn ?hr ?_; (case ho => rfl); (case hg => rfl); (case hn => rfl); (case hr => first | (go_simp; done) | (go_simp; rfl)); intro w11 hw; have n0_ := zaa.mk (show BRow w11 w.heap.size g4 c4 5 (putN (bytesOf s) l (i + 1) c) by rw [hw, ← putN_succ]; exact HP.out); have n1_ := zaa.mk (show Kd.string.R 9 w11 w.heap.size (fun x => True) (Value.slice (some { block := g3, off := 0 }) (putR l0 t j l m c).length c3) (putR l0 t j l m c) by rw [hw]; exact R_setF HO.out HRow.out.typed.choose_spec.choose_spec (by decide) _ _); have n2_ := zaa.mk (show Below w.heap.size w w11 by rw [hw]; exact zah HB.out HRow.out.base_le); clear HRow HO HB HP; have HRow := n0_; have HO := n1_; have HB := n2_; clear n0_ n1_ n2_; clear hw))
     go_roundg (m - (i + 1))
     case measure => have := HK2.out; omega
     case rel => exact ⟨i + 1, by first | rfl | (congr 1; omega), ⟨by have := HK2.out; omega⟩, HRow, HO, HB⟩
    ·have hge : ¬ ((l : Int) + i < l + m) := by omega
     obtain rfl : i = m := by have := HK2.out; omega
     have hstr := Kd.C_string (P := Try.prog) (src := 22) (dst := 9) (c := c4) Try.underlying22 Try.underlying5 Try.underlying9 (HRow.out.reads (by rw [putN_length, zbi]; omega))
     rw [putN_length, zbi] at hstr
     obtain ⟨hx3, hf3⟩ := Kd.R_celln (⟨#[]⟩ : ByteArray) HO.out ((t : Int) + j) (by omega) (by omega)
     rw [show (((t : Int) + j).toNat) = t + j by omega] at hx3 hf3
     have HP := zaa.mk (Kd.R_putg HO.out ((t : Int) + j) (putS s l i c))
     go_wp2
     go_roundg (h - (j + 1))
     case measure => have := HK.out; omega
     case rel => exact ⟨j + 1, by first | rfl | (congr 1; omega), ⟨by have := HK.out; omega⟩, ⟨by rw [← putR_succ, HSJ.out]; have z := HP.out.1; rw [show (((t : Int) + j).toNat) = t + j by omega] at z; exact z⟩, ⟨zah HB.out B3.out⟩⟩
  ·have hge : ¬ ((t : Int) + j < t + h) := by omega
   obtain rfl : j = h := by have := HK.out; omega
   go_wp2
   go_ret
   exact ⟨_, rfl, HO.out, HB.out⟩
theorem spec_l1Put.calls (A0 : Option Addr) (c0 : Nat) (l0 : List ByteArray) (a1 a2 a3 a4 a5 : Int) (r : List ByteArray) (w : World) (hr0 : Kd.C Kd.string w A0 l0.length l0) (hc0 : l0.length ≤ c0) (h : spec_l1Put.f l0 a1 a2 a3 a4 a5 = some r) :
  Calls Try.prog 77 #[.slice A0 l0.length c0, .int .i64 a1, .int .i64 a2, .int .i64 a3, .int .i64 a4, .int .u8 a5] w fun e w' => ∃ v0_ : Value, e = .returned (v0_) ∧ Kd.R Kd.string 9 w' w.heap.size (fun _ => True) v0_ r ∧ Below w.heap.size w w' := by
 unfold spec_l1Put.f at h
 by_cases hk : putOk l0 a1 a2 a3 a4 a5 = true
 ·rw [if_pos hk] at h
  obtain rfl := Option.some.inj h
  simp only [putOk, Bool.and_eq_true, decide_eq_true_eq, List.all_eq_true] at hk
  obtain ⟨⟨⟨⟨⟨⟨⟨⟨⟨⟨h1, h2⟩, h3⟩, h4⟩, h5⟩, h6⟩, h7⟩, h8⟩, h9⟩, h10⟩, h11⟩ := hk
  obtain ⟨t, rfl⟩ := Int.eq_ofNat_of_zero_le h1
  obtain ⟨l, rfl⟩ := Int.eq_ofNat_of_zero_le h2
  obtain ⟨hh, rfl⟩ := Int.eq_ofNat_of_zero_le h3
  obtain ⟨m, rfl⟩ := Int.eq_ofNat_of_zero_le h4
  simp only [Int.toNat_natCast]
  refine l1Put_walk A0 c0 l0 t l hh m a5 w hr0 hc0 h5 h6 h7 (by omega) (by omega) (by omega) (fun i hi => ?_)
  have := h11 _ (List.getElem_mem hi)
  rw [ybk, List.getElem?_eq_getElem hi]
  simp only [Option.getD_some]
  omega
 ·rw [if_neg hk] at h
  cases h
end Go.Proofs.Ytaepgogafkmooaa.Hd
namespace Go.Proofs.Ytaepgogafkmooaa.SM
open Go.Proofs.Ytaepgogafkmooaa.PB Go.Proofs.Ytaepgogafkmooaa.Hd
open Go.RowKit Go.PW.PrintWords Go.PW.PrintLast Go.PW.PrintMore
attribute [local go_sem] zcb zbz max_two min_two zbs zbr zca zby   -- for this text's walks alone
def errW : Option Int → Value
 | none => .nilIface
 | some c => .iface 0 (.int .i64 c)
theorem zan : errW none = .nilIface := rfl
theorem zam (c : Int) : errW (some c) = .iface 0 (.int .i64 c) := rfl
theorem info3 : (Try.prog.info? 3).map (fun i => (i.zero, i.size, i.bytes)) = some (some (.int .i64 0), 1, 8) := by kernel_rfl
theorem info5 : (Try.prog.info? 5).map (fun i => (i.zero, i.size, i.bytes)) = some (some (.int .u8 0), 1, 1) := by kernel_rfl
theorem info9 : (Try.prog.info? 9).map (fun i => (i.zero, i.size, i.bytes)) = some (some (.string ⟨#[]⟩), 1, 16) := by kernel_rfl
theorem info39 : (Try.prog.info? 39).map (fun i => (i.zero, i.size, i.bytes)) = some (some (.slice none 0 0), 1, 24) := by kernel_rfl
def zbo (xs : List (List Int)) (i : Int) : (List Int) := xs.getD i.toNat ([] : List Int)
theorem at_L3 {w : World} {A : Option Addr} {n : Nat} {xs : List (List Int)} (h : Kd.C (Kd.slice 3 (Kd.int .i64)) w A n xs) (i : Int) (h0 : 0 ≤ i) (h1 : i < n) : ∃ ad A0 c0, A = some ad ∧ w.cell? (ad.add i.toNat) = some (.slice A0 (zbo xs i).length c0) ∧ (zbo xs i).length ≤ c0 ∧ (Kd.int .i64).C w A0 (zbo xs i).length (zbo xs i) := by
 obtain ⟨ad, c, e, _, hK, hc0⟩ := Kd.C_get h ([] : List Int) i h0 h1
 have hc : ∀ j u, c[j]? = some u → w.cell? (ad.add (i.toNat * 1 + j)) = some u := hc0
 obtain ⟨A0, c0, rfl, l0, g0⟩ := hK
 exact ⟨ad, A0, c0, e, by have hq := hc 0 _ rfl; rwa [Nat.mul_one, Nat.add_zero] at hq, l0, g0⟩
end Go.Proofs.Ytaepgogafkmooaa.SM
namespace Go.Proofs.Ytaepgogafkmooaa.SM
open Go.Proofs.Ytaepgogafkmooaa.PB Go.Proofs.Ytaepgogafkmooaa.Hd
open Go.RowKit Go.PW.PrintWords Go.PW.PrintLast Go.PW.PrintMore
attribute [local go_sem] zcb zbz max_two min_two zbs zbr zca zby   -- for this text's walks alone
mutual
def spec_PlanSplit.j0 : Nat → List ByteArray → ByteArray → Int → Int → Int → Int → Int → Bool → Option (List ByteArray × Bool)
 | 0, _, _, _, _, _, _, _, _ => none
 | k + 1, x0, x2, x3, x10, x11, x12, x13, x29 => if x29 = true then ((spec_l1Put.f x0 (wrap64 (x10 + x3)) x11 (wrap64 (x12 - x3)) x13 122).bind fun t199 => ((spec_l1Done.f k t199).bind fun bt202 => (some (bt202.1, bt202.2)))) else (if x2.toList = ([118] : List UInt8) then ((spec_l6In.f x3 1 (wrap64 (x13 - 1))).bind fun t206 => (spec_PlanSplit.j1 k x0 x3 x10 x11 x12 x13 t206)) else (spec_PlanSplit.j1 k x0 x3 x10 x11 x12 x13 false))
def spec_PlanSplit.j1 : Nat → List ByteArray → Int → Int → Int → Int → Int → Bool → Option (List ByteArray × Bool)
 | 0, _, _, _, _, _, _, _ => none
 | k + 1, x0, x3, x10, x11, x12, x13, x51 => if x51 = true then ((spec_l1Put.f x0 x10 (wrap64 (x11 + x3)) x12 (wrap64 (x13 - x3)) 122).bind fun t207 => ((spec_l1Done.f k t207).bind fun bt210 => (some (bt210.1, bt210.2)))) else ((spec_l1None.f).bind fun bt214 => (some (bt214.1, bt214.2)))
end
def spec_PlanSplit.f (k : Nat) (l0 : List ByteArray) (a1 : Int) (a2 : ByteArray) (a3 : Int) : Option (List ByteArray × Bool) := (spec_l1Given.f k l0 a1).bind fun t189 => (if t189 = true then ((spec_l1Room.f k l0 a1).bind fun bt194 => (if a2.toList = ([104] : List UInt8) then ((spec_l6In.f a3 1 (wrap64 (bt194.2.2.1 - 1))).bind fun t198 => (spec_PlanSplit.j0 k l0 a2 a3 bt194.1 bt194.2.1 bt194.2.2.1 bt194.2.2.2 t198)) else (spec_PlanSplit.j0 k l0 a2 a3 bt194.1 bt194.2.1 bt194.2.2.1 bt194.2.2.2 false))) else ((spec_l1None.f).bind fun bt190 => (some (bt190.1, bt190.2))))
set_option maxHeartbeats 8000000 in
set_option maxRecDepth 100000 in
theorem spec_PlanSplit.calls (k : Nat) (A0 : Option Addr) (c0 : Nat) (l0 : List ByteArray) (a1 : Int) (a2 : ByteArray) (a3 : Int) (r1 : List ByteArray) (r2 : Bool) (w : World) (hr0 : Kd.C Kd.string w A0 l0.length l0) (hc0 : l0.length ≤ c0) (h : spec_PlanSplit.f k l0 a1 a2 a3 = some (r1, r2)) :
  Calls Try.prog 147 #[.slice A0 l0.length c0, .int .i64 a1, .string a2, .int .i64 a3] w fun e w' => ∃ v0_ : Value, e = .returned (.tuple #[v0_, .bool r2]) ∧ Kd.R Kd.string 9 w' w.heap.size (fun _ => True) v0_ r1 ∧ Below w.heap.size w w' := by
 have HR0 := zaa.mk hr0
 have HC0 := zaa.mk hc0
 clear hr0 hc0
 have HB := zaa.mk (Below.refl w.heap.size w)
 have H : ((spec_l1Given.f k l0 a1).bind fun t189 => (if t189 = true then ((spec_l1Room.f k l0 a1).bind fun bt194 => (if a2.toList = ([104] : List UInt8) then ((spec_l6In.f a3 1 (wrap64 (bt194.2.2.1 - 1))).bind fun t198 => (spec_PlanSplit.j0 k l0 a2 a3 bt194.1 bt194.2.1 bt194.2.2.1 bt194.2.2.2 t198)) else (spec_PlanSplit.j0 k l0 a2 a3 bt194.1 bt194.2.1 bt194.2.2.1 bt194.2.2.2 false))) else ((spec_l1None.f).bind fun bt190 => (some (bt190.1, bt190.2))))) = some (r1, r2) := h
 clear h
 replace H := ybm.mp H
 obtain ⟨t189, A50, H⟩ := H
 replace H : (if t189 = true then ((spec_l1Room.f k l0 a1).bind fun bt194 => (if a2.toList = ([104] : List UInt8) then ((spec_l6In.f a3 1 (wrap64 (bt194.2.2.1 - 1))).bind fun t198 => (spec_PlanSplit.j0 k l0 a2 a3 bt194.1 bt194.2.1 bt194.2.2.1 bt194.2.2.2 t198)) else (spec_PlanSplit.j0 k l0 a2 a3 bt194.1 bt194.2.1 bt194.2.2.1 bt194.2.2.2 false))) else ((spec_l1None.f).bind fun bt190 => (some (bt190.1, bt190.2)))) = some (r1, r2) := H
 have A5 := zaa.mk A50
 clear A50
 by_cases c6 : t189 = true
 ·subst c6
  have H1 : ((spec_l1Room.f k l0 a1).bind fun bt194 => (if a2.toList = ([104] : List UInt8) then ((spec_l6In.f a3 1 (wrap64 (bt194.2.2.1 - 1))).bind fun t198 => (spec_PlanSplit.j0 k l0 a2 a3 bt194.1 bt194.2.1 bt194.2.2.1 bt194.2.2.2 t198)) else (spec_PlanSplit.j0 k l0 a2 a3 bt194.1 bt194.2.1 bt194.2.2.1 bt194.2.2.2 false))) = some (r1, r2) := by rw [if_pos rfl] at H; exact H
  clear H
  have H := H1
  clear H1
  replace H := ybm.mp H
  obtain ⟨⟨t194, t195, t196, t197⟩, A70, H⟩ := H
  replace H : (if a2.toList = ([104] : List UInt8) then ((spec_l6In.f a3 1 (wrap64 (t196 - 1))).bind fun t198 => (spec_PlanSplit.j0 k l0 a2 a3 t194 t195 t196 t197 t198)) else (spec_PlanSplit.j0 k l0 a2 a3 t194 t195 t196 t197 false)) = some (r1, r2) := H
  have A7 := zaa.mk A70
  clear A70
  have HC8 := zaa.mk H
  clear H
  go_enter Try.func147, Try.ntmps147
  go_upto_region 4 with (first | ((with_reducible refine zaq (f := 73) rfl ?_); refine zbf (some 16) rfl rfl Try.func73 (by kernel_rfl) rfl #[.slice A0 l0.length c0, .int .i64 a1] rfl (by (try simp only [ybf, ybg, ybh]); first | done | rfl | (simp only [ybj, ybi]; rfl)) ?_; (with_reducible refine (spec_l1Given.calls k _ _ l0 a1 true _ ?side1 ?side2 A5.out).mono ?_); (case side1 => repeat (first | exact HR0.out | (with_reducible refine ybv ?_ _) | (with_reducible refine ybw ?_ _) | (with_reducible refine ybx ?_))); (case side2 => exact HC0.out); rintro e w9 ⟨rfl, hb⟩; refine ⟨_, rfl, ?_⟩; have n0_ := zaa.mk (zag (by repeat (first | (with_reducible first | exact HB.out | apply zac | apply zab | apply zad) | exact HB.out)) hb); clear HB; have HB := n0_; clear n0_; (try clear hb); (try clear hb2); (try clear hk); (try clear hi)) | ((with_reducible refine zaq (f := 75) rfl ?_); refine zbf (some 24) rfl rfl Try.func75 (by kernel_rfl) rfl #[.slice A0 l0.length c0, .int .i64 a1] rfl (by (try simp only [ybf, ybg, ybh]); first | done | rfl | (simp only [ybj, ybi]; rfl)) ?_; (with_reducible refine (spec_l1Room.calls k _ _ l0 a1 t194 t195 t196 t197 _ ?side1 ?side2 A7.out).mono ?_); (case side1 => repeat (first | exact (Kd.C_below HR0.out HB.out) | (with_reducible refine ybv ?_ _) | (with_reducible refine ybw ?_ _) | (with_reducible refine ybx ?_))); (case side2 => exact HC0.out); rintro e w10 ⟨rfl, hb⟩; refine ⟨_, rfl, ?_⟩; have n0_ := zaa.mk (zag (by repeat (first | (with_reducible first | exact HB.out | apply zac | apply zab | apply zad) | exact HB.out)) hb); clear HB; have HB := n0_; clear n0_; (try clear hb); (try clear hb2); (try clear hk); (try clear hi)))
  (try simp only [Act.put, List.setIfInBounds_toArray, List.set_cons_zero, List.set_cons_succ])
  go_cut [29] (fun v29 wc => ∃ (kq : Nat) (x29_7 : Bool), v29 = .bool x29_7 ∧ zaa (spec_PlanSplit.j0 kq l0 a2 a3 t194 t195 t196 t197 x29_7 = some (r1, r2)) ∧ zaa (kq ≤ k) ∧ zaa (Below w.heap.size w wc))
  case first =>
   have H := HC8.out
   clear HC8
   by_cases c11 : a2.toList = ([104] : List UInt8)
   ·rw [if_pos c11] at H
    have c11b0 : (a2.toList == ([104] : List UInt8)) = true := beq_iff_eq.mpr c11
    have c11b1 : (a2.toList != ([104] : List UInt8)) = false := bne_eq_false_iff_eq.mpr c11
    clear c11
    (first | rw [c11b0] | (simp only [zar, zas]; rw [c11b0]) | skip)
    replace H := ybm.mp H
    obtain ⟨t198, A120, H⟩ := H
    replace H : (spec_PlanSplit.j0 k l0 a2 a3 t194 t195 t196 t197 t198) = some (r1, r2) := H
    have A12 := zaa.mk A120
    clear A120
    have H' := zaa.mk H
    clear H
    go_wp2_with (first | (go_at_call 91; (with_reducible refine (spec_l6In.calls a3 1 (wrap64 (t196 - 1)) t198 _ A12.out).mono ?_); rintro e w' ⟨rfl, ⟨nd, rfl⟩⟩))
    go_meet
    case rel => exact ⟨_, (t198), (by first | rfl | (simp; done) | (simp [*]; done)), H', ⟨by first | omega | exact ybo _⟩, ⟨by repeat (first | (with_reducible first | exact HB.out | apply zac | apply zab | apply zad) | exact HB.out)⟩⟩
   ·rw [if_neg c11] at H
    have c11b0 : (a2.toList == ([104] : List UInt8)) = false := beq_eq_false_iff_ne.mpr c11
    have c11b1 : (a2.toList != ([104] : List UInt8)) = true := bne_iff_ne.mpr c11
    (first | rw [c11b0] | (simp only [zar, zas]; rw [c11b0]) | skip)
    have H' := zaa.mk H
    clear H
    go_wp2
    go_meet
    case rel => exact ⟨_, (false), (by first | rfl | (simp; done) | (simp [*]; done)), H', ⟨by first | omega | exact ybo _⟩, ⟨by repeat (first | (with_reducible first | exact HB.out | apply zac | apply zab | apply zad) | exact HB.out)⟩⟩
  case rest =>
   clear HC8
   try clear c1
   try clear p2
   try clear c6
   try clear p6
   try clear c7
   try clear c11
   try clear c11b0
   try clear c11b1
   obtain ⟨kq, x29_7, rfl, HA, HJ7, HB⟩ := hcut
   cases kq with
   | zero => exact absurd HA.out (by simp [spec_PlanSplit.j0])
   | succ kj7 =>
    have H := HA.out
    clear HA
    simp only [spec_PlanSplit.j0] at H
    by_cases c13 : x29_7 = true
    ·subst c13
     have H1 : ((spec_l1Put.f l0 (wrap64 (t194 + a3)) t195 (wrap64 (t196 - a3)) t197 122).bind fun t199 => ((spec_l1Done.f kj7 t199).bind fun bt202 => (some (bt202.1, bt202.2)))) = some (r1, r2) := by rw [if_pos rfl] at H; exact H
     clear H
     have H := H1
     clear H1
     replace H := ybm.mp H
     obtain ⟨t199, A140, H⟩ := H
     replace H : ((spec_l1Done.f kj7 t199).bind fun bt202 => (some (bt202.1, bt202.2))) = some (r1, r2) := H
     have A14 := zaa.mk A140
     clear A140
     replace H := ybm.mp H
     obtain ⟨⟨t202, t203⟩, A150, H⟩ := H
     replace H : (some (t202, t203)) = some (r1, r2) := H
     have A15 := zaa.mk A150
     clear A150
     simp only [Option.some.injEq, Prod.mk.injEq] at H
     obtain ⟨rfl, rfl⟩ := H
     go_wp2_with (first | ((with_reducible refine zaq (f := 77) rfl ?_); refine zbf (some 47) rfl rfl Try.func77 (by kernel_rfl) rfl #[.slice A0 l0.length c0, .int .i64 (wrap64 (t194 + a3)), .int .i64 t195, .int .i64 (wrap64 (t196 - a3)), .int .i64 t197, .int .u8 122] rfl (by (try simp only [ybf, ybg, ybh]); first | done | rfl | (simp only [ybj, ybi]; rfl)) ?_; (with_reducible refine (spec_l1Put.calls _ _ l0 (wrap64 (t194 + a3)) t195 (wrap64 (t196 - a3)) t197 122 t199 _ ?side1 ?side2 A14.out).mono ?_); (case side1 => repeat (first | exact (Kd.C_below HR0.out HB.out) | (with_reducible refine ybv ?_ _) | (with_reducible refine ybw ?_ _) | (with_reducible refine ybx ?_))); (case side2 => exact HC0.out); rintro e w16 ⟨v200, rfl, ho0, hb⟩; refine ⟨_, rfl, ?_⟩; have n0_ := zaa.mk (Kd.R_lower ho0 (zai (by repeat (first | (with_reducible first | exact HB.out | apply zac | apply zab | apply zad) | exact HB.out)))); have n1_ := zaa.mk (zag (by repeat (first | (with_reducible first | exact HB.out | apply zac | apply zab | apply zad) | exact HB.out)) hb); clear HB; have HO201 := n0_; have HB := n1_; clear n0_ n1_; (try clear hb); (try clear hb2); (try clear hk); (try clear hi); (try clear ho0); obtain ⟨Ao17, co17, eo17⟩ := Kd.R_slice HO201.out; subst eo17) | ((with_reducible refine zaq (f := 76) rfl ?_); refine zbf (some 48) rfl rfl Try.func76 (by kernel_rfl) rfl #[.slice Ao17 t199.length co17] rfl (by (try simp only [ybf, ybg, ybh]); first | done | rfl | (simp only [ybj, ybi]; rfl)) ?_; (with_reducible refine (spec_l1Done.calls kj7 _ _ t199 t202 t203 _ ?side1 ?side2 A15.out).mono ?_); (case side1 => repeat (first | exact (Kd.R_reads' HO201.out).2.2 | (with_reducible refine ybv ?_ _) | (with_reducible refine ybw ?_ _) | (with_reducible refine ybx ?_))); (case side2 => exact (Kd.R_reads' HO201.out).2.1); rintro e w18 ⟨v204, rfl, ho0, hb⟩; refine ⟨_, rfl, ?_⟩; have n0_ := zaa.mk (Kd.R_elder' (by (with_reducible repeat (first | apply ybp | apply ybq | apply ybr)); exact HO201.out) (Kd.R_base ho0) hb); have n1_ := zaa.mk (Kd.R_lower (Kd.R_new' ho0 (Kd.R_lt (by (with_reducible repeat (first | apply ybp | apply ybq | apply ybr)); exact HO201.out))) (zai (by repeat (first | (with_reducible first | exact HB.out | apply zac | apply zab | apply zad) | exact HB.out)))); have n2_ := zaa.mk (zag (by repeat (first | (with_reducible first | exact HB.out | apply zac | apply zab | apply zad) | exact HB.out)) hb); clear HO201; clear HB; have HO201 := n0_; have HO205 := n1_; have HB := n2_; clear n0_ n1_ n2_; (try clear hb); (try clear hb2); (try clear hk); (try clear hi); (try clear ho0)))
     go_ret2
     exact ⟨_, by first | rfl | (simp [zan, zam] <;> rfl) | (simp [*, zan, zam] <;> rfl), by (with_reducible repeat (first | apply ybp | apply ybq | apply ybr)); exact Kd.R_mono HO205.out (fun _ hk => trivial), by repeat (first | (with_reducible first | exact HB.out | apply zac | apply zab | apply zad) | exact HB.out)⟩
    ·replace c13 := Bool.eq_false_iff.mpr c13
     subst c13
     have H1 : (if a2.toList = ([118] : List UInt8) then ((spec_l6In.f a3 1 (wrap64 (t197 - 1))).bind fun t206 => (spec_PlanSplit.j1 kj7 l0 a3 t194 t195 t196 t197 t206)) else (spec_PlanSplit.j1 kj7 l0 a3 t194 t195 t196 t197 false)) = some (r1, r2) := by rw [if_neg (show ¬ (false = true) by decide)] at H; exact H
     clear H
     have H := H1
     clear H1
     have HC19 := zaa.mk H
     clear H
     go_upto_region 6 with (fail)
     go_cut [51] (fun v51 wc => ∃ (kq : Nat) (x51_18 : Bool), v51 = .bool x51_18 ∧ zaa (spec_PlanSplit.j1 kq l0 a3 t194 t195 t196 t197 x51_18 = some (r1, r2)) ∧ zaa (kq ≤ kj7) ∧ zaa (Below w.heap.size w wc))
     case first =>
      have H := HC19.out
      clear HC19
      by_cases c20 : a2.toList = ([118] : List UInt8)
      ·rw [if_pos c20] at H
       have c20b0 : (a2.toList == ([118] : List UInt8)) = true := beq_iff_eq.mpr c20
       have c20b1 : (a2.toList != ([118] : List UInt8)) = false := bne_eq_false_iff_eq.mpr c20
       clear c20
       (first | rw [c20b0] | (simp only [zar, zas]; rw [c20b0]) | skip)
       replace H := ybm.mp H
       obtain ⟨t206, A210, H⟩ := H
       replace H : (spec_PlanSplit.j1 kj7 l0 a3 t194 t195 t196 t197 t206) = some (r1, r2) := H
       have A21 := zaa.mk A210
       clear A210
       have H' := zaa.mk H
       clear H
       go_wp2_with (first | (go_at_call 91; (with_reducible refine (spec_l6In.calls a3 1 (wrap64 (t197 - 1)) t206 _ A21.out).mono ?_); rintro e w' ⟨rfl, ⟨nd, rfl⟩⟩))
       go_meet
       case rel => exact ⟨_, (t206), (by first | rfl | (simp; done) | (simp [*]; done)), H', ⟨by have := HJ7.out; first | omega | exact ybo _⟩, ⟨by repeat (first | (with_reducible first | exact HB.out | apply zac | apply zab | apply zad) | exact HB.out)⟩⟩
      ·rw [if_neg c20] at H
       have c20b0 : (a2.toList == ([118] : List UInt8)) = false := beq_eq_false_iff_ne.mpr c20
       have c20b1 : (a2.toList != ([118] : List UInt8)) = true := bne_iff_ne.mpr c20
       (first | rw [c20b0] | (simp only [zar, zas]; rw [c20b0]) | skip)
       have H' := zaa.mk H
       clear H
       go_wp2
       go_meet
       case rel => exact ⟨_, (false), (by first | rfl | (simp; done) | (simp [*]; done)), H', ⟨by have := HJ7.out; first | omega | exact ybo _⟩, ⟨by repeat (first | (with_reducible first | exact HB.out | apply zac | apply zab | apply zad) | exact HB.out)⟩⟩
     case rest =>
      clear HC19
      try clear c1
      try clear c2
      try clear p2
      try clear c6
      try clear p6
      try clear c7
      try clear c11
      try clear c11b0
      try clear c11b1
      try clear c13
      try clear c14
      try clear c20
      try clear c20b0
      try clear c20b1
      try clear p2
      try clear p6
      obtain ⟨kq, x51_18, rfl, HA, HJ18, HB⟩ := hcut
      cases kq with
      | zero => exact absurd HA.out (by simp [spec_PlanSplit.j1])
      | succ kj18 =>
       have H := HA.out
       clear HA
       simp only [spec_PlanSplit.j1] at H
       by_cases c22 : x51_18 = true
       ·subst c22
        have H1 : ((spec_l1Put.f l0 t194 (wrap64 (t195 + a3)) t196 (wrap64 (t197 - a3)) 122).bind fun t207 => ((spec_l1Done.f kj18 t207).bind fun bt210 => (some (bt210.1, bt210.2)))) = some (r1, r2) := by rw [if_pos rfl] at H; exact H
        clear H
        have H := H1
        clear H1
        replace H := ybm.mp H
        obtain ⟨t207, A230, H⟩ := H
        replace H : ((spec_l1Done.f kj18 t207).bind fun bt210 => (some (bt210.1, bt210.2))) = some (r1, r2) := H
        have A23 := zaa.mk A230
        clear A230
        replace H := ybm.mp H
        obtain ⟨⟨t210, t211⟩, A240, H⟩ := H
        replace H : (some (t210, t211)) = some (r1, r2) := H
        have A24 := zaa.mk A240
        clear A240
        simp only [Option.some.injEq, Prod.mk.injEq] at H
        obtain ⟨rfl, rfl⟩ := H
        go_wp2_with (first | ((with_reducible refine zaq (f := 77) rfl ?_); refine zbf (some 69) rfl rfl Try.func77 (by kernel_rfl) rfl #[.slice A0 l0.length c0, .int .i64 t194, .int .i64 (wrap64 (t195 + a3)), .int .i64 t196, .int .i64 (wrap64 (t197 - a3)), .int .u8 122] rfl (by (try simp only [ybf, ybg, ybh]); first | done | rfl | (simp only [ybj, ybi]; rfl)) ?_; (with_reducible refine (spec_l1Put.calls _ _ l0 t194 (wrap64 (t195 + a3)) t196 (wrap64 (t197 - a3)) 122 t207 _ ?side1 ?side2 A23.out).mono ?_); (case side1 => repeat (first | exact (Kd.C_below HR0.out HB.out) | (with_reducible refine ybv ?_ _) | (with_reducible refine ybw ?_ _) | (with_reducible refine ybx ?_))); (case side2 => exact HC0.out); rintro e w25 ⟨v208, rfl, ho0, hb⟩; refine ⟨_, rfl, ?_⟩; have n0_ := zaa.mk (Kd.R_lower ho0 (zai (by repeat (first | (with_reducible first | exact HB.out | apply zac | apply zab | apply zad) | exact HB.out)))); have n1_ := zaa.mk (zag (by repeat (first | (with_reducible first | exact HB.out | apply zac | apply zab | apply zad) | exact HB.out)) hb); clear HB; have HO209 := n0_; have HB := n1_; clear n0_ n1_; (try clear hb); (try clear hb2); (try clear hk); (try clear hi); (try clear ho0); obtain ⟨Ao26, co26, eo26⟩ := Kd.R_slice HO209.out; subst eo26) | ((with_reducible refine zaq (f := 76) rfl ?_); refine zbf (some 70) rfl rfl Try.func76 (by kernel_rfl) rfl #[.slice Ao26 t207.length co26] rfl (by (try simp only [ybf, ybg, ybh]); first | done | rfl | (simp only [ybj, ybi]; rfl)) ?_; (with_reducible refine (spec_l1Done.calls kj18 _ _ t207 t210 t211 _ ?side1 ?side2 A24.out).mono ?_); (case side1 => repeat (first | exact (Kd.R_reads' HO209.out).2.2 | (with_reducible refine ybv ?_ _) | (with_reducible refine ybw ?_ _) | (with_reducible refine ybx ?_))); (case side2 => exact (Kd.R_reads' HO209.out).2.1); rintro e w27 ⟨v212, rfl, ho0, hb⟩; refine ⟨_, rfl, ?_⟩; have n0_ := zaa.mk (Kd.R_elder' (by (with_reducible repeat (first | apply ybp | apply ybq | apply ybr)); exact HO209.out) (Kd.R_base ho0) hb); have n1_ := zaa.mk (Kd.R_lower (Kd.R_new' ho0 (Kd.R_lt (by (with_reducible repeat (first | apply ybp | apply ybq | apply ybr)); exact HO209.out))) (zai (by repeat (first | (with_reducible first | exact HB.out | apply zac | apply zab | apply zad) | exact HB.out)))); have n2_ := zaa.mk (zag (by repeat (first | (with_reducible first | exact HB.out | apply zac | apply zab | apply zad) | exact HB.out)) hb); clear HO209; clear HB; have HO209 := n0_; have HO213 := n1_; have HB := n2_; clear n0_ n1_ n2_; (try clear hb); (try clear hb2); (try clear hk); (try clear hi); (try clear ho0)))
        go_ret2
        exact ⟨_, by first | rfl | (simp [zan, zam] <;> rfl) | (simp [*, zan, zam] <;> rfl), by (with_reducible repeat (first | apply ybp | apply ybq | apply ybr)); exact Kd.R_mono HO213.out (fun _ hk => trivial), by repeat (first | (with_reducible first | exact HB.out | apply zac | apply zab | apply zad) | exact HB.out)⟩
       ·replace c22 := Bool.eq_false_iff.mpr c22
        subst c22
        have H1 : ((spec_l1None.f).bind fun bt214 => (some (bt214.1, bt214.2))) = some (r1, r2) := by rw [if_neg (show ¬ (false = true) by decide)] at H; exact H
        clear H
        have H := H1
        clear H1
        replace H := ybm.mp H
        obtain ⟨⟨t214, t215⟩, A280, H⟩ := H
        replace H : (some (t214, t215)) = some (r1, r2) := H
        have A28 := zaa.mk A280
        clear A280
        simp only [Option.some.injEq, Prod.mk.injEq] at H
        obtain ⟨rfl, rfl⟩ := H
        go_wp2_with (first | ((with_reducible refine zaq (f := 74) rfl ?_); refine zbf (some 73) rfl rfl Try.func74 (by kernel_rfl) rfl #[] rfl (by (try simp only [ybf, ybg, ybh]); first | done | rfl | (simp only [ybj, ybi]; rfl)) ?_; (with_reducible refine (spec_l1None.calls  t214 t215 _ A28.out).mono ?_); rintro e w29 ⟨v216, rfl, ho0, hb⟩; refine ⟨_, rfl, ?_⟩; have n0_ := zaa.mk (Kd.R_lower ho0 (zai (by repeat (first | (with_reducible first | exact HB.out | apply zac | apply zab | apply zad) | exact HB.out)))); have n1_ := zaa.mk (zag (by repeat (first | (with_reducible first | exact HB.out | apply zac | apply zab | apply zad) | exact HB.out)) hb); clear HB; have HO217 := n0_; have HB := n1_; clear n0_ n1_; (try clear hb); (try clear hb2); (try clear hk); (try clear hi); (try clear ho0)))
        go_ret2
        exact ⟨_, by first | rfl | (simp [zan, zam] <;> rfl) | (simp [*, zan, zam] <;> rfl), by (with_reducible repeat (first | apply ybp | apply ybq | apply ybr)); exact HO217.out, by repeat (first | (with_reducible first | exact HB.out | apply zac | apply zab | apply zad) | exact HB.out)⟩
 ·replace c6 := Bool.eq_false_iff.mpr c6
  subst c6
  have H1 : ((spec_l1None.f).bind fun bt190 => (some (bt190.1, bt190.2))) = some (r1, r2) := by rw [if_neg (show ¬ (false = true) by decide)] at H; exact H
  clear H
  have H := H1
  clear H1
  replace H := ybm.mp H
  obtain ⟨⟨t190, t191⟩, A300, H⟩ := H
  replace H : (some (t190, t191)) = some (r1, r2) := H
  have A30 := zaa.mk A300
  clear A300
  simp only [Option.some.injEq, Prod.mk.injEq] at H
  obtain ⟨rfl, rfl⟩ := H
  go_enter Try.func147, Try.ntmps147
  go_wp2_with (first | ((with_reducible refine zaq (f := 73) rfl ?_); refine zbf (some 16) rfl rfl Try.func73 (by kernel_rfl) rfl #[.slice A0 l0.length c0, .int .i64 a1] rfl (by (try simp only [ybf, ybg, ybh]); first | done | rfl | (simp only [ybj, ybi]; rfl)) ?_; (with_reducible refine (spec_l1Given.calls k _ _ l0 a1 false _ ?side1 ?side2 A5.out).mono ?_); (case side1 => repeat (first | exact HR0.out | (with_reducible refine ybv ?_ _) | (with_reducible refine ybw ?_ _) | (with_reducible refine ybx ?_))); (case side2 => exact HC0.out); rintro e w31 ⟨rfl, hb⟩; refine ⟨_, rfl, ?_⟩; have n0_ := zaa.mk (zag (by repeat (first | (with_reducible first | exact HB.out | apply zac | apply zab | apply zad) | exact HB.out)) hb); clear HB; have HB := n0_; clear n0_; (try clear hb); (try clear hb2); (try clear hk); (try clear hi)) | ((with_reducible refine zaq (f := 74) rfl ?_); refine zbf (some 18) rfl rfl Try.func74 (by kernel_rfl) rfl #[] rfl (by (try simp only [ybf, ybg, ybh]); first | done | rfl | (simp only [ybj, ybi]; rfl)) ?_; (with_reducible refine (spec_l1None.calls  t190 t191 _ A30.out).mono ?_); rintro e w32 ⟨v192, rfl, ho0, hb⟩; refine ⟨_, rfl, ?_⟩; have n0_ := zaa.mk (Kd.R_lower ho0 (zai (by repeat (first | (with_reducible first | exact HB.out | apply zac | apply zab | apply zad) | exact HB.out)))); have n1_ := zaa.mk (zag (by repeat (first | (with_reducible first | exact HB.out | apply zac | apply zab | apply zad) | exact HB.out)) hb); clear HB; have HO193 := n0_; have HB := n1_; clear n0_ n1_; (try clear hb); (try clear hb2); (try clear hk); (try clear hi); (try clear ho0)))
  go_ret2
  exact ⟨_, by first | rfl | (simp [zan, zam] <;> rfl) | (simp [*, zan, zam] <;> rfl), by (with_reducible repeat (first | apply ybp | apply ybq | apply ybr)); exact HO193.out, by repeat (first | (with_reducible first | exact HB.out | apply zac | apply zab | apply zad) | exact HB.out)⟩
def spec_l91Cut.l0 : Nat → List ByteArray → Int → Int → List Int → Int → Option (List ByteArray × Int)
 | 0, _, _, _, _, _ => none
 | k + 1, x1, x2, x7, x1000, x1001 => if x7 < x2 then ((spec_l1Rooms.f k x1).bind fun t221 => ((spec_l6Rd_pick.f k x1000 x1001 t221).bind fun bt222 => ((spec_l6Rd_of.f k x1000 bt222.2 (([(⟨#[104]⟩ : ByteArray), (⟨#[118]⟩ : ByteArray)] : List ByteArray))).bind fun bt227 => ((spec_l6Rd_pick.f k x1000 bt227.2 3).bind fun bt229 => ((spec_PlanSplit.f k x1 bt222.1 bt227.1 (wrap64 (1 + bt229.1))).bind fun bt231 => (if bt231.2 = true then (spec_l91Cut.l0 k bt231.1 x2 (wrap64 (x7 + 1)) x1000 bt229.2) else (spec_l91Cut.l0 k x1 x2 (wrap64 (x7 + 1)) x1000 bt229.2))))))) else (some (x1, x1001))
def spec_l91Cut.f (k : Nat) (s0_0 : List Int) (s0_1 : Int) (l1 : List ByteArray) (a2 : Int) : Option (List ByteArray × Int) := spec_l91Cut.l0 k l1 a2 0 s0_0 s0_1
set_option maxHeartbeats 8000000 in
set_option maxRecDepth 100000 in
theorem spec_l91Cut.calls (k : Nat) (g : Nat) (s0_0 : List Int) (s0_1 : Int) (P1_ : Nat → Prop) (A1 : Option Addr) (c1 : Nat) (l1 : List ByteArray) (a2 : Int) (r1 : List ByteArray) (r2 : Int) (w0 w : World) (hI : zae w0 w g s0_0 s0_1) (hB : Below w0.heap.size w0 w) (hs1 : Kd.V Kd.string 9 w w.heap.size (fun k_ => P1_ k_ ∧ k_ ≠ g) (.slice A1 l1.length c1) l1) (h : spec_l91Cut.f k s0_0 s0_1 l1 a2 = some (r1, r2)) :
  Calls Try.prog 134 #[.pointer (some ⟨g, 0, none⟩), .slice A1 l1.length c1, .int .i64 a2] w fun e w' => ∃ v0_ : Value, e = .returned (v0_) ∧ Kd.V Kd.string 9 w' w.heap.size (fun k_ => (P1_ k_ ∨ w.heap.size ≤ k_)) v0_ r1 ∧ zae w0 w' g s0_0 r2 ∧ Below w0.heap.size w0 w' ∧ zaf w w' g none := by
 have HO1 := zaa.mk (show Kd.V Kd.string 9 w w.heap.size (fun k_ => (P1_ k_ ∨ w.heap.size ≤ k_) ∧ k_ ≠ g) (.slice A1 l1.length c1) l1 from Kd.V_mono hs1 (fun k_ hk => ⟨.inl hk.1, hk.2⟩))
 have HI0 := zaa.mk hI
 have HK := zaa.mk (zaf.refl w g none)
 have HL := zaa.mk hB.size
 clear hI
 have HW0 := zaa.mk hB.size
 have HB := zaa.mk hB
 clear hB
 have H : (spec_l91Cut.l0 k l1 a2 0 s0_0 s0_1) = some (r1, r2) := h
 clear h
 have H' := zaa.mk H
 clear H
 go_enter Try.func134, Try.ntmps134
 go_wp2
 go_loopg [1, 7] k (fun kq v1 v7 w' => ∃ (x1_1 : List ByteArray) (x7_1 : Int) (x1001_1 : Int), v7 = .int .i64 x7_1 ∧ zaa (spec_l91Cut.l0 kq x1_1 a2 x7_1 s0_0 x1001_1 = some (r1, r2)) ∧ zaa (kq ≤ k) ∧ zaa (Kd.V Kd.string 9 w' w.heap.size (fun k_ => (P1_ k_ ∨ w.heap.size ≤ k_) ∧ k_ ≠ g) v1 x1_1) ∧ zaa (zae w0 w' g s0_0 x1001_1) ∧ zaa (zaf w w' g none) ∧ zaa (Below w0.heap.size w0 w'))
 case atStart => exact ⟨(l1), (0), (s0_1), (by first | rfl | (simp; done) | (simp [*]; done)), H', ⟨ybo _⟩, ⟨by (with_reducible repeat (first | apply ybs | apply ybt | apply ybu)); exact HO1.out⟩, ⟨by repeat (first | (with_reducible first | exact HI0.out | apply zae.alloc | apply zae.drewN | apply zae.drew | apply zae.set_1) | exact HI0.out)⟩, ⟨by repeat (first | (with_reducible first | exact HK.out | apply zaf.set_ | apply zaj | apply zal | apply zak) | exact HK.out)⟩, ⟨by repeat (first | (with_reducible first | exact HB.out | apply zac | apply zab | apply zad | refine zah ?_ (zae.ge HI0.out)) | exact HB.out)⟩⟩
 case round =>
  clear H'
  try clear c1
  try clear p2
  obtain ⟨x1_1, x7_1, x1001_1, rfl, HA, HK1, HO_1, HI0, HK, HB⟩ := hrel
  cases gk with
  | zero => exact absurd HA.out (by simp [spec_l91Cut.l0])
  | succ k1 =>
   have H := HA.out
   clear HA
   simp only [spec_l91Cut.l0] at H
   by_cases c4 : x7_1 < a2
   ·rw [if_pos c4] at H
    have c4b0 : decide (x7_1 < a2) = true := decide_eq_true c4
    clear c4
    replace H := ybm.mp H
    obtain ⟨t221, A50, H⟩ := H
    replace H : ((spec_l6Rd_pick.f k1 s0_0 x1001_1 t221).bind fun bt222 => ((spec_l6Rd_of.f k1 s0_0 bt222.2 (([(⟨#[104]⟩ : ByteArray), (⟨#[118]⟩ : ByteArray)] : List ByteArray))).bind fun bt227 => ((spec_l6Rd_pick.f k1 s0_0 bt227.2 3).bind fun bt229 => ((spec_PlanSplit.f k1 x1_1 bt222.1 bt227.1 (wrap64 (1 + bt229.1))).bind fun bt231 => (if bt231.2 = true then (spec_l91Cut.l0 k1 bt231.1 a2 (wrap64 (x7_1 + 1)) s0_0 bt229.2) else (spec_l91Cut.l0 k1 x1_1 a2 (wrap64 (x7_1 + 1)) s0_0 bt229.2)))))) = some (r1, r2) := H
    have A5 := zaa.mk A50
    clear A50
    replace H := ybm.mp H
    obtain ⟨⟨t222, t223⟩, A60, H⟩ := H
    replace H : ((spec_l6Rd_of.f k1 s0_0 t223 (([(⟨#[104]⟩ : ByteArray), (⟨#[118]⟩ : ByteArray)] : List ByteArray))).bind fun bt227 => ((spec_l6Rd_pick.f k1 s0_0 bt227.2 3).bind fun bt229 => ((spec_PlanSplit.f k1 x1_1 t222 bt227.1 (wrap64 (1 + bt229.1))).bind fun bt231 => (if bt231.2 = true then (spec_l91Cut.l0 k1 bt231.1 a2 (wrap64 (x7_1 + 1)) s0_0 bt229.2) else (spec_l91Cut.l0 k1 x1_1 a2 (wrap64 (x7_1 + 1)) s0_0 bt229.2))))) = some (r1, r2) := H
    have A6 := zaa.mk A60
    clear A60
    obtain ⟨y224, hy224⟩ : ∃ y_ : List ByteArray, y_ = (([(⟨#[104]⟩ : ByteArray), (⟨#[118]⟩ : ByteArray)] : List ByteArray)) := ⟨_, rfl⟩
    replace H : ((spec_l6Rd_of.f k1 s0_0 t223 y224).bind fun bt227 => ((spec_l6Rd_pick.f k1 s0_0 bt227.2 3).bind fun bt229 => ((spec_PlanSplit.f k1 x1_1 t222 bt227.1 (wrap64 (1 + bt229.1))).bind fun bt231 => (if bt231.2 = true then (spec_l91Cut.l0 k1 bt231.1 a2 (wrap64 (x7_1 + 1)) s0_0 bt229.2) else (spec_l91Cut.l0 k1 x1_1 a2 (wrap64 (x7_1 + 1)) s0_0 bt229.2))))) = some (r1, r2) := by first | (rw [hy224]; with_reducible exact H) | (have H2_ := (ybn _ _).symm.trans H; rw [hy224]; with_reducible exact H2_) | (have H2_ := (ybn _ _).symm.trans H; with_reducible exact H2_) | with_reducible exact H | (rw [hy224]; exact H) | exact H
    have Ny224 := zaa.mk hy224
    clear hy224
    replace H := ybm.mp H
    obtain ⟨⟨t227, t228⟩, A70, H⟩ := H
    replace H : ((spec_l6Rd_pick.f k1 s0_0 t228 3).bind fun bt229 => ((spec_PlanSplit.f k1 x1_1 t222 t227 (wrap64 (1 + bt229.1))).bind fun bt231 => (if bt231.2 = true then (spec_l91Cut.l0 k1 bt231.1 a2 (wrap64 (x7_1 + 1)) s0_0 bt229.2) else (spec_l91Cut.l0 k1 x1_1 a2 (wrap64 (x7_1 + 1)) s0_0 bt229.2)))) = some (r1, r2) := H
    have A7 := zaa.mk A70
    clear A70
    replace H := ybm.mp H
    obtain ⟨⟨t229, t230⟩, A80, H⟩ := H
    replace H : ((spec_PlanSplit.f k1 x1_1 t222 t227 (wrap64 (1 + t229))).bind fun bt231 => (if bt231.2 = true then (spec_l91Cut.l0 k1 bt231.1 a2 (wrap64 (x7_1 + 1)) s0_0 t230) else (spec_l91Cut.l0 k1 x1_1 a2 (wrap64 (x7_1 + 1)) s0_0 t230))) = some (r1, r2) := H
    have A8 := zaa.mk A80
    clear A80
    replace H := ybm.mp H
    obtain ⟨⟨t231, t232⟩, A90, H⟩ := H
    replace H : (if t232 = true then (spec_l91Cut.l0 k1 t231 a2 (wrap64 (x7_1 + 1)) s0_0 t230) else (spec_l91Cut.l0 k1 x1_1 a2 (wrap64 (x7_1 + 1)) s0_0 t230)) = some (r1, r2) := H
    have A9 := zaa.mk A90
    clear A90
    by_cases c10 : t232 = true
    ·subst c10
     have H1 : (spec_l91Cut.l0 k1 t231 a2 (wrap64 (x7_1 + 1)) s0_0 t230) = some (r1, r2) := by rw [if_pos rfl] at H; exact H
     clear H
     have H := H1
     clear H1
     have H' := zaa.mk H
     clear H
     obtain ⟨Ao11, co11, eo11⟩ := Kd.V_slice HO_1.out
     subst eo11
     go_wp2_with (first | ((with_reducible refine zaq (f := 64) rfl ?_); refine zbf (some 18) rfl rfl Try.func64 (by kernel_rfl) rfl #[.slice Ao11 x1_1.length co11] rfl (by (try simp only [ybf, ybg, ybh]); first | done | rfl | (simp only [ybj, ybi]; rfl)) ?_; (with_reducible refine (spec_l1Rooms.calls k1 _ _ x1_1 t221 _ ?side1 ?side2 A5.out).mono ?_); (case side1 => repeat (first | exact (Kd.V_reads' HO_1.out).2.2 | (with_reducible refine ybv ?_ _) | (with_reducible refine ybw ?_ _) | (with_reducible refine ybx ?_))); (case side2 => exact (Kd.V_reads' HO_1.out).2.1); rintro e w12 ⟨rfl, hb⟩; refine ⟨_, rfl, ?_⟩; have n0_ := zaa.mk (Kd.V_below (by (with_reducible repeat (first | apply ybs | apply ybt | apply ybu)); exact HO_1.out) hb); have n1_ := zaa.mk (zae.below (by repeat (first | (with_reducible first | exact HI0.out | apply zae.alloc | apply zae.drewN | apply zae.drew | apply zae.set_1) | exact HI0.out)) hb); have n2_ := zaa.mk (zaf.trans (by repeat (first | (with_reducible first | exact HK.out | apply zaf.set_ | apply zaj | apply zal | apply zak) | exact HK.out)) (zaf.of_below hb g none) (.inl rfl)); have n3_ := zaa.mk (zag (by repeat (first | (with_reducible first | exact HB.out | apply zac | apply zab | apply zad | refine zah ?_ (zae.ge HI0.out)) | exact HB.out)) hb); clear HO_1; clear HI0; clear HK; clear HB; have HO_1 := n0_; have HI0 := n1_; have HK := n2_; have HB := n3_; clear n0_ n1_ n2_ n3_; (try clear hb); (try clear hb2); (try clear hk); (try clear hi)) | ((with_reducible refine zaq (f := 63) rfl ?_); refine zbf (some 19) rfl rfl Try.func63 (by kernel_rfl) rfl #[.pointer (some ⟨g, 0, none⟩), .int .i64 t221] rfl (by (try simp only [ybf, ybg, ybh]); first | done | rfl | (simp only [ybj, ybi]; rfl)) ?_; (with_reducible refine (spec_l6Rd_pick.calls k1 g s0_0 x1001_1 t221 t222 t223 w0 _ ?side1 ?side2 A6.out).mono ?_); (case side1 => repeat (first | (with_reducible first | exact HI0.out | apply zae.alloc | apply zae.drewN | apply zae.drew | apply zae.set_1) | exact HI0.out)); (case side2 => repeat (first | (with_reducible first | exact HB.out | apply zac | apply zab | apply zad | refine zah ?_ (zae.ge HI0.out)) | exact HB.out)); rintro e w13 ⟨rfl, hi, hb, hk⟩; refine ⟨_, rfl, ?_⟩; have n0_ := zaa.mk (Kd.V_mono (Kd.V_keep (Kd.V_mono (ok := fun k_ => (((P1_ k_ ∨ w.heap.size ≤ k_)) ∧ k_ ≠ g)) (by (with_reducible repeat (first | apply ybs | apply ybt | apply ybu)); exact HO_1.out) (fun k_ hk_ => (⟨hk_, hk_.2⟩ : _ ∧ k_ ≠ g))) hk (fun _ h => h.2)) (fun _ h => h.1)); have n1_ := zaa.mk (zaf.trans (by repeat (first | (with_reducible first | exact HK.out | apply zaf.set_ | apply zaj | apply zal | apply zak) | exact HK.out)) hk (.inl rfl)); have n2_ := zaa.mk (hb); have n3_ := zaa.mk (hi); clear HO_1; clear HK; clear HB; clear HI0; have HO_1 := n0_; have HK := n1_; have HB := n2_; have HI0 := n3_; clear n0_ n1_ n2_ n3_; (try clear hb); (try clear hb2); (try clear hk); (try clear hi)) | ((with_reducible refine zbc (N := 24) rfl ?_); refine Kd.R_lit Kd.string _ 9 ?hg (N := 24) ?hd (xs := ([(⟨#[104]⟩ : ByteArray), (⟨#[118]⟩ : ByteArray)] : List ByteArray)) (inner := [.string (⟨#[104]⟩ : ByteArray), .string (⟨#[118]⟩ : ByteArray)]) (ok := fun _ => True) (okp := fun _ => True) ?hr ?hp (fun _ hk => hk) trivial (Below.refl _ _) (ybo _) (by simp) ?_; (case hd => rfl); (case hg => rfl); (case hr => first | (go_simp; done) | (go_simp; rfl)); (case hp => exact (Reps.one (show Kd.M Kd.string _ _ _ (⟨#[104]⟩ : ByteArray) [.string (⟨#[104]⟩ : ByteArray)] from rfl) (Reps.one (show Kd.M Kd.string _ _ _ (⟨#[118]⟩ : ByteArray) [.string (⟨#[118]⟩ : ByteArray)] from rfl) (Reps.none _ _)))); intro v225 w14 ho15 hb hg_ hnew_; clear hg_ hnew_; (first | rw [← Ny224.out] at ho15 | (simp only [Int.reduceToNat] at ho15; rw [← Ny224.out] at ho15)); have n0_ := zaa.mk (Kd.V_elder' (by (with_reducible repeat (first | apply ybs | apply ybt | apply ybu)); exact HO_1.out) (Kd.R_base ho15) hb); have n1_ := zaa.mk (Kd.R_lower (Kd.R_newM (M := fun k_ => (w.heap.size ≤ k_)) ho15 (zbh (w := w) (g := g) (row := none) (by repeat (first | (with_reducible first | exact HK.out | apply zaf.set_ | apply zaj | apply zal | apply zak) | exact HK.out))) (fun k_ h_ => h_)) (zbh (w := w) (g := g) (row := none) (by repeat (first | (with_reducible first | exact HK.out | apply zaf.set_ | apply zaj | apply zal | apply zak) | exact HK.out)))); have n2_ := zaa.mk (zae.below (by repeat (first | (with_reducible first | exact HI0.out | apply zae.alloc | apply zae.drewN | apply zae.drew | apply zae.set_1) | exact HI0.out)) hb); have n3_ := zaa.mk (zaf.trans (by repeat (first | (with_reducible first | exact HK.out | apply zaf.set_ | apply zaj | apply zal | apply zak) | exact HK.out)) (zaf.of_below hb g none) (.inl rfl)); have n4_ := zaa.mk (zag (by repeat (first | (with_reducible first | exact HB.out | apply zac | apply zab | apply zad | refine zah ?_ (zae.ge HI0.out)) | exact HB.out)) hb); clear HO_1; clear HI0; clear HK; clear HB; have HO_1 := n0_; have HO226 := n1_; have HI0 := n2_; have HK := n3_; have HB := n4_; clear n0_ n1_ n2_ n3_ n4_; clear hb ho15; obtain ⟨Ao16, co16, eo16⟩ := Kd.R_slice HO226.out; subst eo16) | ((with_reducible refine zaq (f := 148) rfl ?_); refine zbf (some 25) rfl rfl Try.func148 (by kernel_rfl) rfl #[.pointer (some ⟨g, 0, none⟩), .slice Ao16 y224.length co16] rfl (by (try simp only [ybf, ybg, ybh]); first | done | rfl | (simp only [ybj, ybi]; rfl)) ?_; (with_reducible refine (spec_l6Rd_of.calls k1 g s0_0 t223 _ _ y224 t227 t228 w0 _ ?side1 ?side2 ?side3 ?side4 ?side5 A7.out).mono ?_); (case side1 => repeat (first | (with_reducible first | exact HI0.out | apply zae.alloc | apply zae.drewN | apply zae.drew | apply zae.set_1) | exact HI0.out)); (case side2 => repeat (first | (with_reducible first | exact HB.out | apply zac | apply zab | apply zad | refine zah ?_ (zae.ge HI0.out)) | exact HB.out)); (case side3 => repeat (first | exact (Kd.R_reads' HO226.out).2.2 | (with_reducible refine ybv ?_ _) | (with_reducible refine ybw ?_ _) | (with_reducible refine ybx ?_))); (case side4 => exact (Kd.R_reads' HO226.out).2.1); (case side5 => exact far_slice (zae.own_ne HI0.out HO226.out (by decide))); rintro e w17 ⟨rfl, hi, hb, hk⟩; refine ⟨_, rfl, ?_⟩; have n0_ := zaa.mk (Kd.V_mono (Kd.V_keep (Kd.V_mono (ok := fun k_ => ((((P1_ k_ ∨ w.heap.size ≤ k_)) ∧ k_ ≠ g) ∧ some k_ ≠ (.slice Ao16 y224.length co16 : Value).ownBlock)) (by (with_reducible repeat (first | apply ybs | apply ybt | apply ybu)); exact HO_1.out) (fun k_ hk_ => (⟨hk_, hk_.1.2⟩ : _ ∧ k_ ≠ g))) hk (fun _ h => h.2)) (fun _ h => h.1)); have n1_ := zaa.mk (Kd.R_mono (Kd.R_keep (zae.apart (show zae w0 _ g s0_0 t223 from by repeat (first | (with_reducible first | exact HI0.out | apply zae.alloc | apply zae.drewN | apply zae.drew | apply zae.set_1) | exact HI0.out)) (by (with_reducible repeat (first | apply ybp | apply ybq | apply ybr)); exact HO226.out) (by decide)) hk (fun _ h => h.2)) (fun _ h => h.1)); have n2_ := zaa.mk (zaf.trans (by repeat (first | (with_reducible first | exact HK.out | apply zaf.set_ | apply zaj | apply zal | apply zak) | exact HK.out)) hk (.inl rfl)); have n3_ := zaa.mk (hb); have n4_ := zaa.mk (hi); clear HO_1; clear HO226; clear HK; clear HB; clear HI0; have HO_1 := n0_; have HO226 := n1_; have HK := n2_; have HB := n3_; have HI0 := n4_; clear n0_ n1_ n2_ n3_ n4_; (try clear hb); (try clear hb2); (try clear hk); (try clear hi)) | ((with_reducible refine zaq (f := 63) rfl ?_); refine zbf (some 27) rfl rfl Try.func63 (by kernel_rfl) rfl #[.pointer (some ⟨g, 0, none⟩), .int .i64 3] rfl (by (try simp only [ybf, ybg, ybh]); first | done | rfl | (simp only [ybj, ybi]; rfl)) ?_; (with_reducible refine (spec_l6Rd_pick.calls k1 g s0_0 t228 3 t229 t230 w0 _ ?side1 ?side2 A8.out).mono ?_); (case side1 => repeat (first | (with_reducible first | exact HI0.out | apply zae.alloc | apply zae.drewN | apply zae.drew | apply zae.set_1) | exact HI0.out)); (case side2 => repeat (first | (with_reducible first | exact HB.out | apply zac | apply zab | apply zad | refine zah ?_ (zae.ge HI0.out)) | exact HB.out)); rintro e w18 ⟨rfl, hi, hb, hk⟩; refine ⟨_, rfl, ?_⟩; have n0_ := zaa.mk (Kd.V_mono (Kd.V_keep (Kd.V_mono (ok := fun k_ => ((((P1_ k_ ∨ w.heap.size ≤ k_)) ∧ k_ ≠ g) ∧ some k_ ≠ (.slice Ao16 y224.length co16 : Value).ownBlock)) (by (with_reducible repeat (first | apply ybs | apply ybt | apply ybu)); exact HO_1.out) (fun k_ hk_ => (⟨hk_, hk_.1.2⟩ : _ ∧ k_ ≠ g))) hk (fun _ h => h.2)) (fun _ h => h.1)); have n1_ := zaa.mk (Kd.R_mono (Kd.R_keep (zae.apart (show zae w0 _ g s0_0 t228 from by repeat (first | (with_reducible first | exact HI0.out | apply zae.alloc | apply zae.drewN | apply zae.drew | apply zae.set_1) | exact HI0.out)) (by (with_reducible repeat (first | apply ybp | apply ybq | apply ybr)); exact HO226.out) (by decide)) hk (fun _ h => h.2)) (fun _ h => h.1)); have n2_ := zaa.mk (zaf.trans (by repeat (first | (with_reducible first | exact HK.out | apply zaf.set_ | apply zaj | apply zal | apply zak) | exact HK.out)) hk (.inl rfl)); have n3_ := zaa.mk (hb); have n4_ := zaa.mk (hi); clear HO_1; clear HO226; clear HK; clear HB; clear HI0; have HO_1 := n0_; have HO226 := n1_; have HK := n2_; have HB := n3_; have HI0 := n4_; clear n0_ n1_ n2_ n3_ n4_; (try clear hb); (try clear hb2); (try clear hk); (try clear hi)) | ((with_reducible refine zaq (f := 147) rfl ?_); refine zbf (some 29) rfl rfl Try.func147 (by kernel_rfl) rfl #[.slice Ao11 x1_1.length co11, .int .i64 t222, .string t227, .int .i64 (wrap64 (1 + t229))] rfl (by (try simp only [ybf, ybg, ybh]); first | done | rfl | (simp only [ybj, ybi]; rfl)) ?_; (with_reducible refine (spec_PlanSplit.calls k1 _ _ x1_1 t222 t227 (wrap64 (1 + t229)) t231 true _ ?side1 ?side2 A9.out).mono ?_); (case side1 => repeat (first | exact (Kd.V_reads' HO_1.out).2.2 | (with_reducible refine ybv ?_ _) | (with_reducible refine ybw ?_ _) | (with_reducible refine ybx ?_))); (case side2 => exact (Kd.V_reads' HO_1.out).2.1); rintro e w19 ⟨v233, rfl, ho0, hb⟩; refine ⟨_, rfl, ?_⟩; have n0_ := zaa.mk (Kd.V_elder' (by (with_reducible repeat (first | apply ybs | apply ybt | apply ybu)); exact HO_1.out) (Kd.R_base ho0) hb); have n1_ := zaa.mk (Kd.R_elder' (by (with_reducible repeat (first | apply ybp | apply ybq | apply ybr)); exact HO226.out) (Kd.R_base ho0) hb); have n2_ := zaa.mk (Kd.R_lower (Kd.R_new' (Kd.R_newM (M := fun k_ => (w.heap.size ≤ k_)) ho0 (zbh (w := w) (g := g) (row := none) (by repeat (first | (with_reducible first | exact HK.out | apply zaf.set_ | apply zaj | apply zal | apply zak) | exact HK.out))) (fun k_ h_ => h_)) (Kd.R_lt (by (with_reducible repeat (first | apply ybp | apply ybq | apply ybr)); exact HO226.out))) (zbh (w := w) (g := g) (row := none) (by repeat (first | (with_reducible first | exact HK.out | apply zaf.set_ | apply zaj | apply zal | apply zak) | exact HK.out)))); have n3_ := zaa.mk (zae.below (by repeat (first | (with_reducible first | exact HI0.out | apply zae.alloc | apply zae.drewN | apply zae.drew | apply zae.set_1) | exact HI0.out)) hb); have n4_ := zaa.mk (zaf.trans (by repeat (first | (with_reducible first | exact HK.out | apply zaf.set_ | apply zaj | apply zal | apply zak) | exact HK.out)) (zaf.of_below hb g none) (.inl rfl)); have n5_ := zaa.mk (zag (by repeat (first | (with_reducible first | exact HB.out | apply zac | apply zab | apply zad | refine zah ?_ (zae.ge HI0.out)) | exact HB.out)) hb); clear HO_1; clear HO226; clear HI0; clear HK; clear HB; have HO_1 := n0_; have HO226 := n1_; have HO234 := n2_; have HI0 := n3_; have HK := n4_; have HB := n5_; clear n0_ n1_ n2_ n3_ n4_ n5_; (try clear hb); (try clear hb2); (try clear hk); (try clear hi); (try clear ho0)))
     go_roundg k1
     case measure => have := HK1.out; omega
     case rel => exact ⟨(t231), (wrap64 (x7_1 + 1)), (t230), (by first | rfl | (simp; done) | (simp [*]; done)), H', ⟨by have := HK1.out; omega⟩, ⟨Kd.V_mono (Kd.R_V (by (with_reducible repeat (first | apply ybp | apply ybq | apply ybr)); exact Kd.R_mono (ok' := fun k_ => w.heap.size ≤ k_ ∧ k_ ≠ g) (zae.apart HI0.out HO234.out (by decide)) (fun _ hk => ⟨by first | exact hk.1.1.1 | exact hk.1.1.2 | exact hk.1.2 | exact hk.1.1, hk.2⟩))) (fun k_ hk => by first | exact ⟨(.inr (hk.1)), hk.2⟩ | exact (.inr (hk)))⟩, ⟨by repeat (first | (with_reducible first | exact HI0.out | apply zae.alloc | apply zae.drewN | apply zae.drew | apply zae.set_1) | exact HI0.out)⟩, ⟨by repeat (first | (with_reducible first | exact HK.out | apply zaf.set_ | apply zaj | apply zal | apply zak) | exact HK.out)⟩, ⟨by repeat (first | (with_reducible first | exact HB.out | apply zac | apply zab | apply zad | refine zah ?_ (zae.ge HI0.out)) | exact HB.out)⟩⟩
    ·replace c10 := Bool.eq_false_iff.mpr c10
     subst c10
     have H1 : (spec_l91Cut.l0 k1 x1_1 a2 (wrap64 (x7_1 + 1)) s0_0 t230) = some (r1, r2) := by rw [if_neg (show ¬ (false = true) by decide)] at H; exact H
     clear H
     have H := H1
     clear H1
     have H' := zaa.mk H
     clear H
     obtain ⟨Ao20, co20, eo20⟩ := Kd.V_slice HO_1.out
     subst eo20
     go_wp2_with (first | ((with_reducible refine zaq (f := 64) rfl ?_); refine zbf (some 18) rfl rfl Try.func64 (by kernel_rfl) rfl #[.slice Ao20 x1_1.length co20] rfl (by (try simp only [ybf, ybg, ybh]); first | done | rfl | (simp only [ybj, ybi]; rfl)) ?_; (with_reducible refine (spec_l1Rooms.calls k1 _ _ x1_1 t221 _ ?side1 ?side2 A5.out).mono ?_); (case side1 => repeat (first | exact (Kd.V_reads' HO_1.out).2.2 | (with_reducible refine ybv ?_ _) | (with_reducible refine ybw ?_ _) | (with_reducible refine ybx ?_))); (case side2 => exact (Kd.V_reads' HO_1.out).2.1); rintro e w21 ⟨rfl, hb⟩; refine ⟨_, rfl, ?_⟩; have n0_ := zaa.mk (Kd.V_below (by (with_reducible repeat (first | apply ybs | apply ybt | apply ybu)); exact HO_1.out) hb); have n1_ := zaa.mk (zae.below (by repeat (first | (with_reducible first | exact HI0.out | apply zae.alloc | apply zae.drewN | apply zae.drew | apply zae.set_1) | exact HI0.out)) hb); have n2_ := zaa.mk (zaf.trans (by repeat (first | (with_reducible first | exact HK.out | apply zaf.set_ | apply zaj | apply zal | apply zak) | exact HK.out)) (zaf.of_below hb g none) (.inl rfl)); have n3_ := zaa.mk (zag (by repeat (first | (with_reducible first | exact HB.out | apply zac | apply zab | apply zad | refine zah ?_ (zae.ge HI0.out)) | exact HB.out)) hb); clear HO_1; clear HI0; clear HK; clear HB; have HO_1 := n0_; have HI0 := n1_; have HK := n2_; have HB := n3_; clear n0_ n1_ n2_ n3_; (try clear hb); (try clear hb2); (try clear hk); (try clear hi)) | ((with_reducible refine zaq (f := 63) rfl ?_); refine zbf (some 19) rfl rfl Try.func63 (by kernel_rfl) rfl #[.pointer (some ⟨g, 0, none⟩), .int .i64 t221] rfl (by (try simp only [ybf, ybg, ybh]); first | done | rfl | (simp only [ybj, ybi]; rfl)) ?_; (with_reducible refine (spec_l6Rd_pick.calls k1 g s0_0 x1001_1 t221 t222 t223 w0 _ ?side1 ?side2 A6.out).mono ?_); (case side1 => repeat (first | (with_reducible first | exact HI0.out | apply zae.alloc | apply zae.drewN | apply zae.drew | apply zae.set_1) | exact HI0.out)); (case side2 => repeat (first | (with_reducible first | exact HB.out | apply zac | apply zab | apply zad | refine zah ?_ (zae.ge HI0.out)) | exact HB.out)); rintro e w22 ⟨rfl, hi, hb, hk⟩; refine ⟨_, rfl, ?_⟩; have n0_ := zaa.mk (Kd.V_mono (Kd.V_keep (Kd.V_mono (ok := fun k_ => (((P1_ k_ ∨ w.heap.size ≤ k_)) ∧ k_ ≠ g)) (by (with_reducible repeat (first | apply ybs | apply ybt | apply ybu)); exact HO_1.out) (fun k_ hk_ => (⟨hk_, hk_.2⟩ : _ ∧ k_ ≠ g))) hk (fun _ h => h.2)) (fun _ h => h.1)); have n1_ := zaa.mk (zaf.trans (by repeat (first | (with_reducible first | exact HK.out | apply zaf.set_ | apply zaj | apply zal | apply zak) | exact HK.out)) hk (.inl rfl)); have n2_ := zaa.mk (hb); have n3_ := zaa.mk (hi); clear HO_1; clear HK; clear HB; clear HI0; have HO_1 := n0_; have HK := n1_; have HB := n2_; have HI0 := n3_; clear n0_ n1_ n2_ n3_; (try clear hb); (try clear hb2); (try clear hk); (try clear hi)) | ((with_reducible refine zbc (N := 24) rfl ?_); refine Kd.R_lit Kd.string _ 9 ?hg (N := 24) ?hd (xs := ([(⟨#[104]⟩ : ByteArray), (⟨#[118]⟩ : ByteArray)] : List ByteArray)) (inner := [.string (⟨#[104]⟩ : ByteArray), .string (⟨#[118]⟩ : ByteArray)]) (ok := fun _ => True) (okp := fun _ => True) ?hr ?hp (fun _ hk => hk) trivial (Below.refl _ _) (ybo _) (by simp) ?_; (case hd => rfl); (case hg => rfl); (case hr => first | (go_simp; done) | (go_simp; rfl)); (case hp => exact (Reps.one (show Kd.M Kd.string _ _ _ (⟨#[104]⟩ : ByteArray) [.string (⟨#[104]⟩ : ByteArray)] from rfl) (Reps.one (show Kd.M Kd.string _ _ _ (⟨#[118]⟩ : ByteArray) [.string (⟨#[118]⟩ : ByteArray)] from rfl) (Reps.none _ _)))); intro v225 w23 ho24 hb hg_ hnew_; clear hg_ hnew_; (first | rw [← Ny224.out] at ho24 | (simp only [Int.reduceToNat] at ho24; rw [← Ny224.out] at ho24)); have n0_ := zaa.mk (Kd.V_elder' (by (with_reducible repeat (first | apply ybs | apply ybt | apply ybu)); exact HO_1.out) (Kd.R_base ho24) hb); have n1_ := zaa.mk (Kd.R_lower (Kd.R_newM (M := fun k_ => (w.heap.size ≤ k_)) ho24 (zbh (w := w) (g := g) (row := none) (by repeat (first | (with_reducible first | exact HK.out | apply zaf.set_ | apply zaj | apply zal | apply zak) | exact HK.out))) (fun k_ h_ => h_)) (zbh (w := w) (g := g) (row := none) (by repeat (first | (with_reducible first | exact HK.out | apply zaf.set_ | apply zaj | apply zal | apply zak) | exact HK.out)))); have n2_ := zaa.mk (zae.below (by repeat (first | (with_reducible first | exact HI0.out | apply zae.alloc | apply zae.drewN | apply zae.drew | apply zae.set_1) | exact HI0.out)) hb); have n3_ := zaa.mk (zaf.trans (by repeat (first | (with_reducible first | exact HK.out | apply zaf.set_ | apply zaj | apply zal | apply zak) | exact HK.out)) (zaf.of_below hb g none) (.inl rfl)); have n4_ := zaa.mk (zag (by repeat (first | (with_reducible first | exact HB.out | apply zac | apply zab | apply zad | refine zah ?_ (zae.ge HI0.out)) | exact HB.out)) hb); clear HO_1; clear HI0; clear HK; clear HB; have HO_1 := n0_; have HO226 := n1_; have HI0 := n2_; have HK := n3_; have HB := n4_; clear n0_ n1_ n2_ n3_ n4_; clear hb ho24; obtain ⟨Ao25, co25, eo25⟩ := Kd.R_slice HO226.out; subst eo25) | ((with_reducible refine zaq (f := 148) rfl ?_); refine zbf (some 25) rfl rfl Try.func148 (by kernel_rfl) rfl #[.pointer (some ⟨g, 0, none⟩), .slice Ao25 y224.length co25] rfl (by (try simp only [ybf, ybg, ybh]); first | done | rfl | (simp only [ybj, ybi]; rfl)) ?_; (with_reducible refine (spec_l6Rd_of.calls k1 g s0_0 t223 _ _ y224 t227 t228 w0 _ ?side1 ?side2 ?side3 ?side4 ?side5 A7.out).mono ?_); (case side1 => repeat (first | (with_reducible first | exact HI0.out | apply zae.alloc | apply zae.drewN | apply zae.drew | apply zae.set_1) | exact HI0.out)); (case side2 => repeat (first | (with_reducible first | exact HB.out | apply zac | apply zab | apply zad | refine zah ?_ (zae.ge HI0.out)) | exact HB.out)); (case side3 => repeat (first | exact (Kd.R_reads' HO226.out).2.2 | (with_reducible refine ybv ?_ _) | (with_reducible refine ybw ?_ _) | (with_reducible refine ybx ?_))); (case side4 => exact (Kd.R_reads' HO226.out).2.1); (case side5 => exact far_slice (zae.own_ne HI0.out HO226.out (by decide))); rintro e w26 ⟨rfl, hi, hb, hk⟩; refine ⟨_, rfl, ?_⟩; have n0_ := zaa.mk (Kd.V_mono (Kd.V_keep (Kd.V_mono (ok := fun k_ => ((((P1_ k_ ∨ w.heap.size ≤ k_)) ∧ k_ ≠ g) ∧ some k_ ≠ (.slice Ao25 y224.length co25 : Value).ownBlock)) (by (with_reducible repeat (first | apply ybs | apply ybt | apply ybu)); exact HO_1.out) (fun k_ hk_ => (⟨hk_, hk_.1.2⟩ : _ ∧ k_ ≠ g))) hk (fun _ h => h.2)) (fun _ h => h.1)); have n1_ := zaa.mk (Kd.R_mono (Kd.R_keep (zae.apart (show zae w0 _ g s0_0 t223 from by repeat (first | (with_reducible first | exact HI0.out | apply zae.alloc | apply zae.drewN | apply zae.drew | apply zae.set_1) | exact HI0.out)) (by (with_reducible repeat (first | apply ybp | apply ybq | apply ybr)); exact HO226.out) (by decide)) hk (fun _ h => h.2)) (fun _ h => h.1)); have n2_ := zaa.mk (zaf.trans (by repeat (first | (with_reducible first | exact HK.out | apply zaf.set_ | apply zaj | apply zal | apply zak) | exact HK.out)) hk (.inl rfl)); have n3_ := zaa.mk (hb); have n4_ := zaa.mk (hi); clear HO_1; clear HO226; clear HK; clear HB; clear HI0; have HO_1 := n0_; have HO226 := n1_; have HK := n2_; have HB := n3_; have HI0 := n4_; clear n0_ n1_ n2_ n3_ n4_; (try clear hb); (try clear hb2); (try clear hk); (try clear hi)) | ((with_reducible refine zaq (f := 63) rfl ?_); refine zbf (some 27) rfl rfl Try.func63 (by kernel_rfl) rfl #[.pointer (some ⟨g, 0, none⟩), .int .i64 3] rfl (by (try simp only [ybf, ybg, ybh]); first | done | rfl | (simp only [ybj, ybi]; rfl)) ?_; (with_reducible refine (spec_l6Rd_pick.calls k1 g s0_0 t228 3 t229 t230 w0 _ ?side1 ?side2 A8.out).mono ?_); (case side1 => repeat (first | (with_reducible first | exact HI0.out | apply zae.alloc | apply zae.drewN | apply zae.drew | apply zae.set_1) | exact HI0.out)); (case side2 => repeat (first | (with_reducible first | exact HB.out | apply zac | apply zab | apply zad | refine zah ?_ (zae.ge HI0.out)) | exact HB.out)); rintro e w27 ⟨rfl, hi, hb, hk⟩; refine ⟨_, rfl, ?_⟩; have n0_ := zaa.mk (Kd.V_mono (Kd.V_keep (Kd.V_mono (ok := fun k_ => ((((P1_ k_ ∨ w.heap.size ≤ k_)) ∧ k_ ≠ g) ∧ some k_ ≠ (.slice Ao25 y224.length co25 : Value).ownBlock)) (by (with_reducible repeat (first | apply ybs | apply ybt | apply ybu)); exact HO_1.out) (fun k_ hk_ => (⟨hk_, hk_.1.2⟩ : _ ∧ k_ ≠ g))) hk (fun _ h => h.2)) (fun _ h => h.1)); have n1_ := zaa.mk (Kd.R_mono (Kd.R_keep (zae.apart (show zae w0 _ g s0_0 t228 from by repeat (first | (with_reducible first | exact HI0.out | apply zae.alloc | apply zae.drewN | apply zae.drew | apply zae.set_1) | exact HI0.out)) (by (with_reducible repeat (first | apply ybp | apply ybq | apply ybr)); exact HO226.out) (by decide)) hk (fun _ h => h.2)) (fun _ h => h.1)); have n2_ := zaa.mk (zaf.trans (by repeat (first | (with_reducible first | exact HK.out | apply zaf.set_ | apply zaj | apply zal | apply zak) | exact HK.out)) hk (.inl rfl)); have n3_ := zaa.mk (hb); have n4_ := zaa.mk (hi); clear HO_1; clear HO226; clear HK; clear HB; clear HI0; have HO_1 := n0_; have HO226 := n1_; have HK := n2_; have HB := n3_; have HI0 := n4_; clear n0_ n1_ n2_ n3_ n4_; (try clear hb); (try clear hb2); (try clear hk); (try clear hi)) | ((with_reducible refine zaq (f := 147) rfl ?_); refine zbf (some 29) rfl rfl Try.func147 (by kernel_rfl) rfl #[.slice Ao20 x1_1.length co20, .int .i64 t222, .string t227, .int .i64 (wrap64 (1 + t229))] rfl (by (try simp only [ybf, ybg, ybh]); first | done | rfl | (simp only [ybj, ybi]; rfl)) ?_; (with_reducible refine (spec_PlanSplit.calls k1 _ _ x1_1 t222 t227 (wrap64 (1 + t229)) t231 false _ ?side1 ?side2 A9.out).mono ?_); (case side1 => repeat (first | exact (Kd.V_reads' HO_1.out).2.2 | (with_reducible refine ybv ?_ _) | (with_reducible refine ybw ?_ _) | (with_reducible refine ybx ?_))); (case side2 => exact (Kd.V_reads' HO_1.out).2.1); rintro e w28 ⟨v233, rfl, ho0, hb⟩; refine ⟨_, rfl, ?_⟩; have n0_ := zaa.mk (Kd.V_elder' (by (with_reducible repeat (first | apply ybs | apply ybt | apply ybu)); exact HO_1.out) (Kd.R_base ho0) hb); have n1_ := zaa.mk (Kd.R_elder' (by (with_reducible repeat (first | apply ybp | apply ybq | apply ybr)); exact HO226.out) (Kd.R_base ho0) hb); have n2_ := zaa.mk (Kd.R_lower (Kd.R_new' (Kd.R_newM (M := fun k_ => (w.heap.size ≤ k_)) ho0 (zbh (w := w) (g := g) (row := none) (by repeat (first | (with_reducible first | exact HK.out | apply zaf.set_ | apply zaj | apply zal | apply zak) | exact HK.out))) (fun k_ h_ => h_)) (Kd.R_lt (by (with_reducible repeat (first | apply ybp | apply ybq | apply ybr)); exact HO226.out))) (zbh (w := w) (g := g) (row := none) (by repeat (first | (with_reducible first | exact HK.out | apply zaf.set_ | apply zaj | apply zal | apply zak) | exact HK.out)))); have n3_ := zaa.mk (zae.below (by repeat (first | (with_reducible first | exact HI0.out | apply zae.alloc | apply zae.drewN | apply zae.drew | apply zae.set_1) | exact HI0.out)) hb); have n4_ := zaa.mk (zaf.trans (by repeat (first | (with_reducible first | exact HK.out | apply zaf.set_ | apply zaj | apply zal | apply zak) | exact HK.out)) (zaf.of_below hb g none) (.inl rfl)); have n5_ := zaa.mk (zag (by repeat (first | (with_reducible first | exact HB.out | apply zac | apply zab | apply zad | refine zah ?_ (zae.ge HI0.out)) | exact HB.out)) hb); clear HO_1; clear HO226; clear HI0; clear HK; clear HB; have HO_1 := n0_; have HO226 := n1_; have HO234 := n2_; have HI0 := n3_; have HK := n4_; have HB := n5_; clear n0_ n1_ n2_ n3_ n4_ n5_; (try clear hb); (try clear hb2); (try clear hk); (try clear hi); (try clear ho0)))
     go_roundg k1
     case measure => have := HK1.out; omega
     case rel => exact ⟨(x1_1), (wrap64 (x7_1 + 1)), (t230), (by first | rfl | (simp; done) | (simp [*]; done)), H', ⟨by have := HK1.out; omega⟩, ⟨by (with_reducible repeat (first | apply ybs | apply ybt | apply ybu)); exact Kd.V_mono HO_1.out (fun _ hk => ⟨hk.1.1.1, hk.1.1.2⟩)⟩, ⟨by repeat (first | (with_reducible first | exact HI0.out | apply zae.alloc | apply zae.drewN | apply zae.drew | apply zae.set_1) | exact HI0.out)⟩, ⟨by repeat (first | (with_reducible first | exact HK.out | apply zaf.set_ | apply zaj | apply zal | apply zak) | exact HK.out)⟩, ⟨by repeat (first | (with_reducible first | exact HB.out | apply zac | apply zab | apply zad | refine zah ?_ (zae.ge HI0.out)) | exact HB.out)⟩⟩
   ·rw [if_neg c4] at H
    have c4b0 : decide (x7_1 < a2) = false := decide_eq_false c4
    clear c4
    simp only [Option.some.injEq, Prod.mk.injEq] at H
    obtain ⟨rfl, rfl⟩ := H
    go_wp2
    go_ret
    exact ⟨_, by first | rfl | (simp [zan, zam] <;> rfl) | (simp [*, zan, zam] <;> rfl), by (with_reducible repeat (first | apply ybs | apply ybt | apply ybu)); exact Kd.V_mono HO_1.out (fun _ hk => hk.1), by repeat (first | (with_reducible first | exact HI0.out | apply zae.alloc | apply zae.drewN | apply zae.drew | apply zae.set_1) | exact HI0.out), by repeat (first | (with_reducible first | exact HB.out | apply zac | apply zab | apply zad | refine zah ?_ (zae.ge HI0.out)) | exact HB.out), by repeat (first | (with_reducible first | exact HK.out | apply zaf.set_ | apply zaj | apply zal | apply zak) | exact HK.out)⟩
mutual
def spec_l91Plan.j0 : Nat → Int → Int → Bool → List Int → Int → Option (List ByteArray × Int)
 | 0, _, _, _, _, _ => none
 | k + 1, x1, x2, x17, x1000, x1001 => if x17 = true then ((spec_l6Rd_pick.f k x1000 x1001 2).bind fun bt252 => ((spec_l91Cut.f k x1000 bt252.2 (([(⟨#[97, 97, 98]⟩ : ByteArray), (⟨#[99, 100, 98]⟩ : ByteArray), (⟨#[99, 101, 101]⟩ : ByteArray)] : List ByteArray)) bt252.1).bind fun bt254 => (some (bt254.1, bt254.2)))) else (if x1 = 4 then (if x2 = 4 then ((spec_l6Rd_pick.f k x1000 x1001 2).bind fun bt258 => (spec_l91Plan.j1 k x1 x2 (bt258.1 == 0) x1000 bt258.2)) else (spec_l91Plan.j1 k x1 x2 false x1000 x1001)) else (spec_l91Plan.j1 k x1 x2 false x1000 x1001))
def spec_l91Plan.j1 : Nat → Int → Int → Bool → List Int → Int → Option (List ByteArray × Int)
 | 0, _, _, _, _, _ => none
 | k + 1, x1, x2, x33, x1000, x1001 => if x33 = true then ((spec_l6Rd_pick.f k x1000 x1001 4).bind fun bt263 => ((spec_l91Cut.f k x1000 bt263.2 (([(⟨#[97, 97, 97, 98]⟩ : ByteArray), (⟨#[99, 100, 100, 98]⟩ : ByteArray), (⟨#[99, 100, 100, 98]⟩ : ByteArray), (⟨#[99, 101, 101, 101]⟩ : ByteArray)] : List ByteArray)) bt263.1).bind fun bt265 => (some (bt265.1, bt265.2)))) else ((spec_l91Empty.f k x1 x2).bind fun t269 => ((spec_l6Rd_pick.f k x1000 x1001 9).bind fun bt272 => ((spec_l91Cut.f k x1000 bt272.2 t269 bt272.1).bind fun bt274 => (some (bt274.1, bt274.2)))))
end
def spec_l91Plan.f (k : Nat) (s0_0 : List Int) (s0_1 : Int) (a1 : Int) (a2 : Int) : Option (List ByteArray × Int) := if a1 = 3 then (if a2 = 3 then ((spec_l6Rd_pick.f k s0_0 s0_1 2).bind fun bt247 => (spec_l91Plan.j0 k a1 a2 (bt247.1 == 0) s0_0 bt247.2)) else (spec_l91Plan.j0 k a1 a2 false s0_0 s0_1)) else (spec_l91Plan.j0 k a1 a2 false s0_0 s0_1)
set_option maxHeartbeats 8000000 in
set_option maxRecDepth 100000 in
theorem spec_l91Plan.calls (k : Nat) (g : Nat) (s0_0 : List Int) (s0_1 : Int) (a1 : Int) (a2 : Int) (r1 : List ByteArray) (r2 : Int) (w0 w : World) (hI : zae w0 w g s0_0 s0_1) (hB : Below w0.heap.size w0 w) (h : spec_l91Plan.f k s0_0 s0_1 a1 a2 = some (r1, r2)) :
  Calls Try.prog 115 #[.pointer (some ⟨g, 0, none⟩), .int .i64 a1, .int .i64 a2] w fun e w' => ∃ v0_ : Value, e = .returned (v0_) ∧ Kd.V Kd.string 9 w' w.heap.size (fun k_ => (w.heap.size ≤ k_)) v0_ r1 ∧ zae w0 w' g s0_0 r2 ∧ Below w0.heap.size w0 w' ∧ zaf w w' g none := by
 have HI0 := zaa.mk hI
 have HK := zaa.mk (zaf.refl w g none)
 have HL := zaa.mk hB.size
 clear hI
 have HW0 := zaa.mk hB.size
 have HB := zaa.mk hB
 clear hB
 have H : (if a1 = 3 then (if a2 = 3 then ((spec_l6Rd_pick.f k s0_0 s0_1 2).bind fun bt247 => (spec_l91Plan.j0 k a1 a2 (bt247.1 == 0) s0_0 bt247.2)) else (spec_l91Plan.j0 k a1 a2 false s0_0 s0_1)) else (spec_l91Plan.j0 k a1 a2 false s0_0 s0_1)) = some (r1, r2) := h
 clear h
 have HC4 := zaa.mk H
 clear H
 go_enter Try.func115, Try.ntmps115
 go_upto_region 1 with (fail)
 go_cut [17] (fun v17 wc => ∃ (kq : Nat) (x17_3 : Bool) (x1001_3 : Int), v17 = .bool x17_3 ∧ zaa (spec_l91Plan.j0 kq a1 a2 x17_3 s0_0 x1001_3 = some (r1, r2)) ∧ zaa (kq ≤ k) ∧ zaa (zae w0 wc g s0_0 x1001_3) ∧ zaa (zaf w wc g none) ∧ zaa (Below w0.heap.size w0 wc))
 case first =>
  have H := HC4.out
  clear HC4
  by_cases c5 : a1 = 3
  ·rw [if_pos c5] at H
   have c5b0 : (a1 == 3) = true := beq_iff_eq.mpr c5
   have c5b1 : (a1 != 3) = false := bne_eq_false_iff_eq.mpr c5
   clear c5
   (first | rw [c5b0] | (simp only [zar, zas]; rw [c5b0]) | skip)
   by_cases c6 : a2 = 3
   ·rw [if_pos c6] at H
    have c6b0 : (a2 == 3) = true := beq_iff_eq.mpr c6
    have c6b1 : (a2 != 3) = false := bne_eq_false_iff_eq.mpr c6
    clear c6
    replace H := ybm.mp H
    obtain ⟨⟨t247, t248⟩, A70, H⟩ := H
    replace H : (spec_l91Plan.j0 k a1 a2 (t247 == 0) s0_0 t248) = some (r1, r2) := H
    have A7 := zaa.mk A70
    clear A70
    have H' := zaa.mk H
    clear H
    go_wp2_with (first | (go_at_call 63; (with_reducible refine (spec_l6Rd_pick.calls k g s0_0 s0_1 2 t247 t248 w0 _ ?side1 ?side2 A7.out).mono ?_); (case side1 => repeat (first | (with_reducible first | exact HI0.out | apply zae.alloc | apply zae.drewN | apply zae.drew | apply zae.set_1) | exact HI0.out)); (case side2 => repeat (first | (with_reducible first | exact HB.out | apply zac | apply zab | apply zad | refine zah ?_ (zae.ge HI0.out)) | exact HB.out)); rintro e w8 ⟨rfl, hi, hb, hk⟩; have n0_ := zaa.mk (zaf.trans (by repeat (first | (with_reducible first | exact HK.out | apply zaf.set_ | apply zaj | apply zal | apply zak) | exact HK.out)) hk (.inl rfl)); have n1_ := zaa.mk (hb); have n2_ := zaa.mk (hi); clear HK; clear HB; clear HI0; have HK := n0_; have HB := n1_; have HI0 := n2_; clear n0_ n1_ n2_; (try clear hb); (try clear hb2); (try clear hk); (try clear hi)))
    go_meet
    case rel => exact ⟨_, ((t247 == 0)), (t248), (by first | rfl | (simp; done) | (simp [*]; done)), H', ⟨by first | omega | exact ybo _⟩, ⟨by repeat (first | (with_reducible first | exact HI0.out | apply zae.alloc | apply zae.drewN | apply zae.drew | apply zae.set_1) | exact HI0.out)⟩, ⟨by repeat (first | (with_reducible first | exact HK.out | apply zaf.set_ | apply zaj | apply zal | apply zak) | exact HK.out)⟩, ⟨by repeat (first | (with_reducible first | exact HB.out | apply zac | apply zab | apply zad | refine zah ?_ (zae.ge HI0.out)) | exact HB.out)⟩⟩
   ·rw [if_neg c6] at H
    have c6b0 : (a2 == 3) = false := beq_eq_false_iff_ne.mpr c6
    have c6b1 : (a2 != 3) = true := bne_iff_ne.mpr c6
    have H' := zaa.mk H
    clear H
    go_wp2
    go_meet
    case rel => exact ⟨_, (false), (s0_1), (by first | rfl | (simp; done) | (simp [*]; done)), H', ⟨by first | omega | exact ybo _⟩, ⟨by repeat (first | (with_reducible first | exact HI0.out | apply zae.alloc | apply zae.drewN | apply zae.drew | apply zae.set_1) | exact HI0.out)⟩, ⟨by repeat (first | (with_reducible first | exact HK.out | apply zaf.set_ | apply zaj | apply zal | apply zak) | exact HK.out)⟩, ⟨by repeat (first | (with_reducible first | exact HB.out | apply zac | apply zab | apply zad | refine zah ?_ (zae.ge HI0.out)) | exact HB.out)⟩⟩
  ·rw [if_neg c5] at H
   have c5b0 : (a1 == 3) = false := beq_eq_false_iff_ne.mpr c5
   have c5b1 : (a1 != 3) = true := bne_iff_ne.mpr c5
   (first | rw [c5b0] | (simp only [zar, zas]; rw [c5b0]) | skip)
   have H' := zaa.mk H
   clear H
   go_wp2
   go_meet
   case rel => exact ⟨_, (false), (s0_1), (by first | rfl | (simp; done) | (simp [*]; done)), H', ⟨by first | omega | exact ybo _⟩, ⟨by repeat (first | (with_reducible first | exact HI0.out | apply zae.alloc | apply zae.drewN | apply zae.drew | apply zae.set_1) | exact HI0.out)⟩, ⟨by repeat (first | (with_reducible first | exact HK.out | apply zaf.set_ | apply zaj | apply zal | apply zak) | exact HK.out)⟩, ⟨by repeat (first | (with_reducible first | exact HB.out | apply zac | apply zab | apply zad | refine zah ?_ (zae.ge HI0.out)) | exact HB.out)⟩⟩
 case rest =>
  clear HC4
  try clear c1
  try clear p2
  try clear c5
  try clear c5b0
  try clear c5b1
  try clear c6
  try clear c6b0
  try clear c6b1
  obtain ⟨kq, x17_3, x1001_3, rfl, HA, HJ3, HI0, HK, HB⟩ := hcut
  cases kq with
  | zero => exact absurd HA.out (by simp [spec_l91Plan.j0])
  | succ kj3 =>
   have H := HA.out
   clear HA
   simp only [spec_l91Plan.j0] at H
   by_cases c9 : x17_3 = true
   ·subst c9
    have H1 : ((spec_l6Rd_pick.f kj3 s0_0 x1001_3 2).bind fun bt252 => ((spec_l91Cut.f kj3 s0_0 bt252.2 (([(⟨#[97, 97, 98]⟩ : ByteArray), (⟨#[99, 100, 98]⟩ : ByteArray), (⟨#[99, 101, 101]⟩ : ByteArray)] : List ByteArray)) bt252.1).bind fun bt254 => (some (bt254.1, bt254.2)))) = some (r1, r2) := by rw [if_pos rfl] at H; exact H
    clear H
    have H := H1
    clear H1
    obtain ⟨y249, hy249⟩ : ∃ y_ : List ByteArray, y_ = (([(⟨#[97, 97, 98]⟩ : ByteArray), (⟨#[99, 100, 98]⟩ : ByteArray), (⟨#[99, 101, 101]⟩ : ByteArray)] : List ByteArray)) := ⟨_, rfl⟩
    replace H : ((spec_l6Rd_pick.f kj3 s0_0 x1001_3 2).bind fun bt252 => ((spec_l91Cut.f kj3 s0_0 bt252.2 y249 bt252.1).bind fun bt254 => (some (bt254.1, bt254.2)))) = some (r1, r2) := by first | (rw [hy249]; with_reducible exact H) | (have H2_ := (ybn _ _).symm.trans H; rw [hy249]; with_reducible exact H2_) | (have H2_ := (ybn _ _).symm.trans H; with_reducible exact H2_) | with_reducible exact H | (rw [hy249]; exact H) | exact H
    have Ny249 := zaa.mk hy249
    clear hy249
    replace H := ybm.mp H
    obtain ⟨⟨t252, t253⟩, A100, H⟩ := H
    replace H : ((spec_l91Cut.f kj3 s0_0 t253 y249 t252).bind fun bt254 => (some (bt254.1, bt254.2))) = some (r1, r2) := H
    have A10 := zaa.mk A100
    clear A100
    replace H := ybm.mp H
    obtain ⟨⟨t254, t257⟩, A110, H⟩ := H
    replace H : (some (t254, t257)) = some (r1, r2) := H
    have A11 := zaa.mk A110
    clear A110
    simp only [Option.some.injEq, Prod.mk.injEq] at H
    obtain ⟨rfl, rfl⟩ := H
    go_wp2_with (first | ((with_reducible refine zbc (N := 19) rfl ?_); refine Kd.R_lit Kd.string _ 9 ?hg (N := 19) ?hd (xs := ([(⟨#[97, 97, 98]⟩ : ByteArray), (⟨#[99, 100, 98]⟩ : ByteArray), (⟨#[99, 101, 101]⟩ : ByteArray)] : List ByteArray)) (inner := [.string (⟨#[97, 97, 98]⟩ : ByteArray), .string (⟨#[99, 100, 98]⟩ : ByteArray), .string (⟨#[99, 101, 101]⟩ : ByteArray)]) (ok := fun _ => True) (okp := fun _ => True) ?hr ?hp (fun _ hk => hk) trivial (Below.refl _ _) (ybo _) (by simp) ?_; (case hd => rfl); (case hg => rfl); (case hr => first | (go_simp; done) | (go_simp; rfl)); (case hp => exact (Reps.one (show Kd.M Kd.string _ _ _ (⟨#[97, 97, 98]⟩ : ByteArray) [.string (⟨#[97, 97, 98]⟩ : ByteArray)] from rfl) (Reps.one (show Kd.M Kd.string _ _ _ (⟨#[99, 100, 98]⟩ : ByteArray) [.string (⟨#[99, 100, 98]⟩ : ByteArray)] from rfl) (Reps.one (show Kd.M Kd.string _ _ _ (⟨#[99, 101, 101]⟩ : ByteArray) [.string (⟨#[99, 101, 101]⟩ : ByteArray)] from rfl) (Reps.none _ _))))); intro v250 w12 ho13 hb hg_ hnew_; clear hg_ hnew_; (first | rw [← Ny249.out] at ho13 | (simp only [Int.reduceToNat] at ho13; rw [← Ny249.out] at ho13)); have n0_ := zaa.mk (Kd.R_lower (Kd.R_newM (M := fun k_ => (w.heap.size ≤ k_)) ho13 (zbh (w := w) (g := g) (row := none) (by repeat (first | (with_reducible first | exact HK.out | apply zaf.set_ | apply zaj | apply zal | apply zak) | exact HK.out))) (fun k_ h_ => h_)) (zbh (w := w) (g := g) (row := none) (by repeat (first | (with_reducible first | exact HK.out | apply zaf.set_ | apply zaj | apply zal | apply zak) | exact HK.out)))); have n1_ := zaa.mk (zae.below (by repeat (first | (with_reducible first | exact HI0.out | apply zae.alloc | apply zae.drewN | apply zae.drew | apply zae.set_1) | exact HI0.out)) hb); have n2_ := zaa.mk (zaf.trans (by repeat (first | (with_reducible first | exact HK.out | apply zaf.set_ | apply zaj | apply zal | apply zak) | exact HK.out)) (zaf.of_below hb g none) (.inl rfl)); have n3_ := zaa.mk (zag (by repeat (first | (with_reducible first | exact HB.out | apply zac | apply zab | apply zad | refine zah ?_ (zae.ge HI0.out)) | exact HB.out)) hb); clear HI0; clear HK; clear HB; have HO251 := n0_; have HI0 := n1_; have HK := n2_; have HB := n3_; clear n0_ n1_ n2_ n3_; clear hb ho13) | ((with_reducible refine zaq (f := 63) rfl ?_); refine zbf (some 21) rfl rfl Try.func63 (by kernel_rfl) rfl #[.pointer (some ⟨g, 0, none⟩), .int .i64 2] rfl (by (try simp only [ybf, ybg, ybh]); first | done | rfl | (simp only [ybj, ybi]; rfl)) ?_; (with_reducible refine (spec_l6Rd_pick.calls kj3 g s0_0 x1001_3 2 t252 t253 w0 _ ?side1 ?side2 A10.out).mono ?_); (case side1 => repeat (first | (with_reducible first | exact HI0.out | apply zae.alloc | apply zae.drewN | apply zae.drew | apply zae.set_1) | exact HI0.out)); (case side2 => repeat (first | (with_reducible first | exact HB.out | apply zac | apply zab | apply zad | refine zah ?_ (zae.ge HI0.out)) | exact HB.out)); rintro e w14 ⟨rfl, hi, hb, hk⟩; refine ⟨_, rfl, ?_⟩; have n0_ := zaa.mk (Kd.R_mono (Kd.R_keep (zae.apart (show zae w0 _ g s0_0 x1001_3 from by repeat (first | (with_reducible first | exact HI0.out | apply zae.alloc | apply zae.drewN | apply zae.drew | apply zae.set_1) | exact HI0.out)) (by (with_reducible repeat (first | apply ybp | apply ybq | apply ybr)); exact HO251.out) (by decide)) hk (fun _ h => h.2)) (fun _ h => h.1)); have n1_ := zaa.mk (zaf.trans (by repeat (first | (with_reducible first | exact HK.out | apply zaf.set_ | apply zaj | apply zal | apply zak) | exact HK.out)) hk (.inl rfl)); have n2_ := zaa.mk (hb); have n3_ := zaa.mk (hi); clear HO251; clear HK; clear HB; clear HI0; have HO251 := n0_; have HK := n1_; have HB := n2_; have HI0 := n3_; clear n0_ n1_ n2_ n3_; (try clear hb); (try clear hb2); (try clear hk); (try clear hi); obtain ⟨Ao15, co15, eo15⟩ := Kd.R_slice HO251.out; subst eo15) | ((with_reducible refine zaq (f := 134) rfl ?_); refine zbf (some 22) rfl rfl Try.func134 (by kernel_rfl) rfl #[.pointer (some ⟨g, 0, none⟩), .slice Ao15 y249.length co15, .int .i64 t252] rfl (by (try simp only [ybf, ybg, ybh]); first | done | rfl | (simp only [ybj, ybi]; rfl)) ?_; (with_reducible refine (spec_l91Cut.calls kj3 g s0_0 t253 (fun k_ => some k_ = (.slice Ao15 y249.length co15 : Value).ownBlock) _ _ y249 t252 t254 t257 w0 _ ?side1 ?side2 ?side3 A11.out).mono ?_); (case side1 => repeat (first | (with_reducible first | exact HI0.out | apply zae.alloc | apply zae.drewN | apply zae.drew | apply zae.set_1) | exact HI0.out)); (case side2 => repeat (first | (with_reducible first | exact HB.out | apply zac | apply zab | apply zad | refine zah ?_ (zae.ge HI0.out)) | exact HB.out)); (case side3 => exact Kd.V_mono (Kd.R_V (Kd.R_tight rfl (zae.apart HI0.out (HO251.out) (by decide)))) (fun k_ hk_ => ⟨hk_, ((zae.apart HI0.out (HO251.out) (by decide)).1 k_ hk_.symm).2⟩)); rintro e w16 ⟨v255, rfl, ho0, hi, hb, hk⟩; refine ⟨_, rfl, ?_⟩; have n0_ := zaa.mk (Kd.R_mono (Kd.R_keep (zae.apart (show zae w0 _ g s0_0 t253 from by repeat (first | (with_reducible first | exact HI0.out | apply zae.alloc | apply zae.drewN | apply zae.drew | apply zae.set_1) | exact HI0.out)) (by (with_reducible repeat (first | apply ybp | apply ybq | apply ybr)); exact HO251.out) (by decide)) hk (fun _ h => h.2)) (fun _ h => h.1)); have n1_ := zaa.mk (Kd.V_lower (Kd.V_mono (ok' := fun k_ => (w.heap.size ≤ k_) ∧ k_ ≠ g) ho0 (fun k_ hk_ => ⟨Or.elim hk_ (fun hs_ => ((zae.apart HI0.out (HO251.out) (by decide)).1 k_ hs_.symm).1.1) (fun hn_ => (Nat.le_trans (zbh (w := w) (g := g) (row := none) (by repeat (first | (with_reducible first | exact HK.out | apply zaf.set_ | apply zaj | apply zal | apply zak) | exact HK.out))) hn_)), Or.elim hk_ (fun hs_ => ((zae.apart HI0.out (HO251.out) (by decide)).1 k_ hs_.symm).2) (fun hn_ => (zae.fresh (by repeat (first | (with_reducible first | exact HI0.out | apply zae.alloc | apply zae.drewN | apply zae.drew | apply zae.set_1) | exact HI0.out)) k_ hn_))⟩)) (zbh (w := w) (g := g) (row := none) (by repeat (first | (with_reducible first | exact HK.out | apply zaf.set_ | apply zaj | apply zal | apply zak) | exact HK.out)))); have n2_ := zaa.mk (zaf.trans (by repeat (first | (with_reducible first | exact HK.out | apply zaf.set_ | apply zaj | apply zal | apply zak) | exact HK.out)) hk (.inl rfl)); have n3_ := zaa.mk (hb); have n4_ := zaa.mk (hi); clear HO251; clear HK; clear HB; clear HI0; have HO251 := n0_; have HO256 := n1_; have HK := n2_; have HB := n3_; have HI0 := n4_; clear n0_ n1_ n2_ n3_ n4_; (try clear hb); (try clear hb2); (try clear hk); (try clear hi); (try clear ho0)))
    go_ret
    exact ⟨_, by first | rfl | (simp [zan, zam] <;> rfl) | (simp [*, zan, zam] <;> rfl), by (with_reducible repeat (first | apply ybs | apply ybt | apply ybu)); exact Kd.V_mono HO256.out (fun _ hk => hk.1), by repeat (first | (with_reducible first | exact HI0.out | apply zae.alloc | apply zae.drewN | apply zae.drew | apply zae.set_1) | exact HI0.out), by repeat (first | (with_reducible first | exact HB.out | apply zac | apply zab | apply zad | refine zah ?_ (zae.ge HI0.out)) | exact HB.out), by repeat (first | (with_reducible first | exact HK.out | apply zaf.set_ | apply zaj | apply zal | apply zak) | exact HK.out)⟩
   ·replace c9 := Bool.eq_false_iff.mpr c9
    subst c9
    have H1 : (if a1 = 4 then (if a2 = 4 then ((spec_l6Rd_pick.f kj3 s0_0 x1001_3 2).bind fun bt258 => (spec_l91Plan.j1 kj3 a1 a2 (bt258.1 == 0) s0_0 bt258.2)) else (spec_l91Plan.j1 kj3 a1 a2 false s0_0 x1001_3)) else (spec_l91Plan.j1 kj3 a1 a2 false s0_0 x1001_3)) = some (r1, r2) := by rw [if_neg (show ¬ (false = true) by decide)] at H; exact H
    clear H
    have H := H1
    clear H1
    have HC17 := zaa.mk H
    clear H
    go_upto_region 3 with (fail)
    go_cut [33] (fun v33 wc => ∃ (kq : Nat) (x33_16 : Bool) (x1001_16 : Int), v33 = .bool x33_16 ∧ zaa (spec_l91Plan.j1 kq a1 a2 x33_16 s0_0 x1001_16 = some (r1, r2)) ∧ zaa (kq ≤ kj3) ∧ zaa (zae w0 wc g s0_0 x1001_16) ∧ zaa (zaf w wc g none) ∧ zaa (Below w0.heap.size w0 wc))
    case first =>
     have H := HC17.out
     clear HC17
     by_cases c18 : a1 = 4
     ·rw [if_pos c18] at H
      have c18b0 : (a1 == 4) = true := beq_iff_eq.mpr c18
      have c18b1 : (a1 != 4) = false := bne_eq_false_iff_eq.mpr c18
      clear c18
      (first | rw [c18b0] | (simp only [zar, zas]; rw [c18b0]) | skip)
      by_cases c19 : a2 = 4
      ·rw [if_pos c19] at H
       have c19b0 : (a2 == 4) = true := beq_iff_eq.mpr c19
       have c19b1 : (a2 != 4) = false := bne_eq_false_iff_eq.mpr c19
       clear c19
       replace H := ybm.mp H
       obtain ⟨⟨t258, t259⟩, A200, H⟩ := H
       replace H : (spec_l91Plan.j1 kj3 a1 a2 (t258 == 0) s0_0 t259) = some (r1, r2) := H
       have A20 := zaa.mk A200
       clear A200
       have H' := zaa.mk H
       clear H
       go_wp2_with (first | (go_at_call 63; (with_reducible refine (spec_l6Rd_pick.calls kj3 g s0_0 x1001_3 2 t258 t259 w0 _ ?side1 ?side2 A20.out).mono ?_); (case side1 => repeat (first | (with_reducible first | exact HI0.out | apply zae.alloc | apply zae.drewN | apply zae.drew | apply zae.set_1) | exact HI0.out)); (case side2 => repeat (first | (with_reducible first | exact HB.out | apply zac | apply zab | apply zad | refine zah ?_ (zae.ge HI0.out)) | exact HB.out)); rintro e w21 ⟨rfl, hi, hb, hk⟩; have n0_ := zaa.mk (zaf.trans (by repeat (first | (with_reducible first | exact HK.out | apply zaf.set_ | apply zaj | apply zal | apply zak) | exact HK.out)) hk (.inl rfl)); have n1_ := zaa.mk (hb); have n2_ := zaa.mk (hi); clear HK; clear HB; clear HI0; have HK := n0_; have HB := n1_; have HI0 := n2_; clear n0_ n1_ n2_; (try clear hb); (try clear hb2); (try clear hk); (try clear hi)))
       go_meet
       case rel => exact ⟨_, ((t258 == 0)), (t259), (by first | rfl | (simp; done) | (simp [*]; done)), H', ⟨by have := HJ3.out; first | omega | exact ybo _⟩, ⟨by repeat (first | (with_reducible first | exact HI0.out | apply zae.alloc | apply zae.drewN | apply zae.drew | apply zae.set_1) | exact HI0.out)⟩, ⟨by repeat (first | (with_reducible first | exact HK.out | apply zaf.set_ | apply zaj | apply zal | apply zak) | exact HK.out)⟩, ⟨by repeat (first | (with_reducible first | exact HB.out | apply zac | apply zab | apply zad | refine zah ?_ (zae.ge HI0.out)) | exact HB.out)⟩⟩
      ·rw [if_neg c19] at H
       have c19b0 : (a2 == 4) = false := beq_eq_false_iff_ne.mpr c19
       have c19b1 : (a2 != 4) = true := bne_iff_ne.mpr c19
       have H' := zaa.mk H
       clear H
       go_wp2
       go_meet
       case rel => exact ⟨_, (false), (x1001_3), (by first | rfl | (simp; done) | (simp [*]; done)), H', ⟨by have := HJ3.out; first | omega | exact ybo _⟩, ⟨by repeat (first | (with_reducible first | exact HI0.out | apply zae.alloc | apply zae.drewN | apply zae.drew | apply zae.set_1) | exact HI0.out)⟩, ⟨by repeat (first | (with_reducible first | exact HK.out | apply zaf.set_ | apply zaj | apply zal | apply zak) | exact HK.out)⟩, ⟨by repeat (first | (with_reducible first | exact HB.out | apply zac | apply zab | apply zad | refine zah ?_ (zae.ge HI0.out)) | exact HB.out)⟩⟩
     ·rw [if_neg c18] at H
      have c18b0 : (a1 == 4) = false := beq_eq_false_iff_ne.mpr c18
      have c18b1 : (a1 != 4) = true := bne_iff_ne.mpr c18
      (first | rw [c18b0] | (simp only [zar, zas]; rw [c18b0]) | skip)
      have H' := zaa.mk H
      clear H
      go_wp2
      go_meet
      case rel => exact ⟨_, (false), (x1001_3), (by first | rfl | (simp; done) | (simp [*]; done)), H', ⟨by have := HJ3.out; first | omega | exact ybo _⟩, ⟨by repeat (first | (with_reducible first | exact HI0.out | apply zae.alloc | apply zae.drewN | apply zae.drew | apply zae.set_1) | exact HI0.out)⟩, ⟨by repeat (first | (with_reducible first | exact HK.out | apply zaf.set_ | apply zaj | apply zal | apply zak) | exact HK.out)⟩, ⟨by repeat (first | (with_reducible first | exact HB.out | apply zac | apply zab | apply zad | refine zah ?_ (zae.ge HI0.out)) | exact HB.out)⟩⟩
    case rest =>
     clear HC17
     try clear c1
     try clear p2
     try clear c5
     try clear c5b0
     try clear c5b1
     try clear c6
     try clear c6b0
     try clear c6b1
     try clear c9
     try clear c11
     try clear c13
     try clear c18
     try clear c18b0
     try clear c18b1
     try clear c19
     try clear c19b0
     try clear c19b1
     try clear p2
     obtain ⟨kq, x33_16, x1001_16, rfl, HA, HJ16, HI0, HK, HB⟩ := hcut
     cases kq with
     | zero => exact absurd HA.out (by simp [spec_l91Plan.j1])
     | succ kj16 =>
      have H := HA.out
      clear HA
      simp only [spec_l91Plan.j1] at H
      by_cases c22 : x33_16 = true
      ·subst c22
       have H1 : ((spec_l6Rd_pick.f kj16 s0_0 x1001_16 4).bind fun bt263 => ((spec_l91Cut.f kj16 s0_0 bt263.2 (([(⟨#[97, 97, 97, 98]⟩ : ByteArray), (⟨#[99, 100, 100, 98]⟩ : ByteArray), (⟨#[99, 100, 100, 98]⟩ : ByteArray), (⟨#[99, 101, 101, 101]⟩ : ByteArray)] : List ByteArray)) bt263.1).bind fun bt265 => (some (bt265.1, bt265.2)))) = some (r1, r2) := by rw [if_pos rfl] at H; exact H
       clear H
       have H := H1
       clear H1
       obtain ⟨y260, hy260⟩ : ∃ y_ : List ByteArray, y_ = (([(⟨#[97, 97, 97, 98]⟩ : ByteArray), (⟨#[99, 100, 100, 98]⟩ : ByteArray), (⟨#[99, 100, 100, 98]⟩ : ByteArray), (⟨#[99, 101, 101, 101]⟩ : ByteArray)] : List ByteArray)) := ⟨_, rfl⟩
       replace H : ((spec_l6Rd_pick.f kj16 s0_0 x1001_16 4).bind fun bt263 => ((spec_l91Cut.f kj16 s0_0 bt263.2 y260 bt263.1).bind fun bt265 => (some (bt265.1, bt265.2)))) = some (r1, r2) := by first | (rw [hy260]; with_reducible exact H) | (have H2_ := (ybn _ _).symm.trans H; rw [hy260]; with_reducible exact H2_) | (have H2_ := (ybn _ _).symm.trans H; with_reducible exact H2_) | with_reducible exact H | (rw [hy260]; exact H) | exact H
       have Ny260 := zaa.mk hy260
       clear hy260
       replace H := ybm.mp H
       obtain ⟨⟨t263, t264⟩, A230, H⟩ := H
       replace H : ((spec_l91Cut.f kj16 s0_0 t264 y260 t263).bind fun bt265 => (some (bt265.1, bt265.2))) = some (r1, r2) := H
       have A23 := zaa.mk A230
       clear A230
       replace H := ybm.mp H
       obtain ⟨⟨t265, t268⟩, A240, H⟩ := H
       replace H : (some (t265, t268)) = some (r1, r2) := H
       have A24 := zaa.mk A240
       clear A240
       simp only [Option.some.injEq, Prod.mk.injEq] at H
       obtain ⟨rfl, rfl⟩ := H
       go_wp2_with (first | ((with_reducible refine zbc (N := 35) rfl ?_); refine Kd.R_lit Kd.string _ 9 ?hg (N := 35) ?hd (xs := ([(⟨#[97, 97, 97, 98]⟩ : ByteArray), (⟨#[99, 100, 100, 98]⟩ : ByteArray), (⟨#[99, 100, 100, 98]⟩ : ByteArray), (⟨#[99, 101, 101, 101]⟩ : ByteArray)] : List ByteArray)) (inner := [.string (⟨#[97, 97, 97, 98]⟩ : ByteArray), .string (⟨#[99, 100, 100, 98]⟩ : ByteArray), .string (⟨#[99, 100, 100, 98]⟩ : ByteArray), .string (⟨#[99, 101, 101, 101]⟩ : ByteArray)]) (ok := fun _ => True) (okp := fun _ => True) ?hr ?hp (fun _ hk => hk) trivial (Below.refl _ _) (ybo _) (by simp) ?_; (case hd => rfl); (case hg => rfl); (case hr => first | (go_simp; done) | (go_simp; rfl)); (case hp => exact (Reps.one (show Kd.M Kd.string _ _ _ (⟨#[97, 97, 97, 98]⟩ : ByteArray) [.string (⟨#[97, 97, 97, 98]⟩ : ByteArray)] from rfl) (Reps.one (show Kd.M Kd.string _ _ _ (⟨#[99, 100, 100, 98]⟩ : ByteArray) [.string (⟨#[99, 100, 100, 98]⟩ : ByteArray)] from rfl) (Reps.one (show Kd.M Kd.string _ _ _ (⟨#[99, 100, 100, 98]⟩ : ByteArray) [.string (⟨#[99, 100, 100, 98]⟩ : ByteArray)] from rfl) (Reps.one (show Kd.M Kd.string _ _ _ (⟨#[99, 101, 101, 101]⟩ : ByteArray) [.string (⟨#[99, 101, 101, 101]⟩ : ByteArray)] from rfl) (Reps.none _ _)))))); intro v261 w25 ho26 hb hg_ hnew_; clear hg_ hnew_; (first | rw [← Ny260.out] at ho26 | (simp only [Int.reduceToNat] at ho26; rw [← Ny260.out] at ho26)); have n0_ := zaa.mk (Kd.R_lower (Kd.R_newM (M := fun k_ => (w.heap.size ≤ k_)) ho26 (zbh (w := w) (g := g) (row := none) (by repeat (first | (with_reducible first | exact HK.out | apply zaf.set_ | apply zaj | apply zal | apply zak) | exact HK.out))) (fun k_ h_ => h_)) (zbh (w := w) (g := g) (row := none) (by repeat (first | (with_reducible first | exact HK.out | apply zaf.set_ | apply zaj | apply zal | apply zak) | exact HK.out)))); have n1_ := zaa.mk (zae.below (by repeat (first | (with_reducible first | exact HI0.out | apply zae.alloc | apply zae.drewN | apply zae.drew | apply zae.set_1) | exact HI0.out)) hb); have n2_ := zaa.mk (zaf.trans (by repeat (first | (with_reducible first | exact HK.out | apply zaf.set_ | apply zaj | apply zal | apply zak) | exact HK.out)) (zaf.of_below hb g none) (.inl rfl)); have n3_ := zaa.mk (zag (by repeat (first | (with_reducible first | exact HB.out | apply zac | apply zab | apply zad | refine zah ?_ (zae.ge HI0.out)) | exact HB.out)) hb); clear HI0; clear HK; clear HB; have HO262 := n0_; have HI0 := n1_; have HK := n2_; have HB := n3_; clear n0_ n1_ n2_ n3_; clear hb ho26) | ((with_reducible refine zaq (f := 63) rfl ?_); refine zbf (some 37) rfl rfl Try.func63 (by kernel_rfl) rfl #[.pointer (some ⟨g, 0, none⟩), .int .i64 4] rfl (by (try simp only [ybf, ybg, ybh]); first | done | rfl | (simp only [ybj, ybi]; rfl)) ?_; (with_reducible refine (spec_l6Rd_pick.calls kj16 g s0_0 x1001_16 4 t263 t264 w0 _ ?side1 ?side2 A23.out).mono ?_); (case side1 => repeat (first | (with_reducible first | exact HI0.out | apply zae.alloc | apply zae.drewN | apply zae.drew | apply zae.set_1) | exact HI0.out)); (case side2 => repeat (first | (with_reducible first | exact HB.out | apply zac | apply zab | apply zad | refine zah ?_ (zae.ge HI0.out)) | exact HB.out)); rintro e w27 ⟨rfl, hi, hb, hk⟩; refine ⟨_, rfl, ?_⟩; have n0_ := zaa.mk (Kd.R_mono (Kd.R_keep (zae.apart (show zae w0 _ g s0_0 x1001_16 from by repeat (first | (with_reducible first | exact HI0.out | apply zae.alloc | apply zae.drewN | apply zae.drew | apply zae.set_1) | exact HI0.out)) (by (with_reducible repeat (first | apply ybp | apply ybq | apply ybr)); exact HO262.out) (by decide)) hk (fun _ h => h.2)) (fun _ h => h.1)); have n1_ := zaa.mk (zaf.trans (by repeat (first | (with_reducible first | exact HK.out | apply zaf.set_ | apply zaj | apply zal | apply zak) | exact HK.out)) hk (.inl rfl)); have n2_ := zaa.mk (hb); have n3_ := zaa.mk (hi); clear HO262; clear HK; clear HB; clear HI0; have HO262 := n0_; have HK := n1_; have HB := n2_; have HI0 := n3_; clear n0_ n1_ n2_ n3_; (try clear hb); (try clear hb2); (try clear hk); (try clear hi); obtain ⟨Ao28, co28, eo28⟩ := Kd.R_slice HO262.out; subst eo28) | ((with_reducible refine zaq (f := 134) rfl ?_); refine zbf (some 38) rfl rfl Try.func134 (by kernel_rfl) rfl #[.pointer (some ⟨g, 0, none⟩), .slice Ao28 y260.length co28, .int .i64 t263] rfl (by (try simp only [ybf, ybg, ybh]); first | done | rfl | (simp only [ybj, ybi]; rfl)) ?_; (with_reducible refine (spec_l91Cut.calls kj16 g s0_0 t264 (fun k_ => some k_ = (.slice Ao28 y260.length co28 : Value).ownBlock) _ _ y260 t263 t265 t268 w0 _ ?side1 ?side2 ?side3 A24.out).mono ?_); (case side1 => repeat (first | (with_reducible first | exact HI0.out | apply zae.alloc | apply zae.drewN | apply zae.drew | apply zae.set_1) | exact HI0.out)); (case side2 => repeat (first | (with_reducible first | exact HB.out | apply zac | apply zab | apply zad | refine zah ?_ (zae.ge HI0.out)) | exact HB.out)); (case side3 => exact Kd.V_mono (Kd.R_V (Kd.R_tight rfl (zae.apart HI0.out (HO262.out) (by decide)))) (fun k_ hk_ => ⟨hk_, ((zae.apart HI0.out (HO262.out) (by decide)).1 k_ hk_.symm).2⟩)); rintro e w29 ⟨v266, rfl, ho0, hi, hb, hk⟩; refine ⟨_, rfl, ?_⟩; have n0_ := zaa.mk (Kd.R_mono (Kd.R_keep (zae.apart (show zae w0 _ g s0_0 t264 from by repeat (first | (with_reducible first | exact HI0.out | apply zae.alloc | apply zae.drewN | apply zae.drew | apply zae.set_1) | exact HI0.out)) (by (with_reducible repeat (first | apply ybp | apply ybq | apply ybr)); exact HO262.out) (by decide)) hk (fun _ h => h.2)) (fun _ h => h.1)); have n1_ := zaa.mk (Kd.V_lower (Kd.V_mono (ok' := fun k_ => (w.heap.size ≤ k_) ∧ k_ ≠ g) ho0 (fun k_ hk_ => ⟨Or.elim hk_ (fun hs_ => ((zae.apart HI0.out (HO262.out) (by decide)).1 k_ hs_.symm).1.1) (fun hn_ => (Nat.le_trans (zbh (w := w) (g := g) (row := none) (by repeat (first | (with_reducible first | exact HK.out | apply zaf.set_ | apply zaj | apply zal | apply zak) | exact HK.out))) hn_)), Or.elim hk_ (fun hs_ => ((zae.apart HI0.out (HO262.out) (by decide)).1 k_ hs_.symm).2) (fun hn_ => (zae.fresh (by repeat (first | (with_reducible first | exact HI0.out | apply zae.alloc | apply zae.drewN | apply zae.drew | apply zae.set_1) | exact HI0.out)) k_ hn_))⟩)) (zbh (w := w) (g := g) (row := none) (by repeat (first | (with_reducible first | exact HK.out | apply zaf.set_ | apply zaj | apply zal | apply zak) | exact HK.out)))); have n2_ := zaa.mk (zaf.trans (by repeat (first | (with_reducible first | exact HK.out | apply zaf.set_ | apply zaj | apply zal | apply zak) | exact HK.out)) hk (.inl rfl)); have n3_ := zaa.mk (hb); have n4_ := zaa.mk (hi); clear HO262; clear HK; clear HB; clear HI0; have HO262 := n0_; have HO267 := n1_; have HK := n2_; have HB := n3_; have HI0 := n4_; clear n0_ n1_ n2_ n3_ n4_; (try clear hb); (try clear hb2); (try clear hk); (try clear hi); (try clear ho0)))
       go_ret
       exact ⟨_, by first | rfl | (simp [zan, zam] <;> rfl) | (simp [*, zan, zam] <;> rfl), by (with_reducible repeat (first | apply ybs | apply ybt | apply ybu)); exact Kd.V_mono HO267.out (fun _ hk => hk.1), by repeat (first | (with_reducible first | exact HI0.out | apply zae.alloc | apply zae.drewN | apply zae.drew | apply zae.set_1) | exact HI0.out), by repeat (first | (with_reducible first | exact HB.out | apply zac | apply zab | apply zad | refine zah ?_ (zae.ge HI0.out)) | exact HB.out), by repeat (first | (with_reducible first | exact HK.out | apply zaf.set_ | apply zaj | apply zal | apply zak) | exact HK.out)⟩
      ·replace c22 := Bool.eq_false_iff.mpr c22
       subst c22
       have H1 : ((spec_l91Empty.f kj16 a1 a2).bind fun t269 => ((spec_l6Rd_pick.f kj16 s0_0 x1001_16 9).bind fun bt272 => ((spec_l91Cut.f kj16 s0_0 bt272.2 t269 bt272.1).bind fun bt274 => (some (bt274.1, bt274.2))))) = some (r1, r2) := by rw [if_neg (show ¬ (false = true) by decide)] at H; exact H
       clear H
       have H := H1
       clear H1
       replace H := ybm.mp H
       obtain ⟨t269, A300, H⟩ := H
       replace H : ((spec_l6Rd_pick.f kj16 s0_0 x1001_16 9).bind fun bt272 => ((spec_l91Cut.f kj16 s0_0 bt272.2 t269 bt272.1).bind fun bt274 => (some (bt274.1, bt274.2)))) = some (r1, r2) := H
       have A30 := zaa.mk A300
       clear A300
       replace H := ybm.mp H
       obtain ⟨⟨t272, t273⟩, A310, H⟩ := H
       replace H : ((spec_l91Cut.f kj16 s0_0 t273 t269 t272).bind fun bt274 => (some (bt274.1, bt274.2))) = some (r1, r2) := H
       have A31 := zaa.mk A310
       clear A310
       replace H := ybm.mp H
       obtain ⟨⟨t274, t277⟩, A320, H⟩ := H
       replace H : (some (t274, t277)) = some (r1, r2) := H
       have A32 := zaa.mk A320
       clear A320
       simp only [Option.some.injEq, Prod.mk.injEq] at H
       obtain ⟨rfl, rfl⟩ := H
       go_wp2_with (first | ((with_reducible refine zaq (f := 135) rfl ?_); refine zbf (some 42) rfl rfl Try.func135 (by kernel_rfl) rfl #[.int .i64 a1, .int .i64 a2] rfl (by (try simp only [ybf, ybg, ybh]); first | done | rfl | (simp only [ybj, ybi]; rfl)) ?_; (with_reducible refine (spec_l91Empty.calls kj16 a1 a2 t269 _ A30.out).mono ?_); rintro e w33 ⟨v270, rfl, ho0, hb⟩; refine ⟨_, rfl, ?_⟩; have n0_ := zaa.mk (Kd.R_lower (Kd.R_newM (M := fun k_ => (w.heap.size ≤ k_)) ho0 (zbh (w := w) (g := g) (row := none) (by repeat (first | (with_reducible first | exact HK.out | apply zaf.set_ | apply zaj | apply zal | apply zak) | exact HK.out))) (fun k_ h_ => h_)) (zbh (w := w) (g := g) (row := none) (by repeat (first | (with_reducible first | exact HK.out | apply zaf.set_ | apply zaj | apply zal | apply zak) | exact HK.out)))); have n1_ := zaa.mk (zae.below (by repeat (first | (with_reducible first | exact HI0.out | apply zae.alloc | apply zae.drewN | apply zae.drew | apply zae.set_1) | exact HI0.out)) hb); have n2_ := zaa.mk (zaf.trans (by repeat (first | (with_reducible first | exact HK.out | apply zaf.set_ | apply zaj | apply zal | apply zak) | exact HK.out)) (zaf.of_below hb g none) (.inl rfl)); have n3_ := zaa.mk (zag (by repeat (first | (with_reducible first | exact HB.out | apply zac | apply zab | apply zad | refine zah ?_ (zae.ge HI0.out)) | exact HB.out)) hb); clear HI0; clear HK; clear HB; have HO271 := n0_; have HI0 := n1_; have HK := n2_; have HB := n3_; clear n0_ n1_ n2_ n3_; (try clear hb); (try clear hb2); (try clear hk); (try clear hi); (try clear ho0)) | ((with_reducible refine zaq (f := 63) rfl ?_); refine zbf (some 44) rfl rfl Try.func63 (by kernel_rfl) rfl #[.pointer (some ⟨g, 0, none⟩), .int .i64 9] rfl (by (try simp only [ybf, ybg, ybh]); first | done | rfl | (simp only [ybj, ybi]; rfl)) ?_; (with_reducible refine (spec_l6Rd_pick.calls kj16 g s0_0 x1001_16 9 t272 t273 w0 _ ?side1 ?side2 A31.out).mono ?_); (case side1 => repeat (first | (with_reducible first | exact HI0.out | apply zae.alloc | apply zae.drewN | apply zae.drew | apply zae.set_1) | exact HI0.out)); (case side2 => repeat (first | (with_reducible first | exact HB.out | apply zac | apply zab | apply zad | refine zah ?_ (zae.ge HI0.out)) | exact HB.out)); rintro e w34 ⟨rfl, hi, hb, hk⟩; refine ⟨_, rfl, ?_⟩; have n0_ := zaa.mk (Kd.R_mono (Kd.R_keep (zae.apart (show zae w0 _ g s0_0 x1001_16 from by repeat (first | (with_reducible first | exact HI0.out | apply zae.alloc | apply zae.drewN | apply zae.drew | apply zae.set_1) | exact HI0.out)) (by (with_reducible repeat (first | apply ybp | apply ybq | apply ybr)); exact HO271.out) (by decide)) hk (fun _ h => h.2)) (fun _ h => h.1)); have n1_ := zaa.mk (zaf.trans (by repeat (first | (with_reducible first | exact HK.out | apply zaf.set_ | apply zaj | apply zal | apply zak) | exact HK.out)) hk (.inl rfl)); have n2_ := zaa.mk (hb); have n3_ := zaa.mk (hi); clear HO271; clear HK; clear HB; clear HI0; have HO271 := n0_; have HK := n1_; have HB := n2_; have HI0 := n3_; clear n0_ n1_ n2_ n3_; (try clear hb); (try clear hb2); (try clear hk); (try clear hi); obtain ⟨Ao35, co35, eo35⟩ := Kd.R_slice HO271.out; subst eo35) | ((with_reducible refine zaq (f := 134) rfl ?_); refine zbf (some 45) rfl rfl Try.func134 (by kernel_rfl) rfl #[.pointer (some ⟨g, 0, none⟩), .slice Ao35 t269.length co35, .int .i64 t272] rfl (by (try simp only [ybf, ybg, ybh]); first | done | rfl | (simp only [ybj, ybi]; rfl)) ?_; (with_reducible refine (spec_l91Cut.calls kj16 g s0_0 t273 (fun k_ => some k_ = (.slice Ao35 t269.length co35 : Value).ownBlock) _ _ t269 t272 t274 t277 w0 _ ?side1 ?side2 ?side3 A32.out).mono ?_); (case side1 => repeat (first | (with_reducible first | exact HI0.out | apply zae.alloc | apply zae.drewN | apply zae.drew | apply zae.set_1) | exact HI0.out)); (case side2 => repeat (first | (with_reducible first | exact HB.out | apply zac | apply zab | apply zad | refine zah ?_ (zae.ge HI0.out)) | exact HB.out)); (case side3 => exact Kd.V_mono (Kd.R_V (Kd.R_tight rfl (zae.apart HI0.out (HO271.out) (by decide)))) (fun k_ hk_ => ⟨hk_, ((zae.apart HI0.out (HO271.out) (by decide)).1 k_ hk_.symm).2⟩)); rintro e w36 ⟨v275, rfl, ho0, hi, hb, hk⟩; refine ⟨_, rfl, ?_⟩; have n0_ := zaa.mk (Kd.R_mono (Kd.R_keep (zae.apart (show zae w0 _ g s0_0 t273 from by repeat (first | (with_reducible first | exact HI0.out | apply zae.alloc | apply zae.drewN | apply zae.drew | apply zae.set_1) | exact HI0.out)) (by (with_reducible repeat (first | apply ybp | apply ybq | apply ybr)); exact HO271.out) (by decide)) hk (fun _ h => h.2)) (fun _ h => h.1)); have n1_ := zaa.mk (Kd.V_lower (Kd.V_mono (ok' := fun k_ => (w.heap.size ≤ k_) ∧ k_ ≠ g) ho0 (fun k_ hk_ => ⟨Or.elim hk_ (fun hs_ => ((zae.apart HI0.out (HO271.out) (by decide)).1 k_ hs_.symm).1.1) (fun hn_ => (Nat.le_trans (zbh (w := w) (g := g) (row := none) (by repeat (first | (with_reducible first | exact HK.out | apply zaf.set_ | apply zaj | apply zal | apply zak) | exact HK.out))) hn_)), Or.elim hk_ (fun hs_ => ((zae.apart HI0.out (HO271.out) (by decide)).1 k_ hs_.symm).2) (fun hn_ => (zae.fresh (by repeat (first | (with_reducible first | exact HI0.out | apply zae.alloc | apply zae.drewN | apply zae.drew | apply zae.set_1) | exact HI0.out)) k_ hn_))⟩)) (zbh (w := w) (g := g) (row := none) (by repeat (first | (with_reducible first | exact HK.out | apply zaf.set_ | apply zaj | apply zal | apply zak) | exact HK.out)))); have n2_ := zaa.mk (zaf.trans (by repeat (first | (with_reducible first | exact HK.out | apply zaf.set_ | apply zaj | apply zal | apply zak) | exact HK.out)) hk (.inl rfl)); have n3_ := zaa.mk (hb); have n4_ := zaa.mk (hi); clear HO271; clear HK; clear HB; clear HI0; have HO271 := n0_; have HO276 := n1_; have HK := n2_; have HB := n3_; have HI0 := n4_; clear n0_ n1_ n2_ n3_ n4_; (try clear hb); (try clear hb2); (try clear hk); (try clear hi); (try clear ho0)))
       go_ret
       exact ⟨_, by first | rfl | (simp [zan, zam] <;> rfl) | (simp [*, zan, zam] <;> rfl), by (with_reducible repeat (first | apply ybs | apply ybt | apply ybu)); exact Kd.V_mono HO276.out (fun _ hk => hk.1), by repeat (first | (with_reducible first | exact HI0.out | apply zae.alloc | apply zae.drewN | apply zae.drew | apply zae.set_1) | exact HI0.out), by repeat (first | (with_reducible first | exact HB.out | apply zac | apply zab | apply zad | refine zah ?_ (zae.ge HI0.out)) | exact HB.out), by repeat (first | (with_reducible first | exact HK.out | apply zaf.set_ | apply zaj | apply zal | apply zak) | exact HK.out)⟩
def spec_l91Some.f (k : Nat) (s0_0 : List Int) (s0_1 : Int) (a1 : Int) (a2 : Int) : Option (List ByteArray × Int) := (spec_l6Rd_pick.f k s0_0 s0_1 a1).bind fun bt278 => ((spec_l6Rd_pick.f k s0_0 bt278.2 a2).bind fun bt280 => ((spec_l91Plan.f k s0_0 bt280.2 (wrap64 (1 + bt278.1)) (wrap64 (1 + bt280.1))).bind fun bt282 => ((spec_l6Rd_pick.f k s0_0 bt282.2 50).bind fun bt286 => (if bt286.1 = 0 then ((some (([] : List ByteArray) : List ByteArray)).bind fun y288 => (if y288.length + bt282.1.length < 8796093022208 then ((some (y288 ++ bt282.1 : List ByteArray)).bind fun y291 => (if 0 ≤ (wrap64 ((wrap64 (1 + bt278.1)) - 1)) then (if (wrap64 ((wrap64 (1 + bt278.1)) - 1)) < (y291.length : Int) then (if (rdOf ybl y291 (wrap64 ((wrap64 (1 + bt278.1)) - 1))).size + 1 ≤ 9223372036854775807 then (some ((y291.set ((wrap64 ((wrap64 (1 + bt278.1)) - 1)) : Int).toNat ((rdOf ybl y291 (wrap64 ((wrap64 (1 + bt278.1)) - 1))) ++ (⟨#[97]⟩ : ByteArray))), bt286.2)) else (none)) else (none)) else (none))) else (none))) else (if bt286.1 = 1 then ((some (([] : List ByteArray) : List ByteArray)).bind fun y296 => (if y296.length + bt282.1.length < 8796093022208 then ((some (y296 ++ bt282.1 : List ByteArray)).bind fun y299 => (if 0 < (y299.length : Int) then (if 1 ≤ ((rdOf ybl y299 0).size : Int) then (if 1 + ((rdOf ybl y299 0).extract 1 (rdOf ybl y299 0).size).size ≤ 9223372036854775807 then (some ((y299.set (0 : Int).toNat ((⟨#[122]⟩ : ByteArray) ++ ((rdOf ybl y299 0).extract 1 (rdOf ybl y299 0).size))), bt286.2)) else (none)) else (none)) else (none))) else (none))) else (some (bt282.1, bt286.2)))))))
set_option maxHeartbeats 8000000 in
set_option maxRecDepth 100000 in
theorem spec_l91Some.calls (k : Nat) (g : Nat) (s0_0 : List Int) (s0_1 : Int) (a1 : Int) (a2 : Int) (r1 : List ByteArray) (r2 : Int) (w0 w : World) (hI : zae w0 w g s0_0 s0_1) (hB : Below w0.heap.size w0 w) (h : spec_l91Some.f k s0_0 s0_1 a1 a2 = some (r1, r2)) :
  Calls Try.prog 62 #[.pointer (some ⟨g, 0, none⟩), .int .i64 a1, .int .i64 a2] w fun e w' => ∃ v0_ : Value, e = .returned (v0_) ∧ Kd.V Kd.string 9 w' w.heap.size (fun k_ => (w.heap.size ≤ k_)) v0_ r1 ∧ zae w0 w' g s0_0 r2 ∧ Below w0.heap.size w0 w' ∧ zaf w w' g none := by
 have HI0 := zaa.mk hI
 have HK := zaa.mk (zaf.refl w g none)
 have HL := zaa.mk hB.size
 clear hI
 have HW0 := zaa.mk hB.size
 have HB := zaa.mk hB
 clear hB
 have H : ((spec_l6Rd_pick.f k s0_0 s0_1 a1).bind fun bt278 => ((spec_l6Rd_pick.f k s0_0 bt278.2 a2).bind fun bt280 => ((spec_l91Plan.f k s0_0 bt280.2 (wrap64 (1 + bt278.1)) (wrap64 (1 + bt280.1))).bind fun bt282 => ((spec_l6Rd_pick.f k s0_0 bt282.2 50).bind fun bt286 => (if bt286.1 = 0 then ((some (([] : List ByteArray) : List ByteArray)).bind fun y288 => (if y288.length + bt282.1.length < 8796093022208 then ((some (y288 ++ bt282.1 : List ByteArray)).bind fun y291 => (if 0 ≤ (wrap64 ((wrap64 (1 + bt278.1)) - 1)) then (if (wrap64 ((wrap64 (1 + bt278.1)) - 1)) < (y291.length : Int) then (if (rdOf ybl y291 (wrap64 ((wrap64 (1 + bt278.1)) - 1))).size + 1 ≤ 9223372036854775807 then (some ((y291.set ((wrap64 ((wrap64 (1 + bt278.1)) - 1)) : Int).toNat ((rdOf ybl y291 (wrap64 ((wrap64 (1 + bt278.1)) - 1))) ++ (⟨#[97]⟩ : ByteArray))), bt286.2)) else (none)) else (none)) else (none))) else (none))) else (if bt286.1 = 1 then ((some (([] : List ByteArray) : List ByteArray)).bind fun y296 => (if y296.length + bt282.1.length < 8796093022208 then ((some (y296 ++ bt282.1 : List ByteArray)).bind fun y299 => (if 0 < (y299.length : Int) then (if 1 ≤ ((rdOf ybl y299 0).size : Int) then (if 1 + ((rdOf ybl y299 0).extract 1 (rdOf ybl y299 0).size).size ≤ 9223372036854775807 then (some ((y299.set (0 : Int).toNat ((⟨#[122]⟩ : ByteArray) ++ ((rdOf ybl y299 0).extract 1 (rdOf ybl y299 0).size))), bt286.2)) else (none)) else (none)) else (none))) else (none))) else (some (bt282.1, bt286.2)))))))) = some (r1, r2) := h
 clear h
 replace H := ybm.mp H
 obtain ⟨⟨t278, t279⟩, A40, H⟩ := H
 replace H : ((spec_l6Rd_pick.f k s0_0 t279 a2).bind fun bt280 => ((spec_l91Plan.f k s0_0 bt280.2 (wrap64 (1 + t278)) (wrap64 (1 + bt280.1))).bind fun bt282 => ((spec_l6Rd_pick.f k s0_0 bt282.2 50).bind fun bt286 => (if bt286.1 = 0 then ((some (([] : List ByteArray) : List ByteArray)).bind fun y288 => (if y288.length + bt282.1.length < 8796093022208 then ((some (y288 ++ bt282.1 : List ByteArray)).bind fun y291 => (if 0 ≤ (wrap64 ((wrap64 (1 + t278)) - 1)) then (if (wrap64 ((wrap64 (1 + t278)) - 1)) < (y291.length : Int) then (if (rdOf ybl y291 (wrap64 ((wrap64 (1 + t278)) - 1))).size + 1 ≤ 9223372036854775807 then (some ((y291.set ((wrap64 ((wrap64 (1 + t278)) - 1)) : Int).toNat ((rdOf ybl y291 (wrap64 ((wrap64 (1 + t278)) - 1))) ++ (⟨#[97]⟩ : ByteArray))), bt286.2)) else (none)) else (none)) else (none))) else (none))) else (if bt286.1 = 1 then ((some (([] : List ByteArray) : List ByteArray)).bind fun y296 => (if y296.length + bt282.1.length < 8796093022208 then ((some (y296 ++ bt282.1 : List ByteArray)).bind fun y299 => (if 0 < (y299.length : Int) then (if 1 ≤ ((rdOf ybl y299 0).size : Int) then (if 1 + ((rdOf ybl y299 0).extract 1 (rdOf ybl y299 0).size).size ≤ 9223372036854775807 then (some ((y299.set (0 : Int).toNat ((⟨#[122]⟩ : ByteArray) ++ ((rdOf ybl y299 0).extract 1 (rdOf ybl y299 0).size))), bt286.2)) else (none)) else (none)) else (none))) else (none))) else (some (bt282.1, bt286.2))))))) = some (r1, r2) := H
 have A4 := zaa.mk A40
 clear A40
 replace H := ybm.mp H
 obtain ⟨⟨t280, t281⟩, A50, H⟩ := H
 replace H : ((spec_l91Plan.f k s0_0 t281 (wrap64 (1 + t278)) (wrap64 (1 + t280))).bind fun bt282 => ((spec_l6Rd_pick.f k s0_0 bt282.2 50).bind fun bt286 => (if bt286.1 = 0 then ((some (([] : List ByteArray) : List ByteArray)).bind fun y288 => (if y288.length + bt282.1.length < 8796093022208 then ((some (y288 ++ bt282.1 : List ByteArray)).bind fun y291 => (if 0 ≤ (wrap64 ((wrap64 (1 + t278)) - 1)) then (if (wrap64 ((wrap64 (1 + t278)) - 1)) < (y291.length : Int) then (if (rdOf ybl y291 (wrap64 ((wrap64 (1 + t278)) - 1))).size + 1 ≤ 9223372036854775807 then (some ((y291.set ((wrap64 ((wrap64 (1 + t278)) - 1)) : Int).toNat ((rdOf ybl y291 (wrap64 ((wrap64 (1 + t278)) - 1))) ++ (⟨#[97]⟩ : ByteArray))), bt286.2)) else (none)) else (none)) else (none))) else (none))) else (if bt286.1 = 1 then ((some (([] : List ByteArray) : List ByteArray)).bind fun y296 => (if y296.length + bt282.1.length < 8796093022208 then ((some (y296 ++ bt282.1 : List ByteArray)).bind fun y299 => (if 0 < (y299.length : Int) then (if 1 ≤ ((rdOf ybl y299 0).size : Int) then (if 1 + ((rdOf ybl y299 0).extract 1 (rdOf ybl y299 0).size).size ≤ 9223372036854775807 then (some ((y299.set (0 : Int).toNat ((⟨#[122]⟩ : ByteArray) ++ ((rdOf ybl y299 0).extract 1 (rdOf ybl y299 0).size))), bt286.2)) else (none)) else (none)) else (none))) else (none))) else (some (bt282.1, bt286.2)))))) = some (r1, r2) := H
 have A5 := zaa.mk A50
 clear A50
 replace H := ybm.mp H
 obtain ⟨⟨t282, t285⟩, A60, H⟩ := H
 replace H : ((spec_l6Rd_pick.f k s0_0 t285 50).bind fun bt286 => (if bt286.1 = 0 then ((some (([] : List ByteArray) : List ByteArray)).bind fun y288 => (if y288.length + t282.length < 8796093022208 then ((some (y288 ++ t282 : List ByteArray)).bind fun y291 => (if 0 ≤ (wrap64 ((wrap64 (1 + t278)) - 1)) then (if (wrap64 ((wrap64 (1 + t278)) - 1)) < (y291.length : Int) then (if (rdOf ybl y291 (wrap64 ((wrap64 (1 + t278)) - 1))).size + 1 ≤ 9223372036854775807 then (some ((y291.set ((wrap64 ((wrap64 (1 + t278)) - 1)) : Int).toNat ((rdOf ybl y291 (wrap64 ((wrap64 (1 + t278)) - 1))) ++ (⟨#[97]⟩ : ByteArray))), bt286.2)) else (none)) else (none)) else (none))) else (none))) else (if bt286.1 = 1 then ((some (([] : List ByteArray) : List ByteArray)).bind fun y296 => (if y296.length + t282.length < 8796093022208 then ((some (y296 ++ t282 : List ByteArray)).bind fun y299 => (if 0 < (y299.length : Int) then (if 1 ≤ ((rdOf ybl y299 0).size : Int) then (if 1 + ((rdOf ybl y299 0).extract 1 (rdOf ybl y299 0).size).size ≤ 9223372036854775807 then (some ((y299.set (0 : Int).toNat ((⟨#[122]⟩ : ByteArray) ++ ((rdOf ybl y299 0).extract 1 (rdOf ybl y299 0).size))), bt286.2)) else (none)) else (none)) else (none))) else (none))) else (some (t282, bt286.2))))) = some (r1, r2) := H
 have A6 := zaa.mk A60
 clear A60
 replace H := ybm.mp H
 obtain ⟨⟨t286, t287⟩, A70, H⟩ := H
 replace H : (if t286 = 0 then ((some (([] : List ByteArray) : List ByteArray)).bind fun y288 => (if y288.length + t282.length < 8796093022208 then ((some (y288 ++ t282 : List ByteArray)).bind fun y291 => (if 0 ≤ (wrap64 ((wrap64 (1 + t278)) - 1)) then (if (wrap64 ((wrap64 (1 + t278)) - 1)) < (y291.length : Int) then (if (rdOf ybl y291 (wrap64 ((wrap64 (1 + t278)) - 1))).size + 1 ≤ 9223372036854775807 then (some ((y291.set ((wrap64 ((wrap64 (1 + t278)) - 1)) : Int).toNat ((rdOf ybl y291 (wrap64 ((wrap64 (1 + t278)) - 1))) ++ (⟨#[97]⟩ : ByteArray))), t287)) else (none)) else (none)) else (none))) else (none))) else (if t286 = 1 then ((some (([] : List ByteArray) : List ByteArray)).bind fun y296 => (if y296.length + t282.length < 8796093022208 then ((some (y296 ++ t282 : List ByteArray)).bind fun y299 => (if 0 < (y299.length : Int) then (if 1 ≤ ((rdOf ybl y299 0).size : Int) then (if 1 + ((rdOf ybl y299 0).extract 1 (rdOf ybl y299 0).size).size ≤ 9223372036854775807 then (some ((y299.set (0 : Int).toNat ((⟨#[122]⟩ : ByteArray) ++ ((rdOf ybl y299 0).extract 1 (rdOf ybl y299 0).size))), t287)) else (none)) else (none)) else (none))) else (none))) else (some (t282, t287)))) = some (r1, r2) := H
 have A7 := zaa.mk A70
 clear A70
 by_cases c8 : t286 = 0
 ·rw [if_pos c8] at H
  have c8b0 : (t286 == 0) = true := beq_iff_eq.mpr c8
  have c8b1 : (t286 != 0) = false := bne_eq_false_iff_eq.mpr c8
  clear c8
  obtain ⟨y288, hy288⟩ : ∃ y_ : List ByteArray, y_ = (([] : List ByteArray)) := ⟨_, rfl⟩
  replace H : (if y288.length + t282.length < 8796093022208 then ((some (y288 ++ t282 : List ByteArray)).bind fun y291 => (if 0 ≤ (wrap64 ((wrap64 (1 + t278)) - 1)) then (if (wrap64 ((wrap64 (1 + t278)) - 1)) < (y291.length : Int) then (if (rdOf ybl y291 (wrap64 ((wrap64 (1 + t278)) - 1))).size + 1 ≤ 9223372036854775807 then (some ((y291.set ((wrap64 ((wrap64 (1 + t278)) - 1)) : Int).toNat ((rdOf ybl y291 (wrap64 ((wrap64 (1 + t278)) - 1))) ++ (⟨#[97]⟩ : ByteArray))), t287)) else (none)) else (none)) else (none))) else (none)) = some (r1, r2) := by first | (rw [hy288]; with_reducible exact H) | (have H2_ := (ybn _ _).symm.trans H; rw [hy288]; with_reducible exact H2_) | (have H2_ := (ybn _ _).symm.trans H; with_reducible exact H2_) | with_reducible exact H | (rw [hy288]; exact H) | exact H
  have Ny288 := zaa.mk hy288
  clear hy288
  by_cases c9 : y288.length + t282.length < 8796093022208
  ·rw [if_pos c9] at H
   have LMc9 := zaa.mk c9
   clear c9
   obtain ⟨y291, hy291⟩ : ∃ y_ : List ByteArray, y_ = (y288 ++ t282) := ⟨_, rfl⟩
   replace H : (if 0 ≤ (wrap64 ((wrap64 (1 + t278)) - 1)) then (if (wrap64 ((wrap64 (1 + t278)) - 1)) < (y291.length : Int) then (if (rdOf ybl y291 (wrap64 ((wrap64 (1 + t278)) - 1))).size + 1 ≤ 9223372036854775807 then (some ((y291.set ((wrap64 ((wrap64 (1 + t278)) - 1)) : Int).toNat ((rdOf ybl y291 (wrap64 ((wrap64 (1 + t278)) - 1))) ++ (⟨#[97]⟩ : ByteArray))), t287)) else (none)) else (none)) else (none)) = some (r1, r2) := by first | (rw [hy291]; with_reducible exact H) | (have H2_ := (ybn _ _).symm.trans H; rw [hy291]; with_reducible exact H2_) | (have H2_ := (ybn _ _).symm.trans H; with_reducible exact H2_) | with_reducible exact H | (rw [hy291]; exact H) | exact H
   have Ny291 := zaa.mk hy291
   clear hy291
   obtain ⟨ji10, hji10⟩ : ∃ j_ : Int, (wrap64 ((wrap64 (1 + t278)) - 1)) = j_ := ⟨_, rfl⟩
   replace H : (if 0 ≤ (ji10) then (if (ji10) < (y291.length : Int) then (if (rdOf ybl y291 (ji10)).size + 1 ≤ 9223372036854775807 then (some ((y291.set ((ji10) : Int).toNat ((rdOf ybl y291 (ji10)) ++ (⟨#[97]⟩ : ByteArray))), t287)) else (none)) else (none)) else (none)) = some (r1, r2) := by first | (rw [hji10] at H; exact H) | (simp only [hji10] at H ⊢; exact H)
   (try rw [hji10] at A4)
   (try rw [hji10] at A5)
   (try rw [hji10] at A6)
   (try rw [hji10] at A7)
   have hji10w : (IntKind.i64.wrap ((wrap64 (1 + t278)) - 1)) = ji10 := (zar _).trans hji10
   by_cases c11 : 0 ≤ (ji10)
   ·rw [if_pos c11] at H
    have c11b0 : decide (0 ≤ (ji10)) = true := decide_eq_true c11
    clear c11
    by_cases c12 : (ji10) < (y291.length : Int)
    ·rw [if_pos c12] at H
     have c12b0 : decide ((ji10) < (y291.length : Int)) = true := decide_eq_true c12
     clear c12
     by_cases c13 : (rdOf ybl y291 (ji10)).size + 1 ≤ 9223372036854775807
     ·rw [if_pos c13] at H
      have c13b0 := eq_true c13
      have c13b1 : decide ((rdOf ybl y291 (ji10)).size + 1 ≤ 9223372036854775807) = true := decide_eq_true c13
      try have c13b2 : (9223372036854775807 < (rdOf ybl y291 (ji10)).size + 1) = False := eq_false (Nat.not_lt.2 c13)
      obtain ⟨y295, hy295⟩ : ∃ y_ : List ByteArray, y_ = (y291.set ((ji10) : Int).toNat ((rdOf ybl y291 (ji10)) ++ (⟨#[97]⟩ : ByteArray))) := ⟨_, rfl⟩
      replace H : (some (y295, t287)) = some (r1, r2) := by first | (rw [hy295]; with_reducible exact H) | (have H2_ := (ybn _ _).symm.trans H; rw [hy295]; with_reducible exact H2_) | (have H2_ := (ybn _ _).symm.trans H; with_reducible exact H2_) | with_reducible exact H | (rw [hy295]; exact H) | exact H
      have Ny295 := zaa.mk hy295
      clear hy295
      simp only [Option.some.injEq, Prod.mk.injEq] at H
      obtain ⟨rfl, rfl⟩ := H
      go_enter Try.func62, Try.ntmps62
      go_wp2_with (first | ((with_reducible refine zaq (f := 63) rfl ?_); refine zbf (some 11) rfl rfl Try.func63 (by kernel_rfl) rfl #[.pointer (some ⟨g, 0, none⟩), .int .i64 a1] rfl (by (try simp only [ybf, ybg, ybh]); first | done | rfl | (simp only [ybj, ybi]; rfl)) ?_; (with_reducible refine (spec_l6Rd_pick.calls k g s0_0 s0_1 a1 t278 t279 w0 _ ?side1 ?side2 A4.out).mono ?_); (case side1 => repeat (first | (with_reducible first | exact HI0.out | apply zae.alloc | apply zae.drewN | apply zae.drew | apply zae.set_1) | exact HI0.out)); (case side2 => repeat (first | (with_reducible first | exact HB.out | apply zac | apply zab | apply zad | refine zah ?_ (zae.ge HI0.out)) | exact HB.out)); rintro e w15 ⟨rfl, hi, hb, hk⟩; refine ⟨_, rfl, ?_⟩; have n0_ := zaa.mk (zaf.trans (by repeat (first | (with_reducible first | exact HK.out | apply zaf.set_ | apply zaj | apply zal | apply zak) | exact HK.out)) hk (.inl rfl)); have n1_ := zaa.mk (hb); have n2_ := zaa.mk (hi); clear HK; clear HB; clear HI0; have HK := n0_; have HB := n1_; have HI0 := n2_; clear n0_ n1_ n2_; (try clear hb); (try clear hb2); (try clear hk); (try clear hi)) | ((with_reducible refine zaq (f := 63) rfl ?_); refine zbf (some 17) rfl rfl Try.func63 (by kernel_rfl) rfl #[.pointer (some ⟨g, 0, none⟩), .int .i64 a2] rfl (by (try simp only [ybf, ybg, ybh]); first | done | rfl | (simp only [ybj, ybi]; rfl)) ?_; (with_reducible refine (spec_l6Rd_pick.calls k g s0_0 t279 a2 t280 t281 w0 _ ?side1 ?side2 A5.out).mono ?_); (case side1 => repeat (first | (with_reducible first | exact HI0.out | apply zae.alloc | apply zae.drewN | apply zae.drew | apply zae.set_1) | exact HI0.out)); (case side2 => repeat (first | (with_reducible first | exact HB.out | apply zac | apply zab | apply zad | refine zah ?_ (zae.ge HI0.out)) | exact HB.out)); rintro e w16 ⟨rfl, hi, hb, hk⟩; refine ⟨_, rfl, ?_⟩; have n0_ := zaa.mk (zaf.trans (by repeat (first | (with_reducible first | exact HK.out | apply zaf.set_ | apply zaj | apply zal | apply zak) | exact HK.out)) hk (.inl rfl)); have n1_ := zaa.mk (hb); have n2_ := zaa.mk (hi); clear HK; clear HB; clear HI0; have HK := n0_; have HB := n1_; have HI0 := n2_; clear n0_ n1_ n2_; (try clear hb); (try clear hb2); (try clear hk); (try clear hi)) | ((with_reducible refine zaq (f := 115) rfl ?_); refine zbf (some 19) rfl rfl Try.func115 (by kernel_rfl) rfl #[.pointer (some ⟨g, 0, none⟩), .int .i64 (wrap64 (1 + t278)), .int .i64 (wrap64 (1 + t280))] rfl (by (try simp only [ybf, ybg, ybh]); first | done | rfl | (simp only [ybj, ybi]; rfl)) ?_; (with_reducible refine (spec_l91Plan.calls k g s0_0 t281 (wrap64 (1 + t278)) (wrap64 (1 + t280)) t282 t285 w0 _ ?side1 ?side2 A6.out).mono ?_); (case side1 => repeat (first | (with_reducible first | exact HI0.out | apply zae.alloc | apply zae.drewN | apply zae.drew | apply zae.set_1) | exact HI0.out)); (case side2 => repeat (first | (with_reducible first | exact HB.out | apply zac | apply zab | apply zad | refine zah ?_ (zae.ge HI0.out)) | exact HB.out)); rintro e w17 ⟨v283, rfl, ho0, hi, hb, hk⟩; refine ⟨_, rfl, ?_⟩; have n0_ := zaa.mk (Kd.V_lower (Kd.V_mono (ok' := fun k_ => (w.heap.size ≤ k_) ∧ k_ ≠ g) ho0 (fun k_ hk_ => ⟨(Nat.le_trans (zbh (w := w) (g := g) (row := none) (by repeat (first | (with_reducible first | exact HK.out | apply zaf.set_ | apply zaj | apply zal | apply zak) | exact HK.out))) hk_), (zae.fresh (by repeat (first | (with_reducible first | exact HI0.out | apply zae.alloc | apply zae.drewN | apply zae.drew | apply zae.set_1) | exact HI0.out)) k_ hk_)⟩)) (zbh (w := w) (g := g) (row := none) (by repeat (first | (with_reducible first | exact HK.out | apply zaf.set_ | apply zaj | apply zal | apply zak) | exact HK.out)))); have n1_ := zaa.mk (zaf.trans (by repeat (first | (with_reducible first | exact HK.out | apply zaf.set_ | apply zaj | apply zal | apply zak) | exact HK.out)) hk (.inl rfl)); have n2_ := zaa.mk (hb); have n3_ := zaa.mk (hi); clear HK; clear HB; clear HI0; have HO284 := n0_; have HK := n1_; have HB := n2_; have HI0 := n3_; clear n0_ n1_ n2_ n3_; (try clear hb); (try clear hb2); (try clear hk); (try clear hi); (try clear ho0)) | ((with_reducible refine zaq (f := 63) rfl ?_); refine zbf (some 21) rfl rfl Try.func63 (by kernel_rfl) rfl #[.pointer (some ⟨g, 0, none⟩), .int .i64 50] rfl (by (try simp only [ybf, ybg, ybh]); first | done | rfl | (simp only [ybj, ybi]; rfl)) ?_; (with_reducible refine (spec_l6Rd_pick.calls k g s0_0 t285 50 t286 t287 w0 _ ?side1 ?side2 A7.out).mono ?_); (case side1 => repeat (first | (with_reducible first | exact HI0.out | apply zae.alloc | apply zae.drewN | apply zae.drew | apply zae.set_1) | exact HI0.out)); (case side2 => repeat (first | (with_reducible first | exact HB.out | apply zac | apply zab | apply zad | refine zah ?_ (zae.ge HI0.out)) | exact HB.out)); rintro e w18 ⟨rfl, hi, hb, hk⟩; refine ⟨_, rfl, ?_⟩; have n0_ := zaa.mk (Kd.V_mono (Kd.V_keep (Kd.V_mono (ok := fun k_ => (((w.heap.size ≤ k_)) ∧ k_ ≠ g)) (by (with_reducible repeat (first | apply ybs | apply ybt | apply ybu)); exact HO284.out) (fun k_ hk_ => (⟨hk_, hk_.2⟩ : _ ∧ k_ ≠ g))) hk (fun _ h => h.2)) (fun _ h => h.1)); have n1_ := zaa.mk (zaf.trans (by repeat (first | (with_reducible first | exact HK.out | apply zaf.set_ | apply zaj | apply zal | apply zak) | exact HK.out)) hk (.inl rfl)); have n2_ := zaa.mk (hb); have n3_ := zaa.mk (hi); clear HO284; clear HK; clear HB; clear HI0; have HO284 := n0_; have HK := n1_; have HB := n2_; have HI0 := n3_; clear n0_ n1_ n2_ n3_; (try clear hb); (try clear hb2); (try clear hk); (try clear hi)) | ((with_reducible refine zbc (N := 24) rfl ?_); refine Kd.R_lit Kd.string _ 9 ?hg (N := 24) ?hd (xs := ([] : List ByteArray)) (inner := []) (ok := fun _ => True) (okp := fun _ => True) ?hr ?hp (fun _ hk => hk) trivial (Below.refl _ _) (ybo _) (by simp) ?_; (case hd => rfl); (case hg => rfl); (case hr => first | (go_simp; done) | (go_simp; rfl)); (case hp => exact (Reps.none _ _)); intro v289 w19 ho20 hb hg_ hnew_; clear hg_ hnew_; (first | rw [← Ny288.out] at ho20 | (simp only [Int.reduceToNat] at ho20; rw [← Ny288.out] at ho20)); have n0_ := zaa.mk (Kd.V_elder' (by (with_reducible repeat (first | apply ybs | apply ybt | apply ybu)); exact HO284.out) (Kd.R_base ho20) hb); have n1_ := zaa.mk (Kd.R_lower (Kd.R_newM (M := fun k_ => (w.heap.size ≤ k_)) ho20 (zbh (w := w) (g := g) (row := none) (by repeat (first | (with_reducible first | exact HK.out | apply zaf.set_ | apply zaj | apply zal | apply zak) | exact HK.out))) (fun k_ h_ => h_)) (zbh (w := w) (g := g) (row := none) (by repeat (first | (with_reducible first | exact HK.out | apply zaf.set_ | apply zaj | apply zal | apply zak) | exact HK.out)))); have n2_ := zaa.mk (zae.below (by repeat (first | (with_reducible first | exact HI0.out | apply zae.alloc | apply zae.drewN | apply zae.drew | apply zae.set_1) | exact HI0.out)) hb); have n3_ := zaa.mk (zaf.trans (by repeat (first | (with_reducible first | exact HK.out | apply zaf.set_ | apply zaj | apply zal | apply zak) | exact HK.out)) (zaf.of_below hb g none) (.inl rfl)); have n4_ := zaa.mk (zag (by repeat (first | (with_reducible first | exact HB.out | apply zac | apply zab | apply zad | refine zah ?_ (zae.ge HI0.out)) | exact HB.out)) hb); clear HO284; clear HI0; clear HK; clear HB; have HO284 := n0_; have HO290 := n1_; have HI0 := n2_; have HK := n3_; have HB := n4_; clear n0_ n1_ n2_ n3_ n4_; clear hb ho20; obtain ⟨Ao22, co22, eo22⟩ := Kd.V_slice HO284.out; subst eo22) | ((with_reducible refine zay (b := .append) (xs := #[.tmp 24, .tmp 25]) rfl ?_); at_builtin; refine Kd.R_append_rows Kd.string w.heap.size rfl (.tmp 24) (.tmp 25) 23 9 (.string ⟨#[]⟩) 16 rfl Try.underlying23 info9 rfl (by decide) (by omega) v289 y288 t282 _ _ _ (fun k_ => (w.heap.size ≤ k_)) (fun _ => False) rfl rfl ?aO ?aR (fun _ _ h => h) (fun _ h => h.elim) ?aF (Below.refl _ _) ?aS ?aL ?_; (case aR => repeat (first | exact (Kd.V_reads' HO284.out).2.2 | (with_reducible refine ybv ?_ _) | (with_reducible refine ybw ?_ _) | (with_reducible refine ybx ?_))); (case aF => exact (fun k_ hk => (Nat.le_trans (zbh (w := w) (g := g) (row := none) (by repeat (first | (with_reducible first | exact HK.out | apply zaf.set_ | apply zaj | apply zal | apply zak) | exact HK.out))) hk))); (case aO => exact (by (with_reducible repeat (first | apply ybp | apply ybq | apply ybr)); exact Kd.R_mono HO290.out (fun _ hk => hk.1))); (case aS => exact (zbh (w := w) (g := g) (row := none) (by repeat (first | (with_reducible first | exact HK.out | apply zaf.set_ | apply zaj | apply zal | apply zak) | exact HK.out)))); (case aL => have := LMc9.out; omega); intro v292 w21 ho hb hg hat; rw [← Ny291.out] at ho; have n0_ := zaa.mk (zae.grown (by repeat (first | (with_reducible first | exact HI0.out | apply zae.alloc | apply zae.drewN | apply zae.drew | apply zae.set_1) | exact HI0.out)) hg (zae.own_ne HI0.out HO290.out (by decide))); have n1_ := zaa.mk (Kd.V_afterv (ok := (fun k_ => (w.heap.size ≤ k_) ∧ k_ ≠ g)) (by (with_reducible repeat (first | apply ybs | apply ybt | apply ybu)); exact HO284.out) hg hat); have n2_ := zaa.mk (below_weaken (by repeat (first | (with_reducible first | exact HB.out | apply zac | apply zab | apply zad | refine zah ?_ (zae.ge HI0.out)) | exact HB.out)) HL.out hb); have n3_ := zaa.mk (zaf.trans (by repeat (first | (with_reducible first | exact HK.out | apply zaf.set_ | apply zaj | apply zal | apply zak) | exact HK.out)) (zaf.of_grown hg g) (Kd.R_base2 HO290.out)); have n4_ := zaa.mk (ho); clear HI0; clear HO284; clear HB; clear HK; clear HO290; have HI0 := n0_; have HO284 := n1_; have HB := n2_; have HK := n3_; have HO293 := n4_; clear n0_ n1_ n2_ n3_ n4_; clear ho hb hg hat; obtain ⟨Ao23, co23, eo23⟩ := Kd.R_slice HO293.out; subst eo23; have p294 : 0 ≤ ((ji10) : Int) := of_decide_eq_true (by assumption); have q294 : (ji10) < (y291.length : Int) := of_decide_eq_true (by assumption); obtain ⟨ad294, e294, hx294_0⟩ := Kd.at_string (Kd.R_reads' HO293.out).2.2 (ji10) p294 q294; cases e294; replace p294 := eq_true p294; replace q294 := eq_true q294; have p14 : 0 ≤ ((ji10) : Int) := of_decide_eq_true (by assumption); have q14 : ((ji10) : Int) < ((y291.length : Int) : Int) := of_decide_eq_true (by assumption); obtain ⟨go14, co14, eo14, gb14, gl14, cl14, HG14⟩ := Kd.R_form HO293.out (by omega); (first | cases eo14 | (injection eo14 with ea_ en_ ec_; (first | subst ea_ | (injection ea_ with ea_; subst ea_)); subst ec_; clear en_)); have GB14 := zaa.mk gb14; have GG14 := zaa.mk HG14; clear gb14 gl14 HG14; (first | simp only [add_plain] at hx294_0 | skip); obtain ⟨hx14_0, hf14_0⟩ := Kd.R_celln (⟨#[]⟩ : ByteArray) HO293.out ((ji10) : Int) p14 q14; replace p14 := eq_true p14; replace q14 := eq_true q14; obtain ⟨hy24_, hz24_⟩ := Kd.R_celln (⟨#[]⟩ : ByteArray) HO293.out ((ji10) : Int) (of_decide_eq_true (by assumption)) (of_decide_eq_true (by assumption)); have HP24 := Kd.R_putg HO293.out ((ji10) : Int) ((rdOf ybl y291 (ji10)) ++ (⟨#[97]⟩ : ByteArray))) | ((with_reducible refine gate_store (t := 9) (p := 36) rfl ?_); refine store_event (t := 9) (p := 36) (v := ?vo_w25) (w1 := (w21.setCell ⟨go14, ((ji10) : Int).toNat, none⟩ (.string ((rdOf ybl y291 (ji10)) ++ (⟨#[97]⟩ : ByteArray))))) ?hg ?ho ?hn ?hr ?_; (case ho => rfl); (case hg => rfl); (case hn => rfl); (case hr => first | (go_simp; done) | (go_simp; rfl)); intro w25 hw; have hg : w21.grownBy w25 (some go14) := (by rw [hw]; exact HP24.2); have hp_ : Kd.R Kd.string 9 w25 w.heap.size (fun k_ => (w.heap.size ≤ k_)) (.slice (some ⟨go14, 0, none⟩) y291.length co23) y295 := (by rw [hw, Ny295.out]; exact HP24.1); clear HP24; have n0_ := zaa.mk (zae.grown (by repeat (first | (with_reducible first | exact HI0.out | apply zae.alloc | apply zae.drewN | apply zae.drew | apply zae.set_1) | exact HI0.out)) hg (zae.own_ne HI0.out HO293.out (by decide))); have n1_ := zaa.mk (Kd.V_afterv (v := (.slice (some ⟨go14, 0, none⟩) y291.length co23)) (v1 := (.slice (some ⟨go14, 0, none⟩) y291.length co23)) (ok := (fun k_ => (w.heap.size ≤ k_) ∧ k_ ≠ g)) (by (with_reducible repeat (first | apply ybs | apply ybt | apply ybu)); exact HO284.out) hg (.inl rfl)); have n2_ := zaa.mk (hp_); have n3_ := zaa.mk ((by rw [hw]; exact zah (HB.out) (Nat.le_trans HL.out GB14.out) : Below w0.heap.size w0 w25)); have n4_ := zaa.mk (zaf.trans (by repeat (first | (with_reducible first | exact HK.out | apply zaf.set_ | apply zaj | apply zal | apply zak) | exact HK.out)) (zaf.of_grown hg g) (Kd.R_base2 HO293.out)); clear HI0; clear HO284; clear HO293; clear HB; clear HK; have HI0 := n0_; have HO284 := n1_; have HO293 := n2_; have HB := n3_; have HK := n4_; clear n0_ n1_ n2_ n3_ n4_; clear hg hw hp_))
      go_ret
      exact ⟨_, by first | rfl | (simp [zan, zam] <;> rfl) | (simp only [← hji10]; first | rfl | (simp [zan, zam] <;> rfl)) | (simp [*, zan, zam] <;> rfl), Kd.R_V (by (with_reducible repeat (first | apply ybp | apply ybq | apply ybr)); exact HO293.out), by repeat (first | (with_reducible first | exact HI0.out | apply zae.alloc | apply zae.drewN | apply zae.drew | apply zae.set_1) | exact HI0.out), by repeat (first | (with_reducible first | exact HB.out | apply zac | apply zab | apply zad | refine zah ?_ (zae.ge HI0.out)) | exact HB.out), by repeat (first | (with_reducible first | exact HK.out | apply zaf.set_ | apply zaj | apply zal | apply zak) | exact HK.out)⟩
     ·rw [if_neg c13] at H
      exact absurd H (by simp)
    ·rw [if_neg c12] at H
     exact absurd H (by simp)
   ·rw [if_neg c11] at H
    exact absurd H (by simp)
  ·rw [if_neg c9] at H
   exact absurd H (by simp)
 ·rw [if_neg c8] at H
  have c8b0 : (t286 == 0) = false := beq_eq_false_iff_ne.mpr c8
  have c8b1 : (t286 != 0) = true := bne_iff_ne.mpr c8
  by_cases c26 : t286 = 1
  ·rw [if_pos c26] at H
   have c26b0 : (t286 == 1) = true := beq_iff_eq.mpr c26
   have c26b1 : (t286 != 1) = false := bne_eq_false_iff_eq.mpr c26
   clear c26
   obtain ⟨y296, hy296⟩ : ∃ y_ : List ByteArray, y_ = (([] : List ByteArray)) := ⟨_, rfl⟩
   replace H : (if y296.length + t282.length < 8796093022208 then ((some (y296 ++ t282 : List ByteArray)).bind fun y299 => (if 0 < (y299.length : Int) then (if 1 ≤ ((rdOf ybl y299 0).size : Int) then (if 1 + ((rdOf ybl y299 0).extract 1 (rdOf ybl y299 0).size).size ≤ 9223372036854775807 then (some ((y299.set (0 : Int).toNat ((⟨#[122]⟩ : ByteArray) ++ ((rdOf ybl y299 0).extract 1 (rdOf ybl y299 0).size))), t287)) else (none)) else (none)) else (none))) else (none)) = some (r1, r2) := by first | (rw [hy296]; with_reducible exact H) | (have H2_ := (ybn _ _).symm.trans H; rw [hy296]; with_reducible exact H2_) | (have H2_ := (ybn _ _).symm.trans H; with_reducible exact H2_) | with_reducible exact H | (rw [hy296]; exact H) | exact H
   have Ny296 := zaa.mk hy296
   clear hy296
   by_cases c27 : y296.length + t282.length < 8796093022208
   ·rw [if_pos c27] at H
    have LMc27 := zaa.mk c27
    clear c27
    obtain ⟨y299, hy299⟩ : ∃ y_ : List ByteArray, y_ = (y296 ++ t282) := ⟨_, rfl⟩
    replace H : (if 0 < (y299.length : Int) then (if 1 ≤ ((rdOf ybl y299 0).size : Int) then (if 1 + ((rdOf ybl y299 0).extract 1 (rdOf ybl y299 0).size).size ≤ 9223372036854775807 then (some ((y299.set (0 : Int).toNat ((⟨#[122]⟩ : ByteArray) ++ ((rdOf ybl y299 0).extract 1 (rdOf ybl y299 0).size))), t287)) else (none)) else (none)) else (none)) = some (r1, r2) := by first | (rw [hy299]; with_reducible exact H) | (have H2_ := (ybn _ _).symm.trans H; rw [hy299]; with_reducible exact H2_) | (have H2_ := (ybn _ _).symm.trans H; with_reducible exact H2_) | with_reducible exact H | (rw [hy299]; exact H) | exact H
    have Ny299 := zaa.mk hy299
    clear hy299
    by_cases c28 : 0 < (y299.length : Int)
    ·rw [if_pos c28] at H
     have c28b0 : decide (0 < (y299.length : Int)) = true := decide_eq_true c28
     have c28b1 : decide (0 < y299.length) = true := decide_eq_true (by omega)
     clear c28
     by_cases c29 : 1 ≤ ((rdOf ybl y299 0).size : Int)
     ·rw [if_pos c29] at H
      have c29b0 := eq_true c29
      have c29b1 : decide (1 ≤ ((rdOf ybl y299 0).size : Int)) = true := decide_eq_true c29
      clear c29
      by_cases c30 : 1 + ((rdOf ybl y299 0).extract 1 (rdOf ybl y299 0).size).size ≤ 9223372036854775807
      ·rw [if_pos c30] at H
       have c30b0 := eq_true c30
       have c30b1 : decide (1 + ((rdOf ybl y299 0).extract 1 (rdOf ybl y299 0).size).size ≤ 9223372036854775807) = true := decide_eq_true c30
       try have c30b2 : (9223372036854775807 < 1 + ((rdOf ybl y299 0).extract 1 (rdOf ybl y299 0).size).size) = False := eq_false (Nat.not_lt.2 c30)
       try have c30b3 : (9223372036854775807 < 1 + ((rdOf ybl y299 0).size - 1)) = False := eq_false (by have h_ := c30; rw [ByteArray.size_extract] at h_; omega)
       obtain ⟨y303, hy303⟩ : ∃ y_ : List ByteArray, y_ = (y299.set (0 : Int).toNat ((⟨#[122]⟩ : ByteArray) ++ ((rdOf ybl y299 0).extract 1 (rdOf ybl y299 0).size))) := ⟨_, rfl⟩
       replace H : (some (y303, t287)) = some (r1, r2) := by first | (rw [hy303]; with_reducible exact H) | (have H2_ := (ybn _ _).symm.trans H; rw [hy303]; with_reducible exact H2_) | (have H2_ := (ybn _ _).symm.trans H; with_reducible exact H2_) | with_reducible exact H | (rw [hy303]; exact H) | exact H
       have Ny303 := zaa.mk hy303
       clear hy303
       simp only [Option.some.injEq, Prod.mk.injEq] at H
       obtain ⟨rfl, rfl⟩ := H
       go_enter Try.func62, Try.ntmps62
       go_wp2_with (first | ((with_reducible refine zaq (f := 63) rfl ?_); refine zbf (some 11) rfl rfl Try.func63 (by kernel_rfl) rfl #[.pointer (some ⟨g, 0, none⟩), .int .i64 a1] rfl (by (try simp only [ybf, ybg, ybh]); first | done | rfl | (simp only [ybj, ybi]; rfl)) ?_; (with_reducible refine (spec_l6Rd_pick.calls k g s0_0 s0_1 a1 t278 t279 w0 _ ?side1 ?side2 A4.out).mono ?_); (case side1 => repeat (first | (with_reducible first | exact HI0.out | apply zae.alloc | apply zae.drewN | apply zae.drew | apply zae.set_1) | exact HI0.out)); (case side2 => repeat (first | (with_reducible first | exact HB.out | apply zac | apply zab | apply zad | refine zah ?_ (zae.ge HI0.out)) | exact HB.out)); rintro e w32 ⟨rfl, hi, hb, hk⟩; refine ⟨_, rfl, ?_⟩; have n0_ := zaa.mk (zaf.trans (by repeat (first | (with_reducible first | exact HK.out | apply zaf.set_ | apply zaj | apply zal | apply zak) | exact HK.out)) hk (.inl rfl)); have n1_ := zaa.mk (hb); have n2_ := zaa.mk (hi); clear HK; clear HB; clear HI0; have HK := n0_; have HB := n1_; have HI0 := n2_; clear n0_ n1_ n2_; (try clear hb); (try clear hb2); (try clear hk); (try clear hi)) | ((with_reducible refine zaq (f := 63) rfl ?_); refine zbf (some 17) rfl rfl Try.func63 (by kernel_rfl) rfl #[.pointer (some ⟨g, 0, none⟩), .int .i64 a2] rfl (by (try simp only [ybf, ybg, ybh]); first | done | rfl | (simp only [ybj, ybi]; rfl)) ?_; (with_reducible refine (spec_l6Rd_pick.calls k g s0_0 t279 a2 t280 t281 w0 _ ?side1 ?side2 A5.out).mono ?_); (case side1 => repeat (first | (with_reducible first | exact HI0.out | apply zae.alloc | apply zae.drewN | apply zae.drew | apply zae.set_1) | exact HI0.out)); (case side2 => repeat (first | (with_reducible first | exact HB.out | apply zac | apply zab | apply zad | refine zah ?_ (zae.ge HI0.out)) | exact HB.out)); rintro e w33 ⟨rfl, hi, hb, hk⟩; refine ⟨_, rfl, ?_⟩; have n0_ := zaa.mk (zaf.trans (by repeat (first | (with_reducible first | exact HK.out | apply zaf.set_ | apply zaj | apply zal | apply zak) | exact HK.out)) hk (.inl rfl)); have n1_ := zaa.mk (hb); have n2_ := zaa.mk (hi); clear HK; clear HB; clear HI0; have HK := n0_; have HB := n1_; have HI0 := n2_; clear n0_ n1_ n2_; (try clear hb); (try clear hb2); (try clear hk); (try clear hi)) | ((with_reducible refine zaq (f := 115) rfl ?_); refine zbf (some 19) rfl rfl Try.func115 (by kernel_rfl) rfl #[.pointer (some ⟨g, 0, none⟩), .int .i64 (wrap64 (1 + t278)), .int .i64 (wrap64 (1 + t280))] rfl (by (try simp only [ybf, ybg, ybh]); first | done | rfl | (simp only [ybj, ybi]; rfl)) ?_; (with_reducible refine (spec_l91Plan.calls k g s0_0 t281 (wrap64 (1 + t278)) (wrap64 (1 + t280)) t282 t285 w0 _ ?side1 ?side2 A6.out).mono ?_); (case side1 => repeat (first | (with_reducible first | exact HI0.out | apply zae.alloc | apply zae.drewN | apply zae.drew | apply zae.set_1) | exact HI0.out)); (case side2 => repeat (first | (with_reducible first | exact HB.out | apply zac | apply zab | apply zad | refine zah ?_ (zae.ge HI0.out)) | exact HB.out)); rintro e w34 ⟨v283, rfl, ho0, hi, hb, hk⟩; refine ⟨_, rfl, ?_⟩; have n0_ := zaa.mk (Kd.V_lower (Kd.V_mono (ok' := fun k_ => (w.heap.size ≤ k_) ∧ k_ ≠ g) ho0 (fun k_ hk_ => ⟨(Nat.le_trans (zbh (w := w) (g := g) (row := none) (by repeat (first | (with_reducible first | exact HK.out | apply zaf.set_ | apply zaj | apply zal | apply zak) | exact HK.out))) hk_), (zae.fresh (by repeat (first | (with_reducible first | exact HI0.out | apply zae.alloc | apply zae.drewN | apply zae.drew | apply zae.set_1) | exact HI0.out)) k_ hk_)⟩)) (zbh (w := w) (g := g) (row := none) (by repeat (first | (with_reducible first | exact HK.out | apply zaf.set_ | apply zaj | apply zal | apply zak) | exact HK.out)))); have n1_ := zaa.mk (zaf.trans (by repeat (first | (with_reducible first | exact HK.out | apply zaf.set_ | apply zaj | apply zal | apply zak) | exact HK.out)) hk (.inl rfl)); have n2_ := zaa.mk (hb); have n3_ := zaa.mk (hi); clear HK; clear HB; clear HI0; have HO284 := n0_; have HK := n1_; have HB := n2_; have HI0 := n3_; clear n0_ n1_ n2_ n3_; (try clear hb); (try clear hb2); (try clear hk); (try clear hi); (try clear ho0)) | ((with_reducible refine zaq (f := 63) rfl ?_); refine zbf (some 21) rfl rfl Try.func63 (by kernel_rfl) rfl #[.pointer (some ⟨g, 0, none⟩), .int .i64 50] rfl (by (try simp only [ybf, ybg, ybh]); first | done | rfl | (simp only [ybj, ybi]; rfl)) ?_; (with_reducible refine (spec_l6Rd_pick.calls k g s0_0 t285 50 t286 t287 w0 _ ?side1 ?side2 A7.out).mono ?_); (case side1 => repeat (first | (with_reducible first | exact HI0.out | apply zae.alloc | apply zae.drewN | apply zae.drew | apply zae.set_1) | exact HI0.out)); (case side2 => repeat (first | (with_reducible first | exact HB.out | apply zac | apply zab | apply zad | refine zah ?_ (zae.ge HI0.out)) | exact HB.out)); rintro e w35 ⟨rfl, hi, hb, hk⟩; refine ⟨_, rfl, ?_⟩; have n0_ := zaa.mk (Kd.V_mono (Kd.V_keep (Kd.V_mono (ok := fun k_ => (((w.heap.size ≤ k_)) ∧ k_ ≠ g)) (by (with_reducible repeat (first | apply ybs | apply ybt | apply ybu)); exact HO284.out) (fun k_ hk_ => (⟨hk_, hk_.2⟩ : _ ∧ k_ ≠ g))) hk (fun _ h => h.2)) (fun _ h => h.1)); have n1_ := zaa.mk (zaf.trans (by repeat (first | (with_reducible first | exact HK.out | apply zaf.set_ | apply zaj | apply zal | apply zak) | exact HK.out)) hk (.inl rfl)); have n2_ := zaa.mk (hb); have n3_ := zaa.mk (hi); clear HO284; clear HK; clear HB; clear HI0; have HO284 := n0_; have HK := n1_; have HB := n2_; have HI0 := n3_; clear n0_ n1_ n2_ n3_; (try clear hb); (try clear hb2); (try clear hk); (try clear hi)) | ((with_reducible refine zbc (N := 39) rfl ?_); refine Kd.R_lit Kd.string _ 9 ?hg (N := 39) ?hd (xs := ([] : List ByteArray)) (inner := []) (ok := fun _ => True) (okp := fun _ => True) ?hr ?hp (fun _ hk => hk) trivial (Below.refl _ _) (ybo _) (by simp) ?_; (case hd => rfl); (case hg => rfl); (case hr => first | (go_simp; done) | (go_simp; rfl)); (case hp => exact (Reps.none _ _)); intro v297 w36 ho37 hb hg_ hnew_; clear hg_ hnew_; (first | rw [← Ny296.out] at ho37 | (simp only [Int.reduceToNat] at ho37; rw [← Ny296.out] at ho37)); have n0_ := zaa.mk (Kd.V_elder' (by (with_reducible repeat (first | apply ybs | apply ybt | apply ybu)); exact HO284.out) (Kd.R_base ho37) hb); have n1_ := zaa.mk (Kd.R_lower (Kd.R_newM (M := fun k_ => (w.heap.size ≤ k_)) ho37 (zbh (w := w) (g := g) (row := none) (by repeat (first | (with_reducible first | exact HK.out | apply zaf.set_ | apply zaj | apply zal | apply zak) | exact HK.out))) (fun k_ h_ => h_)) (zbh (w := w) (g := g) (row := none) (by repeat (first | (with_reducible first | exact HK.out | apply zaf.set_ | apply zaj | apply zal | apply zak) | exact HK.out)))); have n2_ := zaa.mk (zae.below (by repeat (first | (with_reducible first | exact HI0.out | apply zae.alloc | apply zae.drewN | apply zae.drew | apply zae.set_1) | exact HI0.out)) hb); have n3_ := zaa.mk (zaf.trans (by repeat (first | (with_reducible first | exact HK.out | apply zaf.set_ | apply zaj | apply zal | apply zak) | exact HK.out)) (zaf.of_below hb g none) (.inl rfl)); have n4_ := zaa.mk (zag (by repeat (first | (with_reducible first | exact HB.out | apply zac | apply zab | apply zad | refine zah ?_ (zae.ge HI0.out)) | exact HB.out)) hb); clear HO284; clear HI0; clear HK; clear HB; have HO284 := n0_; have HO298 := n1_; have HI0 := n2_; have HK := n3_; have HB := n4_; clear n0_ n1_ n2_ n3_ n4_; clear hb ho37; obtain ⟨Ao39, co39, eo39⟩ := Kd.V_slice HO284.out; subst eo39) | ((with_reducible refine zay (b := .append) (xs := #[.tmp 39, .tmp 40]) rfl ?_); at_builtin; refine Kd.R_append_rows Kd.string w.heap.size rfl (.tmp 39) (.tmp 40) 23 9 (.string ⟨#[]⟩) 16 rfl Try.underlying23 info9 rfl (by decide) (by omega) v297 y296 t282 _ _ _ (fun k_ => (w.heap.size ≤ k_)) (fun _ => False) rfl rfl ?aO ?aR (fun _ _ h => h) (fun _ h => h.elim) ?aF (Below.refl _ _) ?aS ?aL ?_; (case aR => repeat (first | exact (Kd.V_reads' HO284.out).2.2 | (with_reducible refine ybv ?_ _) | (with_reducible refine ybw ?_ _) | (with_reducible refine ybx ?_))); (case aF => exact (fun k_ hk => (Nat.le_trans (zbh (w := w) (g := g) (row := none) (by repeat (first | (with_reducible first | exact HK.out | apply zaf.set_ | apply zaj | apply zal | apply zak) | exact HK.out))) hk))); (case aO => exact (by (with_reducible repeat (first | apply ybp | apply ybq | apply ybr)); exact Kd.R_mono HO298.out (fun _ hk => hk.1))); (case aS => exact (zbh (w := w) (g := g) (row := none) (by repeat (first | (with_reducible first | exact HK.out | apply zaf.set_ | apply zaj | apply zal | apply zak) | exact HK.out)))); (case aL => have := LMc27.out; omega); intro v300 w38 ho hb hg hat; rw [← Ny299.out] at ho; have n0_ := zaa.mk (zae.grown (by repeat (first | (with_reducible first | exact HI0.out | apply zae.alloc | apply zae.drewN | apply zae.drew | apply zae.set_1) | exact HI0.out)) hg (zae.own_ne HI0.out HO298.out (by decide))); have n1_ := zaa.mk (Kd.V_afterv (ok := (fun k_ => (w.heap.size ≤ k_) ∧ k_ ≠ g)) (by (with_reducible repeat (first | apply ybs | apply ybt | apply ybu)); exact HO284.out) hg hat); have n2_ := zaa.mk (below_weaken (by repeat (first | (with_reducible first | exact HB.out | apply zac | apply zab | apply zad | refine zah ?_ (zae.ge HI0.out)) | exact HB.out)) HL.out hb); have n3_ := zaa.mk (zaf.trans (by repeat (first | (with_reducible first | exact HK.out | apply zaf.set_ | apply zaj | apply zal | apply zak) | exact HK.out)) (zaf.of_grown hg g) (Kd.R_base2 HO298.out)); have n4_ := zaa.mk (ho); clear HI0; clear HO284; clear HB; clear HK; clear HO298; have HI0 := n0_; have HO284 := n1_; have HB := n2_; have HK := n3_; have HO301 := n4_; clear n0_ n1_ n2_ n3_ n4_; clear ho hb hg hat; obtain ⟨Ao40, co40, eo40⟩ := Kd.R_slice HO301.out; subst eo40; have p302 : 0 ≤ (0 : Int) := (by omega); have q302 : 0 < (y299.length : Int) := of_decide_eq_true (by assumption); obtain ⟨ad302, e302, hx302_0⟩ := Kd.at_string (Kd.R_reads' HO301.out).2.2 0 p302 q302; cases e302; have qi302 : (0 < y299.length) = True := eq_true (by omega); (try rw [show ((0 : Int)).toNat = 0 from rfl] at hx302_0); (try rw [Addr.add_zero'] at hx302_0); replace p302 := eq_true p302; replace q302 := eq_true q302; have p31 : 0 ≤ (0 : Int) := (by omega); have q31 : (0 : Int) < ((y299.length : Int) : Int) := of_decide_eq_true (by assumption); have qi31 : (0 < y299.length) = True := eq_true (by omega); obtain ⟨go31, co31, eo31, gb31, gl31, cl31, HG31⟩ := Kd.R_form HO301.out (by omega); (first | cases eo31 | (injection eo31 with ea_ en_ ec_; (first | subst ea_ | (injection ea_ with ea_; subst ea_)); subst ec_; clear en_)); have GB31 := zaa.mk gb31; have GG31 := zaa.mk HG31; clear gb31 gl31 HG31; (first | simp only [add_plain] at hx302_0 | skip); obtain ⟨hx31_0, hf31_0⟩ := Kd.R_celln (⟨#[]⟩ : ByteArray) HO301.out (0 : Int) p31 q31; (try rw [show ((0 : Int)).toNat = 0 from rfl] at hx31_0); (try simp only [Nat.reduceMul, Nat.zero_mul, Nat.zero_add, Nat.reduceAdd] at hx31_0); (try rw [show ((0 : Int)).toNat = 0 from rfl] at hf31_0); (try simp only [Nat.reduceMul, Nat.zero_mul, Nat.zero_add, Nat.reduceAdd] at hf31_0); replace p31 := eq_true p31; replace q31 := eq_true q31; obtain ⟨hy41_, hz41_⟩ := Kd.R_celln (⟨#[]⟩ : ByteArray) HO301.out (0 : Int) (by omega) (of_decide_eq_true (by assumption)); (try simp only [Int.reduceToNat, Int.toNat_zero, Int.toNat_ofNat, Nat.reduceMul, Nat.zero_mul, Nat.zero_add] at hy41_ hz41_); (try rw [show ((0 : Int)).toNat = 0 from rfl] at hy41_); (try rw [show ((0 : Int)).toNat = 0 from rfl] at hz41_); have HP41 := Kd.R_putg HO301.out (0 : Int) ((⟨#[122]⟩ : ByteArray) ++ ((rdOf ybl y299 0).extract 1 (rdOf ybl y299 0).size))) | ((with_reducible refine gate_store (t := 9) (p := 48) rfl ?_); refine store_event (t := 9) (p := 48) (v := ?vo_w42) (w1 := (w38.setCell ⟨go31, (0 : Int).toNat, none⟩ (.string ((⟨#[122]⟩ : ByteArray) ++ ((rdOf ybl y299 0).extract 1 (rdOf ybl y299 0).size))))) ?hg ?ho ?hn ?hr ?_; (case ho => rfl); (case hg => rfl); (case hn => rfl); (case hr => first | (go_simp; done) | (go_simp; rfl)); intro w42 hw; have hg : w38.grownBy w42 (some go31) := (by rw [hw]; exact HP41.2); have hp_ : Kd.R Kd.string 9 w42 w.heap.size (fun k_ => (w.heap.size ≤ k_)) (.slice (some ⟨go31, 0, none⟩) y299.length co40) y303 := (by rw [hw, Ny303.out]; exact HP41.1); clear HP41; have n0_ := zaa.mk (zae.grown (by repeat (first | (with_reducible first | exact HI0.out | apply zae.alloc | apply zae.drewN | apply zae.drew | apply zae.set_1) | exact HI0.out)) hg (zae.own_ne HI0.out HO301.out (by decide))); have n1_ := zaa.mk (Kd.V_afterv (v := (.slice (some ⟨go31, 0, none⟩) y299.length co40)) (v1 := (.slice (some ⟨go31, 0, none⟩) y299.length co40)) (ok := (fun k_ => (w.heap.size ≤ k_) ∧ k_ ≠ g)) (by (with_reducible repeat (first | apply ybs | apply ybt | apply ybu)); exact HO284.out) hg (.inl rfl)); have n2_ := zaa.mk (hp_); have n3_ := zaa.mk ((by rw [hw]; exact zah (HB.out) (Nat.le_trans HL.out GB31.out) : Below w0.heap.size w0 w42)); have n4_ := zaa.mk (zaf.trans (by repeat (first | (with_reducible first | exact HK.out | apply zaf.set_ | apply zaj | apply zal | apply zak) | exact HK.out)) (zaf.of_grown hg g) (Kd.R_base2 HO301.out)); clear HI0; clear HO284; clear HO301; clear HB; clear HK; have HI0 := n0_; have HO284 := n1_; have HO301 := n2_; have HB := n3_; have HK := n4_; clear n0_ n1_ n2_ n3_ n4_; clear hg hw hp_))
       go_ret
       exact ⟨_, by first | rfl | (simp [zan, zam] <;> rfl) | (simp [*, zan, zam] <;> rfl), Kd.R_V (by (with_reducible repeat (first | apply ybp | apply ybq | apply ybr)); exact HO301.out), by repeat (first | (with_reducible first | exact HI0.out | apply zae.alloc | apply zae.drewN | apply zae.drew | apply zae.set_1) | exact HI0.out), by repeat (first | (with_reducible first | exact HB.out | apply zac | apply zab | apply zad | refine zah ?_ (zae.ge HI0.out)) | exact HB.out), by repeat (first | (with_reducible first | exact HK.out | apply zaf.set_ | apply zaj | apply zal | apply zak) | exact HK.out)⟩
      ·rw [if_neg c30] at H
       exact absurd H (by simp)
     ·rw [if_neg c29] at H
      exact absurd H (by simp)
    ·rw [if_neg c28] at H
     exact absurd H (by simp)
   ·rw [if_neg c27] at H
    exact absurd H (by simp)
  ·rw [if_neg c26] at H
   have c26b0 : (t286 == 1) = false := beq_eq_false_iff_ne.mpr c26
   have c26b1 : (t286 != 1) = true := bne_iff_ne.mpr c26
   simp only [Option.some.injEq, Prod.mk.injEq] at H
   obtain ⟨rfl, rfl⟩ := H
   go_enter Try.func62, Try.ntmps62
   go_wp2_with (first | ((with_reducible refine zaq (f := 63) rfl ?_); refine zbf (some 11) rfl rfl Try.func63 (by kernel_rfl) rfl #[.pointer (some ⟨g, 0, none⟩), .int .i64 a1] rfl (by (try simp only [ybf, ybg, ybh]); first | done | rfl | (simp only [ybj, ybi]; rfl)) ?_; (with_reducible refine (spec_l6Rd_pick.calls k g s0_0 s0_1 a1 t278 t279 w0 _ ?side1 ?side2 A4.out).mono ?_); (case side1 => repeat (first | (with_reducible first | exact HI0.out | apply zae.alloc | apply zae.drewN | apply zae.drew | apply zae.set_1) | exact HI0.out)); (case side2 => repeat (first | (with_reducible first | exact HB.out | apply zac | apply zab | apply zad | refine zah ?_ (zae.ge HI0.out)) | exact HB.out)); rintro e w43 ⟨rfl, hi, hb, hk⟩; refine ⟨_, rfl, ?_⟩; have n0_ := zaa.mk (zaf.trans (by repeat (first | (with_reducible first | exact HK.out | apply zaf.set_ | apply zaj | apply zal | apply zak) | exact HK.out)) hk (.inl rfl)); have n1_ := zaa.mk (hb); have n2_ := zaa.mk (hi); clear HK; clear HB; clear HI0; have HK := n0_; have HB := n1_; have HI0 := n2_; clear n0_ n1_ n2_; (try clear hb); (try clear hb2); (try clear hk); (try clear hi)) | ((with_reducible refine zaq (f := 63) rfl ?_); refine zbf (some 17) rfl rfl Try.func63 (by kernel_rfl) rfl #[.pointer (some ⟨g, 0, none⟩), .int .i64 a2] rfl (by (try simp only [ybf, ybg, ybh]); first | done | rfl | (simp only [ybj, ybi]; rfl)) ?_; (with_reducible refine (spec_l6Rd_pick.calls k g s0_0 t279 a2 t280 t281 w0 _ ?side1 ?side2 A5.out).mono ?_); (case side1 => repeat (first | (with_reducible first | exact HI0.out | apply zae.alloc | apply zae.drewN | apply zae.drew | apply zae.set_1) | exact HI0.out)); (case side2 => repeat (first | (with_reducible first | exact HB.out | apply zac | apply zab | apply zad | refine zah ?_ (zae.ge HI0.out)) | exact HB.out)); rintro e w44 ⟨rfl, hi, hb, hk⟩; refine ⟨_, rfl, ?_⟩; have n0_ := zaa.mk (zaf.trans (by repeat (first | (with_reducible first | exact HK.out | apply zaf.set_ | apply zaj | apply zal | apply zak) | exact HK.out)) hk (.inl rfl)); have n1_ := zaa.mk (hb); have n2_ := zaa.mk (hi); clear HK; clear HB; clear HI0; have HK := n0_; have HB := n1_; have HI0 := n2_; clear n0_ n1_ n2_; (try clear hb); (try clear hb2); (try clear hk); (try clear hi)) | ((with_reducible refine zaq (f := 115) rfl ?_); refine zbf (some 19) rfl rfl Try.func115 (by kernel_rfl) rfl #[.pointer (some ⟨g, 0, none⟩), .int .i64 (wrap64 (1 + t278)), .int .i64 (wrap64 (1 + t280))] rfl (by (try simp only [ybf, ybg, ybh]); first | done | rfl | (simp only [ybj, ybi]; rfl)) ?_; (with_reducible refine (spec_l91Plan.calls k g s0_0 t281 (wrap64 (1 + t278)) (wrap64 (1 + t280)) t282 t285 w0 _ ?side1 ?side2 A6.out).mono ?_); (case side1 => repeat (first | (with_reducible first | exact HI0.out | apply zae.alloc | apply zae.drewN | apply zae.drew | apply zae.set_1) | exact HI0.out)); (case side2 => repeat (first | (with_reducible first | exact HB.out | apply zac | apply zab | apply zad | refine zah ?_ (zae.ge HI0.out)) | exact HB.out)); rintro e w45 ⟨v283, rfl, ho0, hi, hb, hk⟩; refine ⟨_, rfl, ?_⟩; have n0_ := zaa.mk (Kd.V_lower (Kd.V_mono (ok' := fun k_ => (w.heap.size ≤ k_) ∧ k_ ≠ g) ho0 (fun k_ hk_ => ⟨(Nat.le_trans (zbh (w := w) (g := g) (row := none) (by repeat (first | (with_reducible first | exact HK.out | apply zaf.set_ | apply zaj | apply zal | apply zak) | exact HK.out))) hk_), (zae.fresh (by repeat (first | (with_reducible first | exact HI0.out | apply zae.alloc | apply zae.drewN | apply zae.drew | apply zae.set_1) | exact HI0.out)) k_ hk_)⟩)) (zbh (w := w) (g := g) (row := none) (by repeat (first | (with_reducible first | exact HK.out | apply zaf.set_ | apply zaj | apply zal | apply zak) | exact HK.out)))); have n1_ := zaa.mk (zaf.trans (by repeat (first | (with_reducible first | exact HK.out | apply zaf.set_ | apply zaj | apply zal | apply zak) | exact HK.out)) hk (.inl rfl)); have n2_ := zaa.mk (hb); have n3_ := zaa.mk (hi); clear HK; clear HB; clear HI0; have HO284 := n0_; have HK := n1_; have HB := n2_; have HI0 := n3_; clear n0_ n1_ n2_ n3_; (try clear hb); (try clear hb2); (try clear hk); (try clear hi); (try clear ho0)) | ((with_reducible refine zaq (f := 63) rfl ?_); refine zbf (some 21) rfl rfl Try.func63 (by kernel_rfl) rfl #[.pointer (some ⟨g, 0, none⟩), .int .i64 50] rfl (by (try simp only [ybf, ybg, ybh]); first | done | rfl | (simp only [ybj, ybi]; rfl)) ?_; (with_reducible refine (spec_l6Rd_pick.calls k g s0_0 t285 50 t286 t287 w0 _ ?side1 ?side2 A7.out).mono ?_); (case side1 => repeat (first | (with_reducible first | exact HI0.out | apply zae.alloc | apply zae.drewN | apply zae.drew | apply zae.set_1) | exact HI0.out)); (case side2 => repeat (first | (with_reducible first | exact HB.out | apply zac | apply zab | apply zad | refine zah ?_ (zae.ge HI0.out)) | exact HB.out)); rintro e w46 ⟨rfl, hi, hb, hk⟩; refine ⟨_, rfl, ?_⟩; have n0_ := zaa.mk (Kd.V_mono (Kd.V_keep (Kd.V_mono (ok := fun k_ => (((w.heap.size ≤ k_)) ∧ k_ ≠ g)) (by (with_reducible repeat (first | apply ybs | apply ybt | apply ybu)); exact HO284.out) (fun k_ hk_ => (⟨hk_, hk_.2⟩ : _ ∧ k_ ≠ g))) hk (fun _ h => h.2)) (fun _ h => h.1)); have n1_ := zaa.mk (zaf.trans (by repeat (first | (with_reducible first | exact HK.out | apply zaf.set_ | apply zaj | apply zal | apply zak) | exact HK.out)) hk (.inl rfl)); have n2_ := zaa.mk (hb); have n3_ := zaa.mk (hi); clear HO284; clear HK; clear HB; clear HI0; have HO284 := n0_; have HK := n1_; have HB := n2_; have HI0 := n3_; clear n0_ n1_ n2_ n3_; (try clear hb); (try clear hb2); (try clear hk); (try clear hi)))
   go_ret
   exact ⟨_, by first | rfl | (simp [zan, zam] <;> rfl) | (simp [*, zan, zam] <;> rfl), by (with_reducible repeat (first | apply ybs | apply ybt | apply ybu)); exact Kd.V_mono HO284.out (fun _ hk => hk.1), by repeat (first | (with_reducible first | exact HI0.out | apply zae.alloc | apply zae.drewN | apply zae.drew | apply zae.set_1) | exact HI0.out), by repeat (first | (with_reducible first | exact HB.out | apply zac | apply zab | apply zad | refine zah ?_ (zae.ge HI0.out)) | exact HB.out), by repeat (first | (with_reducible first | exact HK.out | apply zaf.set_ | apply zaj | apply zal | apply zak) | exact HK.out)⟩
end Go.Proofs.Ytaepgogafkmooaa.SM
namespace Go.Proofs.Ytaepgogafkmooaa.SM
open Go.Proofs.Ytaepgogafkmooaa.PB Go.Proofs.Ytaepgogafkmooaa.Hd
open Go.RowKit Go.PW.PrintWords Go.PW.PrintLast Go.PW.PrintMore
attribute [local go_sem] zcb zbz max_two min_two zbs zbr zca zby   -- for this text's walks alone
def spec_DrawWallSides.f (k : Nat) (l0 : List Int) : Option (List ByteArray × Int) := (spec_l6Open.f l0).bind fun bt440 => ((spec_l91Some.f k bt440.1 bt440.2 5 5).bind fun bt443 => ((spec_PlanIn.f k bt443.1).bind fun t447 => (if t447 = true then ((spec_l2Walls.f k bt443.1).bind fun t448 => ((spec_l6Rd_pick.f k bt440.1 bt443.2 24).bind fun bt451 => ((spec_l6Rd_pick.f k bt440.1 bt451.2 (wrap64 ((mx 1 (t448.length : Int)) + (wrap64 (Int.tdiv bt451.1 23))))).bind fun bt453 => ((spec_l6Rd_pick.f k bt440.1 bt453.2 24).bind fun bt455 => (some (bt443.1, wrap64 (bt453.1 - (wrap64 (Int.tdiv bt455.1 23))))))))) else ((spec_l6Rd_pick.f k bt440.1 bt443.2 24).bind fun bt457 => ((spec_l6Rd_pick.f k bt440.1 bt457.2 (wrap64 (1 + (wrap64 (Int.tdiv bt457.1 23))))).bind fun bt459 => ((spec_l6Rd_pick.f k bt440.1 bt459.2 24).bind fun bt461 => (some (bt443.1, wrap64 (bt459.1 - (wrap64 (Int.tdiv bt461.1 23)))))))))))
set_option maxHeartbeats 8000000 in
set_option maxRecDepth 100000 in
theorem spec_DrawWallSides.calls (k : Nat) (A0 : Option Addr) (c0 : Nat) (l0 : List Int) (r1 : List ByteArray) (r2 : Int) (w : World) (hr0 : Kd.C (Kd.int .u8) w A0 l0.length l0) (hc0 : l0.length ≤ c0) (h : spec_DrawWallSides.f k l0 = some (r1, r2)) :
  Calls Try.prog 33 #[.slice A0 l0.length c0] w fun e w' => ∃ v0_ : Value, e = .returned (.tuple #[v0_, .int .i64 r2]) ∧ Kd.V Kd.string 9 w' w.heap.size (fun k_ => (w.heap.size ≤ k_)) v0_ r1 ∧ Below w.heap.size w w' := by
 have HR0 := zaa.mk hr0
 have HC0 := zaa.mk hc0
 clear hr0 hc0
 have HB := zaa.mk (Below.refl w.heap.size w)
 have H : ((spec_l6Open.f l0).bind fun bt440 => ((spec_l91Some.f k bt440.1 bt440.2 5 5).bind fun bt443 => ((spec_PlanIn.f k bt443.1).bind fun t447 => (if t447 = true then ((spec_l2Walls.f k bt443.1).bind fun t448 => ((spec_l6Rd_pick.f k bt440.1 bt443.2 24).bind fun bt451 => ((spec_l6Rd_pick.f k bt440.1 bt451.2 (wrap64 ((mx 1 (t448.length : Int)) + (wrap64 (Int.tdiv bt451.1 23))))).bind fun bt453 => ((spec_l6Rd_pick.f k bt440.1 bt453.2 24).bind fun bt455 => (some (bt443.1, wrap64 (bt453.1 - (wrap64 (Int.tdiv bt455.1 23))))))))) else ((spec_l6Rd_pick.f k bt440.1 bt443.2 24).bind fun bt457 => ((spec_l6Rd_pick.f k bt440.1 bt457.2 (wrap64 (1 + (wrap64 (Int.tdiv bt457.1 23))))).bind fun bt459 => ((spec_l6Rd_pick.f k bt440.1 bt459.2 24).bind fun bt461 => (some (bt443.1, wrap64 (bt459.1 - (wrap64 (Int.tdiv bt461.1 23)))))))))))) = some (r1, r2) := h
 clear h
 replace H := ybm.mp H
 obtain ⟨⟨t440, t441⟩, A20, H⟩ := H
 replace H : ((spec_l91Some.f k t440 t441 5 5).bind fun bt443 => ((spec_PlanIn.f k bt443.1).bind fun t447 => (if t447 = true then ((spec_l2Walls.f k bt443.1).bind fun t448 => ((spec_l6Rd_pick.f k t440 bt443.2 24).bind fun bt451 => ((spec_l6Rd_pick.f k t440 bt451.2 (wrap64 ((mx 1 (t448.length : Int)) + (wrap64 (Int.tdiv bt451.1 23))))).bind fun bt453 => ((spec_l6Rd_pick.f k t440 bt453.2 24).bind fun bt455 => (some (bt443.1, wrap64 (bt453.1 - (wrap64 (Int.tdiv bt455.1 23))))))))) else ((spec_l6Rd_pick.f k t440 bt443.2 24).bind fun bt457 => ((spec_l6Rd_pick.f k t440 bt457.2 (wrap64 (1 + (wrap64 (Int.tdiv bt457.1 23))))).bind fun bt459 => ((spec_l6Rd_pick.f k t440 bt459.2 24).bind fun bt461 => (some (bt443.1, wrap64 (bt459.1 - (wrap64 (Int.tdiv bt461.1 23))))))))))) = some (r1, r2) := H
 have A2 := zaa.mk A20
 clear A20
 replace H := ybm.mp H
 obtain ⟨⟨t443, t446⟩, A30, H⟩ := H
 replace H : ((spec_PlanIn.f k t443).bind fun t447 => (if t447 = true then ((spec_l2Walls.f k t443).bind fun t448 => ((spec_l6Rd_pick.f k t440 t446 24).bind fun bt451 => ((spec_l6Rd_pick.f k t440 bt451.2 (wrap64 ((mx 1 (t448.length : Int)) + (wrap64 (Int.tdiv bt451.1 23))))).bind fun bt453 => ((spec_l6Rd_pick.f k t440 bt453.2 24).bind fun bt455 => (some (t443, wrap64 (bt453.1 - (wrap64 (Int.tdiv bt455.1 23))))))))) else ((spec_l6Rd_pick.f k t440 t446 24).bind fun bt457 => ((spec_l6Rd_pick.f k t440 bt457.2 (wrap64 (1 + (wrap64 (Int.tdiv bt457.1 23))))).bind fun bt459 => ((spec_l6Rd_pick.f k t440 bt459.2 24).bind fun bt461 => (some (t443, wrap64 (bt459.1 - (wrap64 (Int.tdiv bt461.1 23)))))))))) = some (r1, r2) := H
 have A3 := zaa.mk A30
 clear A30
 replace H := ybm.mp H
 obtain ⟨t447, A40, H⟩ := H
 replace H : (if t447 = true then ((spec_l2Walls.f k t443).bind fun t448 => ((spec_l6Rd_pick.f k t440 t446 24).bind fun bt451 => ((spec_l6Rd_pick.f k t440 bt451.2 (wrap64 ((mx 1 (t448.length : Int)) + (wrap64 (Int.tdiv bt451.1 23))))).bind fun bt453 => ((spec_l6Rd_pick.f k t440 bt453.2 24).bind fun bt455 => (some (t443, wrap64 (bt453.1 - (wrap64 (Int.tdiv bt455.1 23))))))))) else ((spec_l6Rd_pick.f k t440 t446 24).bind fun bt457 => ((spec_l6Rd_pick.f k t440 bt457.2 (wrap64 (1 + (wrap64 (Int.tdiv bt457.1 23))))).bind fun bt459 => ((spec_l6Rd_pick.f k t440 bt459.2 24).bind fun bt461 => (some (t443, wrap64 (bt459.1 - (wrap64 (Int.tdiv bt461.1 23))))))))) = some (r1, r2) := H
 have A4 := zaa.mk A40
 clear A40
 by_cases c5 : t447 = true
 ·subst c5
  have H1 : ((spec_l2Walls.f k t443).bind fun t448 => ((spec_l6Rd_pick.f k t440 t446 24).bind fun bt451 => ((spec_l6Rd_pick.f k t440 bt451.2 (wrap64 ((mx 1 (t448.length : Int)) + (wrap64 (Int.tdiv bt451.1 23))))).bind fun bt453 => ((spec_l6Rd_pick.f k t440 bt453.2 24).bind fun bt455 => (some (t443, wrap64 (bt453.1 - (wrap64 (Int.tdiv bt455.1 23))))))))) = some (r1, r2) := by rw [if_pos rfl] at H; exact H
  clear H
  have H := H1
  clear H1
  replace H := ybm.mp H
  obtain ⟨t448, A60, H⟩ := H
  replace H : ((spec_l6Rd_pick.f k t440 t446 24).bind fun bt451 => ((spec_l6Rd_pick.f k t440 bt451.2 (wrap64 ((mx 1 (t448.length : Int)) + (wrap64 (Int.tdiv bt451.1 23))))).bind fun bt453 => ((spec_l6Rd_pick.f k t440 bt453.2 24).bind fun bt455 => (some (t443, wrap64 (bt453.1 - (wrap64 (Int.tdiv bt455.1 23)))))))) = some (r1, r2) := H
  have A6 := zaa.mk A60
  clear A60
  obtain ⟨ji7, hji7⟩ : ∃ j_ : Int, (mx 1 (t448.length : Int)) = j_ := ⟨_, rfl⟩
  replace H : ((spec_l6Rd_pick.f k t440 t446 24).bind fun bt451 => ((spec_l6Rd_pick.f k t440 bt451.2 (wrap64 ((ji7) + (wrap64 (Int.tdiv bt451.1 23))))).bind fun bt453 => ((spec_l6Rd_pick.f k t440 bt453.2 24).bind fun bt455 => (some (t443, wrap64 (bt453.1 - (wrap64 (Int.tdiv bt455.1 23)))))))) = some (r1, r2) := by first | (rw [hji7] at H; exact H) | (simp only [hji7] at H ⊢; exact H)
  (try rw [hji7] at A2)
  (try rw [hji7] at A3)
  (try rw [hji7] at A4)
  (try rw [hji7] at A6)
  (try (have hji7l : 1 ≤ ji7 := by (rw [← hji7]; unfold mx; (repeat' split) <;> omega)))
  (try (have hji7m : 0 ≤ ji7 := by omega))
  have hji7_ : (if 1 < (t448.length : Int) then (t448.length : Int) else 1) = ji7 := hji7
  replace H := ybm.mp H
  obtain ⟨⟨t451, t452⟩, A80, H⟩ := H
  replace H : ((spec_l6Rd_pick.f k t440 t452 (wrap64 ((ji7) + (wrap64 (Int.tdiv t451 23))))).bind fun bt453 => ((spec_l6Rd_pick.f k t440 bt453.2 24).bind fun bt455 => (some (t443, wrap64 (bt453.1 - (wrap64 (Int.tdiv bt455.1 23))))))) = some (r1, r2) := H
  have A8 := zaa.mk A80
  clear A80
  replace H := ybm.mp H
  obtain ⟨⟨t453, t454⟩, A90, H⟩ := H
  replace H : ((spec_l6Rd_pick.f k t440 t454 24).bind fun bt455 => (some (t443, wrap64 (t453 - (wrap64 (Int.tdiv bt455.1 23)))))) = some (r1, r2) := H
  have A9 := zaa.mk A90
  clear A90
  replace H := ybm.mp H
  obtain ⟨⟨t455, t456⟩, A100, H⟩ := H
  replace H : (some (t443, wrap64 (t453 - (wrap64 (Int.tdiv t455 23))))) = some (r1, r2) := H
  have A10 := zaa.mk A100
  clear A100
  simp only [Option.some.injEq, Prod.mk.injEq] at H
  obtain ⟨rfl, rfl⟩ := H
  go_enter Try.func33, Try.ntmps33
  go_wp2_with (first | ((with_reducible refine zaq (f := 61) rfl ?_); refine zbf (some 8) rfl rfl Try.func61 (by kernel_rfl) rfl #[.slice A0 l0.length c0] rfl (by (try simp only [ybf, ybg, ybh]); first | done | rfl | (simp only [ybj, ybi]; rfl)) ?_; (with_reducible refine (spec_l6Open.calls _ _ l0 t440 t441 w _ ?side1 ?side2 ?side3 A2.out).mono ?_); (case side1 => repeat (first | (with_reducible first | exact HB.out | apply zac | apply zab | apply zad) | exact HB.out)); (case side2 => exact HR0.out); (case side3 => exact HC0.out); rintro e w11 ⟨g442, rfl, hi, hb, hb2⟩; refine ⟨_, rfl, ?_⟩; have n0_ := zaa.mk (hb); have n1_ := zaa.mk (hi); clear HB; have HB := n0_; have HI442 := n1_; clear n0_ n1_; (try clear hb); (try clear hb2); (try clear hk); (try clear hi)) | ((with_reducible refine zaq (f := 62) rfl ?_); refine zbf (some 10) rfl rfl Try.func62 (by kernel_rfl) rfl #[.pointer (some ⟨g442, 0, none⟩), .int .i64 5, .int .i64 5] rfl (by (try simp only [ybf, ybg, ybh]); first | done | rfl | (simp only [ybj, ybi]; rfl)) ?_; (with_reducible refine (spec_l91Some.calls k g442 t440 t441 5 5 t443 t446 w _ ?side1 ?side2 A3.out).mono ?_); (case side1 => repeat (first | (with_reducible first | exact HI442.out | apply zae.alloc | apply zae.drewN | apply zae.drew | apply zae.set_1) | exact HI442.out)); (case side2 => repeat (first | (with_reducible first | exact HB.out | apply zac | apply zab | apply zad | refine zah ?_ (zae.ge HI442.out)) | exact HB.out)); rintro e w12 ⟨v444, rfl, ho0, hi, hb, hk⟩; refine ⟨_, rfl, ?_⟩; have n0_ := zaa.mk (Kd.V_lower (Kd.V_mono (ok' := fun k_ => (w.heap.size ≤ k_) ∧ k_ ≠ g442) ho0 (fun k_ hk_ => ⟨(Nat.le_trans (zai (by repeat (first | (with_reducible first | exact HB.out | apply zac | apply zab | apply zad | refine zah ?_ (zae.ge HI442.out)) | exact HB.out))) hk_), (zae.fresh (by repeat (first | (with_reducible first | exact HI442.out | apply zae.alloc | apply zae.drewN | apply zae.drew | apply zae.set_1) | exact HI442.out)) k_ hk_)⟩)) (zai (by repeat (first | (with_reducible first | exact HB.out | apply zac | apply zab | apply zad | refine zah ?_ (zae.ge HI442.out)) | exact HB.out)))); have n1_ := zaa.mk (hb); have n2_ := zaa.mk (hi); clear HB; clear HI442; have HO445 := n0_; have HB := n1_; have HI442 := n2_; clear n0_ n1_ n2_; (try clear hb); (try clear hb2); (try clear hk); (try clear hi); (try clear ho0); obtain ⟨Ao13, co13, eo13⟩ := Kd.V_slice HO445.out; subst eo13) | ((with_reducible refine zaq (f := 81) rfl ?_); refine zbf (some 12) rfl rfl Try.func81 (by kernel_rfl) rfl #[.slice Ao13 t443.length co13] rfl (by (try simp only [ybf, ybg, ybh]); first | done | rfl | (simp only [ybj, ybi]; rfl)) ?_; (with_reducible refine (spec_PlanIn.calls k _ _ t443 true _ ?side1 ?side2 A4.out).mono ?_); (case side1 => repeat (first | exact (Kd.V_reads' HO445.out).2.2 | (with_reducible refine ybv ?_ _) | (with_reducible refine ybw ?_ _) | (with_reducible refine ybx ?_))); (case side2 => exact (Kd.V_reads' HO445.out).2.1); rintro e w14 ⟨rfl, hb⟩; refine ⟨_, rfl, ?_⟩; have n0_ := zaa.mk (Kd.V_below (by (with_reducible repeat (first | apply ybs | apply ybt | apply ybu)); exact HO445.out) hb); have n1_ := zaa.mk (zae.below (by repeat (first | (with_reducible first | exact HI442.out | apply zae.alloc | apply zae.drewN | apply zae.drew | apply zae.set_1) | exact HI442.out)) hb); have n2_ := zaa.mk (zag (by repeat (first | (with_reducible first | exact HB.out | apply zac | apply zab | apply zad | refine zah ?_ (zae.ge HI442.out)) | exact HB.out)) hb); clear HO445; clear HI442; clear HB; have HO445 := n0_; have HI442 := n1_; have HB := n2_; clear n0_ n1_ n2_; (try clear hb); (try clear hb2); (try clear hk); (try clear hi)) | ((with_reducible refine zaq (f := 82) rfl ?_); refine zbf (some 14) rfl rfl Try.func82 (by kernel_rfl) rfl #[.slice Ao13 t443.length co13] rfl (by (try simp only [ybf, ybg, ybh]); first | done | rfl | (simp only [ybj, ybi]; rfl)) ?_; (with_reducible refine (spec_l2Walls.calls k _ _ t443 t448 _ ?side1 ?side2 A6.out).mono ?_); (case side1 => repeat (first | exact (Kd.V_reads' HO445.out).2.2 | (with_reducible refine ybv ?_ _) | (with_reducible refine ybw ?_ _) | (with_reducible refine ybx ?_))); (case side2 => exact (Kd.V_reads' HO445.out).2.1); rintro e w15 ⟨v449, rfl, ho0, hb⟩; refine ⟨_, rfl, ?_⟩; have n0_ := zaa.mk (Kd.V_elder' (by (with_reducible repeat (first | apply ybs | apply ybt | apply ybu)); exact HO445.out) (Kd.S_base ho0) hb); have n1_ := zaa.mk (Kd.S_lower (Kd.S_newM (M := fun k_ => (w.heap.size ≤ k_)) ho0 (zai (by repeat (first | (with_reducible first | exact HB.out | apply zac | apply zab | apply zad | refine zah ?_ (zae.ge HI442.out)) | exact HB.out))) (fun k_ h_ => h_)) (zai (by repeat (first | (with_reducible first | exact HB.out | apply zac | apply zab | apply zad | refine zah ?_ (zae.ge HI442.out)) | exact HB.out)))); have n2_ := zaa.mk (zae.below (by repeat (first | (with_reducible first | exact HI442.out | apply zae.alloc | apply zae.drewN | apply zae.drew | apply zae.set_1) | exact HI442.out)) hb); have n3_ := zaa.mk (zag (by repeat (first | (with_reducible first | exact HB.out | apply zac | apply zab | apply zad | refine zah ?_ (zae.ge HI442.out)) | exact HB.out)) hb); clear HO445; clear HI442; clear HB; have HO445 := n0_; have HO450 := n1_; have HI442 := n2_; have HB := n3_; clear n0_ n1_ n2_ n3_; (try clear hb); (try clear hb2); (try clear hk); (try clear hi); (try clear ho0); obtain ⟨Ao16, co16, eo16⟩ := Kd.S_slice HO450.out; subst eo16) | ((with_reducible refine zaq (f := 63) rfl ?_); refine zbf (some 21) rfl rfl Try.func63 (by kernel_rfl) rfl #[.pointer (some ⟨g442, 0, none⟩), .int .i64 24] rfl (by (try simp only [ybf, ybg, ybh]); first | done | rfl | (simp only [ybj, ybi]; rfl)) ?_; (with_reducible refine (spec_l6Rd_pick.calls k g442 t440 t446 24 t451 t452 w _ ?side1 ?side2 A8.out).mono ?_); (case side1 => repeat (first | (with_reducible first | exact HI442.out | apply zae.alloc | apply zae.drewN | apply zae.drew | apply zae.set_1) | exact HI442.out)); (case side2 => repeat (first | (with_reducible first | exact HB.out | apply zac | apply zab | apply zad | refine zah ?_ (zae.ge HI442.out)) | exact HB.out)); rintro e w17 ⟨rfl, hi, hb, hk⟩; refine ⟨_, rfl, ?_⟩; have n0_ := zaa.mk (Kd.V_mono (Kd.V_keep (Kd.V_mono (ok := fun k_ => ((((w.heap.size ≤ k_)) ∧ k_ ≠ g442) ∧ some k_ ≠ (.slice Ao16 t448.length co16 : Value).ownBlock)) (by (with_reducible repeat (first | apply ybs | apply ybt | apply ybu)); exact HO445.out) (fun k_ hk_ => (⟨hk_, hk_.1.2⟩ : _ ∧ k_ ≠ g442))) hk (fun _ h => h.2)) (fun _ h => h.1)); have n1_ := zaa.mk (Kd.S_mono (Kd.S_keep (zae.apartS (show zae w _ g442 t440 t446 from by repeat (first | (with_reducible first | exact HI442.out | apply zae.alloc | apply zae.drewN | apply zae.drew | apply zae.set_1) | exact HI442.out)) (by (with_reducible repeat (first | apply Kd.S_alloc | apply Kd.S_drewN | apply Kd.S_drew)); exact HO450.out) (by decide)) hk (fun _ h => h.2)) (fun _ h => h.1)); have n2_ := zaa.mk (hb); have n3_ := zaa.mk (hi); clear HO445; clear HO450; clear HB; clear HI442; have HO445 := n0_; have HO450 := n1_; have HB := n2_; have HI442 := n3_; clear n0_ n1_ n2_ n3_; (try clear hb); (try clear hb2); (try clear hk); (try clear hi)) | ((with_reducible refine zaq (f := 63) rfl ?_); refine zbf (some 24) rfl rfl Try.func63 (by kernel_rfl) rfl #[.pointer (some ⟨g442, 0, none⟩), .int .i64 (wrap64 ((ji7) + (wrap64 (Int.tdiv t451 23))))] rfl (by (try simp only [ybf, ybg, ybh]); first | done | (simp only [hji7]; rfl) | rfl | (simp only [ybj, ybi]; rfl)) ?_; (with_reducible refine (spec_l6Rd_pick.calls k g442 t440 t452 (wrap64 ((ji7) + (wrap64 (Int.tdiv t451 23)))) t453 t454 w _ ?side1 ?side2 A9.out).mono ?_); (case side1 => repeat (first | (with_reducible first | exact HI442.out | apply zae.alloc | apply zae.drewN | apply zae.drew | apply zae.set_1) | exact HI442.out)); (case side2 => repeat (first | (with_reducible first | exact HB.out | apply zac | apply zab | apply zad | refine zah ?_ (zae.ge HI442.out)) | exact HB.out)); rintro e w18 ⟨rfl, hi, hb, hk⟩; refine ⟨_, rfl, ?_⟩; have n0_ := zaa.mk (Kd.V_mono (Kd.V_keep (Kd.V_mono (ok := fun k_ => ((((w.heap.size ≤ k_)) ∧ k_ ≠ g442) ∧ some k_ ≠ (.slice Ao16 t448.length co16 : Value).ownBlock)) (by (with_reducible repeat (first | apply ybs | apply ybt | apply ybu)); exact HO445.out) (fun k_ hk_ => (⟨hk_, hk_.1.2⟩ : _ ∧ k_ ≠ g442))) hk (fun _ h => h.2)) (fun _ h => h.1)); have n1_ := zaa.mk (Kd.S_mono (Kd.S_keep (zae.apartS (show zae w _ g442 t440 t452 from by repeat (first | (with_reducible first | exact HI442.out | apply zae.alloc | apply zae.drewN | apply zae.drew | apply zae.set_1) | exact HI442.out)) (by (with_reducible repeat (first | apply Kd.S_alloc | apply Kd.S_drewN | apply Kd.S_drew)); exact HO450.out) (by decide)) hk (fun _ h => h.2)) (fun _ h => h.1)); have n2_ := zaa.mk (hb); have n3_ := zaa.mk (hi); clear HO445; clear HO450; clear HB; clear HI442; have HO445 := n0_; have HO450 := n1_; have HB := n2_; have HI442 := n3_; clear n0_ n1_ n2_ n3_; (try clear hb); (try clear hb2); (try clear hk); (try clear hi)) | ((with_reducible refine zaq (f := 63) rfl ?_); refine zbf (some 26) rfl rfl Try.func63 (by kernel_rfl) rfl #[.pointer (some ⟨g442, 0, none⟩), .int .i64 24] rfl (by (try simp only [ybf, ybg, ybh]); first | done | rfl | (simp only [ybj, ybi]; rfl)) ?_; (with_reducible refine (spec_l6Rd_pick.calls k g442 t440 t454 24 t455 t456 w _ ?side1 ?side2 A10.out).mono ?_); (case side1 => repeat (first | (with_reducible first | exact HI442.out | apply zae.alloc | apply zae.drewN | apply zae.drew | apply zae.set_1) | exact HI442.out)); (case side2 => repeat (first | (with_reducible first | exact HB.out | apply zac | apply zab | apply zad | refine zah ?_ (zae.ge HI442.out)) | exact HB.out)); rintro e w19 ⟨rfl, hi, hb, hk⟩; refine ⟨_, rfl, ?_⟩; have n0_ := zaa.mk (Kd.V_mono (Kd.V_keep (Kd.V_mono (ok := fun k_ => ((((w.heap.size ≤ k_)) ∧ k_ ≠ g442) ∧ some k_ ≠ (.slice Ao16 t448.length co16 : Value).ownBlock)) (by (with_reducible repeat (first | apply ybs | apply ybt | apply ybu)); exact HO445.out) (fun k_ hk_ => (⟨hk_, hk_.1.2⟩ : _ ∧ k_ ≠ g442))) hk (fun _ h => h.2)) (fun _ h => h.1)); have n1_ := zaa.mk (Kd.S_mono (Kd.S_keep (zae.apartS (show zae w _ g442 t440 t454 from by repeat (first | (with_reducible first | exact HI442.out | apply zae.alloc | apply zae.drewN | apply zae.drew | apply zae.set_1) | exact HI442.out)) (by (with_reducible repeat (first | apply Kd.S_alloc | apply Kd.S_drewN | apply Kd.S_drew)); exact HO450.out) (by decide)) hk (fun _ h => h.2)) (fun _ h => h.1)); have n2_ := zaa.mk (hb); have n3_ := zaa.mk (hi); clear HO445; clear HO450; clear HB; clear HI442; have HO445 := n0_; have HO450 := n1_; have HB := n2_; have HI442 := n3_; clear n0_ n1_ n2_ n3_; (try clear hb); (try clear hb2); (try clear hk); (try clear hi)))
  go_ret2
  exact ⟨_, by first | rfl | (simp [zan, zam] <;> rfl) | (simp only [← hji7]; first | rfl | (simp [zan, zam] <;> rfl)) | (simp [*, zan, zam] <;> rfl), by (with_reducible repeat (first | apply ybs | apply ybt | apply ybu)); exact Kd.V_mono HO445.out (fun _ hk => hk.1.1), by repeat (first | (with_reducible first | exact HB.out | apply zac | apply zab | apply zad | refine zah ?_ (zae.ge HI442.out)) | exact HB.out)⟩
 ·replace c5 := Bool.eq_false_iff.mpr c5
  subst c5
  have H1 : ((spec_l6Rd_pick.f k t440 t446 24).bind fun bt457 => ((spec_l6Rd_pick.f k t440 bt457.2 (wrap64 (1 + (wrap64 (Int.tdiv bt457.1 23))))).bind fun bt459 => ((spec_l6Rd_pick.f k t440 bt459.2 24).bind fun bt461 => (some (t443, wrap64 (bt459.1 - (wrap64 (Int.tdiv bt461.1 23)))))))) = some (r1, r2) := by rw [if_neg (show ¬ (false = true) by decide)] at H; exact H
  clear H
  have H := H1
  clear H1
  replace H := ybm.mp H
  obtain ⟨⟨t457, t458⟩, A200, H⟩ := H
  replace H : ((spec_l6Rd_pick.f k t440 t458 (wrap64 (1 + (wrap64 (Int.tdiv t457 23))))).bind fun bt459 => ((spec_l6Rd_pick.f k t440 bt459.2 24).bind fun bt461 => (some (t443, wrap64 (bt459.1 - (wrap64 (Int.tdiv bt461.1 23))))))) = some (r1, r2) := H
  have A20 := zaa.mk A200
  clear A200
  replace H := ybm.mp H
  obtain ⟨⟨t459, t460⟩, A210, H⟩ := H
  replace H : ((spec_l6Rd_pick.f k t440 t460 24).bind fun bt461 => (some (t443, wrap64 (t459 - (wrap64 (Int.tdiv bt461.1 23)))))) = some (r1, r2) := H
  have A21 := zaa.mk A210
  clear A210
  replace H := ybm.mp H
  obtain ⟨⟨t461, t462⟩, A220, H⟩ := H
  replace H : (some (t443, wrap64 (t459 - (wrap64 (Int.tdiv t461 23))))) = some (r1, r2) := H
  have A22 := zaa.mk A220
  clear A220
  simp only [Option.some.injEq, Prod.mk.injEq] at H
  obtain ⟨rfl, rfl⟩ := H
  go_enter Try.func33, Try.ntmps33
  go_wp2_with (first | ((with_reducible refine zaq (f := 61) rfl ?_); refine zbf (some 8) rfl rfl Try.func61 (by kernel_rfl) rfl #[.slice A0 l0.length c0] rfl (by (try simp only [ybf, ybg, ybh]); first | done | rfl | (simp only [ybj, ybi]; rfl)) ?_; (with_reducible refine (spec_l6Open.calls _ _ l0 t440 t441 w _ ?side1 ?side2 ?side3 A2.out).mono ?_); (case side1 => repeat (first | (with_reducible first | exact HB.out | apply zac | apply zab | apply zad) | exact HB.out)); (case side2 => exact HR0.out); (case side3 => exact HC0.out); rintro e w23 ⟨g442, rfl, hi, hb, hb2⟩; refine ⟨_, rfl, ?_⟩; have n0_ := zaa.mk (hb); have n1_ := zaa.mk (hi); clear HB; have HB := n0_; have HI442 := n1_; clear n0_ n1_; (try clear hb); (try clear hb2); (try clear hk); (try clear hi)) | ((with_reducible refine zaq (f := 62) rfl ?_); refine zbf (some 10) rfl rfl Try.func62 (by kernel_rfl) rfl #[.pointer (some ⟨g442, 0, none⟩), .int .i64 5, .int .i64 5] rfl (by (try simp only [ybf, ybg, ybh]); first | done | rfl | (simp only [ybj, ybi]; rfl)) ?_; (with_reducible refine (spec_l91Some.calls k g442 t440 t441 5 5 t443 t446 w _ ?side1 ?side2 A3.out).mono ?_); (case side1 => repeat (first | (with_reducible first | exact HI442.out | apply zae.alloc | apply zae.drewN | apply zae.drew | apply zae.set_1) | exact HI442.out)); (case side2 => repeat (first | (with_reducible first | exact HB.out | apply zac | apply zab | apply zad | refine zah ?_ (zae.ge HI442.out)) | exact HB.out)); rintro e w24 ⟨v444, rfl, ho0, hi, hb, hk⟩; refine ⟨_, rfl, ?_⟩; have n0_ := zaa.mk (Kd.V_lower (Kd.V_mono (ok' := fun k_ => (w.heap.size ≤ k_) ∧ k_ ≠ g442) ho0 (fun k_ hk_ => ⟨(Nat.le_trans (zai (by repeat (first | (with_reducible first | exact HB.out | apply zac | apply zab | apply zad | refine zah ?_ (zae.ge HI442.out)) | exact HB.out))) hk_), (zae.fresh (by repeat (first | (with_reducible first | exact HI442.out | apply zae.alloc | apply zae.drewN | apply zae.drew | apply zae.set_1) | exact HI442.out)) k_ hk_)⟩)) (zai (by repeat (first | (with_reducible first | exact HB.out | apply zac | apply zab | apply zad | refine zah ?_ (zae.ge HI442.out)) | exact HB.out)))); have n1_ := zaa.mk (hb); have n2_ := zaa.mk (hi); clear HB; clear HI442; have HO445 := n0_; have HB := n1_; have HI442 := n2_; clear n0_ n1_ n2_; (try clear hb); (try clear hb2); (try clear hk); (try clear hi); (try clear ho0); obtain ⟨Ao25, co25, eo25⟩ := Kd.V_slice HO445.out; subst eo25) | ((with_reducible refine zaq (f := 81) rfl ?_); refine zbf (some 12) rfl rfl Try.func81 (by kernel_rfl) rfl #[.slice Ao25 t443.length co25] rfl (by (try simp only [ybf, ybg, ybh]); first | done | rfl | (simp only [ybj, ybi]; rfl)) ?_; (with_reducible refine (spec_PlanIn.calls k _ _ t443 false _ ?side1 ?side2 A4.out).mono ?_); (case side1 => repeat (first | exact (Kd.V_reads' HO445.out).2.2 | (with_reducible refine ybv ?_ _) | (with_reducible refine ybw ?_ _) | (with_reducible refine ybx ?_))); (case side2 => exact (Kd.V_reads' HO445.out).2.1); rintro e w26 ⟨rfl, hb⟩; refine ⟨_, rfl, ?_⟩; have n0_ := zaa.mk (Kd.V_below (by (with_reducible repeat (first | apply ybs | apply ybt | apply ybu)); exact HO445.out) hb); have n1_ := zaa.mk (zae.below (by repeat (first | (with_reducible first | exact HI442.out | apply zae.alloc | apply zae.drewN | apply zae.drew | apply zae.set_1) | exact HI442.out)) hb); have n2_ := zaa.mk (zag (by repeat (first | (with_reducible first | exact HB.out | apply zac | apply zab | apply zad | refine zah ?_ (zae.ge HI442.out)) | exact HB.out)) hb); clear HO445; clear HI442; clear HB; have HO445 := n0_; have HI442 := n1_; have HB := n2_; clear n0_ n1_ n2_; (try clear hb); (try clear hb2); (try clear hk); (try clear hi)) | ((with_reducible refine zaq (f := 63) rfl ?_); refine zbf (some 21) rfl rfl Try.func63 (by kernel_rfl) rfl #[.pointer (some ⟨g442, 0, none⟩), .int .i64 24] rfl (by (try simp only [ybf, ybg, ybh]); first | done | rfl | (simp only [ybj, ybi]; rfl)) ?_; (with_reducible refine (spec_l6Rd_pick.calls k g442 t440 t446 24 t457 t458 w _ ?side1 ?side2 A20.out).mono ?_); (case side1 => repeat (first | (with_reducible first | exact HI442.out | apply zae.alloc | apply zae.drewN | apply zae.drew | apply zae.set_1) | exact HI442.out)); (case side2 => repeat (first | (with_reducible first | exact HB.out | apply zac | apply zab | apply zad | refine zah ?_ (zae.ge HI442.out)) | exact HB.out)); rintro e w27 ⟨rfl, hi, hb, hk⟩; refine ⟨_, rfl, ?_⟩; have n0_ := zaa.mk (Kd.V_mono (Kd.V_keep (Kd.V_mono (ok := fun k_ => (((w.heap.size ≤ k_)) ∧ k_ ≠ g442)) (by (with_reducible repeat (first | apply ybs | apply ybt | apply ybu)); exact HO445.out) (fun k_ hk_ => (⟨hk_, hk_.2⟩ : _ ∧ k_ ≠ g442))) hk (fun _ h => h.2)) (fun _ h => h.1)); have n1_ := zaa.mk (hb); have n2_ := zaa.mk (hi); clear HO445; clear HB; clear HI442; have HO445 := n0_; have HB := n1_; have HI442 := n2_; clear n0_ n1_ n2_; (try clear hb); (try clear hb2); (try clear hk); (try clear hi)) | ((with_reducible refine zaq (f := 63) rfl ?_); refine zbf (some 24) rfl rfl Try.func63 (by kernel_rfl) rfl #[.pointer (some ⟨g442, 0, none⟩), .int .i64 (wrap64 (1 + (wrap64 (Int.tdiv t457 23))))] rfl (by (try simp only [ybf, ybg, ybh]); first | done | rfl | (simp only [ybj, ybi]; rfl)) ?_; (with_reducible refine (spec_l6Rd_pick.calls k g442 t440 t458 (wrap64 (1 + (wrap64 (Int.tdiv t457 23)))) t459 t460 w _ ?side1 ?side2 A21.out).mono ?_); (case side1 => repeat (first | (with_reducible first | exact HI442.out | apply zae.alloc | apply zae.drewN | apply zae.drew | apply zae.set_1) | exact HI442.out)); (case side2 => repeat (first | (with_reducible first | exact HB.out | apply zac | apply zab | apply zad | refine zah ?_ (zae.ge HI442.out)) | exact HB.out)); rintro e w28 ⟨rfl, hi, hb, hk⟩; refine ⟨_, rfl, ?_⟩; have n0_ := zaa.mk (Kd.V_mono (Kd.V_keep (Kd.V_mono (ok := fun k_ => (((w.heap.size ≤ k_)) ∧ k_ ≠ g442)) (by (with_reducible repeat (first | apply ybs | apply ybt | apply ybu)); exact HO445.out) (fun k_ hk_ => (⟨hk_, hk_.2⟩ : _ ∧ k_ ≠ g442))) hk (fun _ h => h.2)) (fun _ h => h.1)); have n1_ := zaa.mk (hb); have n2_ := zaa.mk (hi); clear HO445; clear HB; clear HI442; have HO445 := n0_; have HB := n1_; have HI442 := n2_; clear n0_ n1_ n2_; (try clear hb); (try clear hb2); (try clear hk); (try clear hi)) | ((with_reducible refine zaq (f := 63) rfl ?_); refine zbf (some 26) rfl rfl Try.func63 (by kernel_rfl) rfl #[.pointer (some ⟨g442, 0, none⟩), .int .i64 24] rfl (by (try simp only [ybf, ybg, ybh]); first | done | rfl | (simp only [ybj, ybi]; rfl)) ?_; (with_reducible refine (spec_l6Rd_pick.calls k g442 t440 t460 24 t461 t462 w _ ?side1 ?side2 A22.out).mono ?_); (case side1 => repeat (first | (with_reducible first | exact HI442.out | apply zae.alloc | apply zae.drewN | apply zae.drew | apply zae.set_1) | exact HI442.out)); (case side2 => repeat (first | (with_reducible first | exact HB.out | apply zac | apply zab | apply zad | refine zah ?_ (zae.ge HI442.out)) | exact HB.out)); rintro e w29 ⟨rfl, hi, hb, hk⟩; refine ⟨_, rfl, ?_⟩; have n0_ := zaa.mk (Kd.V_mono (Kd.V_keep (Kd.V_mono (ok := fun k_ => (((w.heap.size ≤ k_)) ∧ k_ ≠ g442)) (by (with_reducible repeat (first | apply ybs | apply ybt | apply ybu)); exact HO445.out) (fun k_ hk_ => (⟨hk_, hk_.2⟩ : _ ∧ k_ ≠ g442))) hk (fun _ h => h.2)) (fun _ h => h.1)); have n1_ := zaa.mk (hb); have n2_ := zaa.mk (hi); clear HO445; clear HB; clear HI442; have HO445 := n0_; have HB := n1_; have HI442 := n2_; clear n0_ n1_ n2_; (try clear hb); (try clear hb2); (try clear hk); (try clear hi)))
  go_ret2
  exact ⟨_, by first | rfl | (simp [zan, zam] <;> rfl) | (simp [*, zan, zam] <;> rfl), by (with_reducible repeat (first | apply ybs | apply ybt | apply ybu)); exact Kd.V_mono HO445.out (fun _ hk => hk.1), by repeat (first | (with_reducible first | exact HB.out | apply zac | apply zab | apply zad | refine zah ?_ (zae.ge HI442.out)) | exact HB.out)⟩
end Go.Proofs.Ytaepgogafkmooaa.SM
