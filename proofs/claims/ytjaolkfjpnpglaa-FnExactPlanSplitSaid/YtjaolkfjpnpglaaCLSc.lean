/- Part 3 of the proof of FnExactPlanSplit: what the program's functions and the reference's compute. -/
import Derived.Test.YtjaolkfjpnpglaaProg
import Derived.Below
import Derived.Deep.Draws
import Derived.Deep.AppendLies
import Derived.Maps.AppendAt
import Derived.OwnWalk
import Derived.Laws.BytesArg
import Derived.Laws.MakeOwn
import Derived.Laws.OwnMore
import Derived.Deep.OwnRows
import Derived.Tactics
import Derived.Lib.ConvBytes
import Derived.Laws.Slices
import Derived.WalkKit
import Derived.KernelRfl
import Derived.RowKit3
import Derived.Deep.LoopGhost
import Derived.Deep.QuietTactic
import Derived.BigQuiet
import Derived.WideLaws
import Derived.Deep.DeepCutAuto
import Derived.Deep.CutBlock
import Derived.Deep.RegionHeld3
import Derived.Laws.Rows
import Derived.Lib.AppendStr
import Derived.ArgAppend
import Derived.Laws.IdiomCopy
import Derived.OrdersHeld
import Derived.Laws.BitsLemmas
import Derived.RowKit
import Derived.Test.YtjaolkfjpnpglaaWWords
import Derived.Test.YtjaolkfjpnpglaaWLast
import Derived.Test.YtjaolkfjpnpglaaWApart
import Derived.Test.YtjaolkfjpnpglaaWFoot
import Derived.Test.YtjaolkfjpnpglaaWKept
import Derived.Test.YtjaolkfjpnpglaaWShare
import Derived.Test.YtjaolkfjpnpglaaWN
import Derived.Test.YtjaolkfjpnpglaaWRepsOne
import Derived.Test.YtjaolkfjpnpglaaWMore
import Derived.Test.YtjaolkfjpnpglaaCLSb
namespace Go.Proofs.Ytjaolkfjpnpglaa.Hd
open Go.RowKit Go.Proofs.YtjaolkfjpnpglaaW.PrintWords Go.Proofs.YtjaolkfjpnpglaaW.PrintLast Go.Proofs.YtjaolkfjpnpglaaW.PrintMore Go.Proofs.Ytjaolkfjpnpglaa.PB
set_option linter.unusedVariables false
set_option linter.unusedSimpArgs false
def isH (letter : ByteArray) : Bool := letter.toList == [104]
def isV (letter : ByteArray) : Bool := letter.toList == [118]
theorem isHV {letter : ByteArray} (h : isH letter = true) : isV letter = false := by
 unfold isH at h
 unfold isV
 rw [beq_iff_eq] at h
 rw [h]
 rfl
def behindB (b : Rc) (letter : ByteArray) (k : Int) (r c : Nat) : Bool := (isH letter && decide (b.f0 + k ≤ r)) || (isV letter && decide (b.f1 + k ≤ c))
def splitG (cs : List (List Int)) (rs : List Rc) (room : Int) (letter : ByteArray) (k : Int) (r c : Nat) : Int :=
 if valAt cs r c = room ∧ behindB (rs.getD room.toNat zeroR) letter k r c = true then rs.length else valAt cs r c
set_option maxHeartbeats 4000000 in
set_option maxRecDepth 100000 in
theorem split1_read (w : World) (pl pb pk pf pr g : Nat) (cs : List (List Int)) (rs : List Rc) (room : Int) (letter : ByteArray) (k : Int) (b : Rc) (hk : FloorOk cs rs) (hf : FloorAt w g cs rs) (hbd : boundR b cs.length (wideOf cs)) (hb : b = rs.getD room.toNat zeroR) (hlet : isH letter = true ∨ isV letter = true) (k1 : 1 ≤ k) (k6 : k ≤ 6)
  (h1 : w.cell? ⟨pl, 0, none⟩ = some (.string letter)) (h2 : w.cell? ⟨pb, 0, none⟩ = some (.int .i64 b.f0)) (h2b : w.cell? ⟨pb, 1, none⟩ = some (.int .i64 b.f1)) (h3 : w.cell? ⟨pk, 0, none⟩ = some (.int .i64 k)) (h4 : w.cell? ⟨pf, 0, none⟩ = some (.pointer (some ⟨g, 0, none⟩))) (h5 : w.cell? ⟨pr, 0, none⟩ = some (.int .i64 room)) :
  ReadFn Try.prog 72 #[.pointer (some ⟨pl, 0, none⟩), .pointer (some ⟨pb, 0, none⟩), .pointer (some ⟨pk, 0, none⟩), .pointer (some ⟨pf, 0, none⟩), .pointer (some ⟨pr, 0, none⟩)] w cs.length (wideOf cs) (splitG cs rs room letter k) := by
 intro W r c hr hc hS
 replace hf := hf.sees hS
 replace h1 := hS.cell h1
 replace h2 := hS.cell h2
 replace h2b := hS.cell h2b
 replace h3 := hS.cell h3
 replace h4 := hS.cell h4
 replace h5 := hS.cell h5
 have hh1 := hk.h6
 have hw6 := hk.w6
 have r0 : (0 : Int) ≤ r := by omega
 have c0 : (0 : Int) ≤ c := by omega
 have r1 : (r : Int) < cs.length := by omega
 have c1 : (c : Int) < wideOf cs := by omega
 obtain ⟨ad, q0, ad2, q2, x1, x2, x3⟩ := hf.cell hk r c hr hc
 obtain ⟨Ar, qr, y1, -⟩ := hf.rooms
 have hG : splitG cs rs room letter k r c = if valAt cs r c = room ∧ behindB b letter k r c = true then (rs.length : Int) else valAt cs r c := by subst hb; rfl
 generalize splitG cs rs room letter k r c = res at *
 generalize valAt cs r c = x at *
 obtain ⟨b0, b1, b2, b3, b4, b5⟩ := hbd
 have e1 : wrap64 (b.f0 + k) = b.f0 + k := wrap64_small (by omega) (by omega)
 have e2 : wrap64 (b.f1 + k) = b.f1 + k := wrap64_small (by omega) (by omega)
 unfold behindB at hG
 clear hf hk hS hr hc hb
 have t1 : (letter.toList == [104]) = isH letter := rfl
 have t2 : (letter.toList == [118]) = isV letter := rfl
 have hV : isH letter = true → isV letter = false := isHV
 generalize isH letter = bH at *
 generalize isV letter = bV at *
 show Calls Try.prog _ #[.int .i64 (r : Int), .int .i64 (c : Int), .pointer (some ⟨pl, 0, none⟩), .pointer (some ⟨pb, 0, none⟩), .pointer (some ⟨pk, 0, none⟩), .pointer (some ⟨pf, 0, none⟩), .pointer (some ⟨pr, 0, none⟩)] _ _
 cases bH
 ·obtain rfl : bV = true := by simpa using hlet
  clear hlet hV
  by_cases hin : b.f1 + k ≤ (c : Int)
  ·have d1 : decide (b.f1 + k ≤ (c : Int)) = true := decide_eq_true hin
   by_cases hx : x = room
   ·have d2 : (x == room) = true := by simp [hx]
    have hG2 : res = (rs.length : Int) := by rw [hG]; simp [hx, hin]
    have HG := Aside0.mk hG2
    clear hG hG2 hx hin
    go_enter Try.func72, Try.ntmps72
    go_wp2
    repeat (go_quiet (fail); try go_wp2)
    go_ret
    exact ⟨by rw [HG.out]; rfl, pw_below_drewN (Below.refl _ _) _⟩
   ·have d2 : (x == room) = false := by simp [hx]
    have hG2 : res = x := by rw [hG]; simp [hx, hin]
    have HG := Aside0.mk hG2
    clear hG hG2 hx hin
    go_enter Try.func72, Try.ntmps72
    go_wp2
    repeat (go_quiet (fail); try go_wp2)
    go_ret
    exact ⟨by rw [HG.out]; rfl, pw_below_drewN (Below.refl _ _) _⟩
  ·have d1 : decide (b.f1 + k ≤ (c : Int)) = false := decide_eq_false hin
   by_cases hx : x = room
   ·have d2 : (x == room) = true := by simp [hx]
    have hG2 : res = x := by rw [hG]; simp [hx, hin]
    have HG := Aside0.mk hG2
    clear hG hG2 hx hin
    go_enter Try.func72, Try.ntmps72
    go_wp2
    repeat (go_quiet (fail); try go_wp2)
    go_ret
    exact ⟨by rw [HG.out]; rfl, pw_below_drewN (Below.refl _ _) _⟩
   ·have d2 : (x == room) = false := by simp [hx]
    have hG2 : res = x := by rw [hG]; simp [hx, hin]
    have HG := Aside0.mk hG2
    clear hG hG2 hx hin
    go_enter Try.func72, Try.ntmps72
    go_wp2
    repeat (go_quiet (fail); try go_wp2)
    go_ret
    exact ⟨by rw [HG.out]; rfl, pw_below_drewN (Below.refl _ _) _⟩
 ·obtain rfl : bV = false := hV rfl
  clear hlet hV
  by_cases hin : b.f0 + k ≤ (r : Int)
  ·have d1 : decide (b.f0 + k ≤ (r : Int)) = true := decide_eq_true hin
   by_cases hx : x = room
   ·have d2 : (x == room) = true := by simp [hx]
    have hG2 : res = (rs.length : Int) := by rw [hG]; simp [hx, hin]
    have HG := Aside0.mk hG2
    clear hG hG2 hx hin
    go_enter Try.func72, Try.ntmps72
    go_wp2
    repeat (go_quiet (fail); try go_wp2)
    go_ret
    exact ⟨by rw [HG.out]; rfl, pw_below_drewN (Below.refl _ _) _⟩
   ·have d2 : (x == room) = false := by simp [hx]
    have hG2 : res = x := by rw [hG]; simp [hx, hin]
    have HG := Aside0.mk hG2
    clear hG hG2 hx hin
    go_enter Try.func72, Try.ntmps72
    go_wp2
    repeat (go_quiet (fail); try go_wp2)
    go_ret
    exact ⟨by rw [HG.out]; rfl, pw_below_drewN (Below.refl _ _) _⟩
  ·have d1 : decide (b.f0 + k ≤ (r : Int)) = false := decide_eq_false hin
   by_cases hx : x = room
   ·have d2 : (x == room) = true := by simp [hx]
    have hG2 : res = x := by rw [hG]; simp [hx, hin]
    have HG := Aside0.mk hG2
    clear hG hG2 hx hin
    go_enter Try.func72, Try.ntmps72
    go_wp2
    repeat (go_quiet (fail); try go_wp2)
    go_ret
    exact ⟨by rw [HG.out]; rfl, pw_below_drewN (Below.refl _ _) _⟩
   ·have d2 : (x == room) = false := by simp [hx]
    have hG2 : res = x := by rw [hG]; simp [hx, hin]
    have HG := Aside0.mk hG2
    clear hG hG2 hx hin
    go_enter Try.func72, Try.ntmps72
    go_wp2
    repeat (go_quiet (fail); try go_wp2)
    go_ret
    exact ⟨by rw [HG.out]; rfl, pw_below_drewN (Below.refl _ _) _⟩
def splitF (p : List ByteArray) (room : Int) (letter : ByteArray) (k : Int) : List ByteArray × Bool := match floorF p with
 | none => ([], false)
 | some (cs, rs) =>
  if hasB rs room && (isH letter || isV letter) then
   if 1 ≤ k ∧ k < (if isH letter then (rs.getD room.toNat zeroR).f2 else (rs.getD room.toNat zeroR).f3) then planF (gridOf cs.length (wideOf cs) (splitG cs rs room letter k)) else ([], false)
  else ([], false)
set_option maxHeartbeats 8000000 in
set_option maxRecDepth 100000 in
theorem PlanSplit_calls (A0 : Option Addr) (c0 : Nat) (l0 : List ByteArray) (room : Int) (letter : ByteArray) (k : Int) (w : World) (hr0 : Kd.C Kd.string w A0 l0.length l0) (hc0 : l0.length ≤ c0) (hp : smallP l0) :
  Calls Try.prog 31 #[.slice A0 l0.length c0, .int .i64 room, .string letter, .int .i64 k] w (PlanRes w (splitF l0 room letter k)) := by
 have HR := Aside0.mk hr0
 have HC := Aside0.mk hc0
 have HP := Aside0.mk hp
 clear hr0 hc0 hp
 generalize hM : splitF l0 room letter k = res
 have HM := Aside0.mk hM
 clear hM
 generalize hF : floorF l0 = t
 have HF := Aside0.mk hF
 clear hF
 rcases t with _ | ⟨cs, rs⟩
 ·have e : res = ([], false) := by rw [← HM.out]; unfold splitF; rw [HF.out]
  subst e
  go_enter Try.func31, Try.ntmps31
  go_wp2_with (first
   | ((with_reducible refine gate_dst (N := 5) rfl ?_); refine box_event ?hg (N := 5) ?hd (cs := #[.int .i64 room]) (t := 3) ?hr ?_; (case hd => rfl); (case hg => rfl); (case hr => first | (go_simp; done) | (go_simp; rfl)); intro pr hq_ w1 hbox hb; have HB1 := Aside0.mk hb; have h5 : w1.cell? ⟨pr, 0, none⟩ = some (.int .i64 room) := box_cell hbox; clear hb hbox hq_)
   | ((with_reducible refine gate_dst (N := 6) rfl ?_); refine box_event ?hg (N := 6) ?hd (cs := #[.string letter]) (t := 9) ?hr ?_; (case hd => rfl); (case hg => rfl); (case hr => first | (go_simp; done) | (go_simp; rfl)); intro pl hq_ w2 hbox hb; have HB2 := Aside0.mk (below_step HB1.out hb); replace h5 := pw_cell_below hb h5; have h1 : w2.cell? ⟨pl, 0, none⟩ = some (.string letter) := box_cell hbox; clear hb hbox hq_)
   | ((with_reducible refine gate_dst (N := 7) rfl ?_); refine box_event ?hg (N := 7) ?hd (cs := #[.int .i64 k]) (t := 3) ?hr ?_; (case hd => rfl); (case hg => rfl); (case hr => first | (go_simp; done) | (go_simp; rfl)); intro pk hq_ w3 hbox hb; have HB3 := Aside0.mk (below_step HB2.out hb); replace h5 := pw_cell_below hb h5; replace h1 := pw_cell_below hb h1; have h3 : w3.cell? ⟨pk, 0, none⟩ = some (.int .i64 k) := box_cell hbox; clear hb hbox hq_)
   | (go_at_call 49; refine (floorOf_calls A0 c0 l0 _ (Kd.C_below HR.out HB3.out) HC.out HP.out).mono ?_; rw [HF.out]; rintro e w8 ⟨hb8, v8, b8, rfl, rfl⟩; have HB8 := Aside0.mk (below_step HB3.out hb8); clear hb8))
  go_ret2
  exact ⟨.slice none 0 0, rfl, Kd.R_nil _ _ _ _ _, below_alloc HB8.out _⟩
 ·have hre : res = if hasB rs room && (isH letter || isV letter) then if 1 ≤ k ∧ k < (if isH letter then (rs.getD room.toNat zeroR).f2 else (rs.getD room.toNat zeroR).f3) then planF (gridOf cs.length (wideOf cs) (splitG cs rs room letter k)) else ([], false) else ([], false) := by rw [← HM.out]; unfold splitF; rw [HF.out]
  have HK := Aside0.mk (floorF_ok HF.out)
  have t1 : (letter.toList == [104]) = isH letter := rfl
  have t2 : (letter.toList == [118]) = isV letter := rfl
  generalize hA : hasB rs room = bA at hre
  have HA := Aside0.mk hA
  have HLet := Aside0.mk (show isH letter = true → isV letter = false from isHV)
  clear hA
  cases bA
  ·have e : res = ([], false) := by rw [hre]; simp
   subst e
   clear hre t1 t2
   go_enter Try.func31, Try.ntmps31
   go_wp2_with (first
    | ((with_reducible refine gate_dst (N := 5) rfl ?_); refine box_event ?hg (N := 5) ?hd (cs := #[.int .i64 room]) (t := 3) ?hr ?_; (case hd => rfl); (case hg => rfl); (case hr => first | (go_simp; done) | (go_simp; rfl)); intro pr hq_ w1 hbox hb; have HB1 := Aside0.mk hb; have h5 : w1.cell? ⟨pr, 0, none⟩ = some (.int .i64 room) := box_cell hbox; clear hb hbox hq_)
    | ((with_reducible refine gate_dst (N := 6) rfl ?_); refine box_event ?hg (N := 6) ?hd (cs := #[.string letter]) (t := 9) ?hr ?_; (case hd => rfl); (case hg => rfl); (case hr => first | (go_simp; done) | (go_simp; rfl)); intro pl hq_ w2 hbox hb; have HB2 := Aside0.mk (below_step HB1.out hb); replace h5 := pw_cell_below hb h5; have h1 : w2.cell? ⟨pl, 0, none⟩ = some (.string letter) := box_cell hbox; clear hb hbox hq_)
    | ((with_reducible refine gate_dst (N := 7) rfl ?_); refine box_event ?hg (N := 7) ?hd (cs := #[.int .i64 k]) (t := 3) ?hr ?_; (case hd => rfl); (case hg => rfl); (case hr => first | (go_simp; done) | (go_simp; rfl)); intro pk hq_ w3 hbox hb; have HB3 := Aside0.mk (below_step HB2.out hb); replace h5 := pw_cell_below hb h5; replace h1 := pw_cell_below hb h1; have h3 : w3.cell? ⟨pk, 0, none⟩ = some (.int .i64 k) := box_cell hbox; clear hb hbox hq_)
    | (go_at_call 49; refine (floorOf_calls A0 c0 l0 _ (Kd.C_below HR.out HB3.out) HC.out HP.out).mono ?_; rw [HF.out]; rintro e w8 ⟨hb8, v8, b8, rfl, rfl, g, rfl, hfl⟩; have HB8 := Aside0.mk (below_step HB3.out hb8); have HFx := Aside0.mk (FloorAt.below hfl (below_alloc (Below.refl _ _) (.cells #[.pointer (some ⟨g, 0, none⟩)] 45))); have HBx := Aside0.mk (below_alloc HB8.out (.cells #[.pointer (some ⟨g, 0, none⟩)] 45)); replace h5 := pw_cell_below (below_alloc (Below.refl _ _) (.cells #[.pointer (some ⟨g, 0, none⟩)] 45)) (pw_cell_below hb8 h5); replace h1 := pw_cell_below (below_alloc (Below.refl _ _) (.cells #[.pointer (some ⟨g, 0, none⟩)] 45)) (pw_cell_below hb8 h1); replace h3 := pw_cell_below (below_alloc (Below.refl _ _) (.cells #[.pointer (some ⟨g, 0, none⟩)] 45)) (pw_cell_below hb8 h3); clear hb8 hfl)
    | (go_at_call 50; refine (impl_floor_has.calls g cs rs room _ _ _ HFx.out (Below.refl _ _) (has_f cs rs room)).mono ?_; rw [HA.out]; rintro e w9 ⟨rfl, -, hb9, -⟩; have HB9 := Aside0.mk (below_step HBx.out hb9); have HF9 := Aside0.mk (HFx.out.below hb9); have h4 : w9.cell? ⟨w8.heap.size, 0, none⟩ = some (.pointer (some ⟨g, 0, none⟩)) := pw_cell_below hb9 ((blk_cell (heap_alloc_new w8 _) 0).trans rfl); replace h5 := pw_cell_below hb9 h5; replace h1 := pw_cell_below hb9 h1; replace h3 := pw_cell_below hb9 h3; clear hb9))
   go_ret2
   exact ⟨.slice none 0 0, rfl, Kd.R_nil _ _ _ _ _, HB9.out⟩
  ·by_cases hno : isH letter = false ∧ isV letter = false
   ·have e : res = ([], false) := by rw [hre]; simp [hno.1, hno.2]
    subst e
    rw [hno.1] at t1
    rw [hno.2] at t2
    have u1 : ¬ letter.toList = [104] := by simpa using t1
    have u2 : ¬ letter.toList = [118] := by simpa using t2
    clear hre hno
    go_enter Try.func31, Try.ntmps31
    go_wp2_with (first
     | ((with_reducible refine gate_dst (N := 5) rfl ?_); refine box_event ?hg (N := 5) ?hd (cs := #[.int .i64 room]) (t := 3) ?hr ?_; (case hd => rfl); (case hg => rfl); (case hr => first | (go_simp; done) | (go_simp; rfl)); intro pr hq_ w1 hbox hb; have HB1 := Aside0.mk hb; have h5 : w1.cell? ⟨pr, 0, none⟩ = some (.int .i64 room) := box_cell hbox; clear hb hbox hq_)
     | ((with_reducible refine gate_dst (N := 6) rfl ?_); refine box_event ?hg (N := 6) ?hd (cs := #[.string letter]) (t := 9) ?hr ?_; (case hd => rfl); (case hg => rfl); (case hr => first | (go_simp; done) | (go_simp; rfl)); intro pl hq_ w2 hbox hb; have HB2 := Aside0.mk (below_step HB1.out hb); replace h5 := pw_cell_below hb h5; have h1 : w2.cell? ⟨pl, 0, none⟩ = some (.string letter) := box_cell hbox; clear hb hbox hq_)
     | ((with_reducible refine gate_dst (N := 7) rfl ?_); refine box_event ?hg (N := 7) ?hd (cs := #[.int .i64 k]) (t := 3) ?hr ?_; (case hd => rfl); (case hg => rfl); (case hr => first | (go_simp; done) | (go_simp; rfl)); intro pk hq_ w3 hbox hb; have HB3 := Aside0.mk (below_step HB2.out hb); replace h5 := pw_cell_below hb h5; replace h1 := pw_cell_below hb h1; have h3 : w3.cell? ⟨pk, 0, none⟩ = some (.int .i64 k) := box_cell hbox; clear hb hbox hq_)
     | (go_at_call 49; refine (floorOf_calls A0 c0 l0 _ (Kd.C_below HR.out HB3.out) HC.out HP.out).mono ?_; rw [HF.out]; rintro e w8 ⟨hb8, v8, b8, rfl, rfl, g, rfl, hfl⟩; have HB8 := Aside0.mk (below_step HB3.out hb8); have HFx := Aside0.mk (FloorAt.below hfl (below_alloc (Below.refl _ _) (.cells #[.pointer (some ⟨g, 0, none⟩)] 45))); have HBx := Aside0.mk (below_alloc HB8.out (.cells #[.pointer (some ⟨g, 0, none⟩)] 45)); replace h5 := pw_cell_below (below_alloc (Below.refl _ _) (.cells #[.pointer (some ⟨g, 0, none⟩)] 45)) (pw_cell_below hb8 h5); replace h1 := pw_cell_below (below_alloc (Below.refl _ _) (.cells #[.pointer (some ⟨g, 0, none⟩)] 45)) (pw_cell_below hb8 h1); replace h3 := pw_cell_below (below_alloc (Below.refl _ _) (.cells #[.pointer (some ⟨g, 0, none⟩)] 45)) (pw_cell_below hb8 h3); clear hb8 hfl)
     | (go_at_call 50; refine (impl_floor_has.calls g cs rs room _ _ _ HFx.out (Below.refl _ _) (has_f cs rs room)).mono ?_; rw [HA.out]; rintro e w9 ⟨rfl, -, hb9, -⟩; have HB9 := Aside0.mk (below_step HBx.out hb9); have HF9 := Aside0.mk (HFx.out.below hb9); have h4 : w9.cell? ⟨w8.heap.size, 0, none⟩ = some (.pointer (some ⟨g, 0, none⟩)) := pw_cell_below hb9 ((blk_cell (heap_alloc_new w8 _) 0).trans rfl); replace h5 := pw_cell_below hb9 h5; replace h1 := pw_cell_below hb9 h1; replace h3 := pw_cell_below hb9 h3; clear hb9))
    go_ret2
    exact ⟨.slice none 0 0, rfl, Kd.R_nil _ _ _ _ _, HB9.out⟩
   ·have hyes : isH letter = true ∨ isV letter = true := by
     cases h1 : isH letter <;> cases h2 : isV letter <;> simp_all
    have HRm := Aside0.mk (show 0 ≤ room ∧ room < rs.length from by have := HA.out; unfold hasB at this; simpa using this)
    rcases hyes with hy | hy
    ·have hn := HLet.out hy
     rw [hy] at t1 hre
     rw [hn] at t2 hre
     simp only [Bool.true_or, Bool.and_true, if_true] at hre
     have HRE := Aside0.mk hre
     have HY := Aside0.mk hy
     have HNn := Aside0.mk hn
     clear hre hno hy hn
     go_enter Try.func31, Try.ntmps31
     go_upto_region 4 with (first
     | ((with_reducible refine gate_dst (N := 5) rfl ?_); refine box_event ?hg (N := 5) ?hd (cs := #[.int .i64 room]) (t := 3) ?hr ?_; (case hd => rfl); (case hg => rfl); (case hr => first | (go_simp; done) | (go_simp; rfl)); intro pr hq_ w1 hbox hb; have HB1 := Aside0.mk hb; have h5 : w1.cell? ⟨pr, 0, none⟩ = some (.int .i64 room) := box_cell hbox; clear hb hbox hq_)
     | ((with_reducible refine gate_dst (N := 6) rfl ?_); refine box_event ?hg (N := 6) ?hd (cs := #[.string letter]) (t := 9) ?hr ?_; (case hd => rfl); (case hg => rfl); (case hr => first | (go_simp; done) | (go_simp; rfl)); intro pl hq_ w2 hbox hb; have HB2 := Aside0.mk (below_step HB1.out hb); replace h5 := pw_cell_below hb h5; have h1 : w2.cell? ⟨pl, 0, none⟩ = some (.string letter) := box_cell hbox; clear hb hbox hq_)
     | ((with_reducible refine gate_dst (N := 7) rfl ?_); refine box_event ?hg (N := 7) ?hd (cs := #[.int .i64 k]) (t := 3) ?hr ?_; (case hd => rfl); (case hg => rfl); (case hr => first | (go_simp; done) | (go_simp; rfl)); intro pk hq_ w3 hbox hb; have HB3 := Aside0.mk (below_step HB2.out hb); replace h5 := pw_cell_below hb h5; replace h1 := pw_cell_below hb h1; have h3 : w3.cell? ⟨pk, 0, none⟩ = some (.int .i64 k) := box_cell hbox; clear hb hbox hq_)
     | (go_at_call 49; refine (floorOf_calls A0 c0 l0 _ (Kd.C_below HR.out HB3.out) HC.out HP.out).mono ?_; rw [HF.out]; rintro e w8 ⟨hb8, v8, b8, rfl, rfl, g, rfl, hfl⟩; have HB8 := Aside0.mk (below_step HB3.out hb8); have HFx := Aside0.mk (FloorAt.below hfl (below_alloc (Below.refl _ _) (.cells #[.pointer (some ⟨g, 0, none⟩)] 45))); have HBx := Aside0.mk (below_alloc HB8.out (.cells #[.pointer (some ⟨g, 0, none⟩)] 45)); replace h5 := pw_cell_below (below_alloc (Below.refl _ _) (.cells #[.pointer (some ⟨g, 0, none⟩)] 45)) (pw_cell_below hb8 h5); replace h1 := pw_cell_below (below_alloc (Below.refl _ _) (.cells #[.pointer (some ⟨g, 0, none⟩)] 45)) (pw_cell_below hb8 h1); replace h3 := pw_cell_below (below_alloc (Below.refl _ _) (.cells #[.pointer (some ⟨g, 0, none⟩)] 45)) (pw_cell_below hb8 h3); clear hb8 hfl)
     | (go_at_call 50; refine (impl_floor_has.calls g cs rs room _ _ _ HFx.out (Below.refl _ _) (has_f cs rs room)).mono ?_; rw [HA.out]; rintro e w9 ⟨rfl, -, hb9, -⟩; have HB9 := Aside0.mk (below_step HBx.out hb9); have HF9 := Aside0.mk (HFx.out.below hb9); have h4 : w9.cell? ⟨w8.heap.size, 0, none⟩ = some (.pointer (some ⟨g, 0, none⟩)) := pw_cell_below hb9 ((blk_cell (heap_alloc_new w8 _) 0).trans rfl); replace h5 := pw_cell_below hb9 h5; replace h1 := pw_cell_below hb9 h1; replace h3 := pw_cell_below hb9 h3; clear hb9))
     obtain ⟨Ar, qr, y1, hrc⟩ := HF9.out.rooms
     obtain ⟨adr, er, z0, z1, z2, z3⟩ := at_T73 hrc room (by have := HRm.out; omega) (by have := HRm.out; omega)
     subst er
     have hbe : rd_T73 rs room = rs.getD room.toNat zeroR := rfl
     rw [hbe] at z0 z1 z2 z3
     have hbd := HK.out.bound (rs.getD room.toNat zeroR) (by have := HRm.out; rw [List.getD_eq_getElem?_getD, List.getElem?_eq_getElem (by omega)]; exact List.getElem_mem _)
     generalize hbb : rs.getD room.toNat zeroR = b at *
     have HBb := Aside0.mk hbb
     have HBd := Aside0.mk hbd
     clear hbb hbd hrc hbe
     have HC1 := Aside0.mk h1
     have HC3 := Aside0.mk h3
     have HC4 := Aside0.mk h4
     have HC5 := Aside0.mk h5
     generalize w8.heap.size = pf at *
     obtain ⟨rm0, rm1⟩ := HRm.out
     refine start_ (n := 9) (S := fun w' => w'.cell? ⟨pf, 0, none⟩ = some (.pointer (some ⟨g, 0, none⟩)) ∧ w'.cell? ⟨pr, 0, none⟩ = some (.int .i64 room) ∧ w'.cell? ⟨g, 1, none⟩ = some (.slice (some adr) rs.length qr) ∧ w'.cell? (adr.add (room.toNat * 4)) = some (.int .i64 b.f0) ∧ w'.cell? ⟨(adr.add (room.toNat * 4)).block, (adr.add (room.toNat * 4)).off + 1, none⟩ = some (.int .i64 b.f1) ∧ w'.cell? ⟨(adr.add (room.toNat * 4)).block, (adr.add (room.toNat * 4)).off + 2, none⟩ = some (.int .i64 b.f2) ∧ w'.cell? ⟨(adr.add (room.toNat * 4)).block, (adr.add (room.toNat * 4)).off + 3, none⟩ = some (.int .i64 b.f3)) (ds := [8]) #[false, false, false, false, false, false, false, false, false] (by kernel_rfl) rfl rfl (⟨h4, h5, y1, z0, z1, z2, z3⟩) (fun hHeld => ?_)
     clear h1 h3 h4 h5 y1 z0 z1 z2 z3
     refine take_ (i := 0) (N := some 35) (v := ?_) (a' := ?_) #[true, false, false, false, false, false, false, false, false] rfl rfl (by kernel_rfl) (fun _ _ _ h => h) (Or.inl ⟨by rfl, ?_⟩) hHeld ?_ ?_
     rotate_left
     ·rintro w' ⟨s0, s1, s2, s3, s4, s5, s6⟩
      go_simp
      with_reducible rfl
     rotate_left
     ·simp only [Act.put, List.setIfInBounds_toArray, List.set_cons_zero, List.set_cons_succ, i64_w, i32_w]
      rfl
     refine pure_ (i := 1) (N := some 36) (v := ?_) (a' := ?_) #[true, true, false, false, false, false, false, false, false] rfl rfl (by kernel_rfl) (fun _ _ _ h => h) (Or.inl ⟨by rfl, ?_⟩) ?_ ?_
     rotate_left
     ·intro w'
      go_simp
      with_reducible rfl
     rotate_left
     ·simp only [Act.put, List.setIfInBounds_toArray, List.set_cons_zero, List.set_cons_succ, i64_w, i32_w]
      rfl
     refine pure_ (i := 2) (N := some 37) (v := ?_) (a' := ?_) #[true, true, true, false, false, false, false, false, false] rfl rfl (by kernel_rfl) (fun _ _ _ h => h) (Or.inl ⟨by rfl, ?_⟩) ?_ ?_
     rotate_left
     ·intro w'
      go_simp
      with_reducible rfl
     rotate_left
     ·simp only [Act.put, List.setIfInBounds_toArray, List.set_cons_zero, List.set_cons_succ, i64_w, i32_w]
      rfl
     refine take_ (i := 3) (N := some 38) (v := ?_) (a' := ?_) #[true, true, true, true, false, false, false, false, false] rfl rfl (by kernel_rfl) (fun _ _ _ h => h) (Or.inl ⟨by rfl, ?_⟩) hHeld ?_ ?_
     rotate_left
     ·rintro w' ⟨s0, s1, s2, s3, s4, s5, s6⟩
      go_simp
      with_reducible rfl
     rotate_left
     ·simp only [Act.put, List.setIfInBounds_toArray, List.set_cons_zero, List.set_cons_succ, i64_w, i32_w]
      rfl
     refine take_ (i := 4) (N := some 39) (v := ?_) (a' := ?_) #[true, true, true, true, true, false, false, false, false] rfl rfl (by kernel_rfl) (fun _ _ _ h => h) (Or.inl ⟨by rfl, ?_⟩) hHeld ?_ ?_
     rotate_left
     ·rintro w' ⟨s0, s1, s2, s3, s4, s5, s6⟩
      go_simp
      with_reducible rfl
     rotate_left
     ·simp only [Act.put, List.setIfInBounds_toArray, List.set_cons_zero, List.set_cons_succ, i64_w, i32_w]
      rfl
     refine pure_ (i := 5) (N := some 40) (v := ?_) (a' := ?_) #[true, true, true, true, true, true, false, false, false] rfl rfl (by kernel_rfl) (fun _ _ _ h => h) (Or.inl ⟨by rfl, ?_⟩) ?_ ?_
     rotate_left
     ·intro w'
      go_simp
      with_reducible rfl
     rotate_left
     ·simp only [Act.put, List.setIfInBounds_toArray, List.set_cons_zero, List.set_cons_succ, i64_w, i32_w]
      rfl
     refine take_ (i := 6) (N := some 41) (v := ?_) (a' := ?_) #[true, true, true, true, true, true, true, false, false] rfl rfl (by kernel_rfl) (fun _ _ _ h => h) (Or.inl ⟨by rfl, ?_⟩) hHeld ?_ ?_
     rotate_left
     ·rintro w' ⟨s0, s1, s2, s3, s4, s5, s6⟩
      go_simp
      with_reducible rfl
     rotate_left
     ·simp only [Act.put, List.setIfInBounds_toArray, List.set_cons_zero, List.set_cons_succ, i64_w, i32_w]
      rfl
     refine one_ (i := 7) (N := some 12) #[true, true, true, true, true, true, true, true, false] rfl rfl (by kernel_rfl) (by decide) (fun K hK => ?_)
     refine event_step (by rfl) (v := .pointer (some ⟨w9.drew.heap.size, 0, none⟩)) (w1 := w9.drew.alloc (.cells #[.int .i64 0, .int .i64 0, .int .i64 0, .int .i64 0] 73)) (by first | (go_simp; done) | (go_simp; rfl)) ?_
     refine hK.out _ _ ⟨pw_cell_below (below_alloc (Below.refl _ _) _) hHeld.1, pw_cell_below (below_alloc (Below.refl _ _) _) hHeld.2.1, pw_cell_below (below_alloc (Below.refl _ _) _) hHeld.2.2.1, pw_cell_below (below_alloc (Below.refl _ _) _) hHeld.2.2.2.1, pw_cell_below (below_alloc (Below.refl _ _) _) hHeld.2.2.2.2.1, pw_cell_below (below_alloc (Below.refl _ _) _) hHeld.2.2.2.2.2.1, pw_cell_below (below_alloc (Below.refl _ _) _) hHeld.2.2.2.2.2.2⟩ (fun hHeld => ?_)
     clear hK K
     refine norm_ (a' := ?_) ?_ ?_
     rotate_left
     ·show Act.put _ (some 12) _ = _
      simp only [Act.put, List.setIfInBounds_toArray, List.set_cons_zero, List.set_cons_succ, i64_w, i32_w]
      rfl
     refine last_ (i := 8) (N := none) #[true, true, true, true, true, true, true, true, true] rfl rfl (by kernel_rfl) (by decide) (fun K hK => ?_)
     refine skip_step (by rfl) rfl (w1 := w9.drew.alloc (.cells #[.int .i64 b.f0, .int .i64 b.f1, .int .i64 b.f2, .int .i64 b.f3] 73)) (by first | (go_simp; done) | (go_simp; rfl)) ?_
     refine hK.out _ _ ?_
     clear hK K hHeld
     refine done_ (by kernel_rfl) ?_
     have hbx := heap_alloc_new w9.drew (.cells #[.int .i64 b.f0, .int .i64 b.f1, .int .i64 b.f2, .int .i64 b.f3] 73)
     have hbl := below_alloc (show Below w9.heap.size w9 w9.drew from ⟨rfl, rfl, rfl, Nat.le_refl _, fun _ _ => rfl⟩) (.cells #[.int .i64 b.f0, .int .i64 b.f1, .int .i64 b.f2, .int .i64 b.f3] 73)
     generalize w9.drew.heap.size = gb at *
     generalize w9.drew.alloc (.cells #[.int .i64 b.f0, .int .i64 b.f1, .int .i64 b.f2, .int .i64 b.f3] 73) = w5 at *
     have h1 := pw_cell_below hbl HC1.out
     have h3 := pw_cell_below hbl HC3.out
     have h4 := pw_cell_below hbl HC4.out
     have h5 := pw_cell_below hbl HC5.out
     have HF5 := Aside0.mk (HF9.out.below hbl)
     have HB5 := Aside0.mk (below_step HB9.out hbl)
     have y0 : w5.cell? ⟨gb, 0, none⟩ = some (.int .i64 b.f0) := (blk_cell hbx 0).trans rfl
     have y1 : w5.cell? ⟨gb, 1, none⟩ = some (.int .i64 b.f1) := (blk_cell hbx 1).trans rfl
     have y2 : w5.cell? ⟨gb, 2, none⟩ = some (.int .i64 b.f2) := (blk_cell hbx 2).trans rfl
     have y3 : w5.cell? ⟨gb, 3, none⟩ = some (.int .i64 b.f3) := (blk_cell hbx 3).trans rfl
     clear hbx hbl
     have HE0 := Aside0.mk HRE.out
     by_cases k1 : k < 1
     ·have d1 : decide (k < 1) = true := decide_eq_true k1
      have e : res = ([], false) := by rw [HRE.out, if_neg (by omega)]
      subst e
      clear k1
      go_wp2
      go_ret2
      exact ⟨.slice none 0 0, rfl, Kd.R_nil _ _ _ _ _, HB5.out⟩
     ·have d1 : decide (k < 1) = false := decide_eq_false k1
      by_cases k2 : b.f2 ≤ k
      ·have d2 : decide (b.f2 ≤ k) = true := decide_eq_true k2
       have e : res = ([], false) := by rw [HRE.out, if_neg (by omega)]
       subst e
       clear k1 k2
       go_wp2
       go_ret2
       exact ⟨.slice none 0 0, rfl, Kd.R_nil _ _ _ _ _, HB5.out⟩
      ·have d2 : decide (b.f2 ≤ k) = false := decide_eq_false k2
       have e : res = planF (gridOf cs.length (wideOf cs) (splitG cs rs room letter k)) := by rw [HRE.out, if_pos (by constructor <;> omega)]
       have HE := Aside0.mk e
       have HKk := Aside0.mk (show 1 ≤ k ∧ k ≤ 6 from by obtain ⟨q0, q1, q2, q3, q4, q5⟩ := HBd.out; have := HK.out.h6; have := HK.out.w6; constructor <;> omega)
       clear k1 k2 e
       go_wp2
       have HH := Aside0.mk (high_f cs rs)
       have HWd := Aside0.mk (wide_f HK.out)
       have HVal := Aside0.mk (grid_vals (g := splitG cs rs room letter k) (hi := cs.length) (wi := wideOf cs) fun r c hr hc => by
        have h1 := valAt_range HK.out r c hr hc
        have h2 := HK.out.many
        unfold splitG
        split <;> omega)
       have hdr : Below w.heap.size w w5.drew := ⟨HB5.out.os, HB5.out.tape, HB5.out.output, HB5.out.size, HB5.out.block⟩
       refine start_ (n := 11) (S := fun w' => (w'.cell? ⟨pl, 0, none⟩ = some (.string letter)) ∧ (w'.cell? ⟨gb, 0, none⟩ = some (.int .i64 b.f0)) ∧ (w'.cell? ⟨gb, 1, none⟩ = some (.int .i64 b.f1)) ∧ (w'.cell? ⟨pk, 0, none⟩ = some (.int .i64 k)) ∧ (w'.cell? ⟨pf, 0, none⟩ = some (.pointer (some ⟨g, 0, none⟩))) ∧ (w'.cell? ⟨pr, 0, none⟩ = some (.int .i64 room)) ∧ (FloorAt w' g cs rs) ∧ (Below w.heap.size w w')) (ds := []) #[false, false, false, false, false, false, false, false, false, false, false] (by kernel_rfl) rfl rfl (⟨h1, y0, y1, h3, h4, h5, HF5.out, hdr⟩) (fun hHeld => ?_)
       clear h1 h3 h4 h5 y0 y1 y2 y3 hdr
       refine take_ (i := 0) (N := some 55) (v := ?_) (a' := ?_) #[true, false, false, false, false, false, false, false, false, false, false] rfl rfl (by kernel_rfl) (fun _ _ _ h => h) (Or.inl ⟨by rfl, ?_⟩) hHeld ?_ ?_
       rotate_left
       ·rintro w' ⟨s0, s1, s2, s3, s4, s5, s6, s7⟩
        go_simp
        with_reducible rfl
       rotate_left
       ·simp only [Act.put, List.setIfInBounds_toArray, List.set_cons_zero, List.set_cons_succ, i64_w, i32_w]
        rfl
       refine take_ (i := 2) (N := some 57) (v := ?_) (a' := ?_) #[true, false, true, false, false, false, false, false, false, false, false] rfl rfl (by kernel_rfl) (fun _ _ _ h => h) (Or.inl ⟨by rfl, ?_⟩) hHeld ?_ ?_
       rotate_left
       ·rintro w' ⟨s0, s1, s2, s3, s4, s5, s6, s7⟩
        go_simp
        with_reducible rfl
       rotate_left
       ·simp only [Act.put, List.setIfInBounds_toArray, List.set_cons_zero, List.set_cons_succ, i64_w, i32_w]
        rfl
       refine pure_ (i := 4) (N := some 59) (v := ?_) (a' := ?_) #[true, false, true, false, true, false, false, false, false, false, false] rfl rfl (by kernel_rfl) (fun _ _ _ h => h) (Or.inl ⟨by rfl, ?_⟩) ?_ ?_
       rotate_left
       ·intro w'
        go_simp
        with_reducible rfl
       rotate_left
       ·simp only [Act.put, List.setIfInBounds_toArray, List.set_cons_zero, List.set_cons_succ, i64_w, i32_w]
        rfl
       refine one_ (i := 1) (N := some 56) #[true, true, true, false, true, false, false, false, false, false, false] rfl rfl (by kernel_rfl) (by decide) (fun K hK => ?_)
       refine goes_ Try.func52 (by kernel_rfl) rfl #[.pointer (some ⟨g, 0, none⟩)] (by rfl) rfl rfl (by (try simp only [List.map_toArray, List.map_cons, List.map_nil]); first | done | rfl) ?_
       have hs_ := hHeld
       obtain ⟨s0, s1, s2, s3, s4, s5, s6, s7⟩ := hs_
       refine (impl_floor_high.calls g cs rs _ _ _ s6 (Below.refl _ _) HH.out).mono ?_
       rintro e w11 ⟨rfl, -, hb, -⟩
       refine ⟨_, rfl, ?_⟩
       refine hK.out _ _ ⟨pw_cell_below hb s0, pw_cell_below hb s1, pw_cell_below hb s2, pw_cell_below hb s3, pw_cell_below hb s4, pw_cell_below hb s5, FloorAt.below s6 hb, below_step s7 hb⟩ (fun hHeld => ?_)
       clear hK K hb s0 s1 s2 s3 s4 s5 s6 s7
       refine norm_ (a' := ?_) ?_ ?_
       rotate_left
       ·show Act.put _ (some 56) _ = _
        simp only [Act.put, List.setIfInBounds_toArray, List.set_cons_zero, List.set_cons_succ, i64_w, i32_w]
        rfl
       refine one_ (i := 3) (N := some 58) #[true, true, true, true, true, false, false, false, false, false, false] rfl rfl (by kernel_rfl) (by decide) (fun K hK => ?_)
       refine goes_ Try.func53 (by kernel_rfl) rfl #[.pointer (some ⟨g, 0, none⟩)] (by rfl) rfl rfl (by (try simp only [List.map_toArray, List.map_cons, List.map_nil]); first | done | rfl) ?_
       have hs_ := hHeld
       obtain ⟨s0, s1, s2, s3, s4, s5, s6, s7⟩ := hs_
       refine (impl_floor_wide.calls g cs rs _ _ _ s6 (Below.refl _ _) HWd.out).mono ?_
       rintro e w12 ⟨rfl, -, hb, -⟩
       refine ⟨_, rfl, ?_⟩
       refine hK.out _ _ ⟨pw_cell_below hb s0, pw_cell_below hb s1, pw_cell_below hb s2, pw_cell_below hb s3, pw_cell_below hb s4, pw_cell_below hb s5, FloorAt.below s6 hb, below_step s7 hb⟩ (fun hHeld => ?_)
       clear hK K hb s0 s1 s2 s3 s4 s5 s6 s7
       refine norm_ (a' := ?_) ?_ ?_
       rotate_left
       ·show Act.put _ (some 58) _ = _
        simp only [Act.put, List.setIfInBounds_toArray, List.set_cons_zero, List.set_cons_succ, i64_w, i32_w]
        rfl
       refine one_ (i := 5) (N := some 60) #[true, true, true, true, true, true, false, false, false, false, false] rfl rfl (by kernel_rfl) (by decide) (fun K hK => ?_)
       refine goes_ Try.func51 (by kernel_rfl) rfl #[.int .i64 (cs.length : Int), .int .i64 (wideOf cs : Int), .func (.func 72) #[] #[.pointer (some ⟨pl, 0, none⟩), .pointer (some ⟨gb, 0, none⟩), .pointer (some ⟨pk, 0, none⟩), .pointer (some ⟨pf, 0, none⟩), .pointer (some ⟨pr, 0, none⟩)]] (by rfl) rfl rfl (by (try simp only [List.map_toArray, List.map_cons, List.map_nil]); first | done | rfl) ?_
       have hs_ := hHeld
       obtain ⟨s0, s1, s2, s3, s4, s5, s6, s7⟩ := hs_
       refine (blank_reads 72 Try.f72 Try.func72 (by kernel_rfl) rfl _ cs.length (wideOf cs) _ _ (split1_read _ pl gb pk pf pr g cs rs room letter k b HK.out s6 HBd.out HBb.out.symm (Or.inl HY.out) HKk.out.1 HKk.out.2 s0 s1 s2 s3 s4 s5) (by have := HK.out.h6; omega) (by have := HK.out.w6; omega)).mono ?_
       rintro e w13 ⟨A13, c13, rfl, hl13, hC13, hb⟩
       have HC13 := Aside0.mk hC13
       refine ⟨_, rfl, ?_⟩
       refine hK.out _ _ ⟨pw_cell_below hb s0, pw_cell_below hb s1, pw_cell_below hb s2, pw_cell_below hb s3, pw_cell_below hb s4, pw_cell_below hb s5, FloorAt.below s6 hb, below_step s7 hb⟩ (fun hHeld => ?_)
       clear hK K hb s0 s1 s2 s3 s4 s5 s6 s7
       refine norm_ (a' := ?_) ?_ ?_
       rotate_left
       ·show Act.put _ (some 60) _ = _
        simp only [Act.put, List.setIfInBounds_toArray, List.set_cons_zero, List.set_cons_succ, i64_w, i32_w]
        rfl
       refine one_ (i := 6) (N := some 61) #[true, true, true, true, true, true, true, false, false, false, false] rfl rfl (by kernel_rfl) (by decide) (fun K hK => ?_)
       refine goes_ Try.func55 (by kernel_rfl) rfl #[.slice A13 (gridOf cs.length (wideOf cs) (splitG cs rs room letter k)).length c13] (by rfl) rfl rfl (by (try simp only [List.map_toArray, List.map_cons, List.map_nil]); first | done | rfl) ?_
       have hs_ := hHeld
       obtain ⟨s0, s1, s2, s3, s4, s5, s6, s7⟩ := hs_
       refine (plan_calls A13 c13 _ _ HC13.out HVal.out).mono ?_
       rintro e w14 ⟨v14, rfl, hr14, hb⟩
       have HO14 := Aside0.mk (Kd.R_lower hr14 s7.size)
       have HB14 := Aside0.mk (below_step s7 hb)
       refine ⟨_, rfl, ?_⟩
       refine hK.out _ _ ⟨pw_cell_below hb s0, pw_cell_below hb s1, pw_cell_below hb s2, pw_cell_below hb s3, pw_cell_below hb s4, pw_cell_below hb s5, FloorAt.below s6 hb, below_step s7 hb⟩ (fun hHeld => ?_)
       clear hK K hb s0 s1 s2 s3 s4 s5 s6 s7
       refine norm_ (a' := ?_) ?_ ?_
       rotate_left
       ·show Act.put _ (some 61) _ = _
        simp only [Act.put, List.setIfInBounds_toArray, List.set_cons_zero, List.set_cons_succ, i64_w, i32_w]
        rfl
       refine pure_ (i := 7) (N := some 62) (v := ?_) (a' := ?_) #[true, true, true, true, true, true, true, true, false, false, false] rfl rfl (by kernel_rfl) (fun _ _ _ h => h) (Or.inl ⟨by rfl, ?_⟩) ?_ ?_
       rotate_left
       ·intro w'
        go_simp
        with_reducible rfl
       rotate_left
       ·simp only [Act.put, List.setIfInBounds_toArray, List.set_cons_zero, List.set_cons_succ, i64_w, i32_w]
        rfl
       refine pure_ (i := 8) (N := some 63) (v := ?_) (a' := ?_) #[true, true, true, true, true, true, true, true, true, false, false] rfl rfl (by kernel_rfl) (fun _ _ _ h => h) (Or.inl ⟨by rfl, ?_⟩) ?_ ?_
       rotate_left
       ·intro w'
        go_simp
        with_reducible rfl
       rotate_left
       ·simp only [Act.put, List.setIfInBounds_toArray, List.set_cons_zero, List.set_cons_succ, i64_w, i32_w]
        rfl
       refine pure_ (i := 9) (N := some 8) (v := ?_) (a' := ?_) #[true, true, true, true, true, true, true, true, true, true, false] rfl rfl (by kernel_rfl) (fun _ _ _ h => h) (Or.inl ⟨by rfl, ?_⟩) ?_ ?_
       rotate_left
       ·intro w'
        go_simp
        with_reducible rfl
       rotate_left
       ·simp only [Act.put, List.setIfInBounds_toArray, List.set_cons_zero, List.set_cons_succ, i64_w, i32_w]
        rfl
       refine pure_ (i := 10) (N := some 9) (v := ?_) (a' := ?_) #[true, true, true, true, true, true, true, true, true, true, true] rfl rfl (by kernel_rfl) (fun _ _ _ h => h) (Or.inl ⟨by rfl, ?_⟩) ?_ ?_
       rotate_left
       ·intro w'
        go_simp
        with_reducible rfl
       rotate_left
       ·simp only [Act.put, List.setIfInBounds_toArray, List.set_cons_zero, List.set_cons_succ, i64_w, i32_w]
        rfl
       refine done_ (by kernel_rfl) ?_
       go_wp2
       go_ret2
       rw [HE.out]
       exact ⟨v14, rfl, HO14.out, HB14.out⟩
    ·have hn : isH letter = false := by
      cases hh : isH letter
      ·rfl
      ·have := HLet.out hh; rw [hy] at this; cases this
     rw [hn] at t1 hre
     rw [hy] at t2 hre
     simp only [Bool.or_true, Bool.and_true, if_true] at hre
     have HRE := Aside0.mk hre
     have HY := Aside0.mk hy
     have HNn := Aside0.mk hn
     clear hre hno hy hn
     go_enter Try.func31, Try.ntmps31
     go_upto_region 4 with (first
     | ((with_reducible refine gate_dst (N := 5) rfl ?_); refine box_event ?hg (N := 5) ?hd (cs := #[.int .i64 room]) (t := 3) ?hr ?_; (case hd => rfl); (case hg => rfl); (case hr => first | (go_simp; done) | (go_simp; rfl)); intro pr hq_ w1 hbox hb; have HB1 := Aside0.mk hb; have h5 : w1.cell? ⟨pr, 0, none⟩ = some (.int .i64 room) := box_cell hbox; clear hb hbox hq_)
     | ((with_reducible refine gate_dst (N := 6) rfl ?_); refine box_event ?hg (N := 6) ?hd (cs := #[.string letter]) (t := 9) ?hr ?_; (case hd => rfl); (case hg => rfl); (case hr => first | (go_simp; done) | (go_simp; rfl)); intro pl hq_ w2 hbox hb; have HB2 := Aside0.mk (below_step HB1.out hb); replace h5 := pw_cell_below hb h5; have h1 : w2.cell? ⟨pl, 0, none⟩ = some (.string letter) := box_cell hbox; clear hb hbox hq_)
     | ((with_reducible refine gate_dst (N := 7) rfl ?_); refine box_event ?hg (N := 7) ?hd (cs := #[.int .i64 k]) (t := 3) ?hr ?_; (case hd => rfl); (case hg => rfl); (case hr => first | (go_simp; done) | (go_simp; rfl)); intro pk hq_ w3 hbox hb; have HB3 := Aside0.mk (below_step HB2.out hb); replace h5 := pw_cell_below hb h5; replace h1 := pw_cell_below hb h1; have h3 : w3.cell? ⟨pk, 0, none⟩ = some (.int .i64 k) := box_cell hbox; clear hb hbox hq_)
     | (go_at_call 49; refine (floorOf_calls A0 c0 l0 _ (Kd.C_below HR.out HB3.out) HC.out HP.out).mono ?_; rw [HF.out]; rintro e w8 ⟨hb8, v8, b8, rfl, rfl, g, rfl, hfl⟩; have HB8 := Aside0.mk (below_step HB3.out hb8); have HFx := Aside0.mk (FloorAt.below hfl (below_alloc (Below.refl _ _) (.cells #[.pointer (some ⟨g, 0, none⟩)] 45))); have HBx := Aside0.mk (below_alloc HB8.out (.cells #[.pointer (some ⟨g, 0, none⟩)] 45)); replace h5 := pw_cell_below (below_alloc (Below.refl _ _) (.cells #[.pointer (some ⟨g, 0, none⟩)] 45)) (pw_cell_below hb8 h5); replace h1 := pw_cell_below (below_alloc (Below.refl _ _) (.cells #[.pointer (some ⟨g, 0, none⟩)] 45)) (pw_cell_below hb8 h1); replace h3 := pw_cell_below (below_alloc (Below.refl _ _) (.cells #[.pointer (some ⟨g, 0, none⟩)] 45)) (pw_cell_below hb8 h3); clear hb8 hfl)
     | (go_at_call 50; refine (impl_floor_has.calls g cs rs room _ _ _ HFx.out (Below.refl _ _) (has_f cs rs room)).mono ?_; rw [HA.out]; rintro e w9 ⟨rfl, -, hb9, -⟩; have HB9 := Aside0.mk (below_step HBx.out hb9); have HF9 := Aside0.mk (HFx.out.below hb9); have h4 : w9.cell? ⟨w8.heap.size, 0, none⟩ = some (.pointer (some ⟨g, 0, none⟩)) := pw_cell_below hb9 ((blk_cell (heap_alloc_new w8 _) 0).trans rfl); replace h5 := pw_cell_below hb9 h5; replace h1 := pw_cell_below hb9 h1; replace h3 := pw_cell_below hb9 h3; clear hb9))
     obtain ⟨Ar, qr, y1, hrc⟩ := HF9.out.rooms
     obtain ⟨adr, er, z0, z1, z2, z3⟩ := at_T73 hrc room (by have := HRm.out; omega) (by have := HRm.out; omega)
     subst er
     have hbe : rd_T73 rs room = rs.getD room.toNat zeroR := rfl
     rw [hbe] at z0 z1 z2 z3
     have hbd := HK.out.bound (rs.getD room.toNat zeroR) (by have := HRm.out; rw [List.getD_eq_getElem?_getD, List.getElem?_eq_getElem (by omega)]; exact List.getElem_mem _)
     generalize hbb : rs.getD room.toNat zeroR = b at *
     have HBb := Aside0.mk hbb
     have HBd := Aside0.mk hbd
     clear hbb hbd hrc hbe
     have HC1 := Aside0.mk h1
     have HC3 := Aside0.mk h3
     have HC4 := Aside0.mk h4
     have HC5 := Aside0.mk h5
     generalize w8.heap.size = pf at *
     obtain ⟨rm0, rm1⟩ := HRm.out
     refine start_ (n := 9) (S := fun w' => w'.cell? ⟨pf, 0, none⟩ = some (.pointer (some ⟨g, 0, none⟩)) ∧ w'.cell? ⟨pr, 0, none⟩ = some (.int .i64 room) ∧ w'.cell? ⟨g, 1, none⟩ = some (.slice (some adr) rs.length qr) ∧ w'.cell? (adr.add (room.toNat * 4)) = some (.int .i64 b.f0) ∧ w'.cell? ⟨(adr.add (room.toNat * 4)).block, (adr.add (room.toNat * 4)).off + 1, none⟩ = some (.int .i64 b.f1) ∧ w'.cell? ⟨(adr.add (room.toNat * 4)).block, (adr.add (room.toNat * 4)).off + 2, none⟩ = some (.int .i64 b.f2) ∧ w'.cell? ⟨(adr.add (room.toNat * 4)).block, (adr.add (room.toNat * 4)).off + 3, none⟩ = some (.int .i64 b.f3)) (ds := [8]) #[false, false, false, false, false, false, false, false, false] (by kernel_rfl) rfl rfl (⟨h4, h5, y1, z0, z1, z2, z3⟩) (fun hHeld => ?_)
     clear h1 h3 h4 h5 y1 z0 z1 z2 z3
     refine take_ (i := 0) (N := some 35) (v := ?_) (a' := ?_) #[true, false, false, false, false, false, false, false, false] rfl rfl (by kernel_rfl) (fun _ _ _ h => h) (Or.inl ⟨by rfl, ?_⟩) hHeld ?_ ?_
     rotate_left
     ·rintro w' ⟨s0, s1, s2, s3, s4, s5, s6⟩
      go_simp
      with_reducible rfl
     rotate_left
     ·simp only [Act.put, List.setIfInBounds_toArray, List.set_cons_zero, List.set_cons_succ, i64_w, i32_w]
      rfl
     refine pure_ (i := 1) (N := some 36) (v := ?_) (a' := ?_) #[true, true, false, false, false, false, false, false, false] rfl rfl (by kernel_rfl) (fun _ _ _ h => h) (Or.inl ⟨by rfl, ?_⟩) ?_ ?_
     rotate_left
     ·intro w'
      go_simp
      with_reducible rfl
     rotate_left
     ·simp only [Act.put, List.setIfInBounds_toArray, List.set_cons_zero, List.set_cons_succ, i64_w, i32_w]
      rfl
     refine pure_ (i := 2) (N := some 37) (v := ?_) (a' := ?_) #[true, true, true, false, false, false, false, false, false] rfl rfl (by kernel_rfl) (fun _ _ _ h => h) (Or.inl ⟨by rfl, ?_⟩) ?_ ?_
     rotate_left
     ·intro w'
      go_simp
      with_reducible rfl
     rotate_left
     ·simp only [Act.put, List.setIfInBounds_toArray, List.set_cons_zero, List.set_cons_succ, i64_w, i32_w]
      rfl
     refine take_ (i := 3) (N := some 38) (v := ?_) (a' := ?_) #[true, true, true, true, false, false, false, false, false] rfl rfl (by kernel_rfl) (fun _ _ _ h => h) (Or.inl ⟨by rfl, ?_⟩) hHeld ?_ ?_
     rotate_left
     ·rintro w' ⟨s0, s1, s2, s3, s4, s5, s6⟩
      go_simp
      with_reducible rfl
     rotate_left
     ·simp only [Act.put, List.setIfInBounds_toArray, List.set_cons_zero, List.set_cons_succ, i64_w, i32_w]
      rfl
     refine take_ (i := 4) (N := some 39) (v := ?_) (a' := ?_) #[true, true, true, true, true, false, false, false, false] rfl rfl (by kernel_rfl) (fun _ _ _ h => h) (Or.inl ⟨by rfl, ?_⟩) hHeld ?_ ?_
     rotate_left
     ·rintro w' ⟨s0, s1, s2, s3, s4, s5, s6⟩
      go_simp
      with_reducible rfl
     rotate_left
     ·simp only [Act.put, List.setIfInBounds_toArray, List.set_cons_zero, List.set_cons_succ, i64_w, i32_w]
      rfl
     refine pure_ (i := 5) (N := some 40) (v := ?_) (a' := ?_) #[true, true, true, true, true, true, false, false, false] rfl rfl (by kernel_rfl) (fun _ _ _ h => h) (Or.inl ⟨by rfl, ?_⟩) ?_ ?_
     rotate_left
     ·intro w'
      go_simp
      with_reducible rfl
     rotate_left
     ·simp only [Act.put, List.setIfInBounds_toArray, List.set_cons_zero, List.set_cons_succ, i64_w, i32_w]
      rfl
     refine take_ (i := 6) (N := some 41) (v := ?_) (a' := ?_) #[true, true, true, true, true, true, true, false, false] rfl rfl (by kernel_rfl) (fun _ _ _ h => h) (Or.inl ⟨by rfl, ?_⟩) hHeld ?_ ?_
     rotate_left
     ·rintro w' ⟨s0, s1, s2, s3, s4, s5, s6⟩
      go_simp
      with_reducible rfl
     rotate_left
     ·simp only [Act.put, List.setIfInBounds_toArray, List.set_cons_zero, List.set_cons_succ, i64_w, i32_w]
      rfl
     refine one_ (i := 7) (N := some 12) #[true, true, true, true, true, true, true, true, false] rfl rfl (by kernel_rfl) (by decide) (fun K hK => ?_)
     refine event_step (by rfl) (v := .pointer (some ⟨w9.drew.heap.size, 0, none⟩)) (w1 := w9.drew.alloc (.cells #[.int .i64 0, .int .i64 0, .int .i64 0, .int .i64 0] 73)) (by first | (go_simp; done) | (go_simp; rfl)) ?_
     refine hK.out _ _ ⟨pw_cell_below (below_alloc (Below.refl _ _) _) hHeld.1, pw_cell_below (below_alloc (Below.refl _ _) _) hHeld.2.1, pw_cell_below (below_alloc (Below.refl _ _) _) hHeld.2.2.1, pw_cell_below (below_alloc (Below.refl _ _) _) hHeld.2.2.2.1, pw_cell_below (below_alloc (Below.refl _ _) _) hHeld.2.2.2.2.1, pw_cell_below (below_alloc (Below.refl _ _) _) hHeld.2.2.2.2.2.1, pw_cell_below (below_alloc (Below.refl _ _) _) hHeld.2.2.2.2.2.2⟩ (fun hHeld => ?_)
     clear hK K
     refine norm_ (a' := ?_) ?_ ?_
     rotate_left
     ·show Act.put _ (some 12) _ = _
      simp only [Act.put, List.setIfInBounds_toArray, List.set_cons_zero, List.set_cons_succ, i64_w, i32_w]
      rfl
     refine last_ (i := 8) (N := none) #[true, true, true, true, true, true, true, true, true] rfl rfl (by kernel_rfl) (by decide) (fun K hK => ?_)
     refine skip_step (by rfl) rfl (w1 := w9.drew.alloc (.cells #[.int .i64 b.f0, .int .i64 b.f1, .int .i64 b.f2, .int .i64 b.f3] 73)) (by first | (go_simp; done) | (go_simp; rfl)) ?_
     refine hK.out _ _ ?_
     clear hK K hHeld
     refine done_ (by kernel_rfl) ?_
     have hbx := heap_alloc_new w9.drew (.cells #[.int .i64 b.f0, .int .i64 b.f1, .int .i64 b.f2, .int .i64 b.f3] 73)
     have hbl := below_alloc (show Below w9.heap.size w9 w9.drew from ⟨rfl, rfl, rfl, Nat.le_refl _, fun _ _ => rfl⟩) (.cells #[.int .i64 b.f0, .int .i64 b.f1, .int .i64 b.f2, .int .i64 b.f3] 73)
     generalize w9.drew.heap.size = gb at *
     generalize w9.drew.alloc (.cells #[.int .i64 b.f0, .int .i64 b.f1, .int .i64 b.f2, .int .i64 b.f3] 73) = w5 at *
     have h1 := pw_cell_below hbl HC1.out
     have h3 := pw_cell_below hbl HC3.out
     have h4 := pw_cell_below hbl HC4.out
     have h5 := pw_cell_below hbl HC5.out
     have HF5 := Aside0.mk (HF9.out.below hbl)
     have HB5 := Aside0.mk (below_step HB9.out hbl)
     have y0 : w5.cell? ⟨gb, 0, none⟩ = some (.int .i64 b.f0) := (blk_cell hbx 0).trans rfl
     have y1 : w5.cell? ⟨gb, 1, none⟩ = some (.int .i64 b.f1) := (blk_cell hbx 1).trans rfl
     have y2 : w5.cell? ⟨gb, 2, none⟩ = some (.int .i64 b.f2) := (blk_cell hbx 2).trans rfl
     have y3 : w5.cell? ⟨gb, 3, none⟩ = some (.int .i64 b.f3) := (blk_cell hbx 3).trans rfl
     clear hbx hbl
     have HE0 := Aside0.mk HRE.out
     by_cases k1 : k < 1
     ·have d1 : decide (k < 1) = true := decide_eq_true k1
      have e : res = ([], false) := by rw [HRE.out, if_neg (by omega)]
      subst e
      clear k1
      go_wp2
      go_ret2
      exact ⟨.slice none 0 0, rfl, Kd.R_nil _ _ _ _ _, HB5.out⟩
     ·have d1 : decide (k < 1) = false := decide_eq_false k1
      by_cases k2 : b.f3 ≤ k
      ·have d2 : decide (b.f3 ≤ k) = true := decide_eq_true k2
       have e : res = ([], false) := by rw [HRE.out, if_neg (by simp only [Bool.false_eq_true, if_false]; omega)]
       subst e
       clear k1 k2
       go_wp2
       go_ret2
       exact ⟨.slice none 0 0, rfl, Kd.R_nil _ _ _ _ _, HB5.out⟩
      ·have d2 : decide (b.f3 ≤ k) = false := decide_eq_false k2
       have e : res = planF (gridOf cs.length (wideOf cs) (splitG cs rs room letter k)) := by rw [HRE.out, if_pos (by simp only [Bool.false_eq_true, if_false]; constructor <;> omega)]
       have HE := Aside0.mk e
       have HKk := Aside0.mk (show 1 ≤ k ∧ k ≤ 6 from by obtain ⟨q0, q1, q2, q3, q4, q5⟩ := HBd.out; have := HK.out.h6; have := HK.out.w6; constructor <;> omega)
       clear k1 k2 e
       go_wp2
       have HH := Aside0.mk (high_f cs rs)
       have HWd := Aside0.mk (wide_f HK.out)
       have HVal := Aside0.mk (grid_vals (g := splitG cs rs room letter k) (hi := cs.length) (wi := wideOf cs) fun r c hr hc => by
        have h1 := valAt_range HK.out r c hr hc
        have h2 := HK.out.many
        unfold splitG
        split <;> omega)
       have hdr : Below w.heap.size w w5.drew := ⟨HB5.out.os, HB5.out.tape, HB5.out.output, HB5.out.size, HB5.out.block⟩
       refine start_ (n := 11) (S := fun w' => (w'.cell? ⟨pl, 0, none⟩ = some (.string letter)) ∧ (w'.cell? ⟨gb, 0, none⟩ = some (.int .i64 b.f0)) ∧ (w'.cell? ⟨gb, 1, none⟩ = some (.int .i64 b.f1)) ∧ (w'.cell? ⟨pk, 0, none⟩ = some (.int .i64 k)) ∧ (w'.cell? ⟨pf, 0, none⟩ = some (.pointer (some ⟨g, 0, none⟩))) ∧ (w'.cell? ⟨pr, 0, none⟩ = some (.int .i64 room)) ∧ (FloorAt w' g cs rs) ∧ (Below w.heap.size w w')) (ds := []) #[false, false, false, false, false, false, false, false, false, false, false] (by kernel_rfl) rfl rfl (⟨h1, y0, y1, h3, h4, h5, HF5.out, hdr⟩) (fun hHeld => ?_)
       clear h1 h3 h4 h5 y0 y1 y2 y3 hdr
       refine take_ (i := 0) (N := some 55) (v := ?_) (a' := ?_) #[true, false, false, false, false, false, false, false, false, false, false] rfl rfl (by kernel_rfl) (fun _ _ _ h => h) (Or.inl ⟨by rfl, ?_⟩) hHeld ?_ ?_
       rotate_left
       ·rintro w' ⟨s0, s1, s2, s3, s4, s5, s6, s7⟩
        go_simp
        with_reducible rfl
       rotate_left
       ·simp only [Act.put, List.setIfInBounds_toArray, List.set_cons_zero, List.set_cons_succ, i64_w, i32_w]
        rfl
       refine take_ (i := 2) (N := some 57) (v := ?_) (a' := ?_) #[true, false, true, false, false, false, false, false, false, false, false] rfl rfl (by kernel_rfl) (fun _ _ _ h => h) (Or.inl ⟨by rfl, ?_⟩) hHeld ?_ ?_
       rotate_left
       ·rintro w' ⟨s0, s1, s2, s3, s4, s5, s6, s7⟩
        go_simp
        with_reducible rfl
       rotate_left
       ·simp only [Act.put, List.setIfInBounds_toArray, List.set_cons_zero, List.set_cons_succ, i64_w, i32_w]
        rfl
       refine pure_ (i := 4) (N := some 59) (v := ?_) (a' := ?_) #[true, false, true, false, true, false, false, false, false, false, false] rfl rfl (by kernel_rfl) (fun _ _ _ h => h) (Or.inl ⟨by rfl, ?_⟩) ?_ ?_
       rotate_left
       ·intro w'
        go_simp
        with_reducible rfl
       rotate_left
       ·simp only [Act.put, List.setIfInBounds_toArray, List.set_cons_zero, List.set_cons_succ, i64_w, i32_w]
        rfl
       refine one_ (i := 1) (N := some 56) #[true, true, true, false, true, false, false, false, false, false, false] rfl rfl (by kernel_rfl) (by decide) (fun K hK => ?_)
       refine goes_ Try.func52 (by kernel_rfl) rfl #[.pointer (some ⟨g, 0, none⟩)] (by rfl) rfl rfl (by (try simp only [List.map_toArray, List.map_cons, List.map_nil]); first | done | rfl) ?_
       have hs_ := hHeld
       obtain ⟨s0, s1, s2, s3, s4, s5, s6, s7⟩ := hs_
       refine (impl_floor_high.calls g cs rs _ _ _ s6 (Below.refl _ _) HH.out).mono ?_
       rintro e w11 ⟨rfl, -, hb, -⟩
       refine ⟨_, rfl, ?_⟩
       refine hK.out _ _ ⟨pw_cell_below hb s0, pw_cell_below hb s1, pw_cell_below hb s2, pw_cell_below hb s3, pw_cell_below hb s4, pw_cell_below hb s5, FloorAt.below s6 hb, below_step s7 hb⟩ (fun hHeld => ?_)
       clear hK K hb s0 s1 s2 s3 s4 s5 s6 s7
       refine norm_ (a' := ?_) ?_ ?_
       rotate_left
       ·show Act.put _ (some 56) _ = _
        simp only [Act.put, List.setIfInBounds_toArray, List.set_cons_zero, List.set_cons_succ, i64_w, i32_w]
        rfl
       refine one_ (i := 3) (N := some 58) #[true, true, true, true, true, false, false, false, false, false, false] rfl rfl (by kernel_rfl) (by decide) (fun K hK => ?_)
       refine goes_ Try.func53 (by kernel_rfl) rfl #[.pointer (some ⟨g, 0, none⟩)] (by rfl) rfl rfl (by (try simp only [List.map_toArray, List.map_cons, List.map_nil]); first | done | rfl) ?_
       have hs_ := hHeld
       obtain ⟨s0, s1, s2, s3, s4, s5, s6, s7⟩ := hs_
       refine (impl_floor_wide.calls g cs rs _ _ _ s6 (Below.refl _ _) HWd.out).mono ?_
       rintro e w12 ⟨rfl, -, hb, -⟩
       refine ⟨_, rfl, ?_⟩
       refine hK.out _ _ ⟨pw_cell_below hb s0, pw_cell_below hb s1, pw_cell_below hb s2, pw_cell_below hb s3, pw_cell_below hb s4, pw_cell_below hb s5, FloorAt.below s6 hb, below_step s7 hb⟩ (fun hHeld => ?_)
       clear hK K hb s0 s1 s2 s3 s4 s5 s6 s7
       refine norm_ (a' := ?_) ?_ ?_
       rotate_left
       ·show Act.put _ (some 58) _ = _
        simp only [Act.put, List.setIfInBounds_toArray, List.set_cons_zero, List.set_cons_succ, i64_w, i32_w]
        rfl
       refine one_ (i := 5) (N := some 60) #[true, true, true, true, true, true, false, false, false, false, false] rfl rfl (by kernel_rfl) (by decide) (fun K hK => ?_)
       refine goes_ Try.func51 (by kernel_rfl) rfl #[.int .i64 (cs.length : Int), .int .i64 (wideOf cs : Int), .func (.func 72) #[] #[.pointer (some ⟨pl, 0, none⟩), .pointer (some ⟨gb, 0, none⟩), .pointer (some ⟨pk, 0, none⟩), .pointer (some ⟨pf, 0, none⟩), .pointer (some ⟨pr, 0, none⟩)]] (by rfl) rfl rfl (by (try simp only [List.map_toArray, List.map_cons, List.map_nil]); first | done | rfl) ?_
       have hs_ := hHeld
       obtain ⟨s0, s1, s2, s3, s4, s5, s6, s7⟩ := hs_
       refine (blank_reads 72 Try.f72 Try.func72 (by kernel_rfl) rfl _ cs.length (wideOf cs) _ _ (split1_read _ pl gb pk pf pr g cs rs room letter k b HK.out s6 HBd.out HBb.out.symm (Or.inr HY.out) HKk.out.1 HKk.out.2 s0 s1 s2 s3 s4 s5) (by have := HK.out.h6; omega) (by have := HK.out.w6; omega)).mono ?_
       rintro e w13 ⟨A13, c13, rfl, hl13, hC13, hb⟩
       have HC13 := Aside0.mk hC13
       refine ⟨_, rfl, ?_⟩
       refine hK.out _ _ ⟨pw_cell_below hb s0, pw_cell_below hb s1, pw_cell_below hb s2, pw_cell_below hb s3, pw_cell_below hb s4, pw_cell_below hb s5, FloorAt.below s6 hb, below_step s7 hb⟩ (fun hHeld => ?_)
       clear hK K hb s0 s1 s2 s3 s4 s5 s6 s7
       refine norm_ (a' := ?_) ?_ ?_
       rotate_left
       ·show Act.put _ (some 60) _ = _
        simp only [Act.put, List.setIfInBounds_toArray, List.set_cons_zero, List.set_cons_succ, i64_w, i32_w]
        rfl
       refine one_ (i := 6) (N := some 61) #[true, true, true, true, true, true, true, false, false, false, false] rfl rfl (by kernel_rfl) (by decide) (fun K hK => ?_)
       refine goes_ Try.func55 (by kernel_rfl) rfl #[.slice A13 (gridOf cs.length (wideOf cs) (splitG cs rs room letter k)).length c13] (by rfl) rfl rfl (by (try simp only [List.map_toArray, List.map_cons, List.map_nil]); first | done | rfl) ?_
       have hs_ := hHeld
       obtain ⟨s0, s1, s2, s3, s4, s5, s6, s7⟩ := hs_
       refine (plan_calls A13 c13 _ _ HC13.out HVal.out).mono ?_
       rintro e w14 ⟨v14, rfl, hr14, hb⟩
       have HO14 := Aside0.mk (Kd.R_lower hr14 s7.size)
       have HB14 := Aside0.mk (below_step s7 hb)
       refine ⟨_, rfl, ?_⟩
       refine hK.out _ _ ⟨pw_cell_below hb s0, pw_cell_below hb s1, pw_cell_below hb s2, pw_cell_below hb s3, pw_cell_below hb s4, pw_cell_below hb s5, FloorAt.below s6 hb, below_step s7 hb⟩ (fun hHeld => ?_)
       clear hK K hb s0 s1 s2 s3 s4 s5 s6 s7
       refine norm_ (a' := ?_) ?_ ?_
       rotate_left
       ·show Act.put _ (some 61) _ = _
        simp only [Act.put, List.setIfInBounds_toArray, List.set_cons_zero, List.set_cons_succ, i64_w, i32_w]
        rfl
       refine pure_ (i := 7) (N := some 62) (v := ?_) (a' := ?_) #[true, true, true, true, true, true, true, true, false, false, false] rfl rfl (by kernel_rfl) (fun _ _ _ h => h) (Or.inl ⟨by rfl, ?_⟩) ?_ ?_
       rotate_left
       ·intro w'
        go_simp
        with_reducible rfl
       rotate_left
       ·simp only [Act.put, List.setIfInBounds_toArray, List.set_cons_zero, List.set_cons_succ, i64_w, i32_w]
        rfl
       refine pure_ (i := 8) (N := some 63) (v := ?_) (a' := ?_) #[true, true, true, true, true, true, true, true, true, false, false] rfl rfl (by kernel_rfl) (fun _ _ _ h => h) (Or.inl ⟨by rfl, ?_⟩) ?_ ?_
       rotate_left
       ·intro w'
        go_simp
        with_reducible rfl
       rotate_left
       ·simp only [Act.put, List.setIfInBounds_toArray, List.set_cons_zero, List.set_cons_succ, i64_w, i32_w]
        rfl
       refine pure_ (i := 9) (N := some 8) (v := ?_) (a' := ?_) #[true, true, true, true, true, true, true, true, true, true, false] rfl rfl (by kernel_rfl) (fun _ _ _ h => h) (Or.inl ⟨by rfl, ?_⟩) ?_ ?_
       rotate_left
       ·intro w'
        go_simp
        with_reducible rfl
       rotate_left
       ·simp only [Act.put, List.setIfInBounds_toArray, List.set_cons_zero, List.set_cons_succ, i64_w, i32_w]
        rfl
       refine pure_ (i := 10) (N := some 9) (v := ?_) (a' := ?_) #[true, true, true, true, true, true, true, true, true, true, true] rfl rfl (by kernel_rfl) (fun _ _ _ h => h) (Or.inl ⟨by rfl, ?_⟩) ?_ ?_
       rotate_left
       ·intro w'
        go_simp
        with_reducible rfl
       rotate_left
       ·simp only [Act.put, List.setIfInBounds_toArray, List.set_cons_zero, List.set_cons_succ, i64_w, i32_w]
        rfl
       refine done_ (by kernel_rfl) ?_
       go_wp2
       go_ret2
       rw [HE.out]
       exact ⟨v14, rfl, HO14.out, HB14.out⟩
end Go.Proofs.Ytjaolkfjpnpglaa.Hd
namespace Go.Proofs.Ytjaolkfjpnpglaa.Hd
open Go.RowKit Go.Proofs.YtjaolkfjpnpglaaW.PrintWords Go.Proofs.YtjaolkfjpnpglaaW.PrintLast Go.Proofs.YtjaolkfjpnpglaaW.PrintMore Go.Proofs.Ytjaolkfjpnpglaa.PB
set_option linter.unusedVariables false
set_option linter.unusedSimpArgs false
def Evs {α : Type} (g : Nat → Option α) (r : α) : Prop := ∃ K, ∀ k, K ≤ k → g k = some r
section
variable {α β : Type} {g h : Nat → Option α} {r : α}
theorem Evs.const (r : α) : Evs (fun _ => some r) r := ⟨0, fun _ _ => rfl⟩
theorem Evs.step (e : ∀ k, g (k + 1) = h k) (hh : Evs h r) : Evs g r := by
 obtain ⟨K, hK⟩ := hh
 refine ⟨K + 1, fun k hk => ?_⟩
 obtain ⟨j, rfl⟩ : ∃ j, k = j + 1 := ⟨k - 1, by omega⟩
 rw [e]
 exact hK j (by omega)
theorem Evs.congr (e : ∀ k, g k = h k) (hh : Evs h r) : Evs g r := by
 obtain ⟨K, hK⟩ := hh
 exact ⟨K, fun k hk => by rw [e]; exact hK k hk⟩
theorem Evs.bind {g : Nat → Option β} {F : Nat → β → Option α} {b : β} (hg : Evs g b) (hF : Evs (fun k => F k b) r) : Evs (fun k => (g k).bind (F k)) r := by
 obtain ⟨K, hK⟩ := hg
 obtain ⟨L, hL⟩ := hF
 refine ⟨K + L, fun k hk => ?_⟩
 show (g k).bind (F k) = some r
 rw [hK k (by omega)]
 exact hL k (by omega)
theorem Evs.bindS {x : Option β} {F : Nat → β → Option α} {b : β} (hg : x = some b) (hF : Evs (fun k => F k b) r) : Evs (fun k => x.bind (F k)) r := by
 subst hg
 exact hF
end
theorem rdOf_at {p : List ByteArray} {i : Nat} {s : ByteArray} (h : p[i]? = some s) : rdOf ByteArray.empty p (i : Int) = s := by
 unfold rdOf; rw [Int.toNat_natCast, List.getD_eq_getElem?_getD, h]; rfl
theorem bt_get {s : ByteArray} {j : Nat} {x : Int} (h : (bytesOf s)[j]? = some x) : bt s (j : Int) = x := by
 rw [← bytesOf_get, List.getD_eq_getElem?_getD, h]; rfl
theorem l6In_f (a b c : Int) : spec_l6In.f a b c = some (decide (b ≤ a) && decide (a ≤ c)) := by
 unfold spec_l6In.f
 by_cases h : b ≤ a
 ·rw [if_pos h]; simp [h]
 ·rw [if_neg h]; simp [h]
theorem wrap_succ {i : Nat} (h : i ≤ 1048576) : wrap64 ((i : Int) + 1) = ((i + 1 : Nat) : Int) := by rw [wrap64_small (by omega) (by omega)]; omega
def gridOk (p : List ByteArray) : Bool := shapeOk (numsOf p) && p.all okText
def rowOk (n : Nat) (s : ByteArray) : Bool := decide (s.size = n) && (decide (1 ≤ s.size) && decide (s.size ≤ 6)) && okText s
theorem grid_l1 (p : List ByteArray) (i : Nat) (s : ByteArray) (hi : p[i]? = some s) (hs : s.size ≤ 1048576) (r : Bool) (hb : i ≤ 1048576) (hnext : okText s = true → Evs (fun k => spec_l1Grid.l0 k p ((i + 1 : Nat) : Int)) r) (hbad : okText s = false → r = false) :
  ∀ m j, j + m = s.size → ((bytesOf s).take j).all okLetter = true → Evs (fun k => spec_l1Grid.l1 k p (i : Int) (j : Int)) r := by
 have hil := (List.getElem?_eq_some_iff.1 hi).1
 have hlen := bytesOf_length s
 intro m
 induction m with
 | zero =>
  intro j hj hall
  have hok : okText s = true := by
   unfold okText
   rw [show j = (bytesOf s).length by omega, List.take_length] at hall
   exact hall
  refine Evs.step (h := fun k => spec_l1Grid.l0 k p ((i + 1 : Nat) : Int)) (fun k => ?_) (hnext hok)
  unfold spec_l1Grid.l1
  rw [if_pos (by omega), if_pos (by omega), rdOf_at hi, if_neg (by omega), wrap_succ hb]
 | succ m ih =>
  intro j hj hall
  obtain ⟨x, hx⟩ : ∃ x, (bytesOf s)[j]? = some x := ⟨_, List.getElem?_eq_getElem (by omega)⟩
  have htake : (bytesOf s).take (j + 1) = (bytesOf s).take j ++ [x] := by rw [List.take_add_one, hx]; rfl
  by_cases hlo : x < 97
  ·have hno : okText s = false := by
    unfold okText
    rw [List.all_eq_false]
    exact ⟨x, List.mem_of_getElem? hx, by simp [okLetter, hlo]⟩
   rw [hbad hno]
   refine Evs.step (h := fun _ => some false) (fun k => ?_) (Evs.const _)
   unfold spec_l1Grid.l1
   rw [if_pos (by omega), if_pos (by omega), rdOf_at hi, if_pos (by omega), if_pos (by omega), bt_get hx, if_pos hlo]
  ·by_cases hhi : 122 < x
   ·have hno : okText s = false := by
     unfold okText
     rw [List.all_eq_false]
     exact ⟨x, List.mem_of_getElem? hx, by simp [okLetter, hhi]⟩
    rw [hbad hno]
    refine Evs.step (h := fun _ => some false) (fun k => ?_) (Evs.const _)
    unfold spec_l1Grid.l1
    rw [if_pos (by omega), if_pos (by omega), rdOf_at hi, if_pos (by omega), if_pos (by omega), bt_get hx, if_neg hlo, if_pos hhi]
   ·refine Evs.step (h := fun k => spec_l1Grid.l1 k p (i : Int) ((j + 1 : Nat) : Int)) (fun k => ?_) (ih (j + 1) (by omega) (by rw [htake, List.all_append, hall]; simp [okLetter, hlo, hhi]))
    conv => lhs; unfold spec_l1Grid.l1
    rw [if_pos (by omega), if_pos (by omega), rdOf_at hi, if_pos (by omega), if_pos (by omega), bt_get hx, if_neg hlo, if_neg (by omega), wrap_succ (by omega)]
theorem grid_l0 (p : List ByteArray) (hp : smallP p) : ∀ m i, i + m = p.length → Evs (fun k => spec_l1Grid.l0 k p (i : Int)) ((p.drop i).all (rowOk (p.getD 0 ByteArray.empty).size) && (decide (1 ≤ p.length) && decide (p.length ≤ 6))) := by
 have hpl := hp.1
 intro m
 induction m with
 | zero =>
  intro i hi
  refine Evs.step (h := fun _ => some ((p.drop i).all (rowOk (p.getD 0 ByteArray.empty).size) && (decide (1 ≤ p.length) && decide (p.length ≤ 6)))) (fun k => ?_) (Evs.const _)
  unfold spec_l1Grid.l0
  rw [if_neg (by omega), l6In_f, List.drop_eq_nil_of_le (by omega)]
  simp only [Option.bind_some, List.all_nil, Bool.true_and]
  congr 2
  ·congr 1; exact propext ⟨fun h => by omega, fun h => by omega⟩
  ·congr 1; exact propext ⟨fun h => by omega, fun h => by omega⟩
 | succ m ih =>
  intro i hi
  obtain ⟨s, hs⟩ : ∃ s, p[i]? = some s := ⟨_, List.getElem?_eq_getElem (by omega)⟩
  have hsz := hp.2 s (List.mem_of_getElem? hs)
  have hdrop : p.drop i = s :: p.drop (i + 1) := by
   rw [List.drop_eq_getElem_cons (by omega)]
   congr 1
   rw [List.getElem?_eq_getElem (by omega)] at hs
   exact Option.some.inj hs
  have h0 : rdOf ByteArray.empty p 0 = p.getD 0 ByteArray.empty := rfl
  rw [hdrop, List.all_cons]
  generalize hn : (p.getD 0 ByteArray.empty).size = n at *
  by_cases heq : s.size = n
  ·by_cases h16 : 1 ≤ s.size ∧ s.size ≤ 6
   ·have hr : rowOk n s = okText s := by simp [rowOk, heq, h16.1, h16.2]; omega
    rw [hr]
    refine Evs.step (h := fun k => spec_l1Grid.j1 k p (i : Int) false) (fun k => ?_) ?_
    ·unfold spec_l1Grid.l0
     rw [if_pos (by omega), if_pos (by omega), if_pos (by omega), rdOf_at hs, h0, hn, if_pos (by omega), l6In_f]
     simp only [Option.bind_some]
     rw [decide_eq_true (by omega : (1 : Int) ≤ s.size), decide_eq_true (by omega : (s.size : Int) ≤ 6)]
     rfl
    ·refine Evs.step (h := fun k => spec_l1Grid.l1 k p (i : Int) ((0 : Nat) : Int)) (fun k => ?_) (grid_l1 p i s hs hsz _ (by omega) (fun hok => ?_) (fun hno => ?_) s.size 0 (by omega) (by simp))
     ·unfold spec_l1Grid.j1
      rw [if_neg (by simp)]
      rfl
     ·rw [hok, Bool.true_and]
      exact ih (i + 1) (by omega)
     ·rw [hno, Bool.false_and, Bool.false_and]
   ·have hr : rowOk n s = false := by
     unfold rowOk
     by_cases h1 : 1 ≤ s.size
     ·have : ¬ s.size ≤ 6 := fun h => h16 ⟨h1, h⟩
      simp [this]
     ·simp [h1]
    rw [hr, Bool.false_and, Bool.false_and]
    refine Evs.step (h := fun k => spec_l1Grid.j1 k p (i : Int) true) (fun k => ?_) (Evs.step (h := fun _ => some false) (fun k => ?_) (Evs.const _))
    ·unfold spec_l1Grid.l0
     rw [if_pos (by omega), if_pos (by omega), if_pos (by omega), rdOf_at hs, h0, hn, if_pos (by omega), l6In_f]
     simp only [Option.bind_some]
     congr 1
     by_cases h1 : 1 ≤ s.size
     ·have : ¬ (s.size : Int) ≤ 6 := by omega
      simp [this]
     ·have : ¬ (1 : Int) ≤ s.size := by omega
      simp [this]
    ·unfold spec_l1Grid.j1
     rw [if_pos rfl]
  ·have hr : rowOk n s = false := by simp [rowOk, heq]
   rw [hr, Bool.false_and, Bool.false_and]
   refine Evs.step (h := fun k => spec_l1Grid.j1 k p (i : Int) true) (fun k => ?_) (Evs.step (h := fun _ => some false) (fun k => ?_) (Evs.const _))
   ·unfold spec_l1Grid.l0
    rw [if_pos (by omega), if_pos (by omega), if_pos (by omega), rdOf_at hs, h0, hn, if_neg (by omega)]
   ·unfold spec_l1Grid.j1
    rw [if_pos rfl]
theorem wideOf_numsOf (p : List ByteArray) : wideOf (numsOf p) = (p.getD 0 ByteArray.empty).size := by
 unfold wideOf numsOf
 cases p with
 | nil => rfl
 | cons a r => simp [bytesOf_length]
theorem gridOk_eq (p : List ByteArray) : ((p.drop 0).all (rowOk (p.getD 0 ByteArray.empty).size) && (decide (1 ≤ p.length) && decide (p.length ≤ 6))) = gridOk p := by
 rw [Bool.eq_iff_iff]
 unfold gridOk
 rw [List.drop_zero, Bool.and_eq_true, Bool.and_eq_true, Bool.and_eq_true, shapeOk_iff, wideOf_numsOf, List.all_eq_true, List.all_eq_true]
 have hl : (numsOf p).length = p.length := by simp [numsOf]
 rw [hl]
 simp only [decide_eq_true_eq]
 constructor
 ·rintro ⟨h1, h2, h3⟩
  have h0 := h1 (p.getD 0 ByteArray.empty) (by rw [List.getD_eq_getElem?_getD, List.getElem?_eq_getElem (by omega)]; exact List.getElem_mem _)
  simp only [rowOk, Bool.and_eq_true, decide_eq_true_eq] at h0
  refine ⟨⟨h2, h3, h0.1.2.1, h0.1.2.2, fun r hr => ?_⟩, fun s hs => ?_⟩
  ·unfold numsOf at hr
   simp at hr
   obtain ⟨s, hs, rfl⟩ := hr
   have := h1 s hs
   simp only [rowOk, Bool.and_eq_true, decide_eq_true_eq] at this
   rw [bytesOf_length]
   exact this.1.1
  ·have := h1 s hs
   simp only [rowOk, Bool.and_eq_true, decide_eq_true_eq] at this
   exact this.2
 ·rintro ⟨⟨h2, h3, h4, h5, h6⟩, h7⟩
  refine ⟨fun s hs => ?_, h2, h3⟩
  have := h6 (bytesOf s) (by unfold numsOf; simp; exact ⟨s, hs, rfl⟩)
  rw [bytesOf_length] at this
  simp only [rowOk, Bool.and_eq_true, decide_eq_true_eq]
  exact ⟨⟨this, by omega, by omega⟩, h7 s hs⟩
theorem l1Grid_ev (p : List ByteArray) (hp : smallP p) : Evs (fun k => spec_l1Grid.f k p) (gridOk p) := by
 rw [← gridOk_eq]
 exact grid_l0 p hp p.length 0 (by omega)
end Go.Proofs.Ytjaolkfjpnpglaa.Hd
namespace Go.Proofs.Ytjaolkfjpnpglaa.Hd
open Go.RowKit Go.Proofs.YtjaolkfjpnpglaaW.PrintWords Go.Proofs.YtjaolkfjpnpglaaW.PrintLast Go.Proofs.YtjaolkfjpnpglaaW.PrintMore Go.Proofs.Ytjaolkfjpnpglaa.PB
set_option linter.unusedVariables false
set_option linter.unusedSimpArgs false
def pushL (o : List Int) (v : Int) : List Int := if v ∈ o then o else o ++ [v]
def ordL (xs : List Int) (o : List Int) : List Int := xs.foldl pushL o
theorem pushL_prefix (o : List Int) (v : Int) : o <+: pushL o v := by
 unfold pushL
 split
 ·exact List.prefix_refl _
 ·exact List.prefix_append _ _
theorem pushL_mem (o : List Int) (v : Int) : v ∈ pushL o v := by
 unfold pushL
 split
 ·assumption
 ·simp
theorem ordL_prefix (xs : List Int) : ∀ o, o <+: ordL xs o := by
 induction xs with
 | nil => exact fun o => List.prefix_refl _
 | cons x r ih => exact fun o => (pushL_prefix o x).trans (ih _)
theorem ordL_append (xs ys : List Int) (o : List Int) : ordL (xs ++ ys) o = ordL ys (ordL xs o) := by simp [ordL, List.foldl_append]
theorem ordL_mem (xs : List Int) : ∀ o, ∀ x ∈ xs, x ∈ ordL xs o := by
 induction xs with
 | nil => intro o x hx; cases hx
 | cons y r ih =>
  intro o x hx
  rcases List.mem_cons.1 hx with rfl | hx
  ·exact (ordL_prefix r (pushL o x)).subset (pushL_mem o x)
  ·exact ih _ x hx
theorem ordL_sub (xs : List Int) : ∀ o, ∀ x ∈ ordL xs o, x ∈ o ∨ x ∈ xs := by
 induction xs with
 | nil => exact fun o x hx => .inl hx
 | cons y r ih =>
  intro o x hx
  rcases ih _ x hx with h | h
  ·unfold pushL at h
   split at h
   ·exact .inl h
   ·rcases List.mem_append.1 h with h | h
    ·exact .inl h
    ·simp at h; subst h; exact .inr List.mem_cons_self
  ·exact .inr (List.mem_cons_of_mem _ h)
theorem ordL_nodup (xs : List Int) : ∀ o, o.Nodup → (ordL xs o).Nodup := by
 induction xs with
 | nil => exact fun o h => h
 | cons y r ih =>
  intro o h
  refine ih _ ?_
  unfold pushL
  split
  ·exact h
  ·rename_i hn
   rw [List.nodup_append]
   exact ⟨h, by simp, fun a ha b hb => by simp at hb; subst hb; exact fun e => hn (e ▸ ha)⟩
theorem ordL_length (xs : List Int) : ∀ o, (ordL xs o).length ≤ o.length + xs.length := by
 induction xs with
 | nil => exact fun o => by simp [ordL]
 | cons y r ih =>
  intro o
  have h1 := ih (pushL o y)
  have h2 : (pushL o y).length ≤ o.length + 1 := by
   unfold pushL
   split
   ·omega
   ·simp
  show (ordL r (pushL o y)).length ≤ _
  simp only [List.length_cons]
  omega
theorem idxOf_prefix {o L : List Int} (h : o <+: L) {x : Int} (hx : x ∈ o) : L.idxOf x = o.idxOf x := by
 obtain ⟨t, rfl⟩ := h
 rw [List.idxOf_append, if_pos hx]
theorem idxOf_push {o L : List Int} {x : Int} (h : pushL o x <+: L) : L.idxOf x = o.idxOf x := by
 rw [idxOf_prefix h (pushL_mem o x)]
 unfold pushL
 split
 ·rfl
 ·rename_i hn
  rw [List.idxOf_append, if_neg hn, List.idxOf_eq_length hn]
  simp
def canonL (L : List Int) (rows : List (List Int)) : List (List Int) := rows.map fun r => r.map fun x => (L.idxOf x : Int)
def ordAll (rows : List (List Int)) : List Int := ordL rows.flatten []
def canon (rows : List (List Int)) : List (List Int) := canonL (ordAll rows) rows
def namesOf (p : List ByteArray) : List ByteArray := textOf (canon (numsOf p))
def numOf (L : List Int) (x : Int) : Int := 97 + (L.idxOf x : Int)
theorem letter_wrap {a : Nat} (h : a ≤ 100) : (wrap64 (97 + (a : Int))) % 256 = 97 + (a : Int) := by
 rw [wrap64_small (by omega) (by omega)]
 omega
theorem names_l2 (p : List ByteArray) (i j : Nat) (s : ByteArray) (v : Int) (hi : p[i]? = some s) (hv : (bytesOf s)[j]? = some v) (o : List Int) (x4 : List ByteArray) (x6 : List Int) (ho : o.length ≤ 100) (h6 : x6.length ≤ 1048576) (hj : j ≤ 1048576) (r : List ByteArray)
  (hnext : Evs (fun k => spec_l1Names.l1 k p (pushL o v) x4 (i : Int) (x6 ++ [97 + (o.idxOf v : Int)]) ((j + 1 : Nat) : Int)) r) :
  ∀ m a, a + m = o.length → v ∉ o.take a → Evs (fun k => spec_l1Names.l2 k p o x4 (i : Int) x6 (j : Int) (a : Int)) r := by
 have hil := (List.getElem?_eq_some_iff.1 hi).1
 have hjl := (List.getElem?_eq_some_iff.1 hv).1
 rw [bytesOf_length] at hjl
 intro m
 induction m with
 | zero =>
  intro a ha hno
  rw [List.take_of_length_le (by omega)] at hno
  have hidx := List.idxOf_eq_length hno
  have hpush : pushL o v = o ++ [v] := by unfold pushL; rw [if_neg hno]
  rw [hpush, hidx] at hnext
  refine Evs.step (h := fun k => spec_l1Names.l1 k p (o ++ [v]) x4 (i : Int) (x6 ++ [97 + (o.length : Int)]) ((j + 1 : Nat) : Int)) (fun k => ?_) hnext
  conv => lhs; unfold spec_l1Names.l2
  rw [if_neg (by omega), if_pos (by omega), if_pos (by omega), if_pos (by omega), if_pos (by omega), rdOf_at hi, if_pos (by omega), if_pos (by omega), if_pos (by omega), bt_get hv, letter_wrap (by omega), wrap_succ (by omega), show a = o.length by omega]
 | succ m ih =>
  intro a ha hno
  obtain ⟨x, hx⟩ : ∃ x, o[a]? = some x := ⟨_, List.getElem?_eq_getElem (by omega)⟩
  have hrd : rd o (a : Int) = x := by unfold rd; rw [Int.toNat_natCast, List.getD_eq_getElem?_getD, hx]; rfl
  by_cases he : x = v
  ·subst he
   have hmem : x ∈ o := List.mem_of_getElem? hx
   have hpush : pushL o x = o := by unfold pushL; rw [if_pos hmem]
   have hidx : o.idxOf x = a := by
    have h1 : o = o.take a ++ x :: o.drop (a + 1) := by
     rw [List.getElem?_eq_getElem (by omega)] at hx
     have := Option.some.inj hx
     rw [← this, ← List.drop_eq_getElem_cons, List.take_append_drop]
    rw [h1, List.idxOf_append, if_neg hno, List.idxOf_cons_self]
    simp
    omega
   rw [hpush, hidx] at hnext
   refine Evs.step (h := fun k => spec_l1Names.l1 k p o x4 (i : Int) (x6 ++ [97 + (a : Int)]) ((j + 1 : Nat) : Int)) (fun k => ?_) hnext
   conv => lhs; unfold spec_l1Names.l2
   rw [if_pos (by omega), if_pos (by omega), if_pos (by omega), if_pos (by omega), if_pos (by omega), rdOf_at hi, if_pos (by omega), hrd, bt_get hv, if_pos rfl, if_neg (by omega), if_pos (by omega), letter_wrap (by omega), wrap_succ (by omega)]
  ·refine Evs.step (h := fun k => spec_l1Names.l2 k p o x4 (i : Int) x6 (j : Int) ((a + 1 : Nat) : Int)) (fun k => ?_) (ih (a + 1) (by omega) (by
    rw [List.take_add_one, hx]
    simp only [Option.toList_some, List.mem_append, List.mem_singleton, not_or]
    exact ⟨hno, fun e => he e.symm⟩))
   conv => lhs; unfold spec_l1Names.l2
   rw [if_pos (by omega), if_pos (by omega), if_pos (by omega), if_pos (by omega), if_pos (by omega), rdOf_at hi, if_pos (by omega), hrd, bt_get hv, if_neg he, wrap_succ (by omega)]
theorem names_l1 (p : List ByteArray) (i : Nat) (s : ByteArray) (hi : p[i]? = some s) (hib : i ≤ 1048576) (hs : s.size ≤ 1048576) (L : List Int) (hL : L.length ≤ 100) (x4 : List ByteArray) (h4 : x4.length ≤ 1048576) (r : List ByteArray) :
  ∀ m j o x6, j + m = s.size → x6.length = j → ordL ((bytesOf s).drop j) o <+: L → Evs (fun k => spec_l1Names.l0 k p (ordL ((bytesOf s).drop j) o) (x4 ++ [strOfNums (x6 ++ ((bytesOf s).drop j).map (numOf L))]) ((i + 1 : Nat) : Int)) r →
   Evs (fun k => spec_l1Names.l1 k p o x4 (i : Int) x6 (j : Int)) r := by
 have hil := (List.getElem?_eq_some_iff.1 hi).1
 have hlen := bytesOf_length s
 intro m
 induction m with
 | zero =>
  intro j o x6 hj h6 hpre hnext
  rw [List.drop_eq_nil_of_le (by omega)] at hnext
  simp only [List.map_nil, List.append_nil] at hnext
  refine Evs.step (h := fun k => spec_l1Names.l0 k p o (x4 ++ [strOfNums x6]) ((i + 1 : Nat) : Int)) (fun k => ?_) hnext
  conv => lhs; unfold spec_l1Names.l1
  rw [if_pos (by omega), if_pos (by omega), rdOf_at hi, if_neg (by omega), if_pos (by omega), wrap_succ hib]
 | succ m ih =>
  intro j o x6 hj h6 hpre hnext
  obtain ⟨v, hv⟩ : ∃ v, (bytesOf s)[j]? = some v := ⟨_, List.getElem?_eq_getElem (by omega)⟩
  have hdrop : (bytesOf s).drop j = v :: (bytesOf s).drop (j + 1) := by
   rw [List.drop_eq_getElem_cons (by omega)]
   congr 1
   rw [List.getElem?_eq_getElem (by omega)] at hv
   exact Option.some.inj hv
  rw [hdrop] at hpre hnext
  have hpre2 : ordL ((bytesOf s).drop (j + 1)) (pushL o v) <+: L := hpre
  have hpl := (ordL_prefix ((bytesOf s).drop (j + 1)) (pushL o v)).trans hpre2
  have hol := ((pushL_prefix o v).trans hpl).length_le
  have hidx := idxOf_push hpl
  refine Evs.step (h := fun k => spec_l1Names.l2 k p o x4 (i : Int) x6 (j : Int) ((0 : Nat) : Int)) (fun k => ?_) (names_l2 p i j s v hi hv o x4 x6 (by omega) (by omega) (by omega) r (ih (j + 1) (pushL o v) _ (by omega) (by simp [h6]) hpre2 ?_) o.length 0 (by omega) (by simp))
  ·conv => lhs; unfold spec_l1Names.l1
   rw [if_pos (by omega), if_pos (by omega), rdOf_at hi, if_pos (by omega)]
   rfl
  ·rw [List.append_assoc]
   simp only [List.map_cons] at hnext
   unfold numOf at hnext ⊢
   rw [hidx] at hnext
   exact hnext
theorem names_l0 (p : List ByteArray) (hp : smallP p) (L : List Int) (hL : L.length ≤ 100) : ∀ m i o x4, i + m = p.length → x4.length = i → ordL ((numsOf p).drop i).flatten o = L →
  Evs (fun k => spec_l1Names.l0 k p o x4 (i : Int)) (x4 ++ (p.drop i).map fun s => strOfNums ((bytesOf s).map (numOf L))) := by
 have hpl := hp.1
 intro m
 induction m with
 | zero =>
  intro i o x4 hi h4 ho
  rw [List.drop_eq_nil_of_le (by omega), List.map_nil, List.append_nil]
  refine Evs.step (h := fun _ => some x4) (fun k => ?_) (Evs.const _)
  conv => lhs; unfold spec_l1Names.l0
  rw [if_neg (by omega)]
 | succ m ih =>
  intro i o x4 hi h4 ho
  obtain ⟨s, hs⟩ : ∃ s, p[i]? = some s := ⟨_, List.getElem?_eq_getElem (by omega)⟩
  have hsz := hp.2 s (List.mem_of_getElem? hs)
  have hdrop : p.drop i = s :: p.drop (i + 1) := by
   rw [List.drop_eq_getElem_cons (by omega)]
   congr 1
   rw [List.getElem?_eq_getElem (by omega)] at hs
   exact Option.some.inj hs
  have hdrop2 : (numsOf p).drop i = bytesOf s :: (numsOf p).drop (i + 1) := by
   unfold numsOf
   rw [← List.map_drop, hdrop, List.map_cons, List.map_drop]
  rw [hdrop2, List.flatten_cons, ordL_append] at ho
  have hpre : ordL (bytesOf s) o <+: L := by rw [← ho]; exact ordL_prefix _ _
  rw [hdrop, List.map_cons]
  have hnext := ih (i + 1) (ordL (bytesOf s) o) (x4 ++ [strOfNums ((bytesOf s).map (numOf L))]) (by omega) (by simp [h4]) ho
  rw [List.append_assoc] at hnext
  refine Evs.step (h := fun k => spec_l1Names.l1 k p o x4 (i : Int) [] ((0 : Nat) : Int)) (fun k => ?_) (names_l1 p i s hs (by omega) hsz L hL x4 (by omega) _ s.size 0 o [] (by omega) rfl hpre hnext)
  conv => lhs; unfold spec_l1Names.l0
  rw [if_pos (by omega)]
  rfl
theorem strOfNums_row (L : List Int) (row : List Int) : strOfNums (row.map (numOf L)) = rowText (row.map fun x => (L.idxOf x : Int)) := by
 unfold strOfNums rowText rowBytes
 congr 2
 rw [List.map_map, List.map_map]
 rfl
theorem l1Names_ev (p : List ByteArray) (hp : smallP p) (hL : (ordAll (numsOf p)).length ≤ 100) : Evs (fun k => spec_l1Names.f k p) (namesOf p) := by
 have := names_l0 p hp (ordAll (numsOf p)) hL p.length 0 [] [] (by omega) rfl rfl
 rw [List.nil_append, List.drop_zero] at this
 have e : namesOf p = p.map fun s => strOfNums ((bytesOf s).map (numOf (ordAll (numsOf p)))) := by
  unfold namesOf textOf canon canonL
  generalize ordAll (numsOf p) = L
  unfold numsOf
  rw [List.map_map, List.map_map]
  congr 1
  funext s
  exact (strOfNums_row L (bytesOf s)).symm
 rw [e]
 exact this
theorem flatten_length_le (rows : List (List Int)) (w : Nat) (h : ∀ r ∈ rows, r.length = w) : rows.flatten.length = rows.length * w := by
 induction rows with
 | nil => simp
 | cons a r ih =>
  rw [List.flatten_cons, List.length_append, ih (fun x hx => h x (List.mem_cons_of_mem _ hx)), h a List.mem_cons_self, List.length_cons, Nat.succ_mul]
  omega
theorem shape_order {rows : List (List Int)} (h : shapeOk rows = true) : (ordAll rows).length ≤ 36 := by
 obtain ⟨h1, h2, h3, h4, h5⟩ := (shapeOk_iff _).1 h
 have := ordL_length rows.flatten []
 rw [flatten_length_le rows _ h5] at this
 have h6 := Nat.mul_le_mul h2 h4
 unfold ordAll
 simp at this
 omega
end Go.Proofs.Ytjaolkfjpnpglaa.Hd
namespace Go.Proofs.Ytjaolkfjpnpglaa.Hd
open Go.RowKit Go.Proofs.YtjaolkfjpnpglaaW.PrintWords Go.Proofs.YtjaolkfjpnpglaaW.PrintLast Go.Proofs.YtjaolkfjpnpglaaW.PrintMore Go.Proofs.Ytjaolkfjpnpglaa.PB
set_option linter.unusedVariables false
set_option linter.unusedSimpArgs false
theorem nodup_inj {l : List Int} (h : l.Nodup) {i j : Nat} (hi : i < l.length) (hj : j < l.length) (e : l[i] = l[j]) : i = j := by
 have hp := List.pairwise_iff_getElem.1 h
 rcases Nat.lt_trichotomy i j with h1 | h1 | h1
 ·exact absurd e (hp i j hi hj h1)
 ·exact h1
 ·exact absurd e.symm (hp j i hj hi h1)
def Rect (wi : Nat) (rows : List (List Int)) : Prop := ∀ r ∈ rows, r.length = wi
theorem valAt_get {rows : List (List Int)} {wi r c : Nat} (h : Rect wi rows) (hr : r < rows.length) (hc : c < wi) : ∃ row, rows[r]? = some row ∧ row[c]? = some (valAt rows r c) := by
 refine ⟨rows[r], List.getElem?_eq_getElem hr, ?_⟩
 have hw := h _ (List.getElem_mem hr)
 unfold valAt
 rw [List.getD_eq_getElem?_getD, List.getD_eq_getElem?_getD, List.getElem?_eq_getElem hr]
 simp only [Option.getD_some]
 rw [List.getElem?_eq_getElem (by omega)]
 rfl
theorem gridOf_get {hi wi : Nat} {g : Nat → Nat → Int} {r : Nat} (hr : r < hi) : (gridOf hi wi g)[r]? = some ((List.range wi).map (g r)) := by
 unfold gridOf
 rw [List.getElem?_map, List.getElem?_range hr]
 rfl
theorem valAt_gridOf {hi wi : Nat} {g : Nat → Nat → Int} {r c : Nat} (hr : r < hi) (hc : c < wi) : valAt (gridOf hi wi g) r c = g r c := by
 unfold valAt
 rw [List.getD_eq_getElem?_getD, List.getD_eq_getElem?_getD, gridOf_get hr]
 simp only [Option.getD_some]
 rw [List.getElem?_map, List.getElem?_range hc]
 rfl
theorem gridOf_rect (hi wi : Nat) (g : Nat → Nat → Int) : Rect wi (gridOf hi wi g) := fun r hr => gridOf_row r hr
theorem gridOf_congr {hi wi : Nat} {g g' : Nat → Nat → Int} (h : ∀ r c, r < hi → c < wi → g r c = g' r c) : gridOf hi wi g = gridOf hi wi g' := by
 unfold gridOf
 apply List.map_congr_left
 intro r hr
 apply List.map_congr_left
 intro c hc
 exact h r c (List.mem_range.1 hr) (List.mem_range.1 hc)
theorem rect_map {rows : List (List Int)} {wi : Nat} (h : Rect wi rows) (f : Int → Int) : rows.map (fun r => r.map f) = gridOf rows.length wi (fun r c => f (valAt rows r c)) := by
 apply List.ext_getElem?
 intro r
 by_cases hr : r < rows.length
 ·rw [gridOf_get hr, List.getElem?_map, List.getElem?_eq_getElem hr]
  simp only [Option.map_some]
  congr 1
  have hw := h _ (List.getElem_mem hr)
  apply List.ext_getElem?
  intro c
  rw [List.getElem?_map, List.getElem?_map]
  by_cases hc : c < wi
  ·obtain ⟨row, h1, h2⟩ := valAt_get h hr hc
   rw [List.getElem?_eq_getElem hr] at h1
   injection h1 with h1
   rw [h1, h2, List.getElem?_range hc]
   rfl
  ·rw [List.getElem?_eq_none (by omega), List.getElem?_eq_none (by simp; omega)]
   rfl
 ·rw [List.getElem?_eq_none (by simp; omega), List.getElem?_eq_none (by rw [gridOf_length]; omega)]
theorem flatten_get {wi : Nat} : ∀ (rows : List (List Int)), Rect wi rows → ∀ n, n < rows.length * wi → rows.flatten[n]? = some (valAt rows (n / wi) (n % wi))
 | [], _, n, h => by simp at h
 | a :: r, hR, n, h => by
  have hwi : 0 < wi := by
   rcases Nat.eq_zero_or_pos wi with h0 | h0
   ·subst h0; simp at h
   ·exact h0
  have ha := hR a List.mem_cons_self
  rw [List.flatten_cons]
  by_cases hn : n < wi
  ·rw [List.getElem?_append_left (by omega), Nat.div_eq_of_lt hn, Nat.mod_eq_of_lt hn]
   unfold valAt
   simp only [List.getD_cons_zero]
   rw [List.getD_eq_getElem?_getD, List.getElem?_eq_getElem (by omega)]
   rfl
  ·rw [List.getElem?_append_right (by omega), ha, flatten_get r (fun x hx => hR x (List.mem_cons_of_mem _ hx)) (n - wi) (by
    rw [List.length_cons, Nat.succ_mul] at h
    omega)]
   congr 1
   obtain ⟨m, rfl⟩ : ∃ m, n = m + wi := ⟨n - wi, by omega⟩
   rw [Nat.add_sub_cancel, Nat.add_div_right _ hwi, Nat.add_mod_right]
   unfold valAt
   simp only [List.getD_cons_succ]
theorem stAt_ord {rows : List (List Int)} {wi : Nat} (h : Rect wi rows) : ∀ n, n ≤ rows.length * wi → (stAt rows wi n).1 = ordL (rows.flatten.take n) []
 | 0, _ => by simp [stAt, ordL]
 | n + 1, hn => by
  rw [List.take_add_one, flatten_get rows h n (by omega)]
  simp only [Option.toList_some]
  rw [ordL_append, ← stAt_ord h n (by omega)]
  show (stepS (stAt rows wi n) (n / wi) (n % wi) (valAt rows (n / wi) (n % wi))).1 = pushL (stAt rows wi n).1 (valAt rows (n / wi) (n % wi))
  unfold stepS pushL
  split <;> rfl
theorem stAt_all {rows : List (List Int)} {wi : Nat} (h : Rect wi rows) : (stAt rows wi (rows.length * wi)).1 = ordAll rows := by
 rw [stAt_ord h _ (Nat.le_refl _), List.take_of_length_le (by rw [flatten_length_le rows wi h]; exact Nat.le_refl _)]
 rfl
theorem numAt_idx {rows : List (List Int)} {wi r c : Nat} (h : Rect wi rows) (hr : r < rows.length) (hc : c < wi) : numAt rows wi r c = ((ordAll rows).idxOf (valAt rows r c) : Int) := by
 unfold numAt
 have hle : r * wi + c + 1 ≤ rows.length * wi := by
  have : (r + 1) * wi ≤ rows.length * wi := Nat.mul_le_mul_right _ hr
  rw [Nat.succ_mul] at this
  omega
 have hp := stAt_prefix rows wi (r * wi + c + 1) (rows.length * wi - (r * wi + c + 1))
 rw [show r * wi + c + 1 + (rows.length * wi - (r * wi + c + 1)) = rows.length * wi by omega, stAt_all h] at hp
 rw [idxOf_prefix hp (stAt_mem rows wi r c hc)]
theorem shape_rect {rows : List (List Int)} (h : shapeOk rows = true) : Rect (wideOf rows) rows := ((shapeOk_iff _).1 h).2.2.2.2
theorem canon_grid {rows : List (List Int)} {wi : Nat} (h : Rect wi rows) : canon rows = gridOf rows.length wi (fun r c => ((ordAll rows).idxOf (valAt rows r c) : Int)) := rect_map h _
theorem cellsOf_canon {rows : List (List Int)} (h : shapeOk rows = true) : cellsOf rows = canon rows := by
 rw [canon_grid (shape_rect h)]
 exact gridOf_congr fun r c hr hc => numAt_idx (shape_rect h) hr hc
structure BoxN (rows : List (List Int)) (wi n : Nat) (x : Int) (b : Rc) : Prop where
 ins : ∀ m, m < n → valAt rows (m / wi) (m % wi) = x → b.f0 ≤ (m / wi : Nat) ∧ ((m / wi : Nat) : Int) < b.f0 + b.f2 ∧ b.f1 ≤ (m % wi : Nat) ∧ ((m % wi : Nat) : Int) < b.f1 + b.f3
 top : ∃ m, m < n ∧ valAt rows (m / wi) (m % wi) = x ∧ ((m / wi : Nat) : Int) = b.f0
 low : ∃ m, m < n ∧ valAt rows (m / wi) (m % wi) = x ∧ ((m / wi : Nat) : Int) + 1 = b.f0 + b.f2
 left : ∃ m, m < n ∧ valAt rows (m / wi) (m % wi) = x ∧ ((m % wi : Nat) : Int) = b.f1
 right : ∃ m, m < n ∧ valAt rows (m / wi) (m % wi) = x ∧ ((m % wi : Nat) : Int) + 1 = b.f1 + b.f3
theorem BoxN.keep {rows : List (List Int)} {wi n : Nat} {x : Int} {b : Rc} (h : BoxN rows wi n x b) (hx : valAt rows (n / wi) (n % wi) ≠ x) : BoxN rows wi (n + 1) x b := by
 refine ⟨fun m hm hv => ?_, ?_, ?_, ?_, ?_⟩
 ·rcases Nat.lt_or_eq_of_le (Nat.lt_succ_iff.1 hm) with h1 | h1
  ·exact h.ins m h1 hv
  ·subst h1; exact absurd hv hx
 ·obtain ⟨m, h1, h2⟩ := h.top; exact ⟨m, by omega, h2⟩
 ·obtain ⟨m, h1, h2⟩ := h.low; exact ⟨m, by omega, h2⟩
 ·obtain ⟨m, h1, h2⟩ := h.left; exact ⟨m, by omega, h2⟩
 ·obtain ⟨m, h1, h2⟩ := h.right; exact ⟨m, by omega, h2⟩
theorem BoxN.both {rows : List (List Int)} {wi n : Nat} {x : Int} {b : Rc} (h : BoxN rows wi n x b) (hx : valAt rows (n / wi) (n % wi) = x) : BoxN rows wi (n + 1) x (bothR b (oneR (n / wi) (n % wi))) := by
 refine ⟨fun m hm hv => ?_, ?_, ?_, ?_, ?_⟩
 ·simp only [bothR, oneR]
  rcases Nat.lt_or_eq_of_le (Nat.lt_succ_iff.1 hm) with h1 | h1
  ·have := h.ins m h1 hv
   omega
  ·subst h1; omega
 ·obtain ⟨m, h1, h2, h3⟩ := h.top
  simp only [bothR, oneR]
  by_cases hc : b.f0 ≤ ((n / wi : Nat) : Int)
  ·exact ⟨m, by omega, h2, by omega⟩
  ·exact ⟨n, by omega, hx, by omega⟩
 ·obtain ⟨m, h1, h2, h3⟩ := h.low
  simp only [bothR, oneR]
  by_cases hc : ((n / wi : Nat) : Int) + 1 ≤ b.f0 + b.f2
  ·exact ⟨m, by omega, h2, by omega⟩
  ·exact ⟨n, by omega, hx, by omega⟩
 ·obtain ⟨m, h1, h2, h3⟩ := h.left
  simp only [bothR, oneR]
  by_cases hc : b.f1 ≤ ((n % wi : Nat) : Int)
  ·exact ⟨m, by omega, h2, by omega⟩
  ·exact ⟨n, by omega, hx, by omega⟩
 ·obtain ⟨m, h1, h2, h3⟩ := h.right
  simp only [bothR, oneR]
  by_cases hc : ((n % wi : Nat) : Int) + 1 ≤ b.f1 + b.f3
  ·exact ⟨m, by omega, h2, by omega⟩
  ·exact ⟨n, by omega, hx, by omega⟩
theorem BoxN.fresh {rows : List (List Int)} {wi n : Nat} {x : Int} (h : ∀ m, m < n → valAt rows (m / wi) (m % wi) ≠ x) (hx : valAt rows (n / wi) (n % wi) = x) : BoxN rows wi (n + 1) x (bothR (oneR (n / wi) (n % wi)) (oneR (n / wi) (n % wi))) := by
 refine ⟨fun m hm hv => ?_, ⟨n, by omega, hx, ?_⟩, ⟨n, by omega, hx, ?_⟩, ⟨n, by omega, hx, ?_⟩, ⟨n, by omega, hx, ?_⟩⟩
 ·simp only [bothR, oneR]
  rcases Nat.lt_or_eq_of_le (Nat.lt_succ_iff.1 hm) with h1 | h1
  ·exact absurd hv (h m h1)
  ·subst h1; omega
 all_goals
  simp only [bothR, oneR]
  omega
theorem stAt_seen (rows : List (List Int)) (wi : Nat) : ∀ n m, m < n → valAt rows (m / wi) (m % wi) ∈ (stAt rows wi n).1
 | 0, m, h => by omega
 | n + 1, m, h => by
  rcases Nat.lt_or_eq_of_le (Nat.lt_succ_iff.1 h) with h1 | h1
  ·exact (stepS_prefix (stAt rows wi n) (n / wi) (n % wi) _).subset (stAt_seen rows wi n m h1)
  ·subst h1
   exact stepS_mem (stAt rows wi m) _ _ _
theorem stAt_len (rows : List (List Int)) (wi : Nat) : ∀ n, (stAt rows wi n).1.length = (stAt rows wi n).2.length ∧ (stAt rows wi n).1.Nodup
 | 0 => by simp [stAt]
 | n + 1 => by
  obtain ⟨h1, h2⟩ := stAt_len rows wi n
  simp only [stAt, stepS]
  split
  ·exact ⟨by simpa using h1, h2⟩
  ·rename_i hx
   refine ⟨by simp [h1], ?_⟩
   rw [List.nodup_append]
   exact ⟨h2, by simp, fun a ha b hb => by simp at hb; subst hb; exact fun e => hx (e ▸ ha)⟩
theorem stAt_box (rows : List (List Int)) (wi : Nat) : ∀ (n i : Nat) (x : Int) (b : Rc), (stAt rows wi n).1[i]? = some x → (stAt rows wi n).2[i]? = some b → BoxN rows wi n x b
 | 0, i, x, b, h, _ => by simp [stAt] at h
 | n + 1, i, x, b, h1, h2 => by
  obtain ⟨hlen, hnd⟩ := stAt_len rows wi n
  simp only [stAt] at h1 h2
  generalize hv : valAt rows (n / wi) (n % wi) = v at h1 h2
  by_cases hmem : v ∈ (stAt rows wi n).1
  ·rw [stepS, if_pos hmem] at h1 h2
   simp only at h1 h2
   have hk := List.idxOf_lt_length_of_mem hmem
   by_cases hik : (stAt rows wi n).1.idxOf v = i
   ·have hxv : x = v := by
     rw [← hik, List.getElem?_eq_getElem hk, List.getElem_idxOf] at h1
     exact (Option.some.inj h1).symm
    subst hxv
    rw [hik, List.getElem?_set_self (by omega)] at h2
    have h2' := Option.some.inj h2
    rw [← h2']
    refine BoxN.both ?_ hv
    refine stAt_box rows wi n i x _ h1 ?_
    rw [List.getD_eq_getElem?_getD, List.getElem?_eq_getElem (by omega)]
    rfl
   ·rw [List.getElem?_set_ne (fun e => hik e)] at h2
    refine (stAt_box rows wi n i x b h1 h2).keep ?_
    rw [hv]
    rintro rfl
    refine hik ?_
    have hil := (List.getElem?_eq_some_iff.1 h1).1
    have e1 : (stAt rows wi n).1[i] = v := by
     rw [List.getElem?_eq_getElem hil] at h1
     exact Option.some.inj h1
    have e2 : (stAt rows wi n).1[(stAt rows wi n).1.idxOf v] = v := List.getElem_idxOf hk
    exact nodup_inj hnd hk hil (e2.trans e1.symm)
  ·rw [stepS, if_neg hmem] at h1 h2
   simp only at h1 h2
   by_cases hi : i < (stAt rows wi n).1.length
   ·rw [List.getElem?_append_left hi] at h1
    rw [List.getElem?_append_left (by omega)] at h2
    refine (stAt_box rows wi n i x b h1 h2).keep ?_
    rw [hv]
    rintro rfl
    exact hmem (List.mem_of_getElem? h1)
   ·have hil := (List.getElem?_eq_some_iff.1 h1).1
    simp at hil
    obtain rfl : i = (stAt rows wi n).1.length := by omega
    rw [List.getElem?_concat_length] at h1
    rw [hlen, List.getElem?_concat_length] at h2
    have e1 := Option.some.inj h1
    have e2 := Option.some.inj h2
    subst e1 e2
    exact BoxN.fresh (fun m hm e => hmem (by rw [← e]; exact stAt_seen rows wi n m hm)) hv
end Go.Proofs.Ytjaolkfjpnpglaa.Hd
namespace Go.Proofs.Ytjaolkfjpnpglaa.Hd
open Go.RowKit Go.Proofs.YtjaolkfjpnpglaaW.PrintWords Go.Proofs.YtjaolkfjpnpglaaW.PrintLast Go.Proofs.YtjaolkfjpnpglaaW.PrintMore Go.Proofs.Ytjaolkfjpnpglaa.PB
set_option linter.unusedVariables false
set_option linter.unusedSimpArgs false
def cellN (rows : List (List Int)) (wi m : Nat) : Int := valAt rows (m / wi) (m % wi) - 97
def countN (rows : List (List Int)) (wi : Nat) (x : Int) : Nat → Int
 | 0 => 0
 | n + 1 => if cellN rows wi n = x then countN rows wi x n + 1 else countN rows wi x n
def maxN (rows : List (List Int)) (wi : Nat) : Nat → Int
 | 0 => 0
 | n + 1 => max (maxN rows wi n) (cellN rows wi n + 1)
def roomN (rows : List (List Int)) (wi : Nat) (x : Int) (t l : Int) : Nat → Int × Int × Int × Int
 | 0 => (t, l, -1, -1)
 | n + 1 => if cellN rows wi n = x then (min (roomN rows wi x t l n).1 (n / wi : Nat), min (roomN rows wi x t l n).2.1 (n % wi : Nat), max (roomN rows wi x t l n).2.2.1 (n / wi : Nat), max (roomN rows wi x t l n).2.2.2 (n % wi : Nat)) else roomN rows wi x t l n
structure Small (p : List ByteArray) (wi : Nat) : Prop where
 high : p.length ≤ 6
 wide : wi ≤ 6
 row : ∀ s ∈ p, s.size = wi
theorem gridOk_small {p : List ByteArray} (h : gridOk p = true) : Small p (wideOf (numsOf p)) := by
 unfold gridOk at h
 rw [Bool.and_eq_true] at h
 obtain ⟨h1, h2, h3, h4, h5⟩ := (shapeOk_iff _).1 h.1
 have hl : (numsOf p).length = p.length := by simp [numsOf]
 exact ⟨by omega, h4, fun s hs => by
  have := h5 (bytesOf s) (by unfold numsOf; simp; exact ⟨s, hs, rfl⟩)
  rw [bytesOf_length] at this
  exact this⟩
theorem Small.rect {p : List ByteArray} {wi : Nat} (h : Small p wi) : Rect wi (numsOf p) := by
 intro r hr
 unfold numsOf at hr
 simp at hr
 obtain ⟨s, hs, rfl⟩ := hr
 rw [bytesOf_length]
 exact h.row s hs
theorem Small.at {p : List ByteArray} {wi : Nat} (h : Small p wi) {i j : Nat} (hi : i < p.length) (hj : j < wi) : ∃ s, p[i]? = some s ∧ s.size = wi ∧ bt s (j : Int) = cellN (numsOf p) wi (i * wi + j) + 97 ∧ 0 ≤ bt s (j : Int) ∧ bt s (j : Int) ≤ 255 := by
 obtain ⟨s, hs⟩ : ∃ s, p[i]? = some s := ⟨_, List.getElem?_eq_getElem hi⟩
 have hsz := h.row s (List.mem_of_getElem? hs)
 obtain ⟨x, hx⟩ : ∃ x, (bytesOf s)[j]? = some x := ⟨_, List.getElem?_eq_getElem (by rw [bytesOf_length]; omega)⟩
 have hv : valAt (numsOf p) i j = x := by
  unfold valAt numsOf
  rw [List.getD_eq_getElem?_getD, List.getD_eq_getElem?_getD, List.getElem?_map, hs]
  simp only [Option.map_some, Option.getD_some]
  rw [hx]
  rfl
 have hr := bytesOf_range s x (List.mem_of_getElem? hx)
 obtain ⟨d1, d2⟩ := divmod_of (r := i) hj
 refine ⟨s, hs, hsz, ?_, ?_, ?_⟩
 ·rw [bt_get hx]; unfold cellN; rw [d1, d2, hv]; omega
 ·rw [bt_get hx]; exact hr.1
 ·rw [bt_get hx]; exact hr.2
theorem Small.row_at {p : List ByteArray} {wi : Nat} (h : Small p wi) {i : Nat} (hi : i < p.length) : ∃ s, p[i]? = some s ∧ s.size = wi := by
 obtain ⟨s, hs⟩ : ∃ s, p[i]? = some s := ⟨_, List.getElem?_eq_getElem hi⟩
 exact ⟨s, hs, h.row s (List.mem_of_getElem? hs)⟩
theorem countN_le (rows : List (List Int)) (wi : Nat) (x : Int) : ∀ n, 0 ≤ countN rows wi x n ∧ countN rows wi x n ≤ n
 | 0 => by simp [countN]
 | n + 1 => by
  have := countN_le rows wi x n
  simp only [countN]
  split <;> omega
theorem cells_l1 (p : List ByteArray) (wi : Nat) (h : Small p wi) (x : Int) (i : Nat) (hi : i < p.length) (r : Int) (hnext : Evs (fun k => spec_l1Cells.l0 k p x (countN (numsOf p) wi x ((i + 1) * wi)) ((i + 1 : Nat) : Int)) r) :
  ∀ m j, j + m = wi → Evs (fun k => spec_l1Cells.l1 k p x (countN (numsOf p) wi x (i * wi + j)) (i : Int) (j : Int)) r := by
 have h6 := h.high
 have w6 := h.wide
 intro m
 induction m with
 | zero =>
  intro j hj
  obtain ⟨s, hs, hsz⟩ := h.row_at hi
  rw [show i * wi + j = (i + 1) * wi by rw [Nat.succ_mul]; omega]
  refine Evs.step (h := fun k => spec_l1Cells.l0 k p x (countN (numsOf p) wi x ((i + 1) * wi)) ((i + 1 : Nat) : Int)) (fun k => ?_) hnext
  conv => lhs; unfold spec_l1Cells.l1
  rw [if_pos (by omega), if_pos (by omega), rdOf_at hs, if_neg (by omega), wrap_succ (by omega)]
 | succ m ih =>
  intro j hj
  obtain ⟨s, hs, hsz, hb, hb0, hb1⟩ := h.at hi (show j < wi by omega)
  have hc := countN_le (numsOf p) wi x (i * wi + j)
  have hle : i * wi + j ≤ 36 + 6 := by
   have := Nat.mul_le_mul (show i ≤ 6 by omega) w6
   omega
  have hnx := ih (j + 1) (by omega)
  have hsucc : countN (numsOf p) wi x (i * wi + (j + 1)) = if cellN (numsOf p) wi (i * wi + j) = x then countN (numsOf p) wi x (i * wi + j) + 1 else countN (numsOf p) wi x (i * wi + j) := rfl
  rw [hsucc] at hnx
  refine Evs.step (h := fun k => spec_l1Cells.l1 k p x (if cellN (numsOf p) wi (i * wi + j) = x then countN (numsOf p) wi x (i * wi + j) + 1 else countN (numsOf p) wi x (i * wi + j)) (i : Int) ((j + 1 : Nat) : Int)) (fun k => ?_) hnx
  conv => lhs; unfold spec_l1Cells.l1
  rw [if_pos (by omega), if_pos (by omega), rdOf_at hs, if_pos (by omega), if_pos (by omega), wrap64_small (x := bt s (j : Int)) (by omega) (by omega), wrap64_small (x := bt s (j : Int) - 97) (by omega) (by omega), show bt s (j : Int) - 97 = cellN (numsOf p) wi (i * wi + j) by omega, wrap_succ (by omega)]
  by_cases hx : cellN (numsOf p) wi (i * wi + j) = x
  ·rw [if_pos hx, if_pos hx, wrap64_small (by omega) (by omega)]
  ·rw [if_neg hx, if_neg hx]
theorem cells_l0 (p : List ByteArray) (wi : Nat) (h : Small p wi) (x : Int) : ∀ m i, i + m = p.length → Evs (fun k => spec_l1Cells.l0 k p x (countN (numsOf p) wi x (i * wi)) (i : Int)) (countN (numsOf p) wi x (p.length * wi)) := by
 have h6 := h.high
 intro m
 induction m with
 | zero =>
  intro i hi
  obtain rfl : i = p.length := by omega
  refine Evs.step (h := fun _ => some (countN (numsOf p) wi x (p.length * wi))) (fun k => ?_) (Evs.const _)
  conv => lhs; unfold spec_l1Cells.l0
  rw [if_neg (by omega)]
 | succ m ih =>
  intro i hi
  refine Evs.step (h := fun k => spec_l1Cells.l1 k p x (countN (numsOf p) wi x (i * wi)) (i : Int) ((0 : Nat) : Int)) (fun k => ?_) (cells_l1 p wi h x i (by omega) _ (ih (i + 1) (by omega)) wi 0 (by omega))
  conv => lhs; unfold spec_l1Cells.l0
  rw [if_pos (by omega)]
  rfl
theorem l1Cells_ev (p : List ByteArray) (wi : Nat) (h : Small p wi) (x : Int) : Evs (fun k => spec_l1Cells.f k p x) (countN (numsOf p) wi x (p.length * wi)) := by
 have := cells_l0 p wi h x p.length 0 (by omega)
 show Evs (fun k => spec_l1Cells.l0 k p x 0 0) _
 simpa [countN] using this
theorem mx_max (a b : Int) : mx a b = max a b := by unfold mx; omega
theorem mn_min (a b : Int) : mn a b = min a b := by unfold mn; omega
theorem rooms_l1 (p : List ByteArray) (wi : Nat) (h : Small p wi) (i : Nat) (hi : i < p.length) (r : Int) (hnext : Evs (fun k => spec_l1Rooms.l0 k p (maxN (numsOf p) wi ((i + 1) * wi)) ((i + 1 : Nat) : Int)) r) :
  ∀ m j, j + m = wi → Evs (fun k => spec_l1Rooms.l1 k p (maxN (numsOf p) wi (i * wi + j)) (i : Int) (j : Int)) r := by
 have h6 := h.high
 have w6 := h.wide
 intro m
 induction m with
 | zero =>
  intro j hj
  obtain ⟨s, hs, hsz⟩ := h.row_at hi
  rw [show i * wi + j = (i + 1) * wi by rw [Nat.succ_mul]; omega]
  refine Evs.step (h := fun k => spec_l1Rooms.l0 k p (maxN (numsOf p) wi ((i + 1) * wi)) ((i + 1 : Nat) : Int)) (fun k => ?_) hnext
  conv => lhs; unfold spec_l1Rooms.l1
  rw [if_pos (by omega), if_pos (by omega), rdOf_at hs, if_neg (by omega), wrap_succ (by omega)]
 | succ m ih =>
  intro j hj
  obtain ⟨s, hs, hsz, hb, hb0, hb1⟩ := h.at hi (show j < wi by omega)
  refine Evs.step (h := fun k => spec_l1Rooms.l1 k p (maxN (numsOf p) wi (i * wi + (j + 1))) (i : Int) ((j + 1 : Nat) : Int)) (fun k => ?_) (ih (j + 1) (by omega))
  conv => lhs; unfold spec_l1Rooms.l1
  rw [if_pos (by omega), if_pos (by omega), rdOf_at hs, if_pos (by omega), if_pos (by omega), wrap64_small (x := bt s (j : Int)) (by omega) (by omega), wrap64_small (x := bt s (j : Int) - 97) (by omega) (by omega), wrap64_small (x := bt s (j : Int) - 97 + 1) (by omega) (by omega), show bt s (j : Int) - 97 = cellN (numsOf p) wi (i * wi + j) by omega, wrap_succ (by omega), mx_max]
  rfl
theorem rooms_l0 (p : List ByteArray) (wi : Nat) (h : Small p wi) : ∀ m i, i + m = p.length → Evs (fun k => spec_l1Rooms.l0 k p (maxN (numsOf p) wi (i * wi)) (i : Int)) (maxN (numsOf p) wi (p.length * wi)) := by
 have h6 := h.high
 intro m
 induction m with
 | zero =>
  intro i hi
  obtain rfl : i = p.length := by omega
  refine Evs.step (h := fun _ => some (maxN (numsOf p) wi (p.length * wi))) (fun k => ?_) (Evs.const _)
  conv => lhs; unfold spec_l1Rooms.l0
  rw [if_neg (by omega)]
 | succ m ih =>
  intro i hi
  refine Evs.step (h := fun k => spec_l1Rooms.l1 k p (maxN (numsOf p) wi (i * wi)) (i : Int) ((0 : Nat) : Int)) (fun k => ?_) (rooms_l1 p wi h i (by omega) _ (ih (i + 1) (by omega)) wi 0 (by omega))
  conv => lhs; unfold spec_l1Rooms.l0
  rw [if_pos (by omega)]
  rfl
theorem l1Rooms_ev (p : List ByteArray) (wi : Nat) (h : Small p wi) : Evs (fun k => spec_l1Rooms.f k p) (maxN (numsOf p) wi (p.length * wi)) := by
 have := rooms_l0 p wi h p.length 0 (by omega)
 show Evs (fun k => spec_l1Rooms.l0 k p 0 0) _
 simpa [maxN] using this
def roomOut (q : Int × Int × Int × Int) : Int × Int × Int × Int := (q.1, q.2.1, q.2.2.1 - q.1 + 1, q.2.2.2 - q.2.1 + 1)
theorem roomN_le {p : List ByteArray} {wi : Nat} (h : Small p wi) (x t l : Int) (ht : 0 ≤ t) (ht2 : t ≤ 6) (hl : 0 ≤ l) (hl2 : l ≤ 6) : ∀ n, n ≤ p.length * wi → let q := roomN (numsOf p) wi x t l n; 0 ≤ q.1 ∧ q.1 ≤ 6 ∧ 0 ≤ q.2.1 ∧ q.2.1 ≤ 6 ∧ -1 ≤ q.2.2.1 ∧ q.2.2.1 ≤ 6 ∧ -1 ≤ q.2.2.2 ∧ q.2.2.2 ≤ 6
 | 0, _ => by simp only [roomN]; omega
 | n + 1, hn => by
  have ih := roomN_le h x t l ht ht2 hl hl2 n (by omega)
  have hwi : 0 < wi := by
   rcases Nat.eq_zero_or_pos wi with h0 | h0
   ·subst h0; simp at hn
   ·exact h0
  have h1 : n / wi < p.length := by rw [Nat.div_lt_iff_lt_mul hwi]; omega
  have h2 : n % wi < wi := Nat.mod_lt _ hwi
  have h3 := h.high
  have h4 := h.wide
  simp only [roomN] at ih ⊢
  generalize n / wi = a at *
  generalize n % wi = b at *
  split
  ·dsimp only
   omega
  ·exact ih
theorem room_l1 (p : List ByteArray) (wi : Nat) (h : Small p wi) (x t l : Int) (ht : 0 ≤ t) (ht2 : t ≤ 6) (hl : 0 ≤ l) (hl2 : l ≤ 6) (i : Nat) (hi : i < p.length) (r : Int × Int × Int × Int) (hnext : let q := roomN (numsOf p) wi x t l ((i + 1) * wi); Evs (fun k => spec_l1Room.l0 k p x q.1 q.2.1 q.2.2.1 q.2.2.2 ((i + 1 : Nat) : Int)) r) :
  ∀ m j, j + m = wi → let q := roomN (numsOf p) wi x t l (i * wi + j); Evs (fun k => spec_l1Room.l1 k p x q.1 q.2.1 q.2.2.1 q.2.2.2 (i : Int) (j : Int)) r := by
 have h6 := h.high
 have w6 := h.wide
 intro m
 induction m with
 | zero =>
  intro j hj
  obtain ⟨s, hs, hsz⟩ := h.row_at hi
  rw [show i * wi + j = (i + 1) * wi by rw [Nat.succ_mul]; omega]
  intro q
  refine Evs.step (h := fun k => spec_l1Room.l0 k p x q.1 q.2.1 q.2.2.1 q.2.2.2 ((i + 1 : Nat) : Int)) (fun k => ?_) hnext
  conv => lhs; unfold spec_l1Room.l1
  rw [if_pos (by omega), if_pos (by omega), rdOf_at hs, if_neg (by omega), wrap_succ (by omega)]
 | succ m ih =>
  intro j hj q
  obtain ⟨s, hs, hsz, hb, hb0, hb1⟩ := h.at hi (show j < wi by omega)
  have hnx := ih (j + 1) (by omega)
  obtain ⟨d1, d2⟩ := divmod_of (r := i) (show j < wi by omega)
  have hsucc : roomN (numsOf p) wi x t l (i * wi + (j + 1)) = if cellN (numsOf p) wi (i * wi + j) = x then (min q.1 (i : Int), min q.2.1 (j : Int), max q.2.2.1 (i : Int), max q.2.2.2 (j : Int)) else q := by
   show roomN (numsOf p) wi x t l (i * wi + j + 1) = _
   simp only [roomN]
   rw [d1, d2]
  rw [hsucc] at hnx
  generalize q = q at *
  refine Evs.step (h := fun k => spec_l1Room.l1 k p x (if cellN (numsOf p) wi (i * wi + j) = x then (min q.1 (i : Int), min q.2.1 (j : Int), max q.2.2.1 (i : Int), max q.2.2.2 (j : Int)) else q).1 (if cellN (numsOf p) wi (i * wi + j) = x then (min q.1 (i : Int), min q.2.1 (j : Int), max q.2.2.1 (i : Int), max q.2.2.2 (j : Int)) else q).2.1 (if cellN (numsOf p) wi (i * wi + j) = x then (min q.1 (i : Int), min q.2.1 (j : Int), max q.2.2.1 (i : Int), max q.2.2.2 (j : Int)) else q).2.2.1 (if cellN (numsOf p) wi (i * wi + j) = x then (min q.1 (i : Int), min q.2.1 (j : Int), max q.2.2.1 (i : Int), max q.2.2.2 (j : Int)) else q).2.2.2 (i : Int) ((j + 1 : Nat) : Int)) (fun k => ?_) hnx
  conv => lhs; unfold spec_l1Room.l1
  rw [if_pos (by omega), if_pos (by omega), rdOf_at hs, if_pos (by omega), if_pos (by omega), wrap64_small (x := bt s (j : Int)) (by omega) (by omega), wrap64_small (x := bt s (j : Int) - 97) (by omega) (by omega), show bt s (j : Int) - 97 = cellN (numsOf p) wi (i * wi + j) by omega, wrap_succ (by omega)]
  by_cases hx : cellN (numsOf p) wi (i * wi + j) = x
  ·rw [if_pos hx, if_pos hx, mn_min, mn_min, mx_max, mx_max]
  ·rw [if_neg hx, if_neg hx]
theorem room_l0 (p : List ByteArray) (wi : Nat) (h : Small p wi) (x t l : Int) (ht : 0 ≤ t) (ht2 : t ≤ 6) (hl : 0 ≤ l) (hl2 : l ≤ 6) : ∀ m i, i + m = p.length → let q := roomN (numsOf p) wi x t l (i * wi); Evs (fun k => spec_l1Room.l0 k p x q.1 q.2.1 q.2.2.1 q.2.2.2 (i : Int)) (roomOut (roomN (numsOf p) wi x t l (p.length * wi))) := by
 have h6 := h.high
 intro m
 induction m with
 | zero =>
  intro i hi q
  obtain rfl : i = p.length := by omega
  have hq := roomN_le h x t l ht ht2 hl hl2 (p.length * wi) (Nat.le_refl _)
  refine Evs.step (h := fun _ => some (roomOut q)) (fun k => ?_) (Evs.const _)
  conv => lhs; unfold spec_l1Room.l0
  have hq' : 0 ≤ q.1 ∧ q.1 ≤ 6 ∧ 0 ≤ q.2.1 ∧ q.2.1 ≤ 6 ∧ -1 ≤ q.2.2.1 ∧ q.2.2.1 ≤ 6 ∧ -1 ≤ q.2.2.2 ∧ q.2.2.2 ≤ 6 := hq
  clear hq
  generalize q = q at *
  rw [if_neg (by omega), wrap64_small (x := q.2.2.1 - q.1) (by omega) (by omega), wrap64_small (x := q.2.2.1 - q.1 + 1) (by omega) (by omega), wrap64_small (x := q.2.2.2 - q.2.1) (by omega) (by omega), wrap64_small (x := q.2.2.2 - q.2.1 + 1) (by omega) (by omega)]
  rfl
 | succ m ih =>
  intro i hi q
  refine Evs.step (h := fun k => spec_l1Room.l1 k p x q.1 q.2.1 q.2.2.1 q.2.2.2 (i : Int) ((0 : Nat) : Int)) (fun k => ?_) (room_l1 p wi h x t l ht ht2 hl hl2 i (by omega) _ (ih (i + 1) (by omega)) wi 0 (by omega))
  conv => lhs; unfold spec_l1Room.l0
  rw [if_pos (by omega)]
  rfl
theorem l1Room_ev (p : List ByteArray) (wi : Nat) (h : Small p wi) (h1 : 1 ≤ p.length) (x : Int) : Evs (fun k => spec_l1Room.f k p x) (roomOut (roomN (numsOf p) wi x (p.length : Int) (wi : Int) (p.length * wi))) := by
 have h6 := h.high
 have w6 := h.wide
 have := room_l0 p wi h x (p.length : Int) (wi : Int) (by omega) (by omega) (by omega) (by omega) p.length 0 (by omega)
 obtain ⟨s, hs, hsz⟩ := h.row_at (i := 0) (by omega)
 refine Evs.congr (fun k => ?_) this
 unfold spec_l1Room.f
 have e := rdOf_at hs
 simp only [Int.ofNat_zero, Int.natCast_zero] at e
 rw [if_pos (by omega), e, hsz]
 simp [roomN]
theorem same_l0 (p q : List ByteArray) (hl : p.length = q.length) (hb : p.length ≤ 1048576) : ∀ m i, i + m = p.length → p.take i = q.take i → Evs (fun k => spec_l1Same.l0 k p q (i : Int)) (decide (p = q)) := by
 intro m
 induction m with
 | zero =>
  intro i hi ht
  have e : p = q := by
   rw [show i = p.length by omega, List.take_length, hl, List.take_length] at ht
   exact ht
  refine Evs.step (h := fun _ => some (decide (p = q))) (fun k => ?_) (Evs.const _)
  conv => lhs; unfold spec_l1Same.l0
  rw [if_neg (by omega), decide_eq_true e]
 | succ m ih =>
  intro i hi ht
  by_cases he : p[i] = q[i]
  ·refine Evs.step (h := fun k => spec_l1Same.l0 k p q ((i + 1 : Nat) : Int)) (fun k => ?_) (ih (i + 1) (by omega) (by
    rw [List.take_add_one, List.take_add_one, ht, List.getElem?_eq_getElem (by omega), List.getElem?_eq_getElem (by omega), he]))
   conv => lhs; unfold spec_l1Same.l0
   rw [if_pos (by omega), if_pos (by omega), if_pos (by omega), rdOf_get p i (by omega), rdOf_get q i (by omega), if_pos (toList_inj.2 he), wrap_succ (by omega)]
  ·have hne : p ≠ q := by rintro rfl; exact he rfl
   refine Evs.step (h := fun _ => some (decide (p = q))) (fun k => ?_) (Evs.const _)
   conv => lhs; unfold spec_l1Same.l0
   rw [if_pos (by omega), if_pos (by omega), if_pos (by omega), rdOf_get p i (by omega), rdOf_get q i (by omega), if_neg (fun h => he (toList_inj.1 h)), decide_eq_false hne]
theorem l1Same_ev (p q : List ByteArray) (hb : p.length ≤ 1048576) : Evs (fun k => spec_l1Same.f k p q) (decide (p = q)) := by
 by_cases h : p.length = q.length
 ·refine Evs.congr (fun k => ?_) (same_l0 p q h hb p.length 0 (by omega) (by simp))
  unfold spec_l1Same.f
  rw [if_pos (by omega)]
  rfl
 ·have hne : p ≠ q := by rintro rfl; exact h rfl
  refine Evs.congr (h := fun _ => some (decide (p = q))) (fun k => ?_) (Evs.const _)
  unfold spec_l1Same.f
  rw [if_neg (by omega), decide_eq_false hne]
end Go.Proofs.Ytjaolkfjpnpglaa.Hd
namespace Go.Proofs.Ytjaolkfjpnpglaa.Hd
open Go.RowKit Go.Proofs.YtjaolkfjpnpglaaW.PrintWords Go.Proofs.YtjaolkfjpnpglaaW.PrintLast Go.Proofs.YtjaolkfjpnpglaaW.PrintMore Go.Proofs.Ytjaolkfjpnpglaa.PB
set_option linter.unusedVariables false
set_option linter.unusedSimpArgs false
def sumI (f : Nat → Int) : Nat → Int
 | 0 => 0
 | n + 1 => sumI f n + f n
theorem sumI_add (f g : Nat → Int) : ∀ n, sumI (fun x => f x + g x) n = sumI f n + sumI g n
 | 0 => rfl
 | n + 1 => by simp only [sumI, sumI_add f g n]; omega
theorem sumI_congr {f g : Nat → Int} : ∀ n, (∀ x, x < n → f x = g x) → sumI f n = sumI g n
 | 0, _ => rfl
 | n + 1, h => by simp only [sumI]; rw [sumI_congr n (fun x hx => h x (by omega)), h n (by omega)]
theorem sumI_le {f g : Nat → Int} : ∀ n, (∀ x, x < n → f x ≤ g x) → sumI f n ≤ sumI g n
 | 0, _ => Int.le_refl _
 | n + 1, h => by
  have := sumI_le n (fun x hx => h x (by omega))
  have := h n (by omega)
  simp only [sumI]
  omega
theorem sumI_eq {f g : Nat → Int} : ∀ n, (∀ x, x < n → f x ≤ g x) → sumI f n = sumI g n → ∀ x, x < n → f x = g x
 | 0, _, _, x, hx => by omega
 | n + 1, h, he, x, hx => by
  have h1 := sumI_le n (fun x hx => h x (by omega))
  have h2 := h n (by omega)
  simp only [sumI] at he
  rcases Nat.lt_or_eq_of_le (Nat.lt_succ_iff.1 hx) with h3 | h3
  ·exact sumI_eq n (fun x hx => h x (by omega)) (by omega) x h3
  ·subst h3; omega
theorem sumI_one (v : Int) : ∀ n, sumI (fun x => if v = (x : Int) then 1 else 0) n = if 0 ≤ v ∧ v < n then 1 else 0
 | 0 => by
  simp only [sumI]
  rw [if_neg (by omega)]
 | n + 1 => by
  simp only [sumI, sumI_one v n]
  by_cases h : v = (n : Int)
  ·rw [if_neg (by omega), if_pos h, if_pos (by omega)]; omega
  ·rw [if_neg h]
   by_cases h2 : 0 ≤ v ∧ v < n
   ·rw [if_pos h2, if_pos (by omega)]; omega
   ·rw [if_neg h2, if_neg (by omega)]; omega
theorem count_sum (rows : List (List Int)) (wi n : Nat) : ∀ N, (∀ m, m < N → 0 ≤ cellN rows wi m ∧ cellN rows wi m < n) → sumI (fun x => countN rows wi (x : Int) N) n = N
 | 0, _ => by
  have : sumI (fun x => countN rows wi (x : Int) 0) n = sumI (fun _ => 0) n := rfl
  rw [this]
  have h0 : ∀ n, sumI (fun _ => 0) n = 0 := fun n => by induction n with
   | zero => rfl
   | succ n ih => simp only [sumI, ih]; rfl
  rw [h0]
  rfl
 | N + 1, h => by
  have ih := count_sum rows wi n N (fun m hm => h m (by omega))
  have h1 := h N (by omega)
  have h2 := sumI_one (cellN rows wi N) n
  rw [if_pos h1] at h2
  have h3 : sumI (fun x => countN rows wi (x : Int) (N + 1)) n = sumI (fun x => countN rows wi (x : Int) N + (if cellN rows wi N = (x : Int) then 1 else 0)) n := by
   apply sumI_congr
   intro x hx
   simp only [countN]
   split <;> omega
  rw [h3, sumI_add, ih, h2]
  omega
def inBox (b : Rc) (wi m : Nat) : Prop := b.f0 ≤ (m / wi : Nat) ∧ ((m / wi : Nat) : Int) < b.f0 + b.f2 ∧ b.f1 ≤ (m % wi : Nat) ∧ ((m % wi : Nat) : Int) < b.f1 + b.f3
instance (b : Rc) (wi m : Nat) : Decidable (inBox b wi m) := by unfold inBox; exact inferInstance
def countB (b : Rc) (wi : Nat) : Nat → Int
 | 0 => 0
 | n + 1 => if inBox b wi n then countB b wi n + 1 else countB b wi n
theorem countN_le_B (rows : List (List Int)) (wi : Nat) (x : Int) (b : Rc) : ∀ n, (∀ m, m < n → cellN rows wi m = x → inBox b wi m) → countN rows wi x n ≤ countB b wi n
 | 0, _ => Int.le_refl _
 | n + 1, h => by
  have ih := countN_le_B rows wi x b n (fun m hm => h m (by omega))
  simp only [countN, countB]
  by_cases hx : cellN rows wi n = x
  ·rw [if_pos hx, if_pos (h n (by omega) hx)]; omega
  ·rw [if_neg hx]
   split <;> omega
def clamp (a n : Int) : Int := max 0 (min a n)
theorem countB_at (b : Rc) (hi wi : Nat) (hb : boundR b hi wi) : ∀ i j, i ≤ hi → j ≤ wi → (i < hi ∨ j = 0) → countB b wi (i * wi + j) = clamp ((i : Int) - b.f0) b.f2 * b.f3 + (if b.f0 ≤ i ∧ (i : Int) < b.f0 + b.f2 then clamp ((j : Int) - b.f1) b.f3 else 0) := by
 obtain ⟨b0, b1, b2, b3, b4, b5⟩ := hb
 intro i
 induction i with
 | zero =>
  intro j
  induction j with
  | zero =>
   intro _ _ _
   have h1 : clamp (((0 : Nat) : Int) - b.f0) b.f2 = 0 := by unfold clamp; omega
   have h2 : clamp (((0 : Nat) : Int) - b.f1) b.f3 = 0 := by unfold clamp; omega
   rw [h1, h2]
   simp [countB]
  | succ j ih =>
   intro h1 h2 h3
   have h := ih h1 (by omega) (by omega)
   obtain ⟨d1, d2⟩ := divmod_of (r := 0) (show j < wi by omega)
   show (if inBox b wi (0 * wi + j) then countB b wi (0 * wi + j) + 1 else countB b wi (0 * wi + j)) = _
   rw [h]
   have hib : inBox b wi (0 * wi + j) ↔ (b.f0 ≤ ((0 : Nat) : Int) ∧ ((0 : Nat) : Int) < b.f0 + b.f2 ∧ b.f1 ≤ (j : Int) ∧ (j : Int) < b.f1 + b.f3) := by unfold inBox; rw [d1, d2]
   by_cases hr : b.f0 ≤ ((0 : Nat) : Int) ∧ ((0 : Nat) : Int) < b.f0 + b.f2
   ·rw [if_pos hr, if_pos hr]
    have : clamp (((j + 1 : Nat) : Int) - b.f1) b.f3 = clamp ((j : Int) - b.f1) b.f3 + (if b.f1 ≤ (j : Int) ∧ (j : Int) < b.f1 + b.f3 then 1 else 0) := by
     unfold clamp; split <;> omega
    rw [this]
    by_cases hc : b.f1 ≤ (j : Int) ∧ (j : Int) < b.f1 + b.f3
    ·rw [if_pos (hib.2 ⟨hr.1, hr.2, hc.1, hc.2⟩), if_pos hc]; omega
    ·rw [if_neg (fun h => hc ⟨(hib.1 h).2.2.1, (hib.1 h).2.2.2⟩), if_neg hc]; omega
   ·rw [if_neg hr, if_neg hr, if_neg (fun h => hr ⟨(hib.1 h).1, (hib.1 h).2.1⟩)]
 | succ i ihi =>
  intro j
  induction j with
  | zero =>
   intro h1 _ _
   have h := ihi wi (by omega) (Nat.le_refl _) (by omega)
   rw [show (i + 1) * wi + 0 = i * wi + wi by rw [Nat.succ_mul]; omega, h]
   have e2 : clamp (((0 : Nat) : Int) - b.f1) b.f3 = 0 := by unfold clamp; omega
   have e3 : clamp ((wi : Int) - b.f1) b.f3 = b.f3 := by unfold clamp; omega
   rw [e2, e3]
   have e4 : (if b.f0 ≤ ((i + 1 : Nat) : Int) ∧ ((i + 1 : Nat) : Int) < b.f0 + b.f2 then (0 : Int) else 0) = 0 := by split <;> rfl
   rw [e4]
   by_cases hr : b.f0 ≤ (i : Int) ∧ (i : Int) < b.f0 + b.f2
   ·have e5 : clamp (((i + 1 : Nat) : Int) - b.f0) b.f2 = clamp ((i : Int) - b.f0) b.f2 + 1 := by unfold clamp; omega
    rw [if_pos hr, e5, Int.add_mul]
    omega
   ·have e5 : clamp (((i + 1 : Nat) : Int) - b.f0) b.f2 = clamp ((i : Int) - b.f0) b.f2 := by unfold clamp; omega
    rw [if_neg hr, e5]
  | succ j ih =>
   intro h1 h2 h3
   have h := ih h1 (by omega) (by omega)
   obtain ⟨d1, d2⟩ := divmod_of (r := i + 1) (show j < wi by omega)
   show (if inBox b wi ((i + 1) * wi + j) then countB b wi ((i + 1) * wi + j) + 1 else countB b wi ((i + 1) * wi + j)) = _
   rw [h]
   have hib : inBox b wi ((i + 1) * wi + j) ↔ (b.f0 ≤ ((i + 1 : Nat) : Int) ∧ ((i + 1 : Nat) : Int) < b.f0 + b.f2 ∧ b.f1 ≤ (j : Int) ∧ (j : Int) < b.f1 + b.f3) := by unfold inBox; rw [d1, d2]
   by_cases hr : b.f0 ≤ ((i + 1 : Nat) : Int) ∧ ((i + 1 : Nat) : Int) < b.f0 + b.f2
   ·rw [if_pos hr, if_pos hr]
    have : clamp (((j + 1 : Nat) : Int) - b.f1) b.f3 = clamp ((j : Int) - b.f1) b.f3 + (if b.f1 ≤ (j : Int) ∧ (j : Int) < b.f1 + b.f3 then 1 else 0) := by
     unfold clamp; split <;> omega
    rw [this]
    by_cases hc : b.f1 ≤ (j : Int) ∧ (j : Int) < b.f1 + b.f3
    ·rw [if_pos (hib.2 ⟨hr.1, hr.2, hc.1, hc.2⟩), if_pos hc]; omega
    ·rw [if_neg (fun h => hc ⟨(hib.1 h).2.2.1, (hib.1 h).2.2.2⟩), if_neg hc]; omega
   ·rw [if_neg hr, if_neg hr, if_neg (fun h => hr ⟨(hib.1 h).1, (hib.1 h).2.1⟩)]
theorem countB_all (b : Rc) (hi wi : Nat) (hb : boundR b hi wi) : countB b wi (hi * wi) = areaR b := by
 have := countB_at b hi wi hb hi 0 (Nat.le_refl _) (by omega) (Or.inr rfl)
 obtain ⟨b0, b1, b2, b3, b4, b5⟩ := hb
 rw [Nat.add_zero] at this
 have h2 : clamp (((0 : Nat) : Int) - b.f1) b.f3 = 0 := by unfold clamp; omega
 have h3 : clamp ((hi : Int) - b.f0) b.f2 = b.f2 := by unfold clamp; omega
 rw [this, h2, h3]
 unfold areaR
 split <;> omega
theorem maxN_ge (rows : List (List Int)) (wi : Nat) : ∀ n m, m < n → cellN rows wi m + 1 ≤ maxN rows wi n
 | 0, m, h => by omega
 | n + 1, m, h => by
  simp only [maxN]
  rcases Nat.lt_or_eq_of_le (Nat.lt_succ_iff.1 h) with h1 | h1
  ·have := maxN_ge rows wi n m h1; omega
  ·subst h1; omega
theorem maxN_ub (rows : List (List Int)) (wi : Nat) (M : Int) (hM : 0 ≤ M) : ∀ n, (∀ m, m < n → cellN rows wi m + 1 ≤ M) → maxN rows wi n ≤ M
 | 0, _ => hM
 | n + 1, h => by
  have := maxN_ub rows wi M hM n (fun m hm => h m (by omega))
  have := h n (by omega)
  simp only [maxN]
  omega
theorem roomN_ge (rows : List (List Int)) (wi : Nat) (x t l : Int) : ∀ n m, m < n → cellN rows wi m = x → (roomN rows wi x t l n).1 ≤ (m / wi : Nat) ∧ (roomN rows wi x t l n).2.1 ≤ (m % wi : Nat) ∧ ((m / wi : Nat) : Int) ≤ (roomN rows wi x t l n).2.2.1 ∧ ((m % wi : Nat) : Int) ≤ (roomN rows wi x t l n).2.2.2
 | 0, m, h, _ => by omega
 | n + 1, m, h, hx => by
  simp only [roomN]
  rcases Nat.lt_or_eq_of_le (Nat.lt_succ_iff.1 h) with h1 | h1
  ·have ih := roomN_ge rows wi x t l n m h1 hx
   generalize roomN rows wi x t l n = q at *
   split
   ·dsimp only; omega
   ·exact ih
  ·subst h1
   rw [if_pos hx]
   dsimp only
   omega
theorem roomN_at (rows : List (List Int)) (wi : Nat) (x t l : Int) : ∀ n,
  ((roomN rows wi x t l n).1 = t ∨ ∃ m, m < n ∧ cellN rows wi m = x ∧ (roomN rows wi x t l n).1 = (m / wi : Nat)) ∧
  ((roomN rows wi x t l n).2.1 = l ∨ ∃ m, m < n ∧ cellN rows wi m = x ∧ (roomN rows wi x t l n).2.1 = (m % wi : Nat)) ∧
  ((roomN rows wi x t l n).2.2.1 = -1 ∨ ∃ m, m < n ∧ cellN rows wi m = x ∧ (roomN rows wi x t l n).2.2.1 = (m / wi : Nat)) ∧
  ((roomN rows wi x t l n).2.2.2 = -1 ∨ ∃ m, m < n ∧ cellN rows wi m = x ∧ (roomN rows wi x t l n).2.2.2 = (m % wi : Nat))
 | 0 => ⟨.inl rfl, .inl rfl, .inl rfl, .inl rfl⟩
 | n + 1 => by
  obtain ⟨h1, h2, h3, h4⟩ := roomN_at rows wi x t l n
  simp only [roomN]
  generalize roomN rows wi x t l n = q at *
  by_cases hx : cellN rows wi n = x
  ·rw [if_pos hx]
   dsimp only
   refine ⟨?_, ?_, ?_, ?_⟩
   ·by_cases hc : q.1 ≤ ((n / wi : Nat) : Int)
    ·rw [Int.min_eq_left hc]
     rcases h1 with h | ⟨m, a, b, c⟩
     ·exact .inl h
     ·exact .inr ⟨m, by omega, b, c⟩
    ·exact .inr ⟨n, by omega, hx, Int.min_eq_right (by omega)⟩
   ·by_cases hc : q.2.1 ≤ ((n % wi : Nat) : Int)
    ·rw [Int.min_eq_left hc]
     rcases h2 with h | ⟨m, a, b, c⟩
     ·exact .inl h
     ·exact .inr ⟨m, by omega, b, c⟩
    ·exact .inr ⟨n, by omega, hx, Int.min_eq_right (by omega)⟩
   ·by_cases hc : ((n / wi : Nat) : Int) ≤ q.2.2.1
    ·rw [Int.max_eq_left hc]
     rcases h3 with h | ⟨m, a, b, c⟩
     ·exact .inl h
     ·exact .inr ⟨m, by omega, b, c⟩
    ·exact .inr ⟨n, by omega, hx, Int.max_eq_right (by omega)⟩
   ·by_cases hc : ((n % wi : Nat) : Int) ≤ q.2.2.2
    ·rw [Int.max_eq_left hc]
     rcases h4 with h | ⟨m, a, b, c⟩
     ·exact .inl h
     ·exact .inr ⟨m, by omega, b, c⟩
    ·exact .inr ⟨n, by omega, hx, Int.max_eq_right (by omega)⟩
  ·rw [if_neg hx]
   refine ⟨?_, ?_, ?_, ?_⟩
   ·rcases h1 with h | ⟨m, a, b, c⟩
    ·exact .inl h
    ·exact .inr ⟨m, by omega, b, c⟩
   ·rcases h2 with h | ⟨m, a, b, c⟩
    ·exact .inl h
    ·exact .inr ⟨m, by omega, b, c⟩
   ·rcases h3 with h | ⟨m, a, b, c⟩
    ·exact .inl h
    ·exact .inr ⟨m, by omega, b, c⟩
   ·rcases h4 with h | ⟨m, a, b, c⟩
    ·exact .inl h
    ·exact .inr ⟨m, by omega, b, c⟩
theorem room_box {rows rows' : List (List Int)} {hi wi : Nat} {x y : Int} {b : Rc} (he : ∀ m, m < hi * wi → (cellN rows wi m = x ↔ valAt rows' (m / wi) (m % wi) = y)) (hb : BoxN rows' wi (hi * wi) y b) (hbd : boundR b hi wi) (t l : Int) (ht : (hi : Int) ≤ t) (hl : (wi : Int) ≤ l) :
  roomOut (roomN rows wi x t l (hi * wi)) = (b.f0, b.f1, b.f2, b.f3) := by
 obtain ⟨b0, b1, b2, b3, b4, b5⟩ := hbd
 obtain ⟨m1, n1, v1, e1⟩ := hb.top
 obtain ⟨m2, n2, v2, e2⟩ := hb.low
 obtain ⟨m3, n3, v3, e3⟩ := hb.left
 obtain ⟨m4, n4, v4, e4⟩ := hb.right
 have g1 := roomN_ge rows wi x t l (hi * wi) m1 n1 ((he m1 n1).2 v1)
 have g2 := roomN_ge rows wi x t l (hi * wi) m2 n2 ((he m2 n2).2 v2)
 have g3 := roomN_ge rows wi x t l (hi * wi) m3 n3 ((he m3 n3).2 v3)
 have g4 := roomN_ge rows wi x t l (hi * wi) m4 n4 ((he m4 n4).2 v4)
 obtain ⟨a1, a2, a3, a4⟩ := roomN_at rows wi x t l (hi * wi)
 have key : ∀ m, m < hi * wi → cellN rows wi m = x → b.f0 ≤ (m / wi : Nat) ∧ ((m / wi : Nat) : Int) < b.f0 + b.f2 ∧ b.f1 ≤ (m % wi : Nat) ∧ ((m % wi : Nat) : Int) < b.f1 + b.f3 := fun m hm hx => hb.ins m hm ((he m hm).1 hx)
 generalize roomN rows wi x t l (hi * wi) = q at *
 have r1 : q.1 = b.f0 := by
  rcases a1 with h | ⟨m, n, v, e⟩
  ·omega
  ·have := key m n v; omega
 have r2 : q.2.1 = b.f1 := by
  rcases a2 with h | ⟨m, n, v, e⟩
  ·omega
  ·have := key m n v; omega
 have r3 : q.2.2.1 = b.f0 + b.f2 - 1 := by
  rcases a3 with h | ⟨m, n, v, e⟩
  ·omega
  ·have := key m n v; omega
 have r4 : q.2.2.2 = b.f1 + b.f3 - 1 := by
  rcases a4 with h | ⟨m, n, v, e⟩
  ·omega
  ·have := key m n v; omega
 unfold roomOut
 rw [r1, r2, r3, r4]
 congr 3
 ·omega
 ·omega
end Go.Proofs.Ytjaolkfjpnpglaa.Hd
namespace Go.Proofs.Ytjaolkfjpnpglaa.Hd
open Go.RowKit Go.Proofs.YtjaolkfjpnpglaaW.PrintWords Go.Proofs.YtjaolkfjpnpglaaW.PrintLast Go.Proofs.YtjaolkfjpnpglaaW.PrintMore Go.Proofs.Ytjaolkfjpnpglaa.PB
set_option linter.unusedVariables false
set_option linter.unusedSimpArgs false
theorem letterOf_toNat {x : Int} (h0 : 0 ≤ x) (h1 : x ≤ 100) : ((letterOf x).toNat : Int) = 97 + x := by
 unfold letterOf
 rw [UInt8.toNat_ofNat']
 omega
theorem bytesOf_rowText (row : List Int) (h : ∀ x ∈ row, 0 ≤ x ∧ x ≤ 100) : bytesOf (rowText row) = row.map (fun x => 97 + x) := by
 unfold bytesOf rowText rowBytes
 show ((row.map letterOf).toArray.toList).map _ = _
 rw [List.map_map]
 apply List.map_congr_left
 intro x hx
 exact letterOf_toNat (h x hx).1 (h x hx).2
theorem numsOf_textOf (cs : List (List Int)) (h : ∀ r ∈ cs, ∀ x ∈ r, 0 ≤ x ∧ x ≤ 100) : numsOf (textOf cs) = cs.map (fun r => r.map (fun x => 97 + x)) := by
 unfold numsOf textOf
 rw [List.map_map]
 apply List.map_congr_left
 intro r hr
 exact bytesOf_rowText r (h r hr)
theorem canon_val {rows : List (List Int)} (h : shapeOk rows = true) : ∀ r ∈ canon rows, ∀ x ∈ r, 0 ≤ x ∧ x ≤ 100 := by
 have hL := shape_order h
 intro r hr x hx
 unfold canon canonL at hr
 simp at hr
 obtain ⟨a, _, rfl⟩ := hr
 simp at hx
 obtain ⟨y, _, rfl⟩ := hx
 have := List.idxOf_le_length (a := y) (l := ordAll rows)
 omega
structure Canon (p : List ByteArray) : Prop where
 grid : gridOk p = true
 names : namesOf p = p
theorem Canon.shape {p : List ByteArray} (h : Canon p) : shapeOk (numsOf p) = true := by
 have := h.grid
 unfold gridOk at this
 rw [Bool.and_eq_true] at this
 exact this.1
theorem numsOf_length (p : List ByteArray) : (numsOf p).length = p.length := by simp [numsOf]
theorem Canon.cell {p : List ByteArray} (h : Canon p) : ∀ m, m < p.length * wideOf (numsOf p) → cellN (numsOf p) (wideOf (numsOf p)) m = ((ordAll (numsOf p)).idxOf (valAt (numsOf p) (m / wideOf (numsOf p)) (m % wideOf (numsOf p))) : Int) := by
 intro m hm
 have hR := shape_rect h.shape
 have h1 : numsOf p = (canon (numsOf p)).map (fun r => r.map (fun x => 97 + x)) := by
  have := numsOf_textOf (canon (numsOf p)) (canon_val h.shape)
  rw [show textOf (canon (numsOf p)) = p from h.names] at this
  exact this
 have hwi : 0 < wideOf (numsOf p) := by
  rcases Nat.eq_zero_or_pos (wideOf (numsOf p)) with h0 | h0
  ·rw [h0] at hm; simp at hm
  ·exact h0
 have hr : m / wideOf (numsOf p) < (numsOf p).length := by rw [numsOf_length, Nat.div_lt_iff_lt_mul hwi]; exact hm
 have hc := Nat.mod_lt m hwi
 have hcr : Rect (wideOf (numsOf p)) (canon (numsOf p)) := by rw [canon_grid hR]; exact gridOf_rect _ _ _
 have h2 := rect_map hcr (fun x => 97 + x)
 rw [← h1] at h2
 have hcl : (canon (numsOf p)).length = (numsOf p).length := by simp [canon, canonL]
 unfold cellN
 have h3 := congrArg (fun R => valAt R (m / wideOf (numsOf p)) (m % wideOf (numsOf p))) h2
 have h4 := congrArg (fun R => valAt R (m / wideOf (numsOf p)) (m % wideOf (numsOf p))) (canon_grid hR)
 try dsimp only at h3 h4
 rw [valAt_gridOf (by rw [hcl]; exact hr) hc] at h3
 rw [valAt_gridOf hr hc] at h4
 omega
theorem rooms_len {rows : List (List Int)} (h : shapeOk rows = true) : (ordAll rows).length = (roomsOf rows).length := by
 rw [← stAt_all (shape_rect h)]
 exact (stAt_len rows (wideOf rows) _).1
theorem rooms_box {rows : List (List Int)} (h : shapeOk rows = true) (i : Nat) (hi : i < (roomsOf rows).length) : ∃ x, (ordAll rows)[i]? = some x ∧ BoxN rows (wideOf rows) (rows.length * wideOf rows) x ((roomsOf rows).getD i zeroR) ∧ boundR ((roomsOf rows).getD i zeroR) rows.length (wideOf rows) := by
 have hl := rooms_len h
 obtain ⟨x, hx⟩ : ∃ x, (ordAll rows)[i]? = some x := ⟨_, List.getElem?_eq_getElem (by omega)⟩
 have hb : (roomsOf rows)[i]? = some ((roomsOf rows).getD i zeroR) := by
  rw [List.getD_eq_getElem?_getD, List.getElem?_eq_getElem hi]
  rfl
 have hx2 := hx
 rw [← stAt_all (shape_rect h)] at hx2
 exact ⟨x, hx, stAt_box rows (wideOf rows) _ i x _ hx2 hb, (stAt_inv rows rows.length (wideOf rows) _ (Nat.le_refl _)).2.2.2 _ (List.mem_of_getElem? hb)⟩
theorem idx_iff {L : List Int} (hn : L.Nodup) {i : Nat} {x v : Int} (hx : L[i]? = some x) (hv : v ∈ L) : ((L.idxOf v : Int) = (i : Int) ↔ v = x) := by
 have hi := (List.getElem?_eq_some_iff.1 hx).1
 have hk := List.idxOf_lt_length_of_mem hv
 have e : L[L.idxOf v] = v := List.getElem_idxOf hk
 rw [List.getElem?_eq_getElem hi] at hx
 have hx := Option.some.inj hx
 constructor
 ·intro h
  have h : L.idxOf v = i := by omega
  subst h
  rw [← e, hx]
 ·rintro rfl
  have := nodup_inj hn hk hi (e.trans hx.symm)
  omega
theorem ordAll_nodup (rows : List (List Int)) : (ordAll rows).Nodup := ordL_nodup _ _ List.nodup_nil
theorem cell_mem {rows : List (List Int)} (h : shapeOk rows = true) (m : Nat) (hm : m < rows.length * wideOf rows) : valAt rows (m / wideOf rows) (m % wideOf rows) ∈ ordAll rows := by
 have := flatten_get rows (shape_rect h) m hm
 exact ordL_mem _ _ _ (List.mem_of_getElem? this)
theorem mem_cell {rows : List (List Int)} (h : shapeOk rows = true) (x : Int) (hx : x ∈ ordAll rows) : ∃ m, m < rows.length * wideOf rows ∧ valAt rows (m / wideOf rows) (m % wideOf rows) = x := by
 rcases ordL_sub _ _ x hx with h1 | h1
 ·cases h1
 ·obtain ⟨m, hm, e⟩ := List.mem_iff_getElem.1 h1
  have hl := flatten_length_le rows _ (shape_rect h)
  refine ⟨m, by omega, ?_⟩
  have := flatten_get rows (shape_rect h) m (by omega)
  rw [List.getElem?_eq_getElem hm, e] at this
  exact (Option.some.inj this).symm
theorem Canon.max {p : List ByteArray} (h : Canon p) : maxN (numsOf p) (wideOf (numsOf p)) (p.length * wideOf (numsOf p)) = (roomsOf (numsOf p)).length := by
 have hs := h.shape
 have hl := rooms_len hs
 have hc := h.cell
 obtain ⟨s1, s2, s3, s4, s5⟩ := (shapeOk_iff _).1 hs
 rw [numsOf_length] at s1 s2
 have hpos : 0 < p.length * wideOf (numsOf p) := Nat.mul_pos (by omega) (by omega)
 have hub := maxN_ub (numsOf p) (wideOf (numsOf p)) ((roomsOf (numsOf p)).length : Int) (by omega) (p.length * wideOf (numsOf p)) (fun m hm => by
  rw [hc m hm]
  have := List.idxOf_lt_length_of_mem (cell_mem hs m (by rw [numsOf_length]; exact hm))
  omega)
 have h0 := List.idxOf_lt_length_of_mem (cell_mem hs 0 (by rw [numsOf_length]; exact hpos))
 obtain ⟨y, hy⟩ : ∃ y, (ordAll (numsOf p))[(ordAll (numsOf p)).length - 1]? = some y := ⟨_, List.getElem?_eq_getElem (by omega)⟩
 obtain ⟨m, hm, hv⟩ := mem_cell hs y (List.mem_of_getElem? hy)
 rw [numsOf_length] at hm
 have hge := maxN_ge (numsOf p) (wideOf (numsOf p)) _ m hm
 have hi := (idx_iff (ordAll_nodup (numsOf p)) hy (List.mem_of_getElem? hy)).2 rfl
 rw [hc m hm, hv] at hge
 omega
theorem Canon.room {p : List ByteArray} (h : Canon p) (i : Nat) (hi : i < (roomsOf (numsOf p)).length) : let b := (roomsOf (numsOf p)).getD i zeroR
  roomOut (roomN (numsOf p) (wideOf (numsOf p)) (i : Int) (p.length : Int) (wideOf (numsOf p) : Int) (p.length * wideOf (numsOf p))) = (b.f0, b.f1, b.f2, b.f3) ∧ countN (numsOf p) (wideOf (numsOf p)) (i : Int) (p.length * wideOf (numsOf p)) ≤ areaR b ∧ boundR b p.length (wideOf (numsOf p)) := by
 intro b
 have hs := h.shape
 obtain ⟨x, hx, hb, hbd⟩ := rooms_box hs i hi
 rw [numsOf_length] at hb hbd
 have hiff : ∀ m, m < p.length * wideOf (numsOf p) → (cellN (numsOf p) (wideOf (numsOf p)) m = (i : Int) ↔ valAt (numsOf p) (m / wideOf (numsOf p)) (m % wideOf (numsOf p)) = x) := fun m hm => by
  rw [h.cell m hm]
  exact idx_iff (ordAll_nodup _) hx (cell_mem hs m (by rw [numsOf_length]; exact hm))
 refine ⟨room_box hiff hb hbd _ _ (Int.le_refl _) (Int.le_refl _), ?_, hbd⟩
 rw [← countB_all b p.length (wideOf (numsOf p)) hbd]
 exact countN_le_B _ _ _ _ _ (fun m hm hv => hb.ins m hm ((hiff m hm).1 hv))
theorem Canon.sum {p : List ByteArray} (h : Canon p) : sumI (fun x => countN (numsOf p) (wideOf (numsOf p)) (x : Int) (p.length * wideOf (numsOf p))) (roomsOf (numsOf p)).length = ((p.length * wideOf (numsOf p) : Nat) : Int) := by
 refine count_sum _ _ _ _ (fun m hm => ?_)
 rw [h.cell m hm]
 have := List.idxOf_lt_length_of_mem (cell_mem h.shape m (by rw [numsOf_length]; exact hm))
 have := rooms_len h.shape
 omega
theorem sumArea_sumI (rs : List Rc) : sumArea rs = sumI (fun x => areaR (rs.getD x zeroR)) rs.length := by
 have : ∀ n, n ≤ rs.length → sumArea (rs.take n) = sumI (fun x => areaR (rs.getD x zeroR)) n := by
  intro n
  induction n with
  | zero => intro _; simp [sumArea, sumI]
  | succ n ih => intro hn; rw [sum_take rs n (by omega), ih (by omega)]; rfl
 have h := this rs.length (Nat.le_refl _)
 rwa [List.take_length] at h
def fullB (p : List ByteArray) (x : Nat) : Bool := decide (countN (numsOf p) (wideOf (numsOf p)) (x : Int) (p.length * wideOf (numsOf p)) = areaR ((roomsOf (numsOf p)).getD x zeroR))
theorem full_iff {p : List ByteArray} (h : Canon p) : (List.range (roomsOf (numsOf p)).length).all (fullB p) = decide (sumArea (roomsOf (numsOf p)) = (p.length : Int) * (wideOf (numsOf p) : Int)) := by
 rw [Bool.eq_iff_iff, List.all_eq_true, decide_eq_true_eq, sumArea_sumI, ← Int.natCast_mul, ← h.sum]
 constructor
 ·intro hall
  refine (sumI_congr _ (fun x hx => ?_)).symm
  have := hall x (List.mem_range.2 hx)
  unfold fullB at this
  exact of_decide_eq_true this
 ·intro he x hx
  have := sumI_eq _ (fun x hx => (h.room x hx).2.1) he.symm x (List.mem_range.1 hx)
  unfold fullB
  exact decide_eq_true this
theorem planIn_l0 {p : List ByteArray} (h : Canon p) : ∀ m r, r + m = (roomsOf (numsOf p)).length → Evs (fun k => spec_PlanIn.l0 k p (r : Int)) (((List.range (roomsOf (numsOf p)).length).drop r).all (fullB p)) := by
 have hsm := gridOk_small h.grid
 obtain ⟨s1, s2, s3, s4, s5⟩ := (shapeOk_iff _).1 h.shape
 rw [numsOf_length] at s1 s2
 have hR := l1Rooms_ev p _ hsm
 rw [h.max] at hR
 have hrl : (roomsOf (numsOf p)).length ≤ 36 := by have := rooms_len h.shape; have := shape_order h.shape; omega
 intro m
 induction m with
 | zero =>
  intro r hr
  rw [List.drop_eq_nil_of_le (by simp; omega)]
  refine Evs.step (h := fun k => (spec_l1Rooms.f k p).bind fun t => if (r : Int) < t then ((spec_l1Room.f k p (r : Int)).bind fun bt161 => ((spec_l1Cells.f k p (r : Int)).bind fun t165 => (if t165 = (wrap64 (bt161.2.2.1 * bt161.2.2.2)) then (spec_PlanIn.l0 k p (wrap64 ((r : Int) + 1))) else (some false)))) else some true) (fun k => ?_) (Evs.bind hR ?_)
  ·conv => lhs; unfold spec_PlanIn.l0
  ·refine Evs.congr (h := fun _ => some true) (fun k => ?_) (Evs.const _)
   try dsimp only
   rw [if_neg (by omega)]
 | succ m ih =>
  intro r hr
  obtain ⟨q1, q2, q3⟩ := h.room r (by omega)
  have hroom := l1Room_ev p _ hsm s1 (r : Int)
  have hcnt := l1Cells_ev p _ hsm (r : Int)
  rw [q1] at hroom
  have hab := area_bound q3 s2 s4
  have hdrop : (List.range (roomsOf (numsOf p)).length).drop r = r :: (List.range (roomsOf (numsOf p)).length).drop (r + 1) := by
   rw [List.drop_eq_getElem_cons (by simp; omega)]
   simp
  rw [hdrop, List.all_cons]
  refine Evs.step (h := fun k => (spec_l1Rooms.f k p).bind fun t => if (r : Int) < t then ((spec_l1Room.f k p (r : Int)).bind fun bt161 => ((spec_l1Cells.f k p (r : Int)).bind fun t165 => (if t165 = (wrap64 (bt161.2.2.1 * bt161.2.2.2)) then (spec_PlanIn.l0 k p (wrap64 ((r : Int) + 1))) else (some false)))) else some true) (fun k => ?_) (Evs.bind hR ?_)
  ·conv => lhs; unfold spec_PlanIn.l0
  ·refine Evs.congr (h := fun k => ((spec_l1Room.f k p (r : Int)).bind fun bt161 => ((spec_l1Cells.f k p (r : Int)).bind fun t165 => (if t165 = (wrap64 (bt161.2.2.1 * bt161.2.2.2)) then (spec_PlanIn.l0 k p (wrap64 ((r : Int) + 1))) else (some false))))) (fun k => ?_) ?_
   ·try dsimp only
    rw [if_pos (by omega)]
   ·refine Evs.bind hroom (Evs.bind hcnt ?_)
    try dsimp only
    have hw : wrap64 (((roomsOf (numsOf p)).getD r zeroR).f2 * ((roomsOf (numsOf p)).getD r zeroR).f3) = areaR ((roomsOf (numsOf p)).getD r zeroR) := by
     have h3 := hab
     unfold areaR at h3 ⊢
     exact wrap64_small (by omega) (by omega)
    rw [hw]
    have hnx := ih (r + 1) (by omega)
    by_cases hf : countN (numsOf p) (wideOf (numsOf p)) (r : Int) (p.length * wideOf (numsOf p)) = areaR ((roomsOf (numsOf p)).getD r zeroR)
    ·have : fullB p r = true := decide_eq_true hf
     rw [this, Bool.true_and]
     refine Evs.congr (fun k => ?_) hnx
     rw [if_pos hf, wrap_succ (by omega)]
    ·have : fullB p r = false := decide_eq_false hf
     rw [this, Bool.false_and]
     refine Evs.congr (h := fun _ => some false) (fun k => ?_) (Evs.const _)
     rw [if_neg hf]
theorem planIn_j0 (k : Nat) (p : List ByteArray) (b : Bool) : spec_PlanIn.j0 (k + 1) p b = if b = true then some false else spec_PlanIn.l0 k p 0 := by simp only [spec_PlanIn.j0]
def planB (p : List ByteArray) : Bool := (floorF p).isSome
theorem settled_shape {rows : List (List Int)} (h : shapeOk rows = true) : settledF rows = if (roomsOf rows).length ≤ 9 then some (canon rows, roomsOf rows, decide (sumArea (roomsOf rows) = (rows.length : Int) * (wideOf rows : Int))) else none := by
 unfold settledF
 rw [if_pos h, cellsOf_canon h]
theorem floorF_grid {p : List ByteArray} (h : gridOk p = true) : floorF p = if (roomsOf (numsOf p)).length ≤ 9 ∧ sumArea (roomsOf (numsOf p)) = (p.length : Int) * (wideOf (numsOf p) : Int) ∧ namesOf p = p then some (canon (numsOf p), roomsOf (numsOf p)) else none := by
 unfold gridOk at h
 rw [Bool.and_eq_true] at h
 unfold floorF readF
 rw [if_pos h.2, settled_shape h.1, numsOf_length]
 by_cases h9 : (roomsOf (numsOf p)).length ≤ 9
 ·rw [if_pos h9]
  simp only [Option.bind_some, decide_eq_true_eq]
  rw [show textOf (canon (numsOf p)) = namesOf p from rfl]
  by_cases hs : sumArea (roomsOf (numsOf p)) = (p.length : Int) * (wideOf (numsOf p) : Int) ∧ namesOf p = p
  ·rw [if_pos hs, if_pos ⟨h9, hs⟩]
  ·rw [if_neg hs, if_neg (fun hh => hs hh.2)]
 ·rw [if_neg h9, if_neg (fun hh => h9 hh.1)]
  rfl
theorem floorF_nogrid {p : List ByteArray} (h : gridOk p = false) : floorF p = none := by
 unfold floorF readF
 unfold gridOk at h
 by_cases ha : p.all okText = true
 ·rw [ha, Bool.and_true] at h
  rw [if_pos ha]
  unfold settledF
  rw [if_neg (by rw [h]; simp)]
  rfl
 ·rw [if_neg ha]
  rfl
theorem PlanIn_ev (p : List ByteArray) (hp : smallP p) : Evs (fun k => spec_PlanIn.f k p) (planB p) := by
 have hg := l1Grid_ev p hp
 cases hG : gridOk p
 ·rw [hG] at hg
  have : planB p = false := by unfold planB; rw [floorF_nogrid hG]; rfl
  rw [this]
  refine Evs.bind hg ?_
  refine Evs.congr (h := fun k => spec_PlanIn.j0 k p true) (fun k => ?_) (Evs.step (h := fun _ => some false) (fun k => ?_) (Evs.const _))
  ·try dsimp only
   rw [if_neg (by simp)]
  ·rw [planIn_j0]
   rw [if_pos rfl]
 ·rw [hG] at hg
  have hs : shapeOk (numsOf p) = true := by
   unfold gridOk at hG
   rw [Bool.and_eq_true] at hG
   exact hG.1
  have hn := l1Names_ev p hp (by have := shape_order hs; omega)
  have hsame := l1Same_ev (namesOf p) p (by simp [namesOf, textOf, canon, canonL, numsOf]; have := hp.1; omega)
  refine Evs.bind hg ?_
  refine Evs.congr (h := fun k => (spec_l1Names.f k p).bind fun t155 => ((spec_l1Same.f k t155 p).bind fun t158 => (if t158 = true then ((spec_l1Rooms.f k p).bind fun t159 => (spec_PlanIn.j0 k p (decide (t159 > 9)))) else (spec_PlanIn.j0 k p true)))) (fun k => ?_) (Evs.bind hn (Evs.bind hsame ?_))
  ·try dsimp only
   rw [if_pos rfl]
  ·unfold planB
   rw [floorF_grid hG]
   by_cases hN : namesOf p = p
   ·have hC : Canon p := ⟨hG, hN⟩
    have hR := l1Rooms_ev p _ (gridOk_small hG)
    rw [hC.max] at hR
    refine Evs.congr (h := fun k => (spec_l1Rooms.f k p).bind fun t159 => (spec_PlanIn.j0 k p (decide (t159 > 9)))) (fun k => ?_) (Evs.bind hR ?_)
    ·try dsimp only
     rw [decide_eq_true hN, if_pos rfl]
    ·by_cases h9 : (roomsOf (numsOf p)).length ≤ 9
     ·refine Evs.step (h := fun k => spec_PlanIn.l0 k p ((0 : Nat) : Int)) (fun k => ?_) ?_
      ·try dsimp only
       rw [planIn_j0]
       rw [decide_eq_false (by omega), if_neg (by simp)]
       rfl
      ·have := planIn_l0 hC (roomsOf (numsOf p)).length 0 (by omega)
       rw [List.drop_zero, full_iff hC] at this
       by_cases hsum : sumArea (roomsOf (numsOf p)) = (p.length : Int) * (wideOf (numsOf p) : Int)
       ·rw [decide_eq_true hsum] at this
        rw [if_pos ⟨h9, hsum, hN⟩]
        exact this
       ·rw [decide_eq_false hsum] at this
        rw [if_neg (fun hh => hsum hh.2.1)]
        exact this
     ·rw [if_neg (fun hh => h9 hh.1)]
      refine Evs.step (h := fun _ => some false) (fun k => ?_) (Evs.const _)
      try dsimp only
      rw [planIn_j0]
      rw [decide_eq_true (by omega), if_pos rfl]
   ·rw [if_neg (fun hh => hN hh.2.2)]
    refine Evs.congr (h := fun k => spec_PlanIn.j0 k p true) (fun k => ?_) (Evs.step (h := fun _ => some false) (fun k => ?_) (Evs.const _))
    ·try dsimp only
     rw [decide_eq_false hN, if_neg (by simp)]
    ·rw [planIn_j0]
     rw [if_pos rfl]
end Go.Proofs.Ytjaolkfjpnpglaa.Hd
namespace Go.Proofs.Ytjaolkfjpnpglaa.Hd
open Go.RowKit Go.Proofs.YtjaolkfjpnpglaaW.PrintWords Go.Proofs.YtjaolkfjpnpglaaW.PrintLast Go.Proofs.YtjaolkfjpnpglaaW.PrintMore Go.Proofs.Ytjaolkfjpnpglaa.PB
set_option linter.unusedVariables false
set_option linter.unusedSimpArgs false
def mapG (f : Int → Int) (rows : List (List Int)) : List (List Int) := rows.map fun r => r.map f
def InjOn (f : Int → Int) (S : Int → Prop) : Prop := ∀ a b, S a → S b → f a = f b → a = b
theorem idxOf_map (f : Int → Int) (S : Int → Prop) (hf : InjOn f S) (x : Int) (hx : S x) : ∀ L : List Int, (∀ y ∈ L, S y) → (L.map f).idxOf (f x) = L.idxOf x
 | [], _ => rfl
 | y :: r, h => by
  rw [List.map_cons, List.idxOf_cons, List.idxOf_cons]
  by_cases he : y = x
  ·subst he; simp
  ·have : f y ≠ f x := fun e => he (hf y x (h y List.mem_cons_self) hx e)
   have h1 : (f y == f x) = false := by simp [this]
   have h2 : (y == x) = false := by simp [he]
   rw [h1, h2, idxOf_map f S hf x hx r (fun z hz => h z (List.mem_cons_of_mem _ hz))]
theorem pushL_map (f : Int → Int) (S : Int → Prop) (hf : InjOn f S) (x : Int) (hx : S x) (o : List Int) (ho : ∀ y ∈ o, S y) : pushL (o.map f) (f x) = (pushL o x).map f := by
 have hiff : f x ∈ o.map f ↔ x ∈ o := by
  rw [List.mem_map]
  constructor
  ·rintro ⟨y, hy, e⟩
   rw [← hf y x (ho y hy) hx e]
   exact hy
  ·exact fun h => ⟨x, h, rfl⟩
 unfold pushL
 by_cases h : x ∈ o
 ·rw [if_pos h, if_pos (hiff.2 h)]
 ·rw [if_neg h, if_neg (fun hh => h (hiff.1 hh))]
  simp
theorem pushL_all {S : Int → Prop} {x : Int} (hx : S x) {o : List Int} (ho : ∀ y ∈ o, S y) : ∀ y ∈ pushL o x, S y := by
 intro y hy
 unfold pushL at hy
 split at hy
 ·exact ho y hy
 ·rcases List.mem_append.1 hy with h | h
  ·exact ho y h
  ·simp at h; subst h; exact hx
theorem ordL_map (f : Int → Int) (S : Int → Prop) (hf : InjOn f S) : ∀ (xs o : List Int), (∀ y ∈ xs, S y) → (∀ y ∈ o, S y) → ordL (xs.map f) (o.map f) = (ordL xs o).map f
 | [], o, _, _ => rfl
 | x :: r, o, h, ho => by
  show ordL (r.map f) (pushL (o.map f) (f x)) = (ordL r (pushL o x)).map f
  have hx := h x List.mem_cons_self
  rw [pushL_map f S hf x hx o ho]
  exact ordL_map f S hf r (pushL o x) (fun z hz => h z (List.mem_cons_of_mem _ hz)) (pushL_all hx ho)
theorem mapG_length (f : Int → Int) (rows : List (List Int)) : (mapG f rows).length = rows.length := by simp [mapG]
theorem mapG_flatten (f : Int → Int) (rows : List (List Int)) : (mapG f rows).flatten = rows.flatten.map f := by
 unfold mapG
 rw [List.map_flatten]
theorem mapG_wide (f : Int → Int) (rows : List (List Int)) : wideOf (mapG f rows) = wideOf rows := by
 unfold wideOf mapG
 cases rows with
 | nil => rfl
 | cons a r => simp
theorem mapG_shape (f : Int → Int) (rows : List (List Int)) : shapeOk (mapG f rows) = shapeOk rows := by
 rw [Bool.eq_iff_iff, shapeOk_iff, shapeOk_iff, mapG_length, mapG_wide]
 have : (∀ r ∈ mapG f rows, r.length = wideOf rows) ↔ (∀ r ∈ rows, r.length = wideOf rows) := by
  constructor
  ·intro h r hr
   have := h (r.map f) (List.mem_map.2 ⟨r, hr, rfl⟩)
   simpa using this
  ·intro h r hr
   obtain ⟨a, ha, rfl⟩ := List.mem_map.1 hr
   rw [List.length_map]
   exact h a ha
 rw [this]
def Vals (rows : List (List Int)) (x : Int) : Prop := x ∈ rows.flatten
theorem ordAll_map {f : Int → Int} {rows : List (List Int)} (hf : InjOn f (Vals rows)) : ordAll (mapG f rows) = (ordAll rows).map f := by
 unfold ordAll
 rw [mapG_flatten]
 exact ordL_map f (Vals rows) hf rows.flatten [] (fun y hy => hy) (by simp)
theorem ordAll_vals (rows : List (List Int)) : ∀ y ∈ ordAll rows, Vals rows y := by
 intro y hy
 rcases ordL_sub _ _ y hy with h | h
 ·cases h
 ·exact h
theorem canon_map {f : Int → Int} {rows : List (List Int)} (hf : InjOn f (Vals rows)) : canon (mapG f rows) = canon rows := by
 unfold canon canonL
 rw [ordAll_map hf]
 unfold mapG
 rw [List.map_map]
 apply List.map_congr_left
 intro r hr
 show (r.map f).map _ = _
 rw [List.map_map]
 apply List.map_congr_left
 intro x hx
 show (((ordAll rows).map f).idxOf (f x) : Int) = _
 rw [idxOf_map f (Vals rows) hf x (List.mem_flatten.2 ⟨r, hr, hx⟩) _ (ordAll_vals rows)]
theorem valAt_map {rows : List (List Int)} {wi r c : Nat} (h : Rect wi rows) (f : Int → Int) (hr : r < rows.length) (hc : c < wi) : valAt (mapG f rows) r c = f (valAt rows r c) := by
 have := congrArg (fun R => valAt R r c) (rect_map h f)
 unfold mapG
 rw [show valAt (rows.map fun r => r.map f) r c = valAt (gridOf rows.length wi fun r c => f (valAt rows r c)) r c from this, valAt_gridOf hr hc]
theorem val_mem {rows : List (List Int)} {wi r c : Nat} (h : Rect wi rows) (hr : r < rows.length) (hc : c < wi) : Vals rows (valAt rows r c) := by
 obtain ⟨row, h1, h2⟩ := valAt_get h hr hc
 exact List.mem_flatten.2 ⟨row, List.mem_of_getElem? h1, List.mem_of_getElem? h2⟩
theorem stAt_map {f : Int → Int} {rows : List (List Int)} {wi : Nat} (h : Rect wi rows) (hf : InjOn f (Vals rows)) : ∀ n, n ≤ rows.length * wi → stAt (mapG f rows) wi n = ((stAt rows wi n).1.map f, (stAt rows wi n).2)
 | 0, _ => rfl
 | n + 1, hn => by
  have hwi : 0 < wi := by
   rcases Nat.eq_zero_or_pos wi with h0 | h0
   ·subst h0; simp at hn
   ·exact h0
  have hr : n / wi < rows.length := by rw [Nat.div_lt_iff_lt_mul hwi]; omega
  have hc := Nat.mod_lt n hwi
  have hvals : ∀ y ∈ (stAt rows wi n).1, Vals rows y := by
   rw [stAt_ord h n (by omega)]
   intro y hy
   rcases ordL_sub _ _ y hy with h1 | h1
   ·cases h1
   ·exact List.mem_of_mem_take h1
  have hv := val_mem h hr hc
  simp only [stAt]
  rw [stAt_map h hf n (by omega), valAt_map h f hr hc]
  have hiff : f (valAt rows (n / wi) (n % wi)) ∈ (stAt rows wi n).1.map f ↔ valAt rows (n / wi) (n % wi) ∈ (stAt rows wi n).1 := by
   rw [List.mem_map]
   constructor
   ·rintro ⟨y, hy, e⟩
    rw [← hf y _ (hvals y hy) hv e]
    exact hy
   ·exact fun h => ⟨_, h, rfl⟩
  unfold stepS
  by_cases hm : valAt rows (n / wi) (n % wi) ∈ (stAt rows wi n).1
  ·rw [if_pos hm, if_pos (hiff.2 hm)]
   simp only
   rw [idxOf_map f (Vals rows) hf _ hv _ hvals]
  ·rw [if_neg hm, if_neg (fun hh => hm (hiff.1 hh))]
   simp
theorem rooms_map {f : Int → Int} {rows : List (List Int)} (hs : shapeOk rows = true) (hf : InjOn f (Vals rows)) : roomsOf (mapG f rows) = roomsOf rows := by
 unfold roomsOf
 rw [mapG_length, mapG_wide, stAt_map (shape_rect hs) hf _ (Nat.le_refl _)]
theorem settled_map {f : Int → Int} {rows : List (List Int)} (hf : InjOn f (Vals rows)) : settledF (mapG f rows) = settledF rows := by
 by_cases hs : shapeOk rows = true
 ·rw [settled_shape hs, settled_shape (by rw [mapG_shape]; exact hs), rooms_map hs hf, canon_map hf, mapG_length, mapG_wide]
 ·unfold settledF
  rw [if_neg hs, if_neg (by rw [mapG_shape]; exact hs)]
theorem plan_map {f : Int → Int} {rows : List (List Int)} (hf : InjOn f (Vals rows)) : planF (mapG f rows) = planF rows := by
 unfold planF
 rw [settled_map hf]
def doneF (t : List ByteArray) : List ByteArray × Bool := if t.all okText = true then planF (numsOf t) else ([], false)
theorem planF_shape {rows : List (List Int)} (h : shapeOk rows = true) : planF rows = if (roomsOf rows).length ≤ 9 ∧ sumArea (roomsOf rows) = (rows.length : Int) * (wideOf rows : Int) then (textOf (canon rows), true) else ([], false) := by
 unfold planF
 rw [settled_shape h]
 by_cases h9 : (roomsOf rows).length ≤ 9
 ·rw [if_pos h9]
  by_cases hs : sumArea (roomsOf rows) = (rows.length : Int) * (wideOf rows : Int)
  ·rw [decide_eq_true hs, if_pos ⟨h9, hs⟩]
  ·rw [decide_eq_false hs, if_neg (fun hh => hs hh.2)]
 ·rw [if_neg h9, if_neg (fun hh => h9 hh.1)]
theorem planF_noshape {rows : List (List Int)} (h : shapeOk rows = false) : planF rows = ([], false) := by
 unfold planF settledF
 rw [if_neg (by rw [h]; simp)]
theorem names_nums {rows : List (List Int)} (h : shapeOk rows = true) : numsOf (textOf (canon rows)) = mapG (fun x => 97 + ((ordAll rows).idxOf x : Int)) rows := by
 rw [numsOf_textOf _ (canon_val h)]
 unfold canon canonL mapG
 rw [List.map_map]
 apply List.map_congr_left
 intro r hr
 show (r.map _).map _ = _
 rw [List.map_map]
 rfl
theorem names_inj (rows : List (List Int)) : InjOn (fun x => 97 + ((ordAll rows).idxOf x : Int)) (Vals rows) := by
 intro a b ha hb e
 have e2 : (ordAll rows).idxOf a = (ordAll rows).idxOf b := by
  have : (97 : Int) + ((ordAll rows).idxOf a : Int) = 97 + ((ordAll rows).idxOf b : Int) := e
  omega
 have h1 := List.idxOf_lt_length_of_mem (ordL_mem rows.flatten [] a ha)
 have h2 := List.idxOf_lt_length_of_mem (ordL_mem rows.flatten [] b hb)
 have e3 : (ordAll rows)[(ordAll rows).idxOf a]'h1 = a := List.getElem_idxOf h1
 have e4 : (ordAll rows)[(ordAll rows).idxOf b]'h2 = b := List.getElem_idxOf h2
 rw [← e3, ← e4]
 congr 1
theorem names_plan {rows : List (List Int)} (h : shapeOk rows = true) : planB (textOf (canon rows)) = decide ((roomsOf rows).length ≤ 9 ∧ sumArea (roomsOf rows) = (rows.length : Int) * (wideOf rows : Int)) := by
 have hn := names_nums h
 have hinj := names_inj rows
 have hl : (textOf (canon rows)).length = rows.length := by simp [textOf, canon, canonL]
 have hnm : namesOf (textOf (canon rows)) = textOf (canon rows) := by
  unfold namesOf
  rw [hn, canon_map hinj]
 unfold planB
 cases hG : gridOk (textOf (canon rows))
 ·rw [floorF_nogrid hG]
  have : ¬ (roomsOf rows).length ≤ 9 := by
   intro h9
   have hL := rooms_len h
   have ht : gridOk (textOf (canon rows)) = true := by
    unfold gridOk
    rw [Bool.and_eq_true, hn, mapG_shape]
    refine ⟨h, ?_⟩
    rw [List.all_eq_true]
    intro s hs
    obtain ⟨r, hr, rfl⟩ := List.mem_map.1 hs
    unfold okText
    rw [bytesOf_rowText r (canon_val h r hr), List.all_eq_true]
    intro x hx
    obtain ⟨y, hy, rfl⟩ := List.mem_map.1 hx
    unfold canon canonL at hr
    obtain ⟨r0, hr0, rfl⟩ := List.mem_map.1 hr
    obtain ⟨z, hz, rfl⟩ := List.mem_map.1 hy
    have := List.idxOf_lt_length_of_mem (ordL_mem rows.flatten [] z (List.mem_flatten.2 ⟨r0, hr0, hz⟩))
    have h3 : (ordAll rows).idxOf z < (ordAll rows).length := this
    simp only [okLetter, Bool.not_eq_true', Bool.or_eq_false_iff, decide_eq_false_iff_not]
    omega
   rw [hG] at ht
   cases ht
  rw [decide_eq_false (fun hh => this hh.1)]
  rfl
 ·rw [floorF_grid hG, hn, rooms_map h hinj, mapG_wide, hl]
  by_cases hc : (roomsOf rows).length ≤ 9 ∧ sumArea (roomsOf rows) = (rows.length : Int) * (wideOf rows : Int)
  ·rw [if_pos ⟨hc.1, hc.2, hnm⟩, decide_eq_true hc]
   rfl
  ·rw [if_neg (fun hh => hc ⟨hh.1, hh.2.1⟩), decide_eq_false hc]
   rfl
theorem l1Done_j0 (k : Nat) (p : List ByteArray) (b : Bool) : spec_l1Done.j0 (k + 1) p b = if b = true then ((spec_l1None.f).bind fun bt177 => (some (bt177.1, bt177.2))) else ((spec_l1Names.f k p).bind fun t181 => (some (t181, true))) := by simp only [spec_l1Done.j0]
theorem l1None_f : spec_l1None.f = some ([], false) := rfl
theorem small_names {p : List ByteArray} (hp : smallP p) : smallP (namesOf p) := by
 have hl : (namesOf p).length = p.length := by simp [namesOf, textOf, canon, canonL, numsOf]
 refine ⟨by rw [hl]; exact hp.1, fun s hs => ?_⟩
 unfold namesOf textOf canon canonL numsOf at hs
 rw [List.map_map, List.map_map] at hs
 obtain ⟨s0, h0, rfl⟩ := List.mem_map.1 hs
 have := hp.2 s0 h0
 have hb := bytesOf_length s0
 show (rowText _).size ≤ _
 unfold rowText rowBytes
 show ((List.map letterOf (List.map _ (bytesOf s0))).toArray).size ≤ _
 simp
 omega
theorem l1Done_ev (t : List ByteArray) (hp : smallP t) : Evs (fun k => spec_l1Done.f k t) (doneF t) := by
 have hg := l1Grid_ev t hp
 cases hG : gridOk t
 ·rw [hG] at hg
  have hd : doneF t = ([], false) := by
   unfold doneF
   unfold gridOk at hG
   by_cases ha : t.all okText = true
   ·rw [ha, Bool.and_true] at hG
    rw [if_pos ha, planF_noshape hG]
   ·rw [if_neg ha]
  rw [hd]
  refine Evs.bind hg ?_
  refine Evs.congr (h := fun k => spec_l1Done.j0 k t true) (fun k => ?_) (Evs.step (h := fun _ => some ([], false)) (fun k => ?_) (Evs.const _))
  ·rw [if_neg (by simp)]
  ·rw [l1Done_j0, if_pos rfl, l1None_f]
   rfl
 ·rw [hG] at hg
  have hG2 := hG
  unfold gridOk at hG2
  rw [Bool.and_eq_true] at hG2
  have hs := hG2.1
  have hd : doneF t = if (roomsOf (numsOf t)).length ≤ 9 ∧ sumArea (roomsOf (numsOf t)) = ((numsOf t).length : Int) * (wideOf (numsOf t) : Int) then (namesOf t, true) else ([], false) := by
   unfold doneF
   rw [if_pos hG2.2, planF_shape hs]
   rfl
  have hn := l1Names_ev t hp (by have := shape_order hs; omega)
  have hpl := PlanIn_ev (namesOf t) (small_names hp)
  rw [show planB (namesOf t) = _ from names_plan hs] at hpl
  rw [hd]
  refine Evs.bind hg ?_
  refine Evs.congr (h := fun k => (spec_l1Names.f k t).bind fun t173 => ((spec_PlanIn.f k t173).bind fun t176 => (spec_l1Done.j0 k t (!t176)))) (fun k => ?_) (Evs.bind hn (Evs.bind hpl ?_))
  ·rw [if_pos rfl]
  ·by_cases hc : (roomsOf (numsOf t)).length ≤ 9 ∧ sumArea (roomsOf (numsOf t)) = ((numsOf t).length : Int) * (wideOf (numsOf t) : Int)
   ·rw [if_pos hc, decide_eq_true hc]
    refine Evs.step (h := fun k => (spec_l1Names.f k t).bind fun t181 => (some (t181, true))) (fun k => ?_) (Evs.bind hn (Evs.const _))
    rw [l1Done_j0, if_neg (by simp)]
   ·rw [if_neg hc, decide_eq_false hc]
    refine Evs.step (h := fun _ => some ([], false)) (fun k => ?_) (Evs.const _)
    rw [l1Done_j0, if_pos (by simp), l1None_f]
    rfl
end Go.Proofs.Ytjaolkfjpnpglaa.Hd
namespace Go.Proofs.Ytjaolkfjpnpglaa.Hd
open Go.RowKit Go.Proofs.YtjaolkfjpnpglaaW.PrintWords Go.Proofs.YtjaolkfjpnpglaaW.PrintLast Go.Proofs.YtjaolkfjpnpglaaW.PrintMore Go.Proofs.Ytjaolkfjpnpglaa.PB
set_option linter.unusedVariables false
set_option linter.unusedSimpArgs false
section
variable {α : Type} {g h : Nat → Option α} {r : α} {c : Prop} [Decidable c]
theorem Evs.pos (hc : c) (hg : Evs g r) : Evs (fun k => if c then g k else h k) r := Evs.congr (fun k => if_pos hc) hg
theorem Evs.neg (hc : ¬ c) (hh : Evs h r) : Evs (fun k => if c then g k else h k) r := Evs.congr (fun k => if_neg hc) hh
end
theorem textOf_len (cs : List (List Int)) : (textOf cs).length = cs.length := by simp [textOf]
theorem planF_len (rows : List (List Int)) : (planF rows).1.length ≤ 6 := by
 cases h : shapeOk rows with
 | false => rw [planF_noshape h]; simp
 | true =>
  rw [planF_shape h]
  split
  ·obtain ⟨h1, h2, h3⟩ := (shapeOk_iff _).1 h
   simp [textOf_len, canon, canonL]
   omega
  ·simp
theorem ite_len {c : Prop} [Decidable c] {x : List (List Int)} : (if c then planF x else ([], false)).1.length ≤ 6 := by
 split
 ·exact planF_len _
 ·simp
def fits (p : List ByteArray) : Prop := p.length ≤ 9223372036854775807 ∧ ∀ s ∈ p, s.size ≤ 9223372036854775807
theorem sz_loop (l : List ByteArray) (hl : l.length ≤ 1048576) (hs : ∀ s ∈ l, s.size ≤ 9223372036854775807) : ∀ m i (a : Int), i + m = l.length → 0 ≤ a → a ≤ 1048576 → (∀ j, j < i → ∀ s, l[j]? = some s → s.size ≤ 1048576) → ∃ v, Evs (fun k => laws_szStringS.l0 k l a (i : Int)) v ∧ (v < 0 ∨ (smallP l ∧ 0 ≤ v ∧ v ≤ a)) := by
 intro m
 induction m with
 | zero =>
  intro i a hi h0 h1 hj
  refine ⟨a, Evs.step (h := fun _ => some a) (fun k => ?_) (Evs.const _), .inr ⟨⟨hl, fun s hs => ?_⟩, h0, Int.le_refl _⟩⟩
  ·conv => lhs; unfold laws_szStringS.l0
   rw [if_neg (by omega)]
  ·obtain ⟨j, hj2, e⟩ := List.mem_iff_getElem.1 hs
   exact hj j (by omega) s (by rw [List.getElem?_eq_getElem hj2, e])
 | succ m ih =>
  intro i a hi h0 h1 hj
  obtain ⟨s, hsi⟩ : ∃ s, l[i]? = some s := ⟨_, List.getElem?_eq_getElem (by omega)⟩
  have hsz := hs s (List.mem_of_getElem? hsi)
  by_cases hneg : a - (s.size : Int) < 0
  ·refine ⟨-1, Evs.step (h := fun _ => some (-1)) (fun k => ?_) (Evs.const _), .inl (by omega)⟩
   conv => lhs; unfold laws_szStringS.l0
   rw [if_pos (by omega), if_pos (by omega), rdOf_at hsi, wrap64_small (by omega) (by omega), if_pos hneg]
  ·obtain ⟨v, hv, hor⟩ := ih (i + 1) (a - (s.size : Int)) (by omega) (by omega) (by omega) (fun j hj1 s1 h1 => by
    rcases Nat.lt_or_eq_of_le (Nat.lt_succ_iff.1 hj1) with h2 | h2
    ·exact hj j h2 s1 h1
    ·subst h2
     rw [hsi] at h1
     have := Option.some.inj h1
     subst this
     omega)
   refine ⟨v, Evs.step (h := fun k => laws_szStringS.l0 k l (a - (s.size : Int)) ((i + 1 : Nat) : Int)) (fun k => ?_) hv, ?_⟩
   ·conv => lhs; unfold laws_szStringS.l0
    rw [if_pos (by omega), if_pos (by omega), rdOf_at hsi, wrap64_small (x := a - (s.size : Int)) (by omega) (by omega), if_neg hneg, wrap_succ (by omega)]
   ·rcases hor with h | ⟨h2, h3, h4⟩
    ·exact .inl h
    ·exact .inr ⟨h2, h3, by omega⟩
theorem sz_ev (l : List ByteArray) (hf : fits l) (a : Int) (h0 : 0 ≤ a) (h1 : a ≤ 1048576) : ∃ v, Evs (fun k => laws_szStringS.f k l a) v ∧ (v < 0 ∨ (smallP l ∧ 0 ≤ v ∧ v ≤ a)) := by
 have hl := hf.1
 by_cases hneg : a - (l.length : Int) < 0
 ·refine ⟨-1, Evs.congr (h := fun _ => some (-1)) (fun k => ?_) (Evs.const _), .inl (by omega)⟩
  unfold laws_szStringS.f
  rw [wrap64_small (by omega) (by omega), if_pos hneg]
 ·obtain ⟨v, hv, hor⟩ := sz_loop l (by omega) hf.2 l.length 0 (a - (l.length : Int)) (by omega) (by omega) (by omega) (fun j hj => by omega)
  refine ⟨v, Evs.congr (fun k => ?_) hv, ?_⟩
  ·unfold laws_szStringS.f
   rw [wrap64_small (by omega) (by omega), if_neg hneg]
   rfl
  ·rcases hor with h | ⟨h2, h3, h4⟩
   ·exact .inl h
   ·exact .inr ⟨h2, h3, by omega⟩
theorem to_loop (l : List ByteArray) (hl : l.length ≤ 1048576) : ∀ m i, i + m = l.length → Evs (fun k => laws_toStringS.l0 k l (l.take i ++ List.replicate m (⟨#[]⟩ : ByteArray)) (i : Int)) l := by
 intro m
 induction m with
 | zero =>
  intro i hi
  refine Evs.step (h := fun _ => some l) (fun k => ?_) (Evs.const _)
  conv => lhs; unfold laws_toStringS.l0
  rw [if_neg (by omega), List.take_of_length_le (by omega)]
  simp
 | succ m ih =>
  intro i hi
  obtain ⟨s, hsi⟩ : ∃ s, l[i]? = some s := ⟨_, List.getElem?_eq_getElem (by omega)⟩
  refine Evs.step (h := fun k => laws_toStringS.l0 k l (l.take (i + 1) ++ List.replicate m (⟨#[]⟩ : ByteArray)) ((i + 1 : Nat) : Int)) (fun k => ?_) (ih (i + 1) (by omega))
  conv => lhs; unfold laws_toStringS.l0
  have hset : (l.take i ++ List.replicate (m + 1) (⟨#[]⟩ : ByteArray)).set i s = l.take (i + 1) ++ List.replicate m (⟨#[]⟩ : ByteArray) := by
   rw [List.set_append_right _ _ (by simp; omega), show i - (l.take i).length = 0 by simp; omega, List.replicate_succ, List.set_cons_zero, List.take_add_one, hsi]
   simp
  rw [if_pos (by omega), if_pos (by omega), if_pos (by simp; omega), rdOf_at hsi, Int.toNat_natCast, hset, wrap_succ (by omega)]
theorem toS_ev (l : List ByteArray) (hl : l.length ≤ 1048576) : Evs (fun k => laws_toStringS.f k l) l := by
 refine Evs.congr (fun k => ?_) (to_loop l hl l.length 0 (by omega))
 unfold laws_toStringS.f
 rw [if_pos (by omega), if_pos (by omega), Int.toNat_natCast]
 simp
theorem eq_loop (p q : List ByteArray) (hl : p.length = q.length) (hb : p.length ≤ 1048576) : ∀ m i, i + m = p.length → p.take i = q.take i → Evs (fun k => laws_eqStringS.l0 k p q (i : Int)) (decide (p = q)) := by
 intro m
 induction m with
 | zero =>
  intro i hi ht
  have e : p = q := by
   rw [show i = p.length by omega, List.take_length, hl, List.take_length] at ht
   exact ht
  refine Evs.step (h := fun _ => some (decide (p = q))) (fun k => ?_) (Evs.const _)
  conv => lhs; unfold laws_eqStringS.l0
  rw [if_neg (by omega), decide_eq_true e]
 | succ m ih =>
  intro i hi ht
  by_cases he : p[i] = q[i]
  ·refine Evs.step (h := fun k => laws_eqStringS.l0 k p q ((i + 1 : Nat) : Int)) (fun k => ?_) (ih (i + 1) (by omega) (by
    rw [List.take_add_one, List.take_add_one, ht, List.getElem?_eq_getElem (by omega), List.getElem?_eq_getElem (by omega), he]))
   conv => lhs; unfold laws_eqStringS.l0
   rw [if_pos (by omega), if_pos (by omega), if_pos (by omega), rdOf_get p i (by omega), rdOf_get q i (by omega), if_pos (toList_inj.2 he), wrap_succ (by omega)]
  ·have hne : p ≠ q := by rintro rfl; exact he rfl
   refine Evs.step (h := fun _ => some (decide (p = q))) (fun k => ?_) (Evs.const _)
   conv => lhs; unfold laws_eqStringS.l0
   rw [if_pos (by omega), if_pos (by omega), if_pos (by omega), rdOf_get p i (by omega), rdOf_get q i (by omega), if_neg (fun h => he (toList_inj.1 h)), decide_eq_false hne]
theorem eqS_ev (p q : List ByteArray) (hb : p.length ≤ 1048576) : Evs (fun k => laws_eqStringS.f k p q) (decide (p = q)) := by
 by_cases h : p.length = q.length
 ·refine Evs.congr (fun k => ?_) (eq_loop p q h hb p.length 0 (by omega) (by simp))
  unfold laws_eqStringS.f
  rw [if_pos (by omega)]
  rfl
 ·have hne : p ≠ q := by rintro rfl; exact h rfl
  refine Evs.congr (h := fun _ => some (decide (p = q))) (fun k => ?_) (Evs.const _)
  unfold laws_eqStringS.f
  rw [if_neg (by omega), decide_eq_false hne]
theorem eqS_same (p : List ByteArray) (hb : p.length ≤ 1048576) : Evs (fun k => laws_eqStringS.f k p p) true := by
 have := eqS_ev p p hb
 rwa [decide_eq_true rfl] at this
theorem append_size (a b : ByteArray) : (a ++ b).size = a.size + b.size := by simp
theorem mark_loop : ∀ (B n : Nat) (out : ByteArray), n ≤ B → out.size + n ≤ 1099511627776 → ∃ s, Evs (fun k => laws_markText.l0 k (n : Int) out) s
 | 0, n, out, hn, hb => by
  refine ⟨(⟨#[109]⟩ : ByteArray) ++ out, Evs.step (h := fun _ => some ((⟨#[109]⟩ : ByteArray) ++ out)) (fun k => ?_) (Evs.const _)⟩
  conv => lhs; unfold laws_markText.l0
  rw [if_neg (by omega), if_pos (by omega)]
 | B + 1, n, out, hn, hb => by
  rcases Nat.eq_zero_or_pos n with h0 | h0
  ·subst h0
   refine ⟨(⟨#[109]⟩ : ByteArray) ++ out, Evs.step (h := fun _ => some ((⟨#[109]⟩ : ByteArray) ++ out)) (fun k => ?_) (Evs.const _)⟩
   conv => lhs; unfold laws_markText.l0
   rw [if_neg (by omega), if_pos (by omega)]
  ·have hsz : (strOfNums [(wrap64 (48 + (Int.tmod (n : Int) 10))) % 256]).size = 1 := rfl
   obtain ⟨s, hs⟩ := mark_loop B (n / 10) (strOfNums [(wrap64 (48 + (Int.tmod (n : Int) 10))) % 256] ++ out) (by omega) (by rw [append_size, hsz]; omega)
   refine ⟨s, Evs.step (h := fun k => laws_markText.l0 k ((n / 10 : Nat) : Int) (strOfNums [(wrap64 (48 + (Int.tmod (n : Int) 10))) % 256] ++ out)) (fun k => ?_) hs⟩
   conv => lhs; unfold laws_markText.l0
   have hd : Int.tdiv (n : Int) 10 = ((n / 10 : Nat) : Int) := by rw [Int.tdiv_eq_ediv_of_nonneg (by omega)]; omega
   rw [if_pos (by omega)]
   simp only [Option.bind_some]
   rw [hsz, if_pos (by omega), hd, wrap64_small (x := ((n / 10 : Nat) : Int)) (by omega) (by omega)]
theorem mark_ex (n : Nat) : ∃ s, n ≤ 1099511627776 → Evs (fun k => laws_markText.f k (n : Int)) s := by
 by_cases hn : n ≤ 1099511627776
 ·rcases Nat.eq_zero_or_pos n with h0 | h0
  ·subst h0
   refine ⟨⟨#[109, 48]⟩, fun _ => Evs.congr (h := fun _ => some (⟨#[109, 48]⟩ : ByteArray)) (fun k => ?_) (Evs.const _)⟩
   unfold laws_markText.f
   rw [if_pos (by omega)]
  ·obtain ⟨s, hs⟩ := mark_loop n n ⟨#[]⟩ (Nat.le_refl _) (by show 0 + n ≤ _; omega)
   refine ⟨s, fun _ => Evs.congr (fun k => ?_) hs⟩
   unfold laws_markText.f
   rw [if_neg (by omega)]
 ·exact ⟨⟨#[]⟩, fun h => absurd h hn⟩
noncomputable def mkT (n : Nat) : ByteArray := (mark_ex n).choose
theorem mkT_ev (n : Nat) (hn : n ≤ 1099511627776) : Evs (fun k => laws_markText.f k (n : Int)) (mkT n) := (mark_ex n).choose_spec hn
noncomputable def marksOf (a n : Nat) : List ByteArray := (List.range n).map fun i => mkT (a + i)
theorem marksOf_length (a n : Nat) : (marksOf a n).length = n := by simp [marksOf]
theorem markS_loop (l : List ByteArray) (hl : l.length ≤ 1048576) (a : Nat) (ha : a ≤ 2097153) : ∀ m i, i + m = l.length → Evs (fun k => laws_markStringS.l0 k (marksOf a i ++ l.drop i) ((a + i : Nat) : Int) (i : Int)) (((a + l.length : Nat) : Int), marksOf a l.length) := by
 intro m
 induction m with
 | zero =>
  intro i hi
  obtain rfl : i = l.length := by omega
  refine Evs.step (h := fun _ => some (((a + l.length : Nat) : Int), marksOf a l.length)) (fun k => ?_) (Evs.const _)
  conv => lhs; unfold laws_markStringS.l0
  rw [if_neg (by simp [marksOf_length])]
  simp
 | succ m ih =>
  intro i hi
  have hset : (marksOf a i ++ l.drop i).set i (mkT (a + i)) = marksOf a (i + 1) ++ l.drop (i + 1) := by
   rw [List.set_append_right _ _ (by rw [marksOf_length]; exact Nat.le_refl _), marksOf_length, Nat.sub_self, List.drop_eq_getElem_cons (by omega), List.set_cons_zero]
   unfold marksOf
   rw [List.range_succ, List.map_append]
   simp
  refine Evs.step (h := fun k => (laws_markText.f k ((a + i : Nat) : Int)).bind fun t220 => laws_markStringS.l0 k ((marksOf a i ++ l.drop i).set i t220) ((a + (i + 1) : Nat) : Int) ((i + 1 : Nat) : Int)) (fun k => ?_) (Evs.bind (mkT_ev (a + i) (by omega)) (by rw [hset]; exact ih (i + 1) (by omega)))
  conv => lhs; unfold laws_markStringS.l0
  rw [if_pos (by simp [marksOf_length]; omega)]
  congr 1
  funext t
  have e : wrap64 (((a + i : Nat) : Int) + 1) = ((a + (i + 1) : Nat) : Int) := by rw [wrap64_small (by omega) (by omega)]; omega
  rw [if_pos (by omega), Int.toNat_natCast, wrap_succ (i := i) (by omega), e]
theorem markS_ev (l : List ByteArray) (hl : l.length ≤ 1048576) (a : Nat) (ha : a ≤ 2097153) : Evs (fun k => laws_markStringS.f k l (a : Int)) (((a + l.length : Nat) : Int), marksOf a l.length) := by
 have := markS_loop l hl a ha l.length 0 (by omega)
 refine Evs.congr (fun k => ?_) this
 unfold laws_markStringS.f
 simp [marksOf]
theorem heldS_loop (n : Nat) (hl : n ≤ 1048576) (a : Nat) (ha : a ≤ 2097153) : ∀ m i, i + m = n → Evs (fun k => laws_heldStringS.l0 k (marksOf a n) ((a + i : Nat) : Int) (i : Int)) ((a + n : Nat) : Int) := by
 intro m
 induction m with
 | zero =>
  intro i hi
  obtain rfl : i = n := by omega
  refine Evs.step (h := fun _ => some ((a + i : Nat) : Int)) (fun k => ?_) (Evs.const _)
  conv => lhs; unfold laws_heldStringS.l0
  rw [if_neg (by simp [marksOf_length])]
 | succ m ih =>
  intro i hi
  have hget : (marksOf a n)[i]? = some (mkT (a + i)) := by
   unfold marksOf
   rw [List.getElem?_map, List.getElem?_range (by omega)]
   rfl
  refine Evs.step (h := fun k => (laws_markText.f k ((a + i : Nat) : Int)).bind fun t223 => if (mkT (a + i)).toList = t223.toList then laws_heldStringS.l0 k (marksOf a n) ((a + (i + 1) : Nat) : Int) ((i + 1 : Nat) : Int) else some (-1)) (fun k => ?_) (Evs.bind (mkT_ev (a + i) (by omega)) (Evs.congr (fun k => ?_) (ih (i + 1) (by omega))))
  ·conv => lhs; unfold laws_heldStringS.l0
   rw [if_pos (by rw [marksOf_length]; omega), if_pos (by omega)]
   congr 1
   funext t
   have e : wrap64 (((a + i : Nat) : Int) + 1) = ((a + (i + 1) : Nat) : Int) := by rw [wrap64_small (by omega) (by omega)]; omega
   rw [rdOf_at hget, wrap_succ (i := i) (by omega), e]
  ·rw [if_pos rfl]
theorem heldS_ev (n : Nat) (hl : n ≤ 1048576) (a : Nat) (ha : a ≤ 2097153) : Evs (fun k => laws_heldStringS.f k (marksOf a n) (a : Int)) ((a + n : Nat) : Int) := heldS_loop n hl a ha n 0 (by omega)
end Go.Proofs.Ytjaolkfjpnpglaa.Hd
namespace Go.Proofs.Ytjaolkfjpnpglaa.Hd
open Go.RowKit Go.Proofs.YtjaolkfjpnpglaaW.PrintWords Go.Proofs.YtjaolkfjpnpglaaW.PrintLast Go.Proofs.YtjaolkfjpnpglaaW.PrintMore Go.Proofs.Ytjaolkfjpnpglaa.PB
set_option linter.unusedVariables false
set_option linter.unusedSimpArgs false
theorem splitF_len (p : List ByteArray) (a : Int) (t : ByteArray) (b : Int) : (splitF p a t b).1.length ≤ 6 := by
 unfold splitF
 split
 ·simp
 ·split
  ·exact ite_len
  ·simp
def impl_PlanSplit.f (l0 : List ByteArray) (a1 : Int) (a2 : ByteArray) (a3 : Int) : Option (List ByteArray × Bool) := if smallB l0 = true then some (splitF l0 a1 a2 a3) else none
theorem impl_PlanSplit.calls (A0 : Option Addr) (c0 : Nat) (l0 : List ByteArray) (a1 : Int) (a2 : ByteArray) (a3 : Int) (r1 : List ByteArray) (r2 : Bool) (w : World) (hr0 : Kd.C Kd.string w A0 l0.length l0) (hc0 : l0.length ≤ c0) (h : impl_PlanSplit.f l0 a1 a2 a3 = some (r1, r2)) :
  Calls Try.prog 31 #[.slice A0 l0.length c0, .int .i64 a1, .string a2, .int .i64 a3] w fun e w' => ∃ v0_ : Value, e = .returned (.tuple #[v0_, .bool r2]) ∧ Kd.R Kd.string 9 w' w.heap.size (fun _ => True) v0_ r1 ∧ Below w.heap.size w w' := by
 unfold impl_PlanSplit.f at h
 split at h
 ·rename_i hs
  have e := Option.some.inj h
  have := PlanSplit_calls A0 c0 l0 a1 a2 a3 w hr0 hc0 ((smallB_iff _).1 hs)
  rw [e] at this
  exact this
 ·cases h
end Go.Proofs.Ytjaolkfjpnpglaa.Hd
namespace Go.Proofs.Ytjaolkfjpnpglaa.Hd
open Go.RowKit Go.Proofs.YtjaolkfjpnpglaaW.PrintWords Go.Proofs.YtjaolkfjpnpglaaW.PrintLast Go.Proofs.YtjaolkfjpnpglaaW.PrintMore Go.Proofs.Ytjaolkfjpnpglaa.PB
set_option linter.unusedVariables false
set_option linter.unusedSimpArgs false
def putN (xs : List Int) (l n : Nat) (c : Int) : List Int := xs.mapIdx fun k x => if l ≤ k ∧ k < l + n then c else x
def putS (s : ByteArray) (l n : Nat) (c : Int) : ByteArray := strOfNums (putN (bytesOf s) l n c)
def putR (xs : List ByteArray) (t n l m : Nat) (c : Int) : List ByteArray := xs.mapIdx fun k s => if t ≤ k ∧ k < t + n then putS s l m c else s
theorem putN_length (xs : List Int) (l n : Nat) (c : Int) : (putN xs l n c).length = xs.length := by simp [putN]
theorem putN_zero (xs : List Int) (l : Nat) (c : Int) : putN xs l 0 c = xs := by
 unfold putN
 apply List.ext_getElem
 ·simp
 ·intro i h1 h2
  simp only [List.getElem_mapIdx]
  rw [if_neg (by omega)]
theorem putN_succ (xs : List Int) (l n : Nat) (c : Int) : (putN xs l n c).set (l + n) c = putN xs l (n + 1) c := by
 unfold putN
 apply List.ext_getElem
 ·simp
 ·intro i h1 h2
  rw [List.getElem_set]
  simp only [List.getElem_mapIdx]
  by_cases h : l + n = i
  ·rw [if_pos h, if_pos (by omega)]
  ·rw [if_neg h]
   by_cases h3 : l ≤ i ∧ i < l + n
   ·rw [if_pos h3, if_pos (by omega)]
   ·rw [if_neg h3, if_neg (by omega)]
theorem putR_length (xs : List ByteArray) (t n l m : Nat) (c : Int) : (putR xs t n l m c).length = xs.length := by simp [putR]
theorem putR_zero (xs : List ByteArray) (t l m : Nat) (c : Int) : putR xs t 0 l m c = xs := by
 unfold putR
 apply List.ext_getElem
 ·simp
 ·intro i h1 h2
  simp only [List.getElem_mapIdx]
  rw [if_neg (by omega)]
theorem putR_succ (xs : List ByteArray) (t n l m : Nat) (c : Int) : (putR xs t n l m c).set (t + n) (putS (xs.getD (t + n) ByteArray.empty) l m c) = putR xs t (n + 1) l m c := by
 unfold putR
 apply List.ext_getElem
 ·simp
 ·intro i h1 h2
  rw [List.getElem_set]
  simp only [List.getElem_mapIdx]
  by_cases h : t + n = i
  ·subst h
   rw [if_pos rfl, if_pos (by omega)]
   congr 1
   have h3 : t + n < xs.length := by simpa using h2
   simp [List.getD_eq_getElem?_getD, h3]
  ·rw [if_neg h]
   by_cases h3 : t ≤ i ∧ i < t + n
   ·rw [if_pos h3, if_pos (by omega)]
   ·rw [if_neg h3, if_neg (by omega)]
theorem putR_at (xs : List ByteArray) (t n l m : Nat) (c : Int) : (putR xs t n l m c).getD (t + n) ByteArray.empty = xs.getD (t + n) ByteArray.empty := by
 unfold putR
 simp only [List.getD_eq_getElem?_getD, List.getElem?_mapIdx]
 cases h : xs[t + n]? with
 | none => rfl
 | some x =>
  simp only [Option.map_some, Option.getD_some]
  rw [if_neg (by omega)]
def putOk (l0 : List ByteArray) (t l h m : Int) (c : Int) : Bool :=
 decide (0 ≤ t) && decide (0 ≤ l) && decide (0 ≤ h) && decide (0 ≤ m) && decide (0 ≤ c) && decide (c ≤ 255) && decide (l0.length ≤ 1048576) && decide (t + h ≤ l0.length) && decide (l ≤ 1048576) && decide (m ≤ 1048576) && (l0.all fun s => decide (l + m ≤ s.size) && decide (s.size ≤ 1048576))
def spec_l1Put.f (l0 : List ByteArray) (a1 a2 a3 a4 a5 : Int) : Option (List ByteArray) :=
 if putOk l0 a1 a2 a3 a4 a5 = true then some (putR l0 a1.toNat a3.toNat a2.toNat a4.toNat a5) else none
set_option maxHeartbeats 4000000 in
set_option maxRecDepth 100000 in
theorem l1Put_walk (A0 : Option Addr) (c0 : Nat) (l0 : List ByteArray) (t l h m : Nat) (c : Int) (w : World) (hr0 : Kd.C Kd.string w A0 l0.length l0) (hc0 : l0.length ≤ c0)
  (hc : 0 ≤ c) (hc2 : c ≤ 255) (hlen : l0.length ≤ 1048576) (hth : t + h ≤ l0.length) (hlb : l ≤ 1048576) (hmb : m ≤ 1048576) (hs : ∀ i, i < l0.length → l + m ≤ (l0.getD i ByteArray.empty).size ∧ (l0.getD i ByteArray.empty).size ≤ 1048576) :
  Calls Try.prog 48 #[.slice A0 l0.length c0, .int .i64 t, .int .i64 l, .int .i64 h, .int .i64 m, .int .u8 c] w fun e w' => ∃ v0_ : Value, e = .returned (v0_) ∧ Kd.R Kd.string 9 w' w.heap.size (fun _ => True) v0_ (putR l0 t h l m c) ∧ Below w.heap.size w w' := by
 have HR0 := Aside0.mk hr0
 have HC0 := Aside0.mk hc0
 have HS := Aside0.mk hs
 clear hr0 hc0 hs
 have HB := Aside0.mk (Below.refl w.heap.size w)
 have ht0 : (0 : Int) ≤ t := by omega
 have ht1 : (t : Int) ≤ 1048576 := by omega
 have hh0 : (0 : Int) ≤ h := by omega
 have hh1 : (h : Int) ≤ 1048576 := by omega
 have hl0 : (0 : Int) ≤ l := by omega
 have hl1 : (l : Int) ≤ 1048576 := by omega
 have hm0 : (0 : Int) ≤ m := by omega
 have hm1 : (m : Int) ≤ 1048576 := by omega
 go_enter Try.func48, Try.ntmps48
 go_wp2_with (first
  | ((with_reducible refine gate_dst (N := 17) rfl ?_); refine Kd.R_lit Kd.string _ 9 ?hg (N := 17) ?hd (xs := ([] : List ByteArray)) (inner := []) (ok := fun _ => True) (okp := fun _ => True) ?hr ?hp (fun _ hk => hk) trivial (Below.refl _ _) (Nat.le_refl _) (by simp) ?_; (case hd => rfl); (case hg => rfl); (case hr => first | (go_simp; done) | (go_simp; rfl)); (case hp => exact (Reps.none _ _)); intro v1 w1 ho hb hg_ hnew_; clear hg_ hnew_; have HO1 := Aside0.mk (Kd.R_lower ho (below_size HB.out)); have n1_ := Aside0.mk (below_step HB.out hb); clear HB; have HB := n1_; clear n1_; clear hb ho)
  | ((with_reducible refine gate_builtin (b := .append) (xs := #[.tmp 17, .tmp 18]) rfl ?_); at_builtin; refine Kd.R_append_rows Kd.string (w0 := w) w.heap.size rfl (.tmp 17) (.tmp 18) 22 9 (.string ⟨#[]⟩) 16 rfl Try.underlying22 info9 rfl (by decide) (by omega) v1 [] l0 _ _ _ (fun _ => True) (fun _ => False) rfl rfl ?aO ?aR (fun _ _ h => h) (fun _ h => h.elim) ?aF ?aB ?aS ?aL ?_; (case aR => exact Kd.C_below HR0.out HB.out); (case aB => exact HB.out); (case aF => exact (fun _ _ => trivial)); (case aO => exact HO1.out); (case aS => exact below_size HB.out); (case aL => simp; omega); intro v2 w2 ho hb hg hat; have n0_ := Aside0.mk hb; have HO2 := Aside0.mk ho; clear HB; clear HO1; have HB := n0_; clear n0_; clear ho hb hg hat))
 go_loopg [14] h (fun kq v14 w' => ∃ j : Nat, v14 = .int .i64 ((t : Int) + j) ∧ Aside0 (j + kq = h) ∧ Aside0 (Kd.R Kd.string 9 w' w.heap.size (fun _ => True) v2 (putR l0 t j l m c)) ∧ Aside0 (Below w.heap.size w w'))
 case atStart => exact ⟨0, by simp, ⟨by omega⟩, ⟨by rw [putR_zero]; simpa using HO2.out⟩, ⟨HB.out⟩⟩
 case round =>
  clear HO2 HB
  obtain ⟨j, rfl, HK, HO, HB⟩ := hrel
  by_cases hj : j < h
  ·have hlt : (t : Int) + j < t + h := by omega
   have hj0 : (0 : Int) ≤ (t : Int) + j := by omega
   have hj1 : (t : Int) + j ≤ 1048576 := by omega
   have hjl : t + j < l0.length := by omega
   have HLR := Aside0.mk (putR_length l0 t j l m c)
   have hjl2 : (t : Int) + j < ((putR l0 t j l m c).length : Int) := by have := HLR.out; omega
   obtain ⟨g3, c3, e3, b3, l3, cl3, hg3⟩ := Kd.R_form HO.out (by have := HLR.out; omega)
   subst e3
   clear hg3 l3
   have B3 := Aside0.mk b3
   obtain ⟨hx3, hf3⟩ := Kd.R_celln (⟨#[]⟩ : ByteArray) HO.out ((t : Int) + j) (by omega) (by omega)
   rw [show (((t : Int) + j).toNat) = t + j by omega, show rdOf (⟨#[]⟩ : ByteArray) (putR l0 t j l m c) ((t : Int) + j) = l0.getD (t + j) ByteArray.empty by unfold rdOf; rw [show (((t : Int) + j).toNat) = t + j by omega]; exact putR_at l0 t j l m c] at hx3
   rw [show (((t : Int) + j).toNat) = t + j by omega] at hf3
   generalize hs : l0.getD (t + j) ByteArray.empty = s at hx3
   have HSJ := Aside0.mk hs
   have hss := HS.out (t + j) hjl
   rw [hs] at hss
   clear hs
   go_wp2_with (first
    | ((with_reducible refine gate_dst (N := 32) rfl ?_); refine conv_event (P := Try.prog) rfl (N := 32) rfl (src := 9) (dst := 87) (e := 5) (s := s) rfl rfl Try.underlying9 Try.underlying87 Try.underlying5 ?_; intro g4 c4 w4 hg4 hrow hb; have HRow := Aside0.mk (hrow.lower (below_size HB.out)); have n1_ := Aside0.mk (below_step HB.out hb); have HO4 := Aside0.mk (Kd.R_below HO.out hb); clear HB HO; have HB := n1_; have HO := HO4; clear n1_ HO4; clear hb hrow hg4 hx3 hf3))
   go_loopg [16] m (fun kq v16 w' => ∃ i : Nat, v16 = .int .i64 ((l : Int) + i) ∧ Aside0 (i + kq = m) ∧ Aside0 (BRow w' w.heap.size g4 c4 5 (putN (bytesOf s) l i c)) ∧ Aside0 (Kd.string.R 9 w' w.heap.size (fun x => True) (Value.slice (some { block := g3, off := 0 }) (putR l0 t j l m c).length c3) (putR l0 t j l m c)) ∧ Aside0 (Below w.heap.size w w'))
   case atStart => exact ⟨0, by simp, ⟨by omega⟩, ⟨by rw [putN_zero]; exact HRow.out⟩, HO, HB⟩
   case round =>
    clear HRow HB HO
    obtain ⟨i, rfl, HK2, HRow, HO, HB⟩ := hrel
    by_cases hi : i < m
    ·have hlt2 : (l : Int) + i < l + m := by omega
     have hi0 : (0 : Int) ≤ (l : Int) + i := by omega
     have hi1 : (l : Int) + i ≤ 2097152 := by omega
     have hsz : (l : Int) + i < s.size := by omega
     have hss1 : (s.size : Int) ≤ 1048576 := by omega
     obtain ⟨hx4, hf4⟩ := HRow.out.cell (l + i) (by rw [putN_length, bytesOf_length]; omega)
     have HP := Aside0.mk (HRow.out.set (l + i) c)
     go_wp2_with (first | ((with_reducible refine gate_store (t := 5) (p := 44) rfl ?_); refine store_event (t := 5) (p := 44) (v := ?vo) (w1 := (wr.setCell ⟨g4, l + i, none⟩ (.int .u8 c))) ?hg ?ho ?hn ?hr ?_; (case ho => rfl); (case hg => rfl); (case hn => rfl); (case hr => first | (go_simp; done) | (go_simp; rfl)); intro w11 hw; have n0_ := Aside0.mk (show BRow w11 w.heap.size g4 c4 5 (putN (bytesOf s) l (i + 1) c) by rw [hw, ← putN_succ]; exact HP.out); have n1_ := Aside0.mk (show Kd.string.R 9 w11 w.heap.size (fun x => True) (Value.slice (some { block := g3, off := 0 }) (putR l0 t j l m c).length c3) (putR l0 t j l m c) by rw [hw]; exact R_setF HO.out HRow.out.typed.choose_spec.choose_spec (by decide) _ _); have n2_ := Aside0.mk (show Below w.heap.size w w11 by rw [hw]; exact below_set HB.out HRow.out.base_le); clear HRow HO HB HP; have HRow := n0_; have HO := n1_; have HB := n2_; clear n0_ n1_ n2_; clear hw))
     go_roundg (m - (i + 1))
     case measure => have := HK2.out; omega
     case rel => exact ⟨i + 1, by first | rfl | (congr 1; omega), ⟨by have := HK2.out; omega⟩, HRow, HO, HB⟩
    ·have hge : ¬ ((l : Int) + i < l + m) := by omega
     obtain rfl : i = m := by have := HK2.out; omega
     have hstr := Kd.C_string (P := Try.prog) (src := 87) (dst := 9) (c := c4) Try.underlying87 Try.underlying5 Try.underlying9 (HRow.out.reads (by rw [putN_length, bytesOf_length]; omega))
     rw [putN_length, bytesOf_length] at hstr
     obtain ⟨hx3, hf3⟩ := Kd.R_celln (⟨#[]⟩ : ByteArray) HO.out ((t : Int) + j) (by omega) (by omega)
     rw [show (((t : Int) + j).toNat) = t + j by omega] at hx3 hf3
     have HP := Aside0.mk (Kd.R_putg HO.out ((t : Int) + j) (putS s l i c))
     go_wp2
     go_roundg (h - (j + 1))
     case measure => have := HK.out; omega
     case rel => exact ⟨j + 1, by first | rfl | (congr 1; omega), ⟨by have := HK.out; omega⟩, ⟨by rw [← putR_succ, HSJ.out]; have z := HP.out.1; rw [show (((t : Int) + j).toNat) = t + j by omega] at z; exact z⟩, ⟨below_set HB.out B3.out⟩⟩
  ·have hge : ¬ ((t : Int) + j < t + h) := by omega
   obtain rfl : j = h := by have := HK.out; omega
   go_wp2
   go_ret
   exact ⟨_, rfl, HO.out, HB.out⟩
theorem spec_l1Put.calls (A0 : Option Addr) (c0 : Nat) (l0 : List ByteArray) (a1 a2 a3 a4 a5 : Int) (r : List ByteArray) (w : World) (hr0 : Kd.C Kd.string w A0 l0.length l0) (hc0 : l0.length ≤ c0) (h : spec_l1Put.f l0 a1 a2 a3 a4 a5 = some r) :
  Calls Try.prog 48 #[.slice A0 l0.length c0, .int .i64 a1, .int .i64 a2, .int .i64 a3, .int .i64 a4, .int .u8 a5] w fun e w' => ∃ v0_ : Value, e = .returned (v0_) ∧ Kd.R Kd.string 9 w' w.heap.size (fun _ => True) v0_ r ∧ Below w.heap.size w w' := by
 unfold spec_l1Put.f at h
 by_cases hk : putOk l0 a1 a2 a3 a4 a5 = true
 ·rw [if_pos hk] at h
  obtain rfl := Option.some.inj h
  simp only [putOk, Bool.and_eq_true, decide_eq_true_eq, List.all_eq_true] at hk
  obtain ⟨⟨⟨⟨⟨⟨⟨⟨⟨⟨h1, h2⟩, h3⟩, h4⟩, h5⟩, h6⟩, h7⟩, h8⟩, h9⟩, h10⟩, h11⟩ := hk
  obtain ⟨t, rfl⟩ := Int.eq_ofNat_of_zero_le h1
  obtain ⟨l, rfl⟩ := Int.eq_ofNat_of_zero_le h2
  obtain ⟨hh, rfl⟩ := Int.eq_ofNat_of_zero_le h3
  obtain ⟨m, rfl⟩ := Int.eq_ofNat_of_zero_le h4
  simp only [Int.toNat_natCast]
  refine l1Put_walk A0 c0 l0 t l hh m a5 w hr0 hc0 h5 h6 h7 (by omega) (by omega) (by omega) (fun i hi => ?_)
  have := h11 _ (List.getElem_mem hi)
  rw [List.getD_eq_getElem?_getD, List.getElem?_eq_getElem hi]
  simp only [Option.getD_some]
  omega
 ·rw [if_neg hk] at h
  cases h
end Go.Proofs.Ytjaolkfjpnpglaa.Hd
namespace Go.Proofs.Ytjaolkfjpnpglaa.SM
open Go.Proofs.Ytjaolkfjpnpglaa.PB Go.Proofs.Ytjaolkfjpnpglaa.Hd
open Go.RowKit Go.Proofs.YtjaolkfjpnpglaaW.PrintWords Go.Proofs.YtjaolkfjpnpglaaW.PrintLast Go.Proofs.YtjaolkfjpnpglaaW.PrintMore
attribute [local go_sem] max2_int min2_int max_two min_two max_three min_three max_four min_four   -- for this text's walks alone
set_option linter.unusedVariables false
set_option linter.unusedSimpArgs false
def errW : Option Int → Value
 | none => .nilIface
 | some c => .iface 0 (.int .i64 c)
theorem errW_none : errW none = .nilIface := rfl
theorem errW_some (c : Int) : errW (some c) = .iface 0 (.int .i64 c) := rfl
theorem info5 : (Try.prog.info? 5).map (fun i => (i.zero, i.size, i.bytes)) = some (some (.int .u8 0), 1, 1) := by kernel_rfl
theorem info9 : (Try.prog.info? 9).map (fun i => (i.zero, i.size, i.bytes)) = some (some (.string ⟨#[]⟩), 1, 16) := by kernel_rfl
end Go.Proofs.Ytjaolkfjpnpglaa.SM
namespace Go.Proofs.Ytjaolkfjpnpglaa.SM
open Go.Proofs.Ytjaolkfjpnpglaa.PB Go.Proofs.Ytjaolkfjpnpglaa.Hd
open Go.RowKit Go.Proofs.YtjaolkfjpnpglaaW.PrintWords Go.Proofs.YtjaolkfjpnpglaaW.PrintLast Go.Proofs.YtjaolkfjpnpglaaW.PrintMore
attribute [local go_sem] max2_int min2_int max_two min_two max_three min_three max_four min_four   -- for this text's walks alone
set_option linter.unusedVariables false
set_option linter.unusedSimpArgs false
mutual
def spec_PlanSplit.j0 : Nat → List ByteArray → ByteArray → Int → Int → Int → Int → Int → Bool → Option (List ByteArray × Bool)
 | 0, _, _, _, _, _, _, _, _ => none
 | k + 1, x0, x2, x3, x10, x11, x12, x13, x29 => if x29 = true then ((spec_l1Put.f x0 (wrap64 (x10 + x3)) x11 (wrap64 (x12 - x3)) x13 122).bind fun t210 => ((spec_l1Done.f k t210).bind fun bt213 => (some (bt213.1, bt213.2)))) else (if x2.toList = ([118] : List UInt8) then ((spec_l6In.f x3 1 (wrap64 (x13 - 1))).bind fun t217 => (spec_PlanSplit.j1 k x0 x3 x10 x11 x12 x13 t217)) else (spec_PlanSplit.j1 k x0 x3 x10 x11 x12 x13 false))
def spec_PlanSplit.j1 : Nat → List ByteArray → Int → Int → Int → Int → Int → Bool → Option (List ByteArray × Bool)
 | 0, _, _, _, _, _, _, _ => none
 | k + 1, x0, x3, x10, x11, x12, x13, x51 => if x51 = true then ((spec_l1Put.f x0 x10 (wrap64 (x11 + x3)) x12 (wrap64 (x13 - x3)) 122).bind fun t218 => ((spec_l1Done.f k t218).bind fun bt221 => (some (bt221.1, bt221.2)))) else ((spec_l1None.f).bind fun bt225 => (some (bt225.1, bt225.2)))
end
def spec_PlanSplit.f (k : Nat) (l0 : List ByteArray) (a1 : Int) (a2 : ByteArray) (a3 : Int) : Option (List ByteArray × Bool) := (spec_l1Given.f k l0 a1).bind fun t200 => (if t200 = true then ((spec_l1Room.f k l0 a1).bind fun bt205 => (if a2.toList = ([104] : List UInt8) then ((spec_l6In.f a3 1 (wrap64 (bt205.2.2.1 - 1))).bind fun t209 => (spec_PlanSplit.j0 k l0 a2 a3 bt205.1 bt205.2.1 bt205.2.2.1 bt205.2.2.2 t209)) else (spec_PlanSplit.j0 k l0 a2 a3 bt205.1 bt205.2.1 bt205.2.2.1 bt205.2.2.2 false))) else ((spec_l1None.f).bind fun bt201 => (some (bt201.1, bt201.2))))
set_option maxHeartbeats 8000000 in
set_option maxRecDepth 100000 in
theorem spec_PlanSplit.calls (k : Nat) (A0 : Option Addr) (c0 : Nat) (l0 : List ByteArray) (a1 : Int) (a2 : ByteArray) (a3 : Int) (r1 : List ByteArray) (r2 : Bool) (w : World) (hr0 : Kd.C Kd.string w A0 l0.length l0) (hc0 : l0.length ≤ c0) (h : spec_PlanSplit.f k l0 a1 a2 a3 = some (r1, r2)) :
  Calls Try.prog 30 #[.slice A0 l0.length c0, .int .i64 a1, .string a2, .int .i64 a3] w fun e w' => ∃ v0_ : Value, e = .returned (.tuple #[v0_, .bool r2]) ∧ Kd.R Kd.string 9 w' w.heap.size (fun _ => True) v0_ r1 ∧ Below w.heap.size w w' := by
 have HR0 := Aside0.mk hr0
 have HC0 := Aside0.mk hc0
 clear hr0 hc0
 have HB := Aside0.mk (Below.refl w.heap.size w)
 have H : ((spec_l1Given.f k l0 a1).bind fun t200 => (if t200 = true then ((spec_l1Room.f k l0 a1).bind fun bt205 => (if a2.toList = ([104] : List UInt8) then ((spec_l6In.f a3 1 (wrap64 (bt205.2.2.1 - 1))).bind fun t209 => (spec_PlanSplit.j0 k l0 a2 a3 bt205.1 bt205.2.1 bt205.2.2.1 bt205.2.2.2 t209)) else (spec_PlanSplit.j0 k l0 a2 a3 bt205.1 bt205.2.1 bt205.2.2.1 bt205.2.2.2 false))) else ((spec_l1None.f).bind fun bt201 => (some (bt201.1, bt201.2))))) = some (r1, r2) := h
 clear h
 replace H := Option.bind_eq_some_iff.mp H
 obtain ⟨t200, A50, H⟩ := H
 replace H : (if t200 = true then ((spec_l1Room.f k l0 a1).bind fun bt205 => (if a2.toList = ([104] : List UInt8) then ((spec_l6In.f a3 1 (wrap64 (bt205.2.2.1 - 1))).bind fun t209 => (spec_PlanSplit.j0 k l0 a2 a3 bt205.1 bt205.2.1 bt205.2.2.1 bt205.2.2.2 t209)) else (spec_PlanSplit.j0 k l0 a2 a3 bt205.1 bt205.2.1 bt205.2.2.1 bt205.2.2.2 false))) else ((spec_l1None.f).bind fun bt201 => (some (bt201.1, bt201.2)))) = some (r1, r2) := H
 have A5 := Aside0.mk A50
 clear A50
 by_cases c6 : t200 = true
 ·subst c6
  have H1 : ((spec_l1Room.f k l0 a1).bind fun bt205 => (if a2.toList = ([104] : List UInt8) then ((spec_l6In.f a3 1 (wrap64 (bt205.2.2.1 - 1))).bind fun t209 => (spec_PlanSplit.j0 k l0 a2 a3 bt205.1 bt205.2.1 bt205.2.2.1 bt205.2.2.2 t209)) else (spec_PlanSplit.j0 k l0 a2 a3 bt205.1 bt205.2.1 bt205.2.2.1 bt205.2.2.2 false))) = some (r1, r2) := by rw [if_pos rfl] at H; exact H
  clear H
  have H := H1
  clear H1
  replace H := Option.bind_eq_some_iff.mp H
  obtain ⟨⟨t205, t206, t207, t208⟩, A70, H⟩ := H
  replace H : (if a2.toList = ([104] : List UInt8) then ((spec_l6In.f a3 1 (wrap64 (t207 - 1))).bind fun t209 => (spec_PlanSplit.j0 k l0 a2 a3 t205 t206 t207 t208 t209)) else (spec_PlanSplit.j0 k l0 a2 a3 t205 t206 t207 t208 false)) = some (r1, r2) := H
  have A7 := Aside0.mk A70
  clear A70
  have HC8 := Aside0.mk H
  clear H
  go_enter Try.func30, Try.ntmps30
  go_upto_region 4 with (first | ((with_reducible refine gate_callee (f := 44) rfl ?_); refine goesL_ (some 16) rfl rfl Try.func44 (by kernel_rfl) rfl #[.slice A0 l0.length c0, .int .i64 a1] rfl (by (try simp only [List.map_toArray, List.map_cons, List.map_nil]); first | done | rfl | (simp only [List.length_drop, List.length_take]; rfl)) ?_; (with_reducible refine (spec_l1Given.calls k _ _ l0 a1 true _ ?side1 ?side2 A5.out).mono ?_); (case side1 => repeat (first | exact HR0.out | (with_reducible refine Kd.C_alloc ?_ _) | (with_reducible refine Kd.C_drewN ?_ _) | (with_reducible refine Kd.C_drew ?_))); (case side2 => exact HC0.out); rintro e w9 ⟨rfl, hb⟩; refine ⟨_, rfl, ?_⟩; have n0_ := Aside0.mk (below_step (by repeat (first | (with_reducible first | exact HB.out | apply below_alloc | apply pw_below_drewN | apply below_drew1) | exact HB.out)) hb); clear HB; have HB := n0_; clear n0_; (try clear hb); (try clear hb2); (try clear hk); (try clear hi)) | ((with_reducible refine gate_callee (f := 46) rfl ?_); refine goesL_ (some 24) rfl rfl Try.func46 (by kernel_rfl) rfl #[.slice A0 l0.length c0, .int .i64 a1] rfl (by (try simp only [List.map_toArray, List.map_cons, List.map_nil]); first | done | rfl | (simp only [List.length_drop, List.length_take]; rfl)) ?_; (with_reducible refine (spec_l1Room.calls k _ _ l0 a1 t205 t206 t207 t208 _ ?side1 ?side2 A7.out).mono ?_); (case side1 => repeat (first | exact (Kd.C_below HR0.out HB.out) | (with_reducible refine Kd.C_alloc ?_ _) | (with_reducible refine Kd.C_drewN ?_ _) | (with_reducible refine Kd.C_drew ?_))); (case side2 => exact HC0.out); rintro e w10 ⟨rfl, hb⟩; refine ⟨_, rfl, ?_⟩; have n0_ := Aside0.mk (below_step (by repeat (first | (with_reducible first | exact HB.out | apply below_alloc | apply pw_below_drewN | apply below_drew1) | exact HB.out)) hb); clear HB; have HB := n0_; clear n0_; (try clear hb); (try clear hb2); (try clear hk); (try clear hi)))
  (try simp only [Act.put, List.setIfInBounds_toArray, List.set_cons_zero, List.set_cons_succ])
  go_cut [29] (fun v29 wc => ∃ (kq : Nat) (x29_7 : Bool), v29 = .bool x29_7 ∧ Aside0 (spec_PlanSplit.j0 kq l0 a2 a3 t205 t206 t207 t208 x29_7 = some (r1, r2)) ∧ Aside0 (kq ≤ k) ∧ Aside0 (Below w.heap.size w wc))
  case first =>
   have H := HC8.out
   clear HC8
   by_cases c11 : a2.toList = ([104] : List UInt8)
   ·rw [if_pos c11] at H
    have c11b0 : (a2.toList == ([104] : List UInt8)) = true := beq_iff_eq.mpr c11
    have c11b1 : (a2.toList != ([104] : List UInt8)) = false := bne_eq_false_iff_eq.mpr c11
    clear c11
    (first | rw [c11b0] | (simp only [i64_w, i32_w]; rw [c11b0]) | skip)
    replace H := Option.bind_eq_some_iff.mp H
    obtain ⟨t209, A120, H⟩ := H
    replace H : (spec_PlanSplit.j0 k l0 a2 a3 t205 t206 t207 t208 t209) = some (r1, r2) := H
    have A12 := Aside0.mk A120
    clear A120
    have H' := Aside0.mk H
    clear H
    go_wp2_with (first | (go_at_call 67; (with_reducible refine (spec_l6In.calls a3 1 (wrap64 (t207 - 1)) t209 _ A12.out).mono ?_); rintro e w' ⟨rfl, ⟨nd, rfl⟩⟩))
    go_meet
    case rel => exact ⟨_, (t209), (by first | rfl | (simp; done) | (simp [*]; done)), H', ⟨by first | omega | exact Nat.le_refl _⟩, ⟨by repeat (first | (with_reducible first | exact HB.out | apply below_alloc | apply pw_below_drewN | apply below_drew1) | exact HB.out)⟩⟩
   ·rw [if_neg c11] at H
    have c11b0 : (a2.toList == ([104] : List UInt8)) = false := beq_eq_false_iff_ne.mpr c11
    have c11b1 : (a2.toList != ([104] : List UInt8)) = true := bne_iff_ne.mpr c11
    (first | rw [c11b0] | (simp only [i64_w, i32_w]; rw [c11b0]) | skip)
    have H' := Aside0.mk H
    clear H
    go_wp2
    go_meet
    case rel => exact ⟨_, (false), (by first | rfl | (simp; done) | (simp [*]; done)), H', ⟨by first | omega | exact Nat.le_refl _⟩, ⟨by repeat (first | (with_reducible first | exact HB.out | apply below_alloc | apply pw_below_drewN | apply below_drew1) | exact HB.out)⟩⟩
  case rest =>
   clear HC8
   try clear c1
   try clear p2
   try clear c3
   try clear c4
   try clear c6
   try clear p6
   try clear c11
   try clear c11b0
   try clear c11b1
   obtain ⟨kq, x29_7, rfl, HA, HJ7, HB⟩ := hcut
   cases kq with
   | zero => exact absurd HA.out (by simp [spec_PlanSplit.j0])
   | succ kj7 =>
    have H := HA.out
    clear HA
    simp only [spec_PlanSplit.j0] at H
    by_cases c13 : x29_7 = true
    ·subst c13
     have H1 : ((spec_l1Put.f l0 (wrap64 (t205 + a3)) t206 (wrap64 (t207 - a3)) t208 122).bind fun t210 => ((spec_l1Done.f kj7 t210).bind fun bt213 => (some (bt213.1, bt213.2)))) = some (r1, r2) := by rw [if_pos rfl] at H; exact H
     clear H
     have H := H1
     clear H1
     replace H := Option.bind_eq_some_iff.mp H
     obtain ⟨t210, A140, H⟩ := H
     replace H : ((spec_l1Done.f kj7 t210).bind fun bt213 => (some (bt213.1, bt213.2))) = some (r1, r2) := H
     have A14 := Aside0.mk A140
     clear A140
     replace H := Option.bind_eq_some_iff.mp H
     obtain ⟨⟨t213, t214⟩, A150, H⟩ := H
     replace H : (some (t213, t214)) = some (r1, r2) := H
     have A15 := Aside0.mk A150
     clear A150
     simp only [Option.some.injEq, Prod.mk.injEq] at H
     obtain ⟨rfl, rfl⟩ := H
     go_wp2_with (first | ((with_reducible refine gate_callee (f := 48) rfl ?_); refine goesL_ (some 47) rfl rfl Try.func48 (by kernel_rfl) rfl #[.slice A0 l0.length c0, .int .i64 (wrap64 (t205 + a3)), .int .i64 t206, .int .i64 (wrap64 (t207 - a3)), .int .i64 t208, .int .u8 122] rfl (by (try simp only [List.map_toArray, List.map_cons, List.map_nil]); first | done | rfl | (simp only [List.length_drop, List.length_take]; rfl)) ?_; (with_reducible refine (spec_l1Put.calls _ _ l0 (wrap64 (t205 + a3)) t206 (wrap64 (t207 - a3)) t208 122 t210 _ ?side1 ?side2 A14.out).mono ?_); (case side1 => repeat (first | exact (Kd.C_below HR0.out HB.out) | (with_reducible refine Kd.C_alloc ?_ _) | (with_reducible refine Kd.C_drewN ?_ _) | (with_reducible refine Kd.C_drew ?_))); (case side2 => exact HC0.out); rintro e w16 ⟨v211, rfl, ho0, hb⟩; refine ⟨_, rfl, ?_⟩; have n0_ := Aside0.mk (Kd.R_lower ho0 (below_size (by repeat (first | (with_reducible first | exact HB.out | apply below_alloc | apply pw_below_drewN | apply below_drew1) | exact HB.out)))); have n1_ := Aside0.mk (below_step (by repeat (first | (with_reducible first | exact HB.out | apply below_alloc | apply pw_below_drewN | apply below_drew1) | exact HB.out)) hb); clear HB; have HO212 := n0_; have HB := n1_; clear n0_ n1_; (try clear hb); (try clear hb2); (try clear hk); (try clear hi); (try clear ho0); obtain ⟨Ao17, co17, eo17⟩ := Kd.R_slice HO212.out; subst eo17) | ((with_reducible refine gate_callee (f := 47) rfl ?_); refine goesL_ (some 48) rfl rfl Try.func47 (by kernel_rfl) rfl #[.slice Ao17 t210.length co17] rfl (by (try simp only [List.map_toArray, List.map_cons, List.map_nil]); first | done | rfl | (simp only [List.length_drop, List.length_take]; rfl)) ?_; (with_reducible refine (spec_l1Done.calls kj7 _ _ t210 t213 t214 _ ?side1 ?side2 A15.out).mono ?_); (case side1 => repeat (first | exact (Kd.R_reads' HO212.out).2.2 | (with_reducible refine Kd.C_alloc ?_ _) | (with_reducible refine Kd.C_drewN ?_ _) | (with_reducible refine Kd.C_drew ?_))); (case side2 => exact (Kd.R_reads' HO212.out).2.1); rintro e w18 ⟨v215, rfl, ho0, hb⟩; refine ⟨_, rfl, ?_⟩; have n0_ := Aside0.mk (Kd.R_elder' (by (with_reducible repeat (first | apply Kd.R_alloc | apply Kd.R_drewN | apply Kd.R_drew)); exact HO212.out) (Kd.R_base ho0) hb); have n1_ := Aside0.mk (Kd.R_lower (Kd.R_new' ho0 (Kd.R_lt (by (with_reducible repeat (first | apply Kd.R_alloc | apply Kd.R_drewN | apply Kd.R_drew)); exact HO212.out))) (below_size (by repeat (first | (with_reducible first | exact HB.out | apply below_alloc | apply pw_below_drewN | apply below_drew1) | exact HB.out)))); have n2_ := Aside0.mk (below_step (by repeat (first | (with_reducible first | exact HB.out | apply below_alloc | apply pw_below_drewN | apply below_drew1) | exact HB.out)) hb); clear HO212; clear HB; have HO212 := n0_; have HO216 := n1_; have HB := n2_; clear n0_ n1_ n2_; (try clear hb); (try clear hb2); (try clear hk); (try clear hi); (try clear ho0)))
     go_ret2
     exact ⟨_, by first | rfl | (simp [errW_none, errW_some] <;> rfl) | (simp [*, errW_none, errW_some] <;> rfl), by (with_reducible repeat (first | apply Kd.R_alloc | apply Kd.R_drewN | apply Kd.R_drew)); exact Kd.R_mono HO216.out (fun _ hk => trivial), by repeat (first | (with_reducible first | exact HB.out | apply below_alloc | apply pw_below_drewN | apply below_drew1) | exact HB.out)⟩
    ·replace c13 := Bool.eq_false_iff.mpr c13
     subst c13
     have H1 : (if a2.toList = ([118] : List UInt8) then ((spec_l6In.f a3 1 (wrap64 (t208 - 1))).bind fun t217 => (spec_PlanSplit.j1 kj7 l0 a3 t205 t206 t207 t208 t217)) else (spec_PlanSplit.j1 kj7 l0 a3 t205 t206 t207 t208 false)) = some (r1, r2) := by rw [if_neg (show ¬ (false = true) by decide)] at H; exact H
     clear H
     have H := H1
     clear H1
     have HC19 := Aside0.mk H
     clear H
     go_upto_region 6 with (fail)
     go_cut [51] (fun v51 wc => ∃ (kq : Nat) (x51_18 : Bool), v51 = .bool x51_18 ∧ Aside0 (spec_PlanSplit.j1 kq l0 a3 t205 t206 t207 t208 x51_18 = some (r1, r2)) ∧ Aside0 (kq ≤ kj7) ∧ Aside0 (Below w.heap.size w wc))
     case first =>
      have H := HC19.out
      clear HC19
      by_cases c20 : a2.toList = ([118] : List UInt8)
      ·rw [if_pos c20] at H
       have c20b0 : (a2.toList == ([118] : List UInt8)) = true := beq_iff_eq.mpr c20
       have c20b1 : (a2.toList != ([118] : List UInt8)) = false := bne_eq_false_iff_eq.mpr c20
       clear c20
       (first | rw [c20b0] | (simp only [i64_w, i32_w]; rw [c20b0]) | skip)
       replace H := Option.bind_eq_some_iff.mp H
       obtain ⟨t217, A210, H⟩ := H
       replace H : (spec_PlanSplit.j1 kj7 l0 a3 t205 t206 t207 t208 t217) = some (r1, r2) := H
       have A21 := Aside0.mk A210
       clear A210
       have H' := Aside0.mk H
       clear H
       go_wp2_with (first | (go_at_call 67; (with_reducible refine (spec_l6In.calls a3 1 (wrap64 (t208 - 1)) t217 _ A21.out).mono ?_); rintro e w' ⟨rfl, ⟨nd, rfl⟩⟩))
       go_meet
       case rel => exact ⟨_, (t217), (by first | rfl | (simp; done) | (simp [*]; done)), H', ⟨by have := HJ7.out; first | omega | exact Nat.le_refl _⟩, ⟨by repeat (first | (with_reducible first | exact HB.out | apply below_alloc | apply pw_below_drewN | apply below_drew1) | exact HB.out)⟩⟩
      ·rw [if_neg c20] at H
       have c20b0 : (a2.toList == ([118] : List UInt8)) = false := beq_eq_false_iff_ne.mpr c20
       have c20b1 : (a2.toList != ([118] : List UInt8)) = true := bne_iff_ne.mpr c20
       (first | rw [c20b0] | (simp only [i64_w, i32_w]; rw [c20b0]) | skip)
       have H' := Aside0.mk H
       clear H
       go_wp2
       go_meet
       case rel => exact ⟨_, (false), (by first | rfl | (simp; done) | (simp [*]; done)), H', ⟨by have := HJ7.out; first | omega | exact Nat.le_refl _⟩, ⟨by repeat (first | (with_reducible first | exact HB.out | apply below_alloc | apply pw_below_drewN | apply below_drew1) | exact HB.out)⟩⟩
     case rest =>
      clear HC19
      try clear c1
      try clear c2
      try clear p2
      try clear c3
      try clear c4
      try clear c6
      try clear p6
      try clear c11
      try clear c11b0
      try clear c11b1
      try clear c13
      try clear c20
      try clear c20b0
      try clear c20b1
      try clear p2
      try clear p6
      obtain ⟨kq, x51_18, rfl, HA, HJ18, HB⟩ := hcut
      cases kq with
      | zero => exact absurd HA.out (by simp [spec_PlanSplit.j1])
      | succ kj18 =>
       have H := HA.out
       clear HA
       simp only [spec_PlanSplit.j1] at H
       by_cases c22 : x51_18 = true
       ·subst c22
        have H1 : ((spec_l1Put.f l0 t205 (wrap64 (t206 + a3)) t207 (wrap64 (t208 - a3)) 122).bind fun t218 => ((spec_l1Done.f kj18 t218).bind fun bt221 => (some (bt221.1, bt221.2)))) = some (r1, r2) := by rw [if_pos rfl] at H; exact H
        clear H
        have H := H1
        clear H1
        replace H := Option.bind_eq_some_iff.mp H
        obtain ⟨t218, A230, H⟩ := H
        replace H : ((spec_l1Done.f kj18 t218).bind fun bt221 => (some (bt221.1, bt221.2))) = some (r1, r2) := H
        have A23 := Aside0.mk A230
        clear A230
        replace H := Option.bind_eq_some_iff.mp H
        obtain ⟨⟨t221, t222⟩, A240, H⟩ := H
        replace H : (some (t221, t222)) = some (r1, r2) := H
        have A24 := Aside0.mk A240
        clear A240
        simp only [Option.some.injEq, Prod.mk.injEq] at H
        obtain ⟨rfl, rfl⟩ := H
        go_wp2_with (first | ((with_reducible refine gate_callee (f := 48) rfl ?_); refine goesL_ (some 69) rfl rfl Try.func48 (by kernel_rfl) rfl #[.slice A0 l0.length c0, .int .i64 t205, .int .i64 (wrap64 (t206 + a3)), .int .i64 t207, .int .i64 (wrap64 (t208 - a3)), .int .u8 122] rfl (by (try simp only [List.map_toArray, List.map_cons, List.map_nil]); first | done | rfl | (simp only [List.length_drop, List.length_take]; rfl)) ?_; (with_reducible refine (spec_l1Put.calls _ _ l0 t205 (wrap64 (t206 + a3)) t207 (wrap64 (t208 - a3)) 122 t218 _ ?side1 ?side2 A23.out).mono ?_); (case side1 => repeat (first | exact (Kd.C_below HR0.out HB.out) | (with_reducible refine Kd.C_alloc ?_ _) | (with_reducible refine Kd.C_drewN ?_ _) | (with_reducible refine Kd.C_drew ?_))); (case side2 => exact HC0.out); rintro e w25 ⟨v219, rfl, ho0, hb⟩; refine ⟨_, rfl, ?_⟩; have n0_ := Aside0.mk (Kd.R_lower ho0 (below_size (by repeat (first | (with_reducible first | exact HB.out | apply below_alloc | apply pw_below_drewN | apply below_drew1) | exact HB.out)))); have n1_ := Aside0.mk (below_step (by repeat (first | (with_reducible first | exact HB.out | apply below_alloc | apply pw_below_drewN | apply below_drew1) | exact HB.out)) hb); clear HB; have HO220 := n0_; have HB := n1_; clear n0_ n1_; (try clear hb); (try clear hb2); (try clear hk); (try clear hi); (try clear ho0); obtain ⟨Ao26, co26, eo26⟩ := Kd.R_slice HO220.out; subst eo26) | ((with_reducible refine gate_callee (f := 47) rfl ?_); refine goesL_ (some 70) rfl rfl Try.func47 (by kernel_rfl) rfl #[.slice Ao26 t218.length co26] rfl (by (try simp only [List.map_toArray, List.map_cons, List.map_nil]); first | done | rfl | (simp only [List.length_drop, List.length_take]; rfl)) ?_; (with_reducible refine (spec_l1Done.calls kj18 _ _ t218 t221 t222 _ ?side1 ?side2 A24.out).mono ?_); (case side1 => repeat (first | exact (Kd.R_reads' HO220.out).2.2 | (with_reducible refine Kd.C_alloc ?_ _) | (with_reducible refine Kd.C_drewN ?_ _) | (with_reducible refine Kd.C_drew ?_))); (case side2 => exact (Kd.R_reads' HO220.out).2.1); rintro e w27 ⟨v223, rfl, ho0, hb⟩; refine ⟨_, rfl, ?_⟩; have n0_ := Aside0.mk (Kd.R_elder' (by (with_reducible repeat (first | apply Kd.R_alloc | apply Kd.R_drewN | apply Kd.R_drew)); exact HO220.out) (Kd.R_base ho0) hb); have n1_ := Aside0.mk (Kd.R_lower (Kd.R_new' ho0 (Kd.R_lt (by (with_reducible repeat (first | apply Kd.R_alloc | apply Kd.R_drewN | apply Kd.R_drew)); exact HO220.out))) (below_size (by repeat (first | (with_reducible first | exact HB.out | apply below_alloc | apply pw_below_drewN | apply below_drew1) | exact HB.out)))); have n2_ := Aside0.mk (below_step (by repeat (first | (with_reducible first | exact HB.out | apply below_alloc | apply pw_below_drewN | apply below_drew1) | exact HB.out)) hb); clear HO220; clear HB; have HO220 := n0_; have HO224 := n1_; have HB := n2_; clear n0_ n1_ n2_; (try clear hb); (try clear hb2); (try clear hk); (try clear hi); (try clear ho0)))
        go_ret2
        exact ⟨_, by first | rfl | (simp [errW_none, errW_some] <;> rfl) | (simp [*, errW_none, errW_some] <;> rfl), by (with_reducible repeat (first | apply Kd.R_alloc | apply Kd.R_drewN | apply Kd.R_drew)); exact Kd.R_mono HO224.out (fun _ hk => trivial), by repeat (first | (with_reducible first | exact HB.out | apply below_alloc | apply pw_below_drewN | apply below_drew1) | exact HB.out)⟩
       ·replace c22 := Bool.eq_false_iff.mpr c22
        subst c22
        have H1 : ((spec_l1None.f).bind fun bt225 => (some (bt225.1, bt225.2))) = some (r1, r2) := by rw [if_neg (show ¬ (false = true) by decide)] at H; exact H
        clear H
        have H := H1
        clear H1
        replace H := Option.bind_eq_some_iff.mp H
        obtain ⟨⟨t225, t226⟩, A280, H⟩ := H
        replace H : (some (t225, t226)) = some (r1, r2) := H
        have A28 := Aside0.mk A280
        clear A280
        simp only [Option.some.injEq, Prod.mk.injEq] at H
        obtain ⟨rfl, rfl⟩ := H
        go_wp2_with (first | ((with_reducible refine gate_callee (f := 45) rfl ?_); refine goesL_ (some 73) rfl rfl Try.func45 (by kernel_rfl) rfl #[] rfl (by (try simp only [List.map_toArray, List.map_cons, List.map_nil]); first | done | rfl | (simp only [List.length_drop, List.length_take]; rfl)) ?_; (with_reducible refine (spec_l1None.calls  t225 t226 _ A28.out).mono ?_); rintro e w29 ⟨v227, rfl, ho0, hb⟩; refine ⟨_, rfl, ?_⟩; have n0_ := Aside0.mk (Kd.R_lower ho0 (below_size (by repeat (first | (with_reducible first | exact HB.out | apply below_alloc | apply pw_below_drewN | apply below_drew1) | exact HB.out)))); have n1_ := Aside0.mk (below_step (by repeat (first | (with_reducible first | exact HB.out | apply below_alloc | apply pw_below_drewN | apply below_drew1) | exact HB.out)) hb); clear HB; have HO228 := n0_; have HB := n1_; clear n0_ n1_; (try clear hb); (try clear hb2); (try clear hk); (try clear hi); (try clear ho0)))
        go_ret2
        exact ⟨_, by first | rfl | (simp [errW_none, errW_some] <;> rfl) | (simp [*, errW_none, errW_some] <;> rfl), by (with_reducible repeat (first | apply Kd.R_alloc | apply Kd.R_drewN | apply Kd.R_drew)); exact HO228.out, by repeat (first | (with_reducible first | exact HB.out | apply below_alloc | apply pw_below_drewN | apply below_drew1) | exact HB.out)⟩
 ·replace c6 := Bool.eq_false_iff.mpr c6
  subst c6
  have H1 : ((spec_l1None.f).bind fun bt201 => (some (bt201.1, bt201.2))) = some (r1, r2) := by rw [if_neg (show ¬ (false = true) by decide)] at H; exact H
  clear H
  have H := H1
  clear H1
  replace H := Option.bind_eq_some_iff.mp H
  obtain ⟨⟨t201, t202⟩, A300, H⟩ := H
  replace H : (some (t201, t202)) = some (r1, r2) := H
  have A30 := Aside0.mk A300
  clear A300
  simp only [Option.some.injEq, Prod.mk.injEq] at H
  obtain ⟨rfl, rfl⟩ := H
  go_enter Try.func30, Try.ntmps30
  go_wp2_with (first | ((with_reducible refine gate_callee (f := 44) rfl ?_); refine goesL_ (some 16) rfl rfl Try.func44 (by kernel_rfl) rfl #[.slice A0 l0.length c0, .int .i64 a1] rfl (by (try simp only [List.map_toArray, List.map_cons, List.map_nil]); first | done | rfl | (simp only [List.length_drop, List.length_take]; rfl)) ?_; (with_reducible refine (spec_l1Given.calls k _ _ l0 a1 false _ ?side1 ?side2 A5.out).mono ?_); (case side1 => repeat (first | exact HR0.out | (with_reducible refine Kd.C_alloc ?_ _) | (with_reducible refine Kd.C_drewN ?_ _) | (with_reducible refine Kd.C_drew ?_))); (case side2 => exact HC0.out); rintro e w31 ⟨rfl, hb⟩; refine ⟨_, rfl, ?_⟩; have n0_ := Aside0.mk (below_step (by repeat (first | (with_reducible first | exact HB.out | apply below_alloc | apply pw_below_drewN | apply below_drew1) | exact HB.out)) hb); clear HB; have HB := n0_; clear n0_; (try clear hb); (try clear hb2); (try clear hk); (try clear hi)) | ((with_reducible refine gate_callee (f := 45) rfl ?_); refine goesL_ (some 18) rfl rfl Try.func45 (by kernel_rfl) rfl #[] rfl (by (try simp only [List.map_toArray, List.map_cons, List.map_nil]); first | done | rfl | (simp only [List.length_drop, List.length_take]; rfl)) ?_; (with_reducible refine (spec_l1None.calls  t201 t202 _ A30.out).mono ?_); rintro e w32 ⟨v203, rfl, ho0, hb⟩; refine ⟨_, rfl, ?_⟩; have n0_ := Aside0.mk (Kd.R_lower ho0 (below_size (by repeat (first | (with_reducible first | exact HB.out | apply below_alloc | apply pw_below_drewN | apply below_drew1) | exact HB.out)))); have n1_ := Aside0.mk (below_step (by repeat (first | (with_reducible first | exact HB.out | apply below_alloc | apply pw_below_drewN | apply below_drew1) | exact HB.out)) hb); clear HB; have HO204 := n0_; have HB := n1_; clear n0_ n1_; (try clear hb); (try clear hb2); (try clear hk); (try clear hi); (try clear ho0)))
  go_ret2
  exact ⟨_, by first | rfl | (simp [errW_none, errW_some] <;> rfl) | (simp [*, errW_none, errW_some] <;> rfl), by (with_reducible repeat (first | apply Kd.R_alloc | apply Kd.R_drewN | apply Kd.R_drew)); exact HO204.out, by repeat (first | (with_reducible first | exact HB.out | apply below_alloc | apply pw_below_drewN | apply below_drew1) | exact HB.out)⟩
end Go.Proofs.Ytjaolkfjpnpglaa.SM
namespace Go.Proofs.Ytjaolkfjpnpglaa.LS
open Go.Proofs.Ytjaolkfjpnpglaa.PB Go.Proofs.Ytjaolkfjpnpglaa.Hd Go.Proofs.Ytjaolkfjpnpglaa.SM
open Go.RowKit Go.Proofs.YtjaolkfjpnpglaaW.PrintWords Go.Proofs.YtjaolkfjpnpglaaW.PrintLast Go.Proofs.YtjaolkfjpnpglaaW.PrintMore
attribute [local go_sem] max2_int min2_int max_two min_two max_three min_three max_four min_four   -- for this text's walks alone
set_option linter.unusedVariables false
set_option linter.unusedSimpArgs false
def errW : Option Int → Value
 | none => .nilIface
 | some c => .iface 0 (.int .i64 c)
theorem errW_none : errW none = .nilIface := rfl
theorem errW_some (c : Int) : errW (some c) = .iface 0 (.int .i64 c) := rfl
theorem info5 : (Try.prog.info? 5).map (fun i => (i.zero, i.size, i.bytes)) = some (some (.int .u8 0), 1, 1) := by kernel_rfl
theorem info9 : (Try.prog.info? 9).map (fun i => (i.zero, i.size, i.bytes)) = some (some (.string ⟨#[]⟩), 1, 16) := by kernel_rfl
def rd_L3 (xs : List (List Int)) (i : Int) : (List Int) := xs.getD i.toNat ([] : List Int)
theorem at_L3 {w : World} {A : Option Addr} {n : Nat} {xs : List (List Int)} (h : Kd.C (Kd.slice 3 (Kd.int .i64)) w A n xs) (i : Int) (h0 : 0 ≤ i) (h1 : i < n) : ∃ ad A0 c0, A = some ad ∧ w.cell? (ad.add i.toNat) = some (.slice A0 (rd_L3 xs i).length c0) ∧ (rd_L3 xs i).length ≤ c0 ∧ (Kd.int .i64).C w A0 (rd_L3 xs i).length (rd_L3 xs i) := by
 obtain ⟨ad, c, e, _, hK, hc0⟩ := Kd.C_get h ([] : List Int) i h0 h1
 have hc : ∀ j u, c[j]? = some u → w.cell? (ad.add (i.toNat * 1 + j)) = some u := hc0
 obtain ⟨A0, c0, rfl, l0, g0⟩ := hK
 exact ⟨ad, A0, c0, e, by have hq := hc 0 _ rfl; rwa [Nat.mul_one, Nat.add_zero] at hq, l0, g0⟩
structure S73 where
 f0 : Int
 f1 : Int
 f2 : Int
 f3 : Int
def z73 : S73 := ⟨(0 : Int), (0 : Int), (0 : Int), (0 : Int)⟩
def k73 : Kd S73 := Kd.iso (Kd.pair (Kd.int .i64) (Kd.pair (Kd.int .i64) (Kd.pair (Kd.int .i64) (Kd.int .i64)))) (fun x : S73 => (x.f0, x.f1, x.f2, x.f3))
theorem k73_open {w : World} {x : S73} {cs : List Value} (h : k73.K w x cs) : cs = [.int .i64 x.f0, .int .i64 x.f1, .int .i64 x.f2, .int .i64 x.f3] := by
 obtain ⟨_, _, rfl, rfl, ⟨_, _, rfl, rfl, ⟨_, _, rfl, rfl, rfl⟩⟩⟩ := h
 exact rfl
theorem k73_mkM (w : World) (base : Nat) (ok : Nat → Prop) (x : S73)  : k73.M w base ok x [.int .i64 x.f0, .int .i64 x.f1, .int .i64 x.f2, .int .i64 x.f3] := ⟨[.int .i64 x.f0], [.int .i64 x.f1, .int .i64 x.f2, .int .i64 x.f3], rfl, rfl, ⟨[.int .i64 x.f1], [.int .i64 x.f2, .int .i64 x.f3], rfl, rfl, ⟨[.int .i64 x.f2], [.int .i64 x.f3], rfl, rfl, rfl⟩⟩⟩
def rd_T73 (xs : List S73) (i : Int) : S73 := xs.getD i.toNat z73
theorem at_T73 {w : World} {A : Option Addr} {n : Nat} {xs : List S73} (h : Kd.C k73 w A n xs) (i : Int) (h0 : 0 ≤ i) (h1 : i < n) : ∃ ad , A = some ad ∧ w.cell? (ad.add (i.toNat * 4)) = some (.int .i64 (rd_T73 xs i).f0) ∧ w.cell? ⟨(ad.add (i.toNat * 4)).block, (ad.add (i.toNat * 4)).off + 1, none⟩ = some (.int .i64 (rd_T73 xs i).f1) ∧ w.cell? ⟨(ad.add (i.toNat * 4)).block, (ad.add (i.toNat * 4)).off + 2, none⟩ = some (.int .i64 (rd_T73 xs i).f2) ∧ w.cell? ⟨(ad.add (i.toNat * 4)).block, (ad.add (i.toNat * 4)).off + 3, none⟩ = some (.int .i64 (rd_T73 xs i).f3) := by
 obtain ⟨ad, c, e, _, hK, hc0⟩ := Kd.C_get h z73 i h0 h1
 have hc : ∀ j u, c[j]? = some u → w.cell? (ad.add (i.toNat * 4 + j)) = some u := hc0
 obtain rfl := k73_open hK
 exact ⟨ad, e, hc 0 _ rfl, by rw [← add_field _ _ 1 (by omega)]; exact hc 1 _ rfl, by rw [← add_field _ _ 2 (by omega)]; exact hc 2 _ rfl, by rw [← add_field _ _ 3 (by omega)]; exact hc 3 _ rfl⟩
end Go.Proofs.Ytjaolkfjpnpglaa.LS
namespace Go.Proofs.Ytjaolkfjpnpglaa.LS
open Go.Proofs.Ytjaolkfjpnpglaa.PB Go.Proofs.Ytjaolkfjpnpglaa.Hd Go.Proofs.Ytjaolkfjpnpglaa.SM
open Go.RowKit Go.Proofs.YtjaolkfjpnpglaaW.PrintWords Go.Proofs.YtjaolkfjpnpglaaW.PrintLast Go.Proofs.YtjaolkfjpnpglaaW.PrintMore
attribute [local go_sem] max2_int min2_int max_two min_two max_three min_three max_four min_four   -- for this text's walks alone
set_option linter.unusedVariables false
set_option linter.unusedSimpArgs false
mutual
def laws_FnExactPlanSplit.j0 : Nat → List ByteArray → Int → ByteArray → Int → List ByteArray → Bool → List ByteArray → List ByteArray → Bool → Bool → Option (Bool)
 | 0, _, _, _, _, _, _, _, _, _, _ => none
 | k + 1, x0, x1, x2, x3, x10, x11, x12, x13, x14, x55 => if x55 = true then (some false) else ((laws_toStringS.f k x0).bind fun t252 => ((laws_eqStringS.f k x12 t252).bind fun t255 => (if t255 = true then ((laws_markStringS.f k x12 1).bind fun bt256 => (if bt256.1 < 0 then (laws_FnExactPlanSplit.j1 k x0 x1 x2 x3 x10 x11 x13 true) else ((laws_eqStringS.f k x13 x10).bind fun t258 => (if t258 = true then (laws_FnExactPlanSplit.j1 k x0 x1 x2 x3 x10 x11 x13 (x14 != x11)) else (laws_FnExactPlanSplit.j1 k x0 x1 x2 x3 x10 x11 x13 true))))) else (some false))))
def laws_FnExactPlanSplit.j1 : Nat → List ByteArray → Int → ByteArray → Int → List ByteArray → Bool → List ByteArray → Bool → Option (Bool)
 | 0, _, _, _, _, _, _, _, _ => none
 | k + 1, x0, x1, x2, x3, x10, x11, x13, x76 => if x76 = true then (some false) else ((laws_markStringS.f k x13 1).bind fun bt259 => ((laws_heldStringS.f k bt259.2 1).bind fun t261 => (if t261 < 0 then (some false) else (if t261 = bt259.1 then ((laws_toStringS.f k x0).bind fun t262 => ((impl_PlanSplit.f t262 x1 x2 x3).bind fun bt265 => ((laws_eqStringS.f k bt265.1 x10).bind fun t269 => (if t269 = true then (laws_FnExactPlanSplit.j2 k bt259.2 bt259.1 (bt265.2 != x11)) else (laws_FnExactPlanSplit.j2 k bt259.2 bt259.1 true))))) else (some false)))))
def laws_FnExactPlanSplit.j2 : Nat → List ByteArray → Int → Bool → Option (Bool)
 | 0, _, _, _ => none
 | k + 1, x13, x16, x105 => if x105 = true then (some false) else ((laws_heldStringS.f k x13 1).bind fun t270 => (if t270 < 0 then (some false) else (if t270 = x16 then (some true) else (some false))))
end
def laws_FnExactPlanSplit.f (k : Nat) (l0 : List ByteArray) (a1 : Int) (a2 : ByteArray) (a3 : Int) : Option (Bool) := if (a2.size : Int) > 1048576 then (some true) else ((laws_szStringS.f k l0 1048576).bind fun t236 => (if t236 < 0 then (some true) else ((laws_toStringS.f k l0).bind fun t237 => ((spec_PlanSplit.f k t237 a1 a2 a3).bind fun bt240 => ((laws_toStringS.f k l0).bind fun t244 => ((impl_PlanSplit.f t244 a1 a2 a3).bind fun bt247 => ((laws_eqStringS.f k bt247.1 bt240.1).bind fun t251 => (if t251 = true then (laws_FnExactPlanSplit.j0 k l0 a1 a2 a3 bt240.1 bt240.2 t244 bt247.1 bt247.2 (bt247.2 != bt240.2)) else (laws_FnExactPlanSplit.j0 k l0 a1 a2 a3 bt240.1 bt240.2 t244 bt247.1 bt247.2 true)))))))))
set_option maxHeartbeats 8000000 in
set_option maxRecDepth 100000 in
theorem laws_FnExactPlanSplit.calls (k : Nat) (A0 : Option Addr) (c0 : Nat) (l0 : List ByteArray) (a1 : Int) (a2 : ByteArray) (a3 : Int) (r : Bool) (w : World) (hr0 : Kd.C Kd.string w A0 l0.length l0) (hc0 : l0.length ≤ c0) (h : laws_FnExactPlanSplit.f k l0 a1 a2 a3 = some r) :
  Calls Try.prog 8 #[.slice A0 l0.length c0, .int .i64 a1, .string a2, .int .i64 a3] w fun e w' => e = .returned (.bool r) ∧ Below w.heap.size w w' := by
 have HR0 := Aside0.mk hr0
 have HC0 := Aside0.mk hc0
 clear hr0 hc0
 have HB := Aside0.mk (Below.refl w.heap.size w)
 have H : (if (a2.size : Int) > 1048576 then (some true) else ((laws_szStringS.f k l0 1048576).bind fun t236 => (if t236 < 0 then (some true) else ((laws_toStringS.f k l0).bind fun t237 => ((spec_PlanSplit.f k t237 a1 a2 a3).bind fun bt240 => ((laws_toStringS.f k l0).bind fun t244 => ((impl_PlanSplit.f t244 a1 a2 a3).bind fun bt247 => ((laws_eqStringS.f k bt247.1 bt240.1).bind fun t251 => (if t251 = true then (laws_FnExactPlanSplit.j0 k l0 a1 a2 a3 bt240.1 bt240.2 t244 bt247.1 bt247.2 (bt247.2 != bt240.2)) else (laws_FnExactPlanSplit.j0 k l0 a1 a2 a3 bt240.1 bt240.2 t244 bt247.1 bt247.2 true)))))))))) = some r := h
 clear h
 by_cases c5 : (a2.size : Int) > 1048576
 ·rw [if_pos c5] at H
  have c5b0 : decide (1048576 < (a2.size : Int)) = true := decide_eq_true c5
  have c5b1 : decide (1048576 < a2.size) = true := decide_eq_true (by omega)
  clear c5
  obtain rfl := Option.some.inj H
  go_enter Try.func8, Try.ntmps8
  go_wp2
  go_ret
  exact ⟨by first | rfl | (simp [errW_none, errW_some] <;> rfl) | (simp [*, errW_none, errW_some] <;> rfl), by repeat (first | (with_reducible first | exact HB.out | apply below_alloc | apply pw_below_drewN | apply below_drew1) | exact HB.out)⟩
 ·rw [if_neg c5] at H
  have c5b0 : decide (1048576 < (a2.size : Int)) = false := decide_eq_false c5
  have c5b1 : decide (1048576 < a2.size) = false := decide_eq_false (by omega)
  clear c5
  replace H := Option.bind_eq_some_iff.mp H
  obtain ⟨t236, A60, H⟩ := H
  replace H : (if t236 < 0 then (some true) else ((laws_toStringS.f k l0).bind fun t237 => ((spec_PlanSplit.f k t237 a1 a2 a3).bind fun bt240 => ((laws_toStringS.f k l0).bind fun t244 => ((impl_PlanSplit.f t244 a1 a2 a3).bind fun bt247 => ((laws_eqStringS.f k bt247.1 bt240.1).bind fun t251 => (if t251 = true then (laws_FnExactPlanSplit.j0 k l0 a1 a2 a3 bt240.1 bt240.2 t244 bt247.1 bt247.2 (bt247.2 != bt240.2)) else (laws_FnExactPlanSplit.j0 k l0 a1 a2 a3 bt240.1 bt240.2 t244 bt247.1 bt247.2 true)))))))) = some r := H
  have A6 := Aside0.mk A60
  clear A60
  by_cases c7 : t236 < 0
  ·rw [if_pos c7] at H
   have c7b0 : decide (t236 < 0) = true := decide_eq_true c7
   clear c7
   obtain rfl := Option.some.inj H
   go_enter Try.func8, Try.ntmps8
   go_wp2_with (first | ((with_reducible refine gate_callee (f := 15) rfl ?_); refine goesL_ (some 25) rfl rfl Try.func15 (by kernel_rfl) rfl #[.slice A0 l0.length c0, .int .i64 1048576] rfl (by (try simp only [List.map_toArray, List.map_cons, List.map_nil]); first | done | rfl | (simp only [List.length_drop, List.length_take]; rfl)) ?_; (with_reducible refine (laws_szStringS.calls k _ _ l0 1048576 t236 _ ?side1 ?side2 A6.out).mono ?_); (case side1 => repeat (first | exact HR0.out | (with_reducible refine Kd.C_alloc ?_ _) | (with_reducible refine Kd.C_drewN ?_ _) | (with_reducible refine Kd.C_drew ?_))); (case side2 => exact HC0.out); rintro e w' ⟨rfl, ⟨nd, rfl⟩⟩; refine ⟨_, rfl, ?_⟩))
   go_ret
   exact ⟨by first | rfl | (simp [errW_none, errW_some] <;> rfl) | (simp [*, errW_none, errW_some] <;> rfl), by repeat (first | (with_reducible first | exact HB.out | apply below_alloc | apply pw_below_drewN | apply below_drew1) | exact HB.out)⟩
  ·rw [if_neg c7] at H
   have c7b0 : decide (t236 < 0) = false := decide_eq_false c7
   clear c7
   replace H := Option.bind_eq_some_iff.mp H
   obtain ⟨t237, A80, H⟩ := H
   replace H : ((spec_PlanSplit.f k t237 a1 a2 a3).bind fun bt240 => ((laws_toStringS.f k l0).bind fun t244 => ((impl_PlanSplit.f t244 a1 a2 a3).bind fun bt247 => ((laws_eqStringS.f k bt247.1 bt240.1).bind fun t251 => (if t251 = true then (laws_FnExactPlanSplit.j0 k l0 a1 a2 a3 bt240.1 bt240.2 t244 bt247.1 bt247.2 (bt247.2 != bt240.2)) else (laws_FnExactPlanSplit.j0 k l0 a1 a2 a3 bt240.1 bt240.2 t244 bt247.1 bt247.2 true)))))) = some r := H
   have A8 := Aside0.mk A80
   clear A80
   replace H := Option.bind_eq_some_iff.mp H
   obtain ⟨⟨t240, t241⟩, A90, H⟩ := H
   replace H : ((laws_toStringS.f k l0).bind fun t244 => ((impl_PlanSplit.f t244 a1 a2 a3).bind fun bt247 => ((laws_eqStringS.f k bt247.1 t240).bind fun t251 => (if t251 = true then (laws_FnExactPlanSplit.j0 k l0 a1 a2 a3 t240 t241 t244 bt247.1 bt247.2 (bt247.2 != t241)) else (laws_FnExactPlanSplit.j0 k l0 a1 a2 a3 t240 t241 t244 bt247.1 bt247.2 true))))) = some r := H
   have A9 := Aside0.mk A90
   clear A90
   replace H := Option.bind_eq_some_iff.mp H
   obtain ⟨t244, A100, H⟩ := H
   replace H : ((impl_PlanSplit.f t244 a1 a2 a3).bind fun bt247 => ((laws_eqStringS.f k bt247.1 t240).bind fun t251 => (if t251 = true then (laws_FnExactPlanSplit.j0 k l0 a1 a2 a3 t240 t241 t244 bt247.1 bt247.2 (bt247.2 != t241)) else (laws_FnExactPlanSplit.j0 k l0 a1 a2 a3 t240 t241 t244 bt247.1 bt247.2 true)))) = some r := H
   have A10 := Aside0.mk A100
   clear A100
   replace H := Option.bind_eq_some_iff.mp H
   obtain ⟨⟨t247, t248⟩, A110, H⟩ := H
   replace H : ((laws_eqStringS.f k t247 t240).bind fun t251 => (if t251 = true then (laws_FnExactPlanSplit.j0 k l0 a1 a2 a3 t240 t241 t244 t247 t248 (t248 != t241)) else (laws_FnExactPlanSplit.j0 k l0 a1 a2 a3 t240 t241 t244 t247 t248 true))) = some r := H
   have A11 := Aside0.mk A110
   clear A110
   have HC12 := Aside0.mk H
   clear H
   go_enter Try.func8, Try.ntmps8
   go_upto_region 10 with (first | ((with_reducible refine gate_callee (f := 15) rfl ?_); refine goesL_ (some 25) rfl rfl Try.func15 (by kernel_rfl) rfl #[.slice A0 l0.length c0, .int .i64 1048576] rfl (by (try simp only [List.map_toArray, List.map_cons, List.map_nil]); first | done | rfl | (simp only [List.length_drop, List.length_take]; rfl)) ?_; (with_reducible refine (laws_szStringS.calls k _ _ l0 1048576 t236 _ ?side1 ?side2 A6.out).mono ?_); (case side1 => repeat (first | exact HR0.out | (with_reducible refine Kd.C_alloc ?_ _) | (with_reducible refine Kd.C_drewN ?_ _) | (with_reducible refine Kd.C_drew ?_))); (case side2 => exact HC0.out); rintro e w' ⟨rfl, ⟨nd, rfl⟩⟩; refine ⟨_, rfl, ?_⟩) | ((with_reducible refine gate_callee (f := 17) rfl ?_); refine goesL_ (some 30) rfl rfl Try.func17 (by kernel_rfl) rfl #[.slice A0 l0.length c0] rfl (by (try simp only [List.map_toArray, List.map_cons, List.map_nil]); first | done | rfl | (simp only [List.length_drop, List.length_take]; rfl)) ?_; (with_reducible refine (laws_toStringS.calls k _ _ l0 t237 _ ?side1 ?side2 A8.out).mono ?_); (case side1 => repeat (first | exact HR0.out | (with_reducible refine Kd.C_alloc ?_ _) | (with_reducible refine Kd.C_drewN ?_ _) | (with_reducible refine Kd.C_drew ?_))); (case side2 => exact HC0.out); rintro e w13 ⟨v238, rfl, ho0, hb⟩; refine ⟨_, rfl, ?_⟩; have n0_ := Aside0.mk (Kd.R_lower ho0 (below_size (by repeat (first | (with_reducible first | exact HB.out | apply below_alloc | apply pw_below_drewN | apply below_drew1) | exact HB.out)))); have n1_ := Aside0.mk (below_step (by repeat (first | (with_reducible first | exact HB.out | apply below_alloc | apply pw_below_drewN | apply below_drew1) | exact HB.out)) hb); clear HB; have HO239 := n0_; have HB := n1_; clear n0_ n1_; (try clear hb); (try clear hb2); (try clear hk); (try clear hi); (try clear ho0); obtain ⟨Ao14, co14, eo14⟩ := Kd.R_slice HO239.out; subst eo14) | ((with_reducible refine gate_callee (f := 30) rfl ?_); refine goesL_ (some 34) rfl rfl Try.func30 (by kernel_rfl) rfl #[.slice Ao14 t237.length co14, .int .i64 a1, .string a2, .int .i64 a3] rfl (by (try simp only [List.map_toArray, List.map_cons, List.map_nil]); first | done | rfl | (simp only [List.length_drop, List.length_take]; rfl)) ?_; (with_reducible refine (spec_PlanSplit.calls k _ _ t237 a1 a2 a3 t240 t241 _ ?side1 ?side2 A9.out).mono ?_); (case side1 => repeat (first | exact (Kd.R_reads' HO239.out).2.2 | (with_reducible refine Kd.C_alloc ?_ _) | (with_reducible refine Kd.C_drewN ?_ _) | (with_reducible refine Kd.C_drew ?_))); (case side2 => exact (Kd.R_reads' HO239.out).2.1); rintro e w15 ⟨v242, rfl, ho0, hb⟩; refine ⟨_, rfl, ?_⟩; have n0_ := Aside0.mk (Kd.R_elder' (by (with_reducible repeat (first | apply Kd.R_alloc | apply Kd.R_drewN | apply Kd.R_drew)); exact HO239.out) (Kd.R_base ho0) hb); have n1_ := Aside0.mk (Kd.R_lower (Kd.R_new' ho0 (Kd.R_lt (by (with_reducible repeat (first | apply Kd.R_alloc | apply Kd.R_drewN | apply Kd.R_drew)); exact HO239.out))) (below_size (by repeat (first | (with_reducible first | exact HB.out | apply below_alloc | apply pw_below_drewN | apply below_drew1) | exact HB.out)))); have n2_ := Aside0.mk (below_step (by repeat (first | (with_reducible first | exact HB.out | apply below_alloc | apply pw_below_drewN | apply below_drew1) | exact HB.out)) hb); clear HO239; clear HB; have HO239 := n0_; have HO243 := n1_; have HB := n2_; clear n0_ n1_ n2_; (try clear hb); (try clear hb2); (try clear hk); (try clear hi); (try clear ho0)) | ((with_reducible refine gate_callee (f := 17) rfl ?_); refine goesL_ (some 38) rfl rfl Try.func17 (by kernel_rfl) rfl #[.slice A0 l0.length c0] rfl (by (try simp only [List.map_toArray, List.map_cons, List.map_nil]); first | done | rfl | (simp only [List.length_drop, List.length_take]; rfl)) ?_; (with_reducible refine (laws_toStringS.calls k _ _ l0 t244 _ ?side1 ?side2 A10.out).mono ?_); (case side1 => repeat (first | exact (Kd.C_below HR0.out HB.out) | (with_reducible refine Kd.C_alloc ?_ _) | (with_reducible refine Kd.C_drewN ?_ _) | (with_reducible refine Kd.C_drew ?_))); (case side2 => exact HC0.out); rintro e w16 ⟨v245, rfl, ho0, hb⟩; refine ⟨_, rfl, ?_⟩; have n0_ := Aside0.mk (Kd.R_elder' (by (with_reducible repeat (first | apply Kd.R_alloc | apply Kd.R_drewN | apply Kd.R_drew)); exact HO239.out) (Kd.R_base ho0) hb); have n1_ := Aside0.mk (Kd.R_elder' (by (with_reducible repeat (first | apply Kd.R_alloc | apply Kd.R_drewN | apply Kd.R_drew)); exact HO243.out) (Kd.R_base ho0) hb); have n2_ := Aside0.mk (Kd.R_lower (Kd.R_new' (Kd.R_new' ho0 (Kd.R_lt (by (with_reducible repeat (first | apply Kd.R_alloc | apply Kd.R_drewN | apply Kd.R_drew)); exact HO239.out))) (Kd.R_lt (by (with_reducible repeat (first | apply Kd.R_alloc | apply Kd.R_drewN | apply Kd.R_drew)); exact HO243.out))) (below_size (by repeat (first | (with_reducible first | exact HB.out | apply below_alloc | apply pw_below_drewN | apply below_drew1) | exact HB.out)))); have n3_ := Aside0.mk (below_step (by repeat (first | (with_reducible first | exact HB.out | apply below_alloc | apply pw_below_drewN | apply below_drew1) | exact HB.out)) hb); clear HO239; clear HO243; clear HB; have HO239 := n0_; have HO243 := n1_; have HO246 := n2_; have HB := n3_; clear n0_ n1_ n2_ n3_; (try clear hb); (try clear hb2); (try clear hk); (try clear hi); (try clear ho0); obtain ⟨Ao17, co17, eo17⟩ := Kd.R_slice HO246.out; subst eo17) | ((with_reducible refine gate_callee (f := 31) rfl ?_); refine goesL_ (some 44) rfl rfl Try.func31 (by kernel_rfl) rfl #[.slice Ao17 t244.length co17, .int .i64 a1, .string a2, .int .i64 a3] rfl (by (try simp only [List.map_toArray, List.map_cons, List.map_nil]); first | done | rfl | (simp only [List.length_drop, List.length_take]; rfl)) ?_; (with_reducible refine (impl_PlanSplit.calls _ _ t244 a1 a2 a3 t247 t248 _ ?side1 ?side2 A11.out).mono ?_); (case side1 => repeat (first | exact (Kd.R_reads' HO246.out).2.2 | (with_reducible refine Kd.C_alloc ?_ _) | (with_reducible refine Kd.C_drewN ?_ _) | (with_reducible refine Kd.C_drew ?_))); (case side2 => exact (Kd.R_reads' HO246.out).2.1); rintro e w18 ⟨v249, rfl, ho0, hb⟩; refine ⟨_, rfl, ?_⟩; have n0_ := Aside0.mk (Kd.R_elder' (by (with_reducible repeat (first | apply Kd.R_alloc | apply Kd.R_drewN | apply Kd.R_drew)); exact HO239.out) (Kd.R_base ho0) hb); have n1_ := Aside0.mk (Kd.R_elder' (by (with_reducible repeat (first | apply Kd.R_alloc | apply Kd.R_drewN | apply Kd.R_drew)); exact HO243.out) (Kd.R_base ho0) hb); have n2_ := Aside0.mk (Kd.R_elder' (by (with_reducible repeat (first | apply Kd.R_alloc | apply Kd.R_drewN | apply Kd.R_drew)); exact HO246.out) (Kd.R_base ho0) hb); have n3_ := Aside0.mk (Kd.R_lower (Kd.R_new' (Kd.R_new' (Kd.R_new' ho0 (Kd.R_lt (by (with_reducible repeat (first | apply Kd.R_alloc | apply Kd.R_drewN | apply Kd.R_drew)); exact HO239.out))) (Kd.R_lt (by (with_reducible repeat (first | apply Kd.R_alloc | apply Kd.R_drewN | apply Kd.R_drew)); exact HO243.out))) (Kd.R_lt (by (with_reducible repeat (first | apply Kd.R_alloc | apply Kd.R_drewN | apply Kd.R_drew)); exact HO246.out))) (below_size (by repeat (first | (with_reducible first | exact HB.out | apply below_alloc | apply pw_below_drewN | apply below_drew1) | exact HB.out)))); have n4_ := Aside0.mk (below_step (by repeat (first | (with_reducible first | exact HB.out | apply below_alloc | apply pw_below_drewN | apply below_drew1) | exact HB.out)) hb); clear HO239; clear HO243; clear HO246; clear HB; have HO239 := n0_; have HO243 := n1_; have HO246 := n2_; have HO250 := n3_; have HB := n4_; clear n0_ n1_ n2_ n3_ n4_; (try clear hb); (try clear hb2); (try clear hk); (try clear hi); (try clear ho0)))
   (try simp only [Act.put, List.setIfInBounds_toArray, List.set_cons_zero, List.set_cons_succ])
   go_cut [55] (fun v55 wc => ∃ (kq : Nat) (x55_11 : Bool), v55 = .bool x55_11 ∧ Aside0 (laws_FnExactPlanSplit.j0 kq l0 a1 a2 a3 t240 t241 t244 t247 t248 x55_11 = some r) ∧ Aside0 (kq ≤ k) ∧ Aside0 (Kd.R Kd.string 9 wc w.heap.size (fun k_ => some k_ ≠ ((.slice Ao17 t244.length co17) : Value).ownBlock ∧ some k_ ≠ (v249 : Value).ownBlock) v242 t240) ∧ Aside0 (Kd.R Kd.string 9 wc w.heap.size (fun k_ => some k_ ≠ (v242 : Value).ownBlock ∧ some k_ ≠ (v249 : Value).ownBlock) (.slice Ao17 t244.length co17) t244) ∧ Aside0 (Kd.R Kd.string 9 wc w.heap.size (fun k_ => some k_ ≠ (v242 : Value).ownBlock ∧ some k_ ≠ ((.slice Ao17 t244.length co17) : Value).ownBlock) v249 t247) ∧ Aside0 (Below w.heap.size w wc))
   case first =>
    have H := HC12.out
    clear HC12
    replace H := Option.bind_eq_some_iff.mp H
    obtain ⟨t251, A190, H⟩ := H
    replace H : (if t251 = true then (laws_FnExactPlanSplit.j0 k l0 a1 a2 a3 t240 t241 t244 t247 t248 (t248 != t241)) else (laws_FnExactPlanSplit.j0 k l0 a1 a2 a3 t240 t241 t244 t247 t248 true)) = some r := H
    have A19 := Aside0.mk A190
    clear A190
    by_cases c20 : t251 = true
    ·subst c20
     have H1 : (laws_FnExactPlanSplit.j0 k l0 a1 a2 a3 t240 t241 t244 t247 t248 (t248 != t241)) = some r := by rw [if_pos rfl] at H; exact H
     clear H
     have H := H1
     clear H1
     have H' := Aside0.mk H
     clear H
     obtain ⟨Ao21, co21, eo21⟩ := Kd.R_slice HO250.out
     subst eo21
     obtain ⟨Ao22, co22, eo22⟩ := Kd.R_slice HO243.out
     subst eo22
     go_wp2_with (first | ((with_reducible refine gate_callee (f := 19) rfl ?_); refine goesL_ (some 49) rfl rfl Try.func19 (by kernel_rfl) rfl #[.slice Ao21 t247.length co21, .slice Ao22 t240.length co22] rfl (by (try simp only [List.map_toArray, List.map_cons, List.map_nil]); first | done | rfl | (simp only [List.length_drop, List.length_take]; rfl)) ?_; (with_reducible refine (laws_eqStringS.calls k _ _ t247 _ _ t240 true _ ?side1 ?side2 ?side3 ?side4 A19.out).mono ?_); (case side1 => repeat (first | exact (Kd.R_reads' HO250.out).2.2 | (with_reducible refine Kd.C_alloc ?_ _) | (with_reducible refine Kd.C_drewN ?_ _) | (with_reducible refine Kd.C_drew ?_))); (case side2 => exact (Kd.R_reads' HO250.out).2.1); (case side3 => repeat (first | exact (Kd.R_reads' HO243.out).2.2 | (with_reducible refine Kd.C_alloc ?_ _) | (with_reducible refine Kd.C_drewN ?_ _) | (with_reducible refine Kd.C_drew ?_))); (case side4 => exact (Kd.R_reads' HO243.out).2.1); rintro e w' ⟨rfl, ⟨nd, rfl⟩⟩; refine ⟨_, rfl, ?_⟩))
     go_meet
     case rel => exact ⟨_, ((t248 != t241)), (by first | rfl | (simp; done) | (simp [*]; done)), H', ⟨by first | omega | exact Nat.le_refl _⟩, ⟨by (with_reducible repeat (first | apply Kd.R_alloc | apply Kd.R_drewN | apply Kd.R_drew)); exact Kd.R_mono HO243.out (fun _ hk => ⟨hk.1.2, hk.2⟩)⟩, ⟨by (with_reducible repeat (first | apply Kd.R_alloc | apply Kd.R_drewN | apply Kd.R_drew)); exact Kd.R_mono HO246.out (fun _ hk => ⟨hk.1.2, hk.2⟩)⟩, ⟨by (with_reducible repeat (first | apply Kd.R_alloc | apply Kd.R_drewN | apply Kd.R_drew)); exact Kd.R_mono HO250.out (fun _ hk => ⟨hk.1.2, hk.2⟩)⟩, ⟨by repeat (first | (with_reducible first | exact HB.out | apply below_alloc | apply pw_below_drewN | apply below_drew1) | exact HB.out)⟩⟩
    ·replace c20 := Bool.eq_false_iff.mpr c20
     subst c20
     have H1 : (laws_FnExactPlanSplit.j0 k l0 a1 a2 a3 t240 t241 t244 t247 t248 true) = some r := by rw [if_neg (show ¬ (false = true) by decide)] at H; exact H
     clear H
     have H := H1
     clear H1
     have H' := Aside0.mk H
     clear H
     obtain ⟨Ao23, co23, eo23⟩ := Kd.R_slice HO250.out
     subst eo23
     obtain ⟨Ao24, co24, eo24⟩ := Kd.R_slice HO243.out
     subst eo24
     go_wp2_with (first | ((with_reducible refine gate_callee (f := 19) rfl ?_); refine goesL_ (some 49) rfl rfl Try.func19 (by kernel_rfl) rfl #[.slice Ao23 t247.length co23, .slice Ao24 t240.length co24] rfl (by (try simp only [List.map_toArray, List.map_cons, List.map_nil]); first | done | rfl | (simp only [List.length_drop, List.length_take]; rfl)) ?_; (with_reducible refine (laws_eqStringS.calls k _ _ t247 _ _ t240 false _ ?side1 ?side2 ?side3 ?side4 A19.out).mono ?_); (case side1 => repeat (first | exact (Kd.R_reads' HO250.out).2.2 | (with_reducible refine Kd.C_alloc ?_ _) | (with_reducible refine Kd.C_drewN ?_ _) | (with_reducible refine Kd.C_drew ?_))); (case side2 => exact (Kd.R_reads' HO250.out).2.1); (case side3 => repeat (first | exact (Kd.R_reads' HO243.out).2.2 | (with_reducible refine Kd.C_alloc ?_ _) | (with_reducible refine Kd.C_drewN ?_ _) | (with_reducible refine Kd.C_drew ?_))); (case side4 => exact (Kd.R_reads' HO243.out).2.1); rintro e w' ⟨rfl, ⟨nd, rfl⟩⟩; refine ⟨_, rfl, ?_⟩))
     go_meet
     case rel => exact ⟨_, (true), (by first | rfl | (simp; done) | (simp [*]; done)), H', ⟨by first | omega | exact Nat.le_refl _⟩, ⟨by (with_reducible repeat (first | apply Kd.R_alloc | apply Kd.R_drewN | apply Kd.R_drew)); exact Kd.R_mono HO243.out (fun _ hk => ⟨hk.1.2, hk.2⟩)⟩, ⟨by (with_reducible repeat (first | apply Kd.R_alloc | apply Kd.R_drewN | apply Kd.R_drew)); exact Kd.R_mono HO246.out (fun _ hk => ⟨hk.1.2, hk.2⟩)⟩, ⟨by (with_reducible repeat (first | apply Kd.R_alloc | apply Kd.R_drewN | apply Kd.R_drew)); exact Kd.R_mono HO250.out (fun _ hk => ⟨hk.1.2, hk.2⟩)⟩, ⟨by repeat (first | (with_reducible first | exact HB.out | apply below_alloc | apply pw_below_drewN | apply below_drew1) | exact HB.out)⟩⟩
   case rest =>
    clear HC12
    try clear c1
    try clear c2
    try clear p2
    try clear c3
    try clear c5
    try clear c5b0
    try clear c5b1
    try clear c7
    try clear c7b0
    try clear c8
    try clear c15
    try clear c17
    try clear c19
    try clear c20
    obtain ⟨kq, x55_11, rfl, HA, HJ11, HO_10, HO_12, HO_13, HB⟩ := hcut
    cases kq with
    | zero => exact absurd HA.out (by simp [laws_FnExactPlanSplit.j0])
    | succ kj11 =>
     have H := HA.out
     clear HA
     simp only [laws_FnExactPlanSplit.j0] at H
     by_cases c25 : x55_11 = true
     ·subst c25
      have H1 : (some false) = some r := by rw [if_pos rfl] at H; exact H
      clear H
      have H := H1
      clear H1
      obtain rfl := Option.some.inj H
      go_wp2
      go_ret
      exact ⟨by first | rfl | (simp [errW_none, errW_some] <;> rfl) | (simp [*, errW_none, errW_some] <;> rfl), by repeat (first | (with_reducible first | exact HB.out | apply below_alloc | apply pw_below_drewN | apply below_drew1) | exact HB.out)⟩
     ·replace c25 := Bool.eq_false_iff.mpr c25
      subst c25
      have H1 : ((laws_toStringS.f kj11 l0).bind fun t252 => ((laws_eqStringS.f kj11 t244 t252).bind fun t255 => (if t255 = true then ((laws_markStringS.f kj11 t244 1).bind fun bt256 => (if bt256.1 < 0 then (laws_FnExactPlanSplit.j1 kj11 l0 a1 a2 a3 t240 t241 t247 true) else ((laws_eqStringS.f kj11 t247 t240).bind fun t258 => (if t258 = true then (laws_FnExactPlanSplit.j1 kj11 l0 a1 a2 a3 t240 t241 t247 (t248 != t241)) else (laws_FnExactPlanSplit.j1 kj11 l0 a1 a2 a3 t240 t241 t247 true))))) else (some false)))) = some r := by rw [if_neg (show ¬ (false = true) by decide)] at H; exact H
      clear H
      have H := H1
      clear H1
      replace H := Option.bind_eq_some_iff.mp H
      obtain ⟨t252, A260, H⟩ := H
      replace H : ((laws_eqStringS.f kj11 t244 t252).bind fun t255 => (if t255 = true then ((laws_markStringS.f kj11 t244 1).bind fun bt256 => (if bt256.1 < 0 then (laws_FnExactPlanSplit.j1 kj11 l0 a1 a2 a3 t240 t241 t247 true) else ((laws_eqStringS.f kj11 t247 t240).bind fun t258 => (if t258 = true then (laws_FnExactPlanSplit.j1 kj11 l0 a1 a2 a3 t240 t241 t247 (t248 != t241)) else (laws_FnExactPlanSplit.j1 kj11 l0 a1 a2 a3 t240 t241 t247 true))))) else (some false))) = some r := H
      have A26 := Aside0.mk A260
      clear A260
      replace H := Option.bind_eq_some_iff.mp H
      obtain ⟨t255, A270, H⟩ := H
      replace H : (if t255 = true then ((laws_markStringS.f kj11 t244 1).bind fun bt256 => (if bt256.1 < 0 then (laws_FnExactPlanSplit.j1 kj11 l0 a1 a2 a3 t240 t241 t247 true) else ((laws_eqStringS.f kj11 t247 t240).bind fun t258 => (if t258 = true then (laws_FnExactPlanSplit.j1 kj11 l0 a1 a2 a3 t240 t241 t247 (t248 != t241)) else (laws_FnExactPlanSplit.j1 kj11 l0 a1 a2 a3 t240 t241 t247 true))))) else (some false)) = some r := H
      have A27 := Aside0.mk A270
      clear A270
      by_cases c28 : t255 = true
      ·subst c28
       have H1 : ((laws_markStringS.f kj11 t244 1).bind fun bt256 => (if bt256.1 < 0 then (laws_FnExactPlanSplit.j1 kj11 l0 a1 a2 a3 t240 t241 t247 true) else ((laws_eqStringS.f kj11 t247 t240).bind fun t258 => (if t258 = true then (laws_FnExactPlanSplit.j1 kj11 l0 a1 a2 a3 t240 t241 t247 (t248 != t241)) else (laws_FnExactPlanSplit.j1 kj11 l0 a1 a2 a3 t240 t241 t247 true))))) = some r := by rw [if_pos rfl] at H; exact H
       clear H
       have H := H1
       clear H1
       replace H := Option.bind_eq_some_iff.mp H
       obtain ⟨⟨t256, t257⟩, A290, H⟩ := H
       replace H : (if t256 < 0 then (laws_FnExactPlanSplit.j1 kj11 l0 a1 a2 a3 t240 t241 t247 true) else ((laws_eqStringS.f kj11 t247 t240).bind fun t258 => (if t258 = true then (laws_FnExactPlanSplit.j1 kj11 l0 a1 a2 a3 t240 t241 t247 (t248 != t241)) else (laws_FnExactPlanSplit.j1 kj11 l0 a1 a2 a3 t240 t241 t247 true)))) = some r := H
       have A29 := Aside0.mk A290
       clear A290
       have HC30 := Aside0.mk H
       clear H
       go_upto_region 16 with (first | ((with_reducible refine gate_callee (f := 17) rfl ?_); refine goesL_ (some 58) rfl rfl Try.func17 (by kernel_rfl) rfl #[.slice A0 l0.length c0] rfl (by (try simp only [List.map_toArray, List.map_cons, List.map_nil]); first | done | rfl | (simp only [List.length_drop, List.length_take]; rfl)) ?_; (with_reducible refine (laws_toStringS.calls kj11 _ _ l0 t252 _ ?side1 ?side2 A26.out).mono ?_); (case side1 => repeat (first | exact (Kd.C_below HR0.out HB.out) | (with_reducible refine Kd.C_alloc ?_ _) | (with_reducible refine Kd.C_drewN ?_ _) | (with_reducible refine Kd.C_drew ?_))); (case side2 => exact HC0.out); rintro e w31 ⟨v253, rfl, ho0, hb⟩; refine ⟨_, rfl, ?_⟩; have n0_ := Aside0.mk (Kd.R_elder' (by (with_reducible repeat (first | apply Kd.R_alloc | apply Kd.R_drewN | apply Kd.R_drew)); exact HO_10.out) (Kd.R_base ho0) hb); have n1_ := Aside0.mk (Kd.R_elder' (by (with_reducible repeat (first | apply Kd.R_alloc | apply Kd.R_drewN | apply Kd.R_drew)); exact HO_12.out) (Kd.R_base ho0) hb); have n2_ := Aside0.mk (Kd.R_elder' (by (with_reducible repeat (first | apply Kd.R_alloc | apply Kd.R_drewN | apply Kd.R_drew)); exact HO_13.out) (Kd.R_base ho0) hb); have n3_ := Aside0.mk (Kd.R_lower (Kd.R_new' (Kd.R_new' (Kd.R_new' ho0 (Kd.R_lt (by (with_reducible repeat (first | apply Kd.R_alloc | apply Kd.R_drewN | apply Kd.R_drew)); exact HO_10.out))) (Kd.R_lt (by (with_reducible repeat (first | apply Kd.R_alloc | apply Kd.R_drewN | apply Kd.R_drew)); exact HO_12.out))) (Kd.R_lt (by (with_reducible repeat (first | apply Kd.R_alloc | apply Kd.R_drewN | apply Kd.R_drew)); exact HO_13.out))) (below_size (by repeat (first | (with_reducible first | exact HB.out | apply below_alloc | apply pw_below_drewN | apply below_drew1) | exact HB.out)))); have n4_ := Aside0.mk (below_step (by repeat (first | (with_reducible first | exact HB.out | apply below_alloc | apply pw_below_drewN | apply below_drew1) | exact HB.out)) hb); clear HO_10; clear HO_12; clear HO_13; clear HB; have HO_10 := n0_; have HO_12 := n1_; have HO_13 := n2_; have HO254 := n3_; have HB := n4_; clear n0_ n1_ n2_ n3_ n4_; (try clear hb); (try clear hb2); (try clear hk); (try clear hi); (try clear ho0); obtain ⟨Ao32, co32, eo32⟩ := Kd.R_slice HO254.out; subst eo32) | ((with_reducible refine gate_callee (f := 19) rfl ?_); refine goesL_ (some 59) rfl rfl Try.func19 (by kernel_rfl) rfl #[.slice Ao17 t244.length co17, .slice Ao32 t252.length co32] rfl (by (try simp only [List.map_toArray, List.map_cons, List.map_nil]); first | done | rfl | (simp only [List.length_drop, List.length_take]; rfl)) ?_; (with_reducible refine (laws_eqStringS.calls kj11 _ _ t244 _ _ t252 true _ ?side1 ?side2 ?side3 ?side4 A27.out).mono ?_); (case side1 => repeat (first | exact (Kd.R_reads' HO_12.out).2.2 | (with_reducible refine Kd.C_alloc ?_ _) | (with_reducible refine Kd.C_drewN ?_ _) | (with_reducible refine Kd.C_drew ?_))); (case side2 => exact (Kd.R_reads' HO_12.out).2.1); (case side3 => repeat (first | exact (Kd.R_reads' HO254.out).2.2 | (with_reducible refine Kd.C_alloc ?_ _) | (with_reducible refine Kd.C_drewN ?_ _) | (with_reducible refine Kd.C_drew ?_))); (case side4 => exact (Kd.R_reads' HO254.out).2.1); rintro e w' ⟨rfl, ⟨nd, rfl⟩⟩; refine ⟨_, rfl, ?_⟩) | ((with_reducible refine gate_callee (f := 20) rfl ?_); refine goesL_ (some 63) rfl rfl Try.func20 (by kernel_rfl) rfl #[.slice Ao17 t244.length co17, .int .i64 1] rfl (by (try simp only [List.map_toArray, List.map_cons, List.map_nil]); first | done | rfl | (simp only [List.length_drop, List.length_take]; rfl)) ?_; (with_reducible refine (laws_markStringS.calls kj11 (fun k_ => some k_ = (.slice Ao17 t244.length co17 : Value).ownBlock) (.slice Ao17 t244.length co17) t244 1 t256 t257 w _ ?side1 ?side2 A29.out).mono ?_); (case side1 => repeat (first | (with_reducible first | exact HB.out | apply below_alloc | apply pw_below_drewN | apply below_drew1) | exact HB.out)); (case side2 => exact Kd.R_tight rfl HO_12.out); rintro e w33 ⟨rfl, hy0, hb, hkp⟩; refine ⟨_, rfl, ?_⟩; have n0_ := Aside0.mk (Kd.R_mono (ok' := fun k_ => some k_ ≠ (.slice Ao17 t244.length co17 : Value).ownBlock ∧ some k_ ≠ (v249 : Value).ownBlock ∧ some k_ ≠ (.slice Ao32 t252.length co32 : Value).ownBlock) (Kd.R_keptB (HO_10.out) hkp (fun k_ hk_ hs_ => (hk_.1.1) hs_)) (fun k_ hk_ => ⟨hk_.1.1.1, hk_.1.1.2, hk_.1.2⟩)); have n1_ := Aside0.mk (Kd.R_reok rfl hy0 (fun k_ e_ => HO_12.out.1 k_ e_)); have n2_ := Aside0.mk (Kd.R_mono (ok' := fun k_ => some k_ ≠ (v242 : Value).ownBlock ∧ some k_ ≠ (.slice Ao17 t244.length co17 : Value).ownBlock ∧ some k_ ≠ (.slice Ao32 t252.length co32 : Value).ownBlock) (Kd.R_keptB (HO_13.out) hkp (fun k_ hk_ hs_ => (hk_.1.2) hs_)) (fun k_ hk_ => ⟨hk_.1.1.1, hk_.1.1.2, hk_.1.2⟩)); have n3_ := Aside0.mk (Kd.R_mono (ok' := fun k_ => some k_ ≠ (v242 : Value).ownBlock ∧ some k_ ≠ (.slice Ao17 t244.length co17 : Value).ownBlock ∧ some k_ ≠ (v249 : Value).ownBlock) (Kd.R_keptB (HO254.out) hkp (fun k_ hk_ hs_ => (hk_.1.2) hs_)) (fun k_ hk_ => ⟨hk_.1.1.1.2, hk_.1.1.2, hk_.1.2⟩)); have n4_ := Aside0.mk (hb); clear HO_10; clear HO_12; clear HO_13; clear HO254; clear HB; have HO_10 := n0_; have HO_12 := n1_; have HO_13 := n2_; have HO254 := n3_; have HB := n4_; clear n0_ n1_ n2_ n3_ n4_; (try clear hb); (try clear hkp); (try clear hy0)))
       (try simp only [Act.put, List.setIfInBounds_toArray, List.set_cons_zero, List.set_cons_succ])
       go_cut [76] (fun v76 wc => ∃ (kq : Nat) (x76_29 : Bool), v76 = .bool x76_29 ∧ Aside0 (laws_FnExactPlanSplit.j1 kq l0 a1 a2 a3 t240 t241 t247 x76_29 = some r) ∧ Aside0 (kq ≤ kj11) ∧ Aside0 (Kd.R Kd.string 9 wc w.heap.size (fun k_ => some k_ ≠ (v249 : Value).ownBlock) v242 t240) ∧ Aside0 (Kd.R Kd.string 9 wc w.heap.size (fun k_ => some k_ ≠ (v242 : Value).ownBlock) v249 t247) ∧ Aside0 (Below w.heap.size w wc))
       case first =>
        have H := HC30.out
        clear HC30
        by_cases c34 : t256 < 0
        ·rw [if_pos c34] at H
         have c34b0 : decide (t256 < 0) = true := decide_eq_true c34
         clear c34
         (first | rw [c34b0] | (simp only [i64_w, i32_w]; rw [c34b0]) | skip)
         have H' := Aside0.mk H
         clear H
         go_wp2
         go_meet
         case rel => exact ⟨_, (true), (by first | rfl | (simp; done) | (simp [*]; done)), H', ⟨by have := HJ11.out; first | omega | exact Nat.le_refl _⟩, ⟨by (with_reducible repeat (first | apply Kd.R_alloc | apply Kd.R_drewN | apply Kd.R_drew)); exact Kd.R_mono HO_10.out (fun _ hk => hk.2.1)⟩, ⟨by (with_reducible repeat (first | apply Kd.R_alloc | apply Kd.R_drewN | apply Kd.R_drew)); exact Kd.R_mono HO_13.out (fun _ hk => hk.1)⟩, ⟨by repeat (first | (with_reducible first | exact HB.out | apply below_alloc | apply pw_below_drewN | apply below_drew1) | exact HB.out)⟩⟩
        ·rw [if_neg c34] at H
         have c34b0 : decide (t256 < 0) = false := decide_eq_false c34
         clear c34
         (first | rw [c34b0] | (simp only [i64_w, i32_w]; rw [c34b0]) | skip)
         replace H := Option.bind_eq_some_iff.mp H
         obtain ⟨t258, A350, H⟩ := H
         replace H : (if t258 = true then (laws_FnExactPlanSplit.j1 kj11 l0 a1 a2 a3 t240 t241 t247 (t248 != t241)) else (laws_FnExactPlanSplit.j1 kj11 l0 a1 a2 a3 t240 t241 t247 true)) = some r := H
         have A35 := Aside0.mk A350
         clear A350
         by_cases c36 : t258 = true
         ·subst c36
          have H1 : (laws_FnExactPlanSplit.j1 kj11 l0 a1 a2 a3 t240 t241 t247 (t248 != t241)) = some r := by rw [if_pos rfl] at H; exact H
          clear H
          have H := H1
          clear H1
          have H' := Aside0.mk H
          clear H
          obtain ⟨Ao37, co37, eo37⟩ := Kd.R_slice HO_13.out
          subst eo37
          obtain ⟨Ao38, co38, eo38⟩ := Kd.R_slice HO_10.out
          subst eo38
          go_wp2_with (first | (go_at_call 19; (with_reducible refine (laws_eqStringS.calls kj11 _ _ t247 _ _ t240 true _ ?side1 ?side2 ?side3 ?side4 A35.out).mono ?_); (case side1 => repeat (first | exact (Kd.R_reads' HO_13.out).2.2 | (with_reducible refine Kd.C_alloc ?_ _) | (with_reducible refine Kd.C_drewN ?_ _) | (with_reducible refine Kd.C_drew ?_))); (case side2 => exact (Kd.R_reads' HO_13.out).2.1); (case side3 => repeat (first | exact (Kd.R_reads' HO_10.out).2.2 | (with_reducible refine Kd.C_alloc ?_ _) | (with_reducible refine Kd.C_drewN ?_ _) | (with_reducible refine Kd.C_drew ?_))); (case side4 => exact (Kd.R_reads' HO_10.out).2.1); rintro e w' ⟨rfl, ⟨nd, rfl⟩⟩))
          go_meet
          case rel => exact ⟨_, ((t248 != t241)), (by first | rfl | (simp; done) | (simp [*]; done)), H', ⟨by have := HJ11.out; first | omega | exact Nat.le_refl _⟩, ⟨by (with_reducible repeat (first | apply Kd.R_alloc | apply Kd.R_drewN | apply Kd.R_drew)); exact Kd.R_mono HO_10.out (fun _ hk => hk.2.1)⟩, ⟨by (with_reducible repeat (first | apply Kd.R_alloc | apply Kd.R_drewN | apply Kd.R_drew)); exact Kd.R_mono HO_13.out (fun _ hk => hk.1)⟩, ⟨by repeat (first | (with_reducible first | exact HB.out | apply below_alloc | apply pw_below_drewN | apply below_drew1) | exact HB.out)⟩⟩
         ·replace c36 := Bool.eq_false_iff.mpr c36
          subst c36
          have H1 : (laws_FnExactPlanSplit.j1 kj11 l0 a1 a2 a3 t240 t241 t247 true) = some r := by rw [if_neg (show ¬ (false = true) by decide)] at H; exact H
          clear H
          have H := H1
          clear H1
          have H' := Aside0.mk H
          clear H
          obtain ⟨Ao39, co39, eo39⟩ := Kd.R_slice HO_13.out
          subst eo39
          obtain ⟨Ao40, co40, eo40⟩ := Kd.R_slice HO_10.out
          subst eo40
          go_wp2_with (first | (go_at_call 19; (with_reducible refine (laws_eqStringS.calls kj11 _ _ t247 _ _ t240 false _ ?side1 ?side2 ?side3 ?side4 A35.out).mono ?_); (case side1 => repeat (first | exact (Kd.R_reads' HO_13.out).2.2 | (with_reducible refine Kd.C_alloc ?_ _) | (with_reducible refine Kd.C_drewN ?_ _) | (with_reducible refine Kd.C_drew ?_))); (case side2 => exact (Kd.R_reads' HO_13.out).2.1); (case side3 => repeat (first | exact (Kd.R_reads' HO_10.out).2.2 | (with_reducible refine Kd.C_alloc ?_ _) | (with_reducible refine Kd.C_drewN ?_ _) | (with_reducible refine Kd.C_drew ?_))); (case side4 => exact (Kd.R_reads' HO_10.out).2.1); rintro e w' ⟨rfl, ⟨nd, rfl⟩⟩))
          go_meet
          case rel => exact ⟨_, (true), (by first | rfl | (simp; done) | (simp [*]; done)), H', ⟨by have := HJ11.out; first | omega | exact Nat.le_refl _⟩, ⟨by (with_reducible repeat (first | apply Kd.R_alloc | apply Kd.R_drewN | apply Kd.R_drew)); exact Kd.R_mono HO_10.out (fun _ hk => hk.2.1)⟩, ⟨by (with_reducible repeat (first | apply Kd.R_alloc | apply Kd.R_drewN | apply Kd.R_drew)); exact Kd.R_mono HO_13.out (fun _ hk => hk.1)⟩, ⟨by repeat (first | (with_reducible first | exact HB.out | apply below_alloc | apply pw_below_drewN | apply below_drew1) | exact HB.out)⟩⟩
       case rest =>
        clear HC30
        try clear c1
        try clear c2
        try clear p2
        try clear c3
        try clear c5
        try clear c5b0
        try clear c5b1
        try clear c7
        try clear c7b0
        try clear c8
        try clear c15
        try clear c17
        try clear c19
        try clear c20
        try clear c25
        try clear c28
        try clear c30
        try clear c31
        try clear c34
        try clear c34b0
        try clear c36
        try clear p2
        obtain ⟨kq, x76_29, rfl, HA, HJ29, HO_10, HO_13, HB⟩ := hcut
        cases kq with
        | zero => exact absurd HA.out (by simp [laws_FnExactPlanSplit.j1])
        | succ kj29 =>
         have H := HA.out
         clear HA
         simp only [laws_FnExactPlanSplit.j1] at H
         by_cases c41 : x76_29 = true
         ·subst c41
          have H1 : (some false) = some r := by rw [if_pos rfl] at H; exact H
          clear H
          have H := H1
          clear H1
          obtain rfl := Option.some.inj H
          go_wp2
          go_ret
          exact ⟨by first | rfl | (simp [errW_none, errW_some] <;> rfl) | (simp [*, errW_none, errW_some] <;> rfl), by repeat (first | (with_reducible first | exact HB.out | apply below_alloc | apply pw_below_drewN | apply below_drew1) | exact HB.out)⟩
         ·replace c41 := Bool.eq_false_iff.mpr c41
          subst c41
          have H1 : ((laws_markStringS.f kj29 t247 1).bind fun bt259 => ((laws_heldStringS.f kj29 bt259.2 1).bind fun t261 => (if t261 < 0 then (some false) else (if t261 = bt259.1 then ((laws_toStringS.f kj29 l0).bind fun t262 => ((impl_PlanSplit.f t262 a1 a2 a3).bind fun bt265 => ((laws_eqStringS.f kj29 bt265.1 t240).bind fun t269 => (if t269 = true then (laws_FnExactPlanSplit.j2 kj29 bt259.2 bt259.1 (bt265.2 != t241)) else (laws_FnExactPlanSplit.j2 kj29 bt259.2 bt259.1 true))))) else (some false))))) = some r := by rw [if_neg (show ¬ (false = true) by decide)] at H; exact H
          clear H
          have H := H1
          clear H1
          replace H := Option.bind_eq_some_iff.mp H
          obtain ⟨⟨t259, t260⟩, A420, H⟩ := H
          replace H : ((laws_heldStringS.f kj29 t260 1).bind fun t261 => (if t261 < 0 then (some false) else (if t261 = t259 then ((laws_toStringS.f kj29 l0).bind fun t262 => ((impl_PlanSplit.f t262 a1 a2 a3).bind fun bt265 => ((laws_eqStringS.f kj29 bt265.1 t240).bind fun t269 => (if t269 = true then (laws_FnExactPlanSplit.j2 kj29 t260 t259 (bt265.2 != t241)) else (laws_FnExactPlanSplit.j2 kj29 t260 t259 true))))) else (some false)))) = some r := H
          have A42 := Aside0.mk A420
          clear A420
          replace H := Option.bind_eq_some_iff.mp H
          obtain ⟨t261, A430, H⟩ := H
          replace H : (if t261 < 0 then (some false) else (if t261 = t259 then ((laws_toStringS.f kj29 l0).bind fun t262 => ((impl_PlanSplit.f t262 a1 a2 a3).bind fun bt265 => ((laws_eqStringS.f kj29 bt265.1 t240).bind fun t269 => (if t269 = true then (laws_FnExactPlanSplit.j2 kj29 t260 t259 (bt265.2 != t241)) else (laws_FnExactPlanSplit.j2 kj29 t260 t259 true))))) else (some false))) = some r := H
          have A43 := Aside0.mk A430
          clear A430
          by_cases c44 : t261 < 0
          ·rw [if_pos c44] at H
           have c44b0 : decide (t261 < 0) = true := decide_eq_true c44
           clear c44
           obtain rfl := Option.some.inj H
           obtain ⟨Ao45, co45, eo45⟩ := Kd.R_slice HO_13.out
           subst eo45
           go_wp2_with (first | ((with_reducible refine gate_callee (f := 20) rfl ?_); refine goesL_ (some 79) rfl rfl Try.func20 (by kernel_rfl) rfl #[.slice Ao45 t247.length co45, .int .i64 1] rfl (by (try simp only [List.map_toArray, List.map_cons, List.map_nil]); first | done | rfl | (simp only [List.length_drop, List.length_take]; rfl)) ?_; (with_reducible refine (laws_markStringS.calls kj29 (fun k_ => some k_ = (.slice Ao45 t247.length co45 : Value).ownBlock) (.slice Ao45 t247.length co45) t247 1 t259 t260 w _ ?side1 ?side2 A42.out).mono ?_); (case side1 => repeat (first | (with_reducible first | exact HB.out | apply below_alloc | apply pw_below_drewN | apply below_drew1) | exact HB.out)); (case side2 => exact Kd.R_tight rfl HO_13.out); rintro e w46 ⟨rfl, hy0, hb, hkp⟩; refine ⟨_, rfl, ?_⟩; have n0_ := Aside0.mk (Kd.R_mono (ok' := fun k_ => some k_ ≠ (.slice Ao45 t247.length co45 : Value).ownBlock) (Kd.R_keptB (HO_10.out) hkp (fun k_ hk_ hs_ => (hk_) hs_)) (fun k_ hk_ => hk_.1)); have n1_ := Aside0.mk (Kd.R_reok rfl hy0 (fun k_ e_ => HO_13.out.1 k_ e_)); have n2_ := Aside0.mk (hb); clear HO_10; clear HO_13; clear HB; have HO_10 := n0_; have HO_13 := n1_; have HB := n2_; clear n0_ n1_ n2_; (try clear hb); (try clear hkp); (try clear hy0)) | ((with_reducible refine gate_callee (f := 21) rfl ?_); refine goesL_ (some 82) rfl rfl Try.func21 (by kernel_rfl) rfl #[.slice Ao45 t260.length co45, .int .i64 1] rfl (by (try simp only [List.map_toArray, List.map_cons, List.map_nil]); first | done | (rw [show t260.length = t247.length from (Kd.R_reads' HO_13.out).1.symm] <;> rfl) | rfl | (simp only [List.length_drop, List.length_take]; rfl)) ?_; (with_reducible refine (laws_heldStringS.calls kj29 _ _ t260 1 t261 _ ?side1 ?side2 A43.out).mono ?_); (case side1 => repeat (first | exact (Kd.R_reads' HO_13.out).2.2 | (with_reducible refine Kd.C_alloc ?_ _) | (with_reducible refine Kd.C_drewN ?_ _) | (with_reducible refine Kd.C_drew ?_))); (case side2 => rw [show t260.length = t247.length from (Kd.R_reads' HO_13.out).1.symm]; exact (Kd.R_reads' HO_13.out).2.1); rintro e w47 ⟨rfl, hb⟩; refine ⟨_, rfl, ?_⟩; have n0_ := Aside0.mk (Kd.R_below (by (with_reducible repeat (first | apply Kd.R_alloc | apply Kd.R_drewN | apply Kd.R_drew)); exact HO_10.out) hb); have n1_ := Aside0.mk (Kd.R_below (by (with_reducible repeat (first | apply Kd.R_alloc | apply Kd.R_drewN | apply Kd.R_drew)); exact HO_13.out) hb); have n2_ := Aside0.mk (below_step (by repeat (first | (with_reducible first | exact HB.out | apply below_alloc | apply pw_below_drewN | apply below_drew1) | exact HB.out)) hb); clear HO_10; clear HO_13; clear HB; have HO_10 := n0_; have HO_13 := n1_; have HB := n2_; clear n0_ n1_ n2_; (try clear hb); (try clear hb2); (try clear hk); (try clear hi)))
           go_ret
           exact ⟨by first | rfl | (simp [errW_none, errW_some] <;> rfl) | (simp [*, errW_none, errW_some] <;> rfl), by repeat (first | (with_reducible first | exact HB.out | apply below_alloc | apply pw_below_drewN | apply below_drew1) | exact HB.out)⟩
          ·rw [if_neg c44] at H
           have c44b0 : decide (t261 < 0) = false := decide_eq_false c44
           clear c44
           by_cases c48 : t261 = t259
           ·rw [if_pos c48] at H
            have c48b0 : (t261 == t259) = true := beq_iff_eq.mpr c48
            have c48b1 : (t261 != t259) = false := bne_eq_false_iff_eq.mpr c48
            clear c48
            replace H := Option.bind_eq_some_iff.mp H
            obtain ⟨t262, A490, H⟩ := H
            replace H : ((impl_PlanSplit.f t262 a1 a2 a3).bind fun bt265 => ((laws_eqStringS.f kj29 bt265.1 t240).bind fun t269 => (if t269 = true then (laws_FnExactPlanSplit.j2 kj29 t260 t259 (bt265.2 != t241)) else (laws_FnExactPlanSplit.j2 kj29 t260 t259 true)))) = some r := H
            have A49 := Aside0.mk A490
            clear A490
            replace H := Option.bind_eq_some_iff.mp H
            obtain ⟨⟨t265, t266⟩, A500, H⟩ := H
            replace H : ((laws_eqStringS.f kj29 t265 t240).bind fun t269 => (if t269 = true then (laws_FnExactPlanSplit.j2 kj29 t260 t259 (t266 != t241)) else (laws_FnExactPlanSplit.j2 kj29 t260 t259 true))) = some r := H
            have A50 := Aside0.mk A500
            clear A500
            have HC51 := Aside0.mk H
            clear H
            obtain ⟨Ao52, co52, eo52⟩ := Kd.R_slice HO_13.out
            subst eo52
            go_upto_region 27 with (first | ((with_reducible refine gate_callee (f := 20) rfl ?_); refine goesL_ (some 79) rfl rfl Try.func20 (by kernel_rfl) rfl #[.slice Ao52 t247.length co52, .int .i64 1] rfl (by (try simp only [List.map_toArray, List.map_cons, List.map_nil]); first | done | rfl | (simp only [List.length_drop, List.length_take]; rfl)) ?_; (with_reducible refine (laws_markStringS.calls kj29 (fun k_ => some k_ = (.slice Ao52 t247.length co52 : Value).ownBlock) (.slice Ao52 t247.length co52) t247 1 t259 t260 w _ ?side1 ?side2 A42.out).mono ?_); (case side1 => repeat (first | (with_reducible first | exact HB.out | apply below_alloc | apply pw_below_drewN | apply below_drew1) | exact HB.out)); (case side2 => exact Kd.R_tight rfl HO_13.out); rintro e w53 ⟨rfl, hy0, hb, hkp⟩; refine ⟨_, rfl, ?_⟩; have n0_ := Aside0.mk (Kd.R_mono (ok' := fun k_ => some k_ ≠ (.slice Ao52 t247.length co52 : Value).ownBlock) (Kd.R_keptB (HO_10.out) hkp (fun k_ hk_ hs_ => (hk_) hs_)) (fun k_ hk_ => hk_.1)); have n1_ := Aside0.mk (Kd.R_reok rfl hy0 (fun k_ e_ => HO_13.out.1 k_ e_)); have n2_ := Aside0.mk (hb); clear HO_10; clear HO_13; clear HB; have HO_10 := n0_; have HO_13 := n1_; have HB := n2_; clear n0_ n1_ n2_; (try clear hb); (try clear hkp); (try clear hy0)) | ((with_reducible refine gate_callee (f := 21) rfl ?_); refine goesL_ (some 82) rfl rfl Try.func21 (by kernel_rfl) rfl #[.slice Ao52 t260.length co52, .int .i64 1] rfl (by (try simp only [List.map_toArray, List.map_cons, List.map_nil]); first | done | (rw [show t260.length = t247.length from (Kd.R_reads' HO_13.out).1.symm] <;> rfl) | rfl | (simp only [List.length_drop, List.length_take]; rfl)) ?_; (with_reducible refine (laws_heldStringS.calls kj29 _ _ t260 1 t261 _ ?side1 ?side2 A43.out).mono ?_); (case side1 => repeat (first | exact (Kd.R_reads' HO_13.out).2.2 | (with_reducible refine Kd.C_alloc ?_ _) | (with_reducible refine Kd.C_drewN ?_ _) | (with_reducible refine Kd.C_drew ?_))); (case side2 => rw [show t260.length = t247.length from (Kd.R_reads' HO_13.out).1.symm]; exact (Kd.R_reads' HO_13.out).2.1); rintro e w54 ⟨rfl, hb⟩; refine ⟨_, rfl, ?_⟩; have n0_ := Aside0.mk (Kd.R_below (by (with_reducible repeat (first | apply Kd.R_alloc | apply Kd.R_drewN | apply Kd.R_drew)); exact HO_10.out) hb); have n1_ := Aside0.mk (Kd.R_below (by (with_reducible repeat (first | apply Kd.R_alloc | apply Kd.R_drewN | apply Kd.R_drew)); exact HO_13.out) hb); have n2_ := Aside0.mk (below_step (by repeat (first | (with_reducible first | exact HB.out | apply below_alloc | apply pw_below_drewN | apply below_drew1) | exact HB.out)) hb); clear HO_10; clear HO_13; clear HB; have HO_10 := n0_; have HO_13 := n1_; have HB := n2_; clear n0_ n1_ n2_; (try clear hb); (try clear hb2); (try clear hk); (try clear hi)) | ((with_reducible refine gate_callee (f := 17) rfl ?_); refine goesL_ (some 90) rfl rfl Try.func17 (by kernel_rfl) rfl #[.slice A0 l0.length c0] rfl (by (try simp only [List.map_toArray, List.map_cons, List.map_nil]); first | done | rfl | (simp only [List.length_drop, List.length_take]; rfl)) ?_; (with_reducible refine (laws_toStringS.calls kj29 _ _ l0 t262 _ ?side1 ?side2 A49.out).mono ?_); (case side1 => repeat (first | exact (Kd.C_below HR0.out HB.out) | (with_reducible refine Kd.C_alloc ?_ _) | (with_reducible refine Kd.C_drewN ?_ _) | (with_reducible refine Kd.C_drew ?_))); (case side2 => exact HC0.out); rintro e w55 ⟨v263, rfl, ho0, hb⟩; refine ⟨_, rfl, ?_⟩; have n0_ := Aside0.mk (Kd.R_elder' (by (with_reducible repeat (first | apply Kd.R_alloc | apply Kd.R_drewN | apply Kd.R_drew)); exact HO_10.out) (Kd.R_base ho0) hb); have n1_ := Aside0.mk (Kd.R_elder' (by (with_reducible repeat (first | apply Kd.R_alloc | apply Kd.R_drewN | apply Kd.R_drew)); exact HO_13.out) (Kd.R_base ho0) hb); have n2_ := Aside0.mk (Kd.R_lower (Kd.R_new' (Kd.R_new' ho0 (Kd.R_lt (by (with_reducible repeat (first | apply Kd.R_alloc | apply Kd.R_drewN | apply Kd.R_drew)); exact HO_10.out))) (Kd.R_lt (by (with_reducible repeat (first | apply Kd.R_alloc | apply Kd.R_drewN | apply Kd.R_drew)); exact HO_13.out))) (below_size (by repeat (first | (with_reducible first | exact HB.out | apply below_alloc | apply pw_below_drewN | apply below_drew1) | exact HB.out)))); have n3_ := Aside0.mk (below_step (by repeat (first | (with_reducible first | exact HB.out | apply below_alloc | apply pw_below_drewN | apply below_drew1) | exact HB.out)) hb); clear HO_10; clear HO_13; clear HB; have HO_10 := n0_; have HO_13 := n1_; have HO264 := n2_; have HB := n3_; clear n0_ n1_ n2_ n3_; (try clear hb); (try clear hb2); (try clear hk); (try clear hi); (try clear ho0); obtain ⟨Ao56, co56, eo56⟩ := Kd.R_slice HO264.out; subst eo56) | ((with_reducible refine gate_callee (f := 31) rfl ?_); refine goesL_ (some 94) rfl rfl Try.func31 (by kernel_rfl) rfl #[.slice Ao56 t262.length co56, .int .i64 a1, .string a2, .int .i64 a3] rfl (by (try simp only [List.map_toArray, List.map_cons, List.map_nil]); first | done | rfl | (simp only [List.length_drop, List.length_take]; rfl)) ?_; (with_reducible refine (impl_PlanSplit.calls _ _ t262 a1 a2 a3 t265 t266 _ ?side1 ?side2 A50.out).mono ?_); (case side1 => repeat (first | exact (Kd.R_reads' HO264.out).2.2 | (with_reducible refine Kd.C_alloc ?_ _) | (with_reducible refine Kd.C_drewN ?_ _) | (with_reducible refine Kd.C_drew ?_))); (case side2 => exact (Kd.R_reads' HO264.out).2.1); rintro e w57 ⟨v267, rfl, ho0, hb⟩; refine ⟨_, rfl, ?_⟩; have n0_ := Aside0.mk (Kd.R_elder' (by (with_reducible repeat (first | apply Kd.R_alloc | apply Kd.R_drewN | apply Kd.R_drew)); exact HO_10.out) (Kd.R_base ho0) hb); have n1_ := Aside0.mk (Kd.R_elder' (by (with_reducible repeat (first | apply Kd.R_alloc | apply Kd.R_drewN | apply Kd.R_drew)); exact HO_13.out) (Kd.R_base ho0) hb); have n2_ := Aside0.mk (Kd.R_elder' (by (with_reducible repeat (first | apply Kd.R_alloc | apply Kd.R_drewN | apply Kd.R_drew)); exact HO264.out) (Kd.R_base ho0) hb); have n3_ := Aside0.mk (Kd.R_lower (Kd.R_new' (Kd.R_new' (Kd.R_new' ho0 (Kd.R_lt (by (with_reducible repeat (first | apply Kd.R_alloc | apply Kd.R_drewN | apply Kd.R_drew)); exact HO_10.out))) (Kd.R_lt (by (with_reducible repeat (first | apply Kd.R_alloc | apply Kd.R_drewN | apply Kd.R_drew)); exact HO_13.out))) (Kd.R_lt (by (with_reducible repeat (first | apply Kd.R_alloc | apply Kd.R_drewN | apply Kd.R_drew)); exact HO264.out))) (below_size (by repeat (first | (with_reducible first | exact HB.out | apply below_alloc | apply pw_below_drewN | apply below_drew1) | exact HB.out)))); have n4_ := Aside0.mk (below_step (by repeat (first | (with_reducible first | exact HB.out | apply below_alloc | apply pw_below_drewN | apply below_drew1) | exact HB.out)) hb); clear HO_10; clear HO_13; clear HO264; clear HB; have HO_10 := n0_; have HO_13 := n1_; have HO264 := n2_; have HO268 := n3_; have HB := n4_; clear n0_ n1_ n2_ n3_ n4_; (try clear hb); (try clear hb2); (try clear hk); (try clear hi); (try clear ho0)))
            (try simp only [Act.put, List.setIfInBounds_toArray, List.set_cons_zero, List.set_cons_succ])
            go_cut [105] (fun v105 wc => ∃ (kq : Nat) (x105_50 : Bool), v105 = .bool x105_50 ∧ Aside0 (laws_FnExactPlanSplit.j2 kq t260 t259 x105_50 = some r) ∧ Aside0 (kq ≤ kj29) ∧ Aside0 (Kd.R Kd.string 9 wc w.heap.size (fun _ => True) (.slice Ao52 t247.length co52) t260) ∧ Aside0 (Below w.heap.size w wc))
            case first =>
             have H := HC51.out
             clear HC51
             replace H := Option.bind_eq_some_iff.mp H
             obtain ⟨t269, A580, H⟩ := H
             replace H : (if t269 = true then (laws_FnExactPlanSplit.j2 kj29 t260 t259 (t266 != t241)) else (laws_FnExactPlanSplit.j2 kj29 t260 t259 true)) = some r := H
             have A58 := Aside0.mk A580
             clear A580
             by_cases c59 : t269 = true
             ·subst c59
              have H1 : (laws_FnExactPlanSplit.j2 kj29 t260 t259 (t266 != t241)) = some r := by rw [if_pos rfl] at H; exact H
              clear H
              have H := H1
              clear H1
              have H' := Aside0.mk H
              clear H
              obtain ⟨Ao60, co60, eo60⟩ := Kd.R_slice HO268.out
              subst eo60
              obtain ⟨Ao61, co61, eo61⟩ := Kd.R_slice HO_10.out
              subst eo61
              go_wp2_with (first | ((with_reducible refine gate_callee (f := 19) rfl ?_); refine goesL_ (some 99) rfl rfl Try.func19 (by kernel_rfl) rfl #[.slice Ao60 t265.length co60, .slice Ao61 t240.length co61] rfl (by (try simp only [List.map_toArray, List.map_cons, List.map_nil]); first | done | rfl | (simp only [List.length_drop, List.length_take]; rfl)) ?_; (with_reducible refine (laws_eqStringS.calls kj29 _ _ t265 _ _ t240 true _ ?side1 ?side2 ?side3 ?side4 A58.out).mono ?_); (case side1 => repeat (first | exact (Kd.R_reads' HO268.out).2.2 | (with_reducible refine Kd.C_alloc ?_ _) | (with_reducible refine Kd.C_drewN ?_ _) | (with_reducible refine Kd.C_drew ?_))); (case side2 => exact (Kd.R_reads' HO268.out).2.1); (case side3 => repeat (first | exact (Kd.R_reads' HO_10.out).2.2 | (with_reducible refine Kd.C_alloc ?_ _) | (with_reducible refine Kd.C_drewN ?_ _) | (with_reducible refine Kd.C_drew ?_))); (case side4 => exact (Kd.R_reads' HO_10.out).2.1); rintro e w' ⟨rfl, ⟨nd, rfl⟩⟩; refine ⟨_, rfl, ?_⟩))
              go_meet
              case rel => exact ⟨_, ((t266 != t241)), (by first | rfl | (simp; done) | (simp [*]; done)), H', ⟨by have := HJ11.out; have := HJ29.out; first | omega | exact Nat.le_refl _⟩, ⟨by (with_reducible repeat (first | apply Kd.R_alloc | apply Kd.R_drewN | apply Kd.R_drew)); exact Kd.R_mono HO_13.out (fun _ hk => trivial)⟩, ⟨by repeat (first | (with_reducible first | exact HB.out | apply below_alloc | apply pw_below_drewN | apply below_drew1) | exact HB.out)⟩⟩
             ·replace c59 := Bool.eq_false_iff.mpr c59
              subst c59
              have H1 : (laws_FnExactPlanSplit.j2 kj29 t260 t259 true) = some r := by rw [if_neg (show ¬ (false = true) by decide)] at H; exact H
              clear H
              have H := H1
              clear H1
              have H' := Aside0.mk H
              clear H
              obtain ⟨Ao62, co62, eo62⟩ := Kd.R_slice HO268.out
              subst eo62
              obtain ⟨Ao63, co63, eo63⟩ := Kd.R_slice HO_10.out
              subst eo63
              go_wp2_with (first | ((with_reducible refine gate_callee (f := 19) rfl ?_); refine goesL_ (some 99) rfl rfl Try.func19 (by kernel_rfl) rfl #[.slice Ao62 t265.length co62, .slice Ao63 t240.length co63] rfl (by (try simp only [List.map_toArray, List.map_cons, List.map_nil]); first | done | rfl | (simp only [List.length_drop, List.length_take]; rfl)) ?_; (with_reducible refine (laws_eqStringS.calls kj29 _ _ t265 _ _ t240 false _ ?side1 ?side2 ?side3 ?side4 A58.out).mono ?_); (case side1 => repeat (first | exact (Kd.R_reads' HO268.out).2.2 | (with_reducible refine Kd.C_alloc ?_ _) | (with_reducible refine Kd.C_drewN ?_ _) | (with_reducible refine Kd.C_drew ?_))); (case side2 => exact (Kd.R_reads' HO268.out).2.1); (case side3 => repeat (first | exact (Kd.R_reads' HO_10.out).2.2 | (with_reducible refine Kd.C_alloc ?_ _) | (with_reducible refine Kd.C_drewN ?_ _) | (with_reducible refine Kd.C_drew ?_))); (case side4 => exact (Kd.R_reads' HO_10.out).2.1); rintro e w' ⟨rfl, ⟨nd, rfl⟩⟩; refine ⟨_, rfl, ?_⟩))
              go_meet
              case rel => exact ⟨_, (true), (by first | rfl | (simp; done) | (simp [*]; done)), H', ⟨by have := HJ11.out; have := HJ29.out; first | omega | exact Nat.le_refl _⟩, ⟨by (with_reducible repeat (first | apply Kd.R_alloc | apply Kd.R_drewN | apply Kd.R_drew)); exact Kd.R_mono HO_13.out (fun _ hk => trivial)⟩, ⟨by repeat (first | (with_reducible first | exact HB.out | apply below_alloc | apply pw_below_drewN | apply below_drew1) | exact HB.out)⟩⟩
            case rest =>
             clear HC51
             try clear c1
             try clear c2
             try clear p2
             try clear c3
             try clear c4
             try clear c5
             try clear c5b0
             try clear c5b1
             try clear c7
             try clear c7b0
             try clear c8
             try clear c15
             try clear c17
             try clear c19
             try clear c20
             try clear c21
             try clear c25
             try clear c28
             try clear c30
             try clear c31
             try clear c34
             try clear c34b0
             try clear c36
             try clear c41
             try clear c44
             try clear c44b0
             try clear c48
             try clear c48b0
             try clear c48b1
             try clear c59
             try clear p2
             obtain ⟨kq, x105_50, rfl, HA, HJ50, HO_13, HB⟩ := hcut
             have hl13_50 := (Kd.R_reads' HO_13.out).1
             rw [hl13_50] at HO_13
             (try simp only [hl13_50])
             cases kq with
             | zero => exact absurd HA.out (by simp [laws_FnExactPlanSplit.j2])
             | succ kj50 =>
              have H := HA.out
              clear HA
              simp only [laws_FnExactPlanSplit.j2] at H
              by_cases c64 : x105_50 = true
              ·subst c64
               have H1 : (some false) = some r := by rw [if_pos rfl] at H; exact H
               clear H
               have H := H1
               clear H1
               obtain rfl := Option.some.inj H
               go_wp2
               go_ret
               exact ⟨by first | rfl | (simp [errW_none, errW_some] <;> rfl) | (simp [*, errW_none, errW_some] <;> rfl), by repeat (first | (with_reducible first | exact HB.out | apply below_alloc | apply pw_below_drewN | apply below_drew1) | exact HB.out)⟩
              ·replace c64 := Bool.eq_false_iff.mpr c64
               subst c64
               have H1 : ((laws_heldStringS.f kj50 t260 1).bind fun t270 => (if t270 < 0 then (some false) else (if t270 = t259 then (some true) else (some false)))) = some r := by rw [if_neg (show ¬ (false = true) by decide)] at H; exact H
               clear H
               have H := H1
               clear H1
               replace H := Option.bind_eq_some_iff.mp H
               obtain ⟨t270, A650, H⟩ := H
               replace H : (if t270 < 0 then (some false) else (if t270 = t259 then (some true) else (some false))) = some r := H
               have A65 := Aside0.mk A650
               clear A650
               by_cases c66 : t270 < 0
               ·rw [if_pos c66] at H
                have c66b0 : decide (t270 < 0) = true := decide_eq_true c66
                clear c66
                obtain rfl := Option.some.inj H
                go_wp2_with (first | ((with_reducible refine gate_callee (f := 21) rfl ?_); refine goesL_ (some 108) rfl rfl Try.func21 (by kernel_rfl) rfl #[.slice Ao52 t260.length co52, .int .i64 1] rfl (by (try simp only [List.map_toArray, List.map_cons, List.map_nil]); first | done | rfl | (simp only [List.length_drop, List.length_take]; rfl)) ?_; (with_reducible refine (laws_heldStringS.calls kj50 _ _ t260 1 t270 _ ?side1 ?side2 A65.out).mono ?_); (case side1 => repeat (first | exact (Kd.R_reads' HO_13.out).2.2 | (with_reducible refine Kd.C_alloc ?_ _) | (with_reducible refine Kd.C_drewN ?_ _) | (with_reducible refine Kd.C_drew ?_))); (case side2 => exact (Kd.R_reads' HO_13.out).2.1); rintro e w67 ⟨rfl, hb⟩; refine ⟨_, rfl, ?_⟩; have n0_ := Aside0.mk (Kd.R_below (by (with_reducible repeat (first | apply Kd.R_alloc | apply Kd.R_drewN | apply Kd.R_drew)); exact HO_13.out) hb); have n1_ := Aside0.mk (below_step (by repeat (first | (with_reducible first | exact HB.out | apply below_alloc | apply pw_below_drewN | apply below_drew1) | exact HB.out)) hb); clear HO_13; clear HB; have HO_13 := n0_; have HB := n1_; clear n0_ n1_; (try clear hb); (try clear hb2); (try clear hk); (try clear hi)))
                go_ret
                exact ⟨by first | rfl | (simp [errW_none, errW_some] <;> rfl) | (simp [*, errW_none, errW_some] <;> rfl), by repeat (first | (with_reducible first | exact HB.out | apply below_alloc | apply pw_below_drewN | apply below_drew1) | exact HB.out)⟩
               ·rw [if_neg c66] at H
                have c66b0 : decide (t270 < 0) = false := decide_eq_false c66
                clear c66
                by_cases c68 : t270 = t259
                ·rw [if_pos c68] at H
                 have c68b0 : (t270 == t259) = true := beq_iff_eq.mpr c68
                 have c68b1 : (t270 != t259) = false := bne_eq_false_iff_eq.mpr c68
                 clear c68
                 obtain rfl := Option.some.inj H
                 go_wp2_with (first | ((with_reducible refine gate_callee (f := 21) rfl ?_); refine goesL_ (some 108) rfl rfl Try.func21 (by kernel_rfl) rfl #[.slice Ao52 t260.length co52, .int .i64 1] rfl (by (try simp only [List.map_toArray, List.map_cons, List.map_nil]); first | done | rfl | (simp only [List.length_drop, List.length_take]; rfl)) ?_; (with_reducible refine (laws_heldStringS.calls kj50 _ _ t260 1 t270 _ ?side1 ?side2 A65.out).mono ?_); (case side1 => repeat (first | exact (Kd.R_reads' HO_13.out).2.2 | (with_reducible refine Kd.C_alloc ?_ _) | (with_reducible refine Kd.C_drewN ?_ _) | (with_reducible refine Kd.C_drew ?_))); (case side2 => exact (Kd.R_reads' HO_13.out).2.1); rintro e w69 ⟨rfl, hb⟩; refine ⟨_, rfl, ?_⟩; have n0_ := Aside0.mk (Kd.R_below (by (with_reducible repeat (first | apply Kd.R_alloc | apply Kd.R_drewN | apply Kd.R_drew)); exact HO_13.out) hb); have n1_ := Aside0.mk (below_step (by repeat (first | (with_reducible first | exact HB.out | apply below_alloc | apply pw_below_drewN | apply below_drew1) | exact HB.out)) hb); clear HO_13; clear HB; have HO_13 := n0_; have HB := n1_; clear n0_ n1_; (try clear hb); (try clear hb2); (try clear hk); (try clear hi)))
                 go_ret
                 exact ⟨by first | rfl | (simp [errW_none, errW_some] <;> rfl) | (simp [*, errW_none, errW_some] <;> rfl), by repeat (first | (with_reducible first | exact HB.out | apply below_alloc | apply pw_below_drewN | apply below_drew1) | exact HB.out)⟩
                ·rw [if_neg c68] at H
                 have c68b0 : (t270 == t259) = false := beq_eq_false_iff_ne.mpr c68
                 have c68b1 : (t270 != t259) = true := bne_iff_ne.mpr c68
                 obtain rfl := Option.some.inj H
                 go_wp2_with (first | ((with_reducible refine gate_callee (f := 21) rfl ?_); refine goesL_ (some 108) rfl rfl Try.func21 (by kernel_rfl) rfl #[.slice Ao52 t260.length co52, .int .i64 1] rfl (by (try simp only [List.map_toArray, List.map_cons, List.map_nil]); first | done | rfl | (simp only [List.length_drop, List.length_take]; rfl)) ?_; (with_reducible refine (laws_heldStringS.calls kj50 _ _ t260 1 t270 _ ?side1 ?side2 A65.out).mono ?_); (case side1 => repeat (first | exact (Kd.R_reads' HO_13.out).2.2 | (with_reducible refine Kd.C_alloc ?_ _) | (with_reducible refine Kd.C_drewN ?_ _) | (with_reducible refine Kd.C_drew ?_))); (case side2 => exact (Kd.R_reads' HO_13.out).2.1); rintro e w70 ⟨rfl, hb⟩; refine ⟨_, rfl, ?_⟩; have n0_ := Aside0.mk (Kd.R_below (by (with_reducible repeat (first | apply Kd.R_alloc | apply Kd.R_drewN | apply Kd.R_drew)); exact HO_13.out) hb); have n1_ := Aside0.mk (below_step (by repeat (first | (with_reducible first | exact HB.out | apply below_alloc | apply pw_below_drewN | apply below_drew1) | exact HB.out)) hb); clear HO_13; clear HB; have HO_13 := n0_; have HB := n1_; clear n0_ n1_; (try clear hb); (try clear hb2); (try clear hk); (try clear hi)))
                 go_ret
                 exact ⟨by first | rfl | (simp [errW_none, errW_some] <;> rfl) | (simp [*, errW_none, errW_some] <;> rfl), by repeat (first | (with_reducible first | exact HB.out | apply below_alloc | apply pw_below_drewN | apply below_drew1) | exact HB.out)⟩
           ·rw [if_neg c48] at H
            have c48b0 : (t261 == t259) = false := beq_eq_false_iff_ne.mpr c48
            have c48b1 : (t261 != t259) = true := bne_iff_ne.mpr c48
            obtain rfl := Option.some.inj H
            obtain ⟨Ao71, co71, eo71⟩ := Kd.R_slice HO_13.out
            subst eo71
            go_wp2_with (first | ((with_reducible refine gate_callee (f := 20) rfl ?_); refine goesL_ (some 79) rfl rfl Try.func20 (by kernel_rfl) rfl #[.slice Ao71 t247.length co71, .int .i64 1] rfl (by (try simp only [List.map_toArray, List.map_cons, List.map_nil]); first | done | rfl | (simp only [List.length_drop, List.length_take]; rfl)) ?_; (with_reducible refine (laws_markStringS.calls kj29 (fun k_ => some k_ = (.slice Ao71 t247.length co71 : Value).ownBlock) (.slice Ao71 t247.length co71) t247 1 t259 t260 w _ ?side1 ?side2 A42.out).mono ?_); (case side1 => repeat (first | (with_reducible first | exact HB.out | apply below_alloc | apply pw_below_drewN | apply below_drew1) | exact HB.out)); (case side2 => exact Kd.R_tight rfl HO_13.out); rintro e w72 ⟨rfl, hy0, hb, hkp⟩; refine ⟨_, rfl, ?_⟩; have n0_ := Aside0.mk (Kd.R_mono (ok' := fun k_ => some k_ ≠ (.slice Ao71 t247.length co71 : Value).ownBlock) (Kd.R_keptB (HO_10.out) hkp (fun k_ hk_ hs_ => (hk_) hs_)) (fun k_ hk_ => hk_.1)); have n1_ := Aside0.mk (Kd.R_reok rfl hy0 (fun k_ e_ => HO_13.out.1 k_ e_)); have n2_ := Aside0.mk (hb); clear HO_10; clear HO_13; clear HB; have HO_10 := n0_; have HO_13 := n1_; have HB := n2_; clear n0_ n1_ n2_; (try clear hb); (try clear hkp); (try clear hy0)) | ((with_reducible refine gate_callee (f := 21) rfl ?_); refine goesL_ (some 82) rfl rfl Try.func21 (by kernel_rfl) rfl #[.slice Ao71 t260.length co71, .int .i64 1] rfl (by (try simp only [List.map_toArray, List.map_cons, List.map_nil]); first | done | (rw [show t260.length = t247.length from (Kd.R_reads' HO_13.out).1.symm] <;> rfl) | rfl | (simp only [List.length_drop, List.length_take]; rfl)) ?_; (with_reducible refine (laws_heldStringS.calls kj29 _ _ t260 1 t261 _ ?side1 ?side2 A43.out).mono ?_); (case side1 => repeat (first | exact (Kd.R_reads' HO_13.out).2.2 | (with_reducible refine Kd.C_alloc ?_ _) | (with_reducible refine Kd.C_drewN ?_ _) | (with_reducible refine Kd.C_drew ?_))); (case side2 => rw [show t260.length = t247.length from (Kd.R_reads' HO_13.out).1.symm]; exact (Kd.R_reads' HO_13.out).2.1); rintro e w73 ⟨rfl, hb⟩; refine ⟨_, rfl, ?_⟩; have n0_ := Aside0.mk (Kd.R_below (by (with_reducible repeat (first | apply Kd.R_alloc | apply Kd.R_drewN | apply Kd.R_drew)); exact HO_10.out) hb); have n1_ := Aside0.mk (Kd.R_below (by (with_reducible repeat (first | apply Kd.R_alloc | apply Kd.R_drewN | apply Kd.R_drew)); exact HO_13.out) hb); have n2_ := Aside0.mk (below_step (by repeat (first | (with_reducible first | exact HB.out | apply below_alloc | apply pw_below_drewN | apply below_drew1) | exact HB.out)) hb); clear HO_10; clear HO_13; clear HB; have HO_10 := n0_; have HO_13 := n1_; have HB := n2_; clear n0_ n1_ n2_; (try clear hb); (try clear hb2); (try clear hk); (try clear hi)))
            go_ret
            exact ⟨by first | rfl | (simp [errW_none, errW_some] <;> rfl) | (simp [*, errW_none, errW_some] <;> rfl), by repeat (first | (with_reducible first | exact HB.out | apply below_alloc | apply pw_below_drewN | apply below_drew1) | exact HB.out)⟩
      ·replace c28 := Bool.eq_false_iff.mpr c28
       subst c28
       have H1 : (some false) = some r := by rw [if_neg (show ¬ (false = true) by decide)] at H; exact H
       clear H
       have H := H1
       clear H1
       obtain rfl := Option.some.inj H
       go_wp2_with (first | ((with_reducible refine gate_callee (f := 17) rfl ?_); refine goesL_ (some 58) rfl rfl Try.func17 (by kernel_rfl) rfl #[.slice A0 l0.length c0] rfl (by (try simp only [List.map_toArray, List.map_cons, List.map_nil]); first | done | rfl | (simp only [List.length_drop, List.length_take]; rfl)) ?_; (with_reducible refine (laws_toStringS.calls kj11 _ _ l0 t252 _ ?side1 ?side2 A26.out).mono ?_); (case side1 => repeat (first | exact (Kd.C_below HR0.out HB.out) | (with_reducible refine Kd.C_alloc ?_ _) | (with_reducible refine Kd.C_drewN ?_ _) | (with_reducible refine Kd.C_drew ?_))); (case side2 => exact HC0.out); rintro e w74 ⟨v253, rfl, ho0, hb⟩; refine ⟨_, rfl, ?_⟩; have n0_ := Aside0.mk (Kd.R_elder' (by (with_reducible repeat (first | apply Kd.R_alloc | apply Kd.R_drewN | apply Kd.R_drew)); exact HO_10.out) (Kd.R_base ho0) hb); have n1_ := Aside0.mk (Kd.R_elder' (by (with_reducible repeat (first | apply Kd.R_alloc | apply Kd.R_drewN | apply Kd.R_drew)); exact HO_12.out) (Kd.R_base ho0) hb); have n2_ := Aside0.mk (Kd.R_elder' (by (with_reducible repeat (first | apply Kd.R_alloc | apply Kd.R_drewN | apply Kd.R_drew)); exact HO_13.out) (Kd.R_base ho0) hb); have n3_ := Aside0.mk (Kd.R_lower (Kd.R_new' (Kd.R_new' (Kd.R_new' ho0 (Kd.R_lt (by (with_reducible repeat (first | apply Kd.R_alloc | apply Kd.R_drewN | apply Kd.R_drew)); exact HO_10.out))) (Kd.R_lt (by (with_reducible repeat (first | apply Kd.R_alloc | apply Kd.R_drewN | apply Kd.R_drew)); exact HO_12.out))) (Kd.R_lt (by (with_reducible repeat (first | apply Kd.R_alloc | apply Kd.R_drewN | apply Kd.R_drew)); exact HO_13.out))) (below_size (by repeat (first | (with_reducible first | exact HB.out | apply below_alloc | apply pw_below_drewN | apply below_drew1) | exact HB.out)))); have n4_ := Aside0.mk (below_step (by repeat (first | (with_reducible first | exact HB.out | apply below_alloc | apply pw_below_drewN | apply below_drew1) | exact HB.out)) hb); clear HO_10; clear HO_12; clear HO_13; clear HB; have HO_10 := n0_; have HO_12 := n1_; have HO_13 := n2_; have HO254 := n3_; have HB := n4_; clear n0_ n1_ n2_ n3_ n4_; (try clear hb); (try clear hb2); (try clear hk); (try clear hi); (try clear ho0); obtain ⟨Ao75, co75, eo75⟩ := Kd.R_slice HO254.out; subst eo75) | ((with_reducible refine gate_callee (f := 19) rfl ?_); refine goesL_ (some 59) rfl rfl Try.func19 (by kernel_rfl) rfl #[.slice Ao17 t244.length co17, .slice Ao75 t252.length co75] rfl (by (try simp only [List.map_toArray, List.map_cons, List.map_nil]); first | done | rfl | (simp only [List.length_drop, List.length_take]; rfl)) ?_; (with_reducible refine (laws_eqStringS.calls kj11 _ _ t244 _ _ t252 false _ ?side1 ?side2 ?side3 ?side4 A27.out).mono ?_); (case side1 => repeat (first | exact (Kd.R_reads' HO_12.out).2.2 | (with_reducible refine Kd.C_alloc ?_ _) | (with_reducible refine Kd.C_drewN ?_ _) | (with_reducible refine Kd.C_drew ?_))); (case side2 => exact (Kd.R_reads' HO_12.out).2.1); (case side3 => repeat (first | exact (Kd.R_reads' HO254.out).2.2 | (with_reducible refine Kd.C_alloc ?_ _) | (with_reducible refine Kd.C_drewN ?_ _) | (with_reducible refine Kd.C_drew ?_))); (case side4 => exact (Kd.R_reads' HO254.out).2.1); rintro e w' ⟨rfl, ⟨nd, rfl⟩⟩; refine ⟨_, rfl, ?_⟩))
       go_ret
       exact ⟨by first | rfl | (simp [errW_none, errW_some] <;> rfl) | (simp [*, errW_none, errW_some] <;> rfl), by repeat (first | (with_reducible first | exact HB.out | apply below_alloc | apply pw_below_drewN | apply below_drew1) | exact HB.out)⟩
end Go.Proofs.Ytjaolkfjpnpglaa.LS
