/- Part 3 of the proof of FnExactPlanWide: what the program's functions and the reference's compute. -/
import Derived.Test.YtjaolkfjpnpglaaProg
import Derived.Below
import Derived.Deep.Draws
import Derived.Deep.AppendLies
import Derived.Maps.AppendAt
import Derived.OwnWalk
import Derived.Laws.BytesArg
import Derived.Laws.MakeOwn
import Derived.Laws.OwnMore
import Derived.Deep.OwnRows
import Derived.Tactics
import Derived.Lib.ConvBytes
import Derived.Laws.Slices
import Derived.WalkKit
import Derived.KernelRfl
import Derived.RowKit3
import Derived.Deep.LoopGhost
import Derived.Deep.QuietTactic
import Derived.BigQuiet
import Derived.WideLaws
import Derived.Deep.DeepCutAuto
import Derived.Deep.CutBlock
import Derived.Deep.RegionHeld3
import Derived.Laws.Rows
import Derived.Lib.AppendStr
import Derived.ArgAppend
import Derived.Laws.IdiomCopy
import Derived.OrdersHeld
import Derived.Laws.BitsLemmas
import Derived.RowKit
import Derived.Test.YtjaolkfjpnpglaaWWords
import Derived.Test.YtjaolkfjpnpglaaWLast
import Derived.Test.YtjaolkfjpnpglaaWApart
import Derived.Test.YtjaolkfjpnpglaaWFoot
import Derived.Test.YtjaolkfjpnpglaaWKept
import Derived.Test.YtjaolkfjpnpglaaWShare
import Derived.Test.YtjaolkfjpnpglaaWN
import Derived.Test.YtjaolkfjpnpglaaWRepsOne
import Derived.Test.YtjaolkfjpnpglaaWMore
import Derived.Test.YtjaolkfjpnpglaaCLWb
namespace Go.Proofs.Ytjaolkfjpnpglaa.Hd
open Go.RowKit Go.Proofs.YtjaolkfjpnpglaaW.PrintWords Go.Proofs.YtjaolkfjpnpglaaW.PrintLast Go.Proofs.YtjaolkfjpnpglaaW.PrintMore Go.Proofs.Ytjaolkfjpnpglaa.PB
set_option linter.unusedVariables false
set_option linter.unusedSimpArgs false
theorem rdOf_get (l : List ByteArray) (i : Nat) (h : i < l.length) : rdOf ByteArray.empty l (i : Int) = l[i] := by
 unfold rdOf; rw [Int.toNat_natCast, List.getD_eq_getElem?_getD, List.getElem?_eq_getElem h]; rfl
theorem toList_inj {a b : ByteArray} : a.toList = b.toList ↔ a = b := by
 rw [ByteArray.toList_eq, ByteArray.toList_eq]
 constructor
 ·intro h
  have h2 := Array.toList_inj.1 h
  cases a; cases b
  simp at h2
  rw [h2]
 ·rintro rfl; rfl
theorem wrap64_small {x : Int} (h0 : -9223372036854775808 ≤ x) (h1 : x ≤ 9223372036854775807) : wrap64 x = x := by unfold wrap64; omega
theorem equalS_loop (l0 l1 : List ByteArray) (hl : l0.length = l1.length) (hb : l0.length ≤ 1048576) : ∀ m i, i + m = l0.length → l0.take i = l1.take i → slices_Equal_string_string.l0 (m + 1) l0 l1 (l0.length : Int) (i : Int) = some (decide (l0 = l1))
 | 0, i, h, ht => by
  unfold slices_Equal_string_string.l0
  rw [if_neg (by omega)]
  have e : l0 = l1 := by
   rw [show i = l0.length by omega, List.take_length, hl, List.take_length] at ht
   exact ht
  simp [e]
 | m + 1, i, h, ht => by
  unfold slices_Equal_string_string.l0
  rw [if_pos (by omega), if_pos (by omega), if_pos (by omega), if_pos (by omega), rdOf_get l0 i (by omega), rdOf_get l1 i (by omega), wrap64_small (by omega) (by omega)]
  by_cases he : l0[i] = l1[i]
  ·rw [if_pos (toList_inj.2 he)]
   have := equalS_loop l0 l1 hl hb m (i + 1) (by omega) (by
    rw [List.take_add_one, List.take_add_one, ht, List.getElem?_eq_getElem (by omega), List.getElem?_eq_getElem (by omega), he])
   simpa using this
  ·rw [if_neg (fun h => he (toList_inj.1 h))]
   have : l0 ≠ l1 := by rintro rfl; exact he rfl
   simp [this]
theorem equalS_f (l0 l1 : List ByteArray) (hb : l0.length ≤ 1048576) : ∃ k, slices_Equal_string_string.f k l0 l1 = some (decide (l0 = l1)) := by
 unfold slices_Equal_string_string.f
 by_cases h : l0.length = l1.length
 ·refine ⟨l0.length + 1, ?_⟩
  rw [if_pos (by omega)]
  have := equalS_loop l0 l1 h hb l0.length 0 (by omega) (by simp)
  simpa using this
 ·refine ⟨0, ?_⟩
  rw [if_neg (by omega)]
  have : l0 ≠ l1 := by rintro rfl; exact h rfl
  simp [this]
theorem stepS_mem (st : List Int × List Rc) (r c : Nat) (x : Int) : x ∈ (stepS st r c x).1 := by
 unfold stepS
 split
 ·assumption
 ·simp
theorem stepS_prefix (st : List Int × List Rc) (r c : Nat) (x : Int) : st.1 <+: (stepS st r c x).1 := by
 unfold stepS
 split
 ·exact List.prefix_refl _
 ·exact List.prefix_append _ _
theorem stAt_prefix (rows : List (List Int)) (wi : Nat) (n : Nat) : ∀ m, (stAt rows wi n).1 <+: (stAt rows wi (n + m)).1
 | 0 => List.prefix_refl _
 | m + 1 => (stAt_prefix rows wi n m).trans (stepS_prefix _ _ _ _)
theorem stAt_mem (rows : List (List Int)) (wi : Nat) (r c : Nat) (hc : c < wi) : valAt rows r c ∈ (stAt rows wi (r * wi + c + 1)).1 := by
 show valAt rows r c ∈ (stepS (stAt rows wi (r * wi + c)) ((r * wi + c) / wi) ((r * wi + c) % wi) (valAt rows ((r * wi + c) / wi) ((r * wi + c) % wi))).1
 have h1 : (r * wi + c) / wi = r := by
  rw [Nat.mul_comm, Nat.mul_add_div (by omega), Nat.div_eq_of_lt hc, Nat.add_zero]
 have h2 : (r * wi + c) % wi = c := by
  rw [Nat.mul_comm, Nat.mul_add_mod, Nat.mod_eq_of_lt hc]
 rw [h1, h2]
 exact stepS_mem _ _ _ _
theorem numAt_lt (rows : List (List Int)) (hi wi : Nat) (r c : Nat) (hr : r < hi) (hc : c < wi) : 0 ≤ numAt rows wi r c ∧ numAt rows wi r c < ((stAt rows wi (hi * wi)).2.length : Int) := by
 unfold numAt
 have h1 := stAt_mem rows wi r c hc
 have h2 := List.idxOf_lt_length_of_mem h1
 have hle : r * wi + c + 1 ≤ hi * wi := by
  have : (r + 1) * wi ≤ hi * wi := Nat.mul_le_mul_right _ hr
  rw [Nat.succ_mul] at this
  omega
 have h3 := (stAt_prefix rows wi (r * wi + c + 1) (hi * wi - (r * wi + c + 1))).length_le
 rw [show r * wi + c + 1 + (hi * wi - (r * wi + c + 1)) = hi * wi by omega] at h3
 have h4 := (stAt_inv rows hi wi (hi * wi) (Nat.le_refl _)).1
 omega
structure Cells (hi wi n : Nat) (cs : List (List Int)) : Prop where
 len : cs.length = hi
 row : ∀ r ∈ cs, r.length = wi
 val : ∀ r ∈ cs, ∀ x ∈ r, 0 ≤ x ∧ x < n
theorem shapeOk_iff (rows : List (List Int)) : shapeOk rows = true ↔ (1 ≤ rows.length ∧ rows.length ≤ 6 ∧ 1 ≤ wideOf rows ∧ wideOf rows ≤ 6 ∧ ∀ r ∈ rows, r.length = wideOf rows) := by
 unfold shapeOk
 simp only [Bool.and_eq_true, decide_eq_true_eq, Bool.not_eq_true', List.any_eq_false, bne_iff_ne, ne_eq, Decidable.not_not, and_assoc]
theorem settledF_some {rows cs : List (List Int)} {rs : List Rc} {b : Bool} (h : settledF rows = some (cs, rs, b)) : shapeOk rows = true ∧ cs = cellsOf rows ∧ rs = roomsOf rows ∧ rs.length ≤ 9 ∧ b = decide (sumArea rs = (rows.length : Int) * (wideOf rows : Int)) ∧ Cells rows.length (wideOf rows) rs.length cs ∧ ∀ a ∈ rs, boundR a rows.length (wideOf rows) := by
 unfold settledF at h
 split at h
 ·rename_i h1
  split at h
  ·rename_i h2
   injection h with h
   injection h with e1 h
   injection h with e2 e3
   subst e1 e2 e3
   refine ⟨h1, rfl, rfl, h2, rfl, ⟨cellsOf_length rows, fun r hr => ?_, fun r hr x hx => ?_⟩, (stAt_inv rows rows.length (wideOf rows) _ (Nat.le_refl _)).2.2.2⟩
   ·unfold cellsOf gridOf at hr
    simp at hr
    obtain ⟨a, _, rfl⟩ := hr
    simp
   ·unfold cellsOf gridOf at hr
    simp at hr
    obtain ⟨a, ha, rfl⟩ := hr
    simp at hx
    obtain ⟨c, hc, rfl⟩ := hx
    exact numAt_lt rows rows.length (wideOf rows) a c ha hc
  ·cases h
 ·cases h
theorem textOf_length (cs : List (List Int)) : (textOf cs).length = cs.length := by simp [textOf]
def smallB (p : List ByteArray) : Bool := decide (p.length ≤ 1048576) && p.all fun s => decide (s.size ≤ 1048576)
theorem smallB_iff (p : List ByteArray) : smallB p = true ↔ smallP p := by
 unfold smallB smallP
 rw [Bool.and_eq_true, decide_eq_true_eq, List.all_eq_true]
 simp only [decide_eq_true_eq]
def floorF (p : List ByteArray) : Option (List (List Int) × List Rc) := (readF p).bind fun t => if t.2.2 = true ∧ textOf t.1 = p then some (t.1, t.2.1) else none
theorem readF_some {p : List ByteArray} {t} (h : readF p = some t) : settledF (numsOf p) = some t := by
 unfold readF at h
 split at h
 ·exact h
 ·cases h
def FloorOfRes (w : World) (r : Option (List (List Int) × List Rc)) (e : Ending) (w' : World) : Prop :=
 Below w.heap.size w w' ∧ ∃ (v : Option Addr) (b : Bool), e = .returned (.tuple #[.pointer v, .bool b]) ∧ match r with
  | none => b = false
  | some (cs, rs) => b = true ∧ ∃ g, v = some ⟨g, 0, none⟩ ∧ FloorAt w' g cs rs
set_option maxHeartbeats 4000000 in
set_option maxRecDepth 100000 in
theorem floorOf_calls (A0 : Option Addr) (c0 : Nat) (l0 : List ByteArray) (w : World) (hr0 : Kd.C Kd.string w A0 l0.length l0) (hc0 : l0.length ≤ c0) (hp : smallP l0) :
  Calls Try.prog 49 #[.slice A0 l0.length c0] w (FloorOfRes w (floorF l0)) := by
 have HR := Aside0.mk hr0
 have HC := Aside0.mk hc0
 have HP := Aside0.mk hp
 clear hr0 hc0 hp
 generalize hF : floorF l0 = res
 have HF := Aside0.mk hF
 clear hF
 generalize hS : readF l0 = t
 have HS := Aside0.mk hS
 clear hS
 rcases t with _ | ⟨cs, rs, b⟩
 ·have e : res = none := by rw [← HF.out]; unfold floorF; rw [HS.out]; rfl
  subst e
  go_enter Try.func49, Try.ntmps49
  go_wp2_with (first
   | (go_at_call 91; refine (read_calls A0 c0 l0 _ HR.out HC.out HP.out).mono ?_; rw [HS.out]; rintro e w8 ⟨hb8, rfl⟩; have HB8 := Aside0.mk hb8; clear hb8))
  go_ret2
  exact ⟨HB8.out, none, false, rfl, rfl⟩
 ·obtain ⟨q1, q2, q3, q4, q5, q6, q7⟩ := settledF_some (readF_some HS.out)
  have HCl := Aside0.mk q6
  clear q2 q3 q5 q6 q7
  have hsh := (shapeOk_iff _).1 q1
  have HSh := Aside0.mk hsh
  clear q1 hsh
  cases b
  ·have e : res = none := by rw [← HF.out]; unfold floorF; rw [HS.out]; simp
   subst e
   go_enter Try.func49, Try.ntmps49
   go_wp2_with (first
    | (go_at_call 91; refine (read_calls A0 c0 l0 _ HR.out HC.out HP.out).mono ?_; rw [HS.out]; rintro e w8 ⟨hb8, g, rfl, hfl⟩; have HB8 := Aside0.mk hb8; clear hb8 hfl))
   go_ret2
   exact ⟨HB8.out, some ⟨g, 0, none⟩, false, rfl, rfl⟩
  ·have HT := Aside0.mk (equalS_f (textOf cs) l0 (by rw [textOf_length, HCl.out.len]; have := HSh.out; omega))
   obtain ⟨k, hk⟩ := HT.out
   have HK := Aside0.mk hk
   clear hk
   have HVal := Aside0.mk (show ∀ r ∈ cs, r.length ≤ 1048576 ∧ ∀ x ∈ r, 0 ≤ x ∧ x ≤ 25 from fun r hr => ⟨by rw [HCl.out.row r hr]; have := HSh.out; omega, fun x hx => by have := HCl.out.val r hr x hx; omega⟩)
   have HLn := Aside0.mk (show cs.length ≤ 1048576 from by rw [HCl.out.len]; have := HSh.out; omega)
   go_enter Try.func49, Try.ntmps49
   go_wp2_with (first
    | (go_at_call 91; refine (read_calls A0 c0 l0 _ HR.out HC.out HP.out).mono ?_; rw [HS.out]; rintro e w8 ⟨hb8, g, rfl, hfl⟩; have HB8 := Aside0.mk hb8; have HFl := Aside0.mk hfl; clear hb8 hfl)
    | (go_at_call 93; refine (text_calls g cs rs _ HFl.out HLn.out HVal.out).mono ?_; rintro e w9 ⟨v9, rfl, hr9, hb9⟩; have HB9 := Aside0.mk (below_step HB8.out hb9); have HFl9 := Aside0.mk (HFl.out.below hb9); obtain ⟨A9, c9, e9, hl9, hC9⟩ := Kd.R_reads hr9; subst e9; have HC9 := Aside0.mk hC9; have HL9 := Aside0.mk hl9; clear hb9 hr9 hC9 hl9)
    | (go_at_call 92; refine (slices_Equal_string_string.calls k A9 c9 (textOf cs) A0 c0 l0 _ _ HC9.out HL9.out (Kd.C_below HR.out HB9.out) HC.out HK.out).mono ?_; rintro e w10 ⟨rfl, hd10⟩; have HB10 := Aside0.mk (below_step HB9.out hd10.below); have HFl10 := Aside0.mk (HFl9.out.below hd10.below); clear hd10))
   go_ret2
   have hre : floorF l0 = if textOf cs = l0 then some (cs, rs) else none := by unfold floorF; rw [HS.out]; simp
   rw [← HF.out, hre]
   by_cases ht : textOf cs = l0
   ·rw [if_pos ht]
    exact ⟨HB10.out, some ⟨g, 0, none⟩, true, by rw [decide_eq_true ht]; rfl, rfl, g, rfl, HFl10.out⟩
   ·rw [if_neg ht]
    exact ⟨HB10.out, some ⟨g, 0, none⟩, false, by rw [decide_eq_false ht]; rfl, rfl⟩
def planF (rows : List (List Int)) : List ByteArray × Bool := match settledF rows with
 | some (cs, _, true) => (textOf cs, true)
 | _ => ([], false)
def PlanRes (w : World) (r : List ByteArray × Bool) (e : Ending) (w' : World) : Prop :=
 ∃ v0_ : Value, e = .returned (.tuple #[v0_, .bool r.2]) ∧ Kd.R Kd.string 9 w' w.heap.size (fun _ => True) v0_ r.1 ∧ Below w.heap.size w w'
set_option maxHeartbeats 4000000 in
set_option maxRecDepth 100000 in
theorem plan_calls (A : Option Addr) (cap : Nat) (rows : List (List Int)) (w : World) (hr : (Kd.slice 3 (Kd.int .i64)).C w A rows.length rows) (hv : ∀ r ∈ rows, ∀ x ∈ r, 0 ≤ x ∧ x ≤ 1048576) :
  Calls Try.prog 55 #[.slice A rows.length cap] w (PlanRes w (planF rows)) := by
 have HR := Aside0.mk hr
 have HV := Aside0.mk hv
 clear hr hv
 generalize hF : planF rows = res
 have HF := Aside0.mk hF
 clear hF
 generalize hS : settledF rows = t
 have HS := Aside0.mk hS
 clear hS
 rcases t with _ | ⟨cs, rs, b⟩
 ·have e : res = ([], false) := by rw [← HF.out]; unfold planF; rw [HS.out]
  subst e
  go_enter Try.func55, Try.ntmps55
  go_wp2_with (first
   | (go_at_call 94; refine (settled_calls A cap rows _ HR.out HV.out).mono ?_; rw [HS.out]; rintro e w8 ⟨hb8, rfl⟩; have HB8 := Aside0.mk hb8; clear hb8))
  go_ret2
  exact ⟨.slice none 0 0, rfl, Kd.R_nil _ _ _ _ _, HB8.out⟩
 ·obtain ⟨q1, q2, q3, q4, q5, q6, q7⟩ := settledF_some HS.out
  have HCl := Aside0.mk q6
  clear q2 q3 q5 q6 q7
  have HSh := Aside0.mk ((shapeOk_iff _).1 q1)
  clear q1
  cases b
  ·have e : res = ([], false) := by rw [← HF.out]; unfold planF; rw [HS.out]
   subst e
   go_enter Try.func55, Try.ntmps55
   go_wp2_with (first
    | (go_at_call 94; refine (settled_calls A cap rows _ HR.out HV.out).mono ?_; rw [HS.out]; rintro e w8 ⟨hb8, g, rfl, hfl⟩; have HB8 := Aside0.mk hb8; clear hb8 hfl))
   go_ret2
   exact ⟨.slice none 0 0, rfl, Kd.R_nil _ _ _ _ _, HB8.out⟩
  ·have e : res = (textOf cs, true) := by rw [← HF.out]; unfold planF; rw [HS.out]
   subst e
   have HVal := Aside0.mk (show ∀ r ∈ cs, r.length ≤ 1048576 ∧ ∀ x ∈ r, 0 ≤ x ∧ x ≤ 25 from fun r hr => ⟨by rw [HCl.out.row r hr]; have := HSh.out; omega, fun x hx => by have := HCl.out.val r hr x hx; omega⟩)
   have HLn := Aside0.mk (show cs.length ≤ 1048576 from by rw [HCl.out.len]; have := HSh.out; omega)
   go_enter Try.func55, Try.ntmps55
   go_wp2_with (first
    | (go_at_call 94; refine (settled_calls A cap rows _ HR.out HV.out).mono ?_; rw [HS.out]; rintro e w8 ⟨hb8, g, rfl, hfl⟩; have HB8 := Aside0.mk hb8; have HFl := Aside0.mk hfl; clear hb8 hfl)
    | (go_at_call 93; refine (text_calls g cs rs _ HFl.out HLn.out HVal.out).mono ?_; rintro e w9 ⟨v9, rfl, hr9, hb9⟩; have HB9 := Aside0.mk (below_step HB8.out hb9); have HO9 := Aside0.mk (Kd.R_lower hr9 HB8.out.size); clear hb9 hr9))
   go_ret2
   exact ⟨v9, rfl, HO9.out, HB9.out⟩
end Go.Proofs.Ytjaolkfjpnpglaa.Hd
namespace Go.Proofs.Ytjaolkfjpnpglaa.Hd
open Go.RowKit Go.Proofs.YtjaolkfjpnpglaaW.PrintWords Go.Proofs.YtjaolkfjpnpglaaW.PrintLast Go.Proofs.YtjaolkfjpnpglaaW.PrintMore Go.Proofs.Ytjaolkfjpnpglaa.PB
set_option linter.unusedVariables false
set_option linter.unusedSimpArgs false
def Sees (w W : World) : Prop := w.heap.size ≤ W.heap.size ∧ ∀ k, k < w.heap.size → W.heap[k]? = w.heap[k]?
def likeW (w W : World) : World := { W with os := w.os, tape := w.tape, output := w.output }
theorem Sees.below {w W : World} (h : Sees w W) : Below w.heap.size w (likeW w W) := ⟨rfl, rfl, rfl, h.1, h.2⟩
theorem Sees.of_below {w W : World} (h : Below w.heap.size w W) : Sees w W := ⟨h.size, h.block⟩
theorem Sees.refl (w : World) : Sees w w := ⟨Nat.le_refl _, fun _ _ => rfl⟩
theorem Sees.trans {a b c : World} (h : Sees a b) (k : Sees b c) : Sees a c := ⟨Nat.le_trans h.1 k.1, fun i hi => (k.2 i (Nat.lt_of_lt_of_le hi h.1)).trans (h.2 i hi)⟩
theorem Sees.cell {w W : World} (h : Sees w W) {a : Addr} {v : Value} (hc : w.cell? a = some v) : W.cell? a = some v := pw_cell_below (w1 := likeW w W) h.below hc
theorem Sees.at {w W : World} (h : Sees w W) {k : Nat} {o : Obj} (hc : w.heap[k]? = some o) : W.heap[k]? = some o := (h.2 k (Array.getElem?_eq_some_iff.1 hc).1).trans hc
theorem C_likeW {w W : World} {A : Option Addr} {n : Nat} {xs : List (List Int)} (h : (Kd.slice 3 (Kd.int .i64)).C (likeW w W) A n xs) : (Kd.slice 3 (Kd.int .i64)).C W A n xs := h
theorem C_likeW_rc {w W : World} {A : Option Addr} {n : Nat} {xs : List Rc} (h : kRc.C (likeW w W) A n xs) : kRc.C W A n xs := h
theorem Sees.C {w W : World} (h : Sees w W) {A : Option Addr} {n : Nat} {xs : List (List Int)} (hc : (Kd.slice 3 (Kd.int .i64)).C w A n xs) : (Kd.slice 3 (Kd.int .i64)).C W A n xs := C_likeW (Kd.C_below hc h.below)
theorem FloorAt.sees {w W : World} {g : Nat} {cs : List (List Int)} {rs : List Rc} (hf : FloorAt w g cs rs) (h : Sees w W) : FloorAt W g cs rs := by
 obtain ⟨A0, c0, A1, c1, h1, h2, h3, h4⟩ := hf
 exact ⟨A0, c0, A1, c1, h.at h1, h.at h1, C_likeW (Kd.C_below h3 h.below), C_likeW_rc (Kd.C_below h4 h.below)⟩
def ReadFn (P : Program) (f : FuncId) (caps : Array Value) (w : World) (hi wi : Nat) (g : Nat → Nat → Int) : Prop :=
 ∀ (W : World) (r c : Nat), r < hi → c < wi → Sees w W → Calls P f (#[.int .i64 r, .int .i64 c] ++ caps) W fun e W' => e = .returned (.int .i64 (g r c)) ∧ Below W.heap.size W W'
def GridRes (w : World) (r : List (List Int)) (e : Ending) (w' : World) : Prop :=
 ∃ A c, e = .returned (.slice A r.length c) ∧ r.length ≤ c ∧ (Kd.slice 3 (Kd.int .i64)).C w' A r.length r ∧ Below w.heap.size w w'
theorem gridOf_row {hi wi : Nat} {g : Nat → Nat → Int} : ∀ r ∈ gridOf hi wi g, r.length = wi := by
 intro r hr
 unfold gridOf at hr
 simp at hr
 obtain ⟨a, _, rfl⟩ := hr
 simp
theorem readFn_cell {P : Program} {f : FuncId} {caps : Array Value} {w : World} {hi wi : Nat} {g : Nat → Nat → Int} (h : ReadFn P f caps w hi wi g) :
  CellFn P f caps hi wi g (fun _ F W => (∀ k, F k ↔ k < w.heap.size) ∧ Sees w W) := by
 refine ⟨fun n F W W' hI hs hm => ⟨hI.1, Nat.le_trans hI.2.1 hs, fun k hk => (hm k ((hI.1 k).2 hk)).trans (hI.2.2 k hk)⟩, fun n F W k hI hk => Nat.lt_of_lt_of_le ((hI.1 k).1 hk) hI.2.1, ?_⟩
 intro n F W r c hr hc _ hI
 refine (h W r c hr hc hI.2).mono ?_
 rintro e W' ⟨rfl, hb⟩
 exact ⟨rfl, F, ⟨hI.1, hI.2.trans (Sees.of_below hb)⟩, fun k hk => .inl hk, Other.of_below hb⟩
theorem blank_reads (f : FuncId) (fn : Func) (hf : Try.prog.funcs[f]? = some fn) (hname : (fn.name == "runtime.NumGoroutine") = false) (hb : fn.body.isSome = true) (caps : Array Value) (hi wi : Nat) (g : Nat → Nat → Int) (w : World)
  (hC : ReadFn Try.prog f caps w hi wi g) (hhi : hi ≤ 1048576) (hwi : wi ≤ 1048576) :
  Calls Try.prog 51 #[.int .i64 hi, .int .i64 wi, .func (.func f) #[] caps] w (GridRes w (gridOf hi wi g)) := by
 refine (blank_calls f fn hf hname hb caps hi wi g _ (readFn_cell hC) (fun k => k < w.heap.size) w ⟨fun _ => Iff.rfl, Sees.refl w⟩ hhi hwi).mono ?_
 rintro e w' ⟨g0, bs, F', rfl, hM, hfar, ⟨hF, hS⟩, hF', hO⟩
 have hl := gridOf_length hi wi g
 refine ⟨some ⟨g0, 0, none⟩, hi, by rw [hl], by rw [hl]; exact Nat.le_refl _, ?_, ⟨hO.os, hO.tape, hO.output, hS.1, hS.2⟩⟩
 exact hM.reads (by rw [hl]; omega) (fun r hr => by rw [gridOf_row r hr]; omega)
structure FloorOk (cs : List (List Int)) (rs : List Rc) : Prop where
 cells : Cells cs.length (wideOf cs) rs.length cs
 h1 : 1 ≤ cs.length
 h6 : cs.length ≤ 6
 w1 : 1 ≤ wideOf cs
 w6 : wideOf cs ≤ 6
 many : rs.length ≤ 9
 bound : ∀ a ∈ rs, boundR a cs.length (wideOf cs)
theorem wideOf_of {cs : List (List Int)} {hi wi n : Nat} (h : Cells hi wi n cs) (h1 : 1 ≤ hi) : wideOf cs = wi := by
 unfold wideOf
 have hl := h.len
 rw [List.getD_eq_getElem?_getD, List.getElem?_eq_getElem (by omega)]
 exact h.row _ (List.getElem_mem _)
theorem settledF_ok {rows cs : List (List Int)} {rs : List Rc} {b : Bool} (h : settledF rows = some (cs, rs, b)) : FloorOk cs rs := by
 obtain ⟨q1, q2, q3, q4, q5, q6, q7⟩ := settledF_some h
 obtain ⟨s1, s2, s3, s4, s5⟩ := (shapeOk_iff _).1 q1
 have hw := wideOf_of q6 s1
 have hl := q6.len
 exact ⟨by rw [hw, hl]; exact q6, by omega, by omega, by omega, by omega, q4, by rw [hw, hl]; exact q7⟩
theorem floorF_ok {p : List ByteArray} {cs : List (List Int)} {rs : List Rc} (h : floorF p = some (cs, rs)) : FloorOk cs rs := by
 unfold floorF at h
 cases hr : readF p with
 | none => rw [hr] at h; cases h
 | some t =>
  rw [hr] at h
  simp only [Option.bind_some] at h
  split at h
  ·injection h with h
   injection h with e1 e2
   subst e1 e2
   exact settledF_ok (readF_some hr)
  ·cases h
theorem high_f (cs : List (List Int)) (rs : List Rc) : impl_floor_high.f cs rs = some (cs.length : Int) := rfl
theorem wide_f {cs : List (List Int)} {rs : List Rc} (h : FloorOk cs rs) : impl_floor_wide.f cs rs = some (wideOf cs : Int) := by
 have := h.h1
 unfold impl_floor_wide.f
 rw [if_pos (by omega)]
 rfl
theorem FloorAt.cell {w : World} {g : Nat} {cs : List (List Int)} {rs : List Rc} (hf : FloorAt w g cs rs) (hk : FloorOk cs rs) (r c : Nat) (hr : r < cs.length) (hc : c < wideOf cs) :
  ∃ ad c0 ad2 c2, w.cell? ⟨g, 0, none⟩ = some (.slice (some ad) cs.length c0) ∧ w.cell? (ad.add r) = some (.slice (some ad2) (wideOf cs) c2) ∧ w.cell? (ad2.add c) = some (.int .i64 (valAt cs r c)) := by
 obtain ⟨A0, c0, A1, c1, h1, h2, h3, h4⟩ := hf
 obtain ⟨row, hrow⟩ : ∃ row, cs[r]? = some row := ⟨_, List.getElem?_eq_getElem hr⟩
 obtain ⟨ad, Ai, ci, e1, hx, hl, hrr⟩ := C_row h3 r row hrow
 have hw := hk.cells.row row (List.mem_of_getElem? hrow)
 obtain ⟨ad2, e2, hx2⟩ := C_int_cell hrr c (by omega)
 subst e1 e2
 refine ⟨ad, c0, ad2, ci, (blk_cell h1 0).trans rfl, by rw [hx, hw], ?_⟩
 rw [hx2]
 unfold valAt rd
 rw [List.getD_eq_getElem?_getD, List.getD_eq_getElem?_getD, List.getD_eq_getElem?_getD, hrow, Int.toNat_natCast]
 rfl
theorem valAt_range {cs : List (List Int)} {rs : List Rc} (hk : FloorOk cs rs) (r c : Nat) (hr : r < cs.length) (hc : c < wideOf cs) : 0 ≤ valAt cs r c ∧ valAt cs r c < rs.length := by
 have hm : cs.getD r [] ∈ cs := by rw [List.getD_eq_getElem?_getD, List.getElem?_eq_getElem hr]; exact List.getElem_mem _
 have hw := hk.cells.row _ hm
 refine hk.cells.val _ hm _ ?_
 unfold valAt
 rw [List.getD_eq_getElem?_getD (l := cs.getD r []), List.getElem?_eq_getElem (by omega)]
 exact List.getElem_mem _
end Go.Proofs.Ytjaolkfjpnpglaa.Hd
namespace Go.Proofs.Ytjaolkfjpnpglaa.Hd
open Go.RowKit Go.Proofs.YtjaolkfjpnpglaaW.PrintWords Go.Proofs.YtjaolkfjpnpglaaW.PrintLast Go.Proofs.YtjaolkfjpnpglaaW.PrintMore Go.Proofs.Ytjaolkfjpnpglaa.PB
set_option linter.unusedVariables false
set_option linter.unusedSimpArgs false
theorem grid_vals {g : Nat → Nat → Int} {hi wi : Nat} (h : ∀ r c, r < hi → c < wi → 0 ≤ g r c ∧ g r c ≤ 1048576) : ∀ r ∈ gridOf hi wi g, ∀ x ∈ r, 0 ≤ x ∧ x ≤ 1048576 := by
 intro r hr x hx
 unfold gridOf at hr
 simp at hr
 obtain ⟨a, ha, rfl⟩ := hr
 simp at hx
 obtain ⟨c, hc, rfl⟩ := hx
 exact h a c ha hc
theorem box_cell {w : World} {v : Value} {t : TypeId} {g : Nat} (h : w.heap[g]? = some (.cells #[v] t (0, 0))) : w.cell? ⟨g, 0, none⟩ = some v := (blk_cell h 0).trans rfl
end Go.Proofs.Ytjaolkfjpnpglaa.Hd
namespace Go.Proofs.Ytjaolkfjpnpglaa.Hd
open Go.RowKit Go.Proofs.YtjaolkfjpnpglaaW.PrintWords Go.Proofs.YtjaolkfjpnpglaaW.PrintLast Go.Proofs.YtjaolkfjpnpglaaW.PrintMore Go.Proofs.Ytjaolkfjpnpglaa.PB
set_option linter.unusedVariables false
set_option linter.unusedSimpArgs false
section
variable {P : Program} {ops : Array Oper} {Q : Exit → Act → World → Prop}
end
def HowFn (P : Program) (f : FuncId) (caps : Array Value) (w : World) (how : List (List Int) → List Rc → List (List Int)) : Prop :=
 ∀ (W : World) (g : Nat) (cs : List (List Int)) (rs : List Rc), FloorOk cs rs → FloorAt W g cs rs → Sees w W → Calls P f (#[.pointer (some ⟨g, 0, none⟩)] ++ caps) W (GridRes W (how cs rs))
def goodHow (how : List (List Int) → List Rc → List (List Int)) : Prop := ∀ cs rs, FloorOk cs rs → ∀ r ∈ how cs rs, ∀ x ∈ r, 0 ≤ x ∧ x ≤ 1048576
def remadeF (p : List ByteArray) (how : List (List Int) → List Rc → List (List Int)) : List ByteArray × Bool := match floorF p with
 | none => ([], false)
 | some (cs, rs) => planF (how cs rs)
set_option maxHeartbeats 4000000 in
set_option maxRecDepth 100000 in
theorem remade_calls (f : FuncId) (fn : Func) (hf : Try.prog.funcs[f]? = some fn) (hname : (fn.name == "runtime.NumGoroutine") = false) (hb : fn.body.isSome = true) (caps : Array Value) (how : List (List Int) → List Rc → List (List Int)) (hgood : goodHow how)
  (A0 : Option Addr) (c0 : Nat) (l0 : List ByteArray) (w : World) (hr0 : Kd.C Kd.string w A0 l0.length l0) (hc0 : l0.length ≤ c0) (hp : smallP l0) (hh : HowFn Try.prog f caps w how) :
  Calls Try.prog 69 #[.slice A0 l0.length c0, .func (.func f) #[] caps] w (PlanRes w (remadeF l0 how)) := by
 have HR := Aside0.mk hr0
 have HC := Aside0.mk hc0
 have HP := Aside0.mk hp
 have HHow := Aside0.mk hh
 have HFn := Aside0.mk hf
 have HN := Aside0.mk hname
 have HBd := Aside0.mk hb
 have HG := Aside0.mk hgood
 clear hr0 hc0 hp hh hf hname hb hgood
 generalize hM : remadeF l0 how = res
 have HM := Aside0.mk hM
 clear hM
 generalize hF : floorF l0 = t
 have HF := Aside0.mk hF
 clear hF
 rcases t with _ | ⟨cs, rs⟩
 ·have e : res = ([], false) := by rw [← HM.out]; unfold remadeF; rw [HF.out]
  subst e
  go_enter Try.func69, Try.ntmps69
  go_wp2_with (first
   | (go_at_call 49; refine (floorOf_calls A0 c0 l0 _ HR.out HC.out HP.out).mono ?_; rw [HF.out]; rintro e w8 ⟨hb8, v8, b8, rfl, rfl⟩; have HB8 := Aside0.mk hb8; clear hb8))
  go_ret2
  exact ⟨.slice none 0 0, rfl, Kd.R_nil _ _ _ _ _, HB8.out⟩
 ·have e : res = planF (how cs rs) := by rw [← HM.out]; unfold remadeF; rw [HF.out]
  have HE := Aside0.mk e
  have HK := Aside0.mk (floorF_ok HF.out)
  clear e
  go_enter Try.func69, Try.ntmps69
  go_wp2_with (first
   | (go_at_call 49; refine (floorOf_calls A0 c0 l0 _ HR.out HC.out HP.out).mono ?_; rw [HF.out]; rintro e w8 ⟨hb8, v8, b8, rfl, rfl, g, rfl, hfl⟩; have HB8 := Aside0.mk hb8; have HFl8 := Aside0.mk hfl; clear hb8 hfl)
   | ((with_reducible refine gate_dst (N := 17) rfl ?_); refine goesvL_ (some 17) rfl rfl HFn.out HN.out HBd.out #[.pointer (some ⟨g, 0, none⟩)] rfl rfl (by (try simp only [List.map_toArray, List.map_cons, List.map_nil]); first | done | rfl) ?_; refine (HHow.out _ g cs rs HK.out HFl8.out (Sees.of_below HB8.out)).mono ?_; rintro e w9 ⟨A9, c9, rfl, hl9, hC9, hb9⟩; refine ⟨_, rfl, ?_⟩; have HC9 := Aside0.mk hC9; have HB9 := Aside0.mk (below_step HB8.out hb9); clear hb9 hC9)
   | (go_at_call 55; refine (plan_calls A9 c9 _ _ HC9.out (HG.out cs rs HK.out)).mono ?_; rintro e w14 ⟨v14, rfl, hr14, hb14⟩; have HO14 := Aside0.mk (Kd.R_lower hr14 HB9.out.size); have HB14 := Aside0.mk (below_step HB9.out hb14); clear hr14 hb14))
  go_ret2
  rw [HE.out]
  exact ⟨v14, rfl, HO14.out, HB14.out⟩
end Go.Proofs.Ytjaolkfjpnpglaa.Hd
namespace Go.Proofs.Ytjaolkfjpnpglaa.Hd
open Go.RowKit Go.Proofs.YtjaolkfjpnpglaaW.PrintWords Go.Proofs.YtjaolkfjpnpglaaW.PrintLast Go.Proofs.YtjaolkfjpnpglaaW.PrintMore Go.Proofs.Ytjaolkfjpnpglaa.PB
set_option linter.unusedVariables false
set_option linter.unusedSimpArgs false
def wideG (k : Nat) (cs : List (List Int)) (r c : Nat) : Int := valAt cs (r / k) (c / k)
set_option maxHeartbeats 4000000 in
set_option maxRecDepth 100000 in
theorem wide1_read (w : World) (p1 pk g k : Nat) (cs : List (List Int)) (rs : List Rc) (hk : FloorOk cs rs) (hf : FloorAt w g cs rs) (k1 : 1 ≤ k) (k3 : k ≤ 3) (hp1 : w.cell? ⟨p1, 0, none⟩ = some (.pointer (some ⟨g, 0, none⟩))) (hpk : w.cell? ⟨pk, 0, none⟩ = some (.int .i64 (k : Int))) :
  ReadFn Try.prog 71 #[.pointer (some ⟨p1, 0, none⟩), .pointer (some ⟨pk, 0, none⟩)] w (k * cs.length) (k * wideOf cs) (wideG k cs) := by
 intro W r c hr hc hS
 replace hf := hf.sees hS
 replace hp1 := hS.cell hp1
 replace hpk := hS.cell hpk
 have hh1 := hk.h6
 have hw6 := hk.w6
 have hr2 : r / k < cs.length := by
  rw [Nat.div_lt_iff_lt_mul (by omega), Nat.mul_comm]; exact hr
 have hc2 : c / k < wideOf cs := by
  rw [Nat.div_lt_iff_lt_mul (by omega), Nat.mul_comm]; exact hc
 have hrb : r < 18 := by
  have := Nat.mul_le_mul k3 hh1
  omega
 have hcb : c < 18 := by
  have := Nat.mul_le_mul k3 hw6
  omega
 have r0 : (0 : Int) ≤ r := by omega
 have c0 : (0 : Int) ≤ c := by omega
 obtain ⟨ad, q0, ad2, q2, x1, x2, x3⟩ := hf.cell hk (r / k) (c / k) hr2 hc2
 have hG : wideG k cs r c = valAt cs (r / k) (c / k) := rfl
 generalize wideG k cs r c = res at *
 generalize valAt cs (r / k) (c / k) = x at *
 have e1 : ((r : Int).tdiv (k : Int)) = ((r / k : Nat) : Int) := by
  rw [Int.tdiv_eq_ediv_of_nonneg (by omega)]
  exact (Int.natCast_ediv r k).symm
 have e2 : ((c : Int).tdiv (k : Int)) = ((c / k : Nat) : Int) := by
  rw [Int.tdiv_eq_ediv_of_nonneg (by omega)]
  exact (Int.natCast_ediv c k).symm
 have kz : ¬ ((k : Int) = 0) := by omega
 have r2 : (0 : Int) ≤ ((r / k : Nat) : Int) := Int.natCast_nonneg _
 have c2 : (0 : Int) ≤ ((c / k : Nat) : Int) := Int.natCast_nonneg _
 have r3 : ((r / k : Nat) : Int) < cs.length := by omega
 have c3 : ((c / k : Nat) : Int) < wideOf cs := by omega
 have r4 : ((r / k : Nat) : Int) ≤ 1048576 := by omega
 have c4 : ((c / k : Nat) : Int) ≤ 1048576 := by omega
 generalize r / k = d at *
 generalize c / k = e at *
 have HG := Aside0.mk hG
 clear hG hf hk hS hr hc hr2 hc2
 show Calls Try.prog _ #[.int .i64 (r : Int), .int .i64 (c : Int), .pointer (some ⟨p1, 0, none⟩), .pointer (some ⟨pk, 0, none⟩)] _ _
 go_enter Try.func71, Try.ntmps71
 go_wp2
 repeat (go_quiet (fail); try go_wp2)
 go_ret
 exact ⟨by rw [HG.out]; rfl, pw_below_drewN (Below.refl _ _) _⟩
def wideH (k : Nat) (cs : List (List Int)) (_ : List Rc) : List (List Int) := gridOf (k * cs.length) (k * wideOf cs) (wideG k cs)
set_option maxHeartbeats 4000000 in
set_option maxRecDepth 100000 in
theorem wide_fn (w : World) (pk k : Nat) (k1 : 1 ≤ k) (k3 : k ≤ 3) (hpk : w.cell? ⟨pk, 0, none⟩ = some (.int .i64 (k : Int))) : HowFn Try.prog 70 #[.pointer (some ⟨pk, 0, none⟩)] w (wideH k) := by
 intro W g cs rs hk hf hS
 have HK := Aside0.mk hk
 have HF := Aside0.mk hf
 have H1 := Aside0.mk (high_f cs rs)
 have W1 := Aside0.mk (wide_f hk)
 replace hpk := hS.cell hpk
 have a1 := hk.h6
 have a3 := hk.w6
 have m1 : k * cs.length ≤ 3 * 6 := Nat.mul_le_mul k3 a1
 have m2 : k * wideOf cs ≤ 3 * 6 := Nat.mul_le_mul k3 a3
 have e1 : wrap64 ((k : Int) * (cs.length : Int)) = ((k * cs.length : Nat) : Int) := by rw [← Int.natCast_mul, wrap64_small (by omega) (by omega)]
 have e2 : wrap64 ((k : Int) * (wideOf cs : Int)) = ((k * wideOf cs : Nat) : Int) := by rw [← Int.natCast_mul, wrap64_small (by omega) (by omega)]
 have E1 := Aside0.mk e1
 have E2 := Aside0.mk e2
 have M1 := Aside0.mk m1
 have M2 := Aside0.mk m2
 clear hk hf hS e1 e2 m1 m2
 show Calls Try.prog _ #[.pointer (some ⟨g, 0, none⟩), .pointer (some ⟨pk, 0, none⟩)] _ _
 go_enter Try.func70, Try.ntmps70
 go_upto_region 1 with (first
  | ((with_reducible refine gate_dst (N := 2) rfl ?_); refine box_event ?hg (N := 2) ?hd (cs := #[.pointer (some ⟨g, 0, none⟩)]) (t := 45) ?hr ?_; (case hd => rfl); (case hg => rfl); (case hr => first | (go_simp; done) | (go_simp; rfl)); intro p1 hq1 w1 hbox hb; have HB1 := Aside0.mk hb; have hp1 : w1.cell? ⟨p1, 0, none⟩ = some (.pointer (some ⟨g, 0, none⟩)) := box_cell hbox; replace hpk := pw_cell_below hb hpk; have HF1 := Aside0.mk (HF.out.below hb); clear hb hbox hq1))
 refine start_ (n := 11) (S := fun w' => (w'.cell? ⟨p1, 0, none⟩ = some (.pointer (some ⟨g, 0, none⟩))) ∧ (w'.cell? ⟨pk, 0, none⟩ = some (.int .i64 (k : Int))) ∧ (FloorAt w' g cs rs) ∧ (Below W.heap.size W w')) (ds := []) #[false, false, false, false, false, false, false, false, false, false, false] (by kernel_rfl) rfl rfl (⟨hp1, hpk, HF1.out, ⟨HB1.out.os, HB1.out.tape, HB1.out.output, HB1.out.size, HB1.out.block⟩⟩) (fun hHeld => ?_)
 clear hp1 hpk
 refine take_ (i := 0) (N := some 4) (v := ?_) (a' := ?_) #[true, false, false, false, false, false, false, false, false, false, false] rfl rfl (by kernel_rfl) (fun _ _ _ h => h) (Or.inl ⟨by rfl, ?_⟩) hHeld ?_ ?_
 rotate_left
 ·rintro w' ⟨s0, s1, s2, s3⟩
  go_simp
  with_reducible rfl
 rotate_left
 ·simp only [Act.put, List.setIfInBounds_toArray, List.set_cons_zero, List.set_cons_succ, i64_w, i32_w]
  rfl
 refine take_ (i := 1) (N := some 5) (v := ?_) (a' := ?_) #[true, true, false, false, false, false, false, false, false, false, false] rfl rfl (by kernel_rfl) (fun _ _ _ h => h) (Or.inl ⟨by rfl, ?_⟩) hHeld ?_ ?_
 rotate_left
 ·rintro w' ⟨s0, s1, s2, s3⟩
  go_simp
  with_reducible rfl
 rotate_left
 ·simp only [Act.put, List.setIfInBounds_toArray, List.set_cons_zero, List.set_cons_succ, i64_w, i32_w]
  rfl
 refine take_ (i := 4) (N := some 8) (v := ?_) (a' := ?_) #[true, true, false, false, true, false, false, false, false, false, false] rfl rfl (by kernel_rfl) (fun _ _ _ h => h) (Or.inl ⟨by rfl, ?_⟩) hHeld ?_ ?_
 rotate_left
 ·rintro w' ⟨s0, s1, s2, s3⟩
  go_simp
  with_reducible rfl
 rotate_left
 ·simp only [Act.put, List.setIfInBounds_toArray, List.set_cons_zero, List.set_cons_succ, i64_w, i32_w]
  rfl
 refine take_ (i := 5) (N := some 9) (v := ?_) (a' := ?_) #[true, true, false, false, true, true, false, false, false, false, false] rfl rfl (by kernel_rfl) (fun _ _ _ h => h) (Or.inl ⟨by rfl, ?_⟩) hHeld ?_ ?_
 rotate_left
 ·rintro w' ⟨s0, s1, s2, s3⟩
  go_simp
  with_reducible rfl
 rotate_left
 ·simp only [Act.put, List.setIfInBounds_toArray, List.set_cons_zero, List.set_cons_succ, i64_w, i32_w]
  rfl
 refine pure_ (i := 8) (N := some 12) (v := ?_) (a' := ?_) #[true, true, false, false, true, true, false, false, true, false, false] rfl rfl (by kernel_rfl) (fun _ _ _ h => h) (Or.inl ⟨by rfl, ?_⟩) ?_ ?_
 rotate_left
 ·intro w'
  go_simp
  with_reducible rfl
 rotate_left
 ·simp only [Act.put, List.setIfInBounds_toArray, List.set_cons_zero, List.set_cons_succ, i64_w, i32_w]
  rfl
 refine one_ (i := 2) (N := some 6) #[true, true, true, false, true, true, false, false, true, false, false] rfl rfl (by kernel_rfl) (by decide) (fun K hK => ?_)
 refine goes_ Try.func52 (by kernel_rfl) rfl #[.pointer (some ⟨g, 0, none⟩)] (by rfl) rfl rfl (by (try simp only [List.map_toArray, List.map_cons, List.map_nil]); first | done | rfl) ?_
 have hs_ := hHeld
 obtain ⟨s0, s1, s2, s3⟩ := hs_
 refine (impl_floor_high.calls g cs rs _ _ _ s2 (Below.refl _ _) H1.out).mono ?_
 rintro e w16 ⟨rfl, -, hb, -⟩
 refine ⟨_, rfl, ?_⟩
 refine hK.out _ _ ⟨pw_cell_below hb s0, pw_cell_below hb s1, FloorAt.below s2 hb, below_step s3 hb⟩ (fun hHeld => ?_)
 clear hK K hb s0 s1 s2 s3
 refine norm_ (a' := ?_) ?_ ?_
 rotate_left
 ·show Act.put _ (some 6) _ = _
  simp only [Act.put, List.setIfInBounds_toArray, List.set_cons_zero, List.set_cons_succ, i64_w, i32_w]
  rfl
 refine pure_ (i := 3) (N := some 7) (v := ?_) (a' := ?_) #[true, true, true, true, true, true, false, false, true, false, false] rfl rfl (by kernel_rfl) (fun _ _ _ h => h) (Or.inl ⟨by rfl, ?_⟩) ?_ ?_
 rotate_left
 ·intro w'
  go_simp
  with_reducible rfl
 rotate_left
 ·simp only [Act.put, List.setIfInBounds_toArray, List.set_cons_zero, List.set_cons_succ, i64_w, i32_w]
  rfl
 refine one_ (i := 6) (N := some 10) #[true, true, true, true, true, true, true, false, true, false, false] rfl rfl (by kernel_rfl) (by decide) (fun K hK => ?_)
 refine goes_ Try.func53 (by kernel_rfl) rfl #[.pointer (some ⟨g, 0, none⟩)] (by rfl) rfl rfl (by (try simp only [List.map_toArray, List.map_cons, List.map_nil]); first | done | rfl) ?_
 have hs_ := hHeld
 obtain ⟨s0, s1, s2, s3⟩ := hs_
 refine (impl_floor_wide.calls g cs rs _ _ _ s2 (Below.refl _ _) W1.out).mono ?_
 rintro e w17 ⟨rfl, -, hb, -⟩
 refine ⟨_, rfl, ?_⟩
 refine hK.out _ _ ⟨pw_cell_below hb s0, pw_cell_below hb s1, FloorAt.below s2 hb, below_step s3 hb⟩ (fun hHeld => ?_)
 clear hK K hb s0 s1 s2 s3
 refine norm_ (a' := ?_) ?_ ?_
 rotate_left
 ·show Act.put _ (some 10) _ = _
  simp only [Act.put, List.setIfInBounds_toArray, List.set_cons_zero, List.set_cons_succ, i64_w, i32_w]
  rfl
 refine pure_ (i := 7) (N := some 11) (v := ?_) (a' := ?_) #[true, true, true, true, true, true, true, true, true, false, false] rfl rfl (by kernel_rfl) (fun _ _ _ h => h) (Or.inl ⟨by rfl, ?_⟩) ?_ ?_
 rotate_left
 ·intro w'
  go_simp
  with_reducible rfl
 rotate_left
 ·simp only [Act.put, List.setIfInBounds_toArray, List.set_cons_zero, List.set_cons_succ, i64_w, i32_w]
  rfl
 refine one_ (i := 9) (N := some 13) #[true, true, true, true, true, true, true, true, true, true, false] rfl rfl (by kernel_rfl) (by decide) (fun K hK => ?_)
 refine goes_ Try.func51 (by kernel_rfl) rfl #[.int .i64 (wrap64 ((k : Int) * (cs.length : Int))), .int .i64 (wrap64 ((k : Int) * (wideOf cs : Int))), .func (.func 71) #[] #[.pointer (some ⟨p1, 0, none⟩), .pointer (some ⟨pk, 0, none⟩)]] (by rfl) rfl rfl (by (try simp only [List.map_toArray, List.map_cons, List.map_nil]); first | done | rfl) ?_
 have hs_ := hHeld
 obtain ⟨s0, s1, s2, s3⟩ := hs_
 refine calls_of_args (args' := #[.int .i64 ((k * cs.length : Nat) : Int), .int .i64 ((k * wideOf cs : Nat) : Int), .func (.func 71) #[] #[.pointer (some ⟨p1, 0, none⟩), .pointer (some ⟨pk, 0, none⟩)]]) (by rw [E1.out, E2.out]) ?_
 refine (blank_reads 71 Try.f71 Try.func71 (by kernel_rfl) rfl _ (k * cs.length) (k * wideOf cs) _ _ (wide1_read _ p1 pk g k cs rs HK.out s2 k1 k3 s0 s1) (by have := M1.out; omega) (by have := M2.out; omega)).mono ?_
 rintro e w14 ⟨A14, c14, rfl, hl14, hC14, hb⟩
 have HC14 := Aside0.mk hC14
 have HL14 := Aside0.mk hl14
 have HB14 := Aside0.mk (below_step s3 hb)
 clear hC14 hl14
 refine ⟨_, rfl, ?_⟩
 refine hK.out _ _ ⟨pw_cell_below hb s0, pw_cell_below hb s1, FloorAt.below s2 hb, below_step s3 hb⟩ (fun hHeld => ?_)
 clear hK K hb s0 s1 s2 s3
 refine norm_ (a' := ?_) ?_ ?_
 rotate_left
 ·show Act.put _ (some 13) _ = _
  simp only [Act.put, List.setIfInBounds_toArray, List.set_cons_zero, List.set_cons_succ, i64_w, i32_w]
  rfl
 refine pure_ (i := 10) (N := some 3) (v := ?_) (a' := ?_) #[true, true, true, true, true, true, true, true, true, true, true] rfl rfl (by kernel_rfl) (fun _ _ _ h => h) (Or.inl ⟨by rfl, ?_⟩) ?_ ?_
 rotate_left
 ·intro w'
  go_simp
  with_reducible rfl
 rotate_left
 ·simp only [Act.put, List.setIfInBounds_toArray, List.set_cons_zero, List.set_cons_succ, i64_w, i32_w]
  rfl
 refine done_ (by kernel_rfl) ?_
 go_wp2
 go_ret
 exact ⟨A14, c14, rfl, HL14.out, HC14.out, HB14.out⟩
def wideF (p : List ByteArray) (k : Int) : List ByteArray × Bool := if 1 ≤ k ∧ k ≤ 3 then remadeF p (wideH k.toNat) else ([], false)
set_option maxHeartbeats 4000000 in
set_option maxRecDepth 100000 in
theorem PlanWide_calls (A0 : Option Addr) (c0 : Nat) (l0 : List ByteArray) (k : Int) (w : World) (hr0 : Kd.C Kd.string w A0 l0.length l0) (hc0 : l0.length ≤ c0) (hp : smallP l0) :
  Calls Try.prog 29 #[.slice A0 l0.length c0, .int .i64 k] w (PlanRes w (wideF l0 k)) := by
 have HR := Aside0.mk hr0
 have HC := Aside0.mk hc0
 have HP := Aside0.mk hp
 clear hr0 hc0 hp
 generalize hM : wideF l0 k = res
 have HM := Aside0.mk hM
 clear hM
 by_cases hk1 : k < 1
 ·have e : res = ([], false) := by rw [← HM.out]; unfold wideF; rw [if_neg (by omega)]
  subst e
  have d1 : decide (k < 1) = true := decide_eq_true hk1
  clear hk1
  go_enter Try.func29, Try.ntmps29
  go_wp2_with (first
   | ((with_reducible refine gate_dst (N := 3) rfl ?_); refine box_event ?hg (N := 3) ?hd (cs := #[.int .i64 k]) (t := 3) ?hr ?_; (case hd => rfl); (case hg => rfl); (case hr => first | (go_simp; done) | (go_simp; rfl)); intro pk hq1 w1 hbox hb; have HB1 := Aside0.mk hb; have hpk : w1.cell? ⟨pk, 0, none⟩ = some (.int .i64 k) := box_cell hbox; clear hb hbox hq1))
  go_ret2
  exact ⟨.slice none 0 0, rfl, Kd.R_nil _ _ _ _ _, HB1.out⟩
 ·have d1 : decide (k < 1) = false := decide_eq_false hk1
  by_cases hk3 : 3 < k
  ·have e : res = ([], false) := by rw [← HM.out]; unfold wideF; rw [if_neg (by omega)]
   subst e
   have d2 : decide (3 < k) = true := decide_eq_true hk3
   clear hk1 hk3
   go_enter Try.func29, Try.ntmps29
   go_wp2_with (first
    | ((with_reducible refine gate_dst (N := 3) rfl ?_); refine box_event ?hg (N := 3) ?hd (cs := #[.int .i64 k]) (t := 3) ?hr ?_; (case hd => rfl); (case hg => rfl); (case hr => first | (go_simp; done) | (go_simp; rfl)); intro pk hq1 w1 hbox hb; have HB1 := Aside0.mk hb; have hpk : w1.cell? ⟨pk, 0, none⟩ = some (.int .i64 k) := box_cell hbox; clear hb hbox hq1))
   go_ret2
   exact ⟨.slice none 0 0, rfl, Kd.R_nil _ _ _ _ _, HB1.out⟩
  ·have d2 : decide (3 < k) = false := decide_eq_false hk3
   obtain ⟨n, rfl⟩ := Int.eq_ofNat_of_zero_le (show 0 ≤ k by omega)
   have e : res = remadeF l0 (wideH n) := by rw [← HM.out]; unfold wideF; rw [if_pos (by omega), Int.toNat_natCast]
   have HE := Aside0.mk e
   have HN := Aside0.mk (show 1 ≤ n ∧ n ≤ 3 by omega)
   have HG := Aside0.mk (show goodHow (wideH n) from fun cs rs hk => grid_vals fun r c hr hc => by
    have h1 := HN.out
    have := valAt_range hk (r / n) (c / n) (by rw [Nat.div_lt_iff_lt_mul (by omega), Nat.mul_comm]; exact hr) (by rw [Nat.div_lt_iff_lt_mul (by omega), Nat.mul_comm]; exact hc)
    have := hk.many
    unfold wideG
    omega)
   clear hk1 hk3 e
   go_enter Try.func29, Try.ntmps29
   go_wp2_with (first
    | ((with_reducible refine gate_dst (N := 3) rfl ?_); refine box_event ?hg (N := 3) ?hd (cs := #[.int .i64 (n : Int)]) (t := 3) ?hr ?_; (case hd => rfl); (case hg => rfl); (case hr => first | (go_simp; done) | (go_simp; rfl)); intro pk hq1 w1 hbox hb; have HB1 := Aside0.mk hb; have hpk : w1.cell? ⟨pk, 0, none⟩ = some (.int .i64 (n : Int)) := box_cell hbox; clear hb hbox hq1)
    | (go_at_call 69; refine (remade_calls 70 Try.f70 Try.func70 (by kernel_rfl) rfl #[.pointer (some ⟨pk, 0, none⟩)] (wideH n) HG.out A0 c0 l0 _ (Kd.C_below HR.out HB1.out) HC.out HP.out (wide_fn _ pk n HN.out.1 HN.out.2 hpk)).mono ?_; rintro e w9 ⟨v9, rfl, hr9, hb9⟩; have HR9 := Aside0.mk (Kd.R_lower hr9 HB1.out.size); have HB9 := Aside0.mk (below_step HB1.out hb9); clear hr9 hb9))
   go_ret2
   rw [HE.out]
   exact ⟨v9, rfl, HR9.out, HB9.out⟩
end Go.Proofs.Ytjaolkfjpnpglaa.Hd
namespace Go.Proofs.Ytjaolkfjpnpglaa.Hd
open Go.RowKit Go.Proofs.YtjaolkfjpnpglaaW.PrintWords Go.Proofs.YtjaolkfjpnpglaaW.PrintLast Go.Proofs.YtjaolkfjpnpglaaW.PrintMore Go.Proofs.Ytjaolkfjpnpglaa.PB
set_option linter.unusedVariables false
set_option linter.unusedSimpArgs false
def Evs {α : Type} (g : Nat → Option α) (r : α) : Prop := ∃ K, ∀ k, K ≤ k → g k = some r
section
variable {α β : Type} {g h : Nat → Option α} {r : α}
theorem Evs.const (r : α) : Evs (fun _ => some r) r := ⟨0, fun _ _ => rfl⟩
theorem Evs.step (e : ∀ k, g (k + 1) = h k) (hh : Evs h r) : Evs g r := by
 obtain ⟨K, hK⟩ := hh
 refine ⟨K + 1, fun k hk => ?_⟩
 obtain ⟨j, rfl⟩ : ∃ j, k = j + 1 := ⟨k - 1, by omega⟩
 rw [e]
 exact hK j (by omega)
theorem Evs.congr (e : ∀ k, g k = h k) (hh : Evs h r) : Evs g r := by
 obtain ⟨K, hK⟩ := hh
 exact ⟨K, fun k hk => by rw [e]; exact hK k hk⟩
theorem Evs.bind {g : Nat → Option β} {F : Nat → β → Option α} {b : β} (hg : Evs g b) (hF : Evs (fun k => F k b) r) : Evs (fun k => (g k).bind (F k)) r := by
 obtain ⟨K, hK⟩ := hg
 obtain ⟨L, hL⟩ := hF
 refine ⟨K + L, fun k hk => ?_⟩
 show (g k).bind (F k) = some r
 rw [hK k (by omega)]
 exact hL k (by omega)
theorem Evs.bindS {x : Option β} {F : Nat → β → Option α} {b : β} (hg : x = some b) (hF : Evs (fun k => F k b) r) : Evs (fun k => x.bind (F k)) r := by
 subst hg
 exact hF
end
theorem rdOf_at {p : List ByteArray} {i : Nat} {s : ByteArray} (h : p[i]? = some s) : rdOf ByteArray.empty p (i : Int) = s := by
 unfold rdOf; rw [Int.toNat_natCast, List.getD_eq_getElem?_getD, h]; rfl
theorem bt_get {s : ByteArray} {j : Nat} {x : Int} (h : (bytesOf s)[j]? = some x) : bt s (j : Int) = x := by
 rw [← bytesOf_get, List.getD_eq_getElem?_getD, h]; rfl
theorem l6In_f (a b c : Int) : spec_l6In.f a b c = some (decide (b ≤ a) && decide (a ≤ c)) := by
 unfold spec_l6In.f
 by_cases h : b ≤ a
 ·rw [if_pos h]; simp [h]
 ·rw [if_neg h]; simp [h]
theorem wrap_succ {i : Nat} (h : i ≤ 1048576) : wrap64 ((i : Int) + 1) = ((i + 1 : Nat) : Int) := by rw [wrap64_small (by omega) (by omega)]; omega
def gridOk (p : List ByteArray) : Bool := shapeOk (numsOf p) && p.all okText
def rowOk (n : Nat) (s : ByteArray) : Bool := decide (s.size = n) && (decide (1 ≤ s.size) && decide (s.size ≤ 6)) && okText s
theorem grid_l1 (p : List ByteArray) (i : Nat) (s : ByteArray) (hi : p[i]? = some s) (hs : s.size ≤ 1048576) (r : Bool) (hb : i ≤ 1048576) (hnext : okText s = true → Evs (fun k => spec_l1Grid.l0 k p ((i + 1 : Nat) : Int)) r) (hbad : okText s = false → r = false) :
  ∀ m j, j + m = s.size → ((bytesOf s).take j).all okLetter = true → Evs (fun k => spec_l1Grid.l1 k p (i : Int) (j : Int)) r := by
 have hil := (List.getElem?_eq_some_iff.1 hi).1
 have hlen := bytesOf_length s
 intro m
 induction m with
 | zero =>
  intro j hj hall
  have hok : okText s = true := by
   unfold okText
   rw [show j = (bytesOf s).length by omega, List.take_length] at hall
   exact hall
  refine Evs.step (h := fun k => spec_l1Grid.l0 k p ((i + 1 : Nat) : Int)) (fun k => ?_) (hnext hok)
  unfold spec_l1Grid.l1
  rw [if_pos (by omega), if_pos (by omega), rdOf_at hi, if_neg (by omega), wrap_succ hb]
 | succ m ih =>
  intro j hj hall
  obtain ⟨x, hx⟩ : ∃ x, (bytesOf s)[j]? = some x := ⟨_, List.getElem?_eq_getElem (by omega)⟩
  have htake : (bytesOf s).take (j + 1) = (bytesOf s).take j ++ [x] := by rw [List.take_add_one, hx]; rfl
  by_cases hlo : x < 97
  ·have hno : okText s = false := by
    unfold okText
    rw [List.all_eq_false]
    exact ⟨x, List.mem_of_getElem? hx, by simp [okLetter, hlo]⟩
   rw [hbad hno]
   refine Evs.step (h := fun _ => some false) (fun k => ?_) (Evs.const _)
   unfold spec_l1Grid.l1
   rw [if_pos (by omega), if_pos (by omega), rdOf_at hi, if_pos (by omega), if_pos (by omega), bt_get hx, if_pos hlo]
  ·by_cases hhi : 122 < x
   ·have hno : okText s = false := by
     unfold okText
     rw [List.all_eq_false]
     exact ⟨x, List.mem_of_getElem? hx, by simp [okLetter, hhi]⟩
    rw [hbad hno]
    refine Evs.step (h := fun _ => some false) (fun k => ?_) (Evs.const _)
    unfold spec_l1Grid.l1
    rw [if_pos (by omega), if_pos (by omega), rdOf_at hi, if_pos (by omega), if_pos (by omega), bt_get hx, if_neg hlo, if_pos hhi]
   ·refine Evs.step (h := fun k => spec_l1Grid.l1 k p (i : Int) ((j + 1 : Nat) : Int)) (fun k => ?_) (ih (j + 1) (by omega) (by rw [htake, List.all_append, hall]; simp [okLetter, hlo, hhi]))
    conv => lhs; unfold spec_l1Grid.l1
    rw [if_pos (by omega), if_pos (by omega), rdOf_at hi, if_pos (by omega), if_pos (by omega), bt_get hx, if_neg hlo, if_neg (by omega), wrap_succ (by omega)]
theorem grid_l0 (p : List ByteArray) (hp : smallP p) : ∀ m i, i + m = p.length → Evs (fun k => spec_l1Grid.l0 k p (i : Int)) ((p.drop i).all (rowOk (p.getD 0 ByteArray.empty).size) && (decide (1 ≤ p.length) && decide (p.length ≤ 6))) := by
 have hpl := hp.1
 intro m
 induction m with
 | zero =>
  intro i hi
  refine Evs.step (h := fun _ => some ((p.drop i).all (rowOk (p.getD 0 ByteArray.empty).size) && (decide (1 ≤ p.length) && decide (p.length ≤ 6)))) (fun k => ?_) (Evs.const _)
  unfold spec_l1Grid.l0
  rw [if_neg (by omega), l6In_f, List.drop_eq_nil_of_le (by omega)]
  simp only [Option.bind_some, List.all_nil, Bool.true_and]
  congr 2
  ·congr 1; exact propext ⟨fun h => by omega, fun h => by omega⟩
  ·congr 1; exact propext ⟨fun h => by omega, fun h => by omega⟩
 | succ m ih =>
  intro i hi
  obtain ⟨s, hs⟩ : ∃ s, p[i]? = some s := ⟨_, List.getElem?_eq_getElem (by omega)⟩
  have hsz := hp.2 s (List.mem_of_getElem? hs)
  have hdrop : p.drop i = s :: p.drop (i + 1) := by
   rw [List.drop_eq_getElem_cons (by omega)]
   congr 1
   rw [List.getElem?_eq_getElem (by omega)] at hs
   exact Option.some.inj hs
  have h0 : rdOf ByteArray.empty p 0 = p.getD 0 ByteArray.empty := rfl
  rw [hdrop, List.all_cons]
  generalize hn : (p.getD 0 ByteArray.empty).size = n at *
  by_cases heq : s.size = n
  ·by_cases h16 : 1 ≤ s.size ∧ s.size ≤ 6
   ·have hr : rowOk n s = okText s := by simp [rowOk, heq, h16.1, h16.2]; omega
    rw [hr]
    refine Evs.step (h := fun k => spec_l1Grid.j1 k p (i : Int) false) (fun k => ?_) ?_
    ·unfold spec_l1Grid.l0
     rw [if_pos (by omega), if_pos (by omega), if_pos (by omega), rdOf_at hs, h0, hn, if_pos (by omega), l6In_f]
     simp only [Option.bind_some]
     rw [decide_eq_true (by omega : (1 : Int) ≤ s.size), decide_eq_true (by omega : (s.size : Int) ≤ 6)]
     rfl
    ·refine Evs.step (h := fun k => spec_l1Grid.l1 k p (i : Int) ((0 : Nat) : Int)) (fun k => ?_) (grid_l1 p i s hs hsz _ (by omega) (fun hok => ?_) (fun hno => ?_) s.size 0 (by omega) (by simp))
     ·unfold spec_l1Grid.j1
      rw [if_neg (by simp)]
      rfl
     ·rw [hok, Bool.true_and]
      exact ih (i + 1) (by omega)
     ·rw [hno, Bool.false_and, Bool.false_and]
   ·have hr : rowOk n s = false := by
     unfold rowOk
     by_cases h1 : 1 ≤ s.size
     ·have : ¬ s.size ≤ 6 := fun h => h16 ⟨h1, h⟩
      simp [this]
     ·simp [h1]
    rw [hr, Bool.false_and, Bool.false_and]
    refine Evs.step (h := fun k => spec_l1Grid.j1 k p (i : Int) true) (fun k => ?_) (Evs.step (h := fun _ => some false) (fun k => ?_) (Evs.const _))
    ·unfold spec_l1Grid.l0
     rw [if_pos (by omega), if_pos (by omega), if_pos (by omega), rdOf_at hs, h0, hn, if_pos (by omega), l6In_f]
     simp only [Option.bind_some]
     congr 1
     by_cases h1 : 1 ≤ s.size
     ·have : ¬ (s.size : Int) ≤ 6 := by omega
      simp [this]
     ·have : ¬ (1 : Int) ≤ s.size := by omega
      simp [this]
    ·unfold spec_l1Grid.j1
     rw [if_pos rfl]
  ·have hr : rowOk n s = false := by simp [rowOk, heq]
   rw [hr, Bool.false_and, Bool.false_and]
   refine Evs.step (h := fun k => spec_l1Grid.j1 k p (i : Int) true) (fun k => ?_) (Evs.step (h := fun _ => some false) (fun k => ?_) (Evs.const _))
   ·unfold spec_l1Grid.l0
    rw [if_pos (by omega), if_pos (by omega), if_pos (by omega), rdOf_at hs, h0, hn, if_neg (by omega)]
   ·unfold spec_l1Grid.j1
    rw [if_pos rfl]
theorem wideOf_numsOf (p : List ByteArray) : wideOf (numsOf p) = (p.getD 0 ByteArray.empty).size := by
 unfold wideOf numsOf
 cases p with
 | nil => rfl
 | cons a r => simp [bytesOf_length]
theorem gridOk_eq (p : List ByteArray) : ((p.drop 0).all (rowOk (p.getD 0 ByteArray.empty).size) && (decide (1 ≤ p.length) && decide (p.length ≤ 6))) = gridOk p := by
 rw [Bool.eq_iff_iff]
 unfold gridOk
 rw [List.drop_zero, Bool.and_eq_true, Bool.and_eq_true, Bool.and_eq_true, shapeOk_iff, wideOf_numsOf, List.all_eq_true, List.all_eq_true]
 have hl : (numsOf p).length = p.length := by simp [numsOf]
 rw [hl]
 simp only [decide_eq_true_eq]
 constructor
 ·rintro ⟨h1, h2, h3⟩
  have h0 := h1 (p.getD 0 ByteArray.empty) (by rw [List.getD_eq_getElem?_getD, List.getElem?_eq_getElem (by omega)]; exact List.getElem_mem _)
  simp only [rowOk, Bool.and_eq_true, decide_eq_true_eq] at h0
  refine ⟨⟨h2, h3, h0.1.2.1, h0.1.2.2, fun r hr => ?_⟩, fun s hs => ?_⟩
  ·unfold numsOf at hr
   simp at hr
   obtain ⟨s, hs, rfl⟩ := hr
   have := h1 s hs
   simp only [rowOk, Bool.and_eq_true, decide_eq_true_eq] at this
   rw [bytesOf_length]
   exact this.1.1
  ·have := h1 s hs
   simp only [rowOk, Bool.and_eq_true, decide_eq_true_eq] at this
   exact this.2
 ·rintro ⟨⟨h2, h3, h4, h5, h6⟩, h7⟩
  refine ⟨fun s hs => ?_, h2, h3⟩
  have := h6 (bytesOf s) (by unfold numsOf; simp; exact ⟨s, hs, rfl⟩)
  rw [bytesOf_length] at this
  simp only [rowOk, Bool.and_eq_true, decide_eq_true_eq]
  exact ⟨⟨this, by omega, by omega⟩, h7 s hs⟩
theorem l1Grid_ev (p : List ByteArray) (hp : smallP p) : Evs (fun k => spec_l1Grid.f k p) (gridOk p) := by
 rw [← gridOk_eq]
 exact grid_l0 p hp p.length 0 (by omega)
end Go.Proofs.Ytjaolkfjpnpglaa.Hd
namespace Go.Proofs.Ytjaolkfjpnpglaa.Hd
open Go.RowKit Go.Proofs.YtjaolkfjpnpglaaW.PrintWords Go.Proofs.YtjaolkfjpnpglaaW.PrintLast Go.Proofs.YtjaolkfjpnpglaaW.PrintMore Go.Proofs.Ytjaolkfjpnpglaa.PB
set_option linter.unusedVariables false
set_option linter.unusedSimpArgs false
def pushL (o : List Int) (v : Int) : List Int := if v ∈ o then o else o ++ [v]
def ordL (xs : List Int) (o : List Int) : List Int := xs.foldl pushL o
theorem pushL_prefix (o : List Int) (v : Int) : o <+: pushL o v := by
 unfold pushL
 split
 ·exact List.prefix_refl _
 ·exact List.prefix_append _ _
theorem pushL_mem (o : List Int) (v : Int) : v ∈ pushL o v := by
 unfold pushL
 split
 ·assumption
 ·simp
theorem ordL_prefix (xs : List Int) : ∀ o, o <+: ordL xs o := by
 induction xs with
 | nil => exact fun o => List.prefix_refl _
 | cons x r ih => exact fun o => (pushL_prefix o x).trans (ih _)
theorem ordL_append (xs ys : List Int) (o : List Int) : ordL (xs ++ ys) o = ordL ys (ordL xs o) := by simp [ordL, List.foldl_append]
theorem ordL_mem (xs : List Int) : ∀ o, ∀ x ∈ xs, x ∈ ordL xs o := by
 induction xs with
 | nil => intro o x hx; cases hx
 | cons y r ih =>
  intro o x hx
  rcases List.mem_cons.1 hx with rfl | hx
  ·exact (ordL_prefix r (pushL o x)).subset (pushL_mem o x)
  ·exact ih _ x hx
theorem ordL_sub (xs : List Int) : ∀ o, ∀ x ∈ ordL xs o, x ∈ o ∨ x ∈ xs := by
 induction xs with
 | nil => exact fun o x hx => .inl hx
 | cons y r ih =>
  intro o x hx
  rcases ih _ x hx with h | h
  ·unfold pushL at h
   split at h
   ·exact .inl h
   ·rcases List.mem_append.1 h with h | h
    ·exact .inl h
    ·simp at h; subst h; exact .inr List.mem_cons_self
  ·exact .inr (List.mem_cons_of_mem _ h)
theorem ordL_nodup (xs : List Int) : ∀ o, o.Nodup → (ordL xs o).Nodup := by
 induction xs with
 | nil => exact fun o h => h
 | cons y r ih =>
  intro o h
  refine ih _ ?_
  unfold pushL
  split
  ·exact h
  ·rename_i hn
   rw [List.nodup_append]
   exact ⟨h, by simp, fun a ha b hb => by simp at hb; subst hb; exact fun e => hn (e ▸ ha)⟩
theorem ordL_length (xs : List Int) : ∀ o, (ordL xs o).length ≤ o.length + xs.length := by
 induction xs with
 | nil => exact fun o => by simp [ordL]
 | cons y r ih =>
  intro o
  have h1 := ih (pushL o y)
  have h2 : (pushL o y).length ≤ o.length + 1 := by
   unfold pushL
   split
   ·omega
   ·simp
  show (ordL r (pushL o y)).length ≤ _
  simp only [List.length_cons]
  omega
theorem idxOf_prefix {o L : List Int} (h : o <+: L) {x : Int} (hx : x ∈ o) : L.idxOf x = o.idxOf x := by
 obtain ⟨t, rfl⟩ := h
 rw [List.idxOf_append, if_pos hx]
theorem idxOf_push {o L : List Int} {x : Int} (h : pushL o x <+: L) : L.idxOf x = o.idxOf x := by
 rw [idxOf_prefix h (pushL_mem o x)]
 unfold pushL
 split
 ·rfl
 ·rename_i hn
  rw [List.idxOf_append, if_neg hn, List.idxOf_eq_length hn]
  simp
def canonL (L : List Int) (rows : List (List Int)) : List (List Int) := rows.map fun r => r.map fun x => (L.idxOf x : Int)
def ordAll (rows : List (List Int)) : List Int := ordL rows.flatten []
def canon (rows : List (List Int)) : List (List Int) := canonL (ordAll rows) rows
def namesOf (p : List ByteArray) : List ByteArray := textOf (canon (numsOf p))
def numOf (L : List Int) (x : Int) : Int := 97 + (L.idxOf x : Int)
theorem letter_wrap {a : Nat} (h : a ≤ 100) : (wrap64 (97 + (a : Int))) % 256 = 97 + (a : Int) := by
 rw [wrap64_small (by omega) (by omega)]
 omega
theorem names_l2 (p : List ByteArray) (i j : Nat) (s : ByteArray) (v : Int) (hi : p[i]? = some s) (hv : (bytesOf s)[j]? = some v) (o : List Int) (x4 : List ByteArray) (x6 : List Int) (ho : o.length ≤ 100) (h6 : x6.length ≤ 1048576) (hj : j ≤ 1048576) (r : List ByteArray)
  (hnext : Evs (fun k => spec_l1Names.l1 k p (pushL o v) x4 (i : Int) (x6 ++ [97 + (o.idxOf v : Int)]) ((j + 1 : Nat) : Int)) r) :
  ∀ m a, a + m = o.length → v ∉ o.take a → Evs (fun k => spec_l1Names.l2 k p o x4 (i : Int) x6 (j : Int) (a : Int)) r := by
 have hil := (List.getElem?_eq_some_iff.1 hi).1
 have hjl := (List.getElem?_eq_some_iff.1 hv).1
 rw [bytesOf_length] at hjl
 intro m
 induction m with
 | zero =>
  intro a ha hno
  rw [List.take_of_length_le (by omega)] at hno
  have hidx := List.idxOf_eq_length hno
  have hpush : pushL o v = o ++ [v] := by unfold pushL; rw [if_neg hno]
  rw [hpush, hidx] at hnext
  refine Evs.step (h := fun k => spec_l1Names.l1 k p (o ++ [v]) x4 (i : Int) (x6 ++ [97 + (o.length : Int)]) ((j + 1 : Nat) : Int)) (fun k => ?_) hnext
  conv => lhs; unfold spec_l1Names.l2
  rw [if_neg (by omega), if_pos (by omega), if_pos (by omega), if_pos (by omega), if_pos (by omega), rdOf_at hi, if_pos (by omega), if_pos (by omega), if_pos (by omega), bt_get hv, letter_wrap (by omega), wrap_succ (by omega), show a = o.length by omega]
 | succ m ih =>
  intro a ha hno
  obtain ⟨x, hx⟩ : ∃ x, o[a]? = some x := ⟨_, List.getElem?_eq_getElem (by omega)⟩
  have hrd : rd o (a : Int) = x := by unfold rd; rw [Int.toNat_natCast, List.getD_eq_getElem?_getD, hx]; rfl
  by_cases he : x = v
  ·subst he
   have hmem : x ∈ o := List.mem_of_getElem? hx
   have hpush : pushL o x = o := by unfold pushL; rw [if_pos hmem]
   have hidx : o.idxOf x = a := by
    have h1 : o = o.take a ++ x :: o.drop (a + 1) := by
     rw [List.getElem?_eq_getElem (by omega)] at hx
     have := Option.some.inj hx
     rw [← this, ← List.drop_eq_getElem_cons, List.take_append_drop]
    rw [h1, List.idxOf_append, if_neg hno, List.idxOf_cons_self]
    simp
    omega
   rw [hpush, hidx] at hnext
   refine Evs.step (h := fun k => spec_l1Names.l1 k p o x4 (i : Int) (x6 ++ [97 + (a : Int)]) ((j + 1 : Nat) : Int)) (fun k => ?_) hnext
   conv => lhs; unfold spec_l1Names.l2
   rw [if_pos (by omega), if_pos (by omega), if_pos (by omega), if_pos (by omega), if_pos (by omega), rdOf_at hi, if_pos (by omega), hrd, bt_get hv, if_pos rfl, if_neg (by omega), if_pos (by omega), letter_wrap (by omega), wrap_succ (by omega)]
  ·refine Evs.step (h := fun k => spec_l1Names.l2 k p o x4 (i : Int) x6 (j : Int) ((a + 1 : Nat) : Int)) (fun k => ?_) (ih (a + 1) (by omega) (by
    rw [List.take_add_one, hx]
    simp only [Option.toList_some, List.mem_append, List.mem_singleton, not_or]
    exact ⟨hno, fun e => he e.symm⟩))
   conv => lhs; unfold spec_l1Names.l2
   rw [if_pos (by omega), if_pos (by omega), if_pos (by omega), if_pos (by omega), if_pos (by omega), rdOf_at hi, if_pos (by omega), hrd, bt_get hv, if_neg he, wrap_succ (by omega)]
theorem names_l1 (p : List ByteArray) (i : Nat) (s : ByteArray) (hi : p[i]? = some s) (hib : i ≤ 1048576) (hs : s.size ≤ 1048576) (L : List Int) (hL : L.length ≤ 100) (x4 : List ByteArray) (h4 : x4.length ≤ 1048576) (r : List ByteArray) :
  ∀ m j o x6, j + m = s.size → x6.length = j → ordL ((bytesOf s).drop j) o <+: L → Evs (fun k => spec_l1Names.l0 k p (ordL ((bytesOf s).drop j) o) (x4 ++ [strOfNums (x6 ++ ((bytesOf s).drop j).map (numOf L))]) ((i + 1 : Nat) : Int)) r →
   Evs (fun k => spec_l1Names.l1 k p o x4 (i : Int) x6 (j : Int)) r := by
 have hil := (List.getElem?_eq_some_iff.1 hi).1
 have hlen := bytesOf_length s
 intro m
 induction m with
 | zero =>
  intro j o x6 hj h6 hpre hnext
  rw [List.drop_eq_nil_of_le (by omega)] at hnext
  simp only [List.map_nil, List.append_nil] at hnext
  refine Evs.step (h := fun k => spec_l1Names.l0 k p o (x4 ++ [strOfNums x6]) ((i + 1 : Nat) : Int)) (fun k => ?_) hnext
  conv => lhs; unfold spec_l1Names.l1
  rw [if_pos (by omega), if_pos (by omega), rdOf_at hi, if_neg (by omega), if_pos (by omega), wrap_succ hib]
 | succ m ih =>
  intro j o x6 hj h6 hpre hnext
  obtain ⟨v, hv⟩ : ∃ v, (bytesOf s)[j]? = some v := ⟨_, List.getElem?_eq_getElem (by omega)⟩
  have hdrop : (bytesOf s).drop j = v :: (bytesOf s).drop (j + 1) := by
   rw [List.drop_eq_getElem_cons (by omega)]
   congr 1
   rw [List.getElem?_eq_getElem (by omega)] at hv
   exact Option.some.inj hv
  rw [hdrop] at hpre hnext
  have hpre2 : ordL ((bytesOf s).drop (j + 1)) (pushL o v) <+: L := hpre
  have hpl := (ordL_prefix ((bytesOf s).drop (j + 1)) (pushL o v)).trans hpre2
  have hol := ((pushL_prefix o v).trans hpl).length_le
  have hidx := idxOf_push hpl
  refine Evs.step (h := fun k => spec_l1Names.l2 k p o x4 (i : Int) x6 (j : Int) ((0 : Nat) : Int)) (fun k => ?_) (names_l2 p i j s v hi hv o x4 x6 (by omega) (by omega) (by omega) r (ih (j + 1) (pushL o v) _ (by omega) (by simp [h6]) hpre2 ?_) o.length 0 (by omega) (by simp))
  ·conv => lhs; unfold spec_l1Names.l1
   rw [if_pos (by omega), if_pos (by omega), rdOf_at hi, if_pos (by omega)]
   rfl
  ·rw [List.append_assoc]
   simp only [List.map_cons] at hnext
   unfold numOf at hnext ⊢
   rw [hidx] at hnext
   exact hnext
theorem names_l0 (p : List ByteArray) (hp : smallP p) (L : List Int) (hL : L.length ≤ 100) : ∀ m i o x4, i + m = p.length → x4.length = i → ordL ((numsOf p).drop i).flatten o = L →
  Evs (fun k => spec_l1Names.l0 k p o x4 (i : Int)) (x4 ++ (p.drop i).map fun s => strOfNums ((bytesOf s).map (numOf L))) := by
 have hpl := hp.1
 intro m
 induction m with
 | zero =>
  intro i o x4 hi h4 ho
  rw [List.drop_eq_nil_of_le (by omega), List.map_nil, List.append_nil]
  refine Evs.step (h := fun _ => some x4) (fun k => ?_) (Evs.const _)
  conv => lhs; unfold spec_l1Names.l0
  rw [if_neg (by omega)]
 | succ m ih =>
  intro i o x4 hi h4 ho
  obtain ⟨s, hs⟩ : ∃ s, p[i]? = some s := ⟨_, List.getElem?_eq_getElem (by omega)⟩
  have hsz := hp.2 s (List.mem_of_getElem? hs)
  have hdrop : p.drop i = s :: p.drop (i + 1) := by
   rw [List.drop_eq_getElem_cons (by omega)]
   congr 1
   rw [List.getElem?_eq_getElem (by omega)] at hs
   exact Option.some.inj hs
  have hdrop2 : (numsOf p).drop i = bytesOf s :: (numsOf p).drop (i + 1) := by
   unfold numsOf
   rw [← List.map_drop, hdrop, List.map_cons, List.map_drop]
  rw [hdrop2, List.flatten_cons, ordL_append] at ho
  have hpre : ordL (bytesOf s) o <+: L := by rw [← ho]; exact ordL_prefix _ _
  rw [hdrop, List.map_cons]
  have hnext := ih (i + 1) (ordL (bytesOf s) o) (x4 ++ [strOfNums ((bytesOf s).map (numOf L))]) (by omega) (by simp [h4]) ho
  rw [List.append_assoc] at hnext
  refine Evs.step (h := fun k => spec_l1Names.l1 k p o x4 (i : Int) [] ((0 : Nat) : Int)) (fun k => ?_) (names_l1 p i s hs (by omega) hsz L hL x4 (by omega) _ s.size 0 o [] (by omega) rfl hpre hnext)
  conv => lhs; unfold spec_l1Names.l0
  rw [if_pos (by omega)]
  rfl
theorem strOfNums_row (L : List Int) (row : List Int) : strOfNums (row.map (numOf L)) = rowText (row.map fun x => (L.idxOf x : Int)) := by
 unfold strOfNums rowText rowBytes
 congr 2
 rw [List.map_map, List.map_map]
 rfl
theorem l1Names_ev (p : List ByteArray) (hp : smallP p) (hL : (ordAll (numsOf p)).length ≤ 100) : Evs (fun k => spec_l1Names.f k p) (namesOf p) := by
 have := names_l0 p hp (ordAll (numsOf p)) hL p.length 0 [] [] (by omega) rfl rfl
 rw [List.nil_append, List.drop_zero] at this
 have e : namesOf p = p.map fun s => strOfNums ((bytesOf s).map (numOf (ordAll (numsOf p)))) := by
  unfold namesOf textOf canon canonL
  generalize ordAll (numsOf p) = L
  unfold numsOf
  rw [List.map_map, List.map_map]
  congr 1
  funext s
  exact (strOfNums_row L (bytesOf s)).symm
 rw [e]
 exact this
theorem flatten_length_le (rows : List (List Int)) (w : Nat) (h : ∀ r ∈ rows, r.length = w) : rows.flatten.length = rows.length * w := by
 induction rows with
 | nil => simp
 | cons a r ih =>
  rw [List.flatten_cons, List.length_append, ih (fun x hx => h x (List.mem_cons_of_mem _ hx)), h a List.mem_cons_self, List.length_cons, Nat.succ_mul]
  omega
theorem shape_order {rows : List (List Int)} (h : shapeOk rows = true) : (ordAll rows).length ≤ 36 := by
 obtain ⟨h1, h2, h3, h4, h5⟩ := (shapeOk_iff _).1 h
 have := ordL_length rows.flatten []
 rw [flatten_length_le rows _ h5] at this
 have h6 := Nat.mul_le_mul h2 h4
 unfold ordAll
 simp at this
 omega
end Go.Proofs.Ytjaolkfjpnpglaa.Hd
namespace Go.Proofs.Ytjaolkfjpnpglaa.Hd
open Go.RowKit Go.Proofs.YtjaolkfjpnpglaaW.PrintWords Go.Proofs.YtjaolkfjpnpglaaW.PrintLast Go.Proofs.YtjaolkfjpnpglaaW.PrintMore Go.Proofs.Ytjaolkfjpnpglaa.PB
set_option linter.unusedVariables false
set_option linter.unusedSimpArgs false
theorem nodup_inj {l : List Int} (h : l.Nodup) {i j : Nat} (hi : i < l.length) (hj : j < l.length) (e : l[i] = l[j]) : i = j := by
 have hp := List.pairwise_iff_getElem.1 h
 rcases Nat.lt_trichotomy i j with h1 | h1 | h1
 ·exact absurd e (hp i j hi hj h1)
 ·exact h1
 ·exact absurd e.symm (hp j i hj hi h1)
def Rect (wi : Nat) (rows : List (List Int)) : Prop := ∀ r ∈ rows, r.length = wi
theorem valAt_get {rows : List (List Int)} {wi r c : Nat} (h : Rect wi rows) (hr : r < rows.length) (hc : c < wi) : ∃ row, rows[r]? = some row ∧ row[c]? = some (valAt rows r c) := by
 refine ⟨rows[r], List.getElem?_eq_getElem hr, ?_⟩
 have hw := h _ (List.getElem_mem hr)
 unfold valAt
 rw [List.getD_eq_getElem?_getD, List.getD_eq_getElem?_getD, List.getElem?_eq_getElem hr]
 simp only [Option.getD_some]
 rw [List.getElem?_eq_getElem (by omega)]
 rfl
theorem gridOf_get {hi wi : Nat} {g : Nat → Nat → Int} {r : Nat} (hr : r < hi) : (gridOf hi wi g)[r]? = some ((List.range wi).map (g r)) := by
 unfold gridOf
 rw [List.getElem?_map, List.getElem?_range hr]
 rfl
theorem valAt_gridOf {hi wi : Nat} {g : Nat → Nat → Int} {r c : Nat} (hr : r < hi) (hc : c < wi) : valAt (gridOf hi wi g) r c = g r c := by
 unfold valAt
 rw [List.getD_eq_getElem?_getD, List.getD_eq_getElem?_getD, gridOf_get hr]
 simp only [Option.getD_some]
 rw [List.getElem?_map, List.getElem?_range hc]
 rfl
theorem gridOf_rect (hi wi : Nat) (g : Nat → Nat → Int) : Rect wi (gridOf hi wi g) := fun r hr => gridOf_row r hr
theorem gridOf_congr {hi wi : Nat} {g g' : Nat → Nat → Int} (h : ∀ r c, r < hi → c < wi → g r c = g' r c) : gridOf hi wi g = gridOf hi wi g' := by
 unfold gridOf
 apply List.map_congr_left
 intro r hr
 apply List.map_congr_left
 intro c hc
 exact h r c (List.mem_range.1 hr) (List.mem_range.1 hc)
theorem rect_map {rows : List (List Int)} {wi : Nat} (h : Rect wi rows) (f : Int → Int) : rows.map (fun r => r.map f) = gridOf rows.length wi (fun r c => f (valAt rows r c)) := by
 apply List.ext_getElem?
 intro r
 by_cases hr : r < rows.length
 ·rw [gridOf_get hr, List.getElem?_map, List.getElem?_eq_getElem hr]
  simp only [Option.map_some]
  congr 1
  have hw := h _ (List.getElem_mem hr)
  apply List.ext_getElem?
  intro c
  rw [List.getElem?_map, List.getElem?_map]
  by_cases hc : c < wi
  ·obtain ⟨row, h1, h2⟩ := valAt_get h hr hc
   rw [List.getElem?_eq_getElem hr] at h1
   injection h1 with h1
   rw [h1, h2, List.getElem?_range hc]
   rfl
  ·rw [List.getElem?_eq_none (by omega), List.getElem?_eq_none (by simp; omega)]
   rfl
 ·rw [List.getElem?_eq_none (by simp; omega), List.getElem?_eq_none (by rw [gridOf_length]; omega)]
theorem rect_eq {rows : List (List Int)} {wi : Nat} (h : Rect wi rows) : rows = gridOf rows.length wi (valAt rows) := by
 have := rect_map h id
 simpa using this
theorem flatten_get {wi : Nat} : ∀ (rows : List (List Int)), Rect wi rows → ∀ n, n < rows.length * wi → rows.flatten[n]? = some (valAt rows (n / wi) (n % wi))
 | [], _, n, h => by simp at h
 | a :: r, hR, n, h => by
  have hwi : 0 < wi := by
   rcases Nat.eq_zero_or_pos wi with h0 | h0
   ·subst h0; simp at h
   ·exact h0
  have ha := hR a List.mem_cons_self
  rw [List.flatten_cons]
  by_cases hn : n < wi
  ·rw [List.getElem?_append_left (by omega), Nat.div_eq_of_lt hn, Nat.mod_eq_of_lt hn]
   unfold valAt
   simp only [List.getD_cons_zero]
   rw [List.getD_eq_getElem?_getD, List.getElem?_eq_getElem (by omega)]
   rfl
  ·rw [List.getElem?_append_right (by omega), ha, flatten_get r (fun x hx => hR x (List.mem_cons_of_mem _ hx)) (n - wi) (by
    rw [List.length_cons, Nat.succ_mul] at h
    omega)]
   congr 1
   obtain ⟨m, rfl⟩ : ∃ m, n = m + wi := ⟨n - wi, by omega⟩
   rw [Nat.add_sub_cancel, Nat.add_div_right _ hwi, Nat.add_mod_right]
   unfold valAt
   simp only [List.getD_cons_succ]
theorem stAt_ord {rows : List (List Int)} {wi : Nat} (h : Rect wi rows) : ∀ n, n ≤ rows.length * wi → (stAt rows wi n).1 = ordL (rows.flatten.take n) []
 | 0, _ => by simp [stAt, ordL]
 | n + 1, hn => by
  rw [List.take_add_one, flatten_get rows h n (by omega)]
  simp only [Option.toList_some]
  rw [ordL_append, ← stAt_ord h n (by omega)]
  show (stepS (stAt rows wi n) (n / wi) (n % wi) (valAt rows (n / wi) (n % wi))).1 = pushL (stAt rows wi n).1 (valAt rows (n / wi) (n % wi))
  unfold stepS pushL
  split <;> rfl
theorem stAt_all {rows : List (List Int)} {wi : Nat} (h : Rect wi rows) : (stAt rows wi (rows.length * wi)).1 = ordAll rows := by
 rw [stAt_ord h _ (Nat.le_refl _), List.take_of_length_le (by rw [flatten_length_le rows wi h]; exact Nat.le_refl _)]
 rfl
theorem numAt_idx {rows : List (List Int)} {wi r c : Nat} (h : Rect wi rows) (hr : r < rows.length) (hc : c < wi) : numAt rows wi r c = ((ordAll rows).idxOf (valAt rows r c) : Int) := by
 unfold numAt
 have hle : r * wi + c + 1 ≤ rows.length * wi := by
  have : (r + 1) * wi ≤ rows.length * wi := Nat.mul_le_mul_right _ hr
  rw [Nat.succ_mul] at this
  omega
 have hp := stAt_prefix rows wi (r * wi + c + 1) (rows.length * wi - (r * wi + c + 1))
 rw [show r * wi + c + 1 + (rows.length * wi - (r * wi + c + 1)) = rows.length * wi by omega, stAt_all h] at hp
 rw [idxOf_prefix hp (stAt_mem rows wi r c hc)]
theorem shape_rect {rows : List (List Int)} (h : shapeOk rows = true) : Rect (wideOf rows) rows := ((shapeOk_iff _).1 h).2.2.2.2
theorem canon_grid {rows : List (List Int)} {wi : Nat} (h : Rect wi rows) : canon rows = gridOf rows.length wi (fun r c => ((ordAll rows).idxOf (valAt rows r c) : Int)) := rect_map h _
theorem cellsOf_canon {rows : List (List Int)} (h : shapeOk rows = true) : cellsOf rows = canon rows := by
 rw [canon_grid (shape_rect h)]
 exact gridOf_congr fun r c hr hc => numAt_idx (shape_rect h) hr hc
structure BoxN (rows : List (List Int)) (wi n : Nat) (x : Int) (b : Rc) : Prop where
 ins : ∀ m, m < n → valAt rows (m / wi) (m % wi) = x → b.f0 ≤ (m / wi : Nat) ∧ ((m / wi : Nat) : Int) < b.f0 + b.f2 ∧ b.f1 ≤ (m % wi : Nat) ∧ ((m % wi : Nat) : Int) < b.f1 + b.f3
 top : ∃ m, m < n ∧ valAt rows (m / wi) (m % wi) = x ∧ ((m / wi : Nat) : Int) = b.f0
 low : ∃ m, m < n ∧ valAt rows (m / wi) (m % wi) = x ∧ ((m / wi : Nat) : Int) + 1 = b.f0 + b.f2
 left : ∃ m, m < n ∧ valAt rows (m / wi) (m % wi) = x ∧ ((m % wi : Nat) : Int) = b.f1
 right : ∃ m, m < n ∧ valAt rows (m / wi) (m % wi) = x ∧ ((m % wi : Nat) : Int) + 1 = b.f1 + b.f3
theorem BoxN.keep {rows : List (List Int)} {wi n : Nat} {x : Int} {b : Rc} (h : BoxN rows wi n x b) (hx : valAt rows (n / wi) (n % wi) ≠ x) : BoxN rows wi (n + 1) x b := by
 refine ⟨fun m hm hv => ?_, ?_, ?_, ?_, ?_⟩
 ·rcases Nat.lt_or_eq_of_le (Nat.lt_succ_iff.1 hm) with h1 | h1
  ·exact h.ins m h1 hv
  ·subst h1; exact absurd hv hx
 ·obtain ⟨m, h1, h2⟩ := h.top; exact ⟨m, by omega, h2⟩
 ·obtain ⟨m, h1, h2⟩ := h.low; exact ⟨m, by omega, h2⟩
 ·obtain ⟨m, h1, h2⟩ := h.left; exact ⟨m, by omega, h2⟩
 ·obtain ⟨m, h1, h2⟩ := h.right; exact ⟨m, by omega, h2⟩
theorem BoxN.both {rows : List (List Int)} {wi n : Nat} {x : Int} {b : Rc} (h : BoxN rows wi n x b) (hx : valAt rows (n / wi) (n % wi) = x) : BoxN rows wi (n + 1) x (bothR b (oneR (n / wi) (n % wi))) := by
 refine ⟨fun m hm hv => ?_, ?_, ?_, ?_, ?_⟩
 ·simp only [bothR, oneR]
  rcases Nat.lt_or_eq_of_le (Nat.lt_succ_iff.1 hm) with h1 | h1
  ·have := h.ins m h1 hv
   omega
  ·subst h1; omega
 ·obtain ⟨m, h1, h2, h3⟩ := h.top
  simp only [bothR, oneR]
  by_cases hc : b.f0 ≤ ((n / wi : Nat) : Int)
  ·exact ⟨m, by omega, h2, by omega⟩
  ·exact ⟨n, by omega, hx, by omega⟩
 ·obtain ⟨m, h1, h2, h3⟩ := h.low
  simp only [bothR, oneR]
  by_cases hc : ((n / wi : Nat) : Int) + 1 ≤ b.f0 + b.f2
  ·exact ⟨m, by omega, h2, by omega⟩
  ·exact ⟨n, by omega, hx, by omega⟩
 ·obtain ⟨m, h1, h2, h3⟩ := h.left
  simp only [bothR, oneR]
  by_cases hc : b.f1 ≤ ((n % wi : Nat) : Int)
  ·exact ⟨m, by omega, h2, by omega⟩
  ·exact ⟨n, by omega, hx, by omega⟩
 ·obtain ⟨m, h1, h2, h3⟩ := h.right
  simp only [bothR, oneR]
  by_cases hc : ((n % wi : Nat) : Int) + 1 ≤ b.f1 + b.f3
  ·exact ⟨m, by omega, h2, by omega⟩
  ·exact ⟨n, by omega, hx, by omega⟩
theorem BoxN.fresh {rows : List (List Int)} {wi n : Nat} {x : Int} (h : ∀ m, m < n → valAt rows (m / wi) (m % wi) ≠ x) (hx : valAt rows (n / wi) (n % wi) = x) : BoxN rows wi (n + 1) x (bothR (oneR (n / wi) (n % wi)) (oneR (n / wi) (n % wi))) := by
 refine ⟨fun m hm hv => ?_, ⟨n, by omega, hx, ?_⟩, ⟨n, by omega, hx, ?_⟩, ⟨n, by omega, hx, ?_⟩, ⟨n, by omega, hx, ?_⟩⟩
 ·simp only [bothR, oneR]
  rcases Nat.lt_or_eq_of_le (Nat.lt_succ_iff.1 hm) with h1 | h1
  ·exact absurd hv (h m h1)
  ·subst h1; omega
 all_goals
  simp only [bothR, oneR]
  omega
theorem stAt_seen (rows : List (List Int)) (wi : Nat) : ∀ n m, m < n → valAt rows (m / wi) (m % wi) ∈ (stAt rows wi n).1
 | 0, m, h => by omega
 | n + 1, m, h => by
  rcases Nat.lt_or_eq_of_le (Nat.lt_succ_iff.1 h) with h1 | h1
  ·exact (stepS_prefix (stAt rows wi n) (n / wi) (n % wi) _).subset (stAt_seen rows wi n m h1)
  ·subst h1
   exact stepS_mem (stAt rows wi m) _ _ _
theorem stAt_len (rows : List (List Int)) (wi : Nat) : ∀ n, (stAt rows wi n).1.length = (stAt rows wi n).2.length ∧ (stAt rows wi n).1.Nodup
 | 0 => by simp [stAt]
 | n + 1 => by
  obtain ⟨h1, h2⟩ := stAt_len rows wi n
  simp only [stAt, stepS]
  split
  ·exact ⟨by simpa using h1, h2⟩
  ·rename_i hx
   refine ⟨by simp [h1], ?_⟩
   rw [List.nodup_append]
   exact ⟨h2, by simp, fun a ha b hb => by simp at hb; subst hb; exact fun e => hx (e ▸ ha)⟩
theorem stAt_box (rows : List (List Int)) (wi : Nat) : ∀ (n i : Nat) (x : Int) (b : Rc), (stAt rows wi n).1[i]? = some x → (stAt rows wi n).2[i]? = some b → BoxN rows wi n x b
 | 0, i, x, b, h, _ => by simp [stAt] at h
 | n + 1, i, x, b, h1, h2 => by
  obtain ⟨hlen, hnd⟩ := stAt_len rows wi n
  simp only [stAt] at h1 h2
  generalize hv : valAt rows (n / wi) (n % wi) = v at h1 h2
  by_cases hmem : v ∈ (stAt rows wi n).1
  ·rw [stepS, if_pos hmem] at h1 h2
   simp only at h1 h2
   have hk := List.idxOf_lt_length_of_mem hmem
   by_cases hik : (stAt rows wi n).1.idxOf v = i
   ·have hxv : x = v := by
     rw [← hik, List.getElem?_eq_getElem hk, List.getElem_idxOf] at h1
     exact (Option.some.inj h1).symm
    subst hxv
    rw [hik, List.getElem?_set_self (by omega)] at h2
    have h2' := Option.some.inj h2
    rw [← h2']
    refine BoxN.both ?_ hv
    refine stAt_box rows wi n i x _ h1 ?_
    rw [List.getD_eq_getElem?_getD, List.getElem?_eq_getElem (by omega)]
    rfl
   ·rw [List.getElem?_set_ne (fun e => hik e)] at h2
    refine (stAt_box rows wi n i x b h1 h2).keep ?_
    rw [hv]
    rintro rfl
    refine hik ?_
    have hil := (List.getElem?_eq_some_iff.1 h1).1
    have e1 : (stAt rows wi n).1[i] = v := by
     rw [List.getElem?_eq_getElem hil] at h1
     exact Option.some.inj h1
    have e2 : (stAt rows wi n).1[(stAt rows wi n).1.idxOf v] = v := List.getElem_idxOf hk
    exact nodup_inj hnd hk hil (e2.trans e1.symm)
  ·rw [stepS, if_neg hmem] at h1 h2
   simp only at h1 h2
   by_cases hi : i < (stAt rows wi n).1.length
   ·rw [List.getElem?_append_left hi] at h1
    rw [List.getElem?_append_left (by omega)] at h2
    refine (stAt_box rows wi n i x b h1 h2).keep ?_
    rw [hv]
    rintro rfl
    exact hmem (List.mem_of_getElem? h1)
   ·have hil := (List.getElem?_eq_some_iff.1 h1).1
    simp at hil
    obtain rfl : i = (stAt rows wi n).1.length := by omega
    rw [List.getElem?_concat_length] at h1
    rw [hlen, List.getElem?_concat_length] at h2
    have e1 := Option.some.inj h1
    have e2 := Option.some.inj h2
    subst e1 e2
    exact BoxN.fresh (fun m hm e => hmem (by rw [← e]; exact stAt_seen rows wi n m hm)) hv
end Go.Proofs.Ytjaolkfjpnpglaa.Hd
namespace Go.Proofs.Ytjaolkfjpnpglaa.Hd
open Go.RowKit Go.Proofs.YtjaolkfjpnpglaaW.PrintWords Go.Proofs.YtjaolkfjpnpglaaW.PrintLast Go.Proofs.YtjaolkfjpnpglaaW.PrintMore Go.Proofs.Ytjaolkfjpnpglaa.PB
set_option linter.unusedVariables false
set_option linter.unusedSimpArgs false
def cellN (rows : List (List Int)) (wi m : Nat) : Int := valAt rows (m / wi) (m % wi) - 97
def countN (rows : List (List Int)) (wi : Nat) (x : Int) : Nat → Int
 | 0 => 0
 | n + 1 => if cellN rows wi n = x then countN rows wi x n + 1 else countN rows wi x n
def maxN (rows : List (List Int)) (wi : Nat) : Nat → Int
 | 0 => 0
 | n + 1 => max (maxN rows wi n) (cellN rows wi n + 1)
def roomN (rows : List (List Int)) (wi : Nat) (x : Int) (t l : Int) : Nat → Int × Int × Int × Int
 | 0 => (t, l, -1, -1)
 | n + 1 => if cellN rows wi n = x then (min (roomN rows wi x t l n).1 (n / wi : Nat), min (roomN rows wi x t l n).2.1 (n % wi : Nat), max (roomN rows wi x t l n).2.2.1 (n / wi : Nat), max (roomN rows wi x t l n).2.2.2 (n % wi : Nat)) else roomN rows wi x t l n
structure Small (p : List ByteArray) (wi : Nat) : Prop where
 high : p.length ≤ 6
 wide : wi ≤ 6
 row : ∀ s ∈ p, s.size = wi
theorem gridOk_small {p : List ByteArray} (h : gridOk p = true) : Small p (wideOf (numsOf p)) := by
 unfold gridOk at h
 rw [Bool.and_eq_true] at h
 obtain ⟨h1, h2, h3, h4, h5⟩ := (shapeOk_iff _).1 h.1
 have hl : (numsOf p).length = p.length := by simp [numsOf]
 exact ⟨by omega, h4, fun s hs => by
  have := h5 (bytesOf s) (by unfold numsOf; simp; exact ⟨s, hs, rfl⟩)
  rw [bytesOf_length] at this
  exact this⟩
theorem Small.rect {p : List ByteArray} {wi : Nat} (h : Small p wi) : Rect wi (numsOf p) := by
 intro r hr
 unfold numsOf at hr
 simp at hr
 obtain ⟨s, hs, rfl⟩ := hr
 rw [bytesOf_length]
 exact h.row s hs
theorem Small.at {p : List ByteArray} {wi : Nat} (h : Small p wi) {i j : Nat} (hi : i < p.length) (hj : j < wi) : ∃ s, p[i]? = some s ∧ s.size = wi ∧ bt s (j : Int) = cellN (numsOf p) wi (i * wi + j) + 97 ∧ 0 ≤ bt s (j : Int) ∧ bt s (j : Int) ≤ 255 := by
 obtain ⟨s, hs⟩ : ∃ s, p[i]? = some s := ⟨_, List.getElem?_eq_getElem hi⟩
 have hsz := h.row s (List.mem_of_getElem? hs)
 obtain ⟨x, hx⟩ : ∃ x, (bytesOf s)[j]? = some x := ⟨_, List.getElem?_eq_getElem (by rw [bytesOf_length]; omega)⟩
 have hv : valAt (numsOf p) i j = x := by
  unfold valAt numsOf
  rw [List.getD_eq_getElem?_getD, List.getD_eq_getElem?_getD, List.getElem?_map, hs]
  simp only [Option.map_some, Option.getD_some]
  rw [hx]
  rfl
 have hr := bytesOf_range s x (List.mem_of_getElem? hx)
 obtain ⟨d1, d2⟩ := divmod_of (r := i) hj
 refine ⟨s, hs, hsz, ?_, ?_, ?_⟩
 ·rw [bt_get hx]; unfold cellN; rw [d1, d2, hv]; omega
 ·rw [bt_get hx]; exact hr.1
 ·rw [bt_get hx]; exact hr.2
theorem Small.row_at {p : List ByteArray} {wi : Nat} (h : Small p wi) {i : Nat} (hi : i < p.length) : ∃ s, p[i]? = some s ∧ s.size = wi := by
 obtain ⟨s, hs⟩ : ∃ s, p[i]? = some s := ⟨_, List.getElem?_eq_getElem hi⟩
 exact ⟨s, hs, h.row s (List.mem_of_getElem? hs)⟩
theorem countN_le (rows : List (List Int)) (wi : Nat) (x : Int) : ∀ n, 0 ≤ countN rows wi x n ∧ countN rows wi x n ≤ n
 | 0 => by simp [countN]
 | n + 1 => by
  have := countN_le rows wi x n
  simp only [countN]
  split <;> omega
theorem cells_l1 (p : List ByteArray) (wi : Nat) (h : Small p wi) (x : Int) (i : Nat) (hi : i < p.length) (r : Int) (hnext : Evs (fun k => spec_l1Cells.l0 k p x (countN (numsOf p) wi x ((i + 1) * wi)) ((i + 1 : Nat) : Int)) r) :
  ∀ m j, j + m = wi → Evs (fun k => spec_l1Cells.l1 k p x (countN (numsOf p) wi x (i * wi + j)) (i : Int) (j : Int)) r := by
 have h6 := h.high
 have w6 := h.wide
 intro m
 induction m with
 | zero =>
  intro j hj
  obtain ⟨s, hs, hsz⟩ := h.row_at hi
  rw [show i * wi + j = (i + 1) * wi by rw [Nat.succ_mul]; omega]
  refine Evs.step (h := fun k => spec_l1Cells.l0 k p x (countN (numsOf p) wi x ((i + 1) * wi)) ((i + 1 : Nat) : Int)) (fun k => ?_) hnext
  conv => lhs; unfold spec_l1Cells.l1
  rw [if_pos (by omega), if_pos (by omega), rdOf_at hs, if_neg (by omega), wrap_succ (by omega)]
 | succ m ih =>
  intro j hj
  obtain ⟨s, hs, hsz, hb, hb0, hb1⟩ := h.at hi (show j < wi by omega)
  have hc := countN_le (numsOf p) wi x (i * wi + j)
  have hle : i * wi + j ≤ 36 + 6 := by
   have := Nat.mul_le_mul (show i ≤ 6 by omega) w6
   omega
  have hnx := ih (j + 1) (by omega)
  have hsucc : countN (numsOf p) wi x (i * wi + (j + 1)) = if cellN (numsOf p) wi (i * wi + j) = x then countN (numsOf p) wi x (i * wi + j) + 1 else countN (numsOf p) wi x (i * wi + j) := rfl
  rw [hsucc] at hnx
  refine Evs.step (h := fun k => spec_l1Cells.l1 k p x (if cellN (numsOf p) wi (i * wi + j) = x then countN (numsOf p) wi x (i * wi + j) + 1 else countN (numsOf p) wi x (i * wi + j)) (i : Int) ((j + 1 : Nat) : Int)) (fun k => ?_) hnx
  conv => lhs; unfold spec_l1Cells.l1
  rw [if_pos (by omega), if_pos (by omega), rdOf_at hs, if_pos (by omega), if_pos (by omega), wrap64_small (x := bt s (j : Int)) (by omega) (by omega), wrap64_small (x := bt s (j : Int) - 97) (by omega) (by omega), show bt s (j : Int) - 97 = cellN (numsOf p) wi (i * wi + j) by omega, wrap_succ (by omega)]
  by_cases hx : cellN (numsOf p) wi (i * wi + j) = x
  ·rw [if_pos hx, if_pos hx, wrap64_small (by omega) (by omega)]
  ·rw [if_neg hx, if_neg hx]
theorem cells_l0 (p : List ByteArray) (wi : Nat) (h : Small p wi) (x : Int) : ∀ m i, i + m = p.length → Evs (fun k => spec_l1Cells.l0 k p x (countN (numsOf p) wi x (i * wi)) (i : Int)) (countN (numsOf p) wi x (p.length * wi)) := by
 have h6 := h.high
 intro m
 induction m with
 | zero =>
  intro i hi
  obtain rfl : i = p.length := by omega
  refine Evs.step (h := fun _ => some (countN (numsOf p) wi x (p.length * wi))) (fun k => ?_) (Evs.const _)
  conv => lhs; unfold spec_l1Cells.l0
  rw [if_neg (by omega)]
 | succ m ih =>
  intro i hi
  refine Evs.step (h := fun k => spec_l1Cells.l1 k p x (countN (numsOf p) wi x (i * wi)) (i : Int) ((0 : Nat) : Int)) (fun k => ?_) (cells_l1 p wi h x i (by omega) _ (ih (i + 1) (by omega)) wi 0 (by omega))
  conv => lhs; unfold spec_l1Cells.l0
  rw [if_pos (by omega)]
  rfl
theorem l1Cells_ev (p : List ByteArray) (wi : Nat) (h : Small p wi) (x : Int) : Evs (fun k => spec_l1Cells.f k p x) (countN (numsOf p) wi x (p.length * wi)) := by
 have := cells_l0 p wi h x p.length 0 (by omega)
 show Evs (fun k => spec_l1Cells.l0 k p x 0 0) _
 simpa [countN] using this
theorem mx_max (a b : Int) : mx a b = max a b := by unfold mx; omega
theorem mn_min (a b : Int) : mn a b = min a b := by unfold mn; omega
theorem rooms_l1 (p : List ByteArray) (wi : Nat) (h : Small p wi) (i : Nat) (hi : i < p.length) (r : Int) (hnext : Evs (fun k => spec_l1Rooms.l0 k p (maxN (numsOf p) wi ((i + 1) * wi)) ((i + 1 : Nat) : Int)) r) :
  ∀ m j, j + m = wi → Evs (fun k => spec_l1Rooms.l1 k p (maxN (numsOf p) wi (i * wi + j)) (i : Int) (j : Int)) r := by
 have h6 := h.high
 have w6 := h.wide
 intro m
 induction m with
 | zero =>
  intro j hj
  obtain ⟨s, hs, hsz⟩ := h.row_at hi
  rw [show i * wi + j = (i + 1) * wi by rw [Nat.succ_mul]; omega]
  refine Evs.step (h := fun k => spec_l1Rooms.l0 k p (maxN (numsOf p) wi ((i + 1) * wi)) ((i + 1 : Nat) : Int)) (fun k => ?_) hnext
  conv => lhs; unfold spec_l1Rooms.l1
  rw [if_pos (by omega), if_pos (by omega), rdOf_at hs, if_neg (by omega), wrap_succ (by omega)]
 | succ m ih =>
  intro j hj
  obtain ⟨s, hs, hsz, hb, hb0, hb1⟩ := h.at hi (show j < wi by omega)
  refine Evs.step (h := fun k => spec_l1Rooms.l1 k p (maxN (numsOf p) wi (i * wi + (j + 1))) (i : Int) ((j + 1 : Nat) : Int)) (fun k => ?_) (ih (j + 1) (by omega))
  conv => lhs; unfold spec_l1Rooms.l1
  rw [if_pos (by omega), if_pos (by omega), rdOf_at hs, if_pos (by omega), if_pos (by omega), wrap64_small (x := bt s (j : Int)) (by omega) (by omega), wrap64_small (x := bt s (j : Int) - 97) (by omega) (by omega), wrap64_small (x := bt s (j : Int) - 97 + 1) (by omega) (by omega), show bt s (j : Int) - 97 = cellN (numsOf p) wi (i * wi + j) by omega, wrap_succ (by omega), mx_max]
  rfl
theorem rooms_l0 (p : List ByteArray) (wi : Nat) (h : Small p wi) : ∀ m i, i + m = p.length → Evs (fun k => spec_l1Rooms.l0 k p (maxN (numsOf p) wi (i * wi)) (i : Int)) (maxN (numsOf p) wi (p.length * wi)) := by
 have h6 := h.high
 intro m
 induction m with
 | zero =>
  intro i hi
  obtain rfl : i = p.length := by omega
  refine Evs.step (h := fun _ => some (maxN (numsOf p) wi (p.length * wi))) (fun k => ?_) (Evs.const _)
  conv => lhs; unfold spec_l1Rooms.l0
  rw [if_neg (by omega)]
 | succ m ih =>
  intro i hi
  refine Evs.step (h := fun k => spec_l1Rooms.l1 k p (maxN (numsOf p) wi (i * wi)) (i : Int) ((0 : Nat) : Int)) (fun k => ?_) (rooms_l1 p wi h i (by omega) _ (ih (i + 1) (by omega)) wi 0 (by omega))
  conv => lhs; unfold spec_l1Rooms.l0
  rw [if_pos (by omega)]
  rfl
theorem l1Rooms_ev (p : List ByteArray) (wi : Nat) (h : Small p wi) : Evs (fun k => spec_l1Rooms.f k p) (maxN (numsOf p) wi (p.length * wi)) := by
 have := rooms_l0 p wi h p.length 0 (by omega)
 show Evs (fun k => spec_l1Rooms.l0 k p 0 0) _
 simpa [maxN] using this
def roomOut (q : Int × Int × Int × Int) : Int × Int × Int × Int := (q.1, q.2.1, q.2.2.1 - q.1 + 1, q.2.2.2 - q.2.1 + 1)
theorem roomN_le {p : List ByteArray} {wi : Nat} (h : Small p wi) (x t l : Int) (ht : 0 ≤ t) (ht2 : t ≤ 6) (hl : 0 ≤ l) (hl2 : l ≤ 6) : ∀ n, n ≤ p.length * wi → let q := roomN (numsOf p) wi x t l n; 0 ≤ q.1 ∧ q.1 ≤ 6 ∧ 0 ≤ q.2.1 ∧ q.2.1 ≤ 6 ∧ -1 ≤ q.2.2.1 ∧ q.2.2.1 ≤ 6 ∧ -1 ≤ q.2.2.2 ∧ q.2.2.2 ≤ 6
 | 0, _ => by simp only [roomN]; omega
 | n + 1, hn => by
  have ih := roomN_le h x t l ht ht2 hl hl2 n (by omega)
  have hwi : 0 < wi := by
   rcases Nat.eq_zero_or_pos wi with h0 | h0
   ·subst h0; simp at hn
   ·exact h0
  have h1 : n / wi < p.length := by rw [Nat.div_lt_iff_lt_mul hwi]; omega
  have h2 : n % wi < wi := Nat.mod_lt _ hwi
  have h3 := h.high
  have h4 := h.wide
  simp only [roomN] at ih ⊢
  generalize n / wi = a at *
  generalize n % wi = b at *
  split
  ·dsimp only
   omega
  ·exact ih
theorem room_l1 (p : List ByteArray) (wi : Nat) (h : Small p wi) (x t l : Int) (ht : 0 ≤ t) (ht2 : t ≤ 6) (hl : 0 ≤ l) (hl2 : l ≤ 6) (i : Nat) (hi : i < p.length) (r : Int × Int × Int × Int) (hnext : let q := roomN (numsOf p) wi x t l ((i + 1) * wi); Evs (fun k => spec_l1Room.l0 k p x q.1 q.2.1 q.2.2.1 q.2.2.2 ((i + 1 : Nat) : Int)) r) :
  ∀ m j, j + m = wi → let q := roomN (numsOf p) wi x t l (i * wi + j); Evs (fun k => spec_l1Room.l1 k p x q.1 q.2.1 q.2.2.1 q.2.2.2 (i : Int) (j : Int)) r := by
 have h6 := h.high
 have w6 := h.wide
 intro m
 induction m with
 | zero =>
  intro j hj
  obtain ⟨s, hs, hsz⟩ := h.row_at hi
  rw [show i * wi + j = (i + 1) * wi by rw [Nat.succ_mul]; omega]
  intro q
  refine Evs.step (h := fun k => spec_l1Room.l0 k p x q.1 q.2.1 q.2.2.1 q.2.2.2 ((i + 1 : Nat) : Int)) (fun k => ?_) hnext
  conv => lhs; unfold spec_l1Room.l1
  rw [if_pos (by omega), if_pos (by omega), rdOf_at hs, if_neg (by omega), wrap_succ (by omega)]
 | succ m ih =>
  intro j hj q
  obtain ⟨s, hs, hsz, hb, hb0, hb1⟩ := h.at hi (show j < wi by omega)
  have hnx := ih (j + 1) (by omega)
  obtain ⟨d1, d2⟩ := divmod_of (r := i) (show j < wi by omega)
  have hsucc : roomN (numsOf p) wi x t l (i * wi + (j + 1)) = if cellN (numsOf p) wi (i * wi + j) = x then (min q.1 (i : Int), min q.2.1 (j : Int), max q.2.2.1 (i : Int), max q.2.2.2 (j : Int)) else q := by
   show roomN (numsOf p) wi x t l (i * wi + j + 1) = _
   simp only [roomN]
   rw [d1, d2]
  rw [hsucc] at hnx
  generalize q = q at *
  refine Evs.step (h := fun k => spec_l1Room.l1 k p x (if cellN (numsOf p) wi (i * wi + j) = x then (min q.1 (i : Int), min q.2.1 (j : Int), max q.2.2.1 (i : Int), max q.2.2.2 (j : Int)) else q).1 (if cellN (numsOf p) wi (i * wi + j) = x then (min q.1 (i : Int), min q.2.1 (j : Int), max q.2.2.1 (i : Int), max q.2.2.2 (j : Int)) else q).2.1 (if cellN (numsOf p) wi (i * wi + j) = x then (min q.1 (i : Int), min q.2.1 (j : Int), max q.2.2.1 (i : Int), max q.2.2.2 (j : Int)) else q).2.2.1 (if cellN (numsOf p) wi (i * wi + j) = x then (min q.1 (i : Int), min q.2.1 (j : Int), max q.2.2.1 (i : Int), max q.2.2.2 (j : Int)) else q).2.2.2 (i : Int) ((j + 1 : Nat) : Int)) (fun k => ?_) hnx
  conv => lhs; unfold spec_l1Room.l1
  rw [if_pos (by omega), if_pos (by omega), rdOf_at hs, if_pos (by omega), if_pos (by omega), wrap64_small (x := bt s (j : Int)) (by omega) (by omega), wrap64_small (x := bt s (j : Int) - 97) (by omega) (by omega), show bt s (j : Int) - 97 = cellN (numsOf p) wi (i * wi + j) by omega, wrap_succ (by omega)]
  by_cases hx : cellN (numsOf p) wi (i * wi + j) = x
  ·rw [if_pos hx, if_pos hx, mn_min, mn_min, mx_max, mx_max]
  ·rw [if_neg hx, if_neg hx]
theorem room_l0 (p : List ByteArray) (wi : Nat) (h : Small p wi) (x t l : Int) (ht : 0 ≤ t) (ht2 : t ≤ 6) (hl : 0 ≤ l) (hl2 : l ≤ 6) : ∀ m i, i + m = p.length → let q := roomN (numsOf p) wi x t l (i * wi); Evs (fun k => spec_l1Room.l0 k p x q.1 q.2.1 q.2.2.1 q.2.2.2 (i : Int)) (roomOut (roomN (numsOf p) wi x t l (p.length * wi))) := by
 have h6 := h.high
 intro m
 induction m with
 | zero =>
  intro i hi q
  obtain rfl : i = p.length := by omega
  have hq := roomN_le h x t l ht ht2 hl hl2 (p.length * wi) (Nat.le_refl _)
  refine Evs.step (h := fun _ => some (roomOut q)) (fun k => ?_) (Evs.const _)
  conv => lhs; unfold spec_l1Room.l0
  have hq' : 0 ≤ q.1 ∧ q.1 ≤ 6 ∧ 0 ≤ q.2.1 ∧ q.2.1 ≤ 6 ∧ -1 ≤ q.2.2.1 ∧ q.2.2.1 ≤ 6 ∧ -1 ≤ q.2.2.2 ∧ q.2.2.2 ≤ 6 := hq
  clear hq
  generalize q = q at *
  rw [if_neg (by omega), wrap64_small (x := q.2.2.1 - q.1) (by omega) (by omega), wrap64_small (x := q.2.2.1 - q.1 + 1) (by omega) (by omega), wrap64_small (x := q.2.2.2 - q.2.1) (by omega) (by omega), wrap64_small (x := q.2.2.2 - q.2.1 + 1) (by omega) (by omega)]
  rfl
 | succ m ih =>
  intro i hi q
  refine Evs.step (h := fun k => spec_l1Room.l1 k p x q.1 q.2.1 q.2.2.1 q.2.2.2 (i : Int) ((0 : Nat) : Int)) (fun k => ?_) (room_l1 p wi h x t l ht ht2 hl hl2 i (by omega) _ (ih (i + 1) (by omega)) wi 0 (by omega))
  conv => lhs; unfold spec_l1Room.l0
  rw [if_pos (by omega)]
  rfl
theorem l1Room_ev (p : List ByteArray) (wi : Nat) (h : Small p wi) (h1 : 1 ≤ p.length) (x : Int) : Evs (fun k => spec_l1Room.f k p x) (roomOut (roomN (numsOf p) wi x (p.length : Int) (wi : Int) (p.length * wi))) := by
 have h6 := h.high
 have w6 := h.wide
 have := room_l0 p wi h x (p.length : Int) (wi : Int) (by omega) (by omega) (by omega) (by omega) p.length 0 (by omega)
 obtain ⟨s, hs, hsz⟩ := h.row_at (i := 0) (by omega)
 refine Evs.congr (fun k => ?_) this
 unfold spec_l1Room.f
 have e := rdOf_at hs
 simp only [Int.ofNat_zero, Int.natCast_zero] at e
 rw [if_pos (by omega), e, hsz]
 simp [roomN]
theorem same_l0 (p q : List ByteArray) (hl : p.length = q.length) (hb : p.length ≤ 1048576) : ∀ m i, i + m = p.length → p.take i = q.take i → Evs (fun k => spec_l1Same.l0 k p q (i : Int)) (decide (p = q)) := by
 intro m
 induction m with
 | zero =>
  intro i hi ht
  have e : p = q := by
   rw [show i = p.length by omega, List.take_length, hl, List.take_length] at ht
   exact ht
  refine Evs.step (h := fun _ => some (decide (p = q))) (fun k => ?_) (Evs.const _)
  conv => lhs; unfold spec_l1Same.l0
  rw [if_neg (by omega), decide_eq_true e]
 | succ m ih =>
  intro i hi ht
  by_cases he : p[i] = q[i]
  ·refine Evs.step (h := fun k => spec_l1Same.l0 k p q ((i + 1 : Nat) : Int)) (fun k => ?_) (ih (i + 1) (by omega) (by
    rw [List.take_add_one, List.take_add_one, ht, List.getElem?_eq_getElem (by omega), List.getElem?_eq_getElem (by omega), he]))
   conv => lhs; unfold spec_l1Same.l0
   rw [if_pos (by omega), if_pos (by omega), if_pos (by omega), rdOf_get p i (by omega), rdOf_get q i (by omega), if_pos (toList_inj.2 he), wrap_succ (by omega)]
  ·have hne : p ≠ q := by rintro rfl; exact he rfl
   refine Evs.step (h := fun _ => some (decide (p = q))) (fun k => ?_) (Evs.const _)
   conv => lhs; unfold spec_l1Same.l0
   rw [if_pos (by omega), if_pos (by omega), if_pos (by omega), rdOf_get p i (by omega), rdOf_get q i (by omega), if_neg (fun h => he (toList_inj.1 h)), decide_eq_false hne]
theorem l1Same_ev (p q : List ByteArray) (hb : p.length ≤ 1048576) : Evs (fun k => spec_l1Same.f k p q) (decide (p = q)) := by
 by_cases h : p.length = q.length
 ·refine Evs.congr (fun k => ?_) (same_l0 p q h hb p.length 0 (by omega) (by simp))
  unfold spec_l1Same.f
  rw [if_pos (by omega)]
  rfl
 ·have hne : p ≠ q := by rintro rfl; exact h rfl
  refine Evs.congr (h := fun _ => some (decide (p = q))) (fun k => ?_) (Evs.const _)
  unfold spec_l1Same.f
  rw [if_neg (by omega), decide_eq_false hne]
end Go.Proofs.Ytjaolkfjpnpglaa.Hd
namespace Go.Proofs.Ytjaolkfjpnpglaa.Hd
open Go.RowKit Go.Proofs.YtjaolkfjpnpglaaW.PrintWords Go.Proofs.YtjaolkfjpnpglaaW.PrintLast Go.Proofs.YtjaolkfjpnpglaaW.PrintMore Go.Proofs.Ytjaolkfjpnpglaa.PB
set_option linter.unusedVariables false
set_option linter.unusedSimpArgs false
def sumI (f : Nat → Int) : Nat → Int
 | 0 => 0
 | n + 1 => sumI f n + f n
theorem sumI_add (f g : Nat → Int) : ∀ n, sumI (fun x => f x + g x) n = sumI f n + sumI g n
 | 0 => rfl
 | n + 1 => by simp only [sumI, sumI_add f g n]; omega
theorem sumI_congr {f g : Nat → Int} : ∀ n, (∀ x, x < n → f x = g x) → sumI f n = sumI g n
 | 0, _ => rfl
 | n + 1, h => by simp only [sumI]; rw [sumI_congr n (fun x hx => h x (by omega)), h n (by omega)]
theorem sumI_le {f g : Nat → Int} : ∀ n, (∀ x, x < n → f x ≤ g x) → sumI f n ≤ sumI g n
 | 0, _ => Int.le_refl _
 | n + 1, h => by
  have := sumI_le n (fun x hx => h x (by omega))
  have := h n (by omega)
  simp only [sumI]
  omega
theorem sumI_eq {f g : Nat → Int} : ∀ n, (∀ x, x < n → f x ≤ g x) → sumI f n = sumI g n → ∀ x, x < n → f x = g x
 | 0, _, _, x, hx => by omega
 | n + 1, h, he, x, hx => by
  have h1 := sumI_le n (fun x hx => h x (by omega))
  have h2 := h n (by omega)
  simp only [sumI] at he
  rcases Nat.lt_or_eq_of_le (Nat.lt_succ_iff.1 hx) with h3 | h3
  ·exact sumI_eq n (fun x hx => h x (by omega)) (by omega) x h3
  ·subst h3; omega
theorem sumI_one (v : Int) : ∀ n, sumI (fun x => if v = (x : Int) then 1 else 0) n = if 0 ≤ v ∧ v < n then 1 else 0
 | 0 => by
  simp only [sumI]
  rw [if_neg (by omega)]
 | n + 1 => by
  simp only [sumI, sumI_one v n]
  by_cases h : v = (n : Int)
  ·rw [if_neg (by omega), if_pos h, if_pos (by omega)]; omega
  ·rw [if_neg h]
   by_cases h2 : 0 ≤ v ∧ v < n
   ·rw [if_pos h2, if_pos (by omega)]; omega
   ·rw [if_neg h2, if_neg (by omega)]; omega
theorem count_sum (rows : List (List Int)) (wi n : Nat) : ∀ N, (∀ m, m < N → 0 ≤ cellN rows wi m ∧ cellN rows wi m < n) → sumI (fun x => countN rows wi (x : Int) N) n = N
 | 0, _ => by
  have : sumI (fun x => countN rows wi (x : Int) 0) n = sumI (fun _ => 0) n := rfl
  rw [this]
  have h0 : ∀ n, sumI (fun _ => 0) n = 0 := fun n => by induction n with
   | zero => rfl
   | succ n ih => simp only [sumI, ih]; rfl
  rw [h0]
  rfl
 | N + 1, h => by
  have ih := count_sum rows wi n N (fun m hm => h m (by omega))
  have h1 := h N (by omega)
  have h2 := sumI_one (cellN rows wi N) n
  rw [if_pos h1] at h2
  have h3 : sumI (fun x => countN rows wi (x : Int) (N + 1)) n = sumI (fun x => countN rows wi (x : Int) N + (if cellN rows wi N = (x : Int) then 1 else 0)) n := by
   apply sumI_congr
   intro x hx
   simp only [countN]
   split <;> omega
  rw [h3, sumI_add, ih, h2]
  omega
def inBox (b : Rc) (wi m : Nat) : Prop := b.f0 ≤ (m / wi : Nat) ∧ ((m / wi : Nat) : Int) < b.f0 + b.f2 ∧ b.f1 ≤ (m % wi : Nat) ∧ ((m % wi : Nat) : Int) < b.f1 + b.f3
instance (b : Rc) (wi m : Nat) : Decidable (inBox b wi m) := by unfold inBox; exact inferInstance
def countB (b : Rc) (wi : Nat) : Nat → Int
 | 0 => 0
 | n + 1 => if inBox b wi n then countB b wi n + 1 else countB b wi n
theorem countN_le_B (rows : List (List Int)) (wi : Nat) (x : Int) (b : Rc) : ∀ n, (∀ m, m < n → cellN rows wi m = x → inBox b wi m) → countN rows wi x n ≤ countB b wi n
 | 0, _ => Int.le_refl _
 | n + 1, h => by
  have ih := countN_le_B rows wi x b n (fun m hm => h m (by omega))
  simp only [countN, countB]
  by_cases hx : cellN rows wi n = x
  ·rw [if_pos hx, if_pos (h n (by omega) hx)]; omega
  ·rw [if_neg hx]
   split <;> omega
def clamp (a n : Int) : Int := max 0 (min a n)
theorem countB_at (b : Rc) (hi wi : Nat) (hb : boundR b hi wi) : ∀ i j, i ≤ hi → j ≤ wi → (i < hi ∨ j = 0) → countB b wi (i * wi + j) = clamp ((i : Int) - b.f0) b.f2 * b.f3 + (if b.f0 ≤ i ∧ (i : Int) < b.f0 + b.f2 then clamp ((j : Int) - b.f1) b.f3 else 0) := by
 obtain ⟨b0, b1, b2, b3, b4, b5⟩ := hb
 intro i
 induction i with
 | zero =>
  intro j
  induction j with
  | zero =>
   intro _ _ _
   have h1 : clamp (((0 : Nat) : Int) - b.f0) b.f2 = 0 := by unfold clamp; omega
   have h2 : clamp (((0 : Nat) : Int) - b.f1) b.f3 = 0 := by unfold clamp; omega
   rw [h1, h2]
   simp [countB]
  | succ j ih =>
   intro h1 h2 h3
   have h := ih h1 (by omega) (by omega)
   obtain ⟨d1, d2⟩ := divmod_of (r := 0) (show j < wi by omega)
   show (if inBox b wi (0 * wi + j) then countB b wi (0 * wi + j) + 1 else countB b wi (0 * wi + j)) = _
   rw [h]
   have hib : inBox b wi (0 * wi + j) ↔ (b.f0 ≤ ((0 : Nat) : Int) ∧ ((0 : Nat) : Int) < b.f0 + b.f2 ∧ b.f1 ≤ (j : Int) ∧ (j : Int) < b.f1 + b.f3) := by unfold inBox; rw [d1, d2]
   by_cases hr : b.f0 ≤ ((0 : Nat) : Int) ∧ ((0 : Nat) : Int) < b.f0 + b.f2
   ·rw [if_pos hr, if_pos hr]
    have : clamp (((j + 1 : Nat) : Int) - b.f1) b.f3 = clamp ((j : Int) - b.f1) b.f3 + (if b.f1 ≤ (j : Int) ∧ (j : Int) < b.f1 + b.f3 then 1 else 0) := by
     unfold clamp; split <;> omega
    rw [this]
    by_cases hc : b.f1 ≤ (j : Int) ∧ (j : Int) < b.f1 + b.f3
    ·rw [if_pos (hib.2 ⟨hr.1, hr.2, hc.1, hc.2⟩), if_pos hc]; omega
    ·rw [if_neg (fun h => hc ⟨(hib.1 h).2.2.1, (hib.1 h).2.2.2⟩), if_neg hc]; omega
   ·rw [if_neg hr, if_neg hr, if_neg (fun h => hr ⟨(hib.1 h).1, (hib.1 h).2.1⟩)]
 | succ i ihi =>
  intro j
  induction j with
  | zero =>
   intro h1 _ _
   have h := ihi wi (by omega) (Nat.le_refl _) (by omega)
   rw [show (i + 1) * wi + 0 = i * wi + wi by rw [Nat.succ_mul]; omega, h]
   have e2 : clamp (((0 : Nat) : Int) - b.f1) b.f3 = 0 := by unfold clamp; omega
   have e3 : clamp ((wi : Int) - b.f1) b.f3 = b.f3 := by unfold clamp; omega
   rw [e2, e3]
   have e4 : (if b.f0 ≤ ((i + 1 : Nat) : Int) ∧ ((i + 1 : Nat) : Int) < b.f0 + b.f2 then (0 : Int) else 0) = 0 := by split <;> rfl
   rw [e4]
   by_cases hr : b.f0 ≤ (i : Int) ∧ (i : Int) < b.f0 + b.f2
   ·have e5 : clamp (((i + 1 : Nat) : Int) - b.f0) b.f2 = clamp ((i : Int) - b.f0) b.f2 + 1 := by unfold clamp; omega
    rw [if_pos hr, e5, Int.add_mul]
    omega
   ·have e5 : clamp (((i + 1 : Nat) : Int) - b.f0) b.f2 = clamp ((i : Int) - b.f0) b.f2 := by unfold clamp; omega
    rw [if_neg hr, e5]
  | succ j ih =>
   intro h1 h2 h3
   have h := ih h1 (by omega) (by omega)
   obtain ⟨d1, d2⟩ := divmod_of (r := i + 1) (show j < wi by omega)
   show (if inBox b wi ((i + 1) * wi + j) then countB b wi ((i + 1) * wi + j) + 1 else countB b wi ((i + 1) * wi + j)) = _
   rw [h]
   have hib : inBox b wi ((i + 1) * wi + j) ↔ (b.f0 ≤ ((i + 1 : Nat) : Int) ∧ ((i + 1 : Nat) : Int) < b.f0 + b.f2 ∧ b.f1 ≤ (j : Int) ∧ (j : Int) < b.f1 + b.f3) := by unfold inBox; rw [d1, d2]
   by_cases hr : b.f0 ≤ ((i + 1 : Nat) : Int) ∧ ((i + 1 : Nat) : Int) < b.f0 + b.f2
   ·rw [if_pos hr, if_pos hr]
    have : clamp (((j + 1 : Nat) : Int) - b.f1) b.f3 = clamp ((j : Int) - b.f1) b.f3 + (if b.f1 ≤ (j : Int) ∧ (j : Int) < b.f1 + b.f3 then 1 else 0) := by
     unfold clamp; split <;> omega
    rw [this]
    by_cases hc : b.f1 ≤ (j : Int) ∧ (j : Int) < b.f1 + b.f3
    ·rw [if_pos (hib.2 ⟨hr.1, hr.2, hc.1, hc.2⟩), if_pos hc]; omega
    ·rw [if_neg (fun h => hc ⟨(hib.1 h).2.2.1, (hib.1 h).2.2.2⟩), if_neg hc]; omega
   ·rw [if_neg hr, if_neg hr, if_neg (fun h => hr ⟨(hib.1 h).1, (hib.1 h).2.1⟩)]
theorem countB_all (b : Rc) (hi wi : Nat) (hb : boundR b hi wi) : countB b wi (hi * wi) = areaR b := by
 have := countB_at b hi wi hb hi 0 (Nat.le_refl _) (by omega) (Or.inr rfl)
 obtain ⟨b0, b1, b2, b3, b4, b5⟩ := hb
 rw [Nat.add_zero] at this
 have h2 : clamp (((0 : Nat) : Int) - b.f1) b.f3 = 0 := by unfold clamp; omega
 have h3 : clamp ((hi : Int) - b.f0) b.f2 = b.f2 := by unfold clamp; omega
 rw [this, h2, h3]
 unfold areaR
 split <;> omega
theorem maxN_ge (rows : List (List Int)) (wi : Nat) : ∀ n m, m < n → cellN rows wi m + 1 ≤ maxN rows wi n
 | 0, m, h => by omega
 | n + 1, m, h => by
  simp only [maxN]
  rcases Nat.lt_or_eq_of_le (Nat.lt_succ_iff.1 h) with h1 | h1
  ·have := maxN_ge rows wi n m h1; omega
  ·subst h1; omega
theorem maxN_ub (rows : List (List Int)) (wi : Nat) (M : Int) (hM : 0 ≤ M) : ∀ n, (∀ m, m < n → cellN rows wi m + 1 ≤ M) → maxN rows wi n ≤ M
 | 0, _ => hM
 | n + 1, h => by
  have := maxN_ub rows wi M hM n (fun m hm => h m (by omega))
  have := h n (by omega)
  simp only [maxN]
  omega
theorem roomN_ge (rows : List (List Int)) (wi : Nat) (x t l : Int) : ∀ n m, m < n → cellN rows wi m = x → (roomN rows wi x t l n).1 ≤ (m / wi : Nat) ∧ (roomN rows wi x t l n).2.1 ≤ (m % wi : Nat) ∧ ((m / wi : Nat) : Int) ≤ (roomN rows wi x t l n).2.2.1 ∧ ((m % wi : Nat) : Int) ≤ (roomN rows wi x t l n).2.2.2
 | 0, m, h, _ => by omega
 | n + 1, m, h, hx => by
  simp only [roomN]
  rcases Nat.lt_or_eq_of_le (Nat.lt_succ_iff.1 h) with h1 | h1
  ·have ih := roomN_ge rows wi x t l n m h1 hx
   generalize roomN rows wi x t l n = q at *
   split
   ·dsimp only; omega
   ·exact ih
  ·subst h1
   rw [if_pos hx]
   dsimp only
   omega
theorem roomN_at (rows : List (List Int)) (wi : Nat) (x t l : Int) : ∀ n,
  ((roomN rows wi x t l n).1 = t ∨ ∃ m, m < n ∧ cellN rows wi m = x ∧ (roomN rows wi x t l n).1 = (m / wi : Nat)) ∧
  ((roomN rows wi x t l n).2.1 = l ∨ ∃ m, m < n ∧ cellN rows wi m = x ∧ (roomN rows wi x t l n).2.1 = (m % wi : Nat)) ∧
  ((roomN rows wi x t l n).2.2.1 = -1 ∨ ∃ m, m < n ∧ cellN rows wi m = x ∧ (roomN rows wi x t l n).2.2.1 = (m / wi : Nat)) ∧
  ((roomN rows wi x t l n).2.2.2 = -1 ∨ ∃ m, m < n ∧ cellN rows wi m = x ∧ (roomN rows wi x t l n).2.2.2 = (m % wi : Nat))
 | 0 => ⟨.inl rfl, .inl rfl, .inl rfl, .inl rfl⟩
 | n + 1 => by
  obtain ⟨h1, h2, h3, h4⟩ := roomN_at rows wi x t l n
  simp only [roomN]
  generalize roomN rows wi x t l n = q at *
  by_cases hx : cellN rows wi n = x
  ·rw [if_pos hx]
   dsimp only
   refine ⟨?_, ?_, ?_, ?_⟩
   ·by_cases hc : q.1 ≤ ((n / wi : Nat) : Int)
    ·rw [Int.min_eq_left hc]
     rcases h1 with h | ⟨m, a, b, c⟩
     ·exact .inl h
     ·exact .inr ⟨m, by omega, b, c⟩
    ·exact .inr ⟨n, by omega, hx, Int.min_eq_right (by omega)⟩
   ·by_cases hc : q.2.1 ≤ ((n % wi : Nat) : Int)
    ·rw [Int.min_eq_left hc]
     rcases h2 with h | ⟨m, a, b, c⟩
     ·exact .inl h
     ·exact .inr ⟨m, by omega, b, c⟩
    ·exact .inr ⟨n, by omega, hx, Int.min_eq_right (by omega)⟩
   ·by_cases hc : ((n / wi : Nat) : Int) ≤ q.2.2.1
    ·rw [Int.max_eq_left hc]
     rcases h3 with h | ⟨m, a, b, c⟩
     ·exact .inl h
     ·exact .inr ⟨m, by omega, b, c⟩
    ·exact .inr ⟨n, by omega, hx, Int.max_eq_right (by omega)⟩
   ·by_cases hc : ((n % wi : Nat) : Int) ≤ q.2.2.2
    ·rw [Int.max_eq_left hc]
     rcases h4 with h | ⟨m, a, b, c⟩
     ·exact .inl h
     ·exact .inr ⟨m, by omega, b, c⟩
    ·exact .inr ⟨n, by omega, hx, Int.max_eq_right (by omega)⟩
  ·rw [if_neg hx]
   refine ⟨?_, ?_, ?_, ?_⟩
   ·rcases h1 with h | ⟨m, a, b, c⟩
    ·exact .inl h
    ·exact .inr ⟨m, by omega, b, c⟩
   ·rcases h2 with h | ⟨m, a, b, c⟩
    ·exact .inl h
    ·exact .inr ⟨m, by omega, b, c⟩
   ·rcases h3 with h | ⟨m, a, b, c⟩
    ·exact .inl h
    ·exact .inr ⟨m, by omega, b, c⟩
   ·rcases h4 with h | ⟨m, a, b, c⟩
    ·exact .inl h
    ·exact .inr ⟨m, by omega, b, c⟩
theorem room_box {rows rows' : List (List Int)} {hi wi : Nat} {x y : Int} {b : Rc} (he : ∀ m, m < hi * wi → (cellN rows wi m = x ↔ valAt rows' (m / wi) (m % wi) = y)) (hb : BoxN rows' wi (hi * wi) y b) (hbd : boundR b hi wi) (t l : Int) (ht : (hi : Int) ≤ t) (hl : (wi : Int) ≤ l) :
  roomOut (roomN rows wi x t l (hi * wi)) = (b.f0, b.f1, b.f2, b.f3) := by
 obtain ⟨b0, b1, b2, b3, b4, b5⟩ := hbd
 obtain ⟨m1, n1, v1, e1⟩ := hb.top
 obtain ⟨m2, n2, v2, e2⟩ := hb.low
 obtain ⟨m3, n3, v3, e3⟩ := hb.left
 obtain ⟨m4, n4, v4, e4⟩ := hb.right
 have g1 := roomN_ge rows wi x t l (hi * wi) m1 n1 ((he m1 n1).2 v1)
 have g2 := roomN_ge rows wi x t l (hi * wi) m2 n2 ((he m2 n2).2 v2)
 have g3 := roomN_ge rows wi x t l (hi * wi) m3 n3 ((he m3 n3).2 v3)
 have g4 := roomN_ge rows wi x t l (hi * wi) m4 n4 ((he m4 n4).2 v4)
 obtain ⟨a1, a2, a3, a4⟩ := roomN_at rows wi x t l (hi * wi)
 have key : ∀ m, m < hi * wi → cellN rows wi m = x → b.f0 ≤ (m / wi : Nat) ∧ ((m / wi : Nat) : Int) < b.f0 + b.f2 ∧ b.f1 ≤ (m % wi : Nat) ∧ ((m % wi : Nat) : Int) < b.f1 + b.f3 := fun m hm hx => hb.ins m hm ((he m hm).1 hx)
 generalize roomN rows wi x t l (hi * wi) = q at *
 have r1 : q.1 = b.f0 := by
  rcases a1 with h | ⟨m, n, v, e⟩
  ·omega
  ·have := key m n v; omega
 have r2 : q.2.1 = b.f1 := by
  rcases a2 with h | ⟨m, n, v, e⟩
  ·omega
  ·have := key m n v; omega
 have r3 : q.2.2.1 = b.f0 + b.f2 - 1 := by
  rcases a3 with h | ⟨m, n, v, e⟩
  ·omega
  ·have := key m n v; omega
 have r4 : q.2.2.2 = b.f1 + b.f3 - 1 := by
  rcases a4 with h | ⟨m, n, v, e⟩
  ·omega
  ·have := key m n v; omega
 unfold roomOut
 rw [r1, r2, r3, r4]
 congr 3
 ·omega
 ·omega
end Go.Proofs.Ytjaolkfjpnpglaa.Hd
namespace Go.Proofs.Ytjaolkfjpnpglaa.Hd
open Go.RowKit Go.Proofs.YtjaolkfjpnpglaaW.PrintWords Go.Proofs.YtjaolkfjpnpglaaW.PrintLast Go.Proofs.YtjaolkfjpnpglaaW.PrintMore Go.Proofs.Ytjaolkfjpnpglaa.PB
set_option linter.unusedVariables false
set_option linter.unusedSimpArgs false
theorem letterOf_toNat {x : Int} (h0 : 0 ≤ x) (h1 : x ≤ 100) : ((letterOf x).toNat : Int) = 97 + x := by
 unfold letterOf
 rw [UInt8.toNat_ofNat']
 omega
theorem bytesOf_rowText (row : List Int) (h : ∀ x ∈ row, 0 ≤ x ∧ x ≤ 100) : bytesOf (rowText row) = row.map (fun x => 97 + x) := by
 unfold bytesOf rowText rowBytes
 show ((row.map letterOf).toArray.toList).map _ = _
 rw [List.map_map]
 apply List.map_congr_left
 intro x hx
 exact letterOf_toNat (h x hx).1 (h x hx).2
theorem numsOf_textOf (cs : List (List Int)) (h : ∀ r ∈ cs, ∀ x ∈ r, 0 ≤ x ∧ x ≤ 100) : numsOf (textOf cs) = cs.map (fun r => r.map (fun x => 97 + x)) := by
 unfold numsOf textOf
 rw [List.map_map]
 apply List.map_congr_left
 intro r hr
 exact bytesOf_rowText r (h r hr)
theorem canon_val {rows : List (List Int)} (h : shapeOk rows = true) : ∀ r ∈ canon rows, ∀ x ∈ r, 0 ≤ x ∧ x ≤ 100 := by
 have hL := shape_order h
 intro r hr x hx
 unfold canon canonL at hr
 simp at hr
 obtain ⟨a, _, rfl⟩ := hr
 simp at hx
 obtain ⟨y, _, rfl⟩ := hx
 have := List.idxOf_le_length (a := y) (l := ordAll rows)
 omega
structure Canon (p : List ByteArray) : Prop where
 grid : gridOk p = true
 names : namesOf p = p
theorem Canon.shape {p : List ByteArray} (h : Canon p) : shapeOk (numsOf p) = true := by
 have := h.grid
 unfold gridOk at this
 rw [Bool.and_eq_true] at this
 exact this.1
theorem numsOf_length (p : List ByteArray) : (numsOf p).length = p.length := by simp [numsOf]
theorem Canon.cell {p : List ByteArray} (h : Canon p) : ∀ m, m < p.length * wideOf (numsOf p) → cellN (numsOf p) (wideOf (numsOf p)) m = ((ordAll (numsOf p)).idxOf (valAt (numsOf p) (m / wideOf (numsOf p)) (m % wideOf (numsOf p))) : Int) := by
 intro m hm
 have hR := shape_rect h.shape
 have h1 : numsOf p = (canon (numsOf p)).map (fun r => r.map (fun x => 97 + x)) := by
  have := numsOf_textOf (canon (numsOf p)) (canon_val h.shape)
  rw [show textOf (canon (numsOf p)) = p from h.names] at this
  exact this
 have hwi : 0 < wideOf (numsOf p) := by
  rcases Nat.eq_zero_or_pos (wideOf (numsOf p)) with h0 | h0
  ·rw [h0] at hm; simp at hm
  ·exact h0
 have hr : m / wideOf (numsOf p) < (numsOf p).length := by rw [numsOf_length, Nat.div_lt_iff_lt_mul hwi]; exact hm
 have hc := Nat.mod_lt m hwi
 have hcr : Rect (wideOf (numsOf p)) (canon (numsOf p)) := by rw [canon_grid hR]; exact gridOf_rect _ _ _
 have h2 := rect_map hcr (fun x => 97 + x)
 rw [← h1] at h2
 have hcl : (canon (numsOf p)).length = (numsOf p).length := by simp [canon, canonL]
 unfold cellN
 have h3 := congrArg (fun R => valAt R (m / wideOf (numsOf p)) (m % wideOf (numsOf p))) h2
 have h4 := congrArg (fun R => valAt R (m / wideOf (numsOf p)) (m % wideOf (numsOf p))) (canon_grid hR)
 try dsimp only at h3 h4
 rw [valAt_gridOf (by rw [hcl]; exact hr) hc] at h3
 rw [valAt_gridOf hr hc] at h4
 omega
theorem rooms_len {rows : List (List Int)} (h : shapeOk rows = true) : (ordAll rows).length = (roomsOf rows).length := by
 rw [← stAt_all (shape_rect h)]
 exact (stAt_len rows (wideOf rows) _).1
theorem rooms_box {rows : List (List Int)} (h : shapeOk rows = true) (i : Nat) (hi : i < (roomsOf rows).length) : ∃ x, (ordAll rows)[i]? = some x ∧ BoxN rows (wideOf rows) (rows.length * wideOf rows) x ((roomsOf rows).getD i zeroR) ∧ boundR ((roomsOf rows).getD i zeroR) rows.length (wideOf rows) := by
 have hl := rooms_len h
 obtain ⟨x, hx⟩ : ∃ x, (ordAll rows)[i]? = some x := ⟨_, List.getElem?_eq_getElem (by omega)⟩
 have hb : (roomsOf rows)[i]? = some ((roomsOf rows).getD i zeroR) := by
  rw [List.getD_eq_getElem?_getD, List.getElem?_eq_getElem hi]
  rfl
 have hx2 := hx
 rw [← stAt_all (shape_rect h)] at hx2
 exact ⟨x, hx, stAt_box rows (wideOf rows) _ i x _ hx2 hb, (stAt_inv rows rows.length (wideOf rows) _ (Nat.le_refl _)).2.2.2 _ (List.mem_of_getElem? hb)⟩
theorem idx_iff {L : List Int} (hn : L.Nodup) {i : Nat} {x v : Int} (hx : L[i]? = some x) (hv : v ∈ L) : ((L.idxOf v : Int) = (i : Int) ↔ v = x) := by
 have hi := (List.getElem?_eq_some_iff.1 hx).1
 have hk := List.idxOf_lt_length_of_mem hv
 have e : L[L.idxOf v] = v := List.getElem_idxOf hk
 rw [List.getElem?_eq_getElem hi] at hx
 have hx := Option.some.inj hx
 constructor
 ·intro h
  have h : L.idxOf v = i := by omega
  subst h
  rw [← e, hx]
 ·rintro rfl
  have := nodup_inj hn hk hi (e.trans hx.symm)
  omega
theorem ordAll_nodup (rows : List (List Int)) : (ordAll rows).Nodup := ordL_nodup _ _ List.nodup_nil
theorem cell_mem {rows : List (List Int)} (h : shapeOk rows = true) (m : Nat) (hm : m < rows.length * wideOf rows) : valAt rows (m / wideOf rows) (m % wideOf rows) ∈ ordAll rows := by
 have := flatten_get rows (shape_rect h) m hm
 exact ordL_mem _ _ _ (List.mem_of_getElem? this)
theorem mem_cell {rows : List (List Int)} (h : shapeOk rows = true) (x : Int) (hx : x ∈ ordAll rows) : ∃ m, m < rows.length * wideOf rows ∧ valAt rows (m / wideOf rows) (m % wideOf rows) = x := by
 rcases ordL_sub _ _ x hx with h1 | h1
 ·cases h1
 ·obtain ⟨m, hm, e⟩ := List.mem_iff_getElem.1 h1
  have hl := flatten_length_le rows _ (shape_rect h)
  refine ⟨m, by omega, ?_⟩
  have := flatten_get rows (shape_rect h) m (by omega)
  rw [List.getElem?_eq_getElem hm, e] at this
  exact (Option.some.inj this).symm
theorem Canon.max {p : List ByteArray} (h : Canon p) : maxN (numsOf p) (wideOf (numsOf p)) (p.length * wideOf (numsOf p)) = (roomsOf (numsOf p)).length := by
 have hs := h.shape
 have hl := rooms_len hs
 have hc := h.cell
 obtain ⟨s1, s2, s3, s4, s5⟩ := (shapeOk_iff _).1 hs
 rw [numsOf_length] at s1 s2
 have hpos : 0 < p.length * wideOf (numsOf p) := Nat.mul_pos (by omega) (by omega)
 have hub := maxN_ub (numsOf p) (wideOf (numsOf p)) ((roomsOf (numsOf p)).length : Int) (by omega) (p.length * wideOf (numsOf p)) (fun m hm => by
  rw [hc m hm]
  have := List.idxOf_lt_length_of_mem (cell_mem hs m (by rw [numsOf_length]; exact hm))
  omega)
 have h0 := List.idxOf_lt_length_of_mem (cell_mem hs 0 (by rw [numsOf_length]; exact hpos))
 obtain ⟨y, hy⟩ : ∃ y, (ordAll (numsOf p))[(ordAll (numsOf p)).length - 1]? = some y := ⟨_, List.getElem?_eq_getElem (by omega)⟩
 obtain ⟨m, hm, hv⟩ := mem_cell hs y (List.mem_of_getElem? hy)
 rw [numsOf_length] at hm
 have hge := maxN_ge (numsOf p) (wideOf (numsOf p)) _ m hm
 have hi := (idx_iff (ordAll_nodup (numsOf p)) hy (List.mem_of_getElem? hy)).2 rfl
 rw [hc m hm, hv] at hge
 omega
theorem Canon.room {p : List ByteArray} (h : Canon p) (i : Nat) (hi : i < (roomsOf (numsOf p)).length) : let b := (roomsOf (numsOf p)).getD i zeroR
  roomOut (roomN (numsOf p) (wideOf (numsOf p)) (i : Int) (p.length : Int) (wideOf (numsOf p) : Int) (p.length * wideOf (numsOf p))) = (b.f0, b.f1, b.f2, b.f3) ∧ countN (numsOf p) (wideOf (numsOf p)) (i : Int) (p.length * wideOf (numsOf p)) ≤ areaR b ∧ boundR b p.length (wideOf (numsOf p)) := by
 intro b
 have hs := h.shape
 obtain ⟨x, hx, hb, hbd⟩ := rooms_box hs i hi
 rw [numsOf_length] at hb hbd
 have hiff : ∀ m, m < p.length * wideOf (numsOf p) → (cellN (numsOf p) (wideOf (numsOf p)) m = (i : Int) ↔ valAt (numsOf p) (m / wideOf (numsOf p)) (m % wideOf (numsOf p)) = x) := fun m hm => by
  rw [h.cell m hm]
  exact idx_iff (ordAll_nodup _) hx (cell_mem hs m (by rw [numsOf_length]; exact hm))
 refine ⟨room_box hiff hb hbd _ _ (Int.le_refl _) (Int.le_refl _), ?_, hbd⟩
 rw [← countB_all b p.length (wideOf (numsOf p)) hbd]
 exact countN_le_B _ _ _ _ _ (fun m hm hv => hb.ins m hm ((hiff m hm).1 hv))
theorem Canon.sum {p : List ByteArray} (h : Canon p) : sumI (fun x => countN (numsOf p) (wideOf (numsOf p)) (x : Int) (p.length * wideOf (numsOf p))) (roomsOf (numsOf p)).length = ((p.length * wideOf (numsOf p) : Nat) : Int) := by
 refine count_sum _ _ _ _ (fun m hm => ?_)
 rw [h.cell m hm]
 have := List.idxOf_lt_length_of_mem (cell_mem h.shape m (by rw [numsOf_length]; exact hm))
 have := rooms_len h.shape
 omega
theorem sumArea_sumI (rs : List Rc) : sumArea rs = sumI (fun x => areaR (rs.getD x zeroR)) rs.length := by
 have : ∀ n, n ≤ rs.length → sumArea (rs.take n) = sumI (fun x => areaR (rs.getD x zeroR)) n := by
  intro n
  induction n with
  | zero => intro _; simp [sumArea, sumI]
  | succ n ih => intro hn; rw [sum_take rs n (by omega), ih (by omega)]; rfl
 have h := this rs.length (Nat.le_refl _)
 rwa [List.take_length] at h
def fullB (p : List ByteArray) (x : Nat) : Bool := decide (countN (numsOf p) (wideOf (numsOf p)) (x : Int) (p.length * wideOf (numsOf p)) = areaR ((roomsOf (numsOf p)).getD x zeroR))
theorem full_iff {p : List ByteArray} (h : Canon p) : (List.range (roomsOf (numsOf p)).length).all (fullB p) = decide (sumArea (roomsOf (numsOf p)) = (p.length : Int) * (wideOf (numsOf p) : Int)) := by
 rw [Bool.eq_iff_iff, List.all_eq_true, decide_eq_true_eq, sumArea_sumI, ← Int.natCast_mul, ← h.sum]
 constructor
 ·intro hall
  refine (sumI_congr _ (fun x hx => ?_)).symm
  have := hall x (List.mem_range.2 hx)
  unfold fullB at this
  exact of_decide_eq_true this
 ·intro he x hx
  have := sumI_eq _ (fun x hx => (h.room x hx).2.1) he.symm x (List.mem_range.1 hx)
  unfold fullB
  exact decide_eq_true this
theorem planIn_l0 {p : List ByteArray} (h : Canon p) : ∀ m r, r + m = (roomsOf (numsOf p)).length → Evs (fun k => spec_PlanIn.l0 k p (r : Int)) (((List.range (roomsOf (numsOf p)).length).drop r).all (fullB p)) := by
 have hsm := gridOk_small h.grid
 obtain ⟨s1, s2, s3, s4, s5⟩ := (shapeOk_iff _).1 h.shape
 rw [numsOf_length] at s1 s2
 have hR := l1Rooms_ev p _ hsm
 rw [h.max] at hR
 have hrl : (roomsOf (numsOf p)).length ≤ 36 := by have := rooms_len h.shape; have := shape_order h.shape; omega
 intro m
 induction m with
 | zero =>
  intro r hr
  rw [List.drop_eq_nil_of_le (by simp; omega)]
  refine Evs.step (h := fun k => (spec_l1Rooms.f k p).bind fun t => if (r : Int) < t then ((spec_l1Room.f k p (r : Int)).bind fun bt161 => ((spec_l1Cells.f k p (r : Int)).bind fun t165 => (if t165 = (wrap64 (bt161.2.2.1 * bt161.2.2.2)) then (spec_PlanIn.l0 k p (wrap64 ((r : Int) + 1))) else (some false)))) else some true) (fun k => ?_) (Evs.bind hR ?_)
  ·conv => lhs; unfold spec_PlanIn.l0
  ·refine Evs.congr (h := fun _ => some true) (fun k => ?_) (Evs.const _)
   try dsimp only
   rw [if_neg (by omega)]
 | succ m ih =>
  intro r hr
  obtain ⟨q1, q2, q3⟩ := h.room r (by omega)
  have hroom := l1Room_ev p _ hsm s1 (r : Int)
  have hcnt := l1Cells_ev p _ hsm (r : Int)
  rw [q1] at hroom
  have hab := area_bound q3 s2 s4
  have hdrop : (List.range (roomsOf (numsOf p)).length).drop r = r :: (List.range (roomsOf (numsOf p)).length).drop (r + 1) := by
   rw [List.drop_eq_getElem_cons (by simp; omega)]
   simp
  rw [hdrop, List.all_cons]
  refine Evs.step (h := fun k => (spec_l1Rooms.f k p).bind fun t => if (r : Int) < t then ((spec_l1Room.f k p (r : Int)).bind fun bt161 => ((spec_l1Cells.f k p (r : Int)).bind fun t165 => (if t165 = (wrap64 (bt161.2.2.1 * bt161.2.2.2)) then (spec_PlanIn.l0 k p (wrap64 ((r : Int) + 1))) else (some false)))) else some true) (fun k => ?_) (Evs.bind hR ?_)
  ·conv => lhs; unfold spec_PlanIn.l0
  ·refine Evs.congr (h := fun k => ((spec_l1Room.f k p (r : Int)).bind fun bt161 => ((spec_l1Cells.f k p (r : Int)).bind fun t165 => (if t165 = (wrap64 (bt161.2.2.1 * bt161.2.2.2)) then (spec_PlanIn.l0 k p (wrap64 ((r : Int) + 1))) else (some false))))) (fun k => ?_) ?_
   ·try dsimp only
    rw [if_pos (by omega)]
   ·refine Evs.bind hroom (Evs.bind hcnt ?_)
    try dsimp only
    have hw : wrap64 (((roomsOf (numsOf p)).getD r zeroR).f2 * ((roomsOf (numsOf p)).getD r zeroR).f3) = areaR ((roomsOf (numsOf p)).getD r zeroR) := by
     have h3 := hab
     unfold areaR at h3 ⊢
     exact wrap64_small (by omega) (by omega)
    rw [hw]
    have hnx := ih (r + 1) (by omega)
    by_cases hf : countN (numsOf p) (wideOf (numsOf p)) (r : Int) (p.length * wideOf (numsOf p)) = areaR ((roomsOf (numsOf p)).getD r zeroR)
    ·have : fullB p r = true := decide_eq_true hf
     rw [this, Bool.true_and]
     refine Evs.congr (fun k => ?_) hnx
     rw [if_pos hf, wrap_succ (by omega)]
    ·have : fullB p r = false := decide_eq_false hf
     rw [this, Bool.false_and]
     refine Evs.congr (h := fun _ => some false) (fun k => ?_) (Evs.const _)
     rw [if_neg hf]
theorem planIn_j0 (k : Nat) (p : List ByteArray) (b : Bool) : spec_PlanIn.j0 (k + 1) p b = if b = true then some false else spec_PlanIn.l0 k p 0 := by simp only [spec_PlanIn.j0]
def planB (p : List ByteArray) : Bool := (floorF p).isSome
theorem settled_shape {rows : List (List Int)} (h : shapeOk rows = true) : settledF rows = if (roomsOf rows).length ≤ 9 then some (canon rows, roomsOf rows, decide (sumArea (roomsOf rows) = (rows.length : Int) * (wideOf rows : Int))) else none := by
 unfold settledF
 rw [if_pos h, cellsOf_canon h]
theorem floorF_grid {p : List ByteArray} (h : gridOk p = true) : floorF p = if (roomsOf (numsOf p)).length ≤ 9 ∧ sumArea (roomsOf (numsOf p)) = (p.length : Int) * (wideOf (numsOf p) : Int) ∧ namesOf p = p then some (canon (numsOf p), roomsOf (numsOf p)) else none := by
 unfold gridOk at h
 rw [Bool.and_eq_true] at h
 unfold floorF readF
 rw [if_pos h.2, settled_shape h.1, numsOf_length]
 by_cases h9 : (roomsOf (numsOf p)).length ≤ 9
 ·rw [if_pos h9]
  simp only [Option.bind_some, decide_eq_true_eq]
  rw [show textOf (canon (numsOf p)) = namesOf p from rfl]
  by_cases hs : sumArea (roomsOf (numsOf p)) = (p.length : Int) * (wideOf (numsOf p) : Int) ∧ namesOf p = p
  ·rw [if_pos hs, if_pos ⟨h9, hs⟩]
  ·rw [if_neg hs, if_neg (fun hh => hs hh.2)]
 ·rw [if_neg h9, if_neg (fun hh => h9 hh.1)]
  rfl
theorem floorF_nogrid {p : List ByteArray} (h : gridOk p = false) : floorF p = none := by
 unfold floorF readF
 unfold gridOk at h
 by_cases ha : p.all okText = true
 ·rw [ha, Bool.and_true] at h
  rw [if_pos ha]
  unfold settledF
  rw [if_neg (by rw [h]; simp)]
  rfl
 ·rw [if_neg ha]
  rfl
theorem PlanIn_ev (p : List ByteArray) (hp : smallP p) : Evs (fun k => spec_PlanIn.f k p) (planB p) := by
 have hg := l1Grid_ev p hp
 cases hG : gridOk p
 ·rw [hG] at hg
  have : planB p = false := by unfold planB; rw [floorF_nogrid hG]; rfl
  rw [this]
  refine Evs.bind hg ?_
  refine Evs.congr (h := fun k => spec_PlanIn.j0 k p true) (fun k => ?_) (Evs.step (h := fun _ => some false) (fun k => ?_) (Evs.const _))
  ·try dsimp only
   rw [if_neg (by simp)]
  ·rw [planIn_j0]
   rw [if_pos rfl]
 ·rw [hG] at hg
  have hs : shapeOk (numsOf p) = true := by
   unfold gridOk at hG
   rw [Bool.and_eq_true] at hG
   exact hG.1
  have hn := l1Names_ev p hp (by have := shape_order hs; omega)
  have hsame := l1Same_ev (namesOf p) p (by simp [namesOf, textOf, canon, canonL, numsOf]; have := hp.1; omega)
  refine Evs.bind hg ?_
  refine Evs.congr (h := fun k => (spec_l1Names.f k p).bind fun t155 => ((spec_l1Same.f k t155 p).bind fun t158 => (if t158 = true then ((spec_l1Rooms.f k p).bind fun t159 => (spec_PlanIn.j0 k p (decide (t159 > 9)))) else (spec_PlanIn.j0 k p true)))) (fun k => ?_) (Evs.bind hn (Evs.bind hsame ?_))
  ·try dsimp only
   rw [if_pos rfl]
  ·unfold planB
   rw [floorF_grid hG]
   by_cases hN : namesOf p = p
   ·have hC : Canon p := ⟨hG, hN⟩
    have hR := l1Rooms_ev p _ (gridOk_small hG)
    rw [hC.max] at hR
    refine Evs.congr (h := fun k => (spec_l1Rooms.f k p).bind fun t159 => (spec_PlanIn.j0 k p (decide (t159 > 9)))) (fun k => ?_) (Evs.bind hR ?_)
    ·try dsimp only
     rw [decide_eq_true hN, if_pos rfl]
    ·by_cases h9 : (roomsOf (numsOf p)).length ≤ 9
     ·refine Evs.step (h := fun k => spec_PlanIn.l0 k p ((0 : Nat) : Int)) (fun k => ?_) ?_
      ·try dsimp only
       rw [planIn_j0]
       rw [decide_eq_false (by omega), if_neg (by simp)]
       rfl
      ·have := planIn_l0 hC (roomsOf (numsOf p)).length 0 (by omega)
       rw [List.drop_zero, full_iff hC] at this
       by_cases hsum : sumArea (roomsOf (numsOf p)) = (p.length : Int) * (wideOf (numsOf p) : Int)
       ·rw [decide_eq_true hsum] at this
        rw [if_pos ⟨h9, hsum, hN⟩]
        exact this
       ·rw [decide_eq_false hsum] at this
        rw [if_neg (fun hh => hsum hh.2.1)]
        exact this
     ·rw [if_neg (fun hh => h9 hh.1)]
      refine Evs.step (h := fun _ => some false) (fun k => ?_) (Evs.const _)
      try dsimp only
      rw [planIn_j0]
      rw [decide_eq_true (by omega), if_pos rfl]
   ·rw [if_neg (fun hh => hN hh.2.2)]
    refine Evs.congr (h := fun k => spec_PlanIn.j0 k p true) (fun k => ?_) (Evs.step (h := fun _ => some false) (fun k => ?_) (Evs.const _))
    ·try dsimp only
     rw [decide_eq_false hN, if_neg (by simp)]
    ·rw [planIn_j0]
     rw [if_pos rfl]
end Go.Proofs.Ytjaolkfjpnpglaa.Hd
namespace Go.Proofs.Ytjaolkfjpnpglaa.Hd
open Go.RowKit Go.Proofs.YtjaolkfjpnpglaaW.PrintWords Go.Proofs.YtjaolkfjpnpglaaW.PrintLast Go.Proofs.YtjaolkfjpnpglaaW.PrintMore Go.Proofs.Ytjaolkfjpnpglaa.PB
set_option linter.unusedVariables false
set_option linter.unusedSimpArgs false
def mapG (f : Int → Int) (rows : List (List Int)) : List (List Int) := rows.map fun r => r.map f
def InjOn (f : Int → Int) (S : Int → Prop) : Prop := ∀ a b, S a → S b → f a = f b → a = b
theorem idxOf_map (f : Int → Int) (S : Int → Prop) (hf : InjOn f S) (x : Int) (hx : S x) : ∀ L : List Int, (∀ y ∈ L, S y) → (L.map f).idxOf (f x) = L.idxOf x
 | [], _ => rfl
 | y :: r, h => by
  rw [List.map_cons, List.idxOf_cons, List.idxOf_cons]
  by_cases he : y = x
  ·subst he; simp
  ·have : f y ≠ f x := fun e => he (hf y x (h y List.mem_cons_self) hx e)
   have h1 : (f y == f x) = false := by simp [this]
   have h2 : (y == x) = false := by simp [he]
   rw [h1, h2, idxOf_map f S hf x hx r (fun z hz => h z (List.mem_cons_of_mem _ hz))]
theorem pushL_map (f : Int → Int) (S : Int → Prop) (hf : InjOn f S) (x : Int) (hx : S x) (o : List Int) (ho : ∀ y ∈ o, S y) : pushL (o.map f) (f x) = (pushL o x).map f := by
 have hiff : f x ∈ o.map f ↔ x ∈ o := by
  rw [List.mem_map]
  constructor
  ·rintro ⟨y, hy, e⟩
   rw [← hf y x (ho y hy) hx e]
   exact hy
  ·exact fun h => ⟨x, h, rfl⟩
 unfold pushL
 by_cases h : x ∈ o
 ·rw [if_pos h, if_pos (hiff.2 h)]
 ·rw [if_neg h, if_neg (fun hh => h (hiff.1 hh))]
  simp
theorem pushL_all {S : Int → Prop} {x : Int} (hx : S x) {o : List Int} (ho : ∀ y ∈ o, S y) : ∀ y ∈ pushL o x, S y := by
 intro y hy
 unfold pushL at hy
 split at hy
 ·exact ho y hy
 ·rcases List.mem_append.1 hy with h | h
  ·exact ho y h
  ·simp at h; subst h; exact hx
theorem ordL_map (f : Int → Int) (S : Int → Prop) (hf : InjOn f S) : ∀ (xs o : List Int), (∀ y ∈ xs, S y) → (∀ y ∈ o, S y) → ordL (xs.map f) (o.map f) = (ordL xs o).map f
 | [], o, _, _ => rfl
 | x :: r, o, h, ho => by
  show ordL (r.map f) (pushL (o.map f) (f x)) = (ordL r (pushL o x)).map f
  have hx := h x List.mem_cons_self
  rw [pushL_map f S hf x hx o ho]
  exact ordL_map f S hf r (pushL o x) (fun z hz => h z (List.mem_cons_of_mem _ hz)) (pushL_all hx ho)
theorem mapG_length (f : Int → Int) (rows : List (List Int)) : (mapG f rows).length = rows.length := by simp [mapG]
theorem mapG_flatten (f : Int → Int) (rows : List (List Int)) : (mapG f rows).flatten = rows.flatten.map f := by
 unfold mapG
 rw [List.map_flatten]
theorem mapG_wide (f : Int → Int) (rows : List (List Int)) : wideOf (mapG f rows) = wideOf rows := by
 unfold wideOf mapG
 cases rows with
 | nil => rfl
 | cons a r => simp
theorem mapG_shape (f : Int → Int) (rows : List (List Int)) : shapeOk (mapG f rows) = shapeOk rows := by
 rw [Bool.eq_iff_iff, shapeOk_iff, shapeOk_iff, mapG_length, mapG_wide]
 have : (∀ r ∈ mapG f rows, r.length = wideOf rows) ↔ (∀ r ∈ rows, r.length = wideOf rows) := by
  constructor
  ·intro h r hr
   have := h (r.map f) (List.mem_map.2 ⟨r, hr, rfl⟩)
   simpa using this
  ·intro h r hr
   obtain ⟨a, ha, rfl⟩ := List.mem_map.1 hr
   rw [List.length_map]
   exact h a ha
 rw [this]
def Vals (rows : List (List Int)) (x : Int) : Prop := x ∈ rows.flatten
theorem ordAll_map {f : Int → Int} {rows : List (List Int)} (hf : InjOn f (Vals rows)) : ordAll (mapG f rows) = (ordAll rows).map f := by
 unfold ordAll
 rw [mapG_flatten]
 exact ordL_map f (Vals rows) hf rows.flatten [] (fun y hy => hy) (by simp)
theorem ordAll_vals (rows : List (List Int)) : ∀ y ∈ ordAll rows, Vals rows y := by
 intro y hy
 rcases ordL_sub _ _ y hy with h | h
 ·cases h
 ·exact h
theorem canon_map {f : Int → Int} {rows : List (List Int)} (hf : InjOn f (Vals rows)) : canon (mapG f rows) = canon rows := by
 unfold canon canonL
 rw [ordAll_map hf]
 unfold mapG
 rw [List.map_map]
 apply List.map_congr_left
 intro r hr
 show (r.map f).map _ = _
 rw [List.map_map]
 apply List.map_congr_left
 intro x hx
 show (((ordAll rows).map f).idxOf (f x) : Int) = _
 rw [idxOf_map f (Vals rows) hf x (List.mem_flatten.2 ⟨r, hr, hx⟩) _ (ordAll_vals rows)]
theorem valAt_map {rows : List (List Int)} {wi r c : Nat} (h : Rect wi rows) (f : Int → Int) (hr : r < rows.length) (hc : c < wi) : valAt (mapG f rows) r c = f (valAt rows r c) := by
 have := congrArg (fun R => valAt R r c) (rect_map h f)
 unfold mapG
 rw [show valAt (rows.map fun r => r.map f) r c = valAt (gridOf rows.length wi fun r c => f (valAt rows r c)) r c from this, valAt_gridOf hr hc]
theorem val_mem {rows : List (List Int)} {wi r c : Nat} (h : Rect wi rows) (hr : r < rows.length) (hc : c < wi) : Vals rows (valAt rows r c) := by
 obtain ⟨row, h1, h2⟩ := valAt_get h hr hc
 exact List.mem_flatten.2 ⟨row, List.mem_of_getElem? h1, List.mem_of_getElem? h2⟩
theorem stAt_map {f : Int → Int} {rows : List (List Int)} {wi : Nat} (h : Rect wi rows) (hf : InjOn f (Vals rows)) : ∀ n, n ≤ rows.length * wi → stAt (mapG f rows) wi n = ((stAt rows wi n).1.map f, (stAt rows wi n).2)
 | 0, _ => rfl
 | n + 1, hn => by
  have hwi : 0 < wi := by
   rcases Nat.eq_zero_or_pos wi with h0 | h0
   ·subst h0; simp at hn
   ·exact h0
  have hr : n / wi < rows.length := by rw [Nat.div_lt_iff_lt_mul hwi]; omega
  have hc := Nat.mod_lt n hwi
  have hvals : ∀ y ∈ (stAt rows wi n).1, Vals rows y := by
   rw [stAt_ord h n (by omega)]
   intro y hy
   rcases ordL_sub _ _ y hy with h1 | h1
   ·cases h1
   ·exact List.mem_of_mem_take h1
  have hv := val_mem h hr hc
  simp only [stAt]
  rw [stAt_map h hf n (by omega), valAt_map h f hr hc]
  have hiff : f (valAt rows (n / wi) (n % wi)) ∈ (stAt rows wi n).1.map f ↔ valAt rows (n / wi) (n % wi) ∈ (stAt rows wi n).1 := by
   rw [List.mem_map]
   constructor
   ·rintro ⟨y, hy, e⟩
    rw [← hf y _ (hvals y hy) hv e]
    exact hy
   ·exact fun h => ⟨_, h, rfl⟩
  unfold stepS
  by_cases hm : valAt rows (n / wi) (n % wi) ∈ (stAt rows wi n).1
  ·rw [if_pos hm, if_pos (hiff.2 hm)]
   simp only
   rw [idxOf_map f (Vals rows) hf _ hv _ hvals]
  ·rw [if_neg hm, if_neg (fun hh => hm (hiff.1 hh))]
   simp
theorem rooms_map {f : Int → Int} {rows : List (List Int)} (hs : shapeOk rows = true) (hf : InjOn f (Vals rows)) : roomsOf (mapG f rows) = roomsOf rows := by
 unfold roomsOf
 rw [mapG_length, mapG_wide, stAt_map (shape_rect hs) hf _ (Nat.le_refl _)]
theorem settled_map {f : Int → Int} {rows : List (List Int)} (hf : InjOn f (Vals rows)) : settledF (mapG f rows) = settledF rows := by
 by_cases hs : shapeOk rows = true
 ·rw [settled_shape hs, settled_shape (by rw [mapG_shape]; exact hs), rooms_map hs hf, canon_map hf, mapG_length, mapG_wide]
 ·unfold settledF
  rw [if_neg hs, if_neg (by rw [mapG_shape]; exact hs)]
theorem plan_map {f : Int → Int} {rows : List (List Int)} (hf : InjOn f (Vals rows)) : planF (mapG f rows) = planF rows := by
 unfold planF
 rw [settled_map hf]
def doneF (t : List ByteArray) : List ByteArray × Bool := if t.all okText = true then planF (numsOf t) else ([], false)
theorem planF_shape {rows : List (List Int)} (h : shapeOk rows = true) : planF rows = if (roomsOf rows).length ≤ 9 ∧ sumArea (roomsOf rows) = (rows.length : Int) * (wideOf rows : Int) then (textOf (canon rows), true) else ([], false) := by
 unfold planF
 rw [settled_shape h]
 by_cases h9 : (roomsOf rows).length ≤ 9
 ·rw [if_pos h9]
  by_cases hs : sumArea (roomsOf rows) = (rows.length : Int) * (wideOf rows : Int)
  ·rw [decide_eq_true hs, if_pos ⟨h9, hs⟩]
  ·rw [decide_eq_false hs, if_neg (fun hh => hs hh.2)]
 ·rw [if_neg h9, if_neg (fun hh => h9 hh.1)]
theorem planF_noshape {rows : List (List Int)} (h : shapeOk rows = false) : planF rows = ([], false) := by
 unfold planF settledF
 rw [if_neg (by rw [h]; simp)]
theorem names_nums {rows : List (List Int)} (h : shapeOk rows = true) : numsOf (textOf (canon rows)) = mapG (fun x => 97 + ((ordAll rows).idxOf x : Int)) rows := by
 rw [numsOf_textOf _ (canon_val h)]
 unfold canon canonL mapG
 rw [List.map_map]
 apply List.map_congr_left
 intro r hr
 show (r.map _).map _ = _
 rw [List.map_map]
 rfl
theorem names_inj (rows : List (List Int)) : InjOn (fun x => 97 + ((ordAll rows).idxOf x : Int)) (Vals rows) := by
 intro a b ha hb e
 have e2 : (ordAll rows).idxOf a = (ordAll rows).idxOf b := by
  have : (97 : Int) + ((ordAll rows).idxOf a : Int) = 97 + ((ordAll rows).idxOf b : Int) := e
  omega
 have h1 := List.idxOf_lt_length_of_mem (ordL_mem rows.flatten [] a ha)
 have h2 := List.idxOf_lt_length_of_mem (ordL_mem rows.flatten [] b hb)
 have e3 : (ordAll rows)[(ordAll rows).idxOf a]'h1 = a := List.getElem_idxOf h1
 have e4 : (ordAll rows)[(ordAll rows).idxOf b]'h2 = b := List.getElem_idxOf h2
 rw [← e3, ← e4]
 congr 1
theorem names_plan {rows : List (List Int)} (h : shapeOk rows = true) : planB (textOf (canon rows)) = decide ((roomsOf rows).length ≤ 9 ∧ sumArea (roomsOf rows) = (rows.length : Int) * (wideOf rows : Int)) := by
 have hn := names_nums h
 have hinj := names_inj rows
 have hl : (textOf (canon rows)).length = rows.length := by simp [textOf, canon, canonL]
 have hnm : namesOf (textOf (canon rows)) = textOf (canon rows) := by
  unfold namesOf
  rw [hn, canon_map hinj]
 unfold planB
 cases hG : gridOk (textOf (canon rows))
 ·rw [floorF_nogrid hG]
  have : ¬ (roomsOf rows).length ≤ 9 := by
   intro h9
   have hL := rooms_len h
   have ht : gridOk (textOf (canon rows)) = true := by
    unfold gridOk
    rw [Bool.and_eq_true, hn, mapG_shape]
    refine ⟨h, ?_⟩
    rw [List.all_eq_true]
    intro s hs
    obtain ⟨r, hr, rfl⟩ := List.mem_map.1 hs
    unfold okText
    rw [bytesOf_rowText r (canon_val h r hr), List.all_eq_true]
    intro x hx
    obtain ⟨y, hy, rfl⟩ := List.mem_map.1 hx
    unfold canon canonL at hr
    obtain ⟨r0, hr0, rfl⟩ := List.mem_map.1 hr
    obtain ⟨z, hz, rfl⟩ := List.mem_map.1 hy
    have := List.idxOf_lt_length_of_mem (ordL_mem rows.flatten [] z (List.mem_flatten.2 ⟨r0, hr0, hz⟩))
    have h3 : (ordAll rows).idxOf z < (ordAll rows).length := this
    simp only [okLetter, Bool.not_eq_true', Bool.or_eq_false_iff, decide_eq_false_iff_not]
    omega
   rw [hG] at ht
   cases ht
  rw [decide_eq_false (fun hh => this hh.1)]
  rfl
 ·rw [floorF_grid hG, hn, rooms_map h hinj, mapG_wide, hl]
  by_cases hc : (roomsOf rows).length ≤ 9 ∧ sumArea (roomsOf rows) = (rows.length : Int) * (wideOf rows : Int)
  ·rw [if_pos ⟨hc.1, hc.2, hnm⟩, decide_eq_true hc]
   rfl
  ·rw [if_neg (fun hh => hc ⟨hh.1, hh.2.1⟩), decide_eq_false hc]
   rfl
theorem l1Done_j0 (k : Nat) (p : List ByteArray) (b : Bool) : spec_l1Done.j0 (k + 1) p b = if b = true then ((spec_l1None.f).bind fun bt177 => (some (bt177.1, bt177.2))) else ((spec_l1Names.f k p).bind fun t181 => (some (t181, true))) := by simp only [spec_l1Done.j0]
theorem l1None_f : spec_l1None.f = some ([], false) := rfl
theorem small_names {p : List ByteArray} (hp : smallP p) : smallP (namesOf p) := by
 have hl : (namesOf p).length = p.length := by simp [namesOf, textOf, canon, canonL, numsOf]
 refine ⟨by rw [hl]; exact hp.1, fun s hs => ?_⟩
 unfold namesOf textOf canon canonL numsOf at hs
 rw [List.map_map, List.map_map] at hs
 obtain ⟨s0, h0, rfl⟩ := List.mem_map.1 hs
 have := hp.2 s0 h0
 have hb := bytesOf_length s0
 show (rowText _).size ≤ _
 unfold rowText rowBytes
 show ((List.map letterOf (List.map _ (bytesOf s0))).toArray).size ≤ _
 simp
 omega
theorem l1Done_ev (t : List ByteArray) (hp : smallP t) : Evs (fun k => spec_l1Done.f k t) (doneF t) := by
 have hg := l1Grid_ev t hp
 cases hG : gridOk t
 ·rw [hG] at hg
  have hd : doneF t = ([], false) := by
   unfold doneF
   unfold gridOk at hG
   by_cases ha : t.all okText = true
   ·rw [ha, Bool.and_true] at hG
    rw [if_pos ha, planF_noshape hG]
   ·rw [if_neg ha]
  rw [hd]
  refine Evs.bind hg ?_
  refine Evs.congr (h := fun k => spec_l1Done.j0 k t true) (fun k => ?_) (Evs.step (h := fun _ => some ([], false)) (fun k => ?_) (Evs.const _))
  ·rw [if_neg (by simp)]
  ·rw [l1Done_j0, if_pos rfl, l1None_f]
   rfl
 ·rw [hG] at hg
  have hG2 := hG
  unfold gridOk at hG2
  rw [Bool.and_eq_true] at hG2
  have hs := hG2.1
  have hd : doneF t = if (roomsOf (numsOf t)).length ≤ 9 ∧ sumArea (roomsOf (numsOf t)) = ((numsOf t).length : Int) * (wideOf (numsOf t) : Int) then (namesOf t, true) else ([], false) := by
   unfold doneF
   rw [if_pos hG2.2, planF_shape hs]
   rfl
  have hn := l1Names_ev t hp (by have := shape_order hs; omega)
  have hpl := PlanIn_ev (namesOf t) (small_names hp)
  rw [show planB (namesOf t) = _ from names_plan hs] at hpl
  rw [hd]
  refine Evs.bind hg ?_
  refine Evs.congr (h := fun k => (spec_l1Names.f k t).bind fun t173 => ((spec_PlanIn.f k t173).bind fun t176 => (spec_l1Done.j0 k t (!t176)))) (fun k => ?_) (Evs.bind hn (Evs.bind hpl ?_))
  ·rw [if_pos rfl]
  ·by_cases hc : (roomsOf (numsOf t)).length ≤ 9 ∧ sumArea (roomsOf (numsOf t)) = ((numsOf t).length : Int) * (wideOf (numsOf t) : Int)
   ·rw [if_pos hc, decide_eq_true hc]
    refine Evs.step (h := fun k => (spec_l1Names.f k t).bind fun t181 => (some (t181, true))) (fun k => ?_) (Evs.bind hn (Evs.const _))
    rw [l1Done_j0, if_neg (by simp)]
   ·rw [if_neg hc, decide_eq_false hc]
    refine Evs.step (h := fun _ => some ([], false)) (fun k => ?_) (Evs.const _)
    rw [l1Done_j0, if_pos (by simp), l1None_f]
    rfl
end Go.Proofs.Ytjaolkfjpnpglaa.Hd
namespace Go.Proofs.Ytjaolkfjpnpglaa.Hd
open Go.RowKit Go.Proofs.YtjaolkfjpnpglaaW.PrintWords Go.Proofs.YtjaolkfjpnpglaaW.PrintLast Go.Proofs.YtjaolkfjpnpglaaW.PrintMore Go.Proofs.Ytjaolkfjpnpglaa.PB
set_option linter.unusedVariables false
set_option linter.unusedSimpArgs false
section
variable {α : Type} {g h : Nat → Option α} {r : α} {c : Prop} [Decidable c]
theorem Evs.pos (hc : c) (hg : Evs g r) : Evs (fun k => if c then g k else h k) r := Evs.congr (fun k => if_pos hc) hg
theorem Evs.neg (hc : ¬ c) (hh : Evs h r) : Evs (fun k => if c then g k else h k) r := Evs.congr (fun k => if_neg hc) hh
end
theorem textOf_len (cs : List (List Int)) : (textOf cs).length = cs.length := by simp [textOf]
theorem planF_len (rows : List (List Int)) : (planF rows).1.length ≤ 6 := by
 cases h : shapeOk rows with
 | false => rw [planF_noshape h]; simp
 | true =>
  rw [planF_shape h]
  split
  ·obtain ⟨h1, h2, h3⟩ := (shapeOk_iff _).1 h
   simp [textOf_len, canon, canonL]
   omega
  ·simp
theorem remadeF_len (p : List ByteArray) (how : List (List Int) → List Rc → List (List Int)) : (remadeF p how).1.length ≤ 6 := by
 unfold remadeF
 split
 ·simp
 ·exact planF_len _
def fits (p : List ByteArray) : Prop := p.length ≤ 9223372036854775807 ∧ ∀ s ∈ p, s.size ≤ 9223372036854775807
theorem sz_loop (l : List ByteArray) (hl : l.length ≤ 1048576) (hs : ∀ s ∈ l, s.size ≤ 9223372036854775807) : ∀ m i (a : Int), i + m = l.length → 0 ≤ a → a ≤ 1048576 → (∀ j, j < i → ∀ s, l[j]? = some s → s.size ≤ 1048576) → ∃ v, Evs (fun k => laws_szStringS.l0 k l a (i : Int)) v ∧ (v < 0 ∨ (smallP l ∧ 0 ≤ v ∧ v ≤ a)) := by
 intro m
 induction m with
 | zero =>
  intro i a hi h0 h1 hj
  refine ⟨a, Evs.step (h := fun _ => some a) (fun k => ?_) (Evs.const _), .inr ⟨⟨hl, fun s hs => ?_⟩, h0, Int.le_refl _⟩⟩
  ·conv => lhs; unfold laws_szStringS.l0
   rw [if_neg (by omega)]
  ·obtain ⟨j, hj2, e⟩ := List.mem_iff_getElem.1 hs
   exact hj j (by omega) s (by rw [List.getElem?_eq_getElem hj2, e])
 | succ m ih =>
  intro i a hi h0 h1 hj
  obtain ⟨s, hsi⟩ : ∃ s, l[i]? = some s := ⟨_, List.getElem?_eq_getElem (by omega)⟩
  have hsz := hs s (List.mem_of_getElem? hsi)
  by_cases hneg : a - (s.size : Int) < 0
  ·refine ⟨-1, Evs.step (h := fun _ => some (-1)) (fun k => ?_) (Evs.const _), .inl (by omega)⟩
   conv => lhs; unfold laws_szStringS.l0
   rw [if_pos (by omega), if_pos (by omega), rdOf_at hsi, wrap64_small (by omega) (by omega), if_pos hneg]
  ·obtain ⟨v, hv, hor⟩ := ih (i + 1) (a - (s.size : Int)) (by omega) (by omega) (by omega) (fun j hj1 s1 h1 => by
    rcases Nat.lt_or_eq_of_le (Nat.lt_succ_iff.1 hj1) with h2 | h2
    ·exact hj j h2 s1 h1
    ·subst h2
     rw [hsi] at h1
     have := Option.some.inj h1
     subst this
     omega)
   refine ⟨v, Evs.step (h := fun k => laws_szStringS.l0 k l (a - (s.size : Int)) ((i + 1 : Nat) : Int)) (fun k => ?_) hv, ?_⟩
   ·conv => lhs; unfold laws_szStringS.l0
    rw [if_pos (by omega), if_pos (by omega), rdOf_at hsi, wrap64_small (x := a - (s.size : Int)) (by omega) (by omega), if_neg hneg, wrap_succ (by omega)]
   ·rcases hor with h | ⟨h2, h3, h4⟩
    ·exact .inl h
    ·exact .inr ⟨h2, h3, by omega⟩
theorem sz_ev (l : List ByteArray) (hf : fits l) (a : Int) (h0 : 0 ≤ a) (h1 : a ≤ 1048576) : ∃ v, Evs (fun k => laws_szStringS.f k l a) v ∧ (v < 0 ∨ (smallP l ∧ 0 ≤ v ∧ v ≤ a)) := by
 have hl := hf.1
 by_cases hneg : a - (l.length : Int) < 0
 ·refine ⟨-1, Evs.congr (h := fun _ => some (-1)) (fun k => ?_) (Evs.const _), .inl (by omega)⟩
  unfold laws_szStringS.f
  rw [wrap64_small (by omega) (by omega), if_pos hneg]
 ·obtain ⟨v, hv, hor⟩ := sz_loop l (by omega) hf.2 l.length 0 (a - (l.length : Int)) (by omega) (by omega) (by omega) (fun j hj => by omega)
  refine ⟨v, Evs.congr (fun k => ?_) hv, ?_⟩
  ·unfold laws_szStringS.f
   rw [wrap64_small (by omega) (by omega), if_neg hneg]
   rfl
  ·rcases hor with h | ⟨h2, h3, h4⟩
   ·exact .inl h
   ·exact .inr ⟨h2, h3, by omega⟩
theorem to_loop (l : List ByteArray) (hl : l.length ≤ 1048576) : ∀ m i, i + m = l.length → Evs (fun k => laws_toStringS.l0 k l (l.take i ++ List.replicate m (⟨#[]⟩ : ByteArray)) (i : Int)) l := by
 intro m
 induction m with
 | zero =>
  intro i hi
  refine Evs.step (h := fun _ => some l) (fun k => ?_) (Evs.const _)
  conv => lhs; unfold laws_toStringS.l0
  rw [if_neg (by omega), List.take_of_length_le (by omega)]
  simp
 | succ m ih =>
  intro i hi
  obtain ⟨s, hsi⟩ : ∃ s, l[i]? = some s := ⟨_, List.getElem?_eq_getElem (by omega)⟩
  refine Evs.step (h := fun k => laws_toStringS.l0 k l (l.take (i + 1) ++ List.replicate m (⟨#[]⟩ : ByteArray)) ((i + 1 : Nat) : Int)) (fun k => ?_) (ih (i + 1) (by omega))
  conv => lhs; unfold laws_toStringS.l0
  have hset : (l.take i ++ List.replicate (m + 1) (⟨#[]⟩ : ByteArray)).set i s = l.take (i + 1) ++ List.replicate m (⟨#[]⟩ : ByteArray) := by
   rw [List.set_append_right _ _ (by simp; omega), show i - (l.take i).length = 0 by simp; omega, List.replicate_succ, List.set_cons_zero, List.take_add_one, hsi]
   simp
  rw [if_pos (by omega), if_pos (by omega), if_pos (by simp; omega), rdOf_at hsi, Int.toNat_natCast, hset, wrap_succ (by omega)]
theorem toS_ev (l : List ByteArray) (hl : l.length ≤ 1048576) : Evs (fun k => laws_toStringS.f k l) l := by
 refine Evs.congr (fun k => ?_) (to_loop l hl l.length 0 (by omega))
 unfold laws_toStringS.f
 rw [if_pos (by omega), if_pos (by omega), Int.toNat_natCast]
 simp
theorem eq_loop (p q : List ByteArray) (hl : p.length = q.length) (hb : p.length ≤ 1048576) : ∀ m i, i + m = p.length → p.take i = q.take i → Evs (fun k => laws_eqStringS.l0 k p q (i : Int)) (decide (p = q)) := by
 intro m
 induction m with
 | zero =>
  intro i hi ht
  have e : p = q := by
   rw [show i = p.length by omega, List.take_length, hl, List.take_length] at ht
   exact ht
  refine Evs.step (h := fun _ => some (decide (p = q))) (fun k => ?_) (Evs.const _)
  conv => lhs; unfold laws_eqStringS.l0
  rw [if_neg (by omega), decide_eq_true e]
 | succ m ih =>
  intro i hi ht
  by_cases he : p[i] = q[i]
  ·refine Evs.step (h := fun k => laws_eqStringS.l0 k p q ((i + 1 : Nat) : Int)) (fun k => ?_) (ih (i + 1) (by omega) (by
    rw [List.take_add_one, List.take_add_one, ht, List.getElem?_eq_getElem (by omega), List.getElem?_eq_getElem (by omega), he]))
   conv => lhs; unfold laws_eqStringS.l0
   rw [if_pos (by omega), if_pos (by omega), if_pos (by omega), rdOf_get p i (by omega), rdOf_get q i (by omega), if_pos (toList_inj.2 he), wrap_succ (by omega)]
  ·have hne : p ≠ q := by rintro rfl; exact he rfl
   refine Evs.step (h := fun _ => some (decide (p = q))) (fun k => ?_) (Evs.const _)
   conv => lhs; unfold laws_eqStringS.l0
   rw [if_pos (by omega), if_pos (by omega), if_pos (by omega), rdOf_get p i (by omega), rdOf_get q i (by omega), if_neg (fun h => he (toList_inj.1 h)), decide_eq_false hne]
theorem eqS_ev (p q : List ByteArray) (hb : p.length ≤ 1048576) : Evs (fun k => laws_eqStringS.f k p q) (decide (p = q)) := by
 by_cases h : p.length = q.length
 ·refine Evs.congr (fun k => ?_) (eq_loop p q h hb p.length 0 (by omega) (by simp))
  unfold laws_eqStringS.f
  rw [if_pos (by omega)]
  rfl
 ·have hne : p ≠ q := by rintro rfl; exact h rfl
  refine Evs.congr (h := fun _ => some (decide (p = q))) (fun k => ?_) (Evs.const _)
  unfold laws_eqStringS.f
  rw [if_neg (by omega), decide_eq_false hne]
theorem eqS_same (p : List ByteArray) (hb : p.length ≤ 1048576) : Evs (fun k => laws_eqStringS.f k p p) true := by
 have := eqS_ev p p hb
 rwa [decide_eq_true rfl] at this
theorem append_size (a b : ByteArray) : (a ++ b).size = a.size + b.size := by simp
theorem mark_loop : ∀ (B n : Nat) (out : ByteArray), n ≤ B → out.size + n ≤ 1099511627776 → ∃ s, Evs (fun k => laws_markText.l0 k (n : Int) out) s
 | 0, n, out, hn, hb => by
  refine ⟨(⟨#[109]⟩ : ByteArray) ++ out, Evs.step (h := fun _ => some ((⟨#[109]⟩ : ByteArray) ++ out)) (fun k => ?_) (Evs.const _)⟩
  conv => lhs; unfold laws_markText.l0
  rw [if_neg (by omega), if_pos (by omega)]
 | B + 1, n, out, hn, hb => by
  rcases Nat.eq_zero_or_pos n with h0 | h0
  ·subst h0
   refine ⟨(⟨#[109]⟩ : ByteArray) ++ out, Evs.step (h := fun _ => some ((⟨#[109]⟩ : ByteArray) ++ out)) (fun k => ?_) (Evs.const _)⟩
   conv => lhs; unfold laws_markText.l0
   rw [if_neg (by omega), if_pos (by omega)]
  ·have hsz : (strOfNums [(wrap64 (48 + (Int.tmod (n : Int) 10))) % 256]).size = 1 := rfl
   obtain ⟨s, hs⟩ := mark_loop B (n / 10) (strOfNums [(wrap64 (48 + (Int.tmod (n : Int) 10))) % 256] ++ out) (by omega) (by rw [append_size, hsz]; omega)
   refine ⟨s, Evs.step (h := fun k => laws_markText.l0 k ((n / 10 : Nat) : Int) (strOfNums [(wrap64 (48 + (Int.tmod (n : Int) 10))) % 256] ++ out)) (fun k => ?_) hs⟩
   conv => lhs; unfold laws_markText.l0
   have hd : Int.tdiv (n : Int) 10 = ((n / 10 : Nat) : Int) := by rw [Int.tdiv_eq_ediv_of_nonneg (by omega)]; omega
   rw [if_pos (by omega)]
   simp only [Option.bind_some]
   rw [hsz, if_pos (by omega), hd, wrap64_small (x := ((n / 10 : Nat) : Int)) (by omega) (by omega)]
theorem mark_ex (n : Nat) : ∃ s, n ≤ 1099511627776 → Evs (fun k => laws_markText.f k (n : Int)) s := by
 by_cases hn : n ≤ 1099511627776
 ·rcases Nat.eq_zero_or_pos n with h0 | h0
  ·subst h0
   refine ⟨⟨#[109, 48]⟩, fun _ => Evs.congr (h := fun _ => some (⟨#[109, 48]⟩ : ByteArray)) (fun k => ?_) (Evs.const _)⟩
   unfold laws_markText.f
   rw [if_pos (by omega)]
  ·obtain ⟨s, hs⟩ := mark_loop n n ⟨#[]⟩ (Nat.le_refl _) (by show 0 + n ≤ _; omega)
   refine ⟨s, fun _ => Evs.congr (fun k => ?_) hs⟩
   unfold laws_markText.f
   rw [if_neg (by omega)]
 ·exact ⟨⟨#[]⟩, fun h => absurd h hn⟩
noncomputable def mkT (n : Nat) : ByteArray := (mark_ex n).choose
theorem mkT_ev (n : Nat) (hn : n ≤ 1099511627776) : Evs (fun k => laws_markText.f k (n : Int)) (mkT n) := (mark_ex n).choose_spec hn
noncomputable def marksOf (a n : Nat) : List ByteArray := (List.range n).map fun i => mkT (a + i)
theorem marksOf_length (a n : Nat) : (marksOf a n).length = n := by simp [marksOf]
theorem markS_loop (l : List ByteArray) (hl : l.length ≤ 1048576) (a : Nat) (ha : a ≤ 2097153) : ∀ m i, i + m = l.length → Evs (fun k => laws_markStringS.l0 k (marksOf a i ++ l.drop i) ((a + i : Nat) : Int) (i : Int)) (((a + l.length : Nat) : Int), marksOf a l.length) := by
 intro m
 induction m with
 | zero =>
  intro i hi
  obtain rfl : i = l.length := by omega
  refine Evs.step (h := fun _ => some (((a + l.length : Nat) : Int), marksOf a l.length)) (fun k => ?_) (Evs.const _)
  conv => lhs; unfold laws_markStringS.l0
  rw [if_neg (by simp [marksOf_length])]
  simp
 | succ m ih =>
  intro i hi
  have hset : (marksOf a i ++ l.drop i).set i (mkT (a + i)) = marksOf a (i + 1) ++ l.drop (i + 1) := by
   rw [List.set_append_right _ _ (by rw [marksOf_length]; exact Nat.le_refl _), marksOf_length, Nat.sub_self, List.drop_eq_getElem_cons (by omega), List.set_cons_zero]
   unfold marksOf
   rw [List.range_succ, List.map_append]
   simp
  refine Evs.step (h := fun k => (laws_markText.f k ((a + i : Nat) : Int)).bind fun t220 => laws_markStringS.l0 k ((marksOf a i ++ l.drop i).set i t220) ((a + (i + 1) : Nat) : Int) ((i + 1 : Nat) : Int)) (fun k => ?_) (Evs.bind (mkT_ev (a + i) (by omega)) (by rw [hset]; exact ih (i + 1) (by omega)))
  conv => lhs; unfold laws_markStringS.l0
  rw [if_pos (by simp [marksOf_length]; omega)]
  congr 1
  funext t
  have e : wrap64 (((a + i : Nat) : Int) + 1) = ((a + (i + 1) : Nat) : Int) := by rw [wrap64_small (by omega) (by omega)]; omega
  rw [if_pos (by omega), Int.toNat_natCast, wrap_succ (i := i) (by omega), e]
theorem markS_ev (l : List ByteArray) (hl : l.length ≤ 1048576) (a : Nat) (ha : a ≤ 2097153) : Evs (fun k => laws_markStringS.f k l (a : Int)) (((a + l.length : Nat) : Int), marksOf a l.length) := by
 have := markS_loop l hl a ha l.length 0 (by omega)
 refine Evs.congr (fun k => ?_) this
 unfold laws_markStringS.f
 simp [marksOf]
theorem heldS_loop (n : Nat) (hl : n ≤ 1048576) (a : Nat) (ha : a ≤ 2097153) : ∀ m i, i + m = n → Evs (fun k => laws_heldStringS.l0 k (marksOf a n) ((a + i : Nat) : Int) (i : Int)) ((a + n : Nat) : Int) := by
 intro m
 induction m with
 | zero =>
  intro i hi
  obtain rfl : i = n := by omega
  refine Evs.step (h := fun _ => some ((a + i : Nat) : Int)) (fun k => ?_) (Evs.const _)
  conv => lhs; unfold laws_heldStringS.l0
  rw [if_neg (by simp [marksOf_length])]
 | succ m ih =>
  intro i hi
  have hget : (marksOf a n)[i]? = some (mkT (a + i)) := by
   unfold marksOf
   rw [List.getElem?_map, List.getElem?_range (by omega)]
   rfl
  refine Evs.step (h := fun k => (laws_markText.f k ((a + i : Nat) : Int)).bind fun t223 => if (mkT (a + i)).toList = t223.toList then laws_heldStringS.l0 k (marksOf a n) ((a + (i + 1) : Nat) : Int) ((i + 1 : Nat) : Int) else some (-1)) (fun k => ?_) (Evs.bind (mkT_ev (a + i) (by omega)) (Evs.congr (fun k => ?_) (ih (i + 1) (by omega))))
  ·conv => lhs; unfold laws_heldStringS.l0
   rw [if_pos (by rw [marksOf_length]; omega), if_pos (by omega)]
   congr 1
   funext t
   have e : wrap64 (((a + i : Nat) : Int) + 1) = ((a + (i + 1) : Nat) : Int) := by rw [wrap64_small (by omega) (by omega)]; omega
   rw [rdOf_at hget, wrap_succ (i := i) (by omega), e]
  ·rw [if_pos rfl]
theorem heldS_ev (n : Nat) (hl : n ≤ 1048576) (a : Nat) (ha : a ≤ 2097153) : Evs (fun k => laws_heldStringS.f k (marksOf a n) (a : Int)) ((a + n : Nat) : Int) := heldS_loop n hl a ha n 0 (by omega)
end Go.Proofs.Ytjaolkfjpnpglaa.Hd
namespace Go.Proofs.Ytjaolkfjpnpglaa.Hd
open Go.RowKit Go.Proofs.YtjaolkfjpnpglaaW.PrintWords Go.Proofs.YtjaolkfjpnpglaaW.PrintLast Go.Proofs.YtjaolkfjpnpglaaW.PrintMore Go.Proofs.Ytjaolkfjpnpglaa.PB
set_option linter.unusedVariables false
set_option linter.unusedSimpArgs false
theorem wideF_len (p : List ByteArray) (k : Int) : (wideF p k).1.length ≤ 6 := by
 unfold wideF
 split
 ·exact remadeF_len _ _
 ·simp
def impl_PlanWide.f (l0 : List ByteArray) (a1 : Int) : Option (List ByteArray × Bool) := if smallB l0 = true then some (wideF l0 a1) else none
theorem impl_PlanWide.calls (A0 : Option Addr) (c0 : Nat) (l0 : List ByteArray) (a1 : Int) (r1 : List ByteArray) (r2 : Bool) (w : World) (hr0 : Kd.C Kd.string w A0 l0.length l0) (hc0 : l0.length ≤ c0) (h : impl_PlanWide.f l0 a1 = some (r1, r2)) :
  Calls Try.prog 29 #[.slice A0 l0.length c0, .int .i64 a1] w fun e w' => ∃ v0_ : Value, e = .returned (.tuple #[v0_, .bool r2]) ∧ Kd.R Kd.string 9 w' w.heap.size (fun _ => True) v0_ r1 ∧ Below w.heap.size w w' := by
 unfold impl_PlanWide.f at h
 split at h
 ·rename_i hs
  have e := Option.some.inj h
  have := PlanWide_calls A0 c0 l0 a1 w hr0 hc0 ((smallB_iff _).1 hs)
  rw [e] at this
  exact this
 ·cases h
end Go.Proofs.Ytjaolkfjpnpglaa.Hd
namespace Go.Proofs.Ytjaolkfjpnpglaa.LW
open Go.Proofs.Ytjaolkfjpnpglaa.PB Go.Proofs.Ytjaolkfjpnpglaa.Hd
open Go.RowKit Go.Proofs.YtjaolkfjpnpglaaW.PrintWords Go.Proofs.YtjaolkfjpnpglaaW.PrintLast Go.Proofs.YtjaolkfjpnpglaaW.PrintMore
attribute [local go_sem] max2_int min2_int max_two min_two max_three min_three max_four min_four   -- for this text's walks alone
set_option linter.unusedVariables false
set_option linter.unusedSimpArgs false
def errW : Option Int → Value
 | none => .nilIface
 | some c => .iface 0 (.int .i64 c)
theorem errW_none : errW none = .nilIface := rfl
theorem errW_some (c : Int) : errW (some c) = .iface 0 (.int .i64 c) := rfl
theorem info5 : (Try.prog.info? 5).map (fun i => (i.zero, i.size, i.bytes)) = some (some (.int .u8 0), 1, 1) := by kernel_rfl
theorem info9 : (Try.prog.info? 9).map (fun i => (i.zero, i.size, i.bytes)) = some (some (.string ⟨#[]⟩), 1, 16) := by kernel_rfl
def rd_L3 (xs : List (List Int)) (i : Int) : (List Int) := xs.getD i.toNat ([] : List Int)
theorem at_L3 {w : World} {A : Option Addr} {n : Nat} {xs : List (List Int)} (h : Kd.C (Kd.slice 3 (Kd.int .i64)) w A n xs) (i : Int) (h0 : 0 ≤ i) (h1 : i < n) : ∃ ad A0 c0, A = some ad ∧ w.cell? (ad.add i.toNat) = some (.slice A0 (rd_L3 xs i).length c0) ∧ (rd_L3 xs i).length ≤ c0 ∧ (Kd.int .i64).C w A0 (rd_L3 xs i).length (rd_L3 xs i) := by
 obtain ⟨ad, c, e, _, hK, hc0⟩ := Kd.C_get h ([] : List Int) i h0 h1
 have hc : ∀ j u, c[j]? = some u → w.cell? (ad.add (i.toNat * 1 + j)) = some u := hc0
 obtain ⟨A0, c0, rfl, l0, g0⟩ := hK
 exact ⟨ad, A0, c0, e, by have hq := hc 0 _ rfl; rwa [Nat.mul_one, Nat.add_zero] at hq, l0, g0⟩
structure S73 where
 f0 : Int
 f1 : Int
 f2 : Int
 f3 : Int
def z73 : S73 := ⟨(0 : Int), (0 : Int), (0 : Int), (0 : Int)⟩
def k73 : Kd S73 := Kd.iso (Kd.pair (Kd.int .i64) (Kd.pair (Kd.int .i64) (Kd.pair (Kd.int .i64) (Kd.int .i64)))) (fun x : S73 => (x.f0, x.f1, x.f2, x.f3))
theorem k73_open {w : World} {x : S73} {cs : List Value} (h : k73.K w x cs) : cs = [.int .i64 x.f0, .int .i64 x.f1, .int .i64 x.f2, .int .i64 x.f3] := by
 obtain ⟨_, _, rfl, rfl, ⟨_, _, rfl, rfl, ⟨_, _, rfl, rfl, rfl⟩⟩⟩ := h
 exact rfl
theorem k73_mkM (w : World) (base : Nat) (ok : Nat → Prop) (x : S73)  : k73.M w base ok x [.int .i64 x.f0, .int .i64 x.f1, .int .i64 x.f2, .int .i64 x.f3] := ⟨[.int .i64 x.f0], [.int .i64 x.f1, .int .i64 x.f2, .int .i64 x.f3], rfl, rfl, ⟨[.int .i64 x.f1], [.int .i64 x.f2, .int .i64 x.f3], rfl, rfl, ⟨[.int .i64 x.f2], [.int .i64 x.f3], rfl, rfl, rfl⟩⟩⟩
def rd_T73 (xs : List S73) (i : Int) : S73 := xs.getD i.toNat z73
theorem at_T73 {w : World} {A : Option Addr} {n : Nat} {xs : List S73} (h : Kd.C k73 w A n xs) (i : Int) (h0 : 0 ≤ i) (h1 : i < n) : ∃ ad , A = some ad ∧ w.cell? (ad.add (i.toNat * 4)) = some (.int .i64 (rd_T73 xs i).f0) ∧ w.cell? ⟨(ad.add (i.toNat * 4)).block, (ad.add (i.toNat * 4)).off + 1, none⟩ = some (.int .i64 (rd_T73 xs i).f1) ∧ w.cell? ⟨(ad.add (i.toNat * 4)).block, (ad.add (i.toNat * 4)).off + 2, none⟩ = some (.int .i64 (rd_T73 xs i).f2) ∧ w.cell? ⟨(ad.add (i.toNat * 4)).block, (ad.add (i.toNat * 4)).off + 3, none⟩ = some (.int .i64 (rd_T73 xs i).f3) := by
 obtain ⟨ad, c, e, _, hK, hc0⟩ := Kd.C_get h z73 i h0 h1
 have hc : ∀ j u, c[j]? = some u → w.cell? (ad.add (i.toNat * 4 + j)) = some u := hc0
 obtain rfl := k73_open hK
 exact ⟨ad, e, hc 0 _ rfl, by rw [← add_field _ _ 1 (by omega)]; exact hc 1 _ rfl, by rw [← add_field _ _ 2 (by omega)]; exact hc 2 _ rfl, by rw [← add_field _ _ 3 (by omega)]; exact hc 3 _ rfl⟩
end Go.Proofs.Ytjaolkfjpnpglaa.LW
namespace Go.Proofs.Ytjaolkfjpnpglaa.LW
open Go.Proofs.Ytjaolkfjpnpglaa.PB Go.Proofs.Ytjaolkfjpnpglaa.Hd
open Go.RowKit Go.Proofs.YtjaolkfjpnpglaaW.PrintWords Go.Proofs.YtjaolkfjpnpglaaW.PrintLast Go.Proofs.YtjaolkfjpnpglaaW.PrintMore
attribute [local go_sem] max2_int min2_int max_two min_two max_three min_three max_four min_four   -- for this text's walks alone
set_option linter.unusedVariables false
set_option linter.unusedSimpArgs false
mutual
def laws_FnExactPlanWide.j0 : Nat → List ByteArray → Int → List ByteArray → Bool → List ByteArray → List ByteArray → Bool → Bool → Option (Bool)
 | 0, _, _, _, _, _, _, _, _ => none
 | k + 1, x0, x1, x6, x7, x8, x9, x10, x44 => if x44 = true then (some false) else ((laws_toStringS.f k x0).bind fun t263 => ((laws_eqStringS.f k x8 t263).bind fun t266 => (if t266 = true then ((laws_markStringS.f k x8 1).bind fun bt267 => (if bt267.1 < 0 then (laws_FnExactPlanWide.j1 k x0 x1 x6 x7 x9 true) else ((laws_eqStringS.f k x9 x6).bind fun t269 => (if t269 = true then (laws_FnExactPlanWide.j1 k x0 x1 x6 x7 x9 (x10 != x7)) else (laws_FnExactPlanWide.j1 k x0 x1 x6 x7 x9 true))))) else (some false))))
def laws_FnExactPlanWide.j1 : Nat → List ByteArray → Int → List ByteArray → Bool → List ByteArray → Bool → Option (Bool)
 | 0, _, _, _, _, _, _ => none
 | k + 1, x0, x1, x6, x7, x9, x65 => if x65 = true then (some false) else ((laws_markStringS.f k x9 1).bind fun bt270 => ((laws_heldStringS.f k bt270.2 1).bind fun t272 => (if t272 < 0 then (some false) else (if t272 = bt270.1 then ((laws_toStringS.f k x0).bind fun t273 => ((impl_PlanWide.f t273 x1).bind fun bt276 => ((laws_eqStringS.f k bt276.1 x6).bind fun t280 => (if t280 = true then (laws_FnExactPlanWide.j2 k bt270.2 bt270.1 (bt276.2 != x7)) else (laws_FnExactPlanWide.j2 k bt270.2 bt270.1 true))))) else (some false)))))
def laws_FnExactPlanWide.j2 : Nat → List ByteArray → Int → Bool → Option (Bool)
 | 0, _, _, _ => none
 | k + 1, x9, x12, x92 => if x92 = true then (some false) else ((laws_heldStringS.f k x9 1).bind fun t281 => (if t281 < 0 then (some false) else (if t281 = x12 then (some true) else (some false))))
end
def laws_FnExactPlanWide.f (k : Nat) (l0 : List ByteArray) (a1 : Int) : Option (Bool) := (laws_szStringS.f k l0 1048576).bind fun t247 => (if t247 < 0 then (some true) else ((laws_toStringS.f k l0).bind fun t248 => ((spec_PlanWide.f k t248 a1).bind fun bt251 => ((laws_toStringS.f k l0).bind fun t255 => ((impl_PlanWide.f t255 a1).bind fun bt258 => ((laws_eqStringS.f k bt258.1 bt251.1).bind fun t262 => (if t262 = true then (laws_FnExactPlanWide.j0 k l0 a1 bt251.1 bt251.2 t255 bt258.1 bt258.2 (bt258.2 != bt251.2)) else (laws_FnExactPlanWide.j0 k l0 a1 bt251.1 bt251.2 t255 bt258.1 bt258.2 true))))))))
set_option maxHeartbeats 8000000 in
set_option maxRecDepth 100000 in
theorem laws_FnExactPlanWide.calls (k : Nat) (A0 : Option Addr) (c0 : Nat) (l0 : List ByteArray) (a1 : Int) (r : Bool) (w : World) (hr0 : Kd.C Kd.string w A0 l0.length l0) (hc0 : l0.length ≤ c0) (h : laws_FnExactPlanWide.f k l0 a1 = some r) :
  Calls Try.prog 7 #[.slice A0 l0.length c0, .int .i64 a1] w fun e w' => e = .returned (.bool r) ∧ Below w.heap.size w w' := by
 have HR0 := Aside0.mk hr0
 have HC0 := Aside0.mk hc0
 clear hr0 hc0
 have HB := Aside0.mk (Below.refl w.heap.size w)
 have H : ((laws_szStringS.f k l0 1048576).bind fun t247 => (if t247 < 0 then (some true) else ((laws_toStringS.f k l0).bind fun t248 => ((spec_PlanWide.f k t248 a1).bind fun bt251 => ((laws_toStringS.f k l0).bind fun t255 => ((impl_PlanWide.f t255 a1).bind fun bt258 => ((laws_eqStringS.f k bt258.1 bt251.1).bind fun t262 => (if t262 = true then (laws_FnExactPlanWide.j0 k l0 a1 bt251.1 bt251.2 t255 bt258.1 bt258.2 (bt258.2 != bt251.2)) else (laws_FnExactPlanWide.j0 k l0 a1 bt251.1 bt251.2 t255 bt258.1 bt258.2 true))))))))) = some r := h
 clear h
 replace H := Option.bind_eq_some_iff.mp H
 obtain ⟨t247, A30, H⟩ := H
 replace H : (if t247 < 0 then (some true) else ((laws_toStringS.f k l0).bind fun t248 => ((spec_PlanWide.f k t248 a1).bind fun bt251 => ((laws_toStringS.f k l0).bind fun t255 => ((impl_PlanWide.f t255 a1).bind fun bt258 => ((laws_eqStringS.f k bt258.1 bt251.1).bind fun t262 => (if t262 = true then (laws_FnExactPlanWide.j0 k l0 a1 bt251.1 bt251.2 t255 bt258.1 bt258.2 (bt258.2 != bt251.2)) else (laws_FnExactPlanWide.j0 k l0 a1 bt251.1 bt251.2 t255 bt258.1 bt258.2 true)))))))) = some r := H
 have A3 := Aside0.mk A30
 clear A30
 by_cases c4 : t247 < 0
 ·rw [if_pos c4] at H
  have c4b0 : decide (t247 < 0) = true := decide_eq_true c4
  clear c4
  obtain rfl := Option.some.inj H
  go_enter Try.func7, Try.ntmps7
  go_wp2_with (first | ((with_reducible refine gate_callee (f := 15) rfl ?_); refine goesL_ (some 18) rfl rfl Try.func15 (by kernel_rfl) rfl #[.slice A0 l0.length c0, .int .i64 1048576] rfl (by (try simp only [List.map_toArray, List.map_cons, List.map_nil]); first | done | rfl | (simp only [List.length_drop, List.length_take]; rfl)) ?_; (with_reducible refine (laws_szStringS.calls k _ _ l0 1048576 t247 _ ?side1 ?side2 A3.out).mono ?_); (case side1 => repeat (first | exact HR0.out | (with_reducible refine Kd.C_alloc ?_ _) | (with_reducible refine Kd.C_drewN ?_ _) | (with_reducible refine Kd.C_drew ?_))); (case side2 => exact HC0.out); rintro e w' ⟨rfl, ⟨nd, rfl⟩⟩; refine ⟨_, rfl, ?_⟩))
  go_ret
  exact ⟨by first | rfl | (simp [errW_none, errW_some] <;> rfl) | (simp [*, errW_none, errW_some] <;> rfl), by repeat (first | (with_reducible first | exact HB.out | apply below_alloc | apply pw_below_drewN | apply below_drew1) | exact HB.out)⟩
 ·rw [if_neg c4] at H
  have c4b0 : decide (t247 < 0) = false := decide_eq_false c4
  clear c4
  replace H := Option.bind_eq_some_iff.mp H
  obtain ⟨t248, A50, H⟩ := H
  replace H : ((spec_PlanWide.f k t248 a1).bind fun bt251 => ((laws_toStringS.f k l0).bind fun t255 => ((impl_PlanWide.f t255 a1).bind fun bt258 => ((laws_eqStringS.f k bt258.1 bt251.1).bind fun t262 => (if t262 = true then (laws_FnExactPlanWide.j0 k l0 a1 bt251.1 bt251.2 t255 bt258.1 bt258.2 (bt258.2 != bt251.2)) else (laws_FnExactPlanWide.j0 k l0 a1 bt251.1 bt251.2 t255 bt258.1 bt258.2 true)))))) = some r := H
  have A5 := Aside0.mk A50
  clear A50
  replace H := Option.bind_eq_some_iff.mp H
  obtain ⟨⟨t251, t252⟩, A60, H⟩ := H
  replace H : ((laws_toStringS.f k l0).bind fun t255 => ((impl_PlanWide.f t255 a1).bind fun bt258 => ((laws_eqStringS.f k bt258.1 t251).bind fun t262 => (if t262 = true then (laws_FnExactPlanWide.j0 k l0 a1 t251 t252 t255 bt258.1 bt258.2 (bt258.2 != t252)) else (laws_FnExactPlanWide.j0 k l0 a1 t251 t252 t255 bt258.1 bt258.2 true))))) = some r := H
  have A6 := Aside0.mk A60
  clear A60
  replace H := Option.bind_eq_some_iff.mp H
  obtain ⟨t255, A70, H⟩ := H
  replace H : ((impl_PlanWide.f t255 a1).bind fun bt258 => ((laws_eqStringS.f k bt258.1 t251).bind fun t262 => (if t262 = true then (laws_FnExactPlanWide.j0 k l0 a1 t251 t252 t255 bt258.1 bt258.2 (bt258.2 != t252)) else (laws_FnExactPlanWide.j0 k l0 a1 t251 t252 t255 bt258.1 bt258.2 true)))) = some r := H
  have A7 := Aside0.mk A70
  clear A70
  replace H := Option.bind_eq_some_iff.mp H
  obtain ⟨⟨t258, t259⟩, A80, H⟩ := H
  replace H : ((laws_eqStringS.f k t258 t251).bind fun t262 => (if t262 = true then (laws_FnExactPlanWide.j0 k l0 a1 t251 t252 t255 t258 t259 (t259 != t252)) else (laws_FnExactPlanWide.j0 k l0 a1 t251 t252 t255 t258 t259 true))) = some r := H
  have A8 := Aside0.mk A80
  clear A80
  have HC9 := Aside0.mk H
  clear H
  go_enter Try.func7, Try.ntmps7
  go_upto_region 8 with (first | ((with_reducible refine gate_callee (f := 15) rfl ?_); refine goesL_ (some 18) rfl rfl Try.func15 (by kernel_rfl) rfl #[.slice A0 l0.length c0, .int .i64 1048576] rfl (by (try simp only [List.map_toArray, List.map_cons, List.map_nil]); first | done | rfl | (simp only [List.length_drop, List.length_take]; rfl)) ?_; (with_reducible refine (laws_szStringS.calls k _ _ l0 1048576 t247 _ ?side1 ?side2 A3.out).mono ?_); (case side1 => repeat (first | exact HR0.out | (with_reducible refine Kd.C_alloc ?_ _) | (with_reducible refine Kd.C_drewN ?_ _) | (with_reducible refine Kd.C_drew ?_))); (case side2 => exact HC0.out); rintro e w' ⟨rfl, ⟨nd, rfl⟩⟩; refine ⟨_, rfl, ?_⟩) | ((with_reducible refine gate_callee (f := 17) rfl ?_); refine goesL_ (some 23) rfl rfl Try.func17 (by kernel_rfl) rfl #[.slice A0 l0.length c0] rfl (by (try simp only [List.map_toArray, List.map_cons, List.map_nil]); first | done | rfl | (simp only [List.length_drop, List.length_take]; rfl)) ?_; (with_reducible refine (laws_toStringS.calls k _ _ l0 t248 _ ?side1 ?side2 A5.out).mono ?_); (case side1 => repeat (first | exact HR0.out | (with_reducible refine Kd.C_alloc ?_ _) | (with_reducible refine Kd.C_drewN ?_ _) | (with_reducible refine Kd.C_drew ?_))); (case side2 => exact HC0.out); rintro e w10 ⟨v249, rfl, ho0, hb⟩; refine ⟨_, rfl, ?_⟩; have n0_ := Aside0.mk (Kd.R_lower ho0 (below_size (by repeat (first | (with_reducible first | exact HB.out | apply below_alloc | apply pw_below_drewN | apply below_drew1) | exact HB.out)))); have n1_ := Aside0.mk (below_step (by repeat (first | (with_reducible first | exact HB.out | apply below_alloc | apply pw_below_drewN | apply below_drew1) | exact HB.out)) hb); clear HB; have HO250 := n0_; have HB := n1_; clear n0_ n1_; (try clear hb); (try clear hb2); (try clear hk); (try clear hi); (try clear ho0); obtain ⟨Ao11, co11, eo11⟩ := Kd.R_slice HO250.out; subst eo11) | ((with_reducible refine gate_callee (f := 28) rfl ?_); refine goesL_ (some 25) rfl rfl Try.func28 (by kernel_rfl) rfl #[.slice Ao11 t248.length co11, .int .i64 a1] rfl (by (try simp only [List.map_toArray, List.map_cons, List.map_nil]); first | done | rfl | (simp only [List.length_drop, List.length_take]; rfl)) ?_; (with_reducible refine (spec_PlanWide.calls k _ _ t248 a1 t251 t252 _ ?side1 ?side2 A6.out).mono ?_); (case side1 => repeat (first | exact (Kd.R_reads' HO250.out).2.2 | (with_reducible refine Kd.C_alloc ?_ _) | (with_reducible refine Kd.C_drewN ?_ _) | (with_reducible refine Kd.C_drew ?_))); (case side2 => exact (Kd.R_reads' HO250.out).2.1); rintro e w12 ⟨v253, rfl, ho0, hb⟩; refine ⟨_, rfl, ?_⟩; have n0_ := Aside0.mk (Kd.R_elder' (by (with_reducible repeat (first | apply Kd.R_alloc | apply Kd.R_drewN | apply Kd.R_drew)); exact HO250.out) (Kd.R_base ho0) hb); have n1_ := Aside0.mk (Kd.R_lower (Kd.R_new' ho0 (Kd.R_lt (by (with_reducible repeat (first | apply Kd.R_alloc | apply Kd.R_drewN | apply Kd.R_drew)); exact HO250.out))) (below_size (by repeat (first | (with_reducible first | exact HB.out | apply below_alloc | apply pw_below_drewN | apply below_drew1) | exact HB.out)))); have n2_ := Aside0.mk (below_step (by repeat (first | (with_reducible first | exact HB.out | apply below_alloc | apply pw_below_drewN | apply below_drew1) | exact HB.out)) hb); clear HO250; clear HB; have HO250 := n0_; have HO254 := n1_; have HB := n2_; clear n0_ n1_ n2_; (try clear hb); (try clear hb2); (try clear hk); (try clear hi); (try clear ho0)) | ((with_reducible refine gate_callee (f := 17) rfl ?_); refine goesL_ (some 29) rfl rfl Try.func17 (by kernel_rfl) rfl #[.slice A0 l0.length c0] rfl (by (try simp only [List.map_toArray, List.map_cons, List.map_nil]); first | done | rfl | (simp only [List.length_drop, List.length_take]; rfl)) ?_; (with_reducible refine (laws_toStringS.calls k _ _ l0 t255 _ ?side1 ?side2 A7.out).mono ?_); (case side1 => repeat (first | exact (Kd.C_below HR0.out HB.out) | (with_reducible refine Kd.C_alloc ?_ _) | (with_reducible refine Kd.C_drewN ?_ _) | (with_reducible refine Kd.C_drew ?_))); (case side2 => exact HC0.out); rintro e w13 ⟨v256, rfl, ho0, hb⟩; refine ⟨_, rfl, ?_⟩; have n0_ := Aside0.mk (Kd.R_elder' (by (with_reducible repeat (first | apply Kd.R_alloc | apply Kd.R_drewN | apply Kd.R_drew)); exact HO250.out) (Kd.R_base ho0) hb); have n1_ := Aside0.mk (Kd.R_elder' (by (with_reducible repeat (first | apply Kd.R_alloc | apply Kd.R_drewN | apply Kd.R_drew)); exact HO254.out) (Kd.R_base ho0) hb); have n2_ := Aside0.mk (Kd.R_lower (Kd.R_new' (Kd.R_new' ho0 (Kd.R_lt (by (with_reducible repeat (first | apply Kd.R_alloc | apply Kd.R_drewN | apply Kd.R_drew)); exact HO250.out))) (Kd.R_lt (by (with_reducible repeat (first | apply Kd.R_alloc | apply Kd.R_drewN | apply Kd.R_drew)); exact HO254.out))) (below_size (by repeat (first | (with_reducible first | exact HB.out | apply below_alloc | apply pw_below_drewN | apply below_drew1) | exact HB.out)))); have n3_ := Aside0.mk (below_step (by repeat (first | (with_reducible first | exact HB.out | apply below_alloc | apply pw_below_drewN | apply below_drew1) | exact HB.out)) hb); clear HO250; clear HO254; clear HB; have HO250 := n0_; have HO254 := n1_; have HO257 := n2_; have HB := n3_; clear n0_ n1_ n2_ n3_; (try clear hb); (try clear hb2); (try clear hk); (try clear hi); (try clear ho0); obtain ⟨Ao14, co14, eo14⟩ := Kd.R_slice HO257.out; subst eo14) | ((with_reducible refine gate_callee (f := 29) rfl ?_); refine goesL_ (some 33) rfl rfl Try.func29 (by kernel_rfl) rfl #[.slice Ao14 t255.length co14, .int .i64 a1] rfl (by (try simp only [List.map_toArray, List.map_cons, List.map_nil]); first | done | rfl | (simp only [List.length_drop, List.length_take]; rfl)) ?_; (with_reducible refine (impl_PlanWide.calls _ _ t255 a1 t258 t259 _ ?side1 ?side2 A8.out).mono ?_); (case side1 => repeat (first | exact (Kd.R_reads' HO257.out).2.2 | (with_reducible refine Kd.C_alloc ?_ _) | (with_reducible refine Kd.C_drewN ?_ _) | (with_reducible refine Kd.C_drew ?_))); (case side2 => exact (Kd.R_reads' HO257.out).2.1); rintro e w15 ⟨v260, rfl, ho0, hb⟩; refine ⟨_, rfl, ?_⟩; have n0_ := Aside0.mk (Kd.R_elder' (by (with_reducible repeat (first | apply Kd.R_alloc | apply Kd.R_drewN | apply Kd.R_drew)); exact HO250.out) (Kd.R_base ho0) hb); have n1_ := Aside0.mk (Kd.R_elder' (by (with_reducible repeat (first | apply Kd.R_alloc | apply Kd.R_drewN | apply Kd.R_drew)); exact HO254.out) (Kd.R_base ho0) hb); have n2_ := Aside0.mk (Kd.R_elder' (by (with_reducible repeat (first | apply Kd.R_alloc | apply Kd.R_drewN | apply Kd.R_drew)); exact HO257.out) (Kd.R_base ho0) hb); have n3_ := Aside0.mk (Kd.R_lower (Kd.R_new' (Kd.R_new' (Kd.R_new' ho0 (Kd.R_lt (by (with_reducible repeat (first | apply Kd.R_alloc | apply Kd.R_drewN | apply Kd.R_drew)); exact HO250.out))) (Kd.R_lt (by (with_reducible repeat (first | apply Kd.R_alloc | apply Kd.R_drewN | apply Kd.R_drew)); exact HO254.out))) (Kd.R_lt (by (with_reducible repeat (first | apply Kd.R_alloc | apply Kd.R_drewN | apply Kd.R_drew)); exact HO257.out))) (below_size (by repeat (first | (with_reducible first | exact HB.out | apply below_alloc | apply pw_below_drewN | apply below_drew1) | exact HB.out)))); have n4_ := Aside0.mk (below_step (by repeat (first | (with_reducible first | exact HB.out | apply below_alloc | apply pw_below_drewN | apply below_drew1) | exact HB.out)) hb); clear HO250; clear HO254; clear HO257; clear HB; have HO250 := n0_; have HO254 := n1_; have HO257 := n2_; have HO261 := n3_; have HB := n4_; clear n0_ n1_ n2_ n3_ n4_; (try clear hb); (try clear hb2); (try clear hk); (try clear hi); (try clear ho0)))
  (try simp only [Act.put, List.setIfInBounds_toArray, List.set_cons_zero, List.set_cons_succ])
  go_cut [44] (fun v44 wc => ∃ (kq : Nat) (x44_8 : Bool), v44 = .bool x44_8 ∧ Aside0 (laws_FnExactPlanWide.j0 kq l0 a1 t251 t252 t255 t258 t259 x44_8 = some r) ∧ Aside0 (kq ≤ k) ∧ Aside0 (Kd.R Kd.string 9 wc w.heap.size (fun k_ => some k_ ≠ ((.slice Ao14 t255.length co14) : Value).ownBlock ∧ some k_ ≠ (v260 : Value).ownBlock) v253 t251) ∧ Aside0 (Kd.R Kd.string 9 wc w.heap.size (fun k_ => some k_ ≠ (v253 : Value).ownBlock ∧ some k_ ≠ (v260 : Value).ownBlock) (.slice Ao14 t255.length co14) t255) ∧ Aside0 (Kd.R Kd.string 9 wc w.heap.size (fun k_ => some k_ ≠ (v253 : Value).ownBlock ∧ some k_ ≠ ((.slice Ao14 t255.length co14) : Value).ownBlock) v260 t258) ∧ Aside0 (Below w.heap.size w wc))
  case first =>
   have H := HC9.out
   clear HC9
   replace H := Option.bind_eq_some_iff.mp H
   obtain ⟨t262, A160, H⟩ := H
   replace H : (if t262 = true then (laws_FnExactPlanWide.j0 k l0 a1 t251 t252 t255 t258 t259 (t259 != t252)) else (laws_FnExactPlanWide.j0 k l0 a1 t251 t252 t255 t258 t259 true)) = some r := H
   have A16 := Aside0.mk A160
   clear A160
   by_cases c17 : t262 = true
   ·subst c17
    have H1 : (laws_FnExactPlanWide.j0 k l0 a1 t251 t252 t255 t258 t259 (t259 != t252)) = some r := by rw [if_pos rfl] at H; exact H
    clear H
    have H := H1
    clear H1
    have H' := Aside0.mk H
    clear H
    obtain ⟨Ao18, co18, eo18⟩ := Kd.R_slice HO261.out
    subst eo18
    obtain ⟨Ao19, co19, eo19⟩ := Kd.R_slice HO254.out
    subst eo19
    go_wp2_with (first | ((with_reducible refine gate_callee (f := 19) rfl ?_); refine goesL_ (some 38) rfl rfl Try.func19 (by kernel_rfl) rfl #[.slice Ao18 t258.length co18, .slice Ao19 t251.length co19] rfl (by (try simp only [List.map_toArray, List.map_cons, List.map_nil]); first | done | rfl | (simp only [List.length_drop, List.length_take]; rfl)) ?_; (with_reducible refine (laws_eqStringS.calls k _ _ t258 _ _ t251 true _ ?side1 ?side2 ?side3 ?side4 A16.out).mono ?_); (case side1 => repeat (first | exact (Kd.R_reads' HO261.out).2.2 | (with_reducible refine Kd.C_alloc ?_ _) | (with_reducible refine Kd.C_drewN ?_ _) | (with_reducible refine Kd.C_drew ?_))); (case side2 => exact (Kd.R_reads' HO261.out).2.1); (case side3 => repeat (first | exact (Kd.R_reads' HO254.out).2.2 | (with_reducible refine Kd.C_alloc ?_ _) | (with_reducible refine Kd.C_drewN ?_ _) | (with_reducible refine Kd.C_drew ?_))); (case side4 => exact (Kd.R_reads' HO254.out).2.1); rintro e w' ⟨rfl, ⟨nd, rfl⟩⟩; refine ⟨_, rfl, ?_⟩))
    go_meet
    case rel => exact ⟨_, ((t259 != t252)), (by first | rfl | (simp; done) | (simp [*]; done)), H', ⟨by first | omega | exact Nat.le_refl _⟩, ⟨by (with_reducible repeat (first | apply Kd.R_alloc | apply Kd.R_drewN | apply Kd.R_drew)); exact Kd.R_mono HO254.out (fun _ hk => ⟨hk.1.2, hk.2⟩)⟩, ⟨by (with_reducible repeat (first | apply Kd.R_alloc | apply Kd.R_drewN | apply Kd.R_drew)); exact Kd.R_mono HO257.out (fun _ hk => ⟨hk.1.2, hk.2⟩)⟩, ⟨by (with_reducible repeat (first | apply Kd.R_alloc | apply Kd.R_drewN | apply Kd.R_drew)); exact Kd.R_mono HO261.out (fun _ hk => ⟨hk.1.2, hk.2⟩)⟩, ⟨by repeat (first | (with_reducible first | exact HB.out | apply below_alloc | apply pw_below_drewN | apply below_drew1) | exact HB.out)⟩⟩
   ·replace c17 := Bool.eq_false_iff.mpr c17
    subst c17
    have H1 : (laws_FnExactPlanWide.j0 k l0 a1 t251 t252 t255 t258 t259 true) = some r := by rw [if_neg (show ¬ (false = true) by decide)] at H; exact H
    clear H
    have H := H1
    clear H1
    have H' := Aside0.mk H
    clear H
    obtain ⟨Ao20, co20, eo20⟩ := Kd.R_slice HO261.out
    subst eo20
    obtain ⟨Ao21, co21, eo21⟩ := Kd.R_slice HO254.out
    subst eo21
    go_wp2_with (first | ((with_reducible refine gate_callee (f := 19) rfl ?_); refine goesL_ (some 38) rfl rfl Try.func19 (by kernel_rfl) rfl #[.slice Ao20 t258.length co20, .slice Ao21 t251.length co21] rfl (by (try simp only [List.map_toArray, List.map_cons, List.map_nil]); first | done | rfl | (simp only [List.length_drop, List.length_take]; rfl)) ?_; (with_reducible refine (laws_eqStringS.calls k _ _ t258 _ _ t251 false _ ?side1 ?side2 ?side3 ?side4 A16.out).mono ?_); (case side1 => repeat (first | exact (Kd.R_reads' HO261.out).2.2 | (with_reducible refine Kd.C_alloc ?_ _) | (with_reducible refine Kd.C_drewN ?_ _) | (with_reducible refine Kd.C_drew ?_))); (case side2 => exact (Kd.R_reads' HO261.out).2.1); (case side3 => repeat (first | exact (Kd.R_reads' HO254.out).2.2 | (with_reducible refine Kd.C_alloc ?_ _) | (with_reducible refine Kd.C_drewN ?_ _) | (with_reducible refine Kd.C_drew ?_))); (case side4 => exact (Kd.R_reads' HO254.out).2.1); rintro e w' ⟨rfl, ⟨nd, rfl⟩⟩; refine ⟨_, rfl, ?_⟩))
    go_meet
    case rel => exact ⟨_, (true), (by first | rfl | (simp; done) | (simp [*]; done)), H', ⟨by first | omega | exact Nat.le_refl _⟩, ⟨by (with_reducible repeat (first | apply Kd.R_alloc | apply Kd.R_drewN | apply Kd.R_drew)); exact Kd.R_mono HO254.out (fun _ hk => ⟨hk.1.2, hk.2⟩)⟩, ⟨by (with_reducible repeat (first | apply Kd.R_alloc | apply Kd.R_drewN | apply Kd.R_drew)); exact Kd.R_mono HO257.out (fun _ hk => ⟨hk.1.2, hk.2⟩)⟩, ⟨by (with_reducible repeat (first | apply Kd.R_alloc | apply Kd.R_drewN | apply Kd.R_drew)); exact Kd.R_mono HO261.out (fun _ hk => ⟨hk.1.2, hk.2⟩)⟩, ⟨by repeat (first | (with_reducible first | exact HB.out | apply below_alloc | apply pw_below_drewN | apply below_drew1) | exact HB.out)⟩⟩
  case rest =>
   clear HC9
   try clear c1
   try clear c2
   try clear p2
   try clear c4
   try clear c4b0
   try clear c7
   try clear c15
   try clear c17
   try clear c19
   obtain ⟨kq, x44_8, rfl, HA, HJ8, HO_6, HO_8, HO_9, HB⟩ := hcut
   cases kq with
   | zero => exact absurd HA.out (by simp [laws_FnExactPlanWide.j0])
   | succ kj8 =>
    have H := HA.out
    clear HA
    simp only [laws_FnExactPlanWide.j0] at H
    by_cases c22 : x44_8 = true
    ·subst c22
     have H1 : (some false) = some r := by rw [if_pos rfl] at H; exact H
     clear H
     have H := H1
     clear H1
     obtain rfl := Option.some.inj H
     go_wp2
     go_ret
     exact ⟨by first | rfl | (simp [errW_none, errW_some] <;> rfl) | (simp [*, errW_none, errW_some] <;> rfl), by repeat (first | (with_reducible first | exact HB.out | apply below_alloc | apply pw_below_drewN | apply below_drew1) | exact HB.out)⟩
    ·replace c22 := Bool.eq_false_iff.mpr c22
     subst c22
     have H1 : ((laws_toStringS.f kj8 l0).bind fun t263 => ((laws_eqStringS.f kj8 t255 t263).bind fun t266 => (if t266 = true then ((laws_markStringS.f kj8 t255 1).bind fun bt267 => (if bt267.1 < 0 then (laws_FnExactPlanWide.j1 kj8 l0 a1 t251 t252 t258 true) else ((laws_eqStringS.f kj8 t258 t251).bind fun t269 => (if t269 = true then (laws_FnExactPlanWide.j1 kj8 l0 a1 t251 t252 t258 (t259 != t252)) else (laws_FnExactPlanWide.j1 kj8 l0 a1 t251 t252 t258 true))))) else (some false)))) = some r := by rw [if_neg (show ¬ (false = true) by decide)] at H; exact H
     clear H
     have H := H1
     clear H1
     replace H := Option.bind_eq_some_iff.mp H
     obtain ⟨t263, A230, H⟩ := H
     replace H : ((laws_eqStringS.f kj8 t255 t263).bind fun t266 => (if t266 = true then ((laws_markStringS.f kj8 t255 1).bind fun bt267 => (if bt267.1 < 0 then (laws_FnExactPlanWide.j1 kj8 l0 a1 t251 t252 t258 true) else ((laws_eqStringS.f kj8 t258 t251).bind fun t269 => (if t269 = true then (laws_FnExactPlanWide.j1 kj8 l0 a1 t251 t252 t258 (t259 != t252)) else (laws_FnExactPlanWide.j1 kj8 l0 a1 t251 t252 t258 true))))) else (some false))) = some r := H
     have A23 := Aside0.mk A230
     clear A230
     replace H := Option.bind_eq_some_iff.mp H
     obtain ⟨t266, A240, H⟩ := H
     replace H : (if t266 = true then ((laws_markStringS.f kj8 t255 1).bind fun bt267 => (if bt267.1 < 0 then (laws_FnExactPlanWide.j1 kj8 l0 a1 t251 t252 t258 true) else ((laws_eqStringS.f kj8 t258 t251).bind fun t269 => (if t269 = true then (laws_FnExactPlanWide.j1 kj8 l0 a1 t251 t252 t258 (t259 != t252)) else (laws_FnExactPlanWide.j1 kj8 l0 a1 t251 t252 t258 true))))) else (some false)) = some r := H
     have A24 := Aside0.mk A240
     clear A240
     by_cases c25 : t266 = true
     ·subst c25
      have H1 : ((laws_markStringS.f kj8 t255 1).bind fun bt267 => (if bt267.1 < 0 then (laws_FnExactPlanWide.j1 kj8 l0 a1 t251 t252 t258 true) else ((laws_eqStringS.f kj8 t258 t251).bind fun t269 => (if t269 = true then (laws_FnExactPlanWide.j1 kj8 l0 a1 t251 t252 t258 (t259 != t252)) else (laws_FnExactPlanWide.j1 kj8 l0 a1 t251 t252 t258 true))))) = some r := by rw [if_pos rfl] at H; exact H
      clear H
      have H := H1
      clear H1
      replace H := Option.bind_eq_some_iff.mp H
      obtain ⟨⟨t267, t268⟩, A260, H⟩ := H
      replace H : (if t267 < 0 then (laws_FnExactPlanWide.j1 kj8 l0 a1 t251 t252 t258 true) else ((laws_eqStringS.f kj8 t258 t251).bind fun t269 => (if t269 = true then (laws_FnExactPlanWide.j1 kj8 l0 a1 t251 t252 t258 (t259 != t252)) else (laws_FnExactPlanWide.j1 kj8 l0 a1 t251 t252 t258 true)))) = some r := H
      have A26 := Aside0.mk A260
      clear A260
      have HC27 := Aside0.mk H
      clear H
      go_upto_region 14 with (first | ((with_reducible refine gate_callee (f := 17) rfl ?_); refine goesL_ (some 47) rfl rfl Try.func17 (by kernel_rfl) rfl #[.slice A0 l0.length c0] rfl (by (try simp only [List.map_toArray, List.map_cons, List.map_nil]); first | done | rfl | (simp only [List.length_drop, List.length_take]; rfl)) ?_; (with_reducible refine (laws_toStringS.calls kj8 _ _ l0 t263 _ ?side1 ?side2 A23.out).mono ?_); (case side1 => repeat (first | exact (Kd.C_below HR0.out HB.out) | (with_reducible refine Kd.C_alloc ?_ _) | (with_reducible refine Kd.C_drewN ?_ _) | (with_reducible refine Kd.C_drew ?_))); (case side2 => exact HC0.out); rintro e w28 ⟨v264, rfl, ho0, hb⟩; refine ⟨_, rfl, ?_⟩; have n0_ := Aside0.mk (Kd.R_elder' (by (with_reducible repeat (first | apply Kd.R_alloc | apply Kd.R_drewN | apply Kd.R_drew)); exact HO_6.out) (Kd.R_base ho0) hb); have n1_ := Aside0.mk (Kd.R_elder' (by (with_reducible repeat (first | apply Kd.R_alloc | apply Kd.R_drewN | apply Kd.R_drew)); exact HO_8.out) (Kd.R_base ho0) hb); have n2_ := Aside0.mk (Kd.R_elder' (by (with_reducible repeat (first | apply Kd.R_alloc | apply Kd.R_drewN | apply Kd.R_drew)); exact HO_9.out) (Kd.R_base ho0) hb); have n3_ := Aside0.mk (Kd.R_lower (Kd.R_new' (Kd.R_new' (Kd.R_new' ho0 (Kd.R_lt (by (with_reducible repeat (first | apply Kd.R_alloc | apply Kd.R_drewN | apply Kd.R_drew)); exact HO_6.out))) (Kd.R_lt (by (with_reducible repeat (first | apply Kd.R_alloc | apply Kd.R_drewN | apply Kd.R_drew)); exact HO_8.out))) (Kd.R_lt (by (with_reducible repeat (first | apply Kd.R_alloc | apply Kd.R_drewN | apply Kd.R_drew)); exact HO_9.out))) (below_size (by repeat (first | (with_reducible first | exact HB.out | apply below_alloc | apply pw_below_drewN | apply below_drew1) | exact HB.out)))); have n4_ := Aside0.mk (below_step (by repeat (first | (with_reducible first | exact HB.out | apply below_alloc | apply pw_below_drewN | apply below_drew1) | exact HB.out)) hb); clear HO_6; clear HO_8; clear HO_9; clear HB; have HO_6 := n0_; have HO_8 := n1_; have HO_9 := n2_; have HO265 := n3_; have HB := n4_; clear n0_ n1_ n2_ n3_ n4_; (try clear hb); (try clear hb2); (try clear hk); (try clear hi); (try clear ho0); obtain ⟨Ao29, co29, eo29⟩ := Kd.R_slice HO265.out; subst eo29) | ((with_reducible refine gate_callee (f := 19) rfl ?_); refine goesL_ (some 48) rfl rfl Try.func19 (by kernel_rfl) rfl #[.slice Ao14 t255.length co14, .slice Ao29 t263.length co29] rfl (by (try simp only [List.map_toArray, List.map_cons, List.map_nil]); first | done | rfl | (simp only [List.length_drop, List.length_take]; rfl)) ?_; (with_reducible refine (laws_eqStringS.calls kj8 _ _ t255 _ _ t263 true _ ?side1 ?side2 ?side3 ?side4 A24.out).mono ?_); (case side1 => repeat (first | exact (Kd.R_reads' HO_8.out).2.2 | (with_reducible refine Kd.C_alloc ?_ _) | (with_reducible refine Kd.C_drewN ?_ _) | (with_reducible refine Kd.C_drew ?_))); (case side2 => exact (Kd.R_reads' HO_8.out).2.1); (case side3 => repeat (first | exact (Kd.R_reads' HO265.out).2.2 | (with_reducible refine Kd.C_alloc ?_ _) | (with_reducible refine Kd.C_drewN ?_ _) | (with_reducible refine Kd.C_drew ?_))); (case side4 => exact (Kd.R_reads' HO265.out).2.1); rintro e w' ⟨rfl, ⟨nd, rfl⟩⟩; refine ⟨_, rfl, ?_⟩) | ((with_reducible refine gate_callee (f := 20) rfl ?_); refine goesL_ (some 52) rfl rfl Try.func20 (by kernel_rfl) rfl #[.slice Ao14 t255.length co14, .int .i64 1] rfl (by (try simp only [List.map_toArray, List.map_cons, List.map_nil]); first | done | rfl | (simp only [List.length_drop, List.length_take]; rfl)) ?_; (with_reducible refine (laws_markStringS.calls kj8 (fun k_ => some k_ = (.slice Ao14 t255.length co14 : Value).ownBlock) (.slice Ao14 t255.length co14) t255 1 t267 t268 w _ ?side1 ?side2 A26.out).mono ?_); (case side1 => repeat (first | (with_reducible first | exact HB.out | apply below_alloc | apply pw_below_drewN | apply below_drew1) | exact HB.out)); (case side2 => exact Kd.R_tight rfl HO_8.out); rintro e w30 ⟨rfl, hy0, hb, hkp⟩; refine ⟨_, rfl, ?_⟩; have n0_ := Aside0.mk (Kd.R_mono (ok' := fun k_ => some k_ ≠ (.slice Ao14 t255.length co14 : Value).ownBlock ∧ some k_ ≠ (v260 : Value).ownBlock ∧ some k_ ≠ (.slice Ao29 t263.length co29 : Value).ownBlock) (Kd.R_keptB (HO_6.out) hkp (fun k_ hk_ hs_ => (hk_.1.1) hs_)) (fun k_ hk_ => ⟨hk_.1.1.1, hk_.1.1.2, hk_.1.2⟩)); have n1_ := Aside0.mk (Kd.R_reok rfl hy0 (fun k_ e_ => HO_8.out.1 k_ e_)); have n2_ := Aside0.mk (Kd.R_mono (ok' := fun k_ => some k_ ≠ (v253 : Value).ownBlock ∧ some k_ ≠ (.slice Ao14 t255.length co14 : Value).ownBlock ∧ some k_ ≠ (.slice Ao29 t263.length co29 : Value).ownBlock) (Kd.R_keptB (HO_9.out) hkp (fun k_ hk_ hs_ => (hk_.1.2) hs_)) (fun k_ hk_ => ⟨hk_.1.1.1, hk_.1.1.2, hk_.1.2⟩)); have n3_ := Aside0.mk (Kd.R_mono (ok' := fun k_ => some k_ ≠ (v253 : Value).ownBlock ∧ some k_ ≠ (.slice Ao14 t255.length co14 : Value).ownBlock ∧ some k_ ≠ (v260 : Value).ownBlock) (Kd.R_keptB (HO265.out) hkp (fun k_ hk_ hs_ => (hk_.1.2) hs_)) (fun k_ hk_ => ⟨hk_.1.1.1.2, hk_.1.1.2, hk_.1.2⟩)); have n4_ := Aside0.mk (hb); clear HO_6; clear HO_8; clear HO_9; clear HO265; clear HB; have HO_6 := n0_; have HO_8 := n1_; have HO_9 := n2_; have HO265 := n3_; have HB := n4_; clear n0_ n1_ n2_ n3_ n4_; (try clear hb); (try clear hkp); (try clear hy0)))
      (try simp only [Act.put, List.setIfInBounds_toArray, List.set_cons_zero, List.set_cons_succ])
      go_cut [65] (fun v65 wc => ∃ (kq : Nat) (x65_26 : Bool), v65 = .bool x65_26 ∧ Aside0 (laws_FnExactPlanWide.j1 kq l0 a1 t251 t252 t258 x65_26 = some r) ∧ Aside0 (kq ≤ kj8) ∧ Aside0 (Kd.R Kd.string 9 wc w.heap.size (fun k_ => some k_ ≠ (v260 : Value).ownBlock) v253 t251) ∧ Aside0 (Kd.R Kd.string 9 wc w.heap.size (fun k_ => some k_ ≠ (v253 : Value).ownBlock) v260 t258) ∧ Aside0 (Below w.heap.size w wc))
      case first =>
       have H := HC27.out
       clear HC27
       by_cases c31 : t267 < 0
       ·rw [if_pos c31] at H
        have c31b0 : decide (t267 < 0) = true := decide_eq_true c31
        clear c31
        (first | rw [c31b0] | (simp only [i64_w, i32_w]; rw [c31b0]) | skip)
        have H' := Aside0.mk H
        clear H
        go_wp2
        go_meet
        case rel => exact ⟨_, (true), (by first | rfl | (simp; done) | (simp [*]; done)), H', ⟨by have := HJ8.out; first | omega | exact Nat.le_refl _⟩, ⟨by (with_reducible repeat (first | apply Kd.R_alloc | apply Kd.R_drewN | apply Kd.R_drew)); exact Kd.R_mono HO_6.out (fun _ hk => hk.2.1)⟩, ⟨by (with_reducible repeat (first | apply Kd.R_alloc | apply Kd.R_drewN | apply Kd.R_drew)); exact Kd.R_mono HO_9.out (fun _ hk => hk.1)⟩, ⟨by repeat (first | (with_reducible first | exact HB.out | apply below_alloc | apply pw_below_drewN | apply below_drew1) | exact HB.out)⟩⟩
       ·rw [if_neg c31] at H
        have c31b0 : decide (t267 < 0) = false := decide_eq_false c31
        clear c31
        (first | rw [c31b0] | (simp only [i64_w, i32_w]; rw [c31b0]) | skip)
        replace H := Option.bind_eq_some_iff.mp H
        obtain ⟨t269, A320, H⟩ := H
        replace H : (if t269 = true then (laws_FnExactPlanWide.j1 kj8 l0 a1 t251 t252 t258 (t259 != t252)) else (laws_FnExactPlanWide.j1 kj8 l0 a1 t251 t252 t258 true)) = some r := H
        have A32 := Aside0.mk A320
        clear A320
        by_cases c33 : t269 = true
        ·subst c33
         have H1 : (laws_FnExactPlanWide.j1 kj8 l0 a1 t251 t252 t258 (t259 != t252)) = some r := by rw [if_pos rfl] at H; exact H
         clear H
         have H := H1
         clear H1
         have H' := Aside0.mk H
         clear H
         obtain ⟨Ao34, co34, eo34⟩ := Kd.R_slice HO_9.out
         subst eo34
         obtain ⟨Ao35, co35, eo35⟩ := Kd.R_slice HO_6.out
         subst eo35
         go_wp2_with (first | (go_at_call 19; (with_reducible refine (laws_eqStringS.calls kj8 _ _ t258 _ _ t251 true _ ?side1 ?side2 ?side3 ?side4 A32.out).mono ?_); (case side1 => repeat (first | exact (Kd.R_reads' HO_9.out).2.2 | (with_reducible refine Kd.C_alloc ?_ _) | (with_reducible refine Kd.C_drewN ?_ _) | (with_reducible refine Kd.C_drew ?_))); (case side2 => exact (Kd.R_reads' HO_9.out).2.1); (case side3 => repeat (first | exact (Kd.R_reads' HO_6.out).2.2 | (with_reducible refine Kd.C_alloc ?_ _) | (with_reducible refine Kd.C_drewN ?_ _) | (with_reducible refine Kd.C_drew ?_))); (case side4 => exact (Kd.R_reads' HO_6.out).2.1); rintro e w' ⟨rfl, ⟨nd, rfl⟩⟩))
         go_meet
         case rel => exact ⟨_, ((t259 != t252)), (by first | rfl | (simp; done) | (simp [*]; done)), H', ⟨by have := HJ8.out; first | omega | exact Nat.le_refl _⟩, ⟨by (with_reducible repeat (first | apply Kd.R_alloc | apply Kd.R_drewN | apply Kd.R_drew)); exact Kd.R_mono HO_6.out (fun _ hk => hk.2.1)⟩, ⟨by (with_reducible repeat (first | apply Kd.R_alloc | apply Kd.R_drewN | apply Kd.R_drew)); exact Kd.R_mono HO_9.out (fun _ hk => hk.1)⟩, ⟨by repeat (first | (with_reducible first | exact HB.out | apply below_alloc | apply pw_below_drewN | apply below_drew1) | exact HB.out)⟩⟩
        ·replace c33 := Bool.eq_false_iff.mpr c33
         subst c33
         have H1 : (laws_FnExactPlanWide.j1 kj8 l0 a1 t251 t252 t258 true) = some r := by rw [if_neg (show ¬ (false = true) by decide)] at H; exact H
         clear H
         have H := H1
         clear H1
         have H' := Aside0.mk H
         clear H
         obtain ⟨Ao36, co36, eo36⟩ := Kd.R_slice HO_9.out
         subst eo36
         obtain ⟨Ao37, co37, eo37⟩ := Kd.R_slice HO_6.out
         subst eo37
         go_wp2_with (first | (go_at_call 19; (with_reducible refine (laws_eqStringS.calls kj8 _ _ t258 _ _ t251 false _ ?side1 ?side2 ?side3 ?side4 A32.out).mono ?_); (case side1 => repeat (first | exact (Kd.R_reads' HO_9.out).2.2 | (with_reducible refine Kd.C_alloc ?_ _) | (with_reducible refine Kd.C_drewN ?_ _) | (with_reducible refine Kd.C_drew ?_))); (case side2 => exact (Kd.R_reads' HO_9.out).2.1); (case side3 => repeat (first | exact (Kd.R_reads' HO_6.out).2.2 | (with_reducible refine Kd.C_alloc ?_ _) | (with_reducible refine Kd.C_drewN ?_ _) | (with_reducible refine Kd.C_drew ?_))); (case side4 => exact (Kd.R_reads' HO_6.out).2.1); rintro e w' ⟨rfl, ⟨nd, rfl⟩⟩))
         go_meet
         case rel => exact ⟨_, (true), (by first | rfl | (simp; done) | (simp [*]; done)), H', ⟨by have := HJ8.out; first | omega | exact Nat.le_refl _⟩, ⟨by (with_reducible repeat (first | apply Kd.R_alloc | apply Kd.R_drewN | apply Kd.R_drew)); exact Kd.R_mono HO_6.out (fun _ hk => hk.2.1)⟩, ⟨by (with_reducible repeat (first | apply Kd.R_alloc | apply Kd.R_drewN | apply Kd.R_drew)); exact Kd.R_mono HO_9.out (fun _ hk => hk.1)⟩, ⟨by repeat (first | (with_reducible first | exact HB.out | apply below_alloc | apply pw_below_drewN | apply below_drew1) | exact HB.out)⟩⟩
      case rest =>
       clear HC27
       try clear c1
       try clear c2
       try clear p2
       try clear c3
       try clear c4
       try clear c4b0
       try clear c7
       try clear c15
       try clear c17
       try clear c19
       try clear c20
       try clear c22
       try clear c25
       try clear c28
       try clear c29
       try clear c31
       try clear c31b0
       try clear c33
       try clear p2
       obtain ⟨kq, x65_26, rfl, HA, HJ26, HO_6, HO_9, HB⟩ := hcut
       cases kq with
       | zero => exact absurd HA.out (by simp [laws_FnExactPlanWide.j1])
       | succ kj26 =>
        have H := HA.out
        clear HA
        simp only [laws_FnExactPlanWide.j1] at H
        by_cases c38 : x65_26 = true
        ·subst c38
         have H1 : (some false) = some r := by rw [if_pos rfl] at H; exact H
         clear H
         have H := H1
         clear H1
         obtain rfl := Option.some.inj H
         go_wp2
         go_ret
         exact ⟨by first | rfl | (simp [errW_none, errW_some] <;> rfl) | (simp [*, errW_none, errW_some] <;> rfl), by repeat (first | (with_reducible first | exact HB.out | apply below_alloc | apply pw_below_drewN | apply below_drew1) | exact HB.out)⟩
        ·replace c38 := Bool.eq_false_iff.mpr c38
         subst c38
         have H1 : ((laws_markStringS.f kj26 t258 1).bind fun bt270 => ((laws_heldStringS.f kj26 bt270.2 1).bind fun t272 => (if t272 < 0 then (some false) else (if t272 = bt270.1 then ((laws_toStringS.f kj26 l0).bind fun t273 => ((impl_PlanWide.f t273 a1).bind fun bt276 => ((laws_eqStringS.f kj26 bt276.1 t251).bind fun t280 => (if t280 = true then (laws_FnExactPlanWide.j2 kj26 bt270.2 bt270.1 (bt276.2 != t252)) else (laws_FnExactPlanWide.j2 kj26 bt270.2 bt270.1 true))))) else (some false))))) = some r := by rw [if_neg (show ¬ (false = true) by decide)] at H; exact H
         clear H
         have H := H1
         clear H1
         replace H := Option.bind_eq_some_iff.mp H
         obtain ⟨⟨t270, t271⟩, A390, H⟩ := H
         replace H : ((laws_heldStringS.f kj26 t271 1).bind fun t272 => (if t272 < 0 then (some false) else (if t272 = t270 then ((laws_toStringS.f kj26 l0).bind fun t273 => ((impl_PlanWide.f t273 a1).bind fun bt276 => ((laws_eqStringS.f kj26 bt276.1 t251).bind fun t280 => (if t280 = true then (laws_FnExactPlanWide.j2 kj26 t271 t270 (bt276.2 != t252)) else (laws_FnExactPlanWide.j2 kj26 t271 t270 true))))) else (some false)))) = some r := H
         have A39 := Aside0.mk A390
         clear A390
         replace H := Option.bind_eq_some_iff.mp H
         obtain ⟨t272, A400, H⟩ := H
         replace H : (if t272 < 0 then (some false) else (if t272 = t270 then ((laws_toStringS.f kj26 l0).bind fun t273 => ((impl_PlanWide.f t273 a1).bind fun bt276 => ((laws_eqStringS.f kj26 bt276.1 t251).bind fun t280 => (if t280 = true then (laws_FnExactPlanWide.j2 kj26 t271 t270 (bt276.2 != t252)) else (laws_FnExactPlanWide.j2 kj26 t271 t270 true))))) else (some false))) = some r := H
         have A40 := Aside0.mk A400
         clear A400
         by_cases c41 : t272 < 0
         ·rw [if_pos c41] at H
          have c41b0 : decide (t272 < 0) = true := decide_eq_true c41
          clear c41
          obtain rfl := Option.some.inj H
          obtain ⟨Ao42, co42, eo42⟩ := Kd.R_slice HO_9.out
          subst eo42
          go_wp2_with (first | ((with_reducible refine gate_callee (f := 20) rfl ?_); refine goesL_ (some 68) rfl rfl Try.func20 (by kernel_rfl) rfl #[.slice Ao42 t258.length co42, .int .i64 1] rfl (by (try simp only [List.map_toArray, List.map_cons, List.map_nil]); first | done | rfl | (simp only [List.length_drop, List.length_take]; rfl)) ?_; (with_reducible refine (laws_markStringS.calls kj26 (fun k_ => some k_ = (.slice Ao42 t258.length co42 : Value).ownBlock) (.slice Ao42 t258.length co42) t258 1 t270 t271 w _ ?side1 ?side2 A39.out).mono ?_); (case side1 => repeat (first | (with_reducible first | exact HB.out | apply below_alloc | apply pw_below_drewN | apply below_drew1) | exact HB.out)); (case side2 => exact Kd.R_tight rfl HO_9.out); rintro e w43 ⟨rfl, hy0, hb, hkp⟩; refine ⟨_, rfl, ?_⟩; have n0_ := Aside0.mk (Kd.R_mono (ok' := fun k_ => some k_ ≠ (.slice Ao42 t258.length co42 : Value).ownBlock) (Kd.R_keptB (HO_6.out) hkp (fun k_ hk_ hs_ => (hk_) hs_)) (fun k_ hk_ => hk_.1)); have n1_ := Aside0.mk (Kd.R_reok rfl hy0 (fun k_ e_ => HO_9.out.1 k_ e_)); have n2_ := Aside0.mk (hb); clear HO_6; clear HO_9; clear HB; have HO_6 := n0_; have HO_9 := n1_; have HB := n2_; clear n0_ n1_ n2_; (try clear hb); (try clear hkp); (try clear hy0)) | ((with_reducible refine gate_callee (f := 21) rfl ?_); refine goesL_ (some 71) rfl rfl Try.func21 (by kernel_rfl) rfl #[.slice Ao42 t271.length co42, .int .i64 1] rfl (by (try simp only [List.map_toArray, List.map_cons, List.map_nil]); first | done | (rw [show t271.length = t258.length from (Kd.R_reads' HO_9.out).1.symm] <;> rfl) | rfl | (simp only [List.length_drop, List.length_take]; rfl)) ?_; (with_reducible refine (laws_heldStringS.calls kj26 _ _ t271 1 t272 _ ?side1 ?side2 A40.out).mono ?_); (case side1 => repeat (first | exact (Kd.R_reads' HO_9.out).2.2 | (with_reducible refine Kd.C_alloc ?_ _) | (with_reducible refine Kd.C_drewN ?_ _) | (with_reducible refine Kd.C_drew ?_))); (case side2 => rw [show t271.length = t258.length from (Kd.R_reads' HO_9.out).1.symm]; exact (Kd.R_reads' HO_9.out).2.1); rintro e w44 ⟨rfl, hb⟩; refine ⟨_, rfl, ?_⟩; have n0_ := Aside0.mk (Kd.R_below (by (with_reducible repeat (first | apply Kd.R_alloc | apply Kd.R_drewN | apply Kd.R_drew)); exact HO_6.out) hb); have n1_ := Aside0.mk (Kd.R_below (by (with_reducible repeat (first | apply Kd.R_alloc | apply Kd.R_drewN | apply Kd.R_drew)); exact HO_9.out) hb); have n2_ := Aside0.mk (below_step (by repeat (first | (with_reducible first | exact HB.out | apply below_alloc | apply pw_below_drewN | apply below_drew1) | exact HB.out)) hb); clear HO_6; clear HO_9; clear HB; have HO_6 := n0_; have HO_9 := n1_; have HB := n2_; clear n0_ n1_ n2_; (try clear hb); (try clear hb2); (try clear hk); (try clear hi)))
          go_ret
          exact ⟨by first | rfl | (simp [errW_none, errW_some] <;> rfl) | (simp [*, errW_none, errW_some] <;> rfl), by repeat (first | (with_reducible first | exact HB.out | apply below_alloc | apply pw_below_drewN | apply below_drew1) | exact HB.out)⟩
         ·rw [if_neg c41] at H
          have c41b0 : decide (t272 < 0) = false := decide_eq_false c41
          clear c41
          by_cases c45 : t272 = t270
          ·rw [if_pos c45] at H
           have c45b0 : (t272 == t270) = true := beq_iff_eq.mpr c45
           have c45b1 : (t272 != t270) = false := bne_eq_false_iff_eq.mpr c45
           clear c45
           replace H := Option.bind_eq_some_iff.mp H
           obtain ⟨t273, A460, H⟩ := H
           replace H : ((impl_PlanWide.f t273 a1).bind fun bt276 => ((laws_eqStringS.f kj26 bt276.1 t251).bind fun t280 => (if t280 = true then (laws_FnExactPlanWide.j2 kj26 t271 t270 (bt276.2 != t252)) else (laws_FnExactPlanWide.j2 kj26 t271 t270 true)))) = some r := H
           have A46 := Aside0.mk A460
           clear A460
           replace H := Option.bind_eq_some_iff.mp H
           obtain ⟨⟨t276, t277⟩, A470, H⟩ := H
           replace H : ((laws_eqStringS.f kj26 t276 t251).bind fun t280 => (if t280 = true then (laws_FnExactPlanWide.j2 kj26 t271 t270 (t277 != t252)) else (laws_FnExactPlanWide.j2 kj26 t271 t270 true))) = some r := H
           have A47 := Aside0.mk A470
           clear A470
           have HC48 := Aside0.mk H
           clear H
           obtain ⟨Ao49, co49, eo49⟩ := Kd.R_slice HO_9.out
           subst eo49
           go_upto_region 25 with (first | ((with_reducible refine gate_callee (f := 20) rfl ?_); refine goesL_ (some 68) rfl rfl Try.func20 (by kernel_rfl) rfl #[.slice Ao49 t258.length co49, .int .i64 1] rfl (by (try simp only [List.map_toArray, List.map_cons, List.map_nil]); first | done | rfl | (simp only [List.length_drop, List.length_take]; rfl)) ?_; (with_reducible refine (laws_markStringS.calls kj26 (fun k_ => some k_ = (.slice Ao49 t258.length co49 : Value).ownBlock) (.slice Ao49 t258.length co49) t258 1 t270 t271 w _ ?side1 ?side2 A39.out).mono ?_); (case side1 => repeat (first | (with_reducible first | exact HB.out | apply below_alloc | apply pw_below_drewN | apply below_drew1) | exact HB.out)); (case side2 => exact Kd.R_tight rfl HO_9.out); rintro e w50 ⟨rfl, hy0, hb, hkp⟩; refine ⟨_, rfl, ?_⟩; have n0_ := Aside0.mk (Kd.R_mono (ok' := fun k_ => some k_ ≠ (.slice Ao49 t258.length co49 : Value).ownBlock) (Kd.R_keptB (HO_6.out) hkp (fun k_ hk_ hs_ => (hk_) hs_)) (fun k_ hk_ => hk_.1)); have n1_ := Aside0.mk (Kd.R_reok rfl hy0 (fun k_ e_ => HO_9.out.1 k_ e_)); have n2_ := Aside0.mk (hb); clear HO_6; clear HO_9; clear HB; have HO_6 := n0_; have HO_9 := n1_; have HB := n2_; clear n0_ n1_ n2_; (try clear hb); (try clear hkp); (try clear hy0)) | ((with_reducible refine gate_callee (f := 21) rfl ?_); refine goesL_ (some 71) rfl rfl Try.func21 (by kernel_rfl) rfl #[.slice Ao49 t271.length co49, .int .i64 1] rfl (by (try simp only [List.map_toArray, List.map_cons, List.map_nil]); first | done | (rw [show t271.length = t258.length from (Kd.R_reads' HO_9.out).1.symm] <;> rfl) | rfl | (simp only [List.length_drop, List.length_take]; rfl)) ?_; (with_reducible refine (laws_heldStringS.calls kj26 _ _ t271 1 t272 _ ?side1 ?side2 A40.out).mono ?_); (case side1 => repeat (first | exact (Kd.R_reads' HO_9.out).2.2 | (with_reducible refine Kd.C_alloc ?_ _) | (with_reducible refine Kd.C_drewN ?_ _) | (with_reducible refine Kd.C_drew ?_))); (case side2 => rw [show t271.length = t258.length from (Kd.R_reads' HO_9.out).1.symm]; exact (Kd.R_reads' HO_9.out).2.1); rintro e w51 ⟨rfl, hb⟩; refine ⟨_, rfl, ?_⟩; have n0_ := Aside0.mk (Kd.R_below (by (with_reducible repeat (first | apply Kd.R_alloc | apply Kd.R_drewN | apply Kd.R_drew)); exact HO_6.out) hb); have n1_ := Aside0.mk (Kd.R_below (by (with_reducible repeat (first | apply Kd.R_alloc | apply Kd.R_drewN | apply Kd.R_drew)); exact HO_9.out) hb); have n2_ := Aside0.mk (below_step (by repeat (first | (with_reducible first | exact HB.out | apply below_alloc | apply pw_below_drewN | apply below_drew1) | exact HB.out)) hb); clear HO_6; clear HO_9; clear HB; have HO_6 := n0_; have HO_9 := n1_; have HB := n2_; clear n0_ n1_ n2_; (try clear hb); (try clear hb2); (try clear hk); (try clear hi)) | ((with_reducible refine gate_callee (f := 17) rfl ?_); refine goesL_ (some 79) rfl rfl Try.func17 (by kernel_rfl) rfl #[.slice A0 l0.length c0] rfl (by (try simp only [List.map_toArray, List.map_cons, List.map_nil]); first | done | rfl | (simp only [List.length_drop, List.length_take]; rfl)) ?_; (with_reducible refine (laws_toStringS.calls kj26 _ _ l0 t273 _ ?side1 ?side2 A46.out).mono ?_); (case side1 => repeat (first | exact (Kd.C_below HR0.out HB.out) | (with_reducible refine Kd.C_alloc ?_ _) | (with_reducible refine Kd.C_drewN ?_ _) | (with_reducible refine Kd.C_drew ?_))); (case side2 => exact HC0.out); rintro e w52 ⟨v274, rfl, ho0, hb⟩; refine ⟨_, rfl, ?_⟩; have n0_ := Aside0.mk (Kd.R_elder' (by (with_reducible repeat (first | apply Kd.R_alloc | apply Kd.R_drewN | apply Kd.R_drew)); exact HO_6.out) (Kd.R_base ho0) hb); have n1_ := Aside0.mk (Kd.R_elder' (by (with_reducible repeat (first | apply Kd.R_alloc | apply Kd.R_drewN | apply Kd.R_drew)); exact HO_9.out) (Kd.R_base ho0) hb); have n2_ := Aside0.mk (Kd.R_lower (Kd.R_new' (Kd.R_new' ho0 (Kd.R_lt (by (with_reducible repeat (first | apply Kd.R_alloc | apply Kd.R_drewN | apply Kd.R_drew)); exact HO_6.out))) (Kd.R_lt (by (with_reducible repeat (first | apply Kd.R_alloc | apply Kd.R_drewN | apply Kd.R_drew)); exact HO_9.out))) (below_size (by repeat (first | (with_reducible first | exact HB.out | apply below_alloc | apply pw_below_drewN | apply below_drew1) | exact HB.out)))); have n3_ := Aside0.mk (below_step (by repeat (first | (with_reducible first | exact HB.out | apply below_alloc | apply pw_below_drewN | apply below_drew1) | exact HB.out)) hb); clear HO_6; clear HO_9; clear HB; have HO_6 := n0_; have HO_9 := n1_; have HO275 := n2_; have HB := n3_; clear n0_ n1_ n2_ n3_; (try clear hb); (try clear hb2); (try clear hk); (try clear hi); (try clear ho0); obtain ⟨Ao53, co53, eo53⟩ := Kd.R_slice HO275.out; subst eo53) | ((with_reducible refine gate_callee (f := 29) rfl ?_); refine goesL_ (some 81) rfl rfl Try.func29 (by kernel_rfl) rfl #[.slice Ao53 t273.length co53, .int .i64 a1] rfl (by (try simp only [List.map_toArray, List.map_cons, List.map_nil]); first | done | rfl | (simp only [List.length_drop, List.length_take]; rfl)) ?_; (with_reducible refine (impl_PlanWide.calls _ _ t273 a1 t276 t277 _ ?side1 ?side2 A47.out).mono ?_); (case side1 => repeat (first | exact (Kd.R_reads' HO275.out).2.2 | (with_reducible refine Kd.C_alloc ?_ _) | (with_reducible refine Kd.C_drewN ?_ _) | (with_reducible refine Kd.C_drew ?_))); (case side2 => exact (Kd.R_reads' HO275.out).2.1); rintro e w54 ⟨v278, rfl, ho0, hb⟩; refine ⟨_, rfl, ?_⟩; have n0_ := Aside0.mk (Kd.R_elder' (by (with_reducible repeat (first | apply Kd.R_alloc | apply Kd.R_drewN | apply Kd.R_drew)); exact HO_6.out) (Kd.R_base ho0) hb); have n1_ := Aside0.mk (Kd.R_elder' (by (with_reducible repeat (first | apply Kd.R_alloc | apply Kd.R_drewN | apply Kd.R_drew)); exact HO_9.out) (Kd.R_base ho0) hb); have n2_ := Aside0.mk (Kd.R_elder' (by (with_reducible repeat (first | apply Kd.R_alloc | apply Kd.R_drewN | apply Kd.R_drew)); exact HO275.out) (Kd.R_base ho0) hb); have n3_ := Aside0.mk (Kd.R_lower (Kd.R_new' (Kd.R_new' (Kd.R_new' ho0 (Kd.R_lt (by (with_reducible repeat (first | apply Kd.R_alloc | apply Kd.R_drewN | apply Kd.R_drew)); exact HO_6.out))) (Kd.R_lt (by (with_reducible repeat (first | apply Kd.R_alloc | apply Kd.R_drewN | apply Kd.R_drew)); exact HO_9.out))) (Kd.R_lt (by (with_reducible repeat (first | apply Kd.R_alloc | apply Kd.R_drewN | apply Kd.R_drew)); exact HO275.out))) (below_size (by repeat (first | (with_reducible first | exact HB.out | apply below_alloc | apply pw_below_drewN | apply below_drew1) | exact HB.out)))); have n4_ := Aside0.mk (below_step (by repeat (first | (with_reducible first | exact HB.out | apply below_alloc | apply pw_below_drewN | apply below_drew1) | exact HB.out)) hb); clear HO_6; clear HO_9; clear HO275; clear HB; have HO_6 := n0_; have HO_9 := n1_; have HO275 := n2_; have HO279 := n3_; have HB := n4_; clear n0_ n1_ n2_ n3_ n4_; (try clear hb); (try clear hb2); (try clear hk); (try clear hi); (try clear ho0)))
           (try simp only [Act.put, List.setIfInBounds_toArray, List.set_cons_zero, List.set_cons_succ])
           go_cut [92] (fun v92 wc => ∃ (kq : Nat) (x92_47 : Bool), v92 = .bool x92_47 ∧ Aside0 (laws_FnExactPlanWide.j2 kq t271 t270 x92_47 = some r) ∧ Aside0 (kq ≤ kj26) ∧ Aside0 (Kd.R Kd.string 9 wc w.heap.size (fun _ => True) (.slice Ao49 t258.length co49) t271) ∧ Aside0 (Below w.heap.size w wc))
           case first =>
            have H := HC48.out
            clear HC48
            replace H := Option.bind_eq_some_iff.mp H
            obtain ⟨t280, A550, H⟩ := H
            replace H : (if t280 = true then (laws_FnExactPlanWide.j2 kj26 t271 t270 (t277 != t252)) else (laws_FnExactPlanWide.j2 kj26 t271 t270 true)) = some r := H
            have A55 := Aside0.mk A550
            clear A550
            by_cases c56 : t280 = true
            ·subst c56
             have H1 : (laws_FnExactPlanWide.j2 kj26 t271 t270 (t277 != t252)) = some r := by rw [if_pos rfl] at H; exact H
             clear H
             have H := H1
             clear H1
             have H' := Aside0.mk H
             clear H
             obtain ⟨Ao57, co57, eo57⟩ := Kd.R_slice HO279.out
             subst eo57
             obtain ⟨Ao58, co58, eo58⟩ := Kd.R_slice HO_6.out
             subst eo58
             go_wp2_with (first | ((with_reducible refine gate_callee (f := 19) rfl ?_); refine goesL_ (some 86) rfl rfl Try.func19 (by kernel_rfl) rfl #[.slice Ao57 t276.length co57, .slice Ao58 t251.length co58] rfl (by (try simp only [List.map_toArray, List.map_cons, List.map_nil]); first | done | rfl | (simp only [List.length_drop, List.length_take]; rfl)) ?_; (with_reducible refine (laws_eqStringS.calls kj26 _ _ t276 _ _ t251 true _ ?side1 ?side2 ?side3 ?side4 A55.out).mono ?_); (case side1 => repeat (first | exact (Kd.R_reads' HO279.out).2.2 | (with_reducible refine Kd.C_alloc ?_ _) | (with_reducible refine Kd.C_drewN ?_ _) | (with_reducible refine Kd.C_drew ?_))); (case side2 => exact (Kd.R_reads' HO279.out).2.1); (case side3 => repeat (first | exact (Kd.R_reads' HO_6.out).2.2 | (with_reducible refine Kd.C_alloc ?_ _) | (with_reducible refine Kd.C_drewN ?_ _) | (with_reducible refine Kd.C_drew ?_))); (case side4 => exact (Kd.R_reads' HO_6.out).2.1); rintro e w' ⟨rfl, ⟨nd, rfl⟩⟩; refine ⟨_, rfl, ?_⟩))
             go_meet
             case rel => exact ⟨_, ((t277 != t252)), (by first | rfl | (simp; done) | (simp [*]; done)), H', ⟨by have := HJ8.out; have := HJ26.out; first | omega | exact Nat.le_refl _⟩, ⟨by (with_reducible repeat (first | apply Kd.R_alloc | apply Kd.R_drewN | apply Kd.R_drew)); exact Kd.R_mono HO_9.out (fun _ hk => trivial)⟩, ⟨by repeat (first | (with_reducible first | exact HB.out | apply below_alloc | apply pw_below_drewN | apply below_drew1) | exact HB.out)⟩⟩
            ·replace c56 := Bool.eq_false_iff.mpr c56
             subst c56
             have H1 : (laws_FnExactPlanWide.j2 kj26 t271 t270 true) = some r := by rw [if_neg (show ¬ (false = true) by decide)] at H; exact H
             clear H
             have H := H1
             clear H1
             have H' := Aside0.mk H
             clear H
             obtain ⟨Ao59, co59, eo59⟩ := Kd.R_slice HO279.out
             subst eo59
             obtain ⟨Ao60, co60, eo60⟩ := Kd.R_slice HO_6.out
             subst eo60
             go_wp2_with (first | ((with_reducible refine gate_callee (f := 19) rfl ?_); refine goesL_ (some 86) rfl rfl Try.func19 (by kernel_rfl) rfl #[.slice Ao59 t276.length co59, .slice Ao60 t251.length co60] rfl (by (try simp only [List.map_toArray, List.map_cons, List.map_nil]); first | done | rfl | (simp only [List.length_drop, List.length_take]; rfl)) ?_; (with_reducible refine (laws_eqStringS.calls kj26 _ _ t276 _ _ t251 false _ ?side1 ?side2 ?side3 ?side4 A55.out).mono ?_); (case side1 => repeat (first | exact (Kd.R_reads' HO279.out).2.2 | (with_reducible refine Kd.C_alloc ?_ _) | (with_reducible refine Kd.C_drewN ?_ _) | (with_reducible refine Kd.C_drew ?_))); (case side2 => exact (Kd.R_reads' HO279.out).2.1); (case side3 => repeat (first | exact (Kd.R_reads' HO_6.out).2.2 | (with_reducible refine Kd.C_alloc ?_ _) | (with_reducible refine Kd.C_drewN ?_ _) | (with_reducible refine Kd.C_drew ?_))); (case side4 => exact (Kd.R_reads' HO_6.out).2.1); rintro e w' ⟨rfl, ⟨nd, rfl⟩⟩; refine ⟨_, rfl, ?_⟩))
             go_meet
             case rel => exact ⟨_, (true), (by first | rfl | (simp; done) | (simp [*]; done)), H', ⟨by have := HJ8.out; have := HJ26.out; first | omega | exact Nat.le_refl _⟩, ⟨by (with_reducible repeat (first | apply Kd.R_alloc | apply Kd.R_drewN | apply Kd.R_drew)); exact Kd.R_mono HO_9.out (fun _ hk => trivial)⟩, ⟨by repeat (first | (with_reducible first | exact HB.out | apply below_alloc | apply pw_below_drewN | apply below_drew1) | exact HB.out)⟩⟩
           case rest =>
            clear HC48
            try clear c1
            try clear c2
            try clear p2
            try clear c3
            try clear c4
            try clear c4b0
            try clear c5
            try clear c7
            try clear c15
            try clear c17
            try clear c19
            try clear c20
            try clear c21
            try clear c22
            try clear c25
            try clear c28
            try clear c29
            try clear c31
            try clear c31b0
            try clear c33
            try clear c38
            try clear c41
            try clear c41b0
            try clear c45
            try clear c45b0
            try clear c45b1
            try clear c56
            try clear p2
            obtain ⟨kq, x92_47, rfl, HA, HJ47, HO_9, HB⟩ := hcut
            have hl9_47 := (Kd.R_reads' HO_9.out).1
            rw [hl9_47] at HO_9
            (try simp only [hl9_47])
            cases kq with
            | zero => exact absurd HA.out (by simp [laws_FnExactPlanWide.j2])
            | succ kj47 =>
             have H := HA.out
             clear HA
             simp only [laws_FnExactPlanWide.j2] at H
             by_cases c61 : x92_47 = true
             ·subst c61
              have H1 : (some false) = some r := by rw [if_pos rfl] at H; exact H
              clear H
              have H := H1
              clear H1
              obtain rfl := Option.some.inj H
              go_wp2
              go_ret
              exact ⟨by first | rfl | (simp [errW_none, errW_some] <;> rfl) | (simp [*, errW_none, errW_some] <;> rfl), by repeat (first | (with_reducible first | exact HB.out | apply below_alloc | apply pw_below_drewN | apply below_drew1) | exact HB.out)⟩
             ·replace c61 := Bool.eq_false_iff.mpr c61
              subst c61
              have H1 : ((laws_heldStringS.f kj47 t271 1).bind fun t281 => (if t281 < 0 then (some false) else (if t281 = t270 then (some true) else (some false)))) = some r := by rw [if_neg (show ¬ (false = true) by decide)] at H; exact H
              clear H
              have H := H1
              clear H1
              replace H := Option.bind_eq_some_iff.mp H
              obtain ⟨t281, A620, H⟩ := H
              replace H : (if t281 < 0 then (some false) else (if t281 = t270 then (some true) else (some false))) = some r := H
              have A62 := Aside0.mk A620
              clear A620
              by_cases c63 : t281 < 0
              ·rw [if_pos c63] at H
               have c63b0 : decide (t281 < 0) = true := decide_eq_true c63
               clear c63
               obtain rfl := Option.some.inj H
               go_wp2_with (first | ((with_reducible refine gate_callee (f := 21) rfl ?_); refine goesL_ (some 95) rfl rfl Try.func21 (by kernel_rfl) rfl #[.slice Ao49 t271.length co49, .int .i64 1] rfl (by (try simp only [List.map_toArray, List.map_cons, List.map_nil]); first | done | rfl | (simp only [List.length_drop, List.length_take]; rfl)) ?_; (with_reducible refine (laws_heldStringS.calls kj47 _ _ t271 1 t281 _ ?side1 ?side2 A62.out).mono ?_); (case side1 => repeat (first | exact (Kd.R_reads' HO_9.out).2.2 | (with_reducible refine Kd.C_alloc ?_ _) | (with_reducible refine Kd.C_drewN ?_ _) | (with_reducible refine Kd.C_drew ?_))); (case side2 => exact (Kd.R_reads' HO_9.out).2.1); rintro e w64 ⟨rfl, hb⟩; refine ⟨_, rfl, ?_⟩; have n0_ := Aside0.mk (Kd.R_below (by (with_reducible repeat (first | apply Kd.R_alloc | apply Kd.R_drewN | apply Kd.R_drew)); exact HO_9.out) hb); have n1_ := Aside0.mk (below_step (by repeat (first | (with_reducible first | exact HB.out | apply below_alloc | apply pw_below_drewN | apply below_drew1) | exact HB.out)) hb); clear HO_9; clear HB; have HO_9 := n0_; have HB := n1_; clear n0_ n1_; (try clear hb); (try clear hb2); (try clear hk); (try clear hi)))
               go_ret
               exact ⟨by first | rfl | (simp [errW_none, errW_some] <;> rfl) | (simp [*, errW_none, errW_some] <;> rfl), by repeat (first | (with_reducible first | exact HB.out | apply below_alloc | apply pw_below_drewN | apply below_drew1) | exact HB.out)⟩
              ·rw [if_neg c63] at H
               have c63b0 : decide (t281 < 0) = false := decide_eq_false c63
               clear c63
               by_cases c65 : t281 = t270
               ·rw [if_pos c65] at H
                have c65b0 : (t281 == t270) = true := beq_iff_eq.mpr c65
                have c65b1 : (t281 != t270) = false := bne_eq_false_iff_eq.mpr c65
                clear c65
                obtain rfl := Option.some.inj H
                go_wp2_with (first | ((with_reducible refine gate_callee (f := 21) rfl ?_); refine goesL_ (some 95) rfl rfl Try.func21 (by kernel_rfl) rfl #[.slice Ao49 t271.length co49, .int .i64 1] rfl (by (try simp only [List.map_toArray, List.map_cons, List.map_nil]); first | done | rfl | (simp only [List.length_drop, List.length_take]; rfl)) ?_; (with_reducible refine (laws_heldStringS.calls kj47 _ _ t271 1 t281 _ ?side1 ?side2 A62.out).mono ?_); (case side1 => repeat (first | exact (Kd.R_reads' HO_9.out).2.2 | (with_reducible refine Kd.C_alloc ?_ _) | (with_reducible refine Kd.C_drewN ?_ _) | (with_reducible refine Kd.C_drew ?_))); (case side2 => exact (Kd.R_reads' HO_9.out).2.1); rintro e w66 ⟨rfl, hb⟩; refine ⟨_, rfl, ?_⟩; have n0_ := Aside0.mk (Kd.R_below (by (with_reducible repeat (first | apply Kd.R_alloc | apply Kd.R_drewN | apply Kd.R_drew)); exact HO_9.out) hb); have n1_ := Aside0.mk (below_step (by repeat (first | (with_reducible first | exact HB.out | apply below_alloc | apply pw_below_drewN | apply below_drew1) | exact HB.out)) hb); clear HO_9; clear HB; have HO_9 := n0_; have HB := n1_; clear n0_ n1_; (try clear hb); (try clear hb2); (try clear hk); (try clear hi)))
                go_ret
                exact ⟨by first | rfl | (simp [errW_none, errW_some] <;> rfl) | (simp [*, errW_none, errW_some] <;> rfl), by repeat (first | (with_reducible first | exact HB.out | apply below_alloc | apply pw_below_drewN | apply below_drew1) | exact HB.out)⟩
               ·rw [if_neg c65] at H
                have c65b0 : (t281 == t270) = false := beq_eq_false_iff_ne.mpr c65
                have c65b1 : (t281 != t270) = true := bne_iff_ne.mpr c65
                obtain rfl := Option.some.inj H
                go_wp2_with (first | ((with_reducible refine gate_callee (f := 21) rfl ?_); refine goesL_ (some 95) rfl rfl Try.func21 (by kernel_rfl) rfl #[.slice Ao49 t271.length co49, .int .i64 1] rfl (by (try simp only [List.map_toArray, List.map_cons, List.map_nil]); first | done | rfl | (simp only [List.length_drop, List.length_take]; rfl)) ?_; (with_reducible refine (laws_heldStringS.calls kj47 _ _ t271 1 t281 _ ?side1 ?side2 A62.out).mono ?_); (case side1 => repeat (first | exact (Kd.R_reads' HO_9.out).2.2 | (with_reducible refine Kd.C_alloc ?_ _) | (with_reducible refine Kd.C_drewN ?_ _) | (with_reducible refine Kd.C_drew ?_))); (case side2 => exact (Kd.R_reads' HO_9.out).2.1); rintro e w67 ⟨rfl, hb⟩; refine ⟨_, rfl, ?_⟩; have n0_ := Aside0.mk (Kd.R_below (by (with_reducible repeat (first | apply Kd.R_alloc | apply Kd.R_drewN | apply Kd.R_drew)); exact HO_9.out) hb); have n1_ := Aside0.mk (below_step (by repeat (first | (with_reducible first | exact HB.out | apply below_alloc | apply pw_below_drewN | apply below_drew1) | exact HB.out)) hb); clear HO_9; clear HB; have HO_9 := n0_; have HB := n1_; clear n0_ n1_; (try clear hb); (try clear hb2); (try clear hk); (try clear hi)))
                go_ret
                exact ⟨by first | rfl | (simp [errW_none, errW_some] <;> rfl) | (simp [*, errW_none, errW_some] <;> rfl), by repeat (first | (with_reducible first | exact HB.out | apply below_alloc | apply pw_below_drewN | apply below_drew1) | exact HB.out)⟩
          ·rw [if_neg c45] at H
           have c45b0 : (t272 == t270) = false := beq_eq_false_iff_ne.mpr c45
           have c45b1 : (t272 != t270) = true := bne_iff_ne.mpr c45
           obtain rfl := Option.some.inj H
           obtain ⟨Ao68, co68, eo68⟩ := Kd.R_slice HO_9.out
           subst eo68
           go_wp2_with (first | ((with_reducible refine gate_callee (f := 20) rfl ?_); refine goesL_ (some 68) rfl rfl Try.func20 (by kernel_rfl) rfl #[.slice Ao68 t258.length co68, .int .i64 1] rfl (by (try simp only [List.map_toArray, List.map_cons, List.map_nil]); first | done | rfl | (simp only [List.length_drop, List.length_take]; rfl)) ?_; (with_reducible refine (laws_markStringS.calls kj26 (fun k_ => some k_ = (.slice Ao68 t258.length co68 : Value).ownBlock) (.slice Ao68 t258.length co68) t258 1 t270 t271 w _ ?side1 ?side2 A39.out).mono ?_); (case side1 => repeat (first | (with_reducible first | exact HB.out | apply below_alloc | apply pw_below_drewN | apply below_drew1) | exact HB.out)); (case side2 => exact Kd.R_tight rfl HO_9.out); rintro e w69 ⟨rfl, hy0, hb, hkp⟩; refine ⟨_, rfl, ?_⟩; have n0_ := Aside0.mk (Kd.R_mono (ok' := fun k_ => some k_ ≠ (.slice Ao68 t258.length co68 : Value).ownBlock) (Kd.R_keptB (HO_6.out) hkp (fun k_ hk_ hs_ => (hk_) hs_)) (fun k_ hk_ => hk_.1)); have n1_ := Aside0.mk (Kd.R_reok rfl hy0 (fun k_ e_ => HO_9.out.1 k_ e_)); have n2_ := Aside0.mk (hb); clear HO_6; clear HO_9; clear HB; have HO_6 := n0_; have HO_9 := n1_; have HB := n2_; clear n0_ n1_ n2_; (try clear hb); (try clear hkp); (try clear hy0)) | ((with_reducible refine gate_callee (f := 21) rfl ?_); refine goesL_ (some 71) rfl rfl Try.func21 (by kernel_rfl) rfl #[.slice Ao68 t271.length co68, .int .i64 1] rfl (by (try simp only [List.map_toArray, List.map_cons, List.map_nil]); first | done | (rw [show t271.length = t258.length from (Kd.R_reads' HO_9.out).1.symm] <;> rfl) | rfl | (simp only [List.length_drop, List.length_take]; rfl)) ?_; (with_reducible refine (laws_heldStringS.calls kj26 _ _ t271 1 t272 _ ?side1 ?side2 A40.out).mono ?_); (case side1 => repeat (first | exact (Kd.R_reads' HO_9.out).2.2 | (with_reducible refine Kd.C_alloc ?_ _) | (with_reducible refine Kd.C_drewN ?_ _) | (with_reducible refine Kd.C_drew ?_))); (case side2 => rw [show t271.length = t258.length from (Kd.R_reads' HO_9.out).1.symm]; exact (Kd.R_reads' HO_9.out).2.1); rintro e w70 ⟨rfl, hb⟩; refine ⟨_, rfl, ?_⟩; have n0_ := Aside0.mk (Kd.R_below (by (with_reducible repeat (first | apply Kd.R_alloc | apply Kd.R_drewN | apply Kd.R_drew)); exact HO_6.out) hb); have n1_ := Aside0.mk (Kd.R_below (by (with_reducible repeat (first | apply Kd.R_alloc | apply Kd.R_drewN | apply Kd.R_drew)); exact HO_9.out) hb); have n2_ := Aside0.mk (below_step (by repeat (first | (with_reducible first | exact HB.out | apply below_alloc | apply pw_below_drewN | apply below_drew1) | exact HB.out)) hb); clear HO_6; clear HO_9; clear HB; have HO_6 := n0_; have HO_9 := n1_; have HB := n2_; clear n0_ n1_ n2_; (try clear hb); (try clear hb2); (try clear hk); (try clear hi)))
           go_ret
           exact ⟨by first | rfl | (simp [errW_none, errW_some] <;> rfl) | (simp [*, errW_none, errW_some] <;> rfl), by repeat (first | (with_reducible first | exact HB.out | apply below_alloc | apply pw_below_drewN | apply below_drew1) | exact HB.out)⟩
     ·replace c25 := Bool.eq_false_iff.mpr c25
      subst c25
      have H1 : (some false) = some r := by rw [if_neg (show ¬ (false = true) by decide)] at H; exact H
      clear H
      have H := H1
      clear H1
      obtain rfl := Option.some.inj H
      go_wp2_with (first | ((with_reducible refine gate_callee (f := 17) rfl ?_); refine goesL_ (some 47) rfl rfl Try.func17 (by kernel_rfl) rfl #[.slice A0 l0.length c0] rfl (by (try simp only [List.map_toArray, List.map_cons, List.map_nil]); first | done | rfl | (simp only [List.length_drop, List.length_take]; rfl)) ?_; (with_reducible refine (laws_toStringS.calls kj8 _ _ l0 t263 _ ?side1 ?side2 A23.out).mono ?_); (case side1 => repeat (first | exact (Kd.C_below HR0.out HB.out) | (with_reducible refine Kd.C_alloc ?_ _) | (with_reducible refine Kd.C_drewN ?_ _) | (with_reducible refine Kd.C_drew ?_))); (case side2 => exact HC0.out); rintro e w71 ⟨v264, rfl, ho0, hb⟩; refine ⟨_, rfl, ?_⟩; have n0_ := Aside0.mk (Kd.R_elder' (by (with_reducible repeat (first | apply Kd.R_alloc | apply Kd.R_drewN | apply Kd.R_drew)); exact HO_6.out) (Kd.R_base ho0) hb); have n1_ := Aside0.mk (Kd.R_elder' (by (with_reducible repeat (first | apply Kd.R_alloc | apply Kd.R_drewN | apply Kd.R_drew)); exact HO_8.out) (Kd.R_base ho0) hb); have n2_ := Aside0.mk (Kd.R_elder' (by (with_reducible repeat (first | apply Kd.R_alloc | apply Kd.R_drewN | apply Kd.R_drew)); exact HO_9.out) (Kd.R_base ho0) hb); have n3_ := Aside0.mk (Kd.R_lower (Kd.R_new' (Kd.R_new' (Kd.R_new' ho0 (Kd.R_lt (by (with_reducible repeat (first | apply Kd.R_alloc | apply Kd.R_drewN | apply Kd.R_drew)); exact HO_6.out))) (Kd.R_lt (by (with_reducible repeat (first | apply Kd.R_alloc | apply Kd.R_drewN | apply Kd.R_drew)); exact HO_8.out))) (Kd.R_lt (by (with_reducible repeat (first | apply Kd.R_alloc | apply Kd.R_drewN | apply Kd.R_drew)); exact HO_9.out))) (below_size (by repeat (first | (with_reducible first | exact HB.out | apply below_alloc | apply pw_below_drewN | apply below_drew1) | exact HB.out)))); have n4_ := Aside0.mk (below_step (by repeat (first | (with_reducible first | exact HB.out | apply below_alloc | apply pw_below_drewN | apply below_drew1) | exact HB.out)) hb); clear HO_6; clear HO_8; clear HO_9; clear HB; have HO_6 := n0_; have HO_8 := n1_; have HO_9 := n2_; have HO265 := n3_; have HB := n4_; clear n0_ n1_ n2_ n3_ n4_; (try clear hb); (try clear hb2); (try clear hk); (try clear hi); (try clear ho0); obtain ⟨Ao72, co72, eo72⟩ := Kd.R_slice HO265.out; subst eo72) | ((with_reducible refine gate_callee (f := 19) rfl ?_); refine goesL_ (some 48) rfl rfl Try.func19 (by kernel_rfl) rfl #[.slice Ao14 t255.length co14, .slice Ao72 t263.length co72] rfl (by (try simp only [List.map_toArray, List.map_cons, List.map_nil]); first | done | rfl | (simp only [List.length_drop, List.length_take]; rfl)) ?_; (with_reducible refine (laws_eqStringS.calls kj8 _ _ t255 _ _ t263 false _ ?side1 ?side2 ?side3 ?side4 A24.out).mono ?_); (case side1 => repeat (first | exact (Kd.R_reads' HO_8.out).2.2 | (with_reducible refine Kd.C_alloc ?_ _) | (with_reducible refine Kd.C_drewN ?_ _) | (with_reducible refine Kd.C_drew ?_))); (case side2 => exact (Kd.R_reads' HO_8.out).2.1); (case side3 => repeat (first | exact (Kd.R_reads' HO265.out).2.2 | (with_reducible refine Kd.C_alloc ?_ _) | (with_reducible refine Kd.C_drewN ?_ _) | (with_reducible refine Kd.C_drew ?_))); (case side4 => exact (Kd.R_reads' HO265.out).2.1); rintro e w' ⟨rfl, ⟨nd, rfl⟩⟩; refine ⟨_, rfl, ?_⟩))
      go_ret
      exact ⟨by first | rfl | (simp [errW_none, errW_some] <;> rfl) | (simp [*, errW_none, errW_some] <;> rfl), by repeat (first | (with_reducible first | exact HB.out | apply below_alloc | apply pw_below_drewN | apply below_drew1) | exact HB.out)⟩
end Go.Proofs.Ytjaolkfjpnpglaa.LW
namespace Go.Proofs.Ytjaolkfjpnpglaa.Hd
open Go.RowKit Go.Proofs.YtjaolkfjpnpglaaW.PrintWords Go.Proofs.YtjaolkfjpnpglaaW.PrintLast Go.Proofs.YtjaolkfjpnpglaaW.PrintMore Go.Proofs.Ytjaolkfjpnpglaa.PB
set_option linter.unusedVariables false
set_option linter.unusedSimpArgs false
structure PlanFacts (p : List ByteArray) (cs : List (List Int)) (rs : List Rc) : Prop where
 canon : Canon p
 cells : cs = Hd.canon (numsOf p)
 rooms : rs = roomsOf (numsOf p)
 nums : numsOf p = mapG (fun x => 97 + x) cs
 ok : FloorOk cs rs
 len : p.length = cs.length
 wide : wideOf (numsOf p) = wideOf cs
 text : p = textOf cs
theorem floor_facts {p : List ByteArray} {cs : List (List Int)} {rs : List Rc} (h : floorF p = some (cs, rs)) : PlanFacts p cs rs := by
 have hok := floorF_ok h
 cases hG : gridOk p with
 | false => rw [floorF_nogrid hG] at h; cases h
 | true =>
  rw [floorF_grid hG] at h
  split at h
  ·rename_i hc
   injection h with h
   injection h with e1 e2
   have hC : Canon p := ⟨hG, hc.2.2⟩
   have hn : numsOf p = mapG (fun x => 97 + x) cs := by
    have := numsOf_textOf (canon (numsOf p)) (canon_val hC.shape)
    rw [show textOf (canon (numsOf p)) = p from hC.names, e1] at this
    exact this
   refine ⟨hC, e1.symm, e2.symm, hn, hok, ?_, ?_, ?_⟩
   ·rw [← numsOf_length, hn, mapG_length]
   ·rw [hn, mapG_wide]
   ·rw [← e1]; exact hC.names.symm
  ·cases h
theorem bytesOf_strOfNums (xs : List Int) (h : ∀ x ∈ xs, 0 ≤ x ∧ x ≤ 255) : bytesOf (strOfNums xs) = xs := by
 unfold bytesOf strOfNums
 show ((xs.map fun n => UInt8.ofNat n.toNat).toArray.toList).map _ = _
 rw [List.map_map]
 conv => rhs; rw [← List.map_id xs]
 apply List.map_congr_left
 intro x hx
 have := h x hx
 show ((UInt8.ofNat x.toNat).toNat : Int) = x
 rw [UInt8.toNat_ofNat']
 omega
theorem FloorOk.rect {cs : List (List Int)} {rs : List Rc} (h : FloorOk cs rs) : Rect (wideOf cs) cs := h.cells.row
theorem okText_of {s : ByteArray} (h : ∀ x ∈ bytesOf s, 97 ≤ x ∧ x ≤ 122) : okText s = true := by
 unfold okText
 rw [List.all_eq_true]
 intro x hx
 have := h x hx
 simp only [okLetter, Bool.not_eq_true', Bool.or_eq_false_iff, decide_eq_false_iff_not]
 omega
theorem planB_cases (p : List ByteArray) : (planB p = false ∧ floorF p = none) ∨ (planB p = true ∧ ∃ cs rs, floorF p = some (cs, rs)) := by
 unfold planB
 cases h : floorF p with
 | none => exact .inl ⟨rfl, rfl⟩
 | some t => exact .inr ⟨rfl, t.1, t.2, rfl⟩
end Go.Proofs.Ytjaolkfjpnpglaa.Hd
namespace Go.Proofs.Ytjaolkfjpnpglaa.Hd
open Go.RowKit Go.Proofs.YtjaolkfjpnpglaaW.PrintWords Go.Proofs.YtjaolkfjpnpglaaW.PrintLast Go.Proofs.YtjaolkfjpnpglaaW.PrintMore Go.Proofs.Ytjaolkfjpnpglaa.PB
set_option linter.unusedVariables false
set_option linter.unusedSimpArgs false
structure Mid (p : List ByteArray) (wi : Nat) : Prop where
 high : p.length ≤ 100
 wide : wi ≤ 100
 row : ∀ s ∈ p, s.size = wi
theorem Mid.rect {p : List ByteArray} {wi : Nat} (h : Mid p wi) : Rect wi (numsOf p) := by
 intro r hr
 obtain ⟨s, hs, rfl⟩ := List.mem_map.1 hr
 rw [bytesOf_length]
 exact h.row s hs
theorem Mid.small {p : List ByteArray} {wi : Nat} (h : Mid p wi) : smallP p := ⟨by have := h.high; omega, fun s hs => by rw [h.row s hs]; have := h.wide; omega⟩
def oftenOf (p : List ByteArray) (n : Nat) : List ByteArray := p.flatMap fun s => List.replicate n s
def oftenG (rows : List (List Int)) (n : Nat) : List (List Int) := rows.flatMap fun r => List.replicate n r
theorem numsOf_often (p : List ByteArray) (n : Nat) : numsOf (oftenOf p n) = oftenG (numsOf p) n := by
 unfold numsOf oftenOf oftenG
 rw [List.map_flatMap, List.flatMap_map]
 congr 1
 funext s
 rw [List.map_replicate]
theorem often_l1 (p : List ByteArray) (n : Nat) (hn : n ≤ 3) (i : Nat) (s : ByteArray) (hi : p[i]? = some s) (hib : i ≤ 100) (x5 : List ByteArray) (h5 : x5.length ≤ 1000) (r : List ByteArray) (hnext : Evs (fun k => spec_l1Often.l0 k p (n : Int) (x5 ++ List.replicate n s) ((i + 1 : Nat) : Int)) r) :
  ∀ m j, j + m = n → Evs (fun k => spec_l1Often.l1 k p (n : Int) (x5 ++ List.replicate j s) (i : Int) (j : Int)) r := by
 have hil := (List.getElem?_eq_some_iff.1 hi).1
 intro m
 induction m with
 | zero =>
  intro j hj
  obtain rfl : j = n := by omega
  refine Evs.step (h := fun k => spec_l1Often.l0 k p (j : Int) (x5 ++ List.replicate j s) ((i + 1 : Nat) : Int)) (fun k => ?_) hnext
  conv => lhs; unfold spec_l1Often.l1
  rw [if_neg (by omega), wrap_succ (by omega)]
 | succ m ih =>
  intro j hj
  have hnx := ih (j + 1) (by omega)
  rw [List.replicate_succ', ← List.append_assoc] at hnx
  refine Evs.step (h := fun k => spec_l1Often.l1 k p (n : Int) ((x5 ++ List.replicate j s) ++ [s]) (i : Int) ((j + 1 : Nat) : Int)) (fun k => ?_) hnx
  conv => lhs; unfold spec_l1Often.l1
  rw [if_pos (by omega), if_pos (by omega), if_pos (by omega), if_pos (by simp; omega), rdOf_at hi, wrap_succ (by omega)]
theorem often_len (p : List ByteArray) (n : Nat) : (oftenOf p n).length = p.length * n := by
 induction p with
 | nil => simp [oftenOf]
 | cons a r ih =>
  unfold oftenOf at ih ⊢
  rw [List.flatMap_cons, List.length_append, ih, List.length_replicate, List.length_cons, Nat.succ_mul]
  omega
theorem often_l0 (p : List ByteArray) (n : Nat) (hn : n ≤ 3) (hp : p.length ≤ 100) : ∀ m i, i + m = p.length → Evs (fun k => spec_l1Often.l0 k p (n : Int) (oftenOf (p.take i) n) (i : Int)) (oftenOf p n) := by
 intro m
 induction m with
 | zero =>
  intro i hi
  rw [List.take_of_length_le (by omega)]
  refine Evs.step (h := fun _ => some (oftenOf p n)) (fun k => ?_) (Evs.const _)
  conv => lhs; unfold spec_l1Often.l0
  rw [if_neg (by omega)]
 | succ m ih =>
  intro i hi
  obtain ⟨s, hs⟩ : ∃ s, p[i]? = some s := ⟨_, List.getElem?_eq_getElem (by omega)⟩
  have hnx := ih (i + 1) (by omega)
  have e : oftenOf (p.take (i + 1)) n = oftenOf (p.take i) n ++ List.replicate n s := by
   unfold oftenOf
   rw [List.take_add_one, hs, List.flatMap_append]
   simp
  rw [e] at hnx
  have hlen : (oftenOf (p.take i) n).length ≤ 1000 := by
   rw [often_len]
   have : (p.take i).length * n ≤ 100 * 3 := Nat.mul_le_mul (by simp; omega) hn
   omega
  have := often_l1 p n hn i s hs (by omega) (oftenOf (p.take i) n) hlen _ hnx n 0 (by omega)
  refine Evs.step (h := fun k => spec_l1Often.l1 k p (n : Int) (oftenOf (p.take i) n ++ List.replicate 0 s) (i : Int) ((0 : Nat) : Int)) (fun k => ?_) this
  conv => lhs; unfold spec_l1Often.l0
  rw [if_pos (by omega)]
  simp
theorem l1Often_ev (p : List ByteArray) (n : Nat) (hn : n ≤ 3) (hp : p.length ≤ 100) : Evs (fun k => spec_l1Often.f k p (n : Int)) (oftenOf p n) := often_l0 p n hn hp p.length 0 (by omega)
theorem often_grid (h w n : Nat) (hn : 1 ≤ n) (g : Nat → Nat → Int) : oftenG (gridOf h w g) n = gridOf (n * h) w (fun r c => g (r / n) c) := by
 unfold oftenG gridOf
 rw [List.flatMap_map]
 induction h with
 | zero => simp
 | succ h ih =>
  rw [List.range_succ, List.flatMap_append, ih, Nat.mul_succ, List.range_add, List.map_append]
  congr 1
  rw [List.flatMap_cons, List.flatMap_nil, List.append_nil, List.map_map]
  apply List.ext_getElem?
  intro j
  by_cases hj : j < n
  ·rw [List.getElem?_replicate, if_pos hj, List.getElem?_map, List.getElem?_range hj]
   simp only [Option.map_some, Function.comp_apply]
   rw [Nat.mul_add_div (by omega), Nat.div_eq_of_lt hj, Nat.add_zero]
  ·rw [List.getElem?_eq_none (by simp; omega), List.getElem?_eq_none (by simp; omega)]
def colOf (p : List ByteArray) (c : Nat) : List Int := p.map fun s => (bytesOf s).getD c 0
def transOf (p : List ByteArray) (wi : Nat) : List ByteArray := (List.range wi).map fun c => strOfNums (colOf p c)
theorem trans_l1 (p : List ByteArray) (wi : Nat) (h : Mid p wi) (c : Nat) (hc : c < wi) (x3 : List ByteArray) (h3 : x3.length ≤ 1000) (r : List ByteArray) (hnext : Evs (fun k => spec_l1Trans.l0 k p (x3 ++ [strOfNums (colOf p c)]) ((c + 1 : Nat) : Int)) r) :
  ∀ m i, i + m = p.length → Evs (fun k => spec_l1Trans.l1 k p x3 (c : Int) (colOf (p.take i) c) (i : Int)) r := by
 have hh := h.high
 have hw := h.wide
 intro m
 induction m with
 | zero =>
  intro i hi
  rw [List.take_of_length_le (by omega)]
  refine Evs.step (h := fun k => spec_l1Trans.l0 k p (x3 ++ [strOfNums (colOf p c)]) ((c + 1 : Nat) : Int)) (fun k => ?_) hnext
  conv => lhs; unfold spec_l1Trans.l1
  rw [if_neg (by omega), if_pos (by omega), wrap_succ (by omega)]
 | succ m ih =>
  intro i hi
  obtain ⟨s, hs⟩ : ∃ s, p[i]? = some s := ⟨_, List.getElem?_eq_getElem (by omega)⟩
  have hsz := h.row s (List.mem_of_getElem? hs)
  have hnx := ih (i + 1) (by omega)
  have e : colOf (p.take (i + 1)) c = colOf (p.take i) c ++ [(bytesOf s).getD c 0] := by
   unfold colOf
   rw [List.take_add_one, hs, List.map_append]
   rfl
  rw [e] at hnx
  refine Evs.step (h := fun k => spec_l1Trans.l1 k p x3 (c : Int) (colOf (p.take i) c ++ [(bytesOf s).getD c 0]) ((i + 1 : Nat) : Int)) (fun k => ?_) hnx
  conv => lhs; unfold spec_l1Trans.l1
  rw [if_pos (by omega), if_pos (by omega), if_pos (by omega), rdOf_at hs, if_pos (by omega), if_pos (by simp [colOf]; omega), ← bytesOf_get, wrap_succ (by omega)]
theorem trans_l0 (p : List ByteArray) (wi : Nat) (h : Mid p wi) (h1 : 1 ≤ p.length) : ∀ m c, c + m = wi → Evs (fun k => spec_l1Trans.l0 k p ((List.range c).map fun c => strOfNums (colOf p c)) (c : Int)) (transOf p wi) := by
 have hh := h.high
 have hw := h.wide
 obtain ⟨s, hs⟩ : ∃ s, p[0]? = some s := ⟨_, List.getElem?_eq_getElem (by omega)⟩
 have hsz := h.row s (List.mem_of_getElem? hs)
 have e0 : rdOf ByteArray.empty p 0 = s := rdOf_at (i := 0) hs
 intro m
 induction m with
 | zero =>
  intro c hc
  obtain rfl : c = wi := by omega
  refine Evs.step (h := fun _ => some (transOf p c)) (fun k => ?_) (Evs.const _)
  conv => lhs; unfold spec_l1Trans.l0
  rw [if_pos (by omega), e0, if_neg (by omega)]
  rfl
 | succ m ih =>
  intro c hc
  have hnx := ih (c + 1) (by omega)
  rw [List.range_succ, List.map_append] at hnx
  have := trans_l1 p wi h c (by omega) ((List.range c).map fun c => strOfNums (colOf p c)) (by simp; omega) _ hnx p.length 0 (by omega)
  refine Evs.step (h := fun k => spec_l1Trans.l1 k p ((List.range c).map fun c => strOfNums (colOf p c)) (c : Int) (colOf (p.take 0) c) ((0 : Nat) : Int)) (fun k => ?_) this
  conv => lhs; unfold spec_l1Trans.l0
  rw [if_pos (by omega), e0, if_pos (by omega)]
  rfl
theorem l1Trans_ev (p : List ByteArray) (wi : Nat) (h : Mid p wi) (h1 : 1 ≤ p.length) : Evs (fun k => spec_l1Trans.f k p) (transOf p wi) := trans_l0 p wi h h1 wi 0 (by omega)
theorem colOf_range (p : List ByteArray) (c : Nat) : ∀ x ∈ colOf p c, 0 ≤ x ∧ x ≤ 255 := by
 intro x hx
 obtain ⟨s, hs, rfl⟩ := List.mem_map.1 hx
 rw [List.getD_eq_getElem?_getD]
 cases h : (bytesOf s)[c]? with
 | none => simp
 | some y => exact bytesOf_range s y (List.mem_of_getElem? h)
theorem numsOf_trans (p : List ByteArray) (wi : Nat) : numsOf (transOf p wi) = gridOf wi p.length (fun r c => valAt (numsOf p) c r) := by
 unfold numsOf transOf gridOf
 rw [List.map_map]
 apply List.map_congr_left
 intro c hc
 show bytesOf (strOfNums (colOf p c)) = _
 rw [bytesOf_strOfNums _ (colOf_range p c)]
 unfold colOf
 apply List.ext_getElem?
 intro i
 rw [List.getElem?_map, List.getElem?_map]
 by_cases hi : i < p.length
 ·rw [List.getElem?_range hi, List.getElem?_eq_getElem hi]
  simp only [Option.map_some]
  congr 1
  unfold valAt
  rw [List.getD_eq_getElem?_getD (l := List.map bytesOf p), List.getElem?_map, List.getElem?_eq_getElem hi]
  rfl
 ·rw [List.getElem?_eq_none (by omega), List.getElem?_eq_none (by simp; omega)]
  rfl
theorem trans_grid (h w : Nat) (g : Nat → Nat → Int) : gridOf w (gridOf h w g).length (fun r c => valAt (gridOf h w g) c r) = gridOf w h (fun r c => g c r) := by
 rw [gridOf_length]
 exact gridOf_congr fun r c hr hc => valAt_gridOf hc hr
theorem mapG_gridOf (f : Int → Int) (h w : Nat) (g : Nat → Nat → Int) : mapG f (gridOf h w g) = gridOf h w (fun r c => f (g r c)) := by
 unfold mapG gridOf
 rw [List.map_map]
 apply List.map_congr_left
 intro r hr
 show (List.map _ _).map f = _
 rw [List.map_map]
 rfl
theorem mid_often {p : List ByteArray} {wi n : Nat} (h : Mid p wi) (hl : p.length * n ≤ 100) : Mid (oftenOf p n) wi := by
 refine ⟨by rw [often_len]; exact hl, h.wide, fun s hs => ?_⟩
 obtain ⟨t, ht, h2⟩ := List.mem_flatMap.1 hs
 have := List.eq_of_mem_replicate h2
 rw [this]
 exact h.row t ht
theorem mid_trans {p : List ByteArray} {wi : Nat} (h : Mid p wi) : Mid (transOf p wi) p.length := by
 refine ⟨by simp [transOf]; exact h.wide, h.high, fun s hs => ?_⟩
 obtain ⟨c, hc, rfl⟩ := List.mem_map.1 hs
 show (List.map _ (colOf p c)).toArray.size = _
 simp [colOf]
theorem trans_length (p : List ByteArray) (wi : Nat) : (transOf p wi).length = wi := by simp [transOf]
def wideTexts (p : List ByteArray) (wi n : Nat) : List ByteArray := transOf (oftenOf (transOf (oftenOf p n) wi) n) (p.length * n)
theorem wide_nums {p : List ByteArray} {wi n : Nat} (h : Mid p wi) (hn : 1 ≤ n) : numsOf (wideTexts p wi n) = gridOf (n * p.length) (n * wi) (fun r c => valAt (numsOf p) (r / n) (c / n)) := by
 have e0 := rect_eq h.rect
 rw [numsOf_length] at e0
 unfold wideTexts
 rw [numsOf_trans, numsOf_often, numsOf_trans, numsOf_often, often_len, often_len, trans_length]
 have e1 : oftenG (numsOf p) n = gridOf (n * p.length) wi (fun r c => valAt (numsOf p) (r / n) c) := by
  conv => lhs; rw [e0]
  exact often_grid _ _ _ hn _
 rw [e1]
 have e2 : gridOf wi (p.length * n) (fun r c => valAt (gridOf (n * p.length) wi (fun r c => valAt (numsOf p) (r / n) c)) c r) = gridOf wi (n * p.length) (fun r c => valAt (numsOf p) (c / n) r) := by
  have := trans_grid (n * p.length) wi (fun r c => valAt (numsOf p) (r / n) c)
  rw [gridOf_length] at this
  rw [Nat.mul_comm p.length n]
  exact this
 rw [e2, often_grid _ _ _ hn]
 have e3 := trans_grid (n * wi) (n * p.length) (fun r c => valAt (numsOf p) (c / n) (r / n))
 rw [gridOf_length] at e3
 rw [Nat.mul_comm p.length n, Nat.mul_comm wi n]
 exact e3
theorem wide_done {p : List ByteArray} {cs : List (List Int)} {rs : List Rc} (h : PlanFacts p cs rs) (n : Nat) (h1 : 1 ≤ n) (h3 : n ≤ 3) : doneF (wideTexts p (wideOf cs) n) = planF (wideH n cs rs) := by
 have hsm := gridOk_small h.canon.grid
 rw [h.wide] at hsm
 have hM : Mid p (wideOf cs) := ⟨by have := hsm.high; omega, by have := hsm.wide; omega, hsm.row⟩
 have hn := wide_nums hM h1
 have hv : numsOf (wideTexts p (wideOf cs) n) = mapG (fun x => 97 + x) (wideH n cs rs) := by
  rw [hn]
  unfold wideH
  rw [mapG_gridOf, h.len]
  refine gridOf_congr fun r c hr hc => ?_
  unfold wideG
  rw [h.nums, valAt_map h.ok.rect _ (by rw [Nat.div_lt_iff_lt_mul (by omega), Nat.mul_comm]; exact hr) (by rw [Nat.div_lt_iff_lt_mul (by omega), Nat.mul_comm]; exact hc)]
 have hok : (wideTexts p (wideOf cs) n).all okText = true := by
  rw [List.all_eq_true]
  intro s hs
  refine okText_of fun x hx => ?_
  have hm : bytesOf s ∈ numsOf (wideTexts p (wideOf cs) n) := List.mem_map.2 ⟨s, hs, rfl⟩
  rw [hv] at hm
  obtain ⟨r, hr, e⟩ := List.mem_map.1 hm
  rw [← e] at hx
  obtain ⟨y, hy, rfl⟩ := List.mem_map.1 hx
  unfold wideH gridOf at hr
  obtain ⟨i, hi, rfl⟩ := List.mem_map.1 hr
  obtain ⟨j, hj, rfl⟩ := List.mem_map.1 hy
  have hi := List.mem_range.1 hi
  have hj := List.mem_range.1 hj
  have := valAt_range h.ok (i / n) (j / n) (by rw [Nat.div_lt_iff_lt_mul (by omega), Nat.mul_comm]; exact hi) (by rw [Nat.div_lt_iff_lt_mul (by omega), Nat.mul_comm]; exact hj)
  have := h.ok.many
  unfold wideG
  omega
 unfold doneF
 rw [if_pos hok, hv]
 exact plan_map fun a b _ _ e => by have : (97 : Int) + a = 97 + b := e; omega
theorem planWide_j0_true (p : List ByteArray) (a : Int) : Evs (fun k => spec_PlanWide.j0 k p a true) ([], false) := by
 refine Evs.step (h := fun _ => some ([], false)) (fun k => ?_) (Evs.const _)
 show spec_PlanWide.j0 (k + 1) p a true = _
 simp only [spec_PlanWide.j0, if_true, l1None_f, Option.bind_some]
theorem PlanWide_ev (p : List ByteArray) (a : Int) (hp : smallP p) : Evs (fun k => spec_PlanWide.f k p a) (wideF p a) := by
 have h1 := PlanIn_ev p hp
 rcases planB_cases p with ⟨e1, f1⟩ | ⟨e1, cs, rs, f1⟩
 ·rw [e1] at h1
  have : wideF p a = ([], false) := by unfold wideF remadeF; rw [f1]; split <;> rfl
  rw [this]
  refine Evs.bind h1 ?_
  refine Evs.congr (fun k => ?_) (planWide_j0_true p a)
  rw [if_neg (by simp)]
 ·rw [e1] at h1
  refine Evs.bind h1 ?_
  refine Evs.congr (h := fun k => (spec_l6In.f a 1 3).bind fun t405 => (spec_PlanWide.j0 k p a (!t405))) (fun k => by rw [if_pos rfl]) (Evs.bindS (l6In_f a 1 3) ?_)
  by_cases ha : 1 ≤ a ∧ a ≤ 3
  ·obtain ⟨n, rfl⟩ := Int.eq_ofNat_of_zero_le (show 0 ≤ a by omega)
   have F := floor_facts f1
   have hu : wideF p (n : Int) = planF (wideH n cs rs) := by
    unfold wideF remadeF
    rw [if_pos ha, f1, Int.toNat_natCast]
   have hsm := gridOk_small F.canon.grid
   rw [F.wide] at hsm
   have hM : Mid p (wideOf cs) := ⟨by have := hsm.high; omega, by have := hsm.wide; omega, hsm.row⟩
   have o1 := F.ok.h1
   have o2 := F.ok.w1
   have q1 := F.len
   have m1 : p.length * n ≤ 6 * 3 := Nat.mul_le_mul hsm.high (by omega)
   have m2 : wideOf cs * n ≤ 6 * 3 := Nat.mul_le_mul hsm.wide (by omega)
   have M1 := mid_often (n := n) hM (by omega)
   have M2 := mid_trans M1
   have M3 := mid_often (n := n) M2 (by rw [trans_length]; omega)
   have M4 := mid_trans M3
   have hpos1 : 1 ≤ (oftenOf p n).length := by rw [often_len]; exact Nat.mul_pos (by omega) (by omega)
   have hpos2 : 1 ≤ (oftenOf (transOf (oftenOf p n) (wideOf cs)) n).length := by rw [often_len, trans_length]; exact Nat.mul_pos (by omega) (by omega)
   have E1 := l1Often_ev p n (by omega) hM.high
   have E2 := l1Trans_ev _ _ M1 hpos1
   have E3 := l1Often_ev (transOf (oftenOf p n) (wideOf cs)) n (by omega) M2.high
   have E4 := l1Trans_ev _ _ M3 hpos2
   have E5 := l1Done_ev _ M4.small
   rw [often_len] at E4 E5
   rw [show transOf (oftenOf (transOf (oftenOf p n) (wideOf cs)) n) (p.length * n) = wideTexts p (wideOf cs) n from rfl] at E4 E5
   rw [wide_done F n (by omega) (by omega)] at E5
   rw [hu]
   refine Evs.congr (h := fun k => spec_PlanWide.j0 k p (n : Int) false) (fun k => ?_) (Evs.step (h := fun k => (spec_l1Often.f k p (n : Int)).bind fun t410 => ((spec_l1Trans.f k t410).bind fun t413 => ((spec_l1Often.f k t413 (n : Int)).bind fun t416 => ((spec_l1Trans.f k t416).bind fun t419 => ((spec_l1Done.f k t419).bind fun bt422 => (some (bt422.1, bt422.2))))))) (fun k => ?_) (Evs.bind E1 (Evs.bind E2 (Evs.bind E3 (Evs.bind E4 (Evs.bind E5 (Evs.const _)))))))
   ·rw [decide_eq_true ha.1, decide_eq_true ha.2]
    rfl
   ·show spec_PlanWide.j0 (k + 1) p (n : Int) false = _
    simp only [spec_PlanWide.j0, Bool.false_eq_true, if_false]
  ·have hu : wideF p a = ([], false) := by unfold wideF; rw [if_neg ha]
   rw [hu]
   refine Evs.congr (fun k => ?_) (planWide_j0_true p a)
   congr 1
   by_cases h1 : 1 ≤ a
   ·have : ¬ a ≤ 3 := fun h => ha ⟨h1, h⟩
    simp [this]
   ·simp [h1]
end Go.Proofs.Ytjaolkfjpnpglaa.Hd
namespace Go.Proofs.Ytjaolkfjpnpglaa.LW
open Go.RowKit Go.Proofs.YtjaolkfjpnpglaaW.PrintWords Go.Proofs.YtjaolkfjpnpglaaW.PrintLast Go.Proofs.YtjaolkfjpnpglaaW.PrintMore Go.Proofs.Ytjaolkfjpnpglaa.PB Go.Proofs.Ytjaolkfjpnpglaa.Hd
set_option linter.unusedVariables false
set_option linter.unusedSimpArgs false
theorem laws_FnExactPlanWide.j0_eq (k : Nat) (x0 : List ByteArray) (x1 : Int) (x6 : List ByteArray) (x7 : Bool) (x8 : List ByteArray) (x9 : List ByteArray) (x10 : Bool) (x44 : Bool) : laws_FnExactPlanWide.j0 (k + 1) x0 x1 x6 x7 x8 x9 x10 x44 = (if x44 = true then (some false) else ((laws_toStringS.f k x0).bind fun t263 => ((laws_eqStringS.f k x8 t263).bind fun t266 => (if t266 = true then ((laws_markStringS.f k x8 1).bind fun bt267 => (if bt267.1 < 0 then (laws_FnExactPlanWide.j1 k x0 x1 x6 x7 x9 true) else ((laws_eqStringS.f k x9 x6).bind fun t269 => (if t269 = true then (laws_FnExactPlanWide.j1 k x0 x1 x6 x7 x9 (x10 != x7)) else (laws_FnExactPlanWide.j1 k x0 x1 x6 x7 x9 true))))) else (some false))))) := by simp only [laws_FnExactPlanWide.j0]
theorem laws_FnExactPlanWide.j1_eq (k : Nat) (x0 : List ByteArray) (x1 : Int) (x6 : List ByteArray) (x7 : Bool) (x9 : List ByteArray) (x65 : Bool) : laws_FnExactPlanWide.j1 (k + 1) x0 x1 x6 x7 x9 x65 = (if x65 = true then (some false) else ((laws_markStringS.f k x9 1).bind fun bt270 => ((laws_heldStringS.f k bt270.2 1).bind fun t272 => (if t272 < 0 then (some false) else (if t272 = bt270.1 then ((laws_toStringS.f k x0).bind fun t273 => ((impl_PlanWide.f t273 x1).bind fun bt276 => ((laws_eqStringS.f k bt276.1 x6).bind fun t280 => (if t280 = true then (laws_FnExactPlanWide.j2 k bt270.2 bt270.1 (bt276.2 != x7)) else (laws_FnExactPlanWide.j2 k bt270.2 bt270.1 true))))) else (some false)))))) := by simp only [laws_FnExactPlanWide.j1]
theorem laws_FnExactPlanWide.j2_eq (k : Nat) (x9 : List ByteArray) (x12 : Int) (x92 : Bool) : laws_FnExactPlanWide.j2 (k + 1) x9 x12 x92 = (if x92 = true then (some false) else ((laws_heldStringS.f k x9 1).bind fun t281 => (if t281 < 0 then (some false) else (if t281 = x12 then (some true) else (some false))))) := by simp only [laws_FnExactPlanWide.j2]
theorem len_res (l0 : List ByteArray) (a1 : Int) : (wideF l0 a1).1.length ≤ 1048576 := by
 have := wideF_len l0 a1
 omega
theorem impl_res (l0 : List ByteArray) (a1 : Int) (hs_l0 : smallP l0) : impl_PlanWide.f l0 a1 = some (wideF l0 a1) := by
 unfold impl_PlanWide.f
 rw [if_pos ((smallB_iff _).2 hs_l0)]
theorem j2_ev (n : Nat) (hn : n ≤ 1048576) : Evs (fun k => laws_FnExactPlanWide.j2 k (marksOf 1 n) ((1 + n : Nat) : Int) false) true := by
 refine Evs.step (fun k => laws_FnExactPlanWide.j2_eq k _ _ _) ?_
 refine Evs.neg (by simp) (Evs.bind (heldS_ev n hn 1 (by omega)) (Evs.neg (by omega) (Evs.pos rfl (Evs.const _))))
theorem j1_ev (l0 : List ByteArray) (a1 : Int) (hs_l0 : smallP l0) : Evs (fun k => laws_FnExactPlanWide.j1 k l0 a1 (wideF l0 a1).1 (wideF l0 a1).2 (wideF l0 a1).1 false) true := by
 have hl := len_res l0 a1
 have hi := impl_res l0 a1 hs_l0
 refine Evs.step (fun k => laws_FnExactPlanWide.j1_eq k _ _ _ _ _ _) ?_
 refine Evs.neg (by simp) (Evs.bind (markS_ev _ hl 1 (by omega)) (Evs.bind (heldS_ev _ hl 1 (by omega)) (Evs.neg (by omega) (Evs.pos rfl (Evs.bind (toS_ev l0 hs_l0.1) (Evs.bindS hi (Evs.bind (eqS_same _ hl) (Evs.pos rfl ?_))))))))
 have e : ((wideF l0 a1).2 != (wideF l0 a1).2) = false := by simp
 try dsimp only
 rw [e]
 exact j2_ev _ hl
theorem j0_ev (l0 : List ByteArray) (a1 : Int) (hs_l0 : smallP l0) : Evs (fun k => laws_FnExactPlanWide.j0 k l0 a1 (wideF l0 a1).1 (wideF l0 a1).2 l0 (wideF l0 a1).1 (wideF l0 a1).2 false) true := by
 have hl := len_res l0 a1
 refine Evs.step (fun k => laws_FnExactPlanWide.j0_eq k _ _ _ _ _ _ _ _) ?_
 refine Evs.neg (by simp) (Evs.bind (toS_ev l0 hs_l0.1) (Evs.bind (eqS_same l0 hs_l0.1) (Evs.pos rfl (Evs.bind (markS_ev l0 hs_l0.1 (1) (by have := hs_l0.1; omega)) (Evs.neg (by dsimp only; omega) (Evs.bind (eqS_same _ hl) (Evs.pos rfl ?_)))))))
 have e : ((wideF l0 a1).2 != (wideF l0 a1).2) = false := by simp
 try dsimp only
 rw [e]
 exact j1_ev l0 a1 hs_l0
theorem law_ev (l0 : List ByteArray) (a1 : Int) (hf_l0 : fits l0) : Evs (fun k => laws_FnExactPlanWide.f k l0 a1) true := by
 unfold laws_FnExactPlanWide.f
 obtain ⟨v0, e0, h0⟩ := sz_ev l0 hf_l0 1048576 (by omega) (by omega)
 refine Evs.bind e0 ?_
 rcases h0 with h0 | ⟨hs_l0, g0, k0⟩
 ·exact Evs.pos h0 (Evs.const _)
 refine Evs.neg (by omega) ?_
 have hl := len_res l0 a1
 have hi := impl_res l0 a1 hs_l0
 refine Evs.bind (toS_ev l0 hs_l0.1) (Evs.bind (PlanWide_ev l0 a1 hs_l0) (Evs.bind (toS_ev l0 hs_l0.1) (Evs.bindS hi (Evs.bind (eqS_same _ hl) (Evs.pos rfl ?_)))))
 have e : ((wideF l0 a1).2 != (wideF l0 a1).2) = false := by simp
 try dsimp only
 rw [e]
 exact j0_ev l0 a1 hs_l0
end Go.Proofs.Ytjaolkfjpnpglaa.LW
