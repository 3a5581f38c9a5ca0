/- Part 3 of the proof of FnExactTermSame: what the program's functions and the reference's compute. -/
import Derived.Lib.Strings
import Derived.Lib.Bytealg
import Derived.Laws.Strings3
import Derived.Laws.AppendOwn
import Derived.Lib.SliceRun
import Derived.Lib.LazyBuf
import Derived.Test.YtgiidlebnjbgeaaProg
import Derived.Below
import Derived.Deep.Draws
import Derived.Deep.AppendLies
import Derived.Maps.AppendAt
import Derived.OwnWalk
import Derived.Laws.BytesArg
import Derived.Laws.MakeOwn
import Derived.Laws.OwnMore
import Derived.Deep.OwnRows
import Derived.Tactics
import Derived.Lib.ConvBytes
import Derived.Laws.Slices
import Derived.WalkKit
import Derived.KernelRfl
import Derived.RowKit3
import Derived.Deep.LoopGhost
import Derived.Deep.QuietTactic
import Derived.BigQuiet
import Derived.WideLaws
import Derived.Deep.DeepCutAuto
import Derived.Deep.CutBlock
import Derived.Deep.RegionHeld3
import Derived.Laws.Rows
import Derived.Lib.AppendStr
import Derived.ArgAppend
import Derived.Laws.IdiomCopy
import Derived.OrdersHeld
import Derived.Laws.BitsLemmas
import Derived.RowKit
import Derived.Test.YtgiidlebnjbgeaaCPTQb
set_option linter.unusedSimpArgs false
set_option linter.unusedVariables false
namespace Go.Proofs.Ytgiidlebnjbgeaa.Hd
open Go.RowKit Go.PW.PrintWords Go.PW.PrintLast Go.PW.PrintMore Go.Proofs.Ytgiidlebnjbgeaa.PB
def zch (s : ByteArray) (i : Nat) : ByteArray := s.extract i s.size
theorem restB_size (s : ByteArray) {i : Nat} (h : i ≤ s.size) : (zch s i).size = s.size - i := by unfold zch; rw [ByteArray.size_extract]; omega
theorem restB_next (s : ByteArray) {i : Nat} (h : i < s.size) : (zch s i).extract 1 (zch s i).size = zch s (i + 1) := by
 rw [restB_size s (by omega)]
 unfold zch
 rw [ByteArray.extract_extract]
 congr 1
 omega
theorem restB_zero (s : ByteArray) : zch s 0 = s := by unfold zch; exact ByteArray.extract_zero_size
theorem restB_bt (s : ByteArray) {i : Nat} (h : i < s.size) : bt (zch s i) 0 = bt s (i : Int) := by
 have h1 : (0 : Nat) < (zch s i).size := by rw [restB_size s (by omega)]; omega
 rw [← bt_nat s i h]
 have := bt_nat (zch s i) 0 h1
 rw [show ((0 : Nat) : Int) = 0 from rfl] at this
 rw [← this]
 have e : (zch s i)[0]'h1 = s[i]'h := (ByteArray.getElem_extract (b := s) (start := i) (stop := s.size) (i := 0) h1).trans (by simp)
 rw [e]
theorem toList_nil {b : ByteArray} : b.toList = [] ↔ b.size = 0 := by
 rw [ByteArray.toList_eq]
 have : b.size = b.data.toList.length := rfl
 rw [this, List.length_eq_zero_iff]
def cAt (s : ByteArray) (i : Nat) : Int := if i < s.size then bt s (i : Int) else 0
def nxt (s : ByteArray) (i : Nat) : Nat := if i < s.size then i + 1 else i
theorem take_f (s : ByteArray) (i : Nat) (hi : i ≤ s.size) : impl_reader_take.f (zch s i) = some (cAt s i, zch s (nxt s i)) := by
 have hz := restB_size s hi
 unfold impl_reader_take.f cAt nxt
 by_cases h : i < s.size
 ·rw [if_neg (fun e => by have := toList_nil.1 e; omega), if_pos (by omega), if_pos (by omega), if_pos h, if_pos h, restB_bt s h, restB_next s h]
 ·rw [if_pos (toList_nil.2 (by omega)), if_neg h, if_neg h]
def PtAt (w : World) (ok : Nat → Prop) : Tr → Nat → Prop
 | .o, p => ok p ∧ w.heap[p]? = some (.cells #[.int .u8 111, .slice none 0 0] 64 (0, 0))
 | .un b t, p => ok p ∧ ∃ q k, w.heap[p]? = some (.cells #[.int .u8 (unC b), .slice (some ⟨q, 0, none⟩) 1 1] 64 (0, 0)) ∧ ok q ∧ w.heap[q]? = some (.cells #[.pointer (some ⟨k, 0, none⟩)] 43 (0, 0)) ∧ PtAt w ok t k
 | .bin b x y, p => ok p ∧ ∃ q k m, w.heap[p]? = some (.cells #[.int .u8 (binC b), .slice (some ⟨q, 0, none⟩) 2 2] 64 (0, 0)) ∧ ok q ∧ w.heap[q]? = some (.cells #[.pointer (some ⟨k, 0, none⟩), .pointer (some ⟨m, 0, none⟩)] 43 (0, 0)) ∧ PtAt w ok x k ∧ PtAt w ok y m
theorem PtAt.move {w w' : World} {ok ok' : Nat → Prop} (hm : ∀ k, ok k → k < w.heap.size → w'.heap[k]? = w.heap[k]?) (hk : ∀ k, ok k → ok' k) : ∀ (t : Tr) (p : Nat), PtAt w ok t p → PtAt w' ok' t p
 | .o, p, h => ⟨hk p h.1, (hm p h.1 (zak h.2)).trans h.2⟩
 | .un b t, p, h => by
  obtain ⟨h1, q, k, h2, h3, h4, h5⟩ := h
  exact ⟨hk p h1, q, k, (hm p h1 (zak h2)).trans h2, hk q h3, (hm q h3 (zak h4)).trans h4, PtAt.move hm hk t k h5⟩
 | .bin b x y, p, h => by
  obtain ⟨h1, q, k, m, h2, h3, h4, h5, h6⟩ := h
  exact ⟨hk p h1, q, k, m, (hm p h1 (zak h2)).trans h2, hk q h3, (hm q h3 (zak h4)).trans h4, PtAt.move hm hk x k h5, PtAt.move hm hk y m h6⟩
theorem PtAt.below {w w' : World} {ok : Nat → Prop} {t : Tr} {p : Nat} (h : PtAt w ok t p) (hb : Below w.heap.size w w') : PtAt w' ok t p := PtAt.move (fun k _ hk => hb.block k hk) (fun _ h => h) t p h
theorem PtAt.kept {w w' : World} {g : Nat} {t : Tr} {p : Nat} (h : PtAt w (fun k => k ≠ g) t p) (hk : zav w w' g none) : PtAt w' (fun k => k ≠ g) t p := PtAt.move (fun k ho hlt => hk.2 k hlt ho (by simp)) (fun _ h => h) t p h
def RdRes (w0 w : World) (g : Nat) (s : ByteArray) (i : Nat) (r : Option (Tr × Nat)) (e : Ending) (w' : World) : Prop :=
 ∃ (q : Option Addr) (j : Nat), e = .returned (.pointer q) ∧ i ≤ j ∧ j ≤ s.size ∧ zay w0 w' g (zch s j) ∧ Below w0.heap.size w0 w' ∧ zav w w' g none ∧ match r with
  | none => q = none
  | some (t, e') => j = e' ∧ ∃ p, q = some ⟨p, 0, none⟩ ∧ PtAt w' (fun k => k ≠ g) t p
theorem take_at (s : ByteArray) (i : Nat) (hi : i ≤ s.size) (w0 w : World) (g : Nat) (hI : zay w0 w g (zch s i)) (hB : Below w0.heap.size w0 w) :
  Calls Try.prog 49 #[.pointer (some ⟨g, 0, none⟩)] w fun e w' => e = .returned (.int .u8 (cAt s i)) ∧ zay w0 w' g (zch s (nxt s i)) ∧ Below w0.heap.size w0 w' ∧ zav w w' g none :=
 impl_reader_take.calls g (zch s i) _ _ w0 w hI hB (take_f s i hi)
set_option maxHeartbeats 400000 in
set_option maxRecDepth 100000 in
theorem reader_calls (s : ByteArray) (w0 : World) (g : Nat) : ∀ (f i : Nat) (w : World), s.size < i + f → i ≤ s.size → zay w0 w g (zch s i) → Below w0.heap.size w0 w →
  Calls Try.prog 38 #[.pointer (some ⟨g, 0, none⟩)] w (RdRes w0 w g s i (rdR f s i)) := by
 intro f
 induction f with
 | zero => intro i w h1 h2; omega
 | succ f ih =>
  intro i w h1 h2 hI hB
  have HIh := zaa.mk ih
  have HF := zaa.mk h1
  have HI := zaa.mk hI
  have HB := zaa.mk hB
  clear ih h1 hI hB
  by_cases hi : s.size ≤ i
  ·have hc : cAt s i = 0 := if_neg (by omega)
   have hn : nxt s i = i := if_neg (by omega)
   have HR := zaa.mk (show rdR (f + 1) s i = none by unfold rdR; rw [if_pos hi])
   have HTk := zaa.mk (take_at s i h2 w0 w g HI.out HB.out)
   rw [hc, hn] at HTk
   clear hc hn hi
   go_enter Try.func38, Try.ntmps38
   go_wp2_with (first
    | (go_at_call 49; refine HTk.out.mono ?_; rintro e w2 ⟨rfl, hI2, hB2, hK2⟩; have HI2 := zaa.mk hI2; have HB2 := zaa.mk hB2; have HK2 := zaa.mk hK2; clear hI2 hB2 hK2))
   go_ret
   rw [HR.out]
   exact ⟨none, i, rfl, Nat.le_refl _, h2, HI2.out, HB2.out, HK2.out, rfl⟩
  ·-- REST
   have hil : i < s.size := by omega
   obtain ⟨j, hj⟩ : ∃ j, j = i + 1 := ⟨_, rfl⟩
   have HJ := zaa.mk (show j = i + 1 ∧ i < s.size from ⟨hj, hil⟩)
   have hc : cAt s i = bt s (i : Int) := if_pos hil
   have hn : nxt s i = j := by rw [hj]; exact if_pos hil
   have HTk := zaa.mk (take_at s i h2 w0 w g HI.out HB.out)
   rw [hc, hn] at HTk
   have HUn := zaa.mk (show rdR (f + 1) s i = if bt s (i : Int) = 111 then some (.o, j) else
    if bt s (i : Int) = 62 ∨ bt s (i : Int) = 94 then match rdR f s j with
     | none => none
     | some (t, e) => some (.un (decide (bt s (i : Int) = 62)) t, e)
    else if bt s (i : Int) ≠ 40 then none else match rdR f s j with
     | none => none
     | some (a, m) => if s.size ≤ m ∨ (bt s (m : Int) ≠ 124 ∧ bt s (m : Int) ≠ 45) then none else match rdR f s (m + 1) with
      | none => none
      | some (b, e) => if s.size ≤ e ∨ bt s (e : Int) ≠ 41 then none else some (.bin (decide (bt s (m : Int) = 124)) a b, e + 1) by
    conv => lhs; unfold rdR
    rw [if_neg hi, hj]
    try rfl)
   clear hc hn hi hil hj HI HB
   generalize bt s (i : Int) = c at *
   rcases (show c = 111 ∨ c = 62 ∨ c = 94 ∨ c = 40 ∨ (c ≠ 111 ∧ c ≠ 62 ∧ c ≠ 94 ∧ c ≠ 40) by omega) with e3 | e3 | e3 | e3 | e3
   ·have d1 : (c == 111) = true := by rw [beq_iff_eq]; exact e3
    have HR0 := zaa.mk (show rdR (f + 1) s i = some (.o, j) by rw [HUn.out, if_pos e3])
    have HC := zaa.mk e3
    clear e3
    go_enter Try.func38, Try.ntmps38
    go_wp2_with (first
     | (go_at_call 49; refine HTk.out.mono ?_; rintro e w2 ⟨rfl, hI_, hB_, hK_⟩; have HI2 := zaa.mk hI_; have HB2 := zaa.mk hB_; have HK2 := zaa.mk hK_; clear hI_ hB_ hK_))
    have hb := zab (Below.refl w2.heap.size w2) (.cells #[.int .u8 111, .slice none 0 0] 64)
    have hk1 := heap_alloc_new w2 (.cells #[.int .u8 111, .slice none 0 0] 64)
    have hI5 := HI2.out.alloc (.cells #[.int .u8 111, .slice none 0 0] 64)
    have hgl : g < w2.heap.size := zak HI2.out.1
    have hc := HC.out
    first | subst hc | skip
    go_ret
    rw [HR0.out]
    exact ⟨_, j, rfl, by have := HJ.out; omega, by have := HJ.out; omega, hI5, zae HB2.out hb, HK2.out.trans (zav.of_below hb g none) (.inl rfl), rfl, _, rfl, by show w2.heap.size ≠ g; omega, hk1⟩
   ·have d1 : (c == 111) = false := by rw [beq_eq_false_iff_ne]; omega
    have d2 : (c == 62) = true := by rw [beq_iff_eq]; exact e3
    have hun := HUn.out
    rw [if_neg (by omega), if_pos (by omega)] at hun
    clear HUn
    have HUn := zaa.mk hun
    have HC := zaa.mk e3
    clear hun e3
    go_enter Try.func38, Try.ntmps38
    go_upto_region 8 with (first
     | (go_at_call 49; refine HTk.out.mono ?_; rintro e w2 ⟨rfl, hI_, hB_, hK_⟩; have HI2 := zaa.mk hI_; have HB2 := zaa.mk hB_; have HK2 := zaa.mk hK_; clear hI_ hB_ hK_)
     | (go_at_call 38; refine (HIh.out j _ (by have := HF.out; have := HJ.out; omega) (by have := HJ.out; omega) HI2.out HB2.out).mono ?_; rintro e w3 ⟨q3, j3, rfl, hle_, hls_, hI_, hB_, hK_, hres_⟩; have HL3 := zaa.mk (show j ≤ j3 ∧ j3 ≤ s.size from ⟨hle_, hls_⟩); have HI3 := zaa.mk hI_; have HB3 := zaa.mk hB_; have HK3 := zaa.mk hK_; have HR3 := zaa.mk hres_; clear hle_ hls_ hI_ hB_ hK_ hres_))
    have hres := HR3.out
    clear HR3
    cases hrd : rdR f s j with
    | none =>
     rw [hrd] at hres
     dsimp only at hres
     subst hres
     have HR0 := zaa.mk (show rdR (f + 1) s i = none by rw [HUn.out, hrd])
     clear hrd
     go_wp2
     go_ret
     rw [HR0.out]
     exact ⟨none, j3, rfl, by have := HJ.out; have := HL3.out; omega, by have := HJ.out; have := HL3.out; omega, HI3.out, HB3.out, HK2.out.trans HK3.out (.inl rfl), rfl⟩
    | some te =>
     obtain ⟨t, e⟩ := te
     rw [hrd] at hres
     dsimp only at hres
     obtain ⟨hj, p, rfl, hP⟩ := hres
     have hun := HUn.out
     rw [hrd] at hun
     dsimp only at hun
     have HR0 := zaa.mk hun
     have HP := zaa.mk hP
     have HJ3 := zaa.mk hj
     clear hrd hun hP hj
     go_wp2
     have hb := zab (zab (Below.refl w3.heap.size w3) (.cells #[.pointer (some ⟨p, 0, none⟩)] 43)) (.cells #[.int .u8 c, .slice (some ⟨w3.heap.size, 0, none⟩) 1 1] 64)
     have hk1 := heap_alloc2_old w3 (.cells #[.pointer (some ⟨p, 0, none⟩)] 43) (.cells #[.int .u8 c, .slice (some ⟨w3.heap.size, 0, none⟩) 1 1] 64)
     have hk2 := heap_alloc2_new w3 (.cells #[.pointer (some ⟨p, 0, none⟩)] 43) (.cells #[.int .u8 c, .slice (some ⟨w3.heap.size, 0, none⟩) 1 1] 64)
     have hI5 := (HI3.out.alloc (.cells #[.pointer (some ⟨p, 0, none⟩)] 43)).alloc (.cells #[.int .u8 c, .slice (some ⟨w3.heap.size, 0, none⟩) 1 1] 64)
     generalize (w3.alloc (.cells #[.pointer (some ⟨p, 0, none⟩)] 43)).alloc (.cells #[.int .u8 c, .slice (some ⟨w3.heap.size, 0, none⟩) 1 1] 64) = w5 at *
     have hgl : g < w3.heap.size := zak HI3.out.1
     have HP5 := zaa.mk (HP.out.below hb)
     go_ret
     rw [HR0.out]
     exact ⟨_, j3, rfl, by have := HJ.out; have := HL3.out; omega, HL3.out.2, hI5, zae HB3.out hb, (HK2.out.trans HK3.out (.inl rfl)).trans (zav.of_below hb g none) (.inl rfl), HJ3.out, _, rfl, by show w3.heap.size + 1 ≠ g; omega, w3.heap.size, p, by rw [hk2]; have := HC.out; subst this; rfl, by show w3.heap.size ≠ g; omega, hk1, HP5.out⟩
   ·have d1 : (c == 111) = false := by rw [beq_eq_false_iff_ne]; omega
    have d2 : (c == 62) = false := by rw [beq_eq_false_iff_ne]; omega
    have d3 : (c == 94) = true := by rw [beq_iff_eq]; exact e3
    have hun := HUn.out
    rw [if_neg (by omega), if_pos (by omega)] at hun
    clear HUn
    have HUn := zaa.mk hun
    have HC := zaa.mk e3
    clear hun e3
    go_enter Try.func38, Try.ntmps38
    go_upto_region 8 with (first
     | (go_at_call 49; refine HTk.out.mono ?_; rintro e w2 ⟨rfl, hI_, hB_, hK_⟩; have HI2 := zaa.mk hI_; have HB2 := zaa.mk hB_; have HK2 := zaa.mk hK_; clear hI_ hB_ hK_)
     | (go_at_call 38; refine (HIh.out j _ (by have := HF.out; have := HJ.out; omega) (by have := HJ.out; omega) HI2.out HB2.out).mono ?_; rintro e w3 ⟨q3, j3, rfl, hle_, hls_, hI_, hB_, hK_, hres_⟩; have HL3 := zaa.mk (show j ≤ j3 ∧ j3 ≤ s.size from ⟨hle_, hls_⟩); have HI3 := zaa.mk hI_; have HB3 := zaa.mk hB_; have HK3 := zaa.mk hK_; have HR3 := zaa.mk hres_; clear hle_ hls_ hI_ hB_ hK_ hres_))
    have hres := HR3.out
    clear HR3
    cases hrd : rdR f s j with
    | none =>
     rw [hrd] at hres
     dsimp only at hres
     subst hres
     have HR0 := zaa.mk (show rdR (f + 1) s i = none by rw [HUn.out, hrd])
     clear hrd
     go_wp2
     go_ret
     rw [HR0.out]
     exact ⟨none, j3, rfl, by have := HJ.out; have := HL3.out; omega, by have := HJ.out; have := HL3.out; omega, HI3.out, HB3.out, HK2.out.trans HK3.out (.inl rfl), rfl⟩
    | some te =>
     obtain ⟨t, e⟩ := te
     rw [hrd] at hres
     dsimp only at hres
     obtain ⟨hj, p, rfl, hP⟩ := hres
     have hun := HUn.out
     rw [hrd] at hun
     dsimp only at hun
     have HR0 := zaa.mk hun
     have HP := zaa.mk hP
     have HJ3 := zaa.mk hj
     clear hrd hun hP hj
     go_wp2
     have hb := zab (zab (Below.refl w3.heap.size w3) (.cells #[.pointer (some ⟨p, 0, none⟩)] 43)) (.cells #[.int .u8 c, .slice (some ⟨w3.heap.size, 0, none⟩) 1 1] 64)
     have hk1 := heap_alloc2_old w3 (.cells #[.pointer (some ⟨p, 0, none⟩)] 43) (.cells #[.int .u8 c, .slice (some ⟨w3.heap.size, 0, none⟩) 1 1] 64)
     have hk2 := heap_alloc2_new w3 (.cells #[.pointer (some ⟨p, 0, none⟩)] 43) (.cells #[.int .u8 c, .slice (some ⟨w3.heap.size, 0, none⟩) 1 1] 64)
     have hI5 := (HI3.out.alloc (.cells #[.pointer (some ⟨p, 0, none⟩)] 43)).alloc (.cells #[.int .u8 c, .slice (some ⟨w3.heap.size, 0, none⟩) 1 1] 64)
     generalize (w3.alloc (.cells #[.pointer (some ⟨p, 0, none⟩)] 43)).alloc (.cells #[.int .u8 c, .slice (some ⟨w3.heap.size, 0, none⟩) 1 1] 64) = w5 at *
     have hgl : g < w3.heap.size := zak HI3.out.1
     have HP5 := zaa.mk (HP.out.below hb)
     go_ret
     rw [HR0.out]
     exact ⟨_, j3, rfl, by have := HJ.out; have := HL3.out; omega, HL3.out.2, hI5, zae HB3.out hb, (HK2.out.trans HK3.out (.inl rfl)).trans (zav.of_below hb g none) (.inl rfl), HJ3.out, _, rfl, by show w3.heap.size + 1 ≠ g; omega, w3.heap.size, p, by rw [hk2]; have := HC.out; subst this; rfl, by show w3.heap.size ≠ g; omega, hk1, HP5.out⟩
   ·have d1 : (c == 111) = false := by rw [beq_eq_false_iff_ne]; omega
    have d2 : (c == 62) = false := by rw [beq_eq_false_iff_ne]; omega
    have d3 : (c == 94) = false := by rw [beq_eq_false_iff_ne]; omega
    have d4 : (c == 40) = true := by rw [beq_iff_eq]; exact e3
    have hun := HUn.out
    rw [if_neg (by omega), if_neg (by omega), if_neg (by omega)] at hun
    clear HUn
    have HUn := zaa.mk hun
    have HC := zaa.mk e3
    clear hun e3
    go_enter Try.func38, Try.ntmps38
    go_upto_region 14 with (first
     | (go_at_call 49; refine HTk.out.mono ?_; rintro e w2 ⟨rfl, hI_, hB_, hK_⟩; have HI2 := zaa.mk hI_; have HB2 := zaa.mk hB_; have HK2 := zaa.mk hK_; clear hI_ hB_ hK_)
     | (go_at_call 38; refine (HIh.out j _ (by have := HF.out; have := HJ.out; omega) (by have := HJ.out; omega) HI2.out HB2.out).mono ?_; rintro e w3 ⟨q3, j3, rfl, hle_, hls_, hI_, hB_, hK_, hres_⟩; have HL3 := zaa.mk (show j ≤ j3 ∧ j3 ≤ s.size from ⟨hle_, hls_⟩); have HI3 := zaa.mk hI_; have HB3 := zaa.mk hB_; have HK3 := zaa.mk hK_; have HR3 := zaa.mk hres_; clear hle_ hls_ hI_ hB_ hK_ hres_)
     | (have hnx_ := show j3 ≤ nxt s j3 ∧ nxt s j3 ≤ s.size from (by have := HL3.out; unfold nxt; split <;> omega); have HN4 := zaa.mk hnx_; clear hnx_; (go_at_call 49; refine (take_at s j3 HL3.out.2 w0 w3 g HI3.out HB3.out).mono ?_; rintro e w4 ⟨rfl, hI_, hB_, hK_⟩; have HI4 := zaa.mk hI_; have HB4 := zaa.mk hB_; have HK4 := zaa.mk hK_; clear hI_ hB_ hK_))
     | (go_at_call 38; refine (HIh.out (nxt s j3) _ (by have := HF.out; have := HJ.out; have := HL3.out; have := HN4.out; omega) HN4.out.2 HI4.out HB4.out).mono ?_; rintro e w5 ⟨q5, j5, rfl, hle_, hls_, hI_, hB_, hK_, hres_⟩; have HL5 := zaa.mk (show (nxt s j3) ≤ j5 ∧ j5 ≤ s.size from ⟨hle_, hls_⟩); have HI5 := zaa.mk hI_; have HB5 := zaa.mk hB_; have HK5 := zaa.mk hK_; have HR5 := zaa.mk hres_; clear hle_ hls_ hI_ hB_ hK_ hres_))
    have HK5' := zaa.mk ((HK2.out.trans HK3.out (.inl rfl)).trans (HK4.out.trans HK5.out (.inl rfl)) (.inl rfl))
    have hres := HR3.out
    have hres2 := HR5.out
    clear HR3 HR5
    cases hrd : rdR f s j with
    | none =>
     rw [hrd] at hres
     dsimp only at hres
     subst hres
     have HR0 := zaa.mk (show rdR (f + 1) s i = none by rw [HUn.out, hrd])
     clear hrd hres2
     go_wp2
     go_ret
     rw [HR0.out]
     exact ⟨none, j5, rfl, by have := HJ.out; have := HL3.out; have := HN4.out; have := HL5.out; omega, HL5.out.2, HI5.out, HB5.out, HK5'.out, rfl⟩
    | some am =>
     obtain ⟨a, md⟩ := am
     rw [hrd] at hres
     dsimp only at hres
     obtain ⟨hj, pa, rfl, hPa⟩ := hres
     subst hj
     have hun := HUn.out
     rw [hrd] at hun
     dsimp only at hun
     clear HUn hrd
     have HUn := zaa.mk hun
     have HPa := zaa.mk (PtAt.kept (PtAt.kept hPa HK4.out) HK5.out)
     clear hun hPa
     by_cases hbad : s.size ≤ j3 ∨ (bt s (j3 : Int) ≠ 124 ∧ bt s (j3 : Int) ≠ 45)
     ·have HR0 := zaa.mk (show rdR (f + 1) s i = none by rw [HUn.out, if_pos hbad])
      have d5 : (cAt s j3 == 124) = false := by rw [beq_eq_false_iff_ne]; unfold cAt; split <;> omega
      have d6 : (cAt s j3 == 45) = false := by rw [beq_eq_false_iff_ne]; unfold cAt; split <;> omega
      clear hbad
      generalize cAt s j3 = c4 at *
      rcases q5 with _ | q5
      ·go_wp2
       go_ret
       rw [HR0.out]
       exact ⟨none, j5, rfl, by have := HJ.out; have := HL3.out; have := HN4.out; have := HL5.out; omega, HL5.out.2, HI5.out, HB5.out, HK5'.out, rfl⟩
      ·go_wp2
       go_ret
       rw [HR0.out]
       exact ⟨none, j5, rfl, by have := HJ.out; have := HL3.out; have := HN4.out; have := HL5.out; omega, HL5.out.2, HI5.out, HB5.out, HK5'.out, rfl⟩
     ·have hun := HUn.out
      rw [if_neg hbad] at hun
      clear HUn
      have HUn := zaa.mk hun
      have hlt3 : j3 < s.size := by omega
      have hn3 : nxt s j3 = j3 + 1 := if_pos hlt3
      have hc3 : cAt s j3 = bt s (j3 : Int) := if_pos hlt3
      rw [hn3] at hres2
      rw [hc3]
      have hbs : bt s (j3 : Int) = 124 ∨ bt s (j3 : Int) = 45 := by omega
      clear hun hbad hc3
      generalize bt s (j3 : Int) = c4 at *
      have HBs := zaa.mk hbs
      cases hrd : rdR f s (j3 + 1) with
      | none =>
       rw [hrd] at hres2
       dsimp only at hres2
       subst hres2
       have HR0 := zaa.mk (show rdR (f + 1) s i = none by rw [HUn.out, hrd])
       clear hrd hbs hn3
       go_wp2
       go_ret
       rw [HR0.out]
       exact ⟨none, j5, rfl, by have := HJ.out; have := HL3.out; have := HN4.out; have := HL5.out; omega, HL5.out.2, HI5.out, HB5.out, HK5'.out, rfl⟩
      | some be =>
       obtain ⟨b, e⟩ := be
       rw [hrd] at hres2
       dsimp only at hres2
       obtain ⟨hj, pb, rfl, hPb⟩ := hres2
       subst hj
       have hun := HUn.out
       rw [hrd] at hun
       dsimp only at hun
       clear HUn hrd hn3
       have HUn := zaa.mk hun
       have HPb := zaa.mk hPb
       clear hun hPb
       have HTk6 := zaa.mk (take_at s j5 HL5.out.2 w0 w5 g HI5.out HB5.out)
       have HN6 := zaa.mk (show j5 ≤ nxt s j5 ∧ nxt s j5 ≤ s.size by have := HL5.out; unfold nxt; split <;> omega)
       rcases hbs with e8 | e8
       ·have d5 : (c4 == 124) = true := by rw [beq_iff_eq]; exact e8
        have HC4 := zaa.mk e8
        clear e8
        by_cases h41 : s.size ≤ j5 ∨ bt s (j5 : Int) ≠ 41
        ·have HR0 := zaa.mk (show rdR (f + 1) s i = none by rw [HUn.out, if_pos h41])
         have d7 : (cAt s j5 == 41) = false := by rw [beq_eq_false_iff_ne]; unfold cAt; split <;> omega
         clear h41
         generalize cAt s j5 = c6 at *
         go_wp2_with (first
          | (go_at_call 49; refine HTk6.out.mono ?_; rintro e w6 ⟨rfl, hI_, hB_, hK_⟩; have HI6 := zaa.mk hI_; have HB6 := zaa.mk hB_; have HK6 := zaa.mk hK_; clear hI_ hB_ hK_))
         go_ret
         rw [HR0.out]
         exact ⟨none, nxt s j5, rfl, by have := HJ.out; have := HL3.out; have := HN4.out; have := HL5.out; have := HN6.out; omega, HN6.out.2, HI6.out, HB6.out, HK5'.out.trans HK6.out (.inl rfl), rfl⟩
        ·have hun := HUn.out
         rw [if_neg h41] at hun
         have HR0 := zaa.mk hun
         have hlt5 : j5 < s.size := by omega
         have HX := zaa.mk (show nxt s j5 = j5 + 1 from if_pos hlt5)
         have d7 : (cAt s j5 == 41) = true := by rw [beq_iff_eq, show cAt s j5 = bt s (j5 : Int) from if_pos hlt5]; omega
         clear hun h41 HUn
         generalize cAt s j5 = c6 at *
         go_wp2_with (first
          | (go_at_call 49; refine HTk6.out.mono ?_; rintro e w6 ⟨rfl, hI_, hB_, hK_⟩; have HI6 := zaa.mk hI_; have HB6 := zaa.mk hB_; have HK6 := zaa.mk hK_; clear hI_ hB_ hK_))
         have hb := zab (zab (Below.refl w6.heap.size w6) (.cells #[.pointer (some ⟨pa, 0, none⟩), .pointer (some ⟨pb, 0, none⟩)] 43)) (.cells #[.int .u8 c4, .slice (some ⟨w6.heap.size, 0, none⟩) 2 2] 64)
         have hk1 := heap_alloc2_old w6 (.cells #[.pointer (some ⟨pa, 0, none⟩), .pointer (some ⟨pb, 0, none⟩)] 43) (.cells #[.int .u8 c4, .slice (some ⟨w6.heap.size, 0, none⟩) 2 2] 64)
         have hk2 := heap_alloc2_new w6 (.cells #[.pointer (some ⟨pa, 0, none⟩), .pointer (some ⟨pb, 0, none⟩)] 43) (.cells #[.int .u8 c4, .slice (some ⟨w6.heap.size, 0, none⟩) 2 2] 64)
         have hI7 := (HI6.out.alloc (.cells #[.pointer (some ⟨pa, 0, none⟩), .pointer (some ⟨pb, 0, none⟩)] 43)).alloc (.cells #[.int .u8 c4, .slice (some ⟨w6.heap.size, 0, none⟩) 2 2] 64)
         generalize (w6.alloc (.cells #[.pointer (some ⟨pa, 0, none⟩), .pointer (some ⟨pb, 0, none⟩)] 43)).alloc (.cells #[.int .u8 c4, .slice (some ⟨w6.heap.size, 0, none⟩) 2 2] 64) = w7 at *
         have hgl : g < w6.heap.size := zak HI6.out.1
         have HPa7 := zaa.mk (PtAt.below (PtAt.kept HPa.out HK6.out) hb)
         have HPb7 := zaa.mk (PtAt.below (PtAt.kept HPb.out HK6.out) hb)
         have hc4 := HC4.out
         go_ret
         rw [HR0.out]
         exact ⟨_, nxt s j5, rfl, by have := HJ.out; have := HL3.out; have := HN4.out; have := HL5.out; have := HN6.out; omega, HN6.out.2, hI7, zae HB6.out hb, (HK5'.out.trans HK6.out (.inl rfl)).trans (zav.of_below hb g none) (.inl rfl), HX.out, _, rfl, by show w6.heap.size + 1 ≠ g; omega, w6.heap.size, pa, pb, by rw [hk2, hc4]; rfl, by show w6.heap.size ≠ g; omega, hk1, HPa7.out, HPb7.out⟩
       ·have d5 : (c4 == 124) = false := by rw [beq_eq_false_iff_ne]; omega
        have d6 : (c4 == 45) = true := by rw [beq_iff_eq]; exact e8
        have HC4 := zaa.mk e8
        clear e8
        by_cases h41 : s.size ≤ j5 ∨ bt s (j5 : Int) ≠ 41
        ·have HR0 := zaa.mk (show rdR (f + 1) s i = none by rw [HUn.out, if_pos h41])
         have d7 : (cAt s j5 == 41) = false := by rw [beq_eq_false_iff_ne]; unfold cAt; split <;> omega
         clear h41
         generalize cAt s j5 = c6 at *
         go_wp2_with (first
          | (go_at_call 49; refine HTk6.out.mono ?_; rintro e w6 ⟨rfl, hI_, hB_, hK_⟩; have HI6 := zaa.mk hI_; have HB6 := zaa.mk hB_; have HK6 := zaa.mk hK_; clear hI_ hB_ hK_))
         go_ret
         rw [HR0.out]
         exact ⟨none, nxt s j5, rfl, by have := HJ.out; have := HL3.out; have := HN4.out; have := HL5.out; have := HN6.out; omega, HN6.out.2, HI6.out, HB6.out, HK5'.out.trans HK6.out (.inl rfl), rfl⟩
        ·have hun := HUn.out
         rw [if_neg h41] at hun
         have HR0 := zaa.mk hun
         have hlt5 : j5 < s.size := by omega
         have HX := zaa.mk (show nxt s j5 = j5 + 1 from if_pos hlt5)
         have d7 : (cAt s j5 == 41) = true := by rw [beq_iff_eq, show cAt s j5 = bt s (j5 : Int) from if_pos hlt5]; omega
         clear hun h41 HUn
         generalize cAt s j5 = c6 at *
         go_wp2_with (first
          | (go_at_call 49; refine HTk6.out.mono ?_; rintro e w6 ⟨rfl, hI_, hB_, hK_⟩; have HI6 := zaa.mk hI_; have HB6 := zaa.mk hB_; have HK6 := zaa.mk hK_; clear hI_ hB_ hK_))
         have hb := zab (zab (Below.refl w6.heap.size w6) (.cells #[.pointer (some ⟨pa, 0, none⟩), .pointer (some ⟨pb, 0, none⟩)] 43)) (.cells #[.int .u8 c4, .slice (some ⟨w6.heap.size, 0, none⟩) 2 2] 64)
         have hk1 := heap_alloc2_old w6 (.cells #[.pointer (some ⟨pa, 0, none⟩), .pointer (some ⟨pb, 0, none⟩)] 43) (.cells #[.int .u8 c4, .slice (some ⟨w6.heap.size, 0, none⟩) 2 2] 64)
         have hk2 := heap_alloc2_new w6 (.cells #[.pointer (some ⟨pa, 0, none⟩), .pointer (some ⟨pb, 0, none⟩)] 43) (.cells #[.int .u8 c4, .slice (some ⟨w6.heap.size, 0, none⟩) 2 2] 64)
         have hI7 := (HI6.out.alloc (.cells #[.pointer (some ⟨pa, 0, none⟩), .pointer (some ⟨pb, 0, none⟩)] 43)).alloc (.cells #[.int .u8 c4, .slice (some ⟨w6.heap.size, 0, none⟩) 2 2] 64)
         generalize (w6.alloc (.cells #[.pointer (some ⟨pa, 0, none⟩), .pointer (some ⟨pb, 0, none⟩)] 43)).alloc (.cells #[.int .u8 c4, .slice (some ⟨w6.heap.size, 0, none⟩) 2 2] 64) = w7 at *
         have hgl : g < w6.heap.size := zak HI6.out.1
         have HPa7 := zaa.mk (PtAt.below (PtAt.kept HPa.out HK6.out) hb)
         have HPb7 := zaa.mk (PtAt.below (PtAt.kept HPb.out HK6.out) hb)
         have hc4 := HC4.out
         go_ret
         rw [HR0.out]
         exact ⟨_, nxt s j5, rfl, by have := HJ.out; have := HL3.out; have := HN4.out; have := HL5.out; have := HN6.out; omega, HN6.out.2, hI7, zae HB6.out hb, (HK5'.out.trans HK6.out (.inl rfl)).trans (zav.of_below hb g none) (.inl rfl), HX.out, _, rfl, by show w6.heap.size + 1 ≠ g; omega, w6.heap.size, pa, pb, by rw [hk2, hc4]; rfl, by show w6.heap.size ≠ g; omega, hk1, HPa7.out, HPb7.out⟩
   ·have d1 : (c == 111) = false := by rw [beq_eq_false_iff_ne]; omega
    have d2 : (c == 62) = false := by rw [beq_eq_false_iff_ne]; omega
    have d3 : (c == 94) = false := by rw [beq_eq_false_iff_ne]; omega
    have d4 : (c == 40) = false := by rw [beq_eq_false_iff_ne]; omega
    have HR0 := zaa.mk (show rdR (f + 1) s i = none by rw [HUn.out, if_neg (by omega), if_neg (by omega), if_pos (by omega)])
    go_enter Try.func38, Try.ntmps38
    go_wp2_with (first
     | (go_at_call 49; refine HTk.out.mono ?_; rintro e w2 ⟨rfl, hI_, hB_, hK_⟩; have HI2 := zaa.mk hI_; have HB2 := zaa.mk hB_; have HK2 := zaa.mk hK_; clear hI_ hB_ hK_))
    go_ret
    rw [HR0.out]
    exact ⟨none, j, rfl, by have := HJ.out; omega, by have := HJ.out; omega, HI2.out, HB2.out, HK2.out, rfl⟩
set_option maxHeartbeats 1000000 in
set_option maxRecDepth 100000 in
theorem countO_calls (s : ByteArray) (w : World) : Calls Try.prog 37 #[.string s, .string ⟨#[111]⟩] w fun e w' => e = .returned (.int .i64 (Lib.countByte s.data.toList 111)) ∧ w' = w := by
 go_enter Try.func37, Try.ntmps37
 go_wp2
 rw [run_callFunc_extern Try.func47 (by kernel_rfl) (by kernel_rfl) (by kernel_rfl) (e := Extern.BytealgCount.count) (by kernel_rfl), Lib.run_countString]
 simp only [Result.andThen]
 rw [Oper.upon_value]
 go_wp2
 go_ret
 exact ⟨rfl, rfl⟩
theorem count_rooms (s : ByteArray) : ∀ n, n ≤ s.size → zbk s n = (s.data.toList.take n).count 111
 | 0, _ => rfl
 | n + 1, h => by
  have hl : n < s.data.toList.length := by rw [Array.length_toList]; exact h
  have hb : bt s (n : Int) = ((s.data.toList[n].toNat : Nat) : Int) := by
   rw [← bt_nat s n (by omega)]
   rfl
  rw [roomsS_succ, count_rooms s n (by omega), List.take_add_one, List.getElem?_eq_getElem hl, List.count_append, hb]
  congr 1
  by_cases e : s.data.toList[n] = 111
  ·rw [e]; rfl
  ·have : ¬ ((s.data.toList[n].toNat : Nat) : Int) = 111 := fun h2 => e (UInt8.toNat_inj.1 (by show _ = 111; omega))
   rw [if_neg this]
   symm
   show List.count 111 [s.data.toList[n]] = 0
   rw [List.count_eq_zero]
   intro hm
   rw [List.mem_singleton] at hm
   exact e hm.symm
theorem count_all (s : ByteArray) : Lib.countByte s.data.toList 111 = zbk s s.size := by
 rw [count_rooms s s.size (Nat.le_refl _)]
 unfold Lib.countByte
 rw [List.take_of_length_le (by rw [Array.length_toList]; exact Nat.le_refl _)]
def POfRes (w : World) (r : Option Tr) (e : Ending) (w' : World) : Prop :=
 ∃ q : Option Addr, e = .returned (.pointer q) ∧ Below w.heap.size w w' ∧ match r with
  | none => q = none
  | some t => ∃ p, q = some ⟨p, 0, none⟩ ∧ PtAt w' (fun _ => True) t p
set_option maxHeartbeats 400000 in
set_option maxRecDepth 100000 in
theorem termOf_calls (s : ByteArray) (hs : s.size ≤ 1048576) (w : World) : Calls Try.prog 22 #[.string s] w (POfRes w (ofR s)) := by
 have hrl := roomsS_le s s.size
 have HOf := zaa.mk (show ofR s = if 60 < s.size ∨ 7 < zbk s s.size then none else match rdR (s.size + 1) s 0 with
  | none => none
  | some (t, e) => if e = s.size then some t else none from rfl)
 have HCo := zaa.mk (fun w => countO_calls s w)
 rw [count_all] at HCo
 generalize zbk s s.size = rn at *
 by_cases hbig : 60 < s.size
 ·have d1 : (60 : Int) < (s.size : Int) := by omega
  have HR := zaa.mk (show ofR s = none by rw [HOf.out, if_pos (.inl hbig)])
  clear hbig
  go_enter Try.func22, Try.ntmps22
  go_wp2
  go_ret
  rw [HR.out]
  exact ⟨none, rfl, Below.refl _ _, rfl⟩
 ·have d1 : ¬ (60 : Int) < (s.size : Int) := by omega
  by_cases h7 : 7 < rn
  ·have d2 : (7 : Int) < (rn : Int) := by omega
   have HR := zaa.mk (show ofR s = none by rw [HOf.out, if_pos (.inr h7)])
   clear h7 hbig
   go_enter Try.func22, Try.ntmps22
   go_wp2_with (first
    | (go_at_call 37; refine (HCo.out _).mono ?_; rintro e w2 ⟨rfl, rfl⟩))
   go_ret
   rw [HR.out]
   exact ⟨none, rfl, Below.refl _ _, rfl⟩
  ·have d2 : ¬ (7 : Int) < (rn : Int) := by omega
   have hof := HOf.out
   rw [if_neg (fun h => h.elim hbig h7)] at hof
   clear HOf h7 hbig
   have HOf := zaa.mk hof
   clear hof
   go_enter Try.func22, Try.ntmps22
   go_upto_region 4 with (first
    | (go_at_call 37; refine (HCo.out _).mono ?_; rintro e w2 ⟨rfl, rfl⟩))
   have hI := zay.new w2 w2 s (Below.refl _ _)
   have hB := zab (Below.refl w2.heap.size w2) (.cells #[.string s] 60)
   generalize w2.alloc (.cells #[.string s] 60) = w3 at *
   obtain ⟨g, hg⟩ : ∃ g, g = w2.heap.size := ⟨_, rfl⟩
   rw [← hg] at hI ⊢
   have hI' : zay w2 w3 g (zch s 0) := by rw [restB_zero]; exact hI
   have HRd := zaa.mk (reader_calls s w2 g (s.size + 1) 0 w3 (by omega) (Nat.zero_le _) hI' hB)
   clear hI hB hg hI'
   go_upto_region 5 with (first
    | (go_at_call 38; refine HRd.out.mono ?_; rintro e w4 ⟨q, j, rfl, hle_, hls_, hI_, hB_, hK_, hres_⟩; have HLs := zaa.mk hls_; have HI4 := zaa.mk hI_; have HB4 := zaa.mk hB_; have HR4 := zaa.mk hres_; clear hle_ hls_ hI_ hB_ hK_ hres_))
   have x0 := cellS60_0 HI4.out.1
   have hz := restB_size s HLs.out
   have hres := HR4.out
   have hof := HOf.out
   clear HR4 HOf
   by_cases hj : j = s.size
   ·have t1 : ((zch s j).toList == ([] : List UInt8)) = true := by rw [beq_iff_eq, toList_nil]; omega
    have t2 : ((zch s j).toList != ([] : List UInt8)) = false := by rw [bne, t1]; rfl
    have HZ := zaa.mk hz
    clear hz
    generalize zch s j = rb at *
    go_wp2
    go_ret
    cases hrd : rdR (s.size + 1) s 0 with
    | none =>
     rw [hrd] at hres hof
     dsimp only at hres hof
     rw [hof]
     exact ⟨q, rfl, HB4.out, hres⟩
    | some te =>
     obtain ⟨t, e⟩ := te
     rw [hrd] at hres hof
     dsimp only at hres hof
     obtain ⟨hje, p, rfl, hP⟩ := hres
     rw [if_pos (by omega)] at hof
     rw [hof]
     exact ⟨_, rfl, HB4.out, p, rfl, PtAt.move (fun _ _ _ => rfl) (fun _ _ => trivial) t p hP⟩
   ·have t1 : ((zch s j).toList == ([] : List UInt8)) = false := by rw [beq_eq_false_iff_ne]; intro h; have := toList_nil.1 h; have := HLs.out; omega
    have t2 : ((zch s j).toList != ([] : List UInt8)) = true := by rw [bne, t1]; rfl
    have HZ := zaa.mk hz
    clear hz
    generalize zch s j = rb at *
    go_wp2
    go_ret
    have hn : ofR s = none := by
     rw [hof]
     cases hrd : rdR (s.size + 1) s 0 with
     | none => rfl
     | some te =>
      obtain ⟨t, e⟩ := te
      rw [hrd] at hres
      dsimp only at hres ⊢
      rw [if_neg (by omega)]
    rw [hn]
    exact ⟨none, rfl, HB4.out, rfl⟩
abbrev PtA (w : World) (t : Tr) (p : Nat) : Prop := PtAt w (fun _ => True) t p
theorem PtAt.drew {w : World} {ok : Nat → Prop} {t : Tr} {p : Nat} (h : PtAt w ok t p) : PtAt w.drew ok t p := PtAt.move (w := w) (w' := w.drew) (fun _ _ _ => rfl) (fun _ h => h) t p h
def PRes (w : World) (t : Tr) (e : Ending) (w' : World) : Prop := ∃ p, e = .returned (.pointer (some ⟨p, 0, none⟩)) ∧ Below w.heap.size w w' ∧ PtA w' t p
def sgC : Option Bool → Int
 | none => 0
 | some b => unC b
set_option maxHeartbeats 400000 in
set_option maxRecDepth 100000 in
theorem inward_calls : ∀ (n : Nat) (t : Tr), t.nodes ≤ n → ∀ (c : Option Bool) (sg : Int) (w : World) (p : Nat), sg = sgC c → PtA w t p →
  Calls Try.prog 39 #[.pointer (some ⟨p, 0, none⟩), .int .u8 sg] w (PRes w (inF c (tid t))) := by
 intro n
 induction n with
 | zero => intro t h; exact absurd h (by cases t <;> simp [Tr.nodes])
 | succ n ih =>
  intro t hn c sg w p hsg hP
  have HIh := zaa.mk ih
  clear ih
  cases t with
  | o =>
   obtain ⟨-, hk⟩ := hP
   have x0 : w.cell? ⟨p, 0, none⟩ = some (.int .u8 111) := (zad hk 0).trans rfl
   have HK := zaa.mk hk
   have HR := zaa.mk (show inF c (tid .o) = .o by cases c with
    | none => exact zco _
    | some d => cases d <;> rfl)
   clear hk hsg
   go_enter Try.func39, Try.ntmps39
   go_wp2
   go_ret
   rw [HR.out]
   exact ⟨p, rfl, Below.refl _ _, trivial, HK.out⟩
  | un b t =>
   obtain ⟨-, q, k, hk, -, hk2, hPk⟩ := hP
   simp only [Tr.nodes] at hn
   have HN := zaa.mk (show t.nodes ≤ n by omega)
   have HU := zaa.mk (show unC b = sgC (some b) from rfl)
   have u1 : (unC b == 111) = false := by cases b <;> rfl
   generalize unC b = u at *
   have x0 : w.cell? ⟨p, 0, none⟩ = some (.int .u8 u) := (zad hk 0).trans rfl
   have x1 : w.cell? ⟨p, 1, none⟩ = some (.slice (some ⟨q, 0, none⟩) 1 1) := (zad hk 1).trans rfl
   have x2 : w.cell? ⟨q, 0, none⟩ = some (.pointer (some ⟨k, 0, none⟩)) := (zad hk2 0).trans rfl
   have HPk := zaa.mk hPk
   clear hk hk2 hPk hn
   go_enter Try.func39, Try.ntmps39
   go_upto_region 4 with (fail)
   refine start_ (n := 12) (S := fun w' => (w'.cell? ⟨p, 0, none⟩ = some (.int .u8 u)) ∧ (w'.cell? ⟨p, 1, none⟩ = some (.slice (some ⟨q, 0, none⟩) 1 1)) ∧ (w'.cell? ⟨q, 0, none⟩ = some (.pointer (some ⟨k, 0, none⟩))) ∧ (PtA w' t k) ∧ (Below w.heap.size w w')) (ds := []) #[false, false, false, false, false, false, false, false, false, false, false, false] (by kernel_rfl) rfl rfl (⟨x0, x1, x2, HPk.out.drew, zcd (Below.refl _ _)⟩) (fun hHeld => ?_)
   clear x0 x1 x2
   refine zbb (i := 0) (N := some 22) (v := ?_) (a' := ?_) #[true, false, false, false, false, false, false, false, false, false, false, false] rfl rfl (by kernel_rfl) (fun _ _ _ h => h) (Or.inl ⟨by rfl, ?_⟩) ?_ ?_
   rotate_left
   ·intro w'
    go_simp
    with_reducible rfl
   rotate_left
   ·simp only [Act.put, List.setIfInBounds_toArray, List.set_cons_zero, List.set_cons_succ, zat, zau]
    rfl
   refine zbb (i := 1) (N := some 23) (v := ?_) (a' := ?_) #[true, true, false, false, false, false, false, false, false, false, false, false] rfl rfl (by kernel_rfl) (fun _ _ _ h => h) (Or.inl ⟨by rfl, ?_⟩) ?_ ?_
   rotate_left
   ·intro w'
    go_simp
    with_reducible rfl
   rotate_left
   ·simp only [Act.put, List.setIfInBounds_toArray, List.set_cons_zero, List.set_cons_succ, zat, zau]
    rfl
   refine zbb (i := 2) (N := some 24) (v := ?_) (a' := ?_) #[true, true, true, false, false, false, false, false, false, false, false, false] rfl rfl (by kernel_rfl) (fun _ _ _ h => h) (Or.inl ⟨by rfl, ?_⟩) ?_ ?_
   rotate_left
   ·intro w'
    go_simp
    with_reducible rfl
   rotate_left
   ·simp only [Act.put, List.setIfInBounds_toArray, List.set_cons_zero, List.set_cons_succ, zat, zau]
    rfl
   refine take_ (i := 3) (N := some 25) (v := ?_) (a' := ?_) #[true, true, true, true, false, false, false, false, false, false, false, false] rfl rfl (by kernel_rfl) (fun _ _ _ h => h) (Or.inl ⟨by rfl, ?_⟩) hHeld ?_ ?_
   rotate_left
   ·rintro w' ⟨s0, s1, s2, s3, s4⟩
    go_simp
    with_reducible rfl
   rotate_left
   ·simp only [Act.put, List.setIfInBounds_toArray, List.set_cons_zero, List.set_cons_succ, zat, zau]
    rfl
   refine zbb (i := 4) (N := some 26) (v := ?_) (a' := ?_) #[true, true, true, true, true, false, false, false, false, false, false, false] rfl rfl (by kernel_rfl) (fun _ _ _ h => h) (Or.inl ⟨by rfl, ?_⟩) ?_ ?_
   rotate_left
   ·intro w'
    go_simp
    with_reducible rfl
   rotate_left
   ·simp only [Act.put, List.setIfInBounds_toArray, List.set_cons_zero, List.set_cons_succ, zat, zau]
    rfl
   refine take_ (i := 5) (N := some 27) (v := ?_) (a' := ?_) #[true, true, true, true, true, true, false, false, false, false, false, false] rfl rfl (by kernel_rfl) (fun _ _ _ h => h) (Or.inl ⟨by rfl, ?_⟩) hHeld ?_ ?_
   rotate_left
   ·rintro w' ⟨s0, s1, s2, s3, s4⟩
    go_simp
    with_reducible rfl
   rotate_left
   ·simp only [Act.put, List.setIfInBounds_toArray, List.set_cons_zero, List.set_cons_succ, zat, zau]
    rfl
   refine zbb (i := 6) (N := some 28) (v := ?_) (a' := ?_) #[true, true, true, true, true, true, true, false, false, false, false, false] rfl rfl (by kernel_rfl) (fun _ _ _ h => h) (Or.inl ⟨by rfl, ?_⟩) ?_ ?_
   rotate_left
   ·intro w'
    go_simp
    with_reducible rfl
   rotate_left
   ·simp only [Act.put, List.setIfInBounds_toArray, List.set_cons_zero, List.set_cons_succ, zat, zau]
    rfl
   refine zbb (i := 7) (N := some 29) (v := ?_) (a' := ?_) #[true, true, true, true, true, true, true, true, false, false, false, false] rfl rfl (by kernel_rfl) (fun _ _ _ h => h) (Or.inl ⟨by rfl, ?_⟩) ?_ ?_
   rotate_left
   ·intro w'
    go_simp
    with_reducible rfl
   rotate_left
   ·simp only [Act.put, List.setIfInBounds_toArray, List.set_cons_zero, List.set_cons_succ, zat, zau]
    rfl
   refine zbb (i := 8) (N := some 30) (v := ?_) (a' := ?_) #[true, true, true, true, true, true, true, true, true, false, false, false] rfl rfl (by kernel_rfl) (fun _ _ _ h => h) (Or.inl ⟨by rfl, ?_⟩) ?_ ?_
   rotate_left
   ·intro w'
    go_simp
    with_reducible rfl
   rotate_left
   ·simp only [Act.put, List.setIfInBounds_toArray, List.set_cons_zero, List.set_cons_succ, zat, zau]
    rfl
   refine take_ (i := 9) (N := some 31) (v := ?_) (a' := ?_) #[true, true, true, true, true, true, true, true, true, true, false, false] rfl rfl (by kernel_rfl) (fun _ _ _ h => h) (Or.inl ⟨by rfl, ?_⟩) hHeld ?_ ?_
   rotate_left
   ·rintro w' ⟨s0, s1, s2, s3, s4⟩
    go_simp
    with_reducible rfl
   rotate_left
   ·simp only [Act.put, List.setIfInBounds_toArray, List.set_cons_zero, List.set_cons_succ, zat, zau]
    rfl
   refine one_ (i := 10) (N := some 32) #[true, true, true, true, true, true, true, true, true, true, true, false] rfl rfl (by kernel_rfl) (by decide) (fun K hK => ?_)
   refine goes_ Try.func39 (by kernel_rfl) rfl #[.pointer (some ⟨k, 0, none⟩), .int .u8 u] (by rfl) rfl rfl (by (try simp only [List.map_toArray, List.map_cons, List.map_nil]); first | done | rfl) ?_
   have hs_ := hHeld
   obtain ⟨s0, s1, s2, s3, s4⟩ := hs_
   refine (HIh.out t HN.out (some b) u _ k HU.out s3).mono ?_
   rintro e w3 ⟨m, rfl, hb, hP⟩
   have HB3 := zaa.mk (zae s4 hb)
   have HP3 := zaa.mk hP
   clear hP
   refine ⟨_, rfl, ?_⟩
   refine hK.out _ _ ⟨zai hb s0, zai hb s1, zai hb s2, PtAt.below s3 hb, zae s4 hb⟩ (fun hHeld => ?_)
   clear hK K hb s0 s1 s2 s3 s4
   refine norm_ (a' := ?_) ?_ ?_
   rotate_left
   ·show Act.put _ (some 32) _ = _
    simp only [Act.put, List.setIfInBounds_toArray, List.set_cons_zero, List.set_cons_succ, zat, zau]
    rfl
   refine zbb (i := 11) (N := some 5) (v := ?_) (a' := ?_) #[true, true, true, true, true, true, true, true, true, true, true, true] rfl rfl (by kernel_rfl) (fun _ _ _ h => h) (Or.inl ⟨by rfl, ?_⟩) ?_ ?_
   rotate_left
   ·intro w'
    go_simp
    with_reducible rfl
   rotate_left
   ·simp only [Act.put, List.setIfInBounds_toArray, List.set_cons_zero, List.set_cons_succ, zat, zau]
    rfl
   refine done_ (by kernel_rfl) ?_
   have HId := zaa.mk (show inF (some b) (tid t) = tid (.un b t) from rfl)
   cases c with
   | none =>
    have hsg0 : sg = 0 := hsg
    subst hsg0
    clear hsg
    go_wp2
    go_ret
    rw [zco]
    exact ⟨m, rfl, HB3.out, HP3.out⟩
   | some d =>
    have HS := zaa.mk hsg
    have v1 : (sg == 0) = false := by rw [hsg]; cases d <;> rfl
    clear hsg
    have HN2 := zaa.mk (show (inF (some b) (tid t)).nodes ≤ n by have h := HN.out; have := zck t; rw [zbl]; omega)
    go_wp2_with (first
     | (go_at_call 39; refine (HIh.out _ HN2.out (some d) sg _ m HS.out HP3.out).mono ?_; rintro e w5 ⟨m2, rfl, hb, hP⟩; have HB5 := zaa.mk (zae HB3.out hb); have HP5 := zaa.mk hP; clear hb hP))
    go_ret
    have h := HP5.out
    rw [tid_self _ (zbz _ _ (zcf t))] at h
    exact ⟨m2, rfl, HB5.out, h⟩
  | bin b x y =>
   obtain ⟨-, q, k, l, hk, -, hk2, hPk, hPl⟩ := hP
   simp only [Tr.nodes] at hn
   have HN := zaa.mk (show x.nodes ≤ n ∧ y.nodes ≤ n by omega)
   have HS := zaa.mk hsg
   have HB := zaa.mk (show binC b = binC b from rfl)
   have u1 : (binC b == 111) = false := by cases b <;> rfl
   have HU := zaa.mk (show ∃ u, u = binC b from ⟨_, rfl⟩)
   obtain ⟨u, hu⟩ := HU.out
   rw [← hu] at hk u1
   have HUu := zaa.mk hu
   clear HU HB hu
   have x0 : w.cell? ⟨p, 0, none⟩ = some (.int .u8 u) := (zad hk 0).trans rfl
   have x1 : w.cell? ⟨p, 1, none⟩ = some (.slice (some ⟨q, 0, none⟩) 2 2) := (zad hk 1).trans rfl
   have x2 : w.cell? ⟨q, 0, none⟩ = some (.pointer (some ⟨k, 0, none⟩)) := (zad hk2 0).trans rfl
   have x3 : w.cell? ⟨q, 1, none⟩ = some (.pointer (some ⟨l, 0, none⟩)) := (zad hk2 1).trans rfl
   have HPk := zaa.mk hPk
   have HPl := zaa.mk hPl
   have HX0 := zaa.mk x0
   clear hk hk2 hPk hPl hn hsg
   go_enter Try.func39, Try.ntmps39
   go_upto_region 8 with (fail)
   refine start_ (n := 18) (S := fun w' => (w'.cell? ⟨p, 1, none⟩ = some (.slice (some ⟨q, 0, none⟩) 2 2)) ∧ (w'.cell? ⟨q, 0, none⟩ = some (.pointer (some ⟨k, 0, none⟩))) ∧ (w'.cell? ⟨q, 1, none⟩ = some (.pointer (some ⟨l, 0, none⟩))) ∧ (PtA w' x k) ∧ (PtA w' y l) ∧ (Below w.heap.size w w')) (ds := []) #[false, false, false, false, false, false, false, false, false, false, false, false, false, false, false, false, false, false] (by kernel_rfl) rfl rfl (⟨x1, x2, x3, HPk.out.drew, HPl.out.drew, zcd (Below.refl _ _)⟩) (fun hHeld => ?_)
   clear x0 x1 x2 x3
   refine zbb (i := 0) (N := some 39) (v := ?_) (a' := ?_) #[true, false, false, false, false, false, false, false, false, false, false, false, false, false, false, false, false, false] rfl rfl (by kernel_rfl) (fun _ _ _ h => h) (Or.inl ⟨by rfl, ?_⟩) ?_ ?_
   rotate_left
   ·intro w'
    go_simp
    with_reducible rfl
   rotate_left
   ·simp only [Act.put, List.setIfInBounds_toArray, List.set_cons_zero, List.set_cons_succ, zat, zau]
    rfl
   refine zbb (i := 1) (N := some 40) (v := ?_) (a' := ?_) #[true, true, false, false, false, false, false, false, false, false, false, false, false, false, false, false, false, false] rfl rfl (by kernel_rfl) (fun _ _ _ h => h) (Or.inl ⟨by rfl, ?_⟩) ?_ ?_
   rotate_left
   ·intro w'
    go_simp
    with_reducible rfl
   rotate_left
   ·simp only [Act.put, List.setIfInBounds_toArray, List.set_cons_zero, List.set_cons_succ, zat, zau]
    rfl
   refine zbb (i := 2) (N := some 41) (v := ?_) (a' := ?_) #[true, true, true, false, false, false, false, false, false, false, false, false, false, false, false, false, false, false] rfl rfl (by kernel_rfl) (fun _ _ _ h => h) (Or.inl ⟨by rfl, ?_⟩) ?_ ?_
   rotate_left
   ·intro w'
    go_simp
    with_reducible rfl
   rotate_left
   ·simp only [Act.put, List.setIfInBounds_toArray, List.set_cons_zero, List.set_cons_succ, zat, zau]
    rfl
   refine take_ (i := 3) (N := some 42) (v := ?_) (a' := ?_) #[true, true, true, true, false, false, false, false, false, false, false, false, false, false, false, false, false, false] rfl rfl (by kernel_rfl) (fun _ _ _ h => h) (Or.inl ⟨by rfl, ?_⟩) hHeld ?_ ?_
   rotate_left
   ·rintro w' ⟨s0, s1, s2, s3, s4, s5⟩
    go_simp
    with_reducible rfl
   rotate_left
   ·simp only [Act.put, List.setIfInBounds_toArray, List.set_cons_zero, List.set_cons_succ, zat, zau]
    rfl
   refine zbb (i := 4) (N := some 43) (v := ?_) (a' := ?_) #[true, true, true, true, true, false, false, false, false, false, false, false, false, false, false, false, false, false] rfl rfl (by kernel_rfl) (fun _ _ _ h => h) (Or.inl ⟨by rfl, ?_⟩) ?_ ?_
   rotate_left
   ·intro w'
    go_simp
    with_reducible rfl
   rotate_left
   ·simp only [Act.put, List.setIfInBounds_toArray, List.set_cons_zero, List.set_cons_succ, zat, zau]
    rfl
   refine take_ (i := 5) (N := some 44) (v := ?_) (a' := ?_) #[true, true, true, true, true, true, false, false, false, false, false, false, false, false, false, false, false, false] rfl rfl (by kernel_rfl) (fun _ _ _ h => h) (Or.inl ⟨by rfl, ?_⟩) hHeld ?_ ?_
   rotate_left
   ·rintro w' ⟨s0, s1, s2, s3, s4, s5⟩
    go_simp
    with_reducible rfl
   rotate_left
   ·simp only [Act.put, List.setIfInBounds_toArray, List.set_cons_zero, List.set_cons_succ, zat, zau]
    rfl
   refine zbb (i := 6) (N := some 45) (v := ?_) (a' := ?_) #[true, true, true, true, true, true, true, false, false, false, false, false, false, false, false, false, false, false] rfl rfl (by kernel_rfl) (fun _ _ _ h => h) (Or.inl ⟨by rfl, ?_⟩) ?_ ?_
   rotate_left
   ·intro w'
    go_simp
    with_reducible rfl
   rotate_left
   ·simp only [Act.put, List.setIfInBounds_toArray, List.set_cons_zero, List.set_cons_succ, zat, zau]
    rfl
   refine zbb (i := 8) (N := some 47) (v := ?_) (a' := ?_) #[true, true, true, true, true, true, true, false, true, false, false, false, false, false, false, false, false, false] rfl rfl (by kernel_rfl) (fun _ _ _ h => h) (Or.inl ⟨by rfl, ?_⟩) ?_ ?_
   rotate_left
   ·intro w'
    go_simp
    with_reducible rfl
   rotate_left
   ·simp only [Act.put, List.setIfInBounds_toArray, List.set_cons_zero, List.set_cons_succ, zat, zau]
    rfl
   refine zbb (i := 9) (N := some 48) (v := ?_) (a' := ?_) #[true, true, true, true, true, true, true, false, true, true, false, false, false, false, false, false, false, false] rfl rfl (by kernel_rfl) (fun _ _ _ h => h) (Or.inl ⟨by rfl, ?_⟩) ?_ ?_
   rotate_left
   ·intro w'
    go_simp
    with_reducible rfl
   rotate_left
   ·simp only [Act.put, List.setIfInBounds_toArray, List.set_cons_zero, List.set_cons_succ, zat, zau]
    rfl
   refine zbb (i := 10) (N := some 49) (v := ?_) (a' := ?_) #[true, true, true, true, true, true, true, false, true, true, true, false, false, false, false, false, false, false] rfl rfl (by kernel_rfl) (fun _ _ _ h => h) (Or.inl ⟨by rfl, ?_⟩) ?_ ?_
   rotate_left
   ·intro w'
    go_simp
    with_reducible rfl
   rotate_left
   ·simp only [Act.put, List.setIfInBounds_toArray, List.set_cons_zero, List.set_cons_succ, zat, zau]
    rfl
   refine take_ (i := 11) (N := some 50) (v := ?_) (a' := ?_) #[true, true, true, true, true, true, true, false, true, true, true, true, false, false, false, false, false, false] rfl rfl (by kernel_rfl) (fun _ _ _ h => h) (Or.inl ⟨by rfl, ?_⟩) hHeld ?_ ?_
   rotate_left
   ·rintro w' ⟨s0, s1, s2, s3, s4, s5⟩
    go_simp
    with_reducible rfl
   rotate_left
   ·simp only [Act.put, List.setIfInBounds_toArray, List.set_cons_zero, List.set_cons_succ, zat, zau]
    rfl
   refine zbb (i := 12) (N := some 51) (v := ?_) (a' := ?_) #[true, true, true, true, true, true, true, false, true, true, true, true, true, false, false, false, false, false] rfl rfl (by kernel_rfl) (fun _ _ _ h => h) (Or.inl ⟨by rfl, ?_⟩) ?_ ?_
   rotate_left
   ·intro w'
    go_simp
    with_reducible rfl
   rotate_left
   ·simp only [Act.put, List.setIfInBounds_toArray, List.set_cons_zero, List.set_cons_succ, zat, zau]
    rfl
   refine take_ (i := 13) (N := some 52) (v := ?_) (a' := ?_) #[true, true, true, true, true, true, true, false, true, true, true, true, true, true, false, false, false, false] rfl rfl (by kernel_rfl) (fun _ _ _ h => h) (Or.inl ⟨by rfl, ?_⟩) hHeld ?_ ?_
   rotate_left
   ·rintro w' ⟨s0, s1, s2, s3, s4, s5⟩
    go_simp
    with_reducible rfl
   rotate_left
   ·simp only [Act.put, List.setIfInBounds_toArray, List.set_cons_zero, List.set_cons_succ, zat, zau]
    rfl
   refine zbb (i := 14) (N := some 53) (v := ?_) (a' := ?_) #[true, true, true, true, true, true, true, false, true, true, true, true, true, true, true, false, false, false] rfl rfl (by kernel_rfl) (fun _ _ _ h => h) (Or.inl ⟨by rfl, ?_⟩) ?_ ?_
   rotate_left
   ·intro w'
    go_simp
    with_reducible rfl
   rotate_left
   ·simp only [Act.put, List.setIfInBounds_toArray, List.set_cons_zero, List.set_cons_succ, zat, zau]
    rfl
   refine one_ (i := 7) (N := some 46) #[true, true, true, true, true, true, true, true, true, true, true, true, true, true, true, false, false, false] rfl rfl (by kernel_rfl) (by decide) (fun K hK => ?_)
   refine goes_ Try.func39 (by kernel_rfl) rfl #[.pointer (some ⟨k, 0, none⟩), .int .u8 sg] (by rfl) rfl rfl (by (try simp only [List.map_toArray, List.map_cons, List.map_nil]); first | done | rfl) ?_
   have hs_ := hHeld
   obtain ⟨s0, s1, s2, s3, s4, s5⟩ := hs_
   refine (HIh.out x HN.out.1 c sg _ k HS.out s3).mono ?_
   rintro e w2 ⟨m1, rfl, hb, hP⟩
   have HQ1 := zaa.mk hP
   clear hP
   refine ⟨_, rfl, ?_⟩
   refine hK.out _ _ ⟨zai hb s0, zai hb s1, zai hb s2, PtAt.below s3 hb, PtAt.below s4 hb, zae s5 hb⟩ (fun hHeld => ?_)
   clear hK K hb s0 s1 s2 s3 s4 s5
   refine norm_ (a' := ?_) ?_ ?_
   rotate_left
   ·show Act.put _ (some 46) _ = _
    simp only [Act.put, List.setIfInBounds_toArray, List.set_cons_zero, List.set_cons_succ, zat, zau]
    rfl
   refine one_ (i := 15) (N := some 54) #[true, true, true, true, true, true, true, true, true, true, true, true, true, true, true, true, false, false] rfl rfl (by kernel_rfl) (by decide) (fun K hK => ?_)
   refine goes_ Try.func39 (by kernel_rfl) rfl #[.pointer (some ⟨l, 0, none⟩), .int .u8 sg] (by rfl) rfl rfl (by (try simp only [List.map_toArray, List.map_cons, List.map_nil]); first | done | rfl) ?_
   have hs_ := hHeld
   obtain ⟨s0, s1, s2, s3, s4, s5⟩ := hs_
   refine (HIh.out y HN.out.2 c sg _ l HS.out s4).mono ?_
   rintro e w3 ⟨m2, rfl, hb, hP⟩
   have HP1 := zaa.mk (HQ1.out.below hb)
   have HP2 := zaa.mk hP
   have HB3 := zaa.mk (zae s5 hb)
   clear hP
   refine ⟨_, rfl, ?_⟩
   refine hK.out _ _ ⟨zai hb s0, zai hb s1, zai hb s2, PtAt.below s3 hb, PtAt.below s4 hb, zae s5 hb⟩ (fun hHeld => ?_)
   clear hK K hb s0 s1 s2 s3 s4 s5
   refine norm_ (a' := ?_) ?_ ?_
   rotate_left
   ·show Act.put _ (some 54) _ = _
    simp only [Act.put, List.setIfInBounds_toArray, List.set_cons_zero, List.set_cons_succ, zat, zau]
    rfl
   refine zbb (i := 16) (N := some 6) (v := ?_) (a' := ?_) #[true, true, true, true, true, true, true, true, true, true, true, true, true, true, true, true, true, false] rfl rfl (by kernel_rfl) (fun _ _ _ h => h) (Or.inl ⟨by rfl, ?_⟩) ?_ ?_
   rotate_left
   ·intro w'
    go_simp
    with_reducible rfl
   rotate_left
   ·simp only [Act.put, List.setIfInBounds_toArray, List.set_cons_zero, List.set_cons_succ, zat, zau]
    rfl
   refine zbb (i := 17) (N := some 7) (v := ?_) (a' := ?_) #[true, true, true, true, true, true, true, true, true, true, true, true, true, true, true, true, true, true] rfl rfl (by kernel_rfl) (fun _ _ _ h => h) (Or.inl ⟨by rfl, ?_⟩) ?_ ?_
   rotate_left
   ·intro w'
    go_simp
    with_reducible rfl
   rotate_left
   ·simp only [Act.put, List.setIfInBounds_toArray, List.set_cons_zero, List.set_cons_succ, zat, zau]
    rfl
   refine done_ (by kernel_rfl) ?_
   have x0 := zai HB3.out HX0.out
   have hu := HUu.out
   have hsg := HS.out
   clear HUu HS
   cases b with
   | true =>
    replace hu : u = 124 := hu
    subst hu
    cases c with
    | none =>
     replace hsg : sg = 0 := hsg
     subst hsg
     go_wp2
     have hb := zab (zab (Below.refl w3.heap.size w3) (.cells #[.pointer (some ⟨m1, 0, none⟩), .pointer (some ⟨m2, 0, none⟩)] 43)) (.cells #[.int .u8 124, .slice (some ⟨w3.heap.size, 0, none⟩) 2 2] 64)
     have hk1 := heap_alloc2_old w3 (.cells #[.pointer (some ⟨m1, 0, none⟩), .pointer (some ⟨m2, 0, none⟩)] 43) (.cells #[.int .u8 124, .slice (some ⟨w3.heap.size, 0, none⟩) 2 2] 64)
     have hk2 := heap_alloc2_new w3 (.cells #[.pointer (some ⟨m1, 0, none⟩), .pointer (some ⟨m2, 0, none⟩)] 43) (.cells #[.int .u8 124, .slice (some ⟨w3.heap.size, 0, none⟩) 2 2] 64)
     generalize (w3.alloc (.cells #[.pointer (some ⟨m1, 0, none⟩), .pointer (some ⟨m2, 0, none⟩)] 43)).alloc (.cells #[.int .u8 124, .slice (some ⟨w3.heap.size, 0, none⟩) 2 2] 64) = wz at *
     have h1 := HP1.out.below hb
     have h2 := HP2.out.below hb
     rw [zco] at h1 h2
     go_ret
     exact ⟨_, rfl, zae HB3.out hb, trivial, w3.heap.size, m1, m2, hk2, trivial, hk1, h1, h2⟩
    | some d =>
     cases d with
     | true =>
      replace hsg : sg = 62 := hsg
      subst hsg
      go_wp2
      have hb := zab (zab (Below.refl w3.heap.size w3) (.cells #[.pointer (some ⟨m1, 0, none⟩), .pointer (some ⟨m2, 0, none⟩)] 43)) (.cells #[.int .u8 45, .slice (some ⟨w3.heap.size, 0, none⟩) 2 2] 64)
      have hk1 := heap_alloc2_old w3 (.cells #[.pointer (some ⟨m1, 0, none⟩), .pointer (some ⟨m2, 0, none⟩)] 43) (.cells #[.int .u8 45, .slice (some ⟨w3.heap.size, 0, none⟩) 2 2] 64)
      have hk2 := heap_alloc2_new w3 (.cells #[.pointer (some ⟨m1, 0, none⟩), .pointer (some ⟨m2, 0, none⟩)] 43) (.cells #[.int .u8 45, .slice (some ⟨w3.heap.size, 0, none⟩) 2 2] 64)
      generalize (w3.alloc (.cells #[.pointer (some ⟨m1, 0, none⟩), .pointer (some ⟨m2, 0, none⟩)] 43)).alloc (.cells #[.int .u8 45, .slice (some ⟨w3.heap.size, 0, none⟩) 2 2] 64) = wz at *
      have h1 := HP1.out.below hb
      have h2 := HP2.out.below hb
      go_ret
      exact ⟨_, rfl, zae HB3.out hb, trivial, w3.heap.size, m1, m2, hk2, trivial, hk1, h1, h2⟩
     | false =>
      replace hsg : sg = 94 := hsg
      subst hsg
      go_wp2
      have hb := zab (zab (Below.refl w3.heap.size w3) (.cells #[.pointer (some ⟨m2, 0, none⟩), .pointer (some ⟨m1, 0, none⟩)] 43)) (.cells #[.int .u8 124, .slice (some ⟨w3.heap.size, 0, none⟩) 2 2] 64)
      have hk1 := heap_alloc2_old w3 (.cells #[.pointer (some ⟨m2, 0, none⟩), .pointer (some ⟨m1, 0, none⟩)] 43) (.cells #[.int .u8 124, .slice (some ⟨w3.heap.size, 0, none⟩) 2 2] 64)
      have hk2 := heap_alloc2_new w3 (.cells #[.pointer (some ⟨m2, 0, none⟩), .pointer (some ⟨m1, 0, none⟩)] 43) (.cells #[.int .u8 124, .slice (some ⟨w3.heap.size, 0, none⟩) 2 2] 64)
      generalize (w3.alloc (.cells #[.pointer (some ⟨m2, 0, none⟩), .pointer (some ⟨m1, 0, none⟩)] 43)).alloc (.cells #[.int .u8 124, .slice (some ⟨w3.heap.size, 0, none⟩) 2 2] 64) = wz at *
      have h1 := HP2.out.below hb
      have h2 := HP1.out.below hb
      go_ret
      exact ⟨_, rfl, zae HB3.out hb, trivial, w3.heap.size, m2, m1, hk2, trivial, hk1, h1, h2⟩
   | false =>
    replace hu : u = 45 := hu
    subst hu
    cases c with
    | none =>
     replace hsg : sg = 0 := hsg
     subst hsg
     go_wp2
     have hb := zab (zab (Below.refl w3.heap.size w3) (.cells #[.pointer (some ⟨m1, 0, none⟩), .pointer (some ⟨m2, 0, none⟩)] 43)) (.cells #[.int .u8 45, .slice (some ⟨w3.heap.size, 0, none⟩) 2 2] 64)
     have hk1 := heap_alloc2_old w3 (.cells #[.pointer (some ⟨m1, 0, none⟩), .pointer (some ⟨m2, 0, none⟩)] 43) (.cells #[.int .u8 45, .slice (some ⟨w3.heap.size, 0, none⟩) 2 2] 64)
     have hk2 := heap_alloc2_new w3 (.cells #[.pointer (some ⟨m1, 0, none⟩), .pointer (some ⟨m2, 0, none⟩)] 43) (.cells #[.int .u8 45, .slice (some ⟨w3.heap.size, 0, none⟩) 2 2] 64)
     generalize (w3.alloc (.cells #[.pointer (some ⟨m1, 0, none⟩), .pointer (some ⟨m2, 0, none⟩)] 43)).alloc (.cells #[.int .u8 45, .slice (some ⟨w3.heap.size, 0, none⟩) 2 2] 64) = wz at *
     have h1 := HP1.out.below hb
     have h2 := HP2.out.below hb
     rw [zco] at h1 h2
     go_ret
     exact ⟨_, rfl, zae HB3.out hb, trivial, w3.heap.size, m1, m2, hk2, trivial, hk1, h1, h2⟩
    | some d =>
     cases d with
     | true =>
      replace hsg : sg = 62 := hsg
      subst hsg
      go_wp2
      have hb := zab (zab (Below.refl w3.heap.size w3) (.cells #[.pointer (some ⟨m2, 0, none⟩), .pointer (some ⟨m1, 0, none⟩)] 43)) (.cells #[.int .u8 124, .slice (some ⟨w3.heap.size, 0, none⟩) 2 2] 64)
      have hk1 := heap_alloc2_old w3 (.cells #[.pointer (some ⟨m2, 0, none⟩), .pointer (some ⟨m1, 0, none⟩)] 43) (.cells #[.int .u8 124, .slice (some ⟨w3.heap.size, 0, none⟩) 2 2] 64)
      have hk2 := heap_alloc2_new w3 (.cells #[.pointer (some ⟨m2, 0, none⟩), .pointer (some ⟨m1, 0, none⟩)] 43) (.cells #[.int .u8 124, .slice (some ⟨w3.heap.size, 0, none⟩) 2 2] 64)
      generalize (w3.alloc (.cells #[.pointer (some ⟨m2, 0, none⟩), .pointer (some ⟨m1, 0, none⟩)] 43)).alloc (.cells #[.int .u8 124, .slice (some ⟨w3.heap.size, 0, none⟩) 2 2] 64) = wz at *
      have h1 := HP2.out.below hb
      have h2 := HP1.out.below hb
      go_ret
      exact ⟨_, rfl, zae HB3.out hb, trivial, w3.heap.size, m2, m1, hk2, trivial, hk1, h1, h2⟩
     | false =>
      replace hsg : sg = 94 := hsg
      subst hsg
      go_wp2
      have hb := zab (zab (Below.refl w3.heap.size w3) (.cells #[.pointer (some ⟨m1, 0, none⟩), .pointer (some ⟨m2, 0, none⟩)] 43)) (.cells #[.int .u8 45, .slice (some ⟨w3.heap.size, 0, none⟩) 2 2] 64)
      have hk1 := heap_alloc2_old w3 (.cells #[.pointer (some ⟨m1, 0, none⟩), .pointer (some ⟨m2, 0, none⟩)] 43) (.cells #[.int .u8 45, .slice (some ⟨w3.heap.size, 0, none⟩) 2 2] 64)
      have hk2 := heap_alloc2_new w3 (.cells #[.pointer (some ⟨m1, 0, none⟩), .pointer (some ⟨m2, 0, none⟩)] 43) (.cells #[.int .u8 45, .slice (some ⟨w3.heap.size, 0, none⟩) 2 2] 64)
      generalize (w3.alloc (.cells #[.pointer (some ⟨m1, 0, none⟩), .pointer (some ⟨m2, 0, none⟩)] 43)).alloc (.cells #[.int .u8 45, .slice (some ⟨w3.heap.size, 0, none⟩) 2 2] 64) = wz at *
      have h1 := HP1.out.below hb
      have h2 := HP2.out.below hb
      go_ret
      exact ⟨_, rfl, zae HB3.out hb, trivial, w3.heap.size, m1, m2, hk2, trivial, hk1, h1, h2⟩
set_option maxHeartbeats 400000 in
set_option maxRecDepth 100000 in
theorem tidy_calls (t : Tr) (w : World) (p : Nat) (hP : PtA w t p) : Calls Try.prog 23 #[.pointer (some ⟨p, 0, none⟩)] w (PRes w (tid t)) := by
 have HI := zaa.mk (inward_calls t.nodes t (Nat.le_refl _) none 0 w p rfl hP)
 rw [zco] at HI
 clear hP
 go_enter Try.func23, Try.ntmps23
 go_wp2_with (first
  | (go_at_call 39; refine HI.out.mono ?_; rintro e w2 ⟨m, rfl, hb, hP⟩; have HB2 := zaa.mk hb; have HP2 := zaa.mk hP; clear hb hP))
 go_ret
 exact ⟨m, rfl, HB2.out, HP2.out⟩
theorem C_intT_cell {k : IntKind} {w : World} {A : Option Addr} {n : Nat} {l : List Int} (h : (Kd.int k).C w A n l) (i : Nat) (hi : i < n) : ∃ ad, A = some ad ∧ w.cell? (ad.add i) = some (.int k (rd l (i : Int))) := by
 obtain ⟨ad, c, e1, hc, hK, hx⟩ := Kd.C_get h (0 : Int) (i : Int) (by omega) (by omega)
 subst e1
 exact ⟨ad, rfl, by have := Kd.foot_int h (i : Int) (by omega) (by omega); simpa using this⟩
set_option maxHeartbeats 2000000 in
set_option maxRecDepth 100000 in
theorem cloneT_calls (A : Option Addr) (c : Nat) (xs : List Int) (w : World) (hC : (Kd.int .i64).C w A xs.length xs) (h0 : 0 < xs.length) (h6 : xs.length ≤ 1048576) :
  Calls Try.prog 51 #[.slice A xs.length c] w fun e w' => ∃ v', e = .returned v' ∧ Kd.R (Kd.int .i64) 3 w' w.heap.size (fun _ => True) v' xs ∧ Below w.heap.size w w' := by
 obtain ⟨ad, rfl, -⟩ := hC.2.2 h0
 have i3 : (Try.prog.info? 3).map (fun i => (i.zero, i.size, i.bytes)) = some (some (.int .i64 0), 1, 8) := by kernel_rfl
 obtain ⟨i0, hi, hzz⟩ := Option.map_eq_some_iff.1 i3
 simp only [Prod.mk.injEq] at hzz
 obtain ⟨hz0, hz1, hz2⟩ := hzz
 have HC := zaa.mk hC
 have H6 := zaa.mk h6
 have H0 := zaa.mk h0
 have HI := zaa.mk hi
 have HZ0 := zaa.mk hz0
 have HZ1 := zaa.mk hz1
 have HZ2 := zaa.mk hz2
 clear hC h6 h0 i3 hi hz0 hz1 hz2
 have q22 : ∀ (w : World) (a : Option Addr) (n c n' c' : Nat), (binOp .eql 22 (.slice a n c) (.slice none n' c')).run Try.prog w = .ok (.bool a.isNone) w := fun w a n c n' c' => Lib.run_eql_slice_nil w _ _ a n c n' c' Try.underlying22
 go_enter Try.func51, Try.ntmps51
 go_wp2_with (at_builtin; refine wpList_append_own _ rfl _ _ 22 rfl w.heap.size 3 i0 (.int .i64 0) 1 8 Try.underlying22 HI.out HZ0.out HZ1.out HZ2.out rfl (by decide) _ _ _ rfl (World.ownsRow_made w #[] 0 (Nat.le_refl _) (Nat.zero_le _) rfl) ad xs.length c (encs (Value.int .i64) xs) rfl ?qc1 ?qc2 ?qc3 ?qc4 ?qc5 ?qc6 ?_)
 case qc1 => rw [zcp, Nat.mul_one]
 case qc2 =>
  intro j u hj
  have hjn : j < xs.length := by
   have := (List.getElem?_eq_some_iff.1 hj).1
   rwa [zcp] at this
  obtain ⟨ad', e1, hx⟩ := C_intT_cell HC.out j hjn
  cases e1
  refine Lib.cell?_alloc_some _ ?_
  rw [hx]
  have e2 : (encs (Value.int .i64) xs)[j]? = some (Value.int .i64 (rd xs (j : Int))) := by
   unfold rd
   simp [encs, List.getD, hjn, List.getElem?_eq_getElem hjn]
  rw [e2] at hj
  exact hj
 case qc3 => intro u hu; obtain ⟨x, _, rfl⟩ := List.mem_map.1 hu; rfl
 case qc4 => have := H6.out; unfold maxLen; omega
 case qc5 => have := H6.out; omega
 case qc6 => simp
 intro v' w1 hown hgrow hnil
 have HO := zaa.mk hown
 have HG := zaa.mk hgrow
 clear hown hgrow hnil
 go_wp2
 go_ret
 refine ⟨v', rfl, Kd.R_of_own (by simpa using HO.out) (fun _ _ => trivial), ?_⟩
 exact ((Below.refl _ w).alloc (Nat.le_refl _) _).grown HG.out (by simp) (by intro k hk; simp [Value.ownBlock] at hk; omega)
def slices_Clone_int_int.f (l0 : List Int) : Option (List Int) := if 0 < l0.length ∧ l0.length ≤ 1048576 then some l0 else none
theorem slices_Clone_int_int.calls (A0 : Option Addr) (c0 : Nat) (l0 : List Int) (r : List Int) (w : World) (hr0 : Kd.C (Kd.int .i64) w A0 l0.length l0) (hc0 : l0.length ≤ c0) (h : slices_Clone_int_int.f l0 = some r) :
  Calls Try.prog 51 #[.slice A0 l0.length c0] w fun e w' => ∃ v0_ : Value, e = .returned (v0_) ∧ Kd.R (Kd.int .i64) 3 w' w.heap.size (fun _ => True) v0_ r ∧ Below w.heap.size w w' := by
 unfold slices_Clone_int_int.f at h
 split at h
 ·rename_i hs
  have e := Option.some.inj h
  rw [← e]
  exact cloneT_calls A0 c0 l0 w hr0 hs.1 hs.2
 ·cases h
set_option maxHeartbeats 2000000 in
set_option maxRecDepth 100000 in
theorem growT_calls (n : Nat) (h1 : 1 ≤ n) (hn : n ≤ 1000) (w : World) : Calls Try.prog 50 #[.slice none 0 0, .int .i64 (n : Int)] w fun e w' => ∃ v', e = .returned v' ∧ Kd.R (Kd.int .i64) 3 w' w.heap.size (fun _ => True) v' [] ∧ Below w.heap.size w w' := by
 have n0 : (0 : Int) < (n : Int) := by omega
 have n1 : ¬ (n : Int) < 0 := by omega
 have HN := zaa.mk hn
 go_enter Try.func50, Try.ntmps50
 go_wp2_with (first
  | ((with_reducible refine zbn (b := .append) (xs := #[.tmp 20, .tmp 21]) rfl ?_); at_builtin; refine Kd.R_append_zeros (Kd.int .i64) (w0 := w) w.heap.size rfl (.tmp 20) (.tmp 21) 22 3 3 (.int .i64 0) 8 rfl Try.underlying22 Try.underlying3 (by kernel_rfl) rfl (by decide) (by decide) (.slice none 0 0) [] 0 (n : Int) (fun _ => True) rfl rfl (by rfl) (fun _ _ => trivial) (Kd.R_nil _ _ _ _ _) (by omega) (Below.refl _ _) (Nat.le_refl _) (by have := HN.out; simp; omega) ?_; intro v1 w1 hr hb hg hat; obtain ⟨A1, c1, e1⟩ := Kd.R_slice hr; subst e1; have HR1 := zaa.mk hr; have HB1 := zaa.mk hb; clear hr hb hg hat))
 go_ret
 exact ⟨_, rfl, by have h := Kd.R_take HR1.out (m := 0) (Nat.zero_le _); simpa using h, HB1.out⟩
end Go.Proofs.Ytgiidlebnjbgeaa.Hd
namespace Go.Proofs.Ytgiidlebnjbgeaa.TR
open Go.Proofs.Ytgiidlebnjbgeaa.PB Go.Proofs.Ytgiidlebnjbgeaa.Hd
open Go.RowKit Go.PW.PrintWords Go.PW.PrintLast Go.PW.PrintMore
attribute [local go_sem] zbu zbs zcc zcb zbf zbe zbt zbr   -- for this text's walks alone
def errW : Option Int → Value
 | none => .nilIface
 | some c => .iface 0 (.int .i64 c)
theorem zam : errW none = .nilIface := rfl
theorem zal (c : Int) : errW (some c) = .iface 0 (.int .i64 c) := rfl
end Go.Proofs.Ytgiidlebnjbgeaa.TR
namespace Go.Proofs.Ytgiidlebnjbgeaa.TR
open Go.Proofs.Ytgiidlebnjbgeaa.PB Go.Proofs.Ytgiidlebnjbgeaa.Hd
open Go.RowKit Go.PW.PrintWords Go.PW.PrintLast Go.PW.PrintMore
attribute [local go_sem] zbu zbs zcc zcb zbf zbe zbt zbr   -- for this text's walks alone
def impl_raised.l0 : Nat → Int → List Int → Int → Int → Option (List Int)
 | 0, _, _, _, _ => none
 | k + 1, x1, x5, x10, x11 => if x11 < x10 then (if 0 ≤ x11 then (if x11 < (x5.length : Int) then (impl_raised.l0 k x1 (x5.set (x11 : Int).toNat (wrap64 ((rd x5 x11) + x1))) x10 (wrap64 (x11 + 1))) else (none)) else (none)) else (some x5)
def impl_raised.f (k : Nat) (l0 : List Int) (a1 : Int) : Option (List Int) := (slices_Clone_int_int.f l0).bind fun t101 => (impl_raised.l0 k a1 t101 (t101.length : Int) 0)
set_option maxHeartbeats 8000000 in
set_option maxRecDepth 100000 in
theorem impl_raised.calls (k : Nat) (A0 : Option Addr) (c0 : Nat) (l0 : List Int) (a1 : Int) (r : List Int) (w : World) (hr0 : Kd.C (Kd.int .i64) w A0 l0.length l0) (hc0 : l0.length ≤ c0) (h : impl_raised.f k l0 a1 = some r) :
  Calls Try.prog 41 #[.slice A0 l0.length c0, .int .i64 a1] w fun e w' => ∃ v0_ : Value, e = .returned (v0_) ∧ Kd.R (Kd.int .i64) 3 w' w.heap.size (fun _ => True) v0_ r ∧ Below w.heap.size w w' := by
 have HR0 := zaa.mk hr0
 have HC0 := zaa.mk hc0
 clear hr0 hc0
 have HB := zaa.mk (Below.refl w.heap.size w)
 have H : ((slices_Clone_int_int.f l0).bind fun t101 => (impl_raised.l0 k a1 t101 (t101.length : Int) 0)) = some r := h
 clear h
 replace H := Option.bind_eq_some_iff.mp H
 obtain ⟨t101, A30, H⟩ := H
 replace H : (impl_raised.l0 k a1 t101 (t101.length : Int) 0) = some r := H
 have A3 := zaa.mk A30
 clear A30
 have H' := zaa.mk H
 clear H
 go_enter Try.func41, Try.ntmps41
 go_wp2_with (first | ((with_reducible refine zap (f := 51) rfl ?_); refine zbm (some 8) rfl rfl Try.func51 (by kernel_rfl) rfl #[.slice A0 l0.length c0] rfl (by (try simp only [List.map_toArray, List.map_cons, List.map_nil]); first | done | rfl | (simp only [List.length_drop, List.length_take]; rfl)) ?_; (with_reducible refine (slices_Clone_int_int.calls _ _ l0 t101 _ ?side1 ?side2 A3.out).mono ?_); (case side1 => repeat (first | exact HR0.out | (with_reducible refine Kd.C_alloc ?_ _) | (with_reducible refine Kd.C_drewN ?_ _) | (with_reducible refine Kd.C_drew ?_))); (case side2 => exact HC0.out); rintro e w4 ⟨v102, rfl, ho0, hb⟩; refine ⟨_, rfl, ?_⟩; have n0_ := zaa.mk (Kd.R_lower ho0 (zan (by repeat (first | (with_reducible first | exact HB.out | apply zab | apply zac | apply zaf) | exact HB.out)))); have n1_ := zaa.mk (zae (by repeat (first | (with_reducible first | exact HB.out | apply zab | apply zac | apply zaf) | exact HB.out)) hb); clear HB; have HO103 := n0_; have HB := n1_; clear n0_ n1_; (try clear hb); (try clear hb2); (try clear hk); (try clear hi); (try clear ho0); obtain ⟨Ao5, co5, eo5⟩ := Kd.R_slice HO103.out; subst eo5))
 go_loopg [11] k (fun kq v11 w' => ∃ (x5_1 : List Int) (x11_1 : Int), v11 = .int .i64 x11_1 ∧ zaa (impl_raised.l0 kq a1 x5_1 (t101.length : Int) x11_1 = some r) ∧ zaa (kq ≤ k) ∧ zaa (Kd.R (Kd.int .i64) 3 w' w.heap.size (fun _ => True) (.slice Ao5 t101.length co5) x5_1) ∧ zaa (Below w.heap.size w w'))
 case atStart => exact ⟨(t101), (0), (by first | rfl | (simp; done) | (simp [*]; done)), H', ⟨Nat.le_refl _⟩, ⟨by (with_reducible repeat (first | apply Kd.R_alloc | apply Kd.R_drewN | apply Kd.R_drew)); exact HO103.out⟩, ⟨by repeat (first | (with_reducible first | exact HB.out | apply zab | apply zac | apply zaf) | exact HB.out)⟩⟩
 case round =>
  clear H'
  try clear p2
  try clear c4
  try clear c5
  obtain ⟨x5_1, x11_1, rfl, HA, HK1, HO_5, HB⟩ := hrel
  have hl5_1 := (Kd.R_reads' HO_5.out).1
  rw [hl5_1] at HO_5
  (try simp only [hl5_1])
  cases gk with
  | zero => exact absurd HA.out (by simp [impl_raised.l0])
  | succ k1 =>
   have H := HA.out
   clear HA
   simp only [impl_raised.l0] at H
   by_cases c6 : x11_1 < (t101.length : Int)
   ·rw [if_pos c6] at H
    have c6b0 : decide (x11_1 < (t101.length : Int)) = true := decide_eq_true c6
    clear c6
    by_cases c7 : 0 ≤ x11_1
    ·rw [if_pos c7] at H
     have c7b0 : decide (0 ≤ x11_1) = true := decide_eq_true c7
     clear c7
     by_cases c8 : x11_1 < (x5_1.length : Int)
     ·rw [if_pos c8] at H
      have c8b0 : decide (x11_1 < (x5_1.length : Int)) = true := decide_eq_true c8
      clear c8
      obtain ⟨y105, hy105⟩ : ∃ y_ : List Int, y_ = (x5_1.set (x11_1 : Int).toNat (wrap64 ((rd x5_1 x11_1) + a1))) := ⟨_, rfl⟩
      replace H : (impl_raised.l0 k1 a1 y105 (t101.length : Int) (wrap64 (x11_1 + 1))) = some r := by first | (rw [hy105]; with_reducible exact H) | (have H2_ := (Option.bind_some _ _).symm.trans H; rw [hy105]; with_reducible exact H2_) | (have H2_ := (Option.bind_some _ _).symm.trans H; with_reducible exact H2_) | with_reducible exact H | (rw [hy105]; exact H) | exact H
      have Ny105 := zaa.mk hy105
      clear hy105
      have H' := zaa.mk H
      clear H
      have p104 : 0 ≤ (x11_1 : Int) := of_decide_eq_true (by first | (with_reducible assumption) | assumption)
      have q104 : x11_1 < (x5_1.length : Int) := of_decide_eq_true (by first | (with_reducible assumption) | assumption)
      obtain ⟨ad104, e104, hx104_0⟩ := Kd.at_int (Kd.R_reads' HO_5.out).2.2 x11_1 p104 q104
      cases e104
      replace p104 := eq_true p104
      replace q104 := eq_true q104
      have p9 : 0 ≤ (x11_1 : Int) := of_decide_eq_true (by first | (with_reducible assumption) | assumption)
      have q9 : (x11_1 : Int) < ((x5_1.length : Int) : Int) := of_decide_eq_true (by first | (with_reducible assumption) | assumption)
      obtain ⟨go9, co9, eo9, gb9, gl9, cl9, HG9⟩ := Kd.R_form HO_5.out (by omega)
      (first | cases eo9 | (injection eo9 with ea_ en_ ec_; (first | subst ea_ | (injection ea_ with ea_; subst ea_)); subst ec_; clear en_))
      have GB9 := zaa.mk gb9
      have GG9 := zaa.mk HG9
      clear gb9 gl9 HG9
      (first | simp only [zcj] at hx104_0 | skip)
      obtain ⟨hx9_0, hf9_0⟩ := Kd.R_celln 0 HO_5.out (x11_1 : Int) p9 q9
      replace p9 := eq_true p9
      replace q9 := eq_true q9
      have HP10 := Kd.R_putg HO_5.out (x11_1 : Int) (wrap64 ((rd x5_1 x11_1) + a1))
      go_wp2_with (first | ((with_reducible refine gate_store (t := 3) (p := 20) rfl ?_); refine store_event (t := 3) (p := 20) (v := ?vo_w11) (w1 := (wr.setCell ⟨go9, (x11_1 : Int).toNat, none⟩ (.int .i64 (wrap64 ((rd x5_1 x11_1) + a1))))) ?hg ?ho ?hn ?hr ?_; (case ho => rfl); (case hg => rfl); (case hn => rfl); (case hr => first | (go_simp; done) | (go_simp; rfl)); intro w11 hw; have hg : wr.grownBy w11 (some go9) := (by rw [hw]; exact HP10.2); have hp_ : Kd.R (Kd.int .i64) 3 w11 w.heap.size (fun _ => True) (.slice (some ⟨go9, 0, none⟩) x5_1.length co5) y105 := (by rw [hw, Ny105.out]; exact HP10.1); clear HP10; have n0_ := zaa.mk (hp_); have n1_ := zaa.mk ((by rw [hw]; exact zah (HB.out) GB9.out : Below w.heap.size w w11)); clear HO_5; clear HB; have HO_5 := n0_; have HB := n1_; clear n0_ n1_; clear hg hw hp_))
      (try simp only [← hl5_1])
      go_roundg k1
      case measure => have := HK1.out; omega
      case rel => exact ⟨(y105), (wrap64 (x11_1 + 1)), (by first | rfl | (simp; done) | (simp [*]; done)), H', ⟨by have := HK1.out; omega⟩, ⟨by (try simp only [hl5_1]); (with_reducible repeat (first | apply Kd.R_alloc | apply Kd.R_drewN | apply Kd.R_drew)); exact HO_5.out⟩, ⟨by repeat (first | (with_reducible first | exact HB.out | apply zab | apply zac | apply zaf) | exact HB.out)⟩⟩
     ·rw [if_neg c8] at H
      exact absurd H (by simp)
    ·rw [if_neg c7] at H
     exact absurd H (by simp)
   ·rw [if_neg c6] at H
    have c6b0 : decide (x11_1 < (t101.length : Int)) = false := decide_eq_false c6
    clear c6
    (try rw [hl5_1] at c6b0)
    obtain rfl := Option.some.inj H
    go_wp2
    go_ret
    exact ⟨_, by first | rfl | (simp [zam, zal] <;> rfl) | (simp [*, zam, zal] <;> rfl), by (with_reducible repeat (first | apply Kd.R_alloc | apply Kd.R_drewN | apply Kd.R_drew)); exact HO_5.out, by repeat (first | (with_reducible first | exact HB.out | apply zab | apply zac | apply zaf) | exact HB.out)⟩
end Go.Proofs.Ytgiidlebnjbgeaa.TR
namespace Go.Proofs.Ytgiidlebnjbgeaa.Hd
open Go.RowKit Go.PW.PrintWords Go.PW.PrintLast Go.PW.PrintMore Go.Proofs.Ytgiidlebnjbgeaa.PB Go.Proofs.Ytgiidlebnjbgeaa.TR
theorem raised_l0 (l : List Int) (n : Nat) (hl : l.length ≤ 100000) (hn : n ≤ 100000) (hx : ∀ x ∈ l, 0 ≤ x ∧ x ≤ 100000) : ∀ m i, i + m = l.length → Evs (fun k => impl_raised.l0 k (n : Int) (zbj (l.take i) n ++ l.drop i) (l.length : Int) (i : Int)) (zbj l n) := by
 intro m
 induction m with
 | zero =>
  intro i hi
  rw [List.take_of_length_le (by omega), List.drop_eq_nil_of_le (by omega), List.append_nil]
  refine Evs.step (h := fun _ => some (zbj l n)) (fun k => ?_) (Evs.const _)
  conv => lhs; unfold impl_raised.l0
  rw [if_neg (by omega)]
 | succ m ih =>
  intro i hi
  have hget : l[i]? = some l[i] := List.getElem?_eq_getElem (by omega)
  have hr := hx l[i] (List.getElem_mem (by omega))
  have hnx := ih (i + 1) (by omega)
  have hli : (zbj (l.take i) n).length = i := by rw [zax, List.length_take]; omega
  have hd : l.drop i = l[i] :: l.drop (i + 1) := List.drop_eq_getElem_cons (by omega)
  have e0 : (zbj (l.take i) n ++ l.drop i)[i]? = some l[i] := by rw [hd, List.getElem?_append_right (by omega), hli, Nat.sub_self]; rfl
  have e1 : rd (zbj (l.take i) n ++ l.drop i) (i : Int) = l[i] := by unfold rd; rw [Int.toNat_natCast, List.getD_eq_getElem?_getD, e0]; rfl
  have e2 : wrap64 ((i : Int) + 1) = ((i + 1 : Nat) : Int) := by rw [wrapT (by omega) (by omega)]; omega
  have e3 : wrap64 (l[i] + (n : Int)) = l[i] + (n : Int) := wrapT (by omega) (by omega)
  have es : (zbj (l.take i) n ++ l.drop i).set i (l[i] + (n : Int)) = zbj (l.take (i + 1)) n ++ l.drop (i + 1) := by
   rw [hd, List.set_append_right _ _ (by omega), hli, Nat.sub_self, List.set_cons_zero]
   unfold zbj
   rw [List.take_add_one, hget, List.map_append, List.append_assoc]
   rfl
  have hlen : (zbj (l.take i) n ++ l.drop i).length = l.length := by rw [List.length_append, hli, List.length_drop]; omega
  rw [← es] at hnx
  refine Evs.step (h := fun k => impl_raised.l0 k (n : Int) ((zbj (l.take i) n ++ l.drop i).set i (l[i] + (n : Int))) (l.length : Int) ((i + 1 : Nat) : Int)) (fun k => ?_) hnx
  conv => lhs; unfold impl_raised.l0
  rw [if_pos (by omega), if_pos (by omega), if_pos (by omega), e1, e2, e3, Int.toNat_natCast]
theorem raised_ev (l : List Int) (n : Nat) (h1 : 1 ≤ l.length) (hl : l.length ≤ 100000) (hn : n ≤ 100000) (hx : ∀ x ∈ l, 0 ≤ x ∧ x ≤ 100000) : Evs (fun k => impl_raised.f k l (n : Int)) (zbj l n) := by
 refine Evs.bindS (b := l) (by unfold slices_Clone_int_int.f; rw [if_pos (by omega)]) ?_
 exact raised_l0 l n hl hn hx l.length 0 (by omega)
def sz2 (a b : Nat) (i : Nat) : Nat := if i = 0 then 0 else if i = 1 then a else a + b
def cat2 (a b : List Int) (i : Nat) : List Int := if i = 0 then [] else if i = 1 then a else a ++ b
set_option maxHeartbeats 400000 in
set_option maxRecDepth 100000 in
theorem concat_calls (w : World) (g : Nat) (A1 A2 : Option Addr) (c1 c2 : Nat) (a b : List Int) (hk : w.heap[g]? = some (.cells #[.slice A1 a.length c1, .slice A2 b.length c2] 22 (0, 0))) (ha : (Kd.int .i64).C w A1 a.length a) (hb : (Kd.int .i64).C w A2 b.length b) (hl1 : a.length ≤ c1) (hl2 : b.length ≤ c2) (hs : a.length + b.length ≤ 1000) (h1 : 1 ≤ a.length) :
  Calls Try.prog 40 #[.slice (some ⟨g, 0, none⟩) 2 2] w fun e w' => ∃ v', e = .returned v' ∧ Kd.R (Kd.int .i64) 3 w' w.heap.size (fun _ => True) v' (a ++ b) ∧ Below w.heap.size w w' := by
 have x0 : w.cell? ⟨g, 0, none⟩ = some (.slice A1 a.length c1) := (zad hk 0).trans rfl
 have x1 : w.cell? ⟨g, 1, none⟩ = some (.slice A2 b.length c2) := (zad hk 1).trans rfl
 have HA := zaa.mk ha
 have HBb := zaa.mk hb
 have HS := zaa.mk hs
 have H1 := zaa.mk h1
 clear hk ha hb
 go_enter Try.func40, Try.ntmps40
 go_upto_region 3 with (fail)
 go_loopg [3, 11] 2 (fun kq v3 v11 w' => ∃ i : Nat, v3 = .int .i64 (sz2 a.length b.length i : Int) ∧ v11 = .int .i64 (i : Int) ∧ zaa (i + kq = 2) ∧ zaa (Below w.heap.size w w'))
 case atStart => exact ⟨0, rfl, rfl, ⟨rfl⟩, ⟨Below.refl _ _⟩⟩
 case round =>
  obtain ⟨i, rfl, rfl, HI, HBl⟩ := hrel
  have z0 := zai HBl.out x0
  have z1 := zai HBl.out x1
  rcases (show i = 0 ∨ i = 1 ∨ i = 2 by have := HI.out; omega) with rfl | rfl | rfl
  ·have e0 : sz2 a.length b.length 0 = 0 := rfl
   rw [e0]
   have y0 : ¬ (a.length : Int) < 0 := by omega
   go_wp2
   go_roundg (2 - 1)
   case measure => have := HI.out; omega
   case rel => exact ⟨1, by first | rfl | (simp [sz2]; done), by rfl, ⟨by have := HI.out; omega⟩, HBl⟩
  ·have e0 : sz2 a.length b.length 1 = a.length := rfl
   rw [e0]
   have y0 : ¬ (a.length : Int) + (b.length : Int) < 0 := by omega
   go_wp2
   go_roundg (2 - 2)
   case measure => have := HI.out; omega
   case rel => exact ⟨2, by first | rfl | (simp [sz2]; done), by rfl, ⟨by have := HI.out; omega⟩, HBl⟩
  ·have e0 : sz2 a.length b.length 2 = a.length + b.length := rfl
   rw [e0]
   obtain ⟨n, hn⟩ : ∃ n, n = a.length + b.length := ⟨_, rfl⟩
   rw [← hn]
   have HGr := zaa.mk (growT_calls n (by omega) (by omega) wr)
   clear hn
   go_upto_region 11 with (first
    | (go_at_call 50; refine HGr.out.mono ?_; rintro e w3 ⟨v3, rfl, hr, hb⟩; obtain ⟨A3, c3, e3⟩ := Kd.R_slice hr; subst e3; have HR3 := zaa.mk (Kd.R_lower hr HBl.out.size); have HB3 := zaa.mk (zae HBl.out hb); clear hr hb))
   go_loopg [6, 27] 2 (fun kq v6 v27 w' => ∃ (i : Nat) (A : Option Addr) (c : Nat), v6 = .slice A (cat2 a b i).length c ∧ v27 = .int .i64 (i : Int) ∧ zaa (i + kq = 2) ∧ zaa (Kd.R (Kd.int .i64) 3 w' w.heap.size (fun _ => True) (.slice A (cat2 a b i).length c) (cat2 a b i)) ∧ zaa (Below w.heap.size w w'))
   case atStart => exact ⟨0, A3, c3, rfl, rfl, ⟨rfl⟩, HR3, HB3⟩
   case round =>
    clear HR3 HB3 HI HBl z0 z1
    obtain ⟨i, Av, cv, rfl, rfl, HI, HR, HBl⟩ := hrel
    have z0 := zai HBl.out x0
    have z1 := zai HBl.out x1
    rcases (show i = 0 ∨ i = 1 ∨ i = 2 by have := HI.out; omega) with rfl | rfl | rfl
    ·have HRi := zaa.mk (show Kd.R (Kd.int .i64) 3 wr w.heap.size (fun _ => True) (.slice Av 0 cv) ([] : List Int) from HR.out)
     clear HR
     have ec : (cat2 a b 0).length = 0 := rfl
     rw [ec]
     go_wp2_with (first
      | ((with_reducible refine zbn (b := .append) (xs := #[.tmp 31, .tmp 32]) rfl ?_); at_builtin; refine Kd.R_append_row (Value.int .i64) (0 : Int) (h1 := fun _ => rfl) (w0 := w) w.heap.size rfl (.tmp 31) (.tmp 32) 22 3 (.int .i64 0) 8 rfl Try.underlying22 info3 rfl (by decide) (.slice Av 0 cv) ([] : List Int) a A1 a.length c1 (fun _ => True) rfl rfl (fun _ _ => trivial) HRi.out (Kd.C_below HA.out HBl.out) HBl.out HBl.out.size (by have := HS.out; first | omega | (simp; omega)) ?_; intro v1 w1 ho hb hg hat; obtain ⟨Aw, cw, ew⟩ := Kd.R_slice ho; subst ew; have HR1 := zaa.mk ho; have HB1 := zaa.mk hb; clear ho hb hg hat))
     go_roundg (2 - 1)
     case measure => have := HI.out; omega
     case rel => exact ⟨1, Aw, cw, by first | rfl | (simp [cat2]; done), by rfl, ⟨by have := HI.out; omega⟩, ⟨by have h := HR1.out; first | exact h | (simpa [cat2] using h)⟩, HB1⟩
    ·have HRi := zaa.mk (show Kd.R (Kd.int .i64) 3 wr w.heap.size (fun _ => True) (.slice Av a.length cv) (a) from HR.out)
     clear HR
     have ec : (cat2 a b 1).length = a.length := rfl
     rw [ec]
     go_wp2_with (first
      | ((with_reducible refine zbn (b := .append) (xs := #[.tmp 31, .tmp 32]) rfl ?_); at_builtin; refine Kd.R_append_row (Value.int .i64) (0 : Int) (h1 := fun _ => rfl) (w0 := w) w.heap.size rfl (.tmp 31) (.tmp 32) 22 3 (.int .i64 0) 8 rfl Try.underlying22 info3 rfl (by decide) (.slice Av a.length cv) (a) b A2 b.length c2 (fun _ => True) rfl rfl (fun _ _ => trivial) HRi.out (Kd.C_below HBb.out HBl.out) HBl.out HBl.out.size (by have := HS.out; first | omega | (simp; omega)) ?_; intro v1 w1 ho hb hg hat; obtain ⟨Aw, cw, ew⟩ := Kd.R_slice ho; subst ew; have HR1 := zaa.mk ho; have HB1 := zaa.mk hb; clear ho hb hg hat))
     go_roundg (2 - 2)
     case measure => have := HI.out; omega
     case rel => exact ⟨2, Aw, cw, by first | rfl | (simp [cat2]; done), by rfl, ⟨by have := HI.out; omega⟩, ⟨by have h := HR1.out; first | exact h | (simpa [cat2] using h)⟩, HB1⟩
    ·have HRi := zaa.mk (show Kd.R (Kd.int .i64) 3 wr w.heap.size (fun _ => True) (.slice Av (a ++ b).length cv) (a ++ b) from HR.out)
     clear HR
     have ec : (cat2 a b 2).length = (a ++ b).length := rfl
     rw [ec]
     go_wp2
     go_ret
     exact ⟨_, rfl, by have h := HRi.out; simpa using h, HBl.out⟩
def PermI (w : World) (t : Tr) (e : Ending) (w' : World) : Prop := ∃ v', e = .returned v' ∧ Kd.R (Kd.int .i64) 3 w' w.heap.size (fun _ => True) v' (zbc t) ∧ Below w.heap.size w w'
set_option maxHeartbeats 400000 in
set_option maxRecDepth 100000 in
theorem permI_calls : ∀ (t : Tr), t.tidy = true → t.nodes ≤ 100 → ∀ (w : World) (p : Nat), PtA w t p → Calls Try.prog 24 #[.pointer (some ⟨p, 0, none⟩)] w (PermI w t) := by
 intro t
 induction t with
 | un c t ih => intro h; cases h
 | o =>
  intro _ _ w p hP
  obtain ⟨-, hk⟩ := hP
  have x1 : w.cell? ⟨p, 1, none⟩ = some (.slice none 0 0) := (zad hk 1).trans rfl
  clear hk
  go_enter Try.func24, Try.ntmps24
  go_wp2_with (first
   | ((with_reducible refine zba (N := 11) rfl ?_); refine Kd.R_lit (Kd.int .i64) _ 3 ?hg (N := 11) ?hd (xs := ([0] : List Int)) (inner := [.int .i64 0]) (ok := fun _ => True) (okp := fun _ => True) ?hr ?hp (fun _ hk => hk) trivial (Below.refl _ _) (Nat.le_refl _) (by simp) ?_; (case hd => rfl); (case hg => rfl); (case hr => first | (go_simp; done) | (go_simp; rfl)); (case hp => exact (Reps.one (show Kd.M (Kd.int .i64) _ _ _ 0 [.int .i64 0] from rfl) (Reps.none _ _))); intro v5 w5 ho hb hg_ hnew_; clear hg_ hnew_; have HR5 := zaa.mk ho; have HB5 := zaa.mk hb; clear ho hb))
  go_ret
  exact ⟨_, rfl, HR5.out, HB5.out⟩
 | bin s x y ihx ihy =>
  intro htd hn w p hP
  simp only [Tr.tidy, Bool.and_eq_true] at htd
  simp only [Tr.nodes] at hn
  obtain ⟨-, q, k, l, hk, -, hk2, hPk, hPl⟩ := hP
  have HX := zaa.mk (fun w p h => ihx htd.1 (by omega) w p h)
  have HY := zaa.mk (fun w p h => ihy htd.2 (by omega) w p h)
  have hla := zaz x
  have hlb := zaz y
  have HLen := zaa.mk (show (zbc x).length + (zbc y).length ≤ 200 ∧ 1 ≤ (zbc x).length ∧ 1 ≤ (zbc y).length by omega)
  obtain ⟨K, hK⟩ := raised_ev (zbc y) (zbc x).length (by omega) (by omega) (by omega) (fun z hz => by have := zbw y z hz; omega)
  have HRa := zaa.mk (hK K (Nat.le_refl K))
  have HDef := zaa.mk (show zbc (.bin s x y) = if s then zbc x ++ zbj (zbc y) (zbc x).length else zbj (zbc y) (zbc x).length ++ zbc x by cases s <;> rfl)
  have x0 : w.cell? ⟨p, 0, none⟩ = some (.int .u8 (binC s)) := (zad hk 0).trans rfl
  have x1 : w.cell? ⟨p, 1, none⟩ = some (.slice (some ⟨q, 0, none⟩) 2 2) := (zad hk 1).trans rfl
  have x2 : w.cell? ⟨q, 0, none⟩ = some (.pointer (some ⟨k, 0, none⟩)) := (zad hk2 0).trans rfl
  have x3 : w.cell? ⟨q, 1, none⟩ = some (.pointer (some ⟨l, 0, none⟩)) := (zad hk2 1).trans rfl
  have HPk := zaa.mk hPk
  have HPl := zaa.mk hPl
  have HX0 := zaa.mk x0
  clear hk hk2 hPk hPl hn ihx ihy htd hla hlb hK x0
  unfold PermI at HX HY
  unfold PermI
  obtain ⟨res, hres⟩ : ∃ res, res = zbc (.bin s x y) := ⟨_, rfl⟩
  rw [← hres]
  have HRes := zaa.mk (hres.trans HDef.out)
  clear HDef hres
  generalize zbc x = a at *
  generalize zbc y = b at *
  go_enter Try.func24, Try.ntmps24
  go_upto_region 3 with (fail)
  refine start_ (n := 16) (S := fun w' => (w'.cell? ⟨p, 1, none⟩ = some (.slice (some ⟨q, 0, none⟩) 2 2)) ∧ (w'.cell? ⟨q, 0, none⟩ = some (.pointer (some ⟨k, 0, none⟩))) ∧ (w'.cell? ⟨q, 1, none⟩ = some (.pointer (some ⟨l, 0, none⟩))) ∧ (PtA w' x k) ∧ (PtA w' y l) ∧ (Below w.heap.size w w')) (ds := []) #[false, false, false, false, false, false, false, false, false, false, false, false, false, false, false, false] (by kernel_rfl) rfl rfl (⟨x1, x2, x3, HPk.out.drew, HPl.out.drew, zcd (Below.refl _ _)⟩) (fun hHeld => ?_)
  clear x1 x2 x3
  refine zbb (i := 0) (N := some 12) (v := ?_) (a' := ?_) #[true, false, false, false, false, false, false, false, false, false, false, false, false, false, false, false] rfl rfl (by kernel_rfl) (fun _ _ _ h => h) (Or.inl ⟨by rfl, ?_⟩) ?_ ?_
  rotate_left
  ·intro w'
   go_simp
   with_reducible rfl
  rotate_left
  ·simp only [Act.put, List.setIfInBounds_toArray, List.set_cons_zero, List.set_cons_succ, zat, zau]
   rfl
  refine zbb (i := 1) (N := some 13) (v := ?_) (a' := ?_) #[true, true, false, false, false, false, false, false, false, false, false, false, false, false, false, false] rfl rfl (by kernel_rfl) (fun _ _ _ h => h) (Or.inl ⟨by rfl, ?_⟩) ?_ ?_
  rotate_left
  ·intro w'
   go_simp
   with_reducible rfl
  rotate_left
  ·simp only [Act.put, List.setIfInBounds_toArray, List.set_cons_zero, List.set_cons_succ, zat, zau]
   rfl
  refine zbb (i := 2) (N := some 14) (v := ?_) (a' := ?_) #[true, true, true, false, false, false, false, false, false, false, false, false, false, false, false, false] rfl rfl (by kernel_rfl) (fun _ _ _ h => h) (Or.inl ⟨by rfl, ?_⟩) ?_ ?_
  rotate_left
  ·intro w'
   go_simp
   with_reducible rfl
  rotate_left
  ·simp only [Act.put, List.setIfInBounds_toArray, List.set_cons_zero, List.set_cons_succ, zat, zau]
   rfl
  refine take_ (i := 3) (N := some 15) (v := ?_) (a' := ?_) #[true, true, true, true, false, false, false, false, false, false, false, false, false, false, false, false] rfl rfl (by kernel_rfl) (fun _ _ _ h => h) (Or.inl ⟨by rfl, ?_⟩) hHeld ?_ ?_
  rotate_left
  ·rintro w' ⟨s0, s1, s2, s3, s4, s5⟩
   go_simp
   with_reducible rfl
  rotate_left
  ·simp only [Act.put, List.setIfInBounds_toArray, List.set_cons_zero, List.set_cons_succ, zat, zau]
   rfl
  refine zbb (i := 4) (N := some 16) (v := ?_) (a' := ?_) #[true, true, true, true, true, false, false, false, false, false, false, false, false, false, false, false] rfl rfl (by kernel_rfl) (fun _ _ _ h => h) (Or.inl ⟨by rfl, ?_⟩) ?_ ?_
  rotate_left
  ·intro w'
   go_simp
   with_reducible rfl
  rotate_left
  ·simp only [Act.put, List.setIfInBounds_toArray, List.set_cons_zero, List.set_cons_succ, zat, zau]
   rfl
  refine take_ (i := 5) (N := some 17) (v := ?_) (a' := ?_) #[true, true, true, true, true, true, false, false, false, false, false, false, false, false, false, false] rfl rfl (by kernel_rfl) (fun _ _ _ h => h) (Or.inl ⟨by rfl, ?_⟩) hHeld ?_ ?_
  rotate_left
  ·rintro w' ⟨s0, s1, s2, s3, s4, s5⟩
   go_simp
   with_reducible rfl
  rotate_left
  ·simp only [Act.put, List.setIfInBounds_toArray, List.set_cons_zero, List.set_cons_succ, zat, zau]
   rfl
  refine zbb (i := 7) (N := some 19) (v := ?_) (a' := ?_) #[true, true, true, true, true, true, false, true, false, false, false, false, false, false, false, false] rfl rfl (by kernel_rfl) (fun _ _ _ h => h) (Or.inl ⟨by rfl, ?_⟩) ?_ ?_
  rotate_left
  ·intro w'
   go_simp
   with_reducible rfl
  rotate_left
  ·simp only [Act.put, List.setIfInBounds_toArray, List.set_cons_zero, List.set_cons_succ, zat, zau]
   rfl
  refine zbb (i := 8) (N := some 20) (v := ?_) (a' := ?_) #[true, true, true, true, true, true, false, true, true, false, false, false, false, false, false, false] rfl rfl (by kernel_rfl) (fun _ _ _ h => h) (Or.inl ⟨by rfl, ?_⟩) ?_ ?_
  rotate_left
  ·intro w'
   go_simp
   with_reducible rfl
  rotate_left
  ·simp only [Act.put, List.setIfInBounds_toArray, List.set_cons_zero, List.set_cons_succ, zat, zau]
   rfl
  refine zbb (i := 9) (N := some 21) (v := ?_) (a' := ?_) #[true, true, true, true, true, true, false, true, true, true, false, false, false, false, false, false] rfl rfl (by kernel_rfl) (fun _ _ _ h => h) (Or.inl ⟨by rfl, ?_⟩) ?_ ?_
  rotate_left
  ·intro w'
   go_simp
   with_reducible rfl
  rotate_left
  ·simp only [Act.put, List.setIfInBounds_toArray, List.set_cons_zero, List.set_cons_succ, zat, zau]
   rfl
  refine take_ (i := 10) (N := some 22) (v := ?_) (a' := ?_) #[true, true, true, true, true, true, false, true, true, true, true, false, false, false, false, false] rfl rfl (by kernel_rfl) (fun _ _ _ h => h) (Or.inl ⟨by rfl, ?_⟩) hHeld ?_ ?_
  rotate_left
  ·rintro w' ⟨s0, s1, s2, s3, s4, s5⟩
   go_simp
   with_reducible rfl
  rotate_left
  ·simp only [Act.put, List.setIfInBounds_toArray, List.set_cons_zero, List.set_cons_succ, zat, zau]
   rfl
  refine zbb (i := 11) (N := some 23) (v := ?_) (a' := ?_) #[true, true, true, true, true, true, false, true, true, true, true, true, false, false, false, false] rfl rfl (by kernel_rfl) (fun _ _ _ h => h) (Or.inl ⟨by rfl, ?_⟩) ?_ ?_
  rotate_left
  ·intro w'
   go_simp
   with_reducible rfl
  rotate_left
  ·simp only [Act.put, List.setIfInBounds_toArray, List.set_cons_zero, List.set_cons_succ, zat, zau]
   rfl
  refine take_ (i := 12) (N := some 24) (v := ?_) (a' := ?_) #[true, true, true, true, true, true, false, true, true, true, true, true, true, false, false, false] rfl rfl (by kernel_rfl) (fun _ _ _ h => h) (Or.inl ⟨by rfl, ?_⟩) hHeld ?_ ?_
  rotate_left
  ·rintro w' ⟨s0, s1, s2, s3, s4, s5⟩
   go_simp
   with_reducible rfl
  rotate_left
  ·simp only [Act.put, List.setIfInBounds_toArray, List.set_cons_zero, List.set_cons_succ, zat, zau]
   rfl
  refine one_ (i := 6) (N := some 18) #[true, true, true, true, true, true, true, true, true, true, true, true, true, false, false, false] rfl rfl (by kernel_rfl) (by decide) (fun K hK => ?_)
  refine goes_ Try.func24 (by kernel_rfl) rfl #[.pointer (some ⟨k, 0, none⟩)] (by rfl) rfl rfl (by (try simp only [List.map_toArray, List.map_cons, List.map_nil]); first | done | rfl) ?_
  have hs_ := hHeld
  obtain ⟨s0, s1, s2, s3, s4, s5⟩ := hs_
  refine (HX.out _ k s3).mono ?_
  rintro e w2 ⟨v1, rfl, hr1, hb⟩
  obtain ⟨A1, c1, e1, hl1, hC1⟩ := Kd.R_reads hr1
  subst e1
  have HC12 := zaa.mk hC1
  have HL1 := zaa.mk hl1
  clear hr1 hl1 hC1
  refine ⟨_, rfl, ?_⟩
  refine hK.out _ _ ⟨zai hb s0, zai hb s1, zai hb s2, PtAt.below s3 hb, PtAt.below s4 hb, zae s5 hb⟩ (fun hHeld => ?_)
  clear hK K hb s0 s1 s2 s3 s4 s5
  refine norm_ (a' := ?_) ?_ ?_
  rotate_left
  ·show Act.put _ (some 18) _ = _
   simp only [Act.put, List.setIfInBounds_toArray, List.set_cons_zero, List.set_cons_succ, zat, zau]
   rfl
  refine one_ (i := 13) (N := some 25) #[true, true, true, true, true, true, true, true, true, true, true, true, true, true, false, false] rfl rfl (by kernel_rfl) (by decide) (fun K hK => ?_)
  refine goes_ Try.func24 (by kernel_rfl) rfl #[.pointer (some ⟨l, 0, none⟩)] (by rfl) rfl rfl (by (try simp only [List.map_toArray, List.map_cons, List.map_nil]); first | done | rfl) ?_
  have hs_ := hHeld
  obtain ⟨s0, s1, s2, s3, s4, s5⟩ := hs_
  refine (HY.out _ l s4).mono ?_
  rintro e w3 ⟨v2, rfl, hr2, hb⟩
  obtain ⟨A2, c2, e2, hl2, hC2⟩ := Kd.R_reads hr2
  subst e2
  have HC1 := zaa.mk (Kd.C_below HC12.out hb)
  have HC2 := zaa.mk hC2
  have HL2 := zaa.mk hl2
  have HB3 := zaa.mk (zae s5 hb)
  clear hr2 hl2 hC2
  refine ⟨_, rfl, ?_⟩
  refine hK.out _ _ ⟨zai hb s0, zai hb s1, zai hb s2, PtAt.below s3 hb, PtAt.below s4 hb, zae s5 hb⟩ (fun hHeld => ?_)
  clear hK K hb s0 s1 s2 s3 s4 s5
  refine norm_ (a' := ?_) ?_ ?_
  rotate_left
  ·show Act.put _ (some 25) _ = _
   simp only [Act.put, List.setIfInBounds_toArray, List.set_cons_zero, List.set_cons_succ, zat, zau]
   rfl
  refine zbb (i := 14) (N := some 3) (v := ?_) (a' := ?_) #[true, true, true, true, true, true, true, true, true, true, true, true, true, true, true, false] rfl rfl (by kernel_rfl) (fun _ _ _ h => h) (Or.inl ⟨by rfl, ?_⟩) ?_ ?_
  rotate_left
  ·intro w'
   go_simp
   with_reducible rfl
  rotate_left
  ·simp only [Act.put, List.setIfInBounds_toArray, List.set_cons_zero, List.set_cons_succ, zat, zau]
   rfl
  refine zbb (i := 15) (N := some 4) (v := ?_) (a' := ?_) #[true, true, true, true, true, true, true, true, true, true, true, true, true, true, true, true] rfl rfl (by kernel_rfl) (fun _ _ _ h => h) (Or.inl ⟨by rfl, ?_⟩) ?_ ?_
  rotate_left
  ·intro w'
   go_simp
   with_reducible rfl
  rotate_left
  ·simp only [Act.put, List.setIfInBounds_toArray, List.set_cons_zero, List.set_cons_succ, zat, zau]
   rfl
  refine done_ (by kernel_rfl) ?_
  have hsgn := zai HB3.out HX0.out
  clear HX0
  obtain ⟨u, hu⟩ : ∃ u, u = binC s := ⟨_, rfl⟩
  rw [← hu] at hsgn
  have x0 := hsgn
  cases s with
  | true =>
   replace hu : u = 124 := hu
   subst hu
   clear hsgn
   go_wp2_with (first
    | (go_at_call 41; refine (impl_raised.calls K A2 c2 b (a.length : Int) (zbj b a.length) _ HC2.out HL2.out HRa.out).mono ?_; rintro e w4 ⟨v4, rfl, hr, hb⟩; obtain ⟨A4, c4, e4, hl4, hC4⟩ := Kd.R_reads hr; subst e4; have HB4 := zaa.mk (zae HB3.out hb); have HC4 := zaa.mk hC4; have HL4 := zaa.mk hl4; have HC14 := zaa.mk (Kd.C_below HC1.out hb); clear hr hb hl4 hC4)
    | ((with_reducible refine zba (N := 36) rfl ?_); refine zbd ?hg (N := 36) ?hd (n := 2) (cs := #[.slice A1 a.length c1, .slice A4 (zbj b a.length).length c4]) (t := 22) ?hr ?_; (case hd => rfl); (case hg => rfl); (case hr => first | (go_simp; done) | (go_simp; rfl)); intro pb hpb w5 hk hb; have HKb := zaa.mk hk; have HB5 := zaa.mk (zae HB4.out hb); have HC15 := zaa.mk (Kd.C_below HC14.out hb); have HC45 := zaa.mk (Kd.C_below HC4.out hb); clear hk hb hpb)
    | (go_at_call 40; refine (concat_calls _ pb A1 A4 c1 c4 a (zbj b a.length) HKb.out HC15.out HC45.out HL1.out HL4.out (by have := HLen.out; rw [zax]; omega) (by have := HLen.out; first | omega | (rw [zax]; omega))).mono ?_; rintro e w6 ⟨v6, rfl, hr, hb⟩; have HR6 := zaa.mk (Kd.R_lower hr HB5.out.size); have HB6 := zaa.mk (zae HB5.out hb); clear hr hb))
   go_ret
   have hr : res = a ++ zbj b a.length := HRes.out
   rw [hr]
   exact ⟨_, rfl, HR6.out, HB6.out⟩
  | false =>
   replace hu : u = 45 := hu
   subst hu
   clear hsgn
   go_wp2_with (first
    | (go_at_call 41; refine (impl_raised.calls K A2 c2 b (a.length : Int) (zbj b a.length) _ HC2.out HL2.out HRa.out).mono ?_; rintro e w4 ⟨v4, rfl, hr, hb⟩; obtain ⟨A4, c4, e4, hl4, hC4⟩ := Kd.R_reads hr; subst e4; have HB4 := zaa.mk (zae HB3.out hb); have HC4 := zaa.mk hC4; have HL4 := zaa.mk hl4; have HC14 := zaa.mk (Kd.C_below HC1.out hb); clear hr hb hl4 hC4)
    | ((with_reducible refine zba (N := 43) rfl ?_); refine zbd ?hg (N := 43) ?hd (n := 2) (cs := #[.slice A4 (zbj b a.length).length c4, .slice A1 a.length c1]) (t := 22) ?hr ?_; (case hd => rfl); (case hg => rfl); (case hr => first | (go_simp; done) | (go_simp; rfl)); intro pb hpb w5 hk hb; have HKb := zaa.mk hk; have HB5 := zaa.mk (zae HB4.out hb); have HC15 := zaa.mk (Kd.C_below HC14.out hb); have HC45 := zaa.mk (Kd.C_below HC4.out hb); clear hk hb hpb)
    | (go_at_call 40; refine (concat_calls _ pb A4 A1 c4 c1 (zbj b a.length) a HKb.out HC45.out HC15.out HL4.out HL1.out (by have := HLen.out; rw [zax]; omega) (by have := HLen.out; first | omega | (rw [zax]; omega))).mono ?_; rintro e w6 ⟨v6, rfl, hr, hb⟩; have HR6 := zaa.mk (Kd.R_lower hr HB5.out.size); have HB6 := zaa.mk (zae HB5.out hb); clear hr hb))
   go_ret
   have hr : res = zbj b a.length ++ a := HRes.out
   rw [hr]
   exact ⟨_, rfl, HR6.out, HB6.out⟩
def impl_TermPerm.f (s : ByteArray) : Option (List Int × Bool) := if s.size ≤ 1048576 then some (zar s) else none
set_option maxHeartbeats 400000 in
set_option maxRecDepth 100000 in
theorem implPerm_calls (s : ByteArray) (hs : s.size ≤ 1048576) (w : World) : Calls Try.prog 8 #[.string s] w (PermRes w (zar s)) := by
 have HOf := zaa.mk (termOf_calls s hs w)
 cases hof : ofR s with
 | none =>
  have HR := zaa.mk (show zar s = ([], false) by unfold zar; rw [hof])
  rw [hof] at HOf
  clear hof
  go_enter Try.func8, Try.ntmps8
  go_wp2_with (first
   | (go_at_call 22; refine HOf.out.mono ?_; rintro e w2 ⟨q, rfl, hb, hres⟩; replace hres : q = none := hres; subst hres; have HB2 := zaa.mk hb; clear hb))
  go_ret2
  rw [HR.out]
  exact ⟨_, rfl, Kd.R_nil _ _ _ _ _, HB2.out⟩
 | some t =>
  have HR := zaa.mk (show zar s = (zbc (tid t), true) by unfold zar; rw [hof])
  have HN := zaa.mk (show (tid t).nodes ≤ 100 by have := ofR_nodes hof; have := zck t; omega)
  rw [hof] at HOf
  clear hof
  go_enter Try.func8, Try.ntmps8
  go_wp2_with (first
   | (go_at_call 22; refine HOf.out.mono ?_; rintro e w2 ⟨q, rfl, hb, hres⟩; replace hres : ∃ p, q = some ⟨p, 0, none⟩ ∧ PtAt w2 (fun _ => True) t p := hres; obtain ⟨p, rfl, hP⟩ := hres; have HB2 := zaa.mk hb; have HP2 := zaa.mk hP; clear hb hP)
   | (go_at_call 23; refine (tidy_calls t _ p HP2.out).mono ?_; rintro e w3 ⟨m, rfl, hb, hP⟩; have HB3 := zaa.mk (zae HB2.out hb); have HP3 := zaa.mk hP; clear hb hP)
   | (go_at_call 24; refine (permI_calls (tid t) (zcf t) HN.out _ m HP3.out).mono ?_; rintro e w4 ⟨v4, rfl, hr, hb⟩; have HR4 := zaa.mk (Kd.R_lower hr HB3.out.size); have HB4 := zaa.mk (zae HB3.out hb); clear hr hb))
  go_ret2
  rw [HR.out]
  exact ⟨_, rfl, HR4.out, HB4.out⟩
theorem impl_TermPerm.calls (a0 : ByteArray) (r1 : List Int) (r2 : Bool) (w : World) (h : impl_TermPerm.f a0 = some (r1, r2)) :
  Calls Try.prog 8 #[.string a0] w fun e w' => ∃ v0_ : Value, e = .returned (.tuple #[v0_, .bool r2]) ∧ Kd.R (Kd.int .i64) 3 w' w.heap.size (fun _ => True) v0_ r1 ∧ Below w.heap.size w w' := by
 unfold impl_TermPerm.f at h
 split at h
 ·rename_i hs
  have e := Option.some.inj h
  have := implPerm_calls a0 hs w
  rw [e] at this
  exact this
 ·cases h
end Go.Proofs.Ytgiidlebnjbgeaa.Hd
namespace Go.Proofs.Ytgiidlebnjbgeaa.TQ
open Go.Proofs.Ytgiidlebnjbgeaa.PB Go.Proofs.Ytgiidlebnjbgeaa.Hd Go.Proofs.Ytgiidlebnjbgeaa.SM
open Go.RowKit Go.PW.PrintWords Go.PW.PrintLast Go.PW.PrintMore
attribute [local go_sem] zbu zbs zcc zcb zbf zbe zbt zbr   -- for this text's walks alone
def errW : Option Int → Value
 | none => .nilIface
 | some c => .iface 0 (.int .i64 c)
theorem zam : errW none = .nilIface := rfl
theorem zal (c : Int) : errW (some c) = .iface 0 (.int .i64 c) := rfl
theorem info3 : (Try.prog.info? 3).map (fun i => (i.zero, i.size, i.bytes)) = some (some (.int .i64 0), 1, 8) := by kernel_rfl
structure S38 where
 f0 : Int
 f1 : (List S38)
def z38 : S38 := ⟨(0 : Int), ([] : List S38)⟩
def F38 (d : Kd S38) : Kd S38 := Kd.iso (Kd.pair (Kd.int .u8) (Kd.slice 38 d)) (fun x : S38 => (x.f0, x.f1))
theorem mono38 : Kd.Mono F38 := Kd.mono_iso _ (Kd.mono_pair (Kd.mono_const _) (Kd.mono_slice 38 Kd.mono_id))
theorem sub38 : Kd.Sub F38 [38] := Kd.sub_iso _ (Kd.sub_pair (Kd.sub_const _ (by decide)) (Kd.sub_slice 38 (by decide) Kd.sub_id))
theorem sz38 : ∀ n, (Kd.upto F38 2 [38] n).sz = 2 := Kd.upto_sz (fun _ => rfl)
def k38 : Kd S38 := Kd.fix F38 2 [38] sz38 (Kd.upto_E sub38)
theorem k38_open {w : World} {x : S38} {cs : List Value} (h : k38.K w x cs) : ∃ A1 c1, cs = [.int .u8 x.f0, .slice A1 x.f1.length c1] ∧ x.f1.length ≤ c1 ∧ k38.C w A1 x.f1.length x.f1 := by
 obtain ⟨n, h⟩ := h
 cases n with
 | zero => exact h.elim
 | succ n =>
  obtain ⟨_, _, rfl, rfl, ⟨A1, c1, rfl, l1, g1⟩⟩ := h
  exact ⟨A1, c1, rfl, l1, Kd.fix_C g1⟩
theorem k38_mk (w : World) (x : S38) {A1 : Option Addr} {c1 : Nat} (l1 : x.f1.length ≤ c1) (g1 : k38.C w A1 x.f1.length x.f1) : k38.K w x [.int .u8 x.f0, .slice A1 x.f1.length c1] := by
 obtain ⟨n1, q1⟩ := Kd.fix_C_back mono38 g1
 have r1 := Kd.upto_C_le mono38 sz38 (show n1 ≤ n1 by omega) q1
 exact ⟨n1 + 1, ⟨[.int .u8 x.f0], [.slice A1 x.f1.length c1], rfl, rfl, ⟨A1, c1, rfl, l1, r1⟩⟩⟩
def zas (xs : List S38) (i : Int) : S38 := xs.getD i.toNat z38
theorem at_T38 {w : World} {A : Option Addr} {n : Nat} {xs : List S38} (h : Kd.C k38 w A n xs) (i : Int) (h0 : 0 ≤ i) (h1 : i < n) : ∃ ad A1 c1, A = some ad ∧ w.cell? (ad.add (i.toNat * 2)) = some (.int .u8 (zas xs i).f0) ∧ w.cell? ⟨(ad.add (i.toNat * 2)).block, (ad.add (i.toNat * 2)).off + 1, none⟩ = some (.slice A1 (zas xs i).f1.length c1) ∧ (zas xs i).f1.length ≤ c1 ∧ k38.C w A1 (zas xs i).f1.length (zas xs i).f1 := by
 obtain ⟨ad, c, e, _, hK, hc0⟩ := Kd.C_get h z38 i h0 h1
 have hc : ∀ j u, c[j]? = some u → w.cell? (ad.add (i.toNat * 2 + j)) = some u := hc0
 obtain ⟨A1, c1, rfl, l1, g1⟩ := k38_open hK
 exact ⟨ad, A1, c1, e, hc 0 _ rfl, by rw [← add_field _ _ 1 (by omega)]; exact hc 1 _ rfl, l1, g1⟩
end Go.Proofs.Ytgiidlebnjbgeaa.TQ
namespace Go.Proofs.Ytgiidlebnjbgeaa.TQ
open Go.Proofs.Ytgiidlebnjbgeaa.PB Go.Proofs.Ytgiidlebnjbgeaa.Hd Go.Proofs.Ytgiidlebnjbgeaa.SM
open Go.RowKit Go.PW.PrintWords Go.PW.PrintLast Go.PW.PrintMore
attribute [local go_sem] zbu zbs zcc zcb zbf zbe zbt zbr   -- for this text's walks alone
def spec_TermSame.f (k : Nat) (a0 : ByteArray) (a1 : ByteArray) : Option (Bool) := (spec_TermPerm.f a0).bind fun bt212 => ((spec_TermPerm.f a1).bind fun bt216 => (if bt212.2 = true then (if bt216.2 = true then ((spec_l5Equal.f k bt212.1 bt216.1).bind fun t220 => (some t220)) else (some false)) else (some false)))
set_option maxHeartbeats 8000000 in
set_option maxRecDepth 100000 in
theorem spec_TermSame.calls (k : Nat) (a0 : ByteArray) (a1 : ByteArray) (r : Bool) (w : World) (h : spec_TermSame.f k a0 a1 = some r) :
  Calls Try.prog 12 #[.string a0, .string a1] w fun e w' => e = .returned (.bool r) ∧ Below w.heap.size w w' := by
 have HB := zaa.mk (Below.refl w.heap.size w)
 have H : ((spec_TermPerm.f a0).bind fun bt212 => ((spec_TermPerm.f a1).bind fun bt216 => (if bt212.2 = true then (if bt216.2 = true then ((spec_l5Equal.f k bt212.1 bt216.1).bind fun t220 => (some t220)) else (some false)) else (some false)))) = some r := h
 clear h
 replace H := Option.bind_eq_some_iff.mp H
 obtain ⟨⟨t212, t213⟩, A30, H⟩ := H
 replace H : ((spec_TermPerm.f a1).bind fun bt216 => (if t213 = true then (if bt216.2 = true then ((spec_l5Equal.f k t212 bt216.1).bind fun t220 => (some t220)) else (some false)) else (some false))) = some r := H
 have A3 := zaa.mk A30
 clear A30
 replace H := Option.bind_eq_some_iff.mp H
 obtain ⟨⟨t216, t217⟩, A40, H⟩ := H
 replace H : (if t213 = true then (if t217 = true then ((spec_l5Equal.f k t212 t216).bind fun t220 => (some t220)) else (some false)) else (some false)) = some r := H
 have A4 := zaa.mk A40
 clear A40
 by_cases c5 : t213 = true
 ·subst c5
  have H1 : (if t217 = true then ((spec_l5Equal.f k t212 t216).bind fun t220 => (some t220)) else (some false)) = some r := by rw [if_pos rfl] at H; exact H
  clear H
  have H := H1
  clear H1
  by_cases c6 : t217 = true
  ·subst c6
   have H1 : ((spec_l5Equal.f k t212 t216).bind fun t220 => (some t220)) = some r := by rw [if_pos rfl] at H; exact H
   clear H
   have H := H1
   clear H1
   replace H := Option.bind_eq_some_iff.mp H
   obtain ⟨t220, A70, H⟩ := H
   replace H : (some t220) = some r := H
   have A7 := zaa.mk A70
   clear A70
   obtain rfl := Option.some.inj H
   go_enter Try.func12, Try.ntmps12
   go_wp2_with (first | ((with_reducible refine zap (f := 7) rfl ?_); refine zbm (some 11) rfl rfl Try.func7 (by kernel_rfl) rfl #[.string a0] rfl (by (try simp only [List.map_toArray, List.map_cons, List.map_nil]); first | done | rfl | (simp only [List.length_drop, List.length_take]; rfl)) ?_; (with_reducible refine (spec_TermPerm.calls a0 t212 true _ A3.out).mono ?_); rintro e w8 ⟨v214, rfl, ho0, hb⟩; refine ⟨_, rfl, ?_⟩; have n0_ := zaa.mk (Kd.R_lower ho0 (zan (by repeat (first | (with_reducible first | exact HB.out | apply zab | apply zac | apply zaf) | exact HB.out)))); have n1_ := zaa.mk (zae (by repeat (first | (with_reducible first | exact HB.out | apply zab | apply zac | apply zaf) | exact HB.out)) hb); clear HB; have HO215 := n0_; have HB := n1_; clear n0_ n1_; (try clear hb); (try clear hb2); (try clear hk); (try clear hi); (try clear ho0)) | ((with_reducible refine zap (f := 7) rfl ?_); refine zbm (some 16) rfl rfl Try.func7 (by kernel_rfl) rfl #[.string a1] rfl (by (try simp only [List.map_toArray, List.map_cons, List.map_nil]); first | done | rfl | (simp only [List.length_drop, List.length_take]; rfl)) ?_; (with_reducible refine (spec_TermPerm.calls a1 t216 true _ A4.out).mono ?_); rintro e w9 ⟨v218, rfl, ho0, hb⟩; refine ⟨_, rfl, ?_⟩; have n0_ := zaa.mk (Kd.R_elder' (by (with_reducible repeat (first | apply Kd.R_alloc | apply Kd.R_drewN | apply Kd.R_drew)); exact HO215.out) (Kd.R_base ho0) hb); have n1_ := zaa.mk (Kd.R_lower (Kd.R_new' ho0 (Kd.R_lt (by (with_reducible repeat (first | apply Kd.R_alloc | apply Kd.R_drewN | apply Kd.R_drew)); exact HO215.out))) (zan (by repeat (first | (with_reducible first | exact HB.out | apply zab | apply zac | apply zaf) | exact HB.out)))); have n2_ := zaa.mk (zae (by repeat (first | (with_reducible first | exact HB.out | apply zab | apply zac | apply zaf) | exact HB.out)) hb); clear HO215; clear HB; have HO215 := n0_; have HO219 := n1_; have HB := n2_; clear n0_ n1_ n2_; (try clear hb); (try clear hb2); (try clear hk); (try clear hi); (try clear ho0); obtain ⟨Ao10, co10, eo10⟩ := Kd.R_slice HO215.out; subst eo10; obtain ⟨Ao11, co11, eo11⟩ := Kd.R_slice HO219.out; subst eo11) | (go_at_call 25; (with_reducible refine (spec_l5Equal.calls k _ _ t212 _ _ t216 t220 _ ?side1 ?side2 ?side3 ?side4 A7.out).mono ?_); (case side1 => repeat (first | exact (Kd.R_reads' HO215.out).2.2 | (with_reducible refine Kd.C_alloc ?_ _) | (with_reducible refine Kd.C_drewN ?_ _) | (with_reducible refine Kd.C_drew ?_))); (case side2 => exact (Kd.R_reads' HO215.out).2.1); (case side3 => repeat (first | exact (Kd.R_reads' HO219.out).2.2 | (with_reducible refine Kd.C_alloc ?_ _) | (with_reducible refine Kd.C_drewN ?_ _) | (with_reducible refine Kd.C_drew ?_))); (case side4 => exact (Kd.R_reads' HO219.out).2.1); rintro e w' ⟨rfl, ⟨nd, rfl⟩⟩))
   go_ret
   exact ⟨by first | rfl | (simp [zam, zal] <;> rfl) | (simp [*, zam, zal] <;> rfl), by repeat (first | (with_reducible first | exact HB.out | apply zab | apply zac | apply zaf) | exact HB.out)⟩
  ·replace c6 := Bool.eq_false_iff.mpr c6
   subst c6
   have H1 : (some false) = some r := by rw [if_neg (show ¬ (false = true) by decide)] at H; exact H
   clear H
   have H := H1
   clear H1
   obtain rfl := Option.some.inj H
   go_enter Try.func12, Try.ntmps12
   go_wp2_with (first | ((with_reducible refine zap (f := 7) rfl ?_); refine zbm (some 11) rfl rfl Try.func7 (by kernel_rfl) rfl #[.string a0] rfl (by (try simp only [List.map_toArray, List.map_cons, List.map_nil]); first | done | rfl | (simp only [List.length_drop, List.length_take]; rfl)) ?_; (with_reducible refine (spec_TermPerm.calls a0 t212 true _ A3.out).mono ?_); rintro e w12 ⟨v214, rfl, ho0, hb⟩; refine ⟨_, rfl, ?_⟩; have n0_ := zaa.mk (Kd.R_lower ho0 (zan (by repeat (first | (with_reducible first | exact HB.out | apply zab | apply zac | apply zaf) | exact HB.out)))); have n1_ := zaa.mk (zae (by repeat (first | (with_reducible first | exact HB.out | apply zab | apply zac | apply zaf) | exact HB.out)) hb); clear HB; have HO215 := n0_; have HB := n1_; clear n0_ n1_; (try clear hb); (try clear hb2); (try clear hk); (try clear hi); (try clear ho0)) | ((with_reducible refine zap (f := 7) rfl ?_); refine zbm (some 16) rfl rfl Try.func7 (by kernel_rfl) rfl #[.string a1] rfl (by (try simp only [List.map_toArray, List.map_cons, List.map_nil]); first | done | rfl | (simp only [List.length_drop, List.length_take]; rfl)) ?_; (with_reducible refine (spec_TermPerm.calls a1 t216 false _ A4.out).mono ?_); rintro e w13 ⟨v218, rfl, ho0, hb⟩; refine ⟨_, rfl, ?_⟩; have n0_ := zaa.mk (Kd.R_elder' (by (with_reducible repeat (first | apply Kd.R_alloc | apply Kd.R_drewN | apply Kd.R_drew)); exact HO215.out) (Kd.R_base ho0) hb); have n1_ := zaa.mk (Kd.R_lower (Kd.R_new' ho0 (Kd.R_lt (by (with_reducible repeat (first | apply Kd.R_alloc | apply Kd.R_drewN | apply Kd.R_drew)); exact HO215.out))) (zan (by repeat (first | (with_reducible first | exact HB.out | apply zab | apply zac | apply zaf) | exact HB.out)))); have n2_ := zaa.mk (zae (by repeat (first | (with_reducible first | exact HB.out | apply zab | apply zac | apply zaf) | exact HB.out)) hb); clear HO215; clear HB; have HO215 := n0_; have HO219 := n1_; have HB := n2_; clear n0_ n1_ n2_; (try clear hb); (try clear hb2); (try clear hk); (try clear hi); (try clear ho0)))
   go_ret
   exact ⟨by first | rfl | (simp [zam, zal] <;> rfl) | (simp [*, zam, zal] <;> rfl), by repeat (first | (with_reducible first | exact HB.out | apply zab | apply zac | apply zaf) | exact HB.out)⟩
 ·replace c5 := Bool.eq_false_iff.mpr c5
  subst c5
  have H1 : (some false) = some r := by rw [if_neg (show ¬ (false = true) by decide)] at H; exact H
  clear H
  have H := H1
  clear H1
  obtain rfl := Option.some.inj H
  go_enter Try.func12, Try.ntmps12
  go_wp2_with (first | ((with_reducible refine zap (f := 7) rfl ?_); refine zbm (some 11) rfl rfl Try.func7 (by kernel_rfl) rfl #[.string a0] rfl (by (try simp only [List.map_toArray, List.map_cons, List.map_nil]); first | done | rfl | (simp only [List.length_drop, List.length_take]; rfl)) ?_; (with_reducible refine (spec_TermPerm.calls a0 t212 false _ A3.out).mono ?_); rintro e w14 ⟨v214, rfl, ho0, hb⟩; refine ⟨_, rfl, ?_⟩; have n0_ := zaa.mk (Kd.R_lower ho0 (zan (by repeat (first | (with_reducible first | exact HB.out | apply zab | apply zac | apply zaf) | exact HB.out)))); have n1_ := zaa.mk (zae (by repeat (first | (with_reducible first | exact HB.out | apply zab | apply zac | apply zaf) | exact HB.out)) hb); clear HB; have HO215 := n0_; have HB := n1_; clear n0_ n1_; (try clear hb); (try clear hb2); (try clear hk); (try clear hi); (try clear ho0)) | ((with_reducible refine zap (f := 7) rfl ?_); refine zbm (some 16) rfl rfl Try.func7 (by kernel_rfl) rfl #[.string a1] rfl (by (try simp only [List.map_toArray, List.map_cons, List.map_nil]); first | done | rfl | (simp only [List.length_drop, List.length_take]; rfl)) ?_; (with_reducible refine (spec_TermPerm.calls a1 t216 t217 _ A4.out).mono ?_); rintro e w15 ⟨v218, rfl, ho0, hb⟩; refine ⟨_, rfl, ?_⟩; have n0_ := zaa.mk (Kd.R_elder' (by (with_reducible repeat (first | apply Kd.R_alloc | apply Kd.R_drewN | apply Kd.R_drew)); exact HO215.out) (Kd.R_base ho0) hb); have n1_ := zaa.mk (Kd.R_lower (Kd.R_new' ho0 (Kd.R_lt (by (with_reducible repeat (first | apply Kd.R_alloc | apply Kd.R_drewN | apply Kd.R_drew)); exact HO215.out))) (zan (by repeat (first | (with_reducible first | exact HB.out | apply zab | apply zac | apply zaf) | exact HB.out)))); have n2_ := zaa.mk (zae (by repeat (first | (with_reducible first | exact HB.out | apply zab | apply zac | apply zaf) | exact HB.out)) hb); clear HO215; clear HB; have HO215 := n0_; have HO219 := n1_; have HB := n2_; clear n0_ n1_ n2_; (try clear hb); (try clear hb2); (try clear hk); (try clear hi); (try clear ho0)))
  go_ret
  exact ⟨by first | rfl | (simp [zam, zal] <;> rfl) | (simp [*, zam, zal] <;> rfl), by repeat (first | (with_reducible first | exact HB.out | apply zab | apply zac | apply zaf) | exact HB.out)⟩
def impl_TermSame.f (k : Nat) (a0 : ByteArray) (a1 : ByteArray) : Option (Bool) := (impl_TermPerm.f a0).bind fun bt226 => ((impl_TermPerm.f a1).bind fun bt230 => (if bt226.2 = true then (if bt230.2 = true then ((slices_Equal_int_int.f k bt226.1 bt230.1).bind fun t234 => (some t234)) else (some false)) else (some false)))
set_option maxHeartbeats 8000000 in
set_option maxRecDepth 100000 in
theorem impl_TermSame.calls (k : Nat) (a0 : ByteArray) (a1 : ByteArray) (r : Bool) (w : World) (h : impl_TermSame.f k a0 a1 = some r) :
  Calls Try.prog 13 #[.string a0, .string a1] w fun e w' => e = .returned (.bool r) ∧ Below w.heap.size w w' := by
 have HB := zaa.mk (Below.refl w.heap.size w)
 have H : ((impl_TermPerm.f a0).bind fun bt226 => ((impl_TermPerm.f a1).bind fun bt230 => (if bt226.2 = true then (if bt230.2 = true then ((slices_Equal_int_int.f k bt226.1 bt230.1).bind fun t234 => (some t234)) else (some false)) else (some false)))) = some r := h
 clear h
 replace H := Option.bind_eq_some_iff.mp H
 obtain ⟨⟨t226, t227⟩, A30, H⟩ := H
 replace H : ((impl_TermPerm.f a1).bind fun bt230 => (if t227 = true then (if bt230.2 = true then ((slices_Equal_int_int.f k t226 bt230.1).bind fun t234 => (some t234)) else (some false)) else (some false))) = some r := H
 have A3 := zaa.mk A30
 clear A30
 replace H := Option.bind_eq_some_iff.mp H
 obtain ⟨⟨t230, t231⟩, A40, H⟩ := H
 replace H : (if t227 = true then (if t231 = true then ((slices_Equal_int_int.f k t226 t230).bind fun t234 => (some t234)) else (some false)) else (some false)) = some r := H
 have A4 := zaa.mk A40
 clear A40
 by_cases c5 : t227 = true
 ·subst c5
  have H1 : (if t231 = true then ((slices_Equal_int_int.f k t226 t230).bind fun t234 => (some t234)) else (some false)) = some r := by rw [if_pos rfl] at H; exact H
  clear H
  have H := H1
  clear H1
  by_cases c6 : t231 = true
  ·subst c6
   have H1 : ((slices_Equal_int_int.f k t226 t230).bind fun t234 => (some t234)) = some r := by rw [if_pos rfl] at H; exact H
   clear H
   have H := H1
   clear H1
   replace H := Option.bind_eq_some_iff.mp H
   obtain ⟨t234, A70, H⟩ := H
   replace H : (some t234) = some r := H
   have A7 := zaa.mk A70
   clear A70
   obtain rfl := Option.some.inj H
   go_enter Try.func13, Try.ntmps13
   go_wp2_with (first | ((with_reducible refine zap (f := 8) rfl ?_); refine zbm (some 11) rfl rfl Try.func8 (by kernel_rfl) rfl #[.string a0] rfl (by (try simp only [List.map_toArray, List.map_cons, List.map_nil]); first | done | rfl | (simp only [List.length_drop, List.length_take]; rfl)) ?_; (with_reducible refine (impl_TermPerm.calls a0 t226 true _ A3.out).mono ?_); rintro e w8 ⟨v228, rfl, ho0, hb⟩; refine ⟨_, rfl, ?_⟩; have n0_ := zaa.mk (Kd.R_lower ho0 (zan (by repeat (first | (with_reducible first | exact HB.out | apply zab | apply zac | apply zaf) | exact HB.out)))); have n1_ := zaa.mk (zae (by repeat (first | (with_reducible first | exact HB.out | apply zab | apply zac | apply zaf) | exact HB.out)) hb); clear HB; have HO229 := n0_; have HB := n1_; clear n0_ n1_; (try clear hb); (try clear hb2); (try clear hk); (try clear hi); (try clear ho0)) | ((with_reducible refine zap (f := 8) rfl ?_); refine zbm (some 16) rfl rfl Try.func8 (by kernel_rfl) rfl #[.string a1] rfl (by (try simp only [List.map_toArray, List.map_cons, List.map_nil]); first | done | rfl | (simp only [List.length_drop, List.length_take]; rfl)) ?_; (with_reducible refine (impl_TermPerm.calls a1 t230 true _ A4.out).mono ?_); rintro e w9 ⟨v232, rfl, ho0, hb⟩; refine ⟨_, rfl, ?_⟩; have n0_ := zaa.mk (Kd.R_elder' (by (with_reducible repeat (first | apply Kd.R_alloc | apply Kd.R_drewN | apply Kd.R_drew)); exact HO229.out) (Kd.R_base ho0) hb); have n1_ := zaa.mk (Kd.R_lower (Kd.R_new' ho0 (Kd.R_lt (by (with_reducible repeat (first | apply Kd.R_alloc | apply Kd.R_drewN | apply Kd.R_drew)); exact HO229.out))) (zan (by repeat (first | (with_reducible first | exact HB.out | apply zab | apply zac | apply zaf) | exact HB.out)))); have n2_ := zaa.mk (zae (by repeat (first | (with_reducible first | exact HB.out | apply zab | apply zac | apply zaf) | exact HB.out)) hb); clear HO229; clear HB; have HO229 := n0_; have HO233 := n1_; have HB := n2_; clear n0_ n1_ n2_; (try clear hb); (try clear hb2); (try clear hk); (try clear hi); (try clear ho0); obtain ⟨Ao10, co10, eo10⟩ := Kd.R_slice HO229.out; subst eo10; obtain ⟨Ao11, co11, eo11⟩ := Kd.R_slice HO233.out; subst eo11) | (go_at_call 26; (with_reducible refine (slices_Equal_int_int.calls k _ _ t226 _ _ t230 t234 _ ?side1 ?side2 ?side3 ?side4 A7.out).mono ?_); (case side1 => repeat (first | exact (Kd.R_reads' HO229.out).2.2 | (with_reducible refine Kd.C_alloc ?_ _) | (with_reducible refine Kd.C_drewN ?_ _) | (with_reducible refine Kd.C_drew ?_))); (case side2 => exact (Kd.R_reads' HO229.out).2.1); (case side3 => repeat (first | exact (Kd.R_reads' HO233.out).2.2 | (with_reducible refine Kd.C_alloc ?_ _) | (with_reducible refine Kd.C_drewN ?_ _) | (with_reducible refine Kd.C_drew ?_))); (case side4 => exact (Kd.R_reads' HO233.out).2.1); rintro e w' ⟨rfl, ⟨nd, rfl⟩⟩))
   go_ret
   exact ⟨by first | rfl | (simp [zam, zal] <;> rfl) | (simp [*, zam, zal] <;> rfl), by repeat (first | (with_reducible first | exact HB.out | apply zab | apply zac | apply zaf) | exact HB.out)⟩
  ·replace c6 := Bool.eq_false_iff.mpr c6
   subst c6
   have H1 : (some false) = some r := by rw [if_neg (show ¬ (false = true) by decide)] at H; exact H
   clear H
   have H := H1
   clear H1
   obtain rfl := Option.some.inj H
   go_enter Try.func13, Try.ntmps13
   go_wp2_with (first | ((with_reducible refine zap (f := 8) rfl ?_); refine zbm (some 11) rfl rfl Try.func8 (by kernel_rfl) rfl #[.string a0] rfl (by (try simp only [List.map_toArray, List.map_cons, List.map_nil]); first | done | rfl | (simp only [List.length_drop, List.length_take]; rfl)) ?_; (with_reducible refine (impl_TermPerm.calls a0 t226 true _ A3.out).mono ?_); rintro e w12 ⟨v228, rfl, ho0, hb⟩; refine ⟨_, rfl, ?_⟩; have n0_ := zaa.mk (Kd.R_lower ho0 (zan (by repeat (first | (with_reducible first | exact HB.out | apply zab | apply zac | apply zaf) | exact HB.out)))); have n1_ := zaa.mk (zae (by repeat (first | (with_reducible first | exact HB.out | apply zab | apply zac | apply zaf) | exact HB.out)) hb); clear HB; have HO229 := n0_; have HB := n1_; clear n0_ n1_; (try clear hb); (try clear hb2); (try clear hk); (try clear hi); (try clear ho0)) | ((with_reducible refine zap (f := 8) rfl ?_); refine zbm (some 16) rfl rfl Try.func8 (by kernel_rfl) rfl #[.string a1] rfl (by (try simp only [List.map_toArray, List.map_cons, List.map_nil]); first | done | rfl | (simp only [List.length_drop, List.length_take]; rfl)) ?_; (with_reducible refine (impl_TermPerm.calls a1 t230 false _ A4.out).mono ?_); rintro e w13 ⟨v232, rfl, ho0, hb⟩; refine ⟨_, rfl, ?_⟩; have n0_ := zaa.mk (Kd.R_elder' (by (with_reducible repeat (first | apply Kd.R_alloc | apply Kd.R_drewN | apply Kd.R_drew)); exact HO229.out) (Kd.R_base ho0) hb); have n1_ := zaa.mk (Kd.R_lower (Kd.R_new' ho0 (Kd.R_lt (by (with_reducible repeat (first | apply Kd.R_alloc | apply Kd.R_drewN | apply Kd.R_drew)); exact HO229.out))) (zan (by repeat (first | (with_reducible first | exact HB.out | apply zab | apply zac | apply zaf) | exact HB.out)))); have n2_ := zaa.mk (zae (by repeat (first | (with_reducible first | exact HB.out | apply zab | apply zac | apply zaf) | exact HB.out)) hb); clear HO229; clear HB; have HO229 := n0_; have HO233 := n1_; have HB := n2_; clear n0_ n1_ n2_; (try clear hb); (try clear hb2); (try clear hk); (try clear hi); (try clear ho0)))
   go_ret
   exact ⟨by first | rfl | (simp [zam, zal] <;> rfl) | (simp [*, zam, zal] <;> rfl), by repeat (first | (with_reducible first | exact HB.out | apply zab | apply zac | apply zaf) | exact HB.out)⟩
 ·replace c5 := Bool.eq_false_iff.mpr c5
  subst c5
  have H1 : (some false) = some r := by rw [if_neg (show ¬ (false = true) by decide)] at H; exact H
  clear H
  have H := H1
  clear H1
  obtain rfl := Option.some.inj H
  go_enter Try.func13, Try.ntmps13
  go_wp2_with (first | ((with_reducible refine zap (f := 8) rfl ?_); refine zbm (some 11) rfl rfl Try.func8 (by kernel_rfl) rfl #[.string a0] rfl (by (try simp only [List.map_toArray, List.map_cons, List.map_nil]); first | done | rfl | (simp only [List.length_drop, List.length_take]; rfl)) ?_; (with_reducible refine (impl_TermPerm.calls a0 t226 false _ A3.out).mono ?_); rintro e w14 ⟨v228, rfl, ho0, hb⟩; refine ⟨_, rfl, ?_⟩; have n0_ := zaa.mk (Kd.R_lower ho0 (zan (by repeat (first | (with_reducible first | exact HB.out | apply zab | apply zac | apply zaf) | exact HB.out)))); have n1_ := zaa.mk (zae (by repeat (first | (with_reducible first | exact HB.out | apply zab | apply zac | apply zaf) | exact HB.out)) hb); clear HB; have HO229 := n0_; have HB := n1_; clear n0_ n1_; (try clear hb); (try clear hb2); (try clear hk); (try clear hi); (try clear ho0)) | ((with_reducible refine zap (f := 8) rfl ?_); refine zbm (some 16) rfl rfl Try.func8 (by kernel_rfl) rfl #[.string a1] rfl (by (try simp only [List.map_toArray, List.map_cons, List.map_nil]); first | done | rfl | (simp only [List.length_drop, List.length_take]; rfl)) ?_; (with_reducible refine (impl_TermPerm.calls a1 t230 t231 _ A4.out).mono ?_); rintro e w15 ⟨v232, rfl, ho0, hb⟩; refine ⟨_, rfl, ?_⟩; have n0_ := zaa.mk (Kd.R_elder' (by (with_reducible repeat (first | apply Kd.R_alloc | apply Kd.R_drewN | apply Kd.R_drew)); exact HO229.out) (Kd.R_base ho0) hb); have n1_ := zaa.mk (Kd.R_lower (Kd.R_new' ho0 (Kd.R_lt (by (with_reducible repeat (first | apply Kd.R_alloc | apply Kd.R_drewN | apply Kd.R_drew)); exact HO229.out))) (zan (by repeat (first | (with_reducible first | exact HB.out | apply zab | apply zac | apply zaf) | exact HB.out)))); have n2_ := zaa.mk (zae (by repeat (first | (with_reducible first | exact HB.out | apply zab | apply zac | apply zaf) | exact HB.out)) hb); clear HO229; clear HB; have HO229 := n0_; have HO233 := n1_; have HB := n2_; clear n0_ n1_ n2_; (try clear hb); (try clear hb2); (try clear hk); (try clear hi); (try clear ho0)))
  go_ret
  exact ⟨by first | rfl | (simp [zam, zal] <;> rfl) | (simp [*, zam, zal] <;> rfl), by repeat (first | (with_reducible first | exact HB.out | apply zab | apply zac | apply zaf) | exact HB.out)⟩
def laws_FnExactTermSame.f (k : Nat) (a0 : ByteArray) (a1 : ByteArray) : Option (Bool) := if (a0.size : Int) > 1048576 then (some true) else (if (a1.size : Int) > 1048576 then (some true) else ((spec_TermSame.f k a0 a1).bind fun t235 => ((impl_TermSame.f k a0 a1).bind fun t236 => (if (t236 != t235) = true then (some false) else (some true)))))
set_option maxHeartbeats 8000000 in
set_option maxRecDepth 100000 in
theorem laws_FnExactTermSame.calls (k : Nat) (a0 : ByteArray) (a1 : ByteArray) (r : Bool) (w : World) (h : laws_FnExactTermSame.f k a0 a1 = some r) :
  Calls Try.prog 4 #[.string a0, .string a1] w fun e w' => e = .returned (.bool r) ∧ Below w.heap.size w w' := by
 have HB := zaa.mk (Below.refl w.heap.size w)
 have H : (if (a0.size : Int) > 1048576 then (some true) else (if (a1.size : Int) > 1048576 then (some true) else ((spec_TermSame.f k a0 a1).bind fun t235 => ((impl_TermSame.f k a0 a1).bind fun t236 => (if (t236 != t235) = true then (some false) else (some true)))))) = some r := h
 clear h
 by_cases c3 : (a0.size : Int) > 1048576
 ·rw [if_pos c3] at H
  have c3b0 : decide (1048576 < (a0.size : Int)) = true := decide_eq_true c3
  have c3b1 : decide (1048576 < a0.size) = true := decide_eq_true (by omega)
  clear c3
  obtain rfl := Option.some.inj H
  go_enter Try.func4, Try.ntmps4
  go_wp2
  go_ret
  exact ⟨by first | rfl | (simp [zam, zal] <;> rfl) | (simp [*, zam, zal] <;> rfl), by repeat (first | (with_reducible first | exact HB.out | apply zab | apply zac | apply zaf) | exact HB.out)⟩
 ·rw [if_neg c3] at H
  have c3b0 : decide (1048576 < (a0.size : Int)) = false := decide_eq_false c3
  have c3b1 : decide (1048576 < a0.size) = false := decide_eq_false (by omega)
  clear c3
  by_cases c4 : (a1.size : Int) > 1048576
  ·rw [if_pos c4] at H
   have c4b0 : decide (1048576 < (a1.size : Int)) = true := decide_eq_true c4
   have c4b1 : decide (1048576 < a1.size) = true := decide_eq_true (by omega)
   clear c4
   obtain rfl := Option.some.inj H
   go_enter Try.func4, Try.ntmps4
   go_wp2
   go_ret
   exact ⟨by first | rfl | (simp [zam, zal] <;> rfl) | (simp [*, zam, zal] <;> rfl), by repeat (first | (with_reducible first | exact HB.out | apply zab | apply zac | apply zaf) | exact HB.out)⟩
  ·rw [if_neg c4] at H
   have c4b0 : decide (1048576 < (a1.size : Int)) = false := decide_eq_false c4
   have c4b1 : decide (1048576 < a1.size) = false := decide_eq_false (by omega)
   clear c4
   replace H := Option.bind_eq_some_iff.mp H
   obtain ⟨t235, A50, H⟩ := H
   replace H : ((impl_TermSame.f k a0 a1).bind fun t236 => (if (t236 != t235) = true then (some false) else (some true))) = some r := H
   have A5 := zaa.mk A50
   clear A50
   replace H := Option.bind_eq_some_iff.mp H
   obtain ⟨t236, A60, H⟩ := H
   replace H : (if (t236 != t235) = true then (some false) else (some true)) = some r := H
   have A6 := zaa.mk A60
   clear A60
   by_cases c7 : (t236 != t235) = true
   ·rw [if_pos c7] at H
    have c7b0 : (t236 != t235) = true := c7
    (try (have c7b1 : decide (t236 = t235) = false := by simpa using c7))
    (try (have c7b2 : (t236 == t235) = false := by simpa using c7))
    (try (have c7b3 : ¬ (t236 = t235) := by simpa using c7))
    clear c7
    obtain rfl := Option.some.inj H
    go_enter Try.func4, Try.ntmps4
    go_wp2_with (first | ((with_reducible refine zap (f := 12) rfl ?_); refine zbm (some 15) rfl rfl Try.func12 (by kernel_rfl) rfl #[.string a0, .string a1] rfl (by (try simp only [List.map_toArray, List.map_cons, List.map_nil]); first | done | rfl | (simp only [List.length_drop, List.length_take]; rfl)) ?_; (with_reducible refine (spec_TermSame.calls k a0 a1 t235 _ A5.out).mono ?_); rintro e w8 ⟨rfl, hb⟩; refine ⟨_, rfl, ?_⟩; have n0_ := zaa.mk (zae (by repeat (first | (with_reducible first | exact HB.out | apply zab | apply zac | apply zaf) | exact HB.out)) hb); clear HB; have HB := n0_; clear n0_; (try clear hb); (try clear hb2); (try clear hk); (try clear hi)) | ((with_reducible refine zap (f := 13) rfl ?_); refine zbm (some 18) rfl rfl Try.func13 (by kernel_rfl) rfl #[.string a0, .string a1] rfl (by (try simp only [List.map_toArray, List.map_cons, List.map_nil]); first | done | rfl | (simp only [List.length_drop, List.length_take]; rfl)) ?_; (with_reducible refine (impl_TermSame.calls k a0 a1 t236 _ A6.out).mono ?_); rintro e w9 ⟨rfl, hb⟩; refine ⟨_, rfl, ?_⟩; have n0_ := zaa.mk (zae (by repeat (first | (with_reducible first | exact HB.out | apply zab | apply zac | apply zaf) | exact HB.out)) hb); clear HB; have HB := n0_; clear n0_; (try clear hb); (try clear hb2); (try clear hk); (try clear hi)))
    go_ret
    exact ⟨by first | rfl | (simp [zam, zal] <;> rfl) | (simp [*, zam, zal] <;> rfl), by repeat (first | (with_reducible first | exact HB.out | apply zab | apply zac | apply zaf) | exact HB.out)⟩
   ·rw [if_neg c7] at H
    have c7b0 : (t236 != t235) = false := by simpa using c7
    (try (have c7b1 : decide (t236 = t235) = true := by simpa using c7))
    (try (have c7b2 : (t236 == t235) = true := by simpa using c7))
    clear c7
    obtain rfl := Option.some.inj H
    go_enter Try.func4, Try.ntmps4
    go_wp2_with (first | ((with_reducible refine zap (f := 12) rfl ?_); refine zbm (some 15) rfl rfl Try.func12 (by kernel_rfl) rfl #[.string a0, .string a1] rfl (by (try simp only [List.map_toArray, List.map_cons, List.map_nil]); first | done | rfl | (simp only [List.length_drop, List.length_take]; rfl)) ?_; (with_reducible refine (spec_TermSame.calls k a0 a1 t235 _ A5.out).mono ?_); rintro e w10 ⟨rfl, hb⟩; refine ⟨_, rfl, ?_⟩; have n0_ := zaa.mk (zae (by repeat (first | (with_reducible first | exact HB.out | apply zab | apply zac | apply zaf) | exact HB.out)) hb); clear HB; have HB := n0_; clear n0_; (try clear hb); (try clear hb2); (try clear hk); (try clear hi)) | ((with_reducible refine zap (f := 13) rfl ?_); refine zbm (some 18) rfl rfl Try.func13 (by kernel_rfl) rfl #[.string a0, .string a1] rfl (by (try simp only [List.map_toArray, List.map_cons, List.map_nil]); first | done | rfl | (simp only [List.length_drop, List.length_take]; rfl)) ?_; (with_reducible refine (impl_TermSame.calls k a0 a1 t236 _ A6.out).mono ?_); rintro e w11 ⟨rfl, hb⟩; refine ⟨_, rfl, ?_⟩; have n0_ := zaa.mk (zae (by repeat (first | (with_reducible first | exact HB.out | apply zab | apply zac | apply zaf) | exact HB.out)) hb); clear HB; have HB := n0_; clear n0_; (try clear hb); (try clear hb2); (try clear hk); (try clear hi)))
    go_ret
    exact ⟨by first | rfl | (simp [zam, zal] <;> rfl) | (simp [*, zam, zal] <;> rfl), by repeat (first | (with_reducible first | exact HB.out | apply zab | apply zac | apply zaf) | exact HB.out)⟩
def laws_FnExactTermSame.Pure : Prop := ∀ (a0 : ByteArray) (a1 : ByteArray), a0.size ≤ 140737488351232 → a1.size ≤ 140737488351232 → ∃ k, laws_FnExactTermSame.f k a0 a1 = some true
theorem laws_FnExactTermSame.walk (P : laws_FnExactTermSame.Pure) (a0 : ByteArray) (a1 : ByteArray) (w : World) (w0 : a0.size ≤ 140737488351232) (w1 : a1.size ≤ 140737488351232) :
  Calls Try.prog 4 #[.string a0, .string a1] w fun e w' => e = .returned (.bool true) ∧ Below w.heap.size w w' := by
 obtain ⟨k, h⟩ := P a0 a1 w0 w1
 refine (laws_FnExactTermSame.calls k a0 a1 true w h).mono ?_
 rintro e w' ⟨rfl, hd⟩
 exact ⟨rfl, hd⟩
end Go.Proofs.Ytgiidlebnjbgeaa.TQ
namespace Go.Proofs.Ytgiidlebnjbgeaa.Hd
open Go.RowKit Go.PW.PrintWords Go.PW.PrintLast Go.PW.PrintMore Go.Proofs.Ytgiidlebnjbgeaa.PB
theorem wrapT_succ {i : Nat} (h : i ≤ 1048576) : wrap64 ((i : Int) + 1) = ((i + 1 : Nat) : Int) := by rw [wrapT (by omega) (by omega)]; omega
theorem rdT_at {p : List Int} {i : Nat} {s : Int} (h : p[i]? = some s) : rd p (i : Int) = s := by
 unfold rd; rw [Int.toNat_natCast, List.getD_eq_getElem?_getD, h]; rfl
theorem equalT_ev (a b : List Int) (ha : a.length ≤ 100) : Evs (fun k => slices_Equal_int_int.f k a b) (decide (a = b)) := by
 have key : ∀ m i, i + m = a.length → a.length = b.length → a.take i = b.take i → Evs (fun k => slices_Equal_int_int.l0 k a b (a.length : Int) (i : Int)) (decide (a = b)) := by
  intro m
  induction m with
  | zero =>
   intro i hi hl ht
   refine Evs.stepNeg (fun k => by conv => lhs; unfold slices_Equal_int_int.l0) (by omega) ?_
   have : a = b := by
    rw [List.take_of_length_le (by omega), List.take_of_length_le (by omega)] at ht
    exact ht
   rw [decide_eq_true this]
   exact Evs.const _
  | succ m ih =>
   intro i hi hl ht
   refine Evs.stepPos (fun k => by conv => lhs; unfold slices_Equal_int_int.l0) (by omega) (Evs.pos (by omega) (Evs.pos (by omega) (Evs.pos (by omega) ?_)))
   have ha' : a[i]? = some a[i] := List.getElem?_eq_getElem (by omega)
   have hb' : b[i]? = some b[i] := List.getElem?_eq_getElem (by omega)
   rw [rdT_at ha', rdT_at hb']
   by_cases e : a[i] = b[i]
   ·refine Evs.pos e ?_
    rw [wrapT_succ (by omega)]
    refine ih (i + 1) (by omega) hl ?_
    rw [List.take_add_one, List.take_add_one, ha', hb', ht, e]
   ·refine Evs.neg e ?_
    have : ¬ a = b := fun z => e (by subst z; rfl)
    rw [decide_eq_false this]
    exact Evs.const _
 by_cases hl : a.length = b.length
 ·refine Evs.congr (h := fun k => slices_Equal_int_int.l0 k a b (a.length : Int) 0) (fun k => ?_) (key a.length 0 (by omega) hl rfl)
  unfold slices_Equal_int_int.f
  rw [if_pos (by omega)]
 ·rw [decide_eq_false (fun z => hl (by rw [z]))]
  refine Evs.congr (h := fun _ => some false) (fun k => ?_) (Evs.const _)
  unfold slices_Equal_int_int.f
  rw [if_neg (by omega)]
theorem l5Equal_ev (a b : List Int) (ha : a.length ≤ 100) : Evs (fun k => spec_l5Equal.f k a b) (decide (a = b)) := by
 have key : ∀ m i, i + m = a.length → a.length = b.length → a.take i = b.take i → Evs (fun k => spec_l5Equal.l0 k a b (i : Int)) (decide (a = b)) := by
  intro m
  induction m with
  | zero =>
   intro i hi hl ht
   refine Evs.stepNeg (fun k => by conv => lhs; unfold spec_l5Equal.l0) (by omega) ?_
   have : a = b := by
    rw [List.take_of_length_le (by omega), List.take_of_length_le (by omega)] at ht
    exact ht
   rw [decide_eq_true this]
   exact Evs.const _
  | succ m ih =>
   intro i hi hl ht
   refine Evs.stepPos (fun k => by conv => lhs; unfold spec_l5Equal.l0) (by omega) (Evs.pos (by omega) (Evs.pos (by omega) ?_))
   have ha' : a[i]? = some a[i] := List.getElem?_eq_getElem (by omega)
   have hb' : b[i]? = some b[i] := List.getElem?_eq_getElem (by omega)
   rw [rdT_at ha', rdT_at hb']
   by_cases e : a[i] = b[i]
   ·refine Evs.pos e ?_
    rw [wrapT_succ (by omega)]
    refine ih (i + 1) (by omega) hl ?_
    rw [List.take_add_one, List.take_add_one, ha', hb', ht, e]
   ·refine Evs.neg e ?_
    have : ¬ a = b := fun z => e (by subst z; rfl)
    rw [decide_eq_false this]
    exact Evs.const _
 by_cases hl : a.length = b.length
 ·refine Evs.congr (h := fun k => spec_l5Equal.l0 k a b 0) (fun k => ?_) (key a.length 0 (by omega) hl rfl)
  unfold spec_l5Equal.f
  rw [if_pos (by omega)]
 ·rw [decide_eq_false (fun z => hl (by rw [z]))]
  refine Evs.congr (h := fun _ => some false) (fun k => ?_) (Evs.const _)
  unfold spec_l5Equal.f
  rw [if_neg (by omega)]
def termSameF (s t : ByteArray) : Bool := (zar s).2 && ((zar t).2 && decide ((zar s).1 = (zar t).1))
theorem termPermF_lenT (s : ByteArray) : (zar s).1.length ≤ 60 := by
 unfold zar
 cases h : ofR s with
 | none => simp
 | some t =>
  have := ofR_nodes h
  have := zck t
  have := zaz (tid t)
  show (zbc (tid t)).length ≤ 60
  omega
end Go.Proofs.Ytgiidlebnjbgeaa.Hd
namespace Go.Proofs.Ytgiidlebnjbgeaa.Pure
open Go.RowKit Go.Proofs.Ytgiidlebnjbgeaa.TQ Go.Proofs.Ytgiidlebnjbgeaa.PB Go.Proofs.Ytgiidlebnjbgeaa.SM Go.Proofs.Ytgiidlebnjbgeaa.Hd Go.PW.PrintWords Go.PW.PrintLast
theorem specSame_ev (s t : ByteArray) (hs : s.size ≤ 1048576) (ht : t.size ≤ 1048576) : Evs (fun k => spec_TermSame.f k s t) (termSameF s t) := by
 have h1 : spec_TermPerm.f s = some (zar s) := by unfold spec_TermPerm.f; rw [if_pos hs]
 have h2 : spec_TermPerm.f t = some (zar t) := by unfold spec_TermPerm.f; rw [if_pos ht]
 have hl := termPermF_lenT s
 unfold termSameF
 generalize zar s = a at *
 generalize zar t = b at *
 obtain ⟨a, x⟩ := a
 obtain ⟨b, y⟩ := b
 dsimp only at hl
 refine Evs.bindS h1 (Evs.bindS h2 ?_)
 cases x with
 | false => exact Evs.neg (by simp) (Evs.const _)
 | true =>
  cases y with
  | false => exact Evs.pos rfl (Evs.neg (by simp) (Evs.const _))
  | true => exact Evs.pos rfl (Evs.pos rfl (Evs.bind (l5Equal_ev a b (by omega)) (Evs.const _)))
theorem implSame_ev (s t : ByteArray) (hs : s.size ≤ 1048576) (ht : t.size ≤ 1048576) : Evs (fun k => impl_TermSame.f k s t) (termSameF s t) := by
 have h1 : impl_TermPerm.f s = some (zar s) := by unfold impl_TermPerm.f; rw [if_pos hs]
 have h2 : impl_TermPerm.f t = some (zar t) := by unfold impl_TermPerm.f; rw [if_pos ht]
 have hl := termPermF_lenT s
 unfold termSameF
 generalize zar s = a at *
 generalize zar t = b at *
 obtain ⟨a, x⟩ := a
 obtain ⟨b, y⟩ := b
 dsimp only at hl
 refine Evs.bindS h1 (Evs.bindS h2 ?_)
 cases x with
 | false => exact Evs.neg (by simp) (Evs.const _)
 | true =>
  cases y with
  | false => exact Evs.pos rfl (Evs.neg (by simp) (Evs.const _))
  | true => exact Evs.pos rfl (Evs.pos rfl (Evs.bind (equalT_ev a b (by omega)) (Evs.const _)))
theorem FnExactTermSame : laws_FnExactTermSame.Pure := by
 intro a0 a1 h0 h1
 by_cases big : (a0.size : Int) > 1048576
 ·exact ⟨0, by unfold laws_FnExactTermSame.f; rw [if_pos big]⟩
 ·by_cases big1 : (a1.size : Int) > 1048576
  ·exact ⟨0, by unfold laws_FnExactTermSame.f; rw [if_neg big, if_pos big1]⟩
  ·apply Evs.ex
   refine Evs.neg big (Evs.neg big1 (Evs.bind (specSame_ev a0 a1 (by omega) (by omega)) (Evs.bind (implSame_ev a0 a1 (by omega) (by omega)) (Evs.neg (by simp) (Evs.const _)))))
end Go.Proofs.Ytgiidlebnjbgeaa.Pure
