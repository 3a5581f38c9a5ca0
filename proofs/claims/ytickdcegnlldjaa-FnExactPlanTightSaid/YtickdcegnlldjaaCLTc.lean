/- Part 3 of the proof of FnExactPlanTight: what the program's functions and the reference's compute. -/
import Derived.Lib.SliceRun
import Derived.Test.YtickdcegnlldjaaProg
import Derived.Below
import Derived.Deep.Draws
import Derived.Deep.AppendLies
import Derived.Maps.AppendAt
import Derived.OwnWalk
import Derived.Laws.BytesArg
import Derived.Laws.MakeOwn
import Derived.Laws.OwnMore
import Derived.Deep.OwnRows
import Derived.Tactics
import Derived.Lib.ConvBytes
import Derived.Laws.Slices
import Derived.WalkKit
import Derived.KernelRfl
import Derived.RowKit3
import Derived.Deep.LoopGhost
import Derived.Deep.QuietTactic
import Derived.BigQuiet
import Derived.WideLaws
import Derived.Deep.DeepCutAuto
import Derived.Deep.CutBlock
import Derived.Deep.RegionHeld3
import Derived.Laws.Rows
import Derived.Lib.AppendStr
import Derived.ArgAppend
import Derived.Laws.IdiomCopy
import Derived.OrdersHeld
import Derived.Laws.BitsLemmas
import Derived.RowKit
import Derived.Test.YtickdcegnlldjaaWWords
import Derived.Test.YtickdcegnlldjaaWLast
import Derived.Test.YtickdcegnlldjaaWApart
import Derived.Test.YtickdcegnlldjaaWFoot
import Derived.Test.YtickdcegnlldjaaWKept
import Derived.Test.YtickdcegnlldjaaWShare
import Derived.Test.YtickdcegnlldjaaWN
import Derived.Test.YtickdcegnlldjaaWRepsOne
import Derived.Test.YtickdcegnlldjaaWMore
import Derived.Test.YtickdcegnlldjaaCLTb
set_option linter.unusedSimpArgs false
set_option linter.unusedVariables false
namespace Go.Proofs.Ytickdcegnlldjaa.Hd
open Go.RowKit Go.Proofs.YtickdcegnlldjaaW.PrintWords Go.Proofs.YtickdcegnlldjaaW.PrintLast Go.Proofs.YtickdcegnlldjaaW.PrintMore Go.Proofs.Ytickdcegnlldjaa.PB
def okLetter (x : Int) : Bool := !(decide (x < 97) || decide (122 < x))
def okText (s : ByteArray) : Bool := (bytesOf s).all okLetter
def numsOf (p : List ByteArray) : List (List Int) := p.map bytesOf
def readF (p : List ByteArray) : Option (List (List Int) × List Rc × Bool) := if p.all okText = true then settledF (numsOf p) else none
def smallP (p : List ByteArray) : Prop := p.length ≤ 1048576 ∧ ∀ s ∈ p, s.size ≤ 1048576
theorem bytesOf_get (s : ByteArray) (j : Nat) : (bytesOf s).getD j 0 = bt s (j : Int) := by
 have := rd_bytesOf s (j : Int)
 unfold rd at this
 simpa using this
theorem bytesOf_range (s : ByteArray) : ∀ x ∈ bytesOf s, 0 ≤ x ∧ x ≤ 255 := by
 intro x hx
 unfold bytesOf at hx
 simp at hx
 obtain ⟨a, _, rfl⟩ := hx
 have := UInt8.toNat_lt a
 omega
theorem take_snoc_int (l : List Int) (j : Nat) (hj : j < l.length) : l.take (j + 1) = l.take j ++ [l.getD j 0] := by
 rw [List.take_add_one, List.getElem?_eq_getElem hj]
 simp [List.getD_eq_getElem?_getD, List.getElem?_eq_getElem hj]
set_option maxHeartbeats 4000000 in
set_option maxRecDepth 100000 in
theorem read_calls (A0 : Option Addr) (c0 : Nat) (l0 : List ByteArray) (w : World) (hr0 : Kd.C Kd.string w A0 l0.length l0) (hc0 : l0.length ≤ c0) (hp : smallP l0) :
  Calls Try.prog 90 #[.slice A0 l0.length c0] w (FloorRes w (readF l0)) := by
 have HR := Aside0.mk hr0
 have HP := Aside0.mk hp
 have hlen := hp.1
 have b1 : (l0.length : Int) ≤ 1048576 := by omega
 have b0 : (0 : Int) ≤ l0.length := by omega
 clear hr0 hc0 hp
 have i53 : (Try.prog.info? 24).map (fun i => (i.zero, i.size, i.bytes)) = some (some (.slice none 0 0), 1, 24) := by kernel_rfl
 have i3 : (Try.prog.info? 3).map (fun i => (i.zero, i.size, i.bytes)) = some (some (.int .i64 0), 1, 8) := by kernel_rfl
 have I53 := Aside0.mk i53
 have I3 := Aside0.mk i3
 clear i53 i3
 go_enter Try.func90, Try.ntmps90
 go_wp2_with (first
  | ((with_reducible refine gate_dst (N := 10) rfl ?_); refine Kd.R_lit (Kd.slice 3 (Kd.int .i64)) _ 24 ?hg (N := 10) ?hd (xs := ([] : List (List Int))) (inner := []) (ok := fun _ => True) (okp := fun _ => True) ?hr ?hp (fun _ hk => hk) trivial (Below.refl _ _) (Nat.le_refl _) (by simp) ?_; (case hd => rfl); (case hg => rfl); (case hr => first | (go_simp; done) | (go_simp; rfl)); (case hp => exact (Reps.none _ _)); intro v4 w1 ho hb hg_ hnew_; clear hg_ hnew_; have HO1 := Aside0.mk ho; have HB1 := Aside0.mk hb; clear hb ho))
 go_loopg [4, 13] l0.length (fun kq v4 v13 w' => ∃ i : Nat, v13 = .int .i64 (i : Int) ∧ Aside0 (i + kq = l0.length) ∧ Aside0 ((l0.take i).all okText = true) ∧ Aside0 (Kd.R (Kd.slice 3 (Kd.int .i64)) 24 w' w.heap.size (fun _ => True) v4 (numsOf (l0.take i))) ∧ Aside0 (Below w.heap.size w w'))
 case atStart => exact ⟨0, rfl, ⟨by omega⟩, ⟨by simp⟩, ⟨by simpa [numsOf] using HO1.out⟩, HB1⟩
 case round =>
  clear HO1 HB1
  obtain ⟨i, rfl, HK, HAll, HO, HB⟩ := hrel
  by_cases hi : i < l0.length
  ·have hlt : (i : Int) < l0.length := by omega
   have hi0 : (0 : Int) ≤ i := by omega
   obtain ⟨ad, e1, hx⟩ := Kd.at_string HR.out (i : Int) hi0 hlt
   cases e1
   rw [Int.toNat_natCast] at hx
   replace hx := pw_cell_below HB.out hx
   have hsz := HP.out.2 _ (List.getElem_mem hi)
   have hel : rdOf ByteArray.empty l0 (i : Int) = l0[i] := by unfold rdOf; rw [Int.toNat_natCast, List.getD_eq_getElem?_getD, List.getElem?_eq_getElem hi]; rfl
   rw [hel] at hx
   have hgt : l0[i]? = some l0[i] := List.getElem?_eq_getElem hi
   generalize l0[i] = s at *
   have HGT := Aside0.mk hgt
   clear hel hgt
   have b2 : (s.size : Int) ≤ 1048576 := by omega
   have hbl := bytesOf_length s
   go_wp2_with (first
    | ((with_reducible refine gate_dst (N := 17) rfl ?_); refine Kd.R_lit (Kd.int .i64) _ 3 ?hg (N := 17) ?hd (xs := ([] : List Int)) (inner := []) (ok := fun _ => True) (okp := fun _ => True) ?hr ?hp (fun _ hk => hk) trivial (Below.refl _ _) (Nat.le_refl _) (by simp) ?_; (case hd => rfl); (case hg => rfl); (case hr => first | (go_simp; done) | (go_simp; rfl)); (case hp => exact (Reps.none _ _)); intro v7 w2 ho hb hg_ hnew_; clear hg_ hnew_; have n0_ := Aside0.mk (Kd.R_elder' HO.out (Kd.R_base ho) hb); have n2_ := Aside0.mk (Kd.R_lower (Kd.R_new' ho (Kd.R_lt HO.out)) (below_size HB.out)); have n3_ := Aside0.mk (below_step HB.out hb); clear HO HB; have HO := n0_; have HO7 := n2_; have HB := n3_; clear n0_ n2_ n3_; clear hb ho)
    | ((with_reducible refine gate_dst (N := 19) rfl ?_); refine conv_event (P := Try.prog) rfl (N := 19) rfl (src := 9) (dst := 32) (e := 5) (s := s) rfl rfl Try.underlying9 Try.underlying32 Try.underlying5 ?_; intro g4 c4 w4 hg4 hrow hb; have HRow := Aside0.mk hrow; have HN7 := Aside0.mk (show some g4 ≠ v7.ownBlock from Kd.fresh' (Kd.R_lt HO7.out) g4 (by rw [hg4]; exact Nat.le_refl _)); have n1_ := Aside0.mk (below_step HB.out hb); have n2_ := Aside0.mk (Kd.R_below HO.out hb); have n3_ := Aside0.mk (Kd.R_below HO7.out hb); clear HB HO HO7; have HB := n1_; have HO := n2_; have HO7 := n3_; clear n1_ n2_ n3_; clear hb hrow hg4))
   go_loopg [7, 21] s.size (fun kq v7 v21 w' => ∃ j : Nat, v21 = .int .i64 (j : Int) ∧ Aside0 (j + kq = s.size) ∧ Aside0 (((bytesOf s).take j).all okLetter = true) ∧ Aside0 (Kd.R (Kd.slice 3 (Kd.int .i64)) 24 w' w.heap.size (fun k_ => some k_ ≠ (v7 : Value).ownBlock) u4 (numsOf (l0.take i))) ∧ Aside0 (Kd.R (Kd.int .i64) 3 w' w.heap.size (fun k_ => some k_ ≠ (u4 : Value).ownBlock) v7 ((bytesOf s).take j)) ∧ Aside0 (some g4 ≠ (v7 : Value).ownBlock) ∧ Aside0 (w'.heap[g4]? = w4.heap[g4]?) ∧ Aside0 (g4 < w'.heap.size) ∧ Aside0 (Below w.heap.size w w'))
   case atStart => exact ⟨0, rfl, ⟨by omega⟩, ⟨by simp⟩, ⟨Kd.R_mono HO.out (fun _ hk => hk.2)⟩, ⟨by simpa using Kd.R_mono HO7.out (fun _ hk => hk.2)⟩, HN7, ⟨rfl⟩, ⟨HRow.out.lt⟩, HB⟩
   case round =>
    clear HO HO7 HN7 HB
    obtain ⟨j, rfl, HK2, HAll2, HO, HO7, HN7, HM, HLt, HB⟩ := hrel
    by_cases hj : j < s.size
    ·have hlt2 : (j : Int) < s.size := by omega
     have hj0 : (0 : Int) ≤ j := by omega
     have hjb : (j : Int) ≤ 1048576 := by omega
     have hx4 := ((HRow.out.move HM.out).cell j (by rw [hbl]; omega)).1
     have hrg := bytesOf_range s ((bytesOf s).getD j 0) (by rw [List.getD_eq_getElem?_getD, List.getElem?_eq_getElem (by omega)]; exact List.getElem_mem _)
     have HT := Aside0.mk (take_snoc_int (bytesOf s) j (by omega))
     have hgm : (bytesOf s).getD j 0 ∈ bytesOf s := by rw [List.getD_eq_getElem?_getD, List.getElem?_eq_getElem (by omega)]; exact List.getElem_mem _
     have HGM := Aside0.mk hgm
     generalize (bytesOf s).getD j 0 = x at *
     obtain ⟨hx0, hx255⟩ := hrg
     clear hgm
     by_cases hlo : x < 97
     ·have d1 : decide (x < 97) = true := decide_eq_true hlo
      clear hlo
      go_wp2
      go_ret2
      have hbad : readF l0 = none := by
       unfold readF
       rw [if_neg]
       intro hall
       have h1 := List.all_eq_true.1 hall s (List.mem_of_getElem? HGT.out)
       have h2 := List.all_eq_true.1 h1 x HGM.out
       simp [okLetter, d1] at h2
      rw [hbad]
      exact ⟨HB.out, rfl⟩
     ·have d1 : decide (x < 97) = false := decide_eq_false hlo
      by_cases hhi : 122 < x
      ·have d2 : decide (122 < x) = true := decide_eq_true hhi
       clear hlo hhi
       go_wp2
       go_ret2
       have hbad : readF l0 = none := by
        unfold readF
        rw [if_neg]
        intro hall
        have h1 := List.all_eq_true.1 hall s (List.mem_of_getElem? HGT.out)
        have h2 := List.all_eq_true.1 h1 x HGM.out
        simp [okLetter, d2] at h2
       rw [hbad]
       exact ⟨HB.out, rfl⟩
      ·have d2 : decide (122 < x) = false := decide_eq_false hhi
       clear hlo hhi
       have LL : ((bytesOf s).take j).length ≤ 1048576 := by simp; omega
       go_wp2_with (first
        | ((with_reducible refine gate_builtin (b := .append) (xs := #[.tmp 31, .tmp 34]) rfl ?_); at_builtin; refine Kd.R_append (Kd.int .i64) (w0 := w) w.heap.size rfl (.tmp 31) (.tmp 34) 24 3 (.int .i64 0) 8 rfl Try.underlying24 I3.out rfl (by decide) (by omega) _ ((bytesOf s).take j) x [.int .i64 x] (fun k_ => some k_ ≠ (u4 : Value).ownBlock) (fun _ => False) rfl rfl ?aP (fun _ hk => hk.elim) ?aF ?aO ?aB ?aS ?aL ?_; (case aP => exact rfl); (case aB => exact HB.out); (case aF => exact (fun k_ hk => Kd.fresh' (Kd.R_lt HO.out) k_ hk)); (case aO => exact HO7.out); (case aS => exact (below_size HB.out)); (case aL => omega); intro v7b w6 ho hb hg hat; have n0_ := Aside0.mk (Kd.R_after (ok := (fun _ => True)) (Kd.R_mono HO.out (fun _ hk => ⟨trivial, hk⟩)) hg hat); have n1_ := Aside0.mk ho; have n2_ := Aside0.mk hb; have n3_ := Aside0.mk ((hg.block g4 HLt.out HN7.out).trans HM.out); have n4_ := Aside0.mk (show g4 < w6.heap.size from (Array.getElem?_eq_some_iff.1 (n3_.out.trans HRow.out.choose_spec.2.1)).1); have n5_ := Aside0.mk (show some g4 ≠ v7b.ownBlock from by (rcases hat with he | ⟨b_, he, hle⟩ <;> rw [he]; exact HN7.out; (intro hz; injection hz with hz; have := HLt.out; omega))); clear HO HO7 HB HM HLt HN7; have HO := n0_; have HO7 := n1_; have HB := n2_; have HM := n3_; have HLt := n4_; have HN7 := n5_; clear n0_ n1_ n2_ n3_ n4_ n5_; clear ho hb hg hat))
       have hok : okLetter x = true := by simp [okLetter, d1, d2]
       go_roundg (s.size - (j + 1))
       case measure => have := HK2.out; omega
       case rel => exact ⟨j + 1, by first | rfl | (congr 1; omega), ⟨by have := HK2.out; omega⟩, ⟨by rw [HT.out, List.all_append, HAll2.out]; simp [hok]⟩, ⟨Kd.R_mono HO.out (fun _ hk => hk.2)⟩, ⟨by rw [HT.out]; exact HO7.out⟩, HN7, HM, HLt, HB⟩
    ·have hge2 : ¬ ((j : Int) < s.size) := by omega
     obtain rfl : j = s.size := by have := HK2.out; omega
     rw [List.take_of_length_le (by omega)] at HAll2 HO7
     have LL : (numsOf (l0.take i)).length ≤ 1048576 := by simp [numsOf]; omega
     obtain ⟨A7, c7, e7⟩ := Kd.R_slice HO7.out
     rw [hbl] at e7
     subst e7
     go_wp2_with (first
      | ((with_reducible refine gate_builtin (b := .append) (xs := #[.tmp 37, .tmp 39]) rfl ?_); at_builtin; refine Kd.R_append (Kd.slice 3 (Kd.int .i64)) (w0 := w) w.heap.size rfl (.tmp 37) (.tmp 39) 55 24 (.slice none 0 0) 24 rfl Try.underlying55 I53.out rfl (by decide) (by omega) u4 (numsOf (l0.take i)) (bytesOf s) [.slice A7 s.size c7] (fun _ => True) (fun k_ => some k_ = (Value.slice A7 s.size c7).ownBlock) rfl rfl ?aP ?aK (fun _ _ => trivial) ?aO ?aB ?aS ?aL ?_; (case aP => exact ⟨_, rfl, Kd.R_tight rfl HO7.out⟩); (case aK => exact fun k_ hk => ⟨trivial, HO7.out.1 k_ hk.symm⟩); (case aB => exact HB.out); (case aO => exact Kd.R_mono HO.out (fun _ _ => trivial)); (case aS => exact (below_size HB.out)); (case aL => omega); intro v4b w6 ho hb hg hat; have n1_ := Aside0.mk ho; have n2_ := Aside0.mk hb; clear HO HO7 HB HM HLt HN7; have HO := n1_; have HB := n2_; clear n1_ n2_; clear ho hb hg hat))
     have HT := Aside0.mk (show l0.take (i + 1) = l0.take i ++ [s] by rw [List.take_add_one, HGT.out]; rfl)
     go_roundg (l0.length - (i + 1))
     case measure => have := HK.out; omega
     case rel => exact ⟨i + 1, by first | rfl | (congr 1; omega), ⟨by have := HK.out; omega⟩, ⟨by rw [HT.out, List.all_append, HAll.out]; simp [okText, HAll2.out]⟩, ⟨by rw [HT.out]; simpa [numsOf] using HO.out⟩, HB⟩
  ·have hge : ¬ ((i : Int) < l0.length) := by omega
   obtain rfl : i = l0.length := by have := HK.out; omega
   rw [List.take_length] at HAll HO
   have hre : readF l0 = settledF (numsOf l0) := by unfold readF; rw [if_pos HAll.out]
   have HRE := Aside0.mk hre
   obtain ⟨A4, c4, e4, hl4, hC4⟩ := Kd.R_reads HO.out
   subst e4
   have HC4 := Aside0.mk hC4
   have HV4 := Aside0.mk (show ∀ r ∈ numsOf l0, ∀ x ∈ r, 0 ≤ x ∧ x ≤ 1048576 from fun r hr x hx => by
    unfold numsOf at hr
    simp at hr
    obtain ⟨s, _, rfl⟩ := hr
    have := bytesOf_range s x hx
    omega)
   clear hC4 hl4 hre
   generalize hS : settledF (numsOf l0) = res
   have HS := Aside0.mk hS
   clear hS
   rcases res with _ | ⟨cs, rs, b⟩
   ·go_wp2_with (first
     | (go_at_call 108; refine (settled_calls A4 c4 (numsOf l0) _ HC4.out HV4.out).mono ?_; rw [HS.out]; rintro e w8 ⟨hb8, rfl⟩; have HB8 := Aside0.mk (below_step HB.out hb8); clear hb8))
    go_ret2
    rw [HRE.out, HS.out]
    exact ⟨HB8.out, rfl⟩
   ·go_wp2_with (first
     | (go_at_call 108; refine (settled_calls A4 c4 (numsOf l0) _ HC4.out HV4.out).mono ?_; rw [HS.out]; rintro e w8 ⟨hb8, g, rfl, hfl⟩; have HB8 := Aside0.mk (below_step HB.out hb8); have HFl := Aside0.mk hfl; clear hb8 hfl))
    go_ret2
    rw [HRE.out, HS.out]
    exact ⟨HB8.out, g, rfl, HFl.out⟩
theorem rdOf_get (l : List ByteArray) (i : Nat) (h : i < l.length) : rdOf ByteArray.empty l (i : Int) = l[i] := by
 unfold rdOf; rw [Int.toNat_natCast, List.getD_eq_getElem?_getD, List.getElem?_eq_getElem h]; rfl
theorem toList_inj {a b : ByteArray} : a.toList = b.toList ↔ a = b := by
 rw [ByteArray.toList_eq, ByteArray.toList_eq]
 constructor
 ·intro h
  have h2 := Array.toList_inj.1 h
  cases a; cases b
  simp at h2
  rw [h2]
 ·rintro rfl; rfl
theorem wrap64_small {x : Int} (h0 : -9223372036854775808 ≤ x) (h1 : x ≤ 9223372036854775807) : wrap64 x = x := by unfold wrap64; omega
theorem equalS_loop (l0 l1 : List ByteArray) (hl : l0.length = l1.length) (hb : l0.length ≤ 1048576) : ∀ m i, i + m = l0.length → l0.take i = l1.take i → slices_Equal_string_string.l0 (m + 1) l0 l1 (l0.length : Int) (i : Int) = some (decide (l0 = l1))
 | 0, i, h, ht => by
  unfold slices_Equal_string_string.l0
  rw [if_neg (by omega)]
  have e : l0 = l1 := by
   rw [show i = l0.length by omega, List.take_length, hl, List.take_length] at ht
   exact ht
  simp [e]
 | m + 1, i, h, ht => by
  unfold slices_Equal_string_string.l0
  rw [if_pos (by omega), if_pos (by omega), if_pos (by omega), if_pos (by omega), rdOf_get l0 i (by omega), rdOf_get l1 i (by omega), wrap64_small (by omega) (by omega)]
  by_cases he : l0[i] = l1[i]
  ·rw [if_pos (toList_inj.2 he)]
   have := equalS_loop l0 l1 hl hb m (i + 1) (by omega) (by
    rw [List.take_add_one, List.take_add_one, ht, List.getElem?_eq_getElem (by omega), List.getElem?_eq_getElem (by omega), he])
   simpa using this
  ·rw [if_neg (fun h => he (toList_inj.1 h))]
   have : l0 ≠ l1 := by rintro rfl; exact he rfl
   simp [this]
theorem equalS_f (l0 l1 : List ByteArray) (hb : l0.length ≤ 1048576) : ∃ k, slices_Equal_string_string.f k l0 l1 = some (decide (l0 = l1)) := by
 unfold slices_Equal_string_string.f
 by_cases h : l0.length = l1.length
 ·refine ⟨l0.length + 1, ?_⟩
  rw [if_pos (by omega)]
  have := equalS_loop l0 l1 h hb l0.length 0 (by omega) (by simp)
  simpa using this
 ·refine ⟨0, ?_⟩
  rw [if_neg (by omega)]
  have : l0 ≠ l1 := by rintro rfl; exact h rfl
  simp [this]
theorem stepS_mem (st : List Int × List Rc) (r c : Nat) (x : Int) : x ∈ (stepS st r c x).1 := by
 unfold stepS
 split
 ·assumption
 ·simp
theorem stepS_prefix (st : List Int × List Rc) (r c : Nat) (x : Int) : st.1 <+: (stepS st r c x).1 := by
 unfold stepS
 split
 ·exact List.prefix_refl _
 ·exact List.prefix_append _ _
theorem stAt_prefix (rows : List (List Int)) (wi : Nat) (n : Nat) : ∀ m, (stAt rows wi n).1 <+: (stAt rows wi (n + m)).1
 | 0 => List.prefix_refl _
 | m + 1 => (stAt_prefix rows wi n m).trans (stepS_prefix _ _ _ _)
theorem stAt_mem (rows : List (List Int)) (wi : Nat) (r c : Nat) (hc : c < wi) : valAt rows r c ∈ (stAt rows wi (r * wi + c + 1)).1 := by
 show valAt rows r c ∈ (stepS (stAt rows wi (r * wi + c)) ((r * wi + c) / wi) ((r * wi + c) % wi) (valAt rows ((r * wi + c) / wi) ((r * wi + c) % wi))).1
 have h1 : (r * wi + c) / wi = r := by
  rw [Nat.mul_comm, Nat.mul_add_div (by omega), Nat.div_eq_of_lt hc, Nat.add_zero]
 have h2 : (r * wi + c) % wi = c := by
  rw [Nat.mul_comm, Nat.mul_add_mod, Nat.mod_eq_of_lt hc]
 rw [h1, h2]
 exact stepS_mem _ _ _ _
theorem numAt_lt (rows : List (List Int)) (hi wi : Nat) (r c : Nat) (hr : r < hi) (hc : c < wi) : 0 ≤ numAt rows wi r c ∧ numAt rows wi r c < ((stAt rows wi (hi * wi)).2.length : Int) := by
 unfold numAt
 have h1 := stAt_mem rows wi r c hc
 have h2 := List.idxOf_lt_length_of_mem h1
 have hle : r * wi + c + 1 ≤ hi * wi := by
  have : (r + 1) * wi ≤ hi * wi := Nat.mul_le_mul_right _ hr
  rw [Nat.succ_mul] at this
  omega
 have h3 := (stAt_prefix rows wi (r * wi + c + 1) (hi * wi - (r * wi + c + 1))).length_le
 rw [show r * wi + c + 1 + (hi * wi - (r * wi + c + 1)) = hi * wi by omega] at h3
 have h4 := (stAt_inv rows hi wi (hi * wi) (Nat.le_refl _)).1
 omega
structure Cells (hi wi n : Nat) (cs : List (List Int)) : Prop where
 len : cs.length = hi
 row : ∀ r ∈ cs, r.length = wi
 val : ∀ r ∈ cs, ∀ x ∈ r, 0 ≤ x ∧ x < n
theorem shapeOk_iff (rows : List (List Int)) : shapeOk rows = true ↔ (1 ≤ rows.length ∧ rows.length ≤ 6 ∧ 1 ≤ wideOf rows ∧ wideOf rows ≤ 6 ∧ ∀ r ∈ rows, r.length = wideOf rows) := by
 unfold shapeOk
 simp only [Bool.and_eq_true, decide_eq_true_eq, Bool.not_eq_true', List.any_eq_false, bne_iff_ne, ne_eq, Decidable.not_not, and_assoc]
theorem settledF_some {rows cs : List (List Int)} {rs : List Rc} {b : Bool} (h : settledF rows = some (cs, rs, b)) : shapeOk rows = true ∧ cs = cellsOf rows ∧ rs = roomsOf rows ∧ rs.length ≤ 9 ∧ b = decide (sumArea rs = (rows.length : Int) * (wideOf rows : Int)) ∧ Cells rows.length (wideOf rows) rs.length cs ∧ ∀ a ∈ rs, boundR a rows.length (wideOf rows) := by
 unfold settledF at h
 split at h
 ·rename_i h1
  split at h
  ·rename_i h2
   injection h with h
   injection h with e1 h
   injection h with e2 e3
   subst e1 e2 e3
   refine ⟨h1, rfl, rfl, h2, rfl, ⟨cellsOf_length rows, fun r hr => ?_, fun r hr x hx => ?_⟩, (stAt_inv rows rows.length (wideOf rows) _ (Nat.le_refl _)).2.2.2⟩
   ·unfold cellsOf gridOf at hr
    simp at hr
    obtain ⟨a, _, rfl⟩ := hr
    simp
   ·unfold cellsOf gridOf at hr
    simp at hr
    obtain ⟨a, ha, rfl⟩ := hr
    simp at hx
    obtain ⟨c, hc, rfl⟩ := hx
    exact numAt_lt rows rows.length (wideOf rows) a c ha hc
  ·cases h
 ·cases h
theorem textOf_length (cs : List (List Int)) : (textOf cs).length = cs.length := by simp [textOf]
def smallB (p : List ByteArray) : Bool := decide (p.length ≤ 1048576) && p.all fun s => decide (s.size ≤ 1048576)
theorem smallB_iff (p : List ByteArray) : smallB p = true ↔ smallP p := by
 unfold smallB smallP
 rw [Bool.and_eq_true, decide_eq_true_eq, List.all_eq_true]
 simp only [decide_eq_true_eq]
def floorF (p : List ByteArray) : Option (List (List Int) × List Rc) := (readF p).bind fun t => if t.2.2 = true ∧ textOf t.1 = p then some (t.1, t.2.1) else none
theorem readF_some {p : List ByteArray} {t} (h : readF p = some t) : settledF (numsOf p) = some t := by
 unfold readF at h
 split at h
 ·exact h
 ·cases h
def FloorOfRes (w : World) (r : Option (List (List Int) × List Rc)) (e : Ending) (w' : World) : Prop :=
 Below w.heap.size w w' ∧ ∃ (v : Option Addr) (b : Bool), e = .returned (.tuple #[.pointer v, .bool b]) ∧ match r with
  | none => b = false
  | some (cs, rs) => b = true ∧ ∃ g, v = some ⟨g, 0, none⟩ ∧ FloorAt w' g cs rs
set_option maxHeartbeats 4000000 in
set_option maxRecDepth 100000 in
theorem floorOf_calls (A0 : Option Addr) (c0 : Nat) (l0 : List ByteArray) (w : World) (hr0 : Kd.C Kd.string w A0 l0.length l0) (hc0 : l0.length ≤ c0) (hp : smallP l0) :
  Calls Try.prog 49 #[.slice A0 l0.length c0] w (FloorOfRes w (floorF l0)) := by
 have HR := Aside0.mk hr0
 have HC := Aside0.mk hc0
 have HP := Aside0.mk hp
 clear hr0 hc0 hp
 generalize hF : floorF l0 = res
 have HF := Aside0.mk hF
 clear hF
 generalize hS : readF l0 = t
 have HS := Aside0.mk hS
 clear hS
 rcases t with _ | ⟨cs, rs, b⟩
 ·have e : res = none := by rw [← HF.out]; unfold floorF; rw [HS.out]; rfl
  subst e
  go_enter Try.func49, Try.ntmps49
  go_wp2_with (first
   | (go_at_call 90; refine (read_calls A0 c0 l0 _ HR.out HC.out HP.out).mono ?_; rw [HS.out]; rintro e w8 ⟨hb8, rfl⟩; have HB8 := Aside0.mk hb8; clear hb8))
  go_ret2
  exact ⟨HB8.out, none, false, rfl, rfl⟩
 ·obtain ⟨q1, q2, q3, q4, q5, q6, q7⟩ := settledF_some (readF_some HS.out)
  have HCl := Aside0.mk q6
  clear q2 q3 q5 q6 q7
  have hsh := (shapeOk_iff _).1 q1
  have HSh := Aside0.mk hsh
  clear q1 hsh
  cases b
  ·have e : res = none := by rw [← HF.out]; unfold floorF; rw [HS.out]; simp
   subst e
   go_enter Try.func49, Try.ntmps49
   go_wp2_with (first
    | (go_at_call 90; refine (read_calls A0 c0 l0 _ HR.out HC.out HP.out).mono ?_; rw [HS.out]; rintro e w8 ⟨hb8, g, rfl, hfl⟩; have HB8 := Aside0.mk hb8; clear hb8 hfl))
   go_ret2
   exact ⟨HB8.out, some ⟨g, 0, none⟩, false, rfl, rfl⟩
  ·have HT := Aside0.mk (equalS_f (textOf cs) l0 (by rw [textOf_length, HCl.out.len]; have := HSh.out; omega))
   obtain ⟨k, hk⟩ := HT.out
   have HK := Aside0.mk hk
   clear hk
   have HVal := Aside0.mk (show ∀ r ∈ cs, r.length ≤ 1048576 ∧ ∀ x ∈ r, 0 ≤ x ∧ x ≤ 25 from fun r hr => ⟨by rw [HCl.out.row r hr]; have := HSh.out; omega, fun x hx => by have := HCl.out.val r hr x hx; omega⟩)
   have HLn := Aside0.mk (show cs.length ≤ 1048576 from by rw [HCl.out.len]; have := HSh.out; omega)
   go_enter Try.func49, Try.ntmps49
   go_wp2_with (first
    | (go_at_call 90; refine (read_calls A0 c0 l0 _ HR.out HC.out HP.out).mono ?_; rw [HS.out]; rintro e w8 ⟨hb8, g, rfl, hfl⟩; have HB8 := Aside0.mk hb8; have HFl := Aside0.mk hfl; clear hb8 hfl)
    | (go_at_call 92; refine (text_calls g cs rs _ HFl.out HLn.out HVal.out).mono ?_; rintro e w9 ⟨v9, rfl, hr9, hb9⟩; have HB9 := Aside0.mk (below_step HB8.out hb9); have HFl9 := Aside0.mk (HFl.out.below hb9); obtain ⟨A9, c9, e9, hl9, hC9⟩ := Kd.R_reads hr9; subst e9; have HC9 := Aside0.mk hC9; have HL9 := Aside0.mk hl9; clear hb9 hr9 hC9 hl9)
    | (go_at_call 91; refine (slices_Equal_string_string.calls k A9 c9 (textOf cs) A0 c0 l0 _ _ HC9.out HL9.out (Kd.C_below HR.out HB9.out) HC.out HK.out).mono ?_; rintro e w10 ⟨rfl, hd10⟩; have HB10 := Aside0.mk (below_step HB9.out hd10.below); have HFl10 := Aside0.mk (HFl9.out.below hd10.below); clear hd10))
   go_ret2
   have hre : floorF l0 = if textOf cs = l0 then some (cs, rs) else none := by unfold floorF; rw [HS.out]; simp
   rw [← HF.out, hre]
   by_cases ht : textOf cs = l0
   ·rw [if_pos ht]
    exact ⟨HB10.out, some ⟨g, 0, none⟩, true, by rw [decide_eq_true ht]; rfl, rfl, g, rfl, HFl10.out⟩
   ·rw [if_neg ht]
    exact ⟨HB10.out, some ⟨g, 0, none⟩, false, by rw [decide_eq_false ht]; rfl, rfl⟩
def planF (rows : List (List Int)) : List ByteArray × Bool := match settledF rows with
 | some (cs, _, true) => (textOf cs, true)
 | _ => ([], false)
def PlanRes (w : World) (r : List ByteArray × Bool) (e : Ending) (w' : World) : Prop :=
 ∃ v0_ : Value, e = .returned (.tuple #[v0_, .bool r.2]) ∧ Kd.R Kd.string 9 w' w.heap.size (fun _ => True) v0_ r.1 ∧ Below w.heap.size w w'
set_option maxHeartbeats 4000000 in
set_option maxRecDepth 100000 in
theorem plan_calls (A : Option Addr) (cap : Nat) (rows : List (List Int)) (w : World) (hr : (Kd.slice 3 (Kd.int .i64)).C w A rows.length rows) (hv : ∀ r ∈ rows, ∀ x ∈ r, 0 ≤ x ∧ x ≤ 1048576) :
  Calls Try.prog 98 #[.slice A rows.length cap] w (PlanRes w (planF rows)) := by
 have HR := Aside0.mk hr
 have HV := Aside0.mk hv
 clear hr hv
 generalize hF : planF rows = res
 have HF := Aside0.mk hF
 clear hF
 generalize hS : settledF rows = t
 have HS := Aside0.mk hS
 clear hS
 rcases t with _ | ⟨cs, rs, b⟩
 ·have e : res = ([], false) := by rw [← HF.out]; unfold planF; rw [HS.out]
  subst e
  go_enter Try.func98, Try.ntmps98
  go_wp2_with (first
   | (go_at_call 108; refine (settled_calls A cap rows _ HR.out HV.out).mono ?_; rw [HS.out]; rintro e w8 ⟨hb8, rfl⟩; have HB8 := Aside0.mk hb8; clear hb8))
  go_ret2
  exact ⟨.slice none 0 0, rfl, Kd.R_nil _ _ _ _ _, HB8.out⟩
 ·obtain ⟨q1, q2, q3, q4, q5, q6, q7⟩ := settledF_some HS.out
  have HCl := Aside0.mk q6
  clear q2 q3 q5 q6 q7
  have HSh := Aside0.mk ((shapeOk_iff _).1 q1)
  clear q1
  cases b
  ·have e : res = ([], false) := by rw [← HF.out]; unfold planF; rw [HS.out]
   subst e
   go_enter Try.func98, Try.ntmps98
   go_wp2_with (first
    | (go_at_call 108; refine (settled_calls A cap rows _ HR.out HV.out).mono ?_; rw [HS.out]; rintro e w8 ⟨hb8, g, rfl, hfl⟩; have HB8 := Aside0.mk hb8; clear hb8 hfl))
   go_ret2
   exact ⟨.slice none 0 0, rfl, Kd.R_nil _ _ _ _ _, HB8.out⟩
  ·have e : res = (textOf cs, true) := by rw [← HF.out]; unfold planF; rw [HS.out]
   subst e
   have HVal := Aside0.mk (show ∀ r ∈ cs, r.length ≤ 1048576 ∧ ∀ x ∈ r, 0 ≤ x ∧ x ≤ 25 from fun r hr => ⟨by rw [HCl.out.row r hr]; have := HSh.out; omega, fun x hx => by have := HCl.out.val r hr x hx; omega⟩)
   have HLn := Aside0.mk (show cs.length ≤ 1048576 from by rw [HCl.out.len]; have := HSh.out; omega)
   go_enter Try.func98, Try.ntmps98
   go_wp2_with (first
    | (go_at_call 108; refine (settled_calls A cap rows _ HR.out HV.out).mono ?_; rw [HS.out]; rintro e w8 ⟨hb8, g, rfl, hfl⟩; have HB8 := Aside0.mk hb8; have HFl := Aside0.mk hfl; clear hb8 hfl)
    | (go_at_call 92; refine (text_calls g cs rs _ HFl.out HLn.out HVal.out).mono ?_; rintro e w9 ⟨v9, rfl, hr9, hb9⟩; have HB9 := Aside0.mk (below_step HB8.out hb9); have HO9 := Aside0.mk (Kd.R_lower hr9 HB8.out.size); clear hb9 hr9))
   go_ret2
   exact ⟨v9, rfl, HO9.out, HB9.out⟩
def Sees (w W : World) : Prop := w.heap.size ≤ W.heap.size ∧ ∀ k, k < w.heap.size → W.heap[k]? = w.heap[k]?
def likeW (w W : World) : World := { W with os := w.os, tape := w.tape, output := w.output }
theorem Sees.below {w W : World} (h : Sees w W) : Below w.heap.size w (likeW w W) := ⟨rfl, rfl, rfl, h.1, h.2⟩
theorem Sees.of_below {w W : World} (h : Below w.heap.size w W) : Sees w W := ⟨h.size, h.block⟩
theorem Sees.refl (w : World) : Sees w w := ⟨Nat.le_refl _, fun _ _ => rfl⟩
theorem Sees.trans {a b c : World} (h : Sees a b) (k : Sees b c) : Sees a c := ⟨Nat.le_trans h.1 k.1, fun i hi => (k.2 i (Nat.lt_of_lt_of_le hi h.1)).trans (h.2 i hi)⟩
theorem Sees.cell {w W : World} (h : Sees w W) {a : Addr} {v : Value} (hc : w.cell? a = some v) : W.cell? a = some v := pw_cell_below (w1 := likeW w W) h.below hc
theorem Sees.at {w W : World} (h : Sees w W) {k : Nat} {o : Obj} (hc : w.heap[k]? = some o) : W.heap[k]? = some o := (h.2 k (Array.getElem?_eq_some_iff.1 hc).1).trans hc
theorem C_likeW {w W : World} {A : Option Addr} {n : Nat} {xs : List (List Int)} (h : (Kd.slice 3 (Kd.int .i64)).C (likeW w W) A n xs) : (Kd.slice 3 (Kd.int .i64)).C W A n xs := h
theorem Sees.C {w W : World} (h : Sees w W) {A : Option Addr} {n : Nat} {xs : List (List Int)} (hc : (Kd.slice 3 (Kd.int .i64)).C w A n xs) : (Kd.slice 3 (Kd.int .i64)).C W A n xs := C_likeW (Kd.C_below hc h.below)
def ReadFn (P : Program) (f : FuncId) (caps : Array Value) (w : World) (hi wi : Nat) (g : Nat → Nat → Int) : Prop :=
 ∀ (W : World) (r c : Nat), r < hi → c < wi → Sees w W → Calls P f (#[.int .i64 r, .int .i64 c] ++ caps) W fun e W' => e = .returned (.int .i64 (g r c)) ∧ Below W.heap.size W W'
def GridRes (w : World) (r : List (List Int)) (e : Ending) (w' : World) : Prop :=
 ∃ A c, e = .returned (.slice A r.length c) ∧ r.length ≤ c ∧ (Kd.slice 3 (Kd.int .i64)).C w' A r.length r ∧ Below w.heap.size w w'
theorem gridOf_row {hi wi : Nat} {g : Nat → Nat → Int} : ∀ r ∈ gridOf hi wi g, r.length = wi := by
 intro r hr
 unfold gridOf at hr
 simp at hr
 obtain ⟨a, _, rfl⟩ := hr
 simp
theorem readFn_cell {P : Program} {f : FuncId} {caps : Array Value} {w : World} {hi wi : Nat} {g : Nat → Nat → Int} (h : ReadFn P f caps w hi wi g) :
  CellFn P f caps hi wi g (fun _ F W => (∀ k, F k ↔ k < w.heap.size) ∧ Sees w W) := by
 refine ⟨fun n F W W' hI hs hm => ⟨hI.1, Nat.le_trans hI.2.1 hs, fun k hk => (hm k ((hI.1 k).2 hk)).trans (hI.2.2 k hk)⟩, fun n F W k hI hk => Nat.lt_of_lt_of_le ((hI.1 k).1 hk) hI.2.1, ?_⟩
 intro n F W r c hr hc _ hI
 refine (h W r c hr hc hI.2).mono ?_
 rintro e W' ⟨rfl, hb⟩
 exact ⟨rfl, F, ⟨hI.1, hI.2.trans (Sees.of_below hb)⟩, fun k hk => .inl hk, Other.of_below hb⟩
theorem blank_reads (f : FuncId) (fn : Func) (hf : Try.prog.funcs[f]? = some fn) (hname : (fn.name == "runtime.NumGoroutine") = false) (hb : fn.body.isSome = true) (caps : Array Value) (hi wi : Nat) (g : Nat → Nat → Int) (w : World)
  (hC : ReadFn Try.prog f caps w hi wi g) (hhi : hi ≤ 1048576) (hwi : wi ≤ 1048576) :
  Calls Try.prog 75 #[.int .i64 hi, .int .i64 wi, .func (.func f) #[] caps] w (GridRes w (gridOf hi wi g)) := by
 refine (blank_calls f fn hf hname hb caps hi wi g _ (readFn_cell hC) (fun k => k < w.heap.size) w ⟨fun _ => Iff.rfl, Sees.refl w⟩ hhi hwi).mono ?_
 rintro e w' ⟨g0, bs, F', rfl, hM, hfar, ⟨hF, hS⟩, hF', hO⟩
 have hl := gridOf_length hi wi g
 refine ⟨some ⟨g0, 0, none⟩, hi, by rw [hl], by rw [hl]; exact Nat.le_refl _, ?_, ⟨hO.os, hO.tape, hO.output, hS.1, hS.2⟩⟩
 exact hM.reads (by rw [hl]; omega) (fun r hr => by rw [gridOf_row r hr]; omega)
structure FloorOk (cs : List (List Int)) (rs : List Rc) : Prop where
 cells : Cells cs.length (wideOf cs) rs.length cs
 h1 : 1 ≤ cs.length
 h6 : cs.length ≤ 6
 w1 : 1 ≤ wideOf cs
 w6 : wideOf cs ≤ 6
 many : rs.length ≤ 9
 bound : ∀ a ∈ rs, boundR a cs.length (wideOf cs)
theorem wideOf_of {cs : List (List Int)} {hi wi n : Nat} (h : Cells hi wi n cs) (h1 : 1 ≤ hi) : wideOf cs = wi := by
 unfold wideOf
 have hl := h.len
 rw [List.getD_eq_getElem?_getD, List.getElem?_eq_getElem (by omega)]
 exact h.row _ (List.getElem_mem _)
theorem settledF_ok {rows cs : List (List Int)} {rs : List Rc} {b : Bool} (h : settledF rows = some (cs, rs, b)) : FloorOk cs rs := by
 obtain ⟨q1, q2, q3, q4, q5, q6, q7⟩ := settledF_some h
 obtain ⟨s1, s2, s3, s4, s5⟩ := (shapeOk_iff _).1 q1
 have hw := wideOf_of q6 s1
 have hl := q6.len
 exact ⟨by rw [hw, hl]; exact q6, by omega, by omega, by omega, by omega, q4, by rw [hw, hl]; exact q7⟩
theorem floorF_ok {p : List ByteArray} {cs : List (List Int)} {rs : List Rc} (h : floorF p = some (cs, rs)) : FloorOk cs rs := by
 unfold floorF at h
 cases hr : readF p with
 | none => rw [hr] at h; cases h
 | some t =>
  rw [hr] at h
  simp only [Option.bind_some] at h
  split at h
  ·injection h with h
   injection h with e1 e2
   subst e1 e2
   exact settledF_ok (readF_some hr)
  ·cases h
theorem wide_f {cs : List (List Int)} {rs : List Rc} (h : FloorOk cs rs) : impl_floor_wide.f cs rs = some (wideOf cs : Int) := by
 have := h.h1
 unfold impl_floor_wide.f
 rw [if_pos (by omega)]
 rfl
theorem FloorAt.cell {w : World} {g : Nat} {cs : List (List Int)} {rs : List Rc} (hf : FloorAt w g cs rs) (hk : FloorOk cs rs) (r c : Nat) (hr : r < cs.length) (hc : c < wideOf cs) :
  ∃ ad c0 ad2 c2, w.cell? ⟨g, 0, none⟩ = some (.slice (some ad) cs.length c0) ∧ w.cell? (ad.add r) = some (.slice (some ad2) (wideOf cs) c2) ∧ w.cell? (ad2.add c) = some (.int .i64 (valAt cs r c)) := by
 obtain ⟨A0, c0, A1, c1, h1, h2, h3, h4⟩ := hf
 obtain ⟨row, hrow⟩ : ∃ row, cs[r]? = some row := ⟨_, List.getElem?_eq_getElem hr⟩
 obtain ⟨ad, Ai, ci, e1, hx, hl, hrr⟩ := C_row h3 r row hrow
 have hw := hk.cells.row row (List.mem_of_getElem? hrow)
 obtain ⟨ad2, e2, hx2⟩ := C_int_cell hrr c (by omega)
 subst e1 e2
 refine ⟨ad, c0, ad2, ci, (blk_cell h1 0).trans rfl, by rw [hx, hw], ?_⟩
 rw [hx2]
 unfold valAt rd
 rw [List.getD_eq_getElem?_getD, List.getD_eq_getElem?_getD, List.getD_eq_getElem?_getD, hrow, Int.toNat_natCast]
 rfl
theorem valAt_range {cs : List (List Int)} {rs : List Rc} (hk : FloorOk cs rs) (r c : Nat) (hr : r < cs.length) (hc : c < wideOf cs) : 0 ≤ valAt cs r c ∧ valAt cs r c < rs.length := by
 have hm : cs.getD r [] ∈ cs := by rw [List.getD_eq_getElem?_getD, List.getElem?_eq_getElem hr]; exact List.getElem_mem _
 have hw := hk.cells.row _ hm
 refine hk.cells.val _ hm _ ?_
 unfold valAt
 rw [List.getD_eq_getElem?_getD (l := cs.getD r []), List.getElem?_eq_getElem (by omega)]
 exact List.getElem_mem _
theorem FloorAt.rooms {w : World} {g : Nat} {cs : List (List Int)} {rs : List Rc} (hf : FloorAt w g cs rs) : ∃ A c, w.cell? ⟨g, 1, none⟩ = some (.slice A rs.length c) ∧ kRc.C w A rs.length rs := by
 obtain ⟨A0, c0, A1, c1, h1, h2, h3, h4⟩ := hf
 exact ⟨A1, c1, (blk_cell h1 1).trans rfl, h4⟩
theorem box_cell {w : World} {v : Value} {t : TypeId} {g : Nat} (h : w.heap[g]? = some (.cells #[v] t (0, 0))) : w.cell? ⟨g, 0, none⟩ = some v := (blk_cell h 0).trans rfl
section
variable {P : Program} {ops : Array Oper} {Q : Exit → Act → World → Prop}
end
def HowFn (P : Program) (f : FuncId) (caps : Array Value) (w : World) (how : List (List Int) → List Rc → List (List Int)) : Prop :=
 ∀ (W : World) (g : Nat) (cs : List (List Int)) (rs : List Rc), FloorOk cs rs → FloorAt W g cs rs → Sees w W → Calls P f (#[.pointer (some ⟨g, 0, none⟩)] ++ caps) W (GridRes W (how cs rs))
def goodHow (how : List (List Int) → List Rc → List (List Int)) : Prop := ∀ cs rs, FloorOk cs rs → ∀ r ∈ how cs rs, ∀ x ∈ r, 0 ≤ x ∧ x ≤ 1048576
def remadeF (p : List ByteArray) (how : List (List Int) → List Rc → List (List Int)) : List ByteArray × Bool := match floorF p with
 | none => ([], false)
 | some (cs, rs) => planF (how cs rs)
set_option maxHeartbeats 4000000 in
set_option maxRecDepth 100000 in
theorem remade_calls (f : FuncId) (fn : Func) (hf : Try.prog.funcs[f]? = some fn) (hname : (fn.name == "runtime.NumGoroutine") = false) (hb : fn.body.isSome = true) (caps : Array Value) (how : List (List Int) → List Rc → List (List Int)) (hgood : goodHow how)
  (A0 : Option Addr) (c0 : Nat) (l0 : List ByteArray) (w : World) (hr0 : Kd.C Kd.string w A0 l0.length l0) (hc0 : l0.length ≤ c0) (hp : smallP l0) (hh : HowFn Try.prog f caps w how) :
  Calls Try.prog 68 #[.slice A0 l0.length c0, .func (.func f) #[] caps] w (PlanRes w (remadeF l0 how)) := by
 have HR := Aside0.mk hr0
 have HC := Aside0.mk hc0
 have HP := Aside0.mk hp
 have HHow := Aside0.mk hh
 have HFn := Aside0.mk hf
 have HN := Aside0.mk hname
 have HBd := Aside0.mk hb
 have HG := Aside0.mk hgood
 clear hr0 hc0 hp hh hf hname hb hgood
 generalize hM : remadeF l0 how = res
 have HM := Aside0.mk hM
 clear hM
 generalize hF : floorF l0 = t
 have HF := Aside0.mk hF
 clear hF
 rcases t with _ | ⟨cs, rs⟩
 ·have e : res = ([], false) := by rw [← HM.out]; unfold remadeF; rw [HF.out]
  subst e
  go_enter Try.func68, Try.ntmps68
  go_wp2_with (first
   | (go_at_call 49; refine (floorOf_calls A0 c0 l0 _ HR.out HC.out HP.out).mono ?_; rw [HF.out]; rintro e w8 ⟨hb8, v8, b8, rfl, rfl⟩; have HB8 := Aside0.mk hb8; clear hb8))
  go_ret2
  exact ⟨.slice none 0 0, rfl, Kd.R_nil _ _ _ _ _, HB8.out⟩
 ·have e : res = planF (how cs rs) := by rw [← HM.out]; unfold remadeF; rw [HF.out]
  have HE := Aside0.mk e
  have HK := Aside0.mk (floorF_ok HF.out)
  clear e
  go_enter Try.func68, Try.ntmps68
  go_wp2_with (first
   | (go_at_call 49; refine (floorOf_calls A0 c0 l0 _ HR.out HC.out HP.out).mono ?_; rw [HF.out]; rintro e w8 ⟨hb8, v8, b8, rfl, rfl, g, rfl, hfl⟩; have HB8 := Aside0.mk hb8; have HFl8 := Aside0.mk hfl; clear hb8 hfl)
   | ((with_reducible refine gate_dst (N := 17) rfl ?_); refine goesvL_ (some 17) rfl rfl HFn.out HN.out HBd.out #[.pointer (some ⟨g, 0, none⟩)] rfl rfl (by (try simp only [List.map_toArray, List.map_cons, List.map_nil]); first | done | rfl) ?_; refine (HHow.out _ g cs rs HK.out HFl8.out (Sees.of_below HB8.out)).mono ?_; rintro e w9 ⟨A9, c9, rfl, hl9, hC9, hb9⟩; refine ⟨_, rfl, ?_⟩; have HC9 := Aside0.mk hC9; have HB9 := Aside0.mk (below_step HB8.out hb9); clear hb9 hC9)
   | (go_at_call 98; refine (plan_calls A9 c9 _ _ HC9.out (HG.out cs rs HK.out)).mono ?_; rintro e w14 ⟨v14, rfl, hr14, hb14⟩; have HO14 := Aside0.mk (Kd.R_lower hr14 HB9.out.size); have HB14 := Aside0.mk (below_step HB9.out hb14); clear hr14 hb14))
  go_ret2
  rw [HE.out]
  exact ⟨v14, rfl, HO14.out, HB14.out⟩
end Go.Proofs.Ytickdcegnlldjaa.Hd
namespace Go.Proofs.Ytickdcegnlldjaa.Hd
open Go.RowKit Go.Proofs.YtickdcegnlldjaaW.PrintWords Go.Proofs.YtickdcegnlldjaaW.PrintLast Go.Proofs.YtickdcegnlldjaaW.PrintMore Go.Proofs.Ytickdcegnlldjaa.PB
def Evs {α : Type} (g : Nat → Option α) (r : α) : Prop := ∃ K, ∀ k, K ≤ k → g k = some r
section
variable {α β : Type} {g h : Nat → Option α} {r : α}
theorem Evs.const (r : α) : Evs (fun _ => some r) r := ⟨0, fun _ _ => rfl⟩
theorem Evs.step (e : ∀ k, g (k + 1) = h k) (hh : Evs h r) : Evs g r := by
 obtain ⟨K, hK⟩ := hh
 refine ⟨K + 1, fun k hk => ?_⟩
 obtain ⟨j, rfl⟩ : ∃ j, k = j + 1 := ⟨k - 1, by omega⟩
 rw [e]
 exact hK j (by omega)
theorem Evs.congr (e : ∀ k, g k = h k) (hh : Evs h r) : Evs g r := by
 obtain ⟨K, hK⟩ := hh
 exact ⟨K, fun k hk => by rw [e]; exact hK k hk⟩
theorem Evs.bind {g : Nat → Option β} {F : Nat → β → Option α} {b : β} (hg : Evs g b) (hF : Evs (fun k => F k b) r) : Evs (fun k => (g k).bind (F k)) r := by
 obtain ⟨K, hK⟩ := hg
 obtain ⟨L, hL⟩ := hF
 refine ⟨K + L, fun k hk => ?_⟩
 show (g k).bind (F k) = some r
 rw [hK k (by omega)]
 exact hL k (by omega)
theorem Evs.bindS {x : Option β} {F : Nat → β → Option α} {b : β} (hg : x = some b) (hF : Evs (fun k => F k b) r) : Evs (fun k => x.bind (F k)) r := by
 subst hg
 exact hF
end
theorem rdOf_at {p : List ByteArray} {i : Nat} {s : ByteArray} (h : p[i]? = some s) : rdOf ByteArray.empty p (i : Int) = s := by
 unfold rdOf; rw [Int.toNat_natCast, List.getD_eq_getElem?_getD, h]; rfl
theorem bt_get {s : ByteArray} {j : Nat} {x : Int} (h : (bytesOf s)[j]? = some x) : bt s (j : Int) = x := by
 rw [← bytesOf_get, List.getD_eq_getElem?_getD, h]; rfl
theorem l6In_f (a b c : Int) : spec_l6In.f a b c = some (decide (b ≤ a) && decide (a ≤ c)) := by
 unfold spec_l6In.f
 by_cases h : b ≤ a
 ·rw [if_pos h]; simp [h]
 ·rw [if_neg h]; simp [h]
theorem wrap_succ {i : Nat} (h : i ≤ 1048576) : wrap64 ((i : Int) + 1) = ((i + 1 : Nat) : Int) := by rw [wrap64_small (by omega) (by omega)]; omega
def gridOk (p : List ByteArray) : Bool := shapeOk (numsOf p) && p.all okText
def rowOk (n : Nat) (s : ByteArray) : Bool := decide (s.size = n) && (decide (1 ≤ s.size) && decide (s.size ≤ 6)) && okText s
theorem grid_l1 (p : List ByteArray) (i : Nat) (s : ByteArray) (hi : p[i]? = some s) (hs : s.size ≤ 1048576) (r : Bool) (hb : i ≤ 1048576) (hnext : okText s = true → Evs (fun k => spec_l1Grid.l0 k p ((i + 1 : Nat) : Int)) r) (hbad : okText s = false → r = false) :
  ∀ m j, j + m = s.size → ((bytesOf s).take j).all okLetter = true → Evs (fun k => spec_l1Grid.l1 k p (i : Int) (j : Int)) r := by
 have hil := (List.getElem?_eq_some_iff.1 hi).1
 have hlen := bytesOf_length s
 intro m
 induction m with
 | zero =>
  intro j hj hall
  have hok : okText s = true := by
   unfold okText
   rw [show j = (bytesOf s).length by omega, List.take_length] at hall
   exact hall
  refine Evs.step (h := fun k => spec_l1Grid.l0 k p ((i + 1 : Nat) : Int)) (fun k => ?_) (hnext hok)
  unfold spec_l1Grid.l1
  rw [if_pos (by omega), if_pos (by omega), rdOf_at hi, if_neg (by omega), wrap_succ hb]
 | succ m ih =>
  intro j hj hall
  obtain ⟨x, hx⟩ : ∃ x, (bytesOf s)[j]? = some x := ⟨_, List.getElem?_eq_getElem (by omega)⟩
  have htake : (bytesOf s).take (j + 1) = (bytesOf s).take j ++ [x] := by rw [List.take_add_one, hx]; rfl
  by_cases hlo : x < 97
  ·have hno : okText s = false := by
    unfold okText
    rw [List.all_eq_false]
    exact ⟨x, List.mem_of_getElem? hx, by simp [okLetter, hlo]⟩
   rw [hbad hno]
   refine Evs.step (h := fun _ => some false) (fun k => ?_) (Evs.const _)
   unfold spec_l1Grid.l1
   rw [if_pos (by omega), if_pos (by omega), rdOf_at hi, if_pos (by omega), if_pos (by omega), bt_get hx, if_pos hlo]
  ·by_cases hhi : 122 < x
   ·have hno : okText s = false := by
     unfold okText
     rw [List.all_eq_false]
     exact ⟨x, List.mem_of_getElem? hx, by simp [okLetter, hhi]⟩
    rw [hbad hno]
    refine Evs.step (h := fun _ => some false) (fun k => ?_) (Evs.const _)
    unfold spec_l1Grid.l1
    rw [if_pos (by omega), if_pos (by omega), rdOf_at hi, if_pos (by omega), if_pos (by omega), bt_get hx, if_neg hlo, if_pos hhi]
   ·refine Evs.step (h := fun k => spec_l1Grid.l1 k p (i : Int) ((j + 1 : Nat) : Int)) (fun k => ?_) (ih (j + 1) (by omega) (by rw [htake, List.all_append, hall]; simp [okLetter, hlo, hhi]))
    conv => lhs; unfold spec_l1Grid.l1
    rw [if_pos (by omega), if_pos (by omega), rdOf_at hi, if_pos (by omega), if_pos (by omega), bt_get hx, if_neg hlo, if_neg (by omega), wrap_succ (by omega)]
theorem grid_l0 (p : List ByteArray) (hp : smallP p) : ∀ m i, i + m = p.length → Evs (fun k => spec_l1Grid.l0 k p (i : Int)) ((p.drop i).all (rowOk (p.getD 0 ByteArray.empty).size) && (decide (1 ≤ p.length) && decide (p.length ≤ 6))) := by
 have hpl := hp.1
 intro m
 induction m with
 | zero =>
  intro i hi
  refine Evs.step (h := fun _ => some ((p.drop i).all (rowOk (p.getD 0 ByteArray.empty).size) && (decide (1 ≤ p.length) && decide (p.length ≤ 6)))) (fun k => ?_) (Evs.const _)
  unfold spec_l1Grid.l0
  rw [if_neg (by omega), l6In_f, List.drop_eq_nil_of_le (by omega)]
  simp only [Option.bind_some, List.all_nil, Bool.true_and]
  congr 2
  ·congr 1; exact propext ⟨fun h => by omega, fun h => by omega⟩
  ·congr 1; exact propext ⟨fun h => by omega, fun h => by omega⟩
 | succ m ih =>
  intro i hi
  obtain ⟨s, hs⟩ : ∃ s, p[i]? = some s := ⟨_, List.getElem?_eq_getElem (by omega)⟩
  have hsz := hp.2 s (List.mem_of_getElem? hs)
  have hdrop : p.drop i = s :: p.drop (i + 1) := by
   rw [List.drop_eq_getElem_cons (by omega)]
   congr 1
   rw [List.getElem?_eq_getElem (by omega)] at hs
   exact Option.some.inj hs
  have h0 : rdOf ByteArray.empty p 0 = p.getD 0 ByteArray.empty := rfl
  rw [hdrop, List.all_cons]
  generalize hn : (p.getD 0 ByteArray.empty).size = n at *
  by_cases heq : s.size = n
  ·by_cases h16 : 1 ≤ s.size ∧ s.size ≤ 6
   ·have hr : rowOk n s = okText s := by simp [rowOk, heq, h16.1, h16.2]; omega
    rw [hr]
    refine Evs.step (h := fun k => spec_l1Grid.j1 k p (i : Int) false) (fun k => ?_) ?_
    ·unfold spec_l1Grid.l0
     rw [if_pos (by omega), if_pos (by omega), if_pos (by omega), rdOf_at hs, h0, hn, if_pos (by omega), l6In_f]
     simp only [Option.bind_some]
     rw [decide_eq_true (by omega : (1 : Int) ≤ s.size), decide_eq_true (by omega : (s.size : Int) ≤ 6)]
     rfl
    ·refine Evs.step (h := fun k => spec_l1Grid.l1 k p (i : Int) ((0 : Nat) : Int)) (fun k => ?_) (grid_l1 p i s hs hsz _ (by omega) (fun hok => ?_) (fun hno => ?_) s.size 0 (by omega) (by simp))
     ·unfold spec_l1Grid.j1
      rw [if_neg (by simp)]
      rfl
     ·rw [hok, Bool.true_and]
      exact ih (i + 1) (by omega)
     ·rw [hno, Bool.false_and, Bool.false_and]
   ·have hr : rowOk n s = false := by
     unfold rowOk
     by_cases h1 : 1 ≤ s.size
     ·have : ¬ s.size ≤ 6 := fun h => h16 ⟨h1, h⟩
      simp [this]
     ·simp [h1]
    rw [hr, Bool.false_and, Bool.false_and]
    refine Evs.step (h := fun k => spec_l1Grid.j1 k p (i : Int) true) (fun k => ?_) (Evs.step (h := fun _ => some false) (fun k => ?_) (Evs.const _))
    ·unfold spec_l1Grid.l0
     rw [if_pos (by omega), if_pos (by omega), if_pos (by omega), rdOf_at hs, h0, hn, if_pos (by omega), l6In_f]
     simp only [Option.bind_some]
     congr 1
     by_cases h1 : 1 ≤ s.size
     ·have : ¬ (s.size : Int) ≤ 6 := by omega
      simp [this]
     ·have : ¬ (1 : Int) ≤ s.size := by omega
      simp [this]
    ·unfold spec_l1Grid.j1
     rw [if_pos rfl]
  ·have hr : rowOk n s = false := by simp [rowOk, heq]
   rw [hr, Bool.false_and, Bool.false_and]
   refine Evs.step (h := fun k => spec_l1Grid.j1 k p (i : Int) true) (fun k => ?_) (Evs.step (h := fun _ => some false) (fun k => ?_) (Evs.const _))
   ·unfold spec_l1Grid.l0
    rw [if_pos (by omega), if_pos (by omega), if_pos (by omega), rdOf_at hs, h0, hn, if_neg (by omega)]
   ·unfold spec_l1Grid.j1
    rw [if_pos rfl]
theorem wideOf_numsOf (p : List ByteArray) : wideOf (numsOf p) = (p.getD 0 ByteArray.empty).size := by
 unfold wideOf numsOf
 cases p with
 | nil => rfl
 | cons a r => simp [bytesOf_length]
theorem gridOk_eq (p : List ByteArray) : ((p.drop 0).all (rowOk (p.getD 0 ByteArray.empty).size) && (decide (1 ≤ p.length) && decide (p.length ≤ 6))) = gridOk p := by
 rw [Bool.eq_iff_iff]
 unfold gridOk
 rw [List.drop_zero, Bool.and_eq_true, Bool.and_eq_true, Bool.and_eq_true, shapeOk_iff, wideOf_numsOf, List.all_eq_true, List.all_eq_true]
 have hl : (numsOf p).length = p.length := by simp [numsOf]
 rw [hl]
 simp only [decide_eq_true_eq]
 constructor
 ·rintro ⟨h1, h2, h3⟩
  have h0 := h1 (p.getD 0 ByteArray.empty) (by rw [List.getD_eq_getElem?_getD, List.getElem?_eq_getElem (by omega)]; exact List.getElem_mem _)
  simp only [rowOk, Bool.and_eq_true, decide_eq_true_eq] at h0
  refine ⟨⟨h2, h3, h0.1.2.1, h0.1.2.2, fun r hr => ?_⟩, fun s hs => ?_⟩
  ·unfold numsOf at hr
   simp at hr
   obtain ⟨s, hs, rfl⟩ := hr
   have := h1 s hs
   simp only [rowOk, Bool.and_eq_true, decide_eq_true_eq] at this
   rw [bytesOf_length]
   exact this.1.1
  ·have := h1 s hs
   simp only [rowOk, Bool.and_eq_true, decide_eq_true_eq] at this
   exact this.2
 ·rintro ⟨⟨h2, h3, h4, h5, h6⟩, h7⟩
  refine ⟨fun s hs => ?_, h2, h3⟩
  have := h6 (bytesOf s) (by unfold numsOf; simp; exact ⟨s, hs, rfl⟩)
  rw [bytesOf_length] at this
  simp only [rowOk, Bool.and_eq_true, decide_eq_true_eq]
  exact ⟨⟨this, by omega, by omega⟩, h7 s hs⟩
theorem l1Grid_ev (p : List ByteArray) (hp : smallP p) : Evs (fun k => spec_l1Grid.f k p) (gridOk p) := by
 rw [← gridOk_eq]
 exact grid_l0 p hp p.length 0 (by omega)
end Go.Proofs.Ytickdcegnlldjaa.Hd
namespace Go.Proofs.Ytickdcegnlldjaa.Hd
open Go.RowKit Go.Proofs.YtickdcegnlldjaaW.PrintWords Go.Proofs.YtickdcegnlldjaaW.PrintLast Go.Proofs.YtickdcegnlldjaaW.PrintMore Go.Proofs.Ytickdcegnlldjaa.PB
def pushL (o : List Int) (v : Int) : List Int := if v ∈ o then o else o ++ [v]
def ordL (xs : List Int) (o : List Int) : List Int := xs.foldl pushL o
theorem pushL_prefix (o : List Int) (v : Int) : o <+: pushL o v := by
 unfold pushL
 split
 ·exact List.prefix_refl _
 ·exact List.prefix_append _ _
theorem pushL_mem (o : List Int) (v : Int) : v ∈ pushL o v := by
 unfold pushL
 split
 ·assumption
 ·simp
theorem ordL_prefix (xs : List Int) : ∀ o, o <+: ordL xs o := by
 induction xs with
 | nil => exact fun o => List.prefix_refl _
 | cons x r ih => exact fun o => (pushL_prefix o x).trans (ih _)
theorem ordL_append (xs ys : List Int) (o : List Int) : ordL (xs ++ ys) o = ordL ys (ordL xs o) := by simp [ordL, List.foldl_append]
theorem ordL_mem (xs : List Int) : ∀ o, ∀ x ∈ xs, x ∈ ordL xs o := by
 induction xs with
 | nil => intro o x hx; cases hx
 | cons y r ih =>
  intro o x hx
  rcases List.mem_cons.1 hx with rfl | hx
  ·exact (ordL_prefix r (pushL o x)).subset (pushL_mem o x)
  ·exact ih _ x hx
theorem ordL_sub (xs : List Int) : ∀ o, ∀ x ∈ ordL xs o, x ∈ o ∨ x ∈ xs := by
 induction xs with
 | nil => exact fun o x hx => .inl hx
 | cons y r ih =>
  intro o x hx
  rcases ih _ x hx with h | h
  ·unfold pushL at h
   split at h
   ·exact .inl h
   ·rcases List.mem_append.1 h with h | h
    ·exact .inl h
    ·simp at h; subst h; exact .inr List.mem_cons_self
  ·exact .inr (List.mem_cons_of_mem _ h)
theorem ordL_nodup (xs : List Int) : ∀ o, o.Nodup → (ordL xs o).Nodup := by
 induction xs with
 | nil => exact fun o h => h
 | cons y r ih =>
  intro o h
  refine ih _ ?_
  unfold pushL
  split
  ·exact h
  ·rename_i hn
   rw [List.nodup_append]
   exact ⟨h, by simp, fun a ha b hb => by simp at hb; subst hb; exact fun e => hn (e ▸ ha)⟩
theorem ordL_length (xs : List Int) : ∀ o, (ordL xs o).length ≤ o.length + xs.length := by
 induction xs with
 | nil => exact fun o => by simp [ordL]
 | cons y r ih =>
  intro o
  have h1 := ih (pushL o y)
  have h2 : (pushL o y).length ≤ o.length + 1 := by
   unfold pushL
   split
   ·omega
   ·simp
  show (ordL r (pushL o y)).length ≤ _
  simp only [List.length_cons]
  omega
theorem idxOf_prefix {o L : List Int} (h : o <+: L) {x : Int} (hx : x ∈ o) : L.idxOf x = o.idxOf x := by
 obtain ⟨t, rfl⟩ := h
 rw [List.idxOf_append, if_pos hx]
theorem idxOf_push {o L : List Int} {x : Int} (h : pushL o x <+: L) : L.idxOf x = o.idxOf x := by
 rw [idxOf_prefix h (pushL_mem o x)]
 unfold pushL
 split
 ·rfl
 ·rename_i hn
  rw [List.idxOf_append, if_neg hn, List.idxOf_eq_length hn]
  simp
def canonL (L : List Int) (rows : List (List Int)) : List (List Int) := rows.map fun r => r.map fun x => (L.idxOf x : Int)
def ordAll (rows : List (List Int)) : List Int := ordL rows.flatten []
def canon (rows : List (List Int)) : List (List Int) := canonL (ordAll rows) rows
def namesOf (p : List ByteArray) : List ByteArray := textOf (canon (numsOf p))
def numOf (L : List Int) (x : Int) : Int := 97 + (L.idxOf x : Int)
theorem letter_wrap {a : Nat} (h : a ≤ 100) : (wrap64 (97 + (a : Int))) % 256 = 97 + (a : Int) := by
 rw [wrap64_small (by omega) (by omega)]
 omega
theorem names_l2 (p : List ByteArray) (i j : Nat) (s : ByteArray) (v : Int) (hi : p[i]? = some s) (hv : (bytesOf s)[j]? = some v) (o : List Int) (x4 : List ByteArray) (x6 : List Int) (ho : o.length ≤ 100) (h6 : x6.length ≤ 1048576) (hj : j ≤ 1048576) (r : List ByteArray)
  (hnext : Evs (fun k => spec_l1Names.l1 k p (pushL o v) x4 (i : Int) (x6 ++ [97 + (o.idxOf v : Int)]) ((j + 1 : Nat) : Int)) r) :
  ∀ m a, a + m = o.length → v ∉ o.take a → Evs (fun k => spec_l1Names.l2 k p o x4 (i : Int) x6 (j : Int) (a : Int)) r := by
 have hil := (List.getElem?_eq_some_iff.1 hi).1
 have hjl := (List.getElem?_eq_some_iff.1 hv).1
 rw [bytesOf_length] at hjl
 intro m
 induction m with
 | zero =>
  intro a ha hno
  rw [List.take_of_length_le (by omega)] at hno
  have hidx := List.idxOf_eq_length hno
  have hpush : pushL o v = o ++ [v] := by unfold pushL; rw [if_neg hno]
  rw [hpush, hidx] at hnext
  refine Evs.step (h := fun k => spec_l1Names.l1 k p (o ++ [v]) x4 (i : Int) (x6 ++ [97 + (o.length : Int)]) ((j + 1 : Nat) : Int)) (fun k => ?_) hnext
  conv => lhs; unfold spec_l1Names.l2
  rw [if_neg (by omega), if_pos (by omega), if_pos (by omega), if_pos (by omega), if_pos (by omega), rdOf_at hi, if_pos (by omega), if_pos (by omega), if_pos (by omega), bt_get hv, letter_wrap (by omega), wrap_succ (by omega), show a = o.length by omega]
 | succ m ih =>
  intro a ha hno
  obtain ⟨x, hx⟩ : ∃ x, o[a]? = some x := ⟨_, List.getElem?_eq_getElem (by omega)⟩
  have hrd : rd o (a : Int) = x := by unfold rd; rw [Int.toNat_natCast, List.getD_eq_getElem?_getD, hx]; rfl
  by_cases he : x = v
  ·subst he
   have hmem : x ∈ o := List.mem_of_getElem? hx
   have hpush : pushL o x = o := by unfold pushL; rw [if_pos hmem]
   have hidx : o.idxOf x = a := by
    have h1 : o = o.take a ++ x :: o.drop (a + 1) := by
     rw [List.getElem?_eq_getElem (by omega)] at hx
     have := Option.some.inj hx
     rw [← this, ← List.drop_eq_getElem_cons, List.take_append_drop]
    rw [h1, List.idxOf_append, if_neg hno, List.idxOf_cons_self]
    simp
    omega
   rw [hpush, hidx] at hnext
   refine Evs.step (h := fun k => spec_l1Names.l1 k p o x4 (i : Int) (x6 ++ [97 + (a : Int)]) ((j + 1 : Nat) : Int)) (fun k => ?_) hnext
   conv => lhs; unfold spec_l1Names.l2
   rw [if_pos (by omega), if_pos (by omega), if_pos (by omega), if_pos (by omega), if_pos (by omega), rdOf_at hi, if_pos (by omega), hrd, bt_get hv, if_pos rfl, if_neg (by omega), if_pos (by omega), letter_wrap (by omega), wrap_succ (by omega)]
  ·refine Evs.step (h := fun k => spec_l1Names.l2 k p o x4 (i : Int) x6 (j : Int) ((a + 1 : Nat) : Int)) (fun k => ?_) (ih (a + 1) (by omega) (by
    rw [List.take_add_one, hx]
    simp only [Option.toList_some, List.mem_append, List.mem_singleton, not_or]
    exact ⟨hno, fun e => he e.symm⟩))
   conv => lhs; unfold spec_l1Names.l2
   rw [if_pos (by omega), if_pos (by omega), if_pos (by omega), if_pos (by omega), if_pos (by omega), rdOf_at hi, if_pos (by omega), hrd, bt_get hv, if_neg he, wrap_succ (by omega)]
theorem names_l1 (p : List ByteArray) (i : Nat) (s : ByteArray) (hi : p[i]? = some s) (hib : i ≤ 1048576) (hs : s.size ≤ 1048576) (L : List Int) (hL : L.length ≤ 100) (x4 : List ByteArray) (h4 : x4.length ≤ 1048576) (r : List ByteArray) :
  ∀ m j o x6, j + m = s.size → x6.length = j → ordL ((bytesOf s).drop j) o <+: L → Evs (fun k => spec_l1Names.l0 k p (ordL ((bytesOf s).drop j) o) (x4 ++ [strOfNums (x6 ++ ((bytesOf s).drop j).map (numOf L))]) ((i + 1 : Nat) : Int)) r →
   Evs (fun k => spec_l1Names.l1 k p o x4 (i : Int) x6 (j : Int)) r := by
 have hil := (List.getElem?_eq_some_iff.1 hi).1
 have hlen := bytesOf_length s
 intro m
 induction m with
 | zero =>
  intro j o x6 hj h6 hpre hnext
  rw [List.drop_eq_nil_of_le (by omega)] at hnext
  simp only [List.map_nil, List.append_nil] at hnext
  refine Evs.step (h := fun k => spec_l1Names.l0 k p o (x4 ++ [strOfNums x6]) ((i + 1 : Nat) : Int)) (fun k => ?_) hnext
  conv => lhs; unfold spec_l1Names.l1
  rw [if_pos (by omega), if_pos (by omega), rdOf_at hi, if_neg (by omega), if_pos (by omega), wrap_succ hib]
 | succ m ih =>
  intro j o x6 hj h6 hpre hnext
  obtain ⟨v, hv⟩ : ∃ v, (bytesOf s)[j]? = some v := ⟨_, List.getElem?_eq_getElem (by omega)⟩
  have hdrop : (bytesOf s).drop j = v :: (bytesOf s).drop (j + 1) := by
   rw [List.drop_eq_getElem_cons (by omega)]
   congr 1
   rw [List.getElem?_eq_getElem (by omega)] at hv
   exact Option.some.inj hv
  rw [hdrop] at hpre hnext
  have hpre2 : ordL ((bytesOf s).drop (j + 1)) (pushL o v) <+: L := hpre
  have hpl := (ordL_prefix ((bytesOf s).drop (j + 1)) (pushL o v)).trans hpre2
  have hol := ((pushL_prefix o v).trans hpl).length_le
  have hidx := idxOf_push hpl
  refine Evs.step (h := fun k => spec_l1Names.l2 k p o x4 (i : Int) x6 (j : Int) ((0 : Nat) : Int)) (fun k => ?_) (names_l2 p i j s v hi hv o x4 x6 (by omega) (by omega) (by omega) r (ih (j + 1) (pushL o v) _ (by omega) (by simp [h6]) hpre2 ?_) o.length 0 (by omega) (by simp))
  ·conv => lhs; unfold spec_l1Names.l1
   rw [if_pos (by omega), if_pos (by omega), rdOf_at hi, if_pos (by omega)]
   rfl
  ·rw [List.append_assoc]
   simp only [List.map_cons] at hnext
   unfold numOf at hnext ⊢
   rw [hidx] at hnext
   exact hnext
theorem names_l0 (p : List ByteArray) (hp : smallP p) (L : List Int) (hL : L.length ≤ 100) : ∀ m i o x4, i + m = p.length → x4.length = i → ordL ((numsOf p).drop i).flatten o = L →
  Evs (fun k => spec_l1Names.l0 k p o x4 (i : Int)) (x4 ++ (p.drop i).map fun s => strOfNums ((bytesOf s).map (numOf L))) := by
 have hpl := hp.1
 intro m
 induction m with
 | zero =>
  intro i o x4 hi h4 ho
  rw [List.drop_eq_nil_of_le (by omega), List.map_nil, List.append_nil]
  refine Evs.step (h := fun _ => some x4) (fun k => ?_) (Evs.const _)
  conv => lhs; unfold spec_l1Names.l0
  rw [if_neg (by omega)]
 | succ m ih =>
  intro i o x4 hi h4 ho
  obtain ⟨s, hs⟩ : ∃ s, p[i]? = some s := ⟨_, List.getElem?_eq_getElem (by omega)⟩
  have hsz := hp.2 s (List.mem_of_getElem? hs)
  have hdrop : p.drop i = s :: p.drop (i + 1) := by
   rw [List.drop_eq_getElem_cons (by omega)]
   congr 1
   rw [List.getElem?_eq_getElem (by omega)] at hs
   exact Option.some.inj hs
  have hdrop2 : (numsOf p).drop i = bytesOf s :: (numsOf p).drop (i + 1) := by
   unfold numsOf
   rw [← List.map_drop, hdrop, List.map_cons, List.map_drop]
  rw [hdrop2, List.flatten_cons, ordL_append] at ho
  have hpre : ordL (bytesOf s) o <+: L := by rw [← ho]; exact ordL_prefix _ _
  rw [hdrop, List.map_cons]
  have hnext := ih (i + 1) (ordL (bytesOf s) o) (x4 ++ [strOfNums ((bytesOf s).map (numOf L))]) (by omega) (by simp [h4]) ho
  rw [List.append_assoc] at hnext
  refine Evs.step (h := fun k => spec_l1Names.l1 k p o x4 (i : Int) [] ((0 : Nat) : Int)) (fun k => ?_) (names_l1 p i s hs (by omega) hsz L hL x4 (by omega) _ s.size 0 o [] (by omega) rfl hpre hnext)
  conv => lhs; unfold spec_l1Names.l0
  rw [if_pos (by omega)]
  rfl
theorem strOfNums_row (L : List Int) (row : List Int) : strOfNums (row.map (numOf L)) = rowText (row.map fun x => (L.idxOf x : Int)) := by
 unfold strOfNums rowText rowBytes
 congr 2
 rw [List.map_map, List.map_map]
 rfl
theorem l1Names_ev (p : List ByteArray) (hp : smallP p) (hL : (ordAll (numsOf p)).length ≤ 100) : Evs (fun k => spec_l1Names.f k p) (namesOf p) := by
 have := names_l0 p hp (ordAll (numsOf p)) hL p.length 0 [] [] (by omega) rfl rfl
 rw [List.nil_append, List.drop_zero] at this
 have e : namesOf p = p.map fun s => strOfNums ((bytesOf s).map (numOf (ordAll (numsOf p)))) := by
  unfold namesOf textOf canon canonL
  generalize ordAll (numsOf p) = L
  unfold numsOf
  rw [List.map_map, List.map_map]
  congr 1
  funext s
  exact (strOfNums_row L (bytesOf s)).symm
 rw [e]
 exact this
theorem flatten_length_le (rows : List (List Int)) (w : Nat) (h : ∀ r ∈ rows, r.length = w) : rows.flatten.length = rows.length * w := by
 induction rows with
 | nil => simp
 | cons a r ih =>
  rw [List.flatten_cons, List.length_append, ih (fun x hx => h x (List.mem_cons_of_mem _ hx)), h a List.mem_cons_self, List.length_cons, Nat.succ_mul]
  omega
theorem shape_order {rows : List (List Int)} (h : shapeOk rows = true) : (ordAll rows).length ≤ 36 := by
 obtain ⟨h1, h2, h3, h4, h5⟩ := (shapeOk_iff _).1 h
 have := ordL_length rows.flatten []
 rw [flatten_length_le rows _ h5] at this
 have h6 := Nat.mul_le_mul h2 h4
 unfold ordAll
 simp at this
 omega
theorem nodup_inj {l : List Int} (h : l.Nodup) {i j : Nat} (hi : i < l.length) (hj : j < l.length) (e : l[i] = l[j]) : i = j := by
 have hp := List.pairwise_iff_getElem.1 h
 rcases Nat.lt_trichotomy i j with h1 | h1 | h1
 ·exact absurd e (hp i j hi hj h1)
 ·exact h1
 ·exact absurd e.symm (hp j i hj hi h1)
def Rect (wi : Nat) (rows : List (List Int)) : Prop := ∀ r ∈ rows, r.length = wi
theorem valAt_get {rows : List (List Int)} {wi r c : Nat} (h : Rect wi rows) (hr : r < rows.length) (hc : c < wi) : ∃ row, rows[r]? = some row ∧ row[c]? = some (valAt rows r c) := by
 refine ⟨rows[r], List.getElem?_eq_getElem hr, ?_⟩
 have hw := h _ (List.getElem_mem hr)
 unfold valAt
 rw [List.getD_eq_getElem?_getD, List.getD_eq_getElem?_getD, List.getElem?_eq_getElem hr]
 simp only [Option.getD_some]
 rw [List.getElem?_eq_getElem (by omega)]
 rfl
theorem gridOf_get {hi wi : Nat} {g : Nat → Nat → Int} {r : Nat} (hr : r < hi) : (gridOf hi wi g)[r]? = some ((List.range wi).map (g r)) := by
 unfold gridOf
 rw [List.getElem?_map, List.getElem?_range hr]
 rfl
theorem valAt_gridOf {hi wi : Nat} {g : Nat → Nat → Int} {r c : Nat} (hr : r < hi) (hc : c < wi) : valAt (gridOf hi wi g) r c = g r c := by
 unfold valAt
 rw [List.getD_eq_getElem?_getD, List.getD_eq_getElem?_getD, gridOf_get hr]
 simp only [Option.getD_some]
 rw [List.getElem?_map, List.getElem?_range hc]
 rfl
theorem gridOf_rect (hi wi : Nat) (g : Nat → Nat → Int) : Rect wi (gridOf hi wi g) := fun r hr => gridOf_row r hr
theorem gridOf_congr {hi wi : Nat} {g g' : Nat → Nat → Int} (h : ∀ r c, r < hi → c < wi → g r c = g' r c) : gridOf hi wi g = gridOf hi wi g' := by
 unfold gridOf
 apply List.map_congr_left
 intro r hr
 apply List.map_congr_left
 intro c hc
 exact h r c (List.mem_range.1 hr) (List.mem_range.1 hc)
theorem rect_map {rows : List (List Int)} {wi : Nat} (h : Rect wi rows) (f : Int → Int) : rows.map (fun r => r.map f) = gridOf rows.length wi (fun r c => f (valAt rows r c)) := by
 apply List.ext_getElem?
 intro r
 by_cases hr : r < rows.length
 ·rw [gridOf_get hr, List.getElem?_map, List.getElem?_eq_getElem hr]
  simp only [Option.map_some]
  congr 1
  have hw := h _ (List.getElem_mem hr)
  apply List.ext_getElem?
  intro c
  rw [List.getElem?_map, List.getElem?_map]
  by_cases hc : c < wi
  ·obtain ⟨row, h1, h2⟩ := valAt_get h hr hc
   rw [List.getElem?_eq_getElem hr] at h1
   injection h1 with h1
   rw [h1, h2, List.getElem?_range hc]
   rfl
  ·rw [List.getElem?_eq_none (by omega), List.getElem?_eq_none (by simp; omega)]
   rfl
 ·rw [List.getElem?_eq_none (by simp; omega), List.getElem?_eq_none (by rw [gridOf_length]; omega)]
theorem rect_eq {rows : List (List Int)} {wi : Nat} (h : Rect wi rows) : rows = gridOf rows.length wi (valAt rows) := by
 have := rect_map h id
 simpa using this
theorem flatten_get {wi : Nat} : ∀ (rows : List (List Int)), Rect wi rows → ∀ n, n < rows.length * wi → rows.flatten[n]? = some (valAt rows (n / wi) (n % wi))
 | [], _, n, h => by simp at h
 | a :: r, hR, n, h => by
  have hwi : 0 < wi := by
   rcases Nat.eq_zero_or_pos wi with h0 | h0
   ·subst h0; simp at h
   ·exact h0
  have ha := hR a List.mem_cons_self
  rw [List.flatten_cons]
  by_cases hn : n < wi
  ·rw [List.getElem?_append_left (by omega), Nat.div_eq_of_lt hn, Nat.mod_eq_of_lt hn]
   unfold valAt
   simp only [List.getD_cons_zero]
   rw [List.getD_eq_getElem?_getD, List.getElem?_eq_getElem (by omega)]
   rfl
  ·rw [List.getElem?_append_right (by omega), ha, flatten_get r (fun x hx => hR x (List.mem_cons_of_mem _ hx)) (n - wi) (by
    rw [List.length_cons, Nat.succ_mul] at h
    omega)]
   congr 1
   obtain ⟨m, rfl⟩ : ∃ m, n = m + wi := ⟨n - wi, by omega⟩
   rw [Nat.add_sub_cancel, Nat.add_div_right _ hwi, Nat.add_mod_right]
   unfold valAt
   simp only [List.getD_cons_succ]
theorem stAt_ord {rows : List (List Int)} {wi : Nat} (h : Rect wi rows) : ∀ n, n ≤ rows.length * wi → (stAt rows wi n).1 = ordL (rows.flatten.take n) []
 | 0, _ => by simp [stAt, ordL]
 | n + 1, hn => by
  rw [List.take_add_one, flatten_get rows h n (by omega)]
  simp only [Option.toList_some]
  rw [ordL_append, ← stAt_ord h n (by omega)]
  show (stepS (stAt rows wi n) (n / wi) (n % wi) (valAt rows (n / wi) (n % wi))).1 = pushL (stAt rows wi n).1 (valAt rows (n / wi) (n % wi))
  unfold stepS pushL
  split <;> rfl
theorem stAt_all {rows : List (List Int)} {wi : Nat} (h : Rect wi rows) : (stAt rows wi (rows.length * wi)).1 = ordAll rows := by
 rw [stAt_ord h _ (Nat.le_refl _), List.take_of_length_le (by rw [flatten_length_le rows wi h]; exact Nat.le_refl _)]
 rfl
theorem numAt_idx {rows : List (List Int)} {wi r c : Nat} (h : Rect wi rows) (hr : r < rows.length) (hc : c < wi) : numAt rows wi r c = ((ordAll rows).idxOf (valAt rows r c) : Int) := by
 unfold numAt
 have hle : r * wi + c + 1 ≤ rows.length * wi := by
  have : (r + 1) * wi ≤ rows.length * wi := Nat.mul_le_mul_right _ hr
  rw [Nat.succ_mul] at this
  omega
 have hp := stAt_prefix rows wi (r * wi + c + 1) (rows.length * wi - (r * wi + c + 1))
 rw [show r * wi + c + 1 + (rows.length * wi - (r * wi + c + 1)) = rows.length * wi by omega, stAt_all h] at hp
 rw [idxOf_prefix hp (stAt_mem rows wi r c hc)]
theorem shape_rect {rows : List (List Int)} (h : shapeOk rows = true) : Rect (wideOf rows) rows := ((shapeOk_iff _).1 h).2.2.2.2
theorem canon_grid {rows : List (List Int)} {wi : Nat} (h : Rect wi rows) : canon rows = gridOf rows.length wi (fun r c => ((ordAll rows).idxOf (valAt rows r c) : Int)) := rect_map h _
theorem cellsOf_canon {rows : List (List Int)} (h : shapeOk rows = true) : cellsOf rows = canon rows := by
 rw [canon_grid (shape_rect h)]
 exact gridOf_congr fun r c hr hc => numAt_idx (shape_rect h) hr hc
structure BoxN (rows : List (List Int)) (wi n : Nat) (x : Int) (b : Rc) : Prop where
 ins : ∀ m, m < n → valAt rows (m / wi) (m % wi) = x → b.f0 ≤ (m / wi : Nat) ∧ ((m / wi : Nat) : Int) < b.f0 + b.f2 ∧ b.f1 ≤ (m % wi : Nat) ∧ ((m % wi : Nat) : Int) < b.f1 + b.f3
 top : ∃ m, m < n ∧ valAt rows (m / wi) (m % wi) = x ∧ ((m / wi : Nat) : Int) = b.f0
 low : ∃ m, m < n ∧ valAt rows (m / wi) (m % wi) = x ∧ ((m / wi : Nat) : Int) + 1 = b.f0 + b.f2
 left : ∃ m, m < n ∧ valAt rows (m / wi) (m % wi) = x ∧ ((m % wi : Nat) : Int) = b.f1
 right : ∃ m, m < n ∧ valAt rows (m / wi) (m % wi) = x ∧ ((m % wi : Nat) : Int) + 1 = b.f1 + b.f3
theorem BoxN.keep {rows : List (List Int)} {wi n : Nat} {x : Int} {b : Rc} (h : BoxN rows wi n x b) (hx : valAt rows (n / wi) (n % wi) ≠ x) : BoxN rows wi (n + 1) x b := by
 refine ⟨fun m hm hv => ?_, ?_, ?_, ?_, ?_⟩
 ·rcases Nat.lt_or_eq_of_le (Nat.lt_succ_iff.1 hm) with h1 | h1
  ·exact h.ins m h1 hv
  ·subst h1; exact absurd hv hx
 ·obtain ⟨m, h1, h2⟩ := h.top; exact ⟨m, by omega, h2⟩
 ·obtain ⟨m, h1, h2⟩ := h.low; exact ⟨m, by omega, h2⟩
 ·obtain ⟨m, h1, h2⟩ := h.left; exact ⟨m, by omega, h2⟩
 ·obtain ⟨m, h1, h2⟩ := h.right; exact ⟨m, by omega, h2⟩
theorem BoxN.both {rows : List (List Int)} {wi n : Nat} {x : Int} {b : Rc} (h : BoxN rows wi n x b) (hx : valAt rows (n / wi) (n % wi) = x) : BoxN rows wi (n + 1) x (bothR b (oneR (n / wi) (n % wi))) := by
 refine ⟨fun m hm hv => ?_, ?_, ?_, ?_, ?_⟩
 ·simp only [bothR, oneR]
  rcases Nat.lt_or_eq_of_le (Nat.lt_succ_iff.1 hm) with h1 | h1
  ·have := h.ins m h1 hv
   omega
  ·subst h1; omega
 ·obtain ⟨m, h1, h2, h3⟩ := h.top
  simp only [bothR, oneR]
  by_cases hc : b.f0 ≤ ((n / wi : Nat) : Int)
  ·exact ⟨m, by omega, h2, by omega⟩
  ·exact ⟨n, by omega, hx, by omega⟩
 ·obtain ⟨m, h1, h2, h3⟩ := h.low
  simp only [bothR, oneR]
  by_cases hc : ((n / wi : Nat) : Int) + 1 ≤ b.f0 + b.f2
  ·exact ⟨m, by omega, h2, by omega⟩
  ·exact ⟨n, by omega, hx, by omega⟩
 ·obtain ⟨m, h1, h2, h3⟩ := h.left
  simp only [bothR, oneR]
  by_cases hc : b.f1 ≤ ((n % wi : Nat) : Int)
  ·exact ⟨m, by omega, h2, by omega⟩
  ·exact ⟨n, by omega, hx, by omega⟩
 ·obtain ⟨m, h1, h2, h3⟩ := h.right
  simp only [bothR, oneR]
  by_cases hc : ((n % wi : Nat) : Int) + 1 ≤ b.f1 + b.f3
  ·exact ⟨m, by omega, h2, by omega⟩
  ·exact ⟨n, by omega, hx, by omega⟩
theorem BoxN.fresh {rows : List (List Int)} {wi n : Nat} {x : Int} (h : ∀ m, m < n → valAt rows (m / wi) (m % wi) ≠ x) (hx : valAt rows (n / wi) (n % wi) = x) : BoxN rows wi (n + 1) x (bothR (oneR (n / wi) (n % wi)) (oneR (n / wi) (n % wi))) := by
 refine ⟨fun m hm hv => ?_, ⟨n, by omega, hx, ?_⟩, ⟨n, by omega, hx, ?_⟩, ⟨n, by omega, hx, ?_⟩, ⟨n, by omega, hx, ?_⟩⟩
 ·simp only [bothR, oneR]
  rcases Nat.lt_or_eq_of_le (Nat.lt_succ_iff.1 hm) with h1 | h1
  ·exact absurd hv (h m h1)
  ·subst h1; omega
 all_goals
  simp only [bothR, oneR]
  omega
theorem stAt_seen (rows : List (List Int)) (wi : Nat) : ∀ n m, m < n → valAt rows (m / wi) (m % wi) ∈ (stAt rows wi n).1
 | 0, m, h => by omega
 | n + 1, m, h => by
  rcases Nat.lt_or_eq_of_le (Nat.lt_succ_iff.1 h) with h1 | h1
  ·exact (stepS_prefix (stAt rows wi n) (n / wi) (n % wi) _).subset (stAt_seen rows wi n m h1)
  ·subst h1
   exact stepS_mem (stAt rows wi m) _ _ _
theorem stAt_len (rows : List (List Int)) (wi : Nat) : ∀ n, (stAt rows wi n).1.length = (stAt rows wi n).2.length ∧ (stAt rows wi n).1.Nodup
 | 0 => by simp [stAt]
 | n + 1 => by
  obtain ⟨h1, h2⟩ := stAt_len rows wi n
  simp only [stAt, stepS]
  split
  ·exact ⟨by simpa using h1, h2⟩
  ·rename_i hx
   refine ⟨by simp [h1], ?_⟩
   rw [List.nodup_append]
   exact ⟨h2, by simp, fun a ha b hb => by simp at hb; subst hb; exact fun e => hx (e ▸ ha)⟩
theorem stAt_box (rows : List (List Int)) (wi : Nat) : ∀ (n i : Nat) (x : Int) (b : Rc), (stAt rows wi n).1[i]? = some x → (stAt rows wi n).2[i]? = some b → BoxN rows wi n x b
 | 0, i, x, b, h, _ => by simp [stAt] at h
 | n + 1, i, x, b, h1, h2 => by
  obtain ⟨hlen, hnd⟩ := stAt_len rows wi n
  simp only [stAt] at h1 h2
  generalize hv : valAt rows (n / wi) (n % wi) = v at h1 h2
  by_cases hmem : v ∈ (stAt rows wi n).1
  ·rw [stepS, if_pos hmem] at h1 h2
   simp only at h1 h2
   have hk := List.idxOf_lt_length_of_mem hmem
   by_cases hik : (stAt rows wi n).1.idxOf v = i
   ·have hxv : x = v := by
     rw [← hik, List.getElem?_eq_getElem hk, List.getElem_idxOf] at h1
     exact (Option.some.inj h1).symm
    subst hxv
    rw [hik, List.getElem?_set_self (by omega)] at h2
    have h2' := Option.some.inj h2
    rw [← h2']
    refine BoxN.both ?_ hv
    refine stAt_box rows wi n i x _ h1 ?_
    rw [List.getD_eq_getElem?_getD, List.getElem?_eq_getElem (by omega)]
    rfl
   ·rw [List.getElem?_set_ne (fun e => hik e)] at h2
    refine (stAt_box rows wi n i x b h1 h2).keep ?_
    rw [hv]
    rintro rfl
    refine hik ?_
    have hil := (List.getElem?_eq_some_iff.1 h1).1
    have e1 : (stAt rows wi n).1[i] = v := by
     rw [List.getElem?_eq_getElem hil] at h1
     exact Option.some.inj h1
    have e2 : (stAt rows wi n).1[(stAt rows wi n).1.idxOf v] = v := List.getElem_idxOf hk
    exact nodup_inj hnd hk hil (e2.trans e1.symm)
  ·rw [stepS, if_neg hmem] at h1 h2
   simp only at h1 h2
   by_cases hi : i < (stAt rows wi n).1.length
   ·rw [List.getElem?_append_left hi] at h1
    rw [List.getElem?_append_left (by omega)] at h2
    refine (stAt_box rows wi n i x b h1 h2).keep ?_
    rw [hv]
    rintro rfl
    exact hmem (List.mem_of_getElem? h1)
   ·have hil := (List.getElem?_eq_some_iff.1 h1).1
    simp at hil
    obtain rfl : i = (stAt rows wi n).1.length := by omega
    rw [List.getElem?_concat_length] at h1
    rw [hlen, List.getElem?_concat_length] at h2
    have e1 := Option.some.inj h1
    have e2 := Option.some.inj h2
    subst e1 e2
    exact BoxN.fresh (fun m hm e => hmem (by rw [← e]; exact stAt_seen rows wi n m hm)) hv
def cellN (rows : List (List Int)) (wi m : Nat) : Int := valAt rows (m / wi) (m % wi) - 97
def countN (rows : List (List Int)) (wi : Nat) (x : Int) : Nat → Int
 | 0 => 0
 | n + 1 => if cellN rows wi n = x then countN rows wi x n + 1 else countN rows wi x n
def maxN (rows : List (List Int)) (wi : Nat) : Nat → Int
 | 0 => 0
 | n + 1 => max (maxN rows wi n) (cellN rows wi n + 1)
def roomN (rows : List (List Int)) (wi : Nat) (x : Int) (t l : Int) : Nat → Int × Int × Int × Int
 | 0 => (t, l, -1, -1)
 | n + 1 => if cellN rows wi n = x then (min (roomN rows wi x t l n).1 (n / wi : Nat), min (roomN rows wi x t l n).2.1 (n % wi : Nat), max (roomN rows wi x t l n).2.2.1 (n / wi : Nat), max (roomN rows wi x t l n).2.2.2 (n % wi : Nat)) else roomN rows wi x t l n
structure Small (p : List ByteArray) (wi : Nat) : Prop where
 high : p.length ≤ 6
 wide : wi ≤ 6
 row : ∀ s ∈ p, s.size = wi
theorem gridOk_small {p : List ByteArray} (h : gridOk p = true) : Small p (wideOf (numsOf p)) := by
 unfold gridOk at h
 rw [Bool.and_eq_true] at h
 obtain ⟨h1, h2, h3, h4, h5⟩ := (shapeOk_iff _).1 h.1
 have hl : (numsOf p).length = p.length := by simp [numsOf]
 exact ⟨by omega, h4, fun s hs => by
  have := h5 (bytesOf s) (by unfold numsOf; simp; exact ⟨s, hs, rfl⟩)
  rw [bytesOf_length] at this
  exact this⟩
theorem Small.rect {p : List ByteArray} {wi : Nat} (h : Small p wi) : Rect wi (numsOf p) := by
 intro r hr
 unfold numsOf at hr
 simp at hr
 obtain ⟨s, hs, rfl⟩ := hr
 rw [bytesOf_length]
 exact h.row s hs
theorem Small.at {p : List ByteArray} {wi : Nat} (h : Small p wi) {i j : Nat} (hi : i < p.length) (hj : j < wi) : ∃ s, p[i]? = some s ∧ s.size = wi ∧ bt s (j : Int) = cellN (numsOf p) wi (i * wi + j) + 97 ∧ 0 ≤ bt s (j : Int) ∧ bt s (j : Int) ≤ 255 := by
 obtain ⟨s, hs⟩ : ∃ s, p[i]? = some s := ⟨_, List.getElem?_eq_getElem hi⟩
 have hsz := h.row s (List.mem_of_getElem? hs)
 obtain ⟨x, hx⟩ : ∃ x, (bytesOf s)[j]? = some x := ⟨_, List.getElem?_eq_getElem (by rw [bytesOf_length]; omega)⟩
 have hv : valAt (numsOf p) i j = x := by
  unfold valAt numsOf
  rw [List.getD_eq_getElem?_getD, List.getD_eq_getElem?_getD, List.getElem?_map, hs]
  simp only [Option.map_some, Option.getD_some]
  rw [hx]
  rfl
 have hr := bytesOf_range s x (List.mem_of_getElem? hx)
 obtain ⟨d1, d2⟩ := divmod_of (r := i) hj
 refine ⟨s, hs, hsz, ?_, ?_, ?_⟩
 ·rw [bt_get hx]; unfold cellN; rw [d1, d2, hv]; omega
 ·rw [bt_get hx]; exact hr.1
 ·rw [bt_get hx]; exact hr.2
theorem Small.row_at {p : List ByteArray} {wi : Nat} (h : Small p wi) {i : Nat} (hi : i < p.length) : ∃ s, p[i]? = some s ∧ s.size = wi := by
 obtain ⟨s, hs⟩ : ∃ s, p[i]? = some s := ⟨_, List.getElem?_eq_getElem hi⟩
 exact ⟨s, hs, h.row s (List.mem_of_getElem? hs)⟩
theorem countN_le (rows : List (List Int)) (wi : Nat) (x : Int) : ∀ n, 0 ≤ countN rows wi x n ∧ countN rows wi x n ≤ n
 | 0 => by simp [countN]
 | n + 1 => by
  have := countN_le rows wi x n
  simp only [countN]
  split <;> omega
theorem cells_l1 (p : List ByteArray) (wi : Nat) (h : Small p wi) (x : Int) (i : Nat) (hi : i < p.length) (r : Int) (hnext : Evs (fun k => spec_l1Cells.l0 k p x (countN (numsOf p) wi x ((i + 1) * wi)) ((i + 1 : Nat) : Int)) r) :
  ∀ m j, j + m = wi → Evs (fun k => spec_l1Cells.l1 k p x (countN (numsOf p) wi x (i * wi + j)) (i : Int) (j : Int)) r := by
 have h6 := h.high
 have w6 := h.wide
 intro m
 induction m with
 | zero =>
  intro j hj
  obtain ⟨s, hs, hsz⟩ := h.row_at hi
  rw [show i * wi + j = (i + 1) * wi by rw [Nat.succ_mul]; omega]
  refine Evs.step (h := fun k => spec_l1Cells.l0 k p x (countN (numsOf p) wi x ((i + 1) * wi)) ((i + 1 : Nat) : Int)) (fun k => ?_) hnext
  conv => lhs; unfold spec_l1Cells.l1
  rw [if_pos (by omega), if_pos (by omega), rdOf_at hs, if_neg (by omega), wrap_succ (by omega)]
 | succ m ih =>
  intro j hj
  obtain ⟨s, hs, hsz, hb, hb0, hb1⟩ := h.at hi (show j < wi by omega)
  have hc := countN_le (numsOf p) wi x (i * wi + j)
  have hle : i * wi + j ≤ 36 + 6 := by
   have := Nat.mul_le_mul (show i ≤ 6 by omega) w6
   omega
  have hnx := ih (j + 1) (by omega)
  have hsucc : countN (numsOf p) wi x (i * wi + (j + 1)) = if cellN (numsOf p) wi (i * wi + j) = x then countN (numsOf p) wi x (i * wi + j) + 1 else countN (numsOf p) wi x (i * wi + j) := rfl
  rw [hsucc] at hnx
  refine Evs.step (h := fun k => spec_l1Cells.l1 k p x (if cellN (numsOf p) wi (i * wi + j) = x then countN (numsOf p) wi x (i * wi + j) + 1 else countN (numsOf p) wi x (i * wi + j)) (i : Int) ((j + 1 : Nat) : Int)) (fun k => ?_) hnx
  conv => lhs; unfold spec_l1Cells.l1
  rw [if_pos (by omega), if_pos (by omega), rdOf_at hs, if_pos (by omega), if_pos (by omega), wrap64_small (x := bt s (j : Int)) (by omega) (by omega), wrap64_small (x := bt s (j : Int) - 97) (by omega) (by omega), show bt s (j : Int) - 97 = cellN (numsOf p) wi (i * wi + j) by omega, wrap_succ (by omega)]
  by_cases hx : cellN (numsOf p) wi (i * wi + j) = x
  ·rw [if_pos hx, if_pos hx, wrap64_small (by omega) (by omega)]
  ·rw [if_neg hx, if_neg hx]
theorem cells_l0 (p : List ByteArray) (wi : Nat) (h : Small p wi) (x : Int) : ∀ m i, i + m = p.length → Evs (fun k => spec_l1Cells.l0 k p x (countN (numsOf p) wi x (i * wi)) (i : Int)) (countN (numsOf p) wi x (p.length * wi)) := by
 have h6 := h.high
 intro m
 induction m with
 | zero =>
  intro i hi
  obtain rfl : i = p.length := by omega
  refine Evs.step (h := fun _ => some (countN (numsOf p) wi x (p.length * wi))) (fun k => ?_) (Evs.const _)
  conv => lhs; unfold spec_l1Cells.l0
  rw [if_neg (by omega)]
 | succ m ih =>
  intro i hi
  refine Evs.step (h := fun k => spec_l1Cells.l1 k p x (countN (numsOf p) wi x (i * wi)) (i : Int) ((0 : Nat) : Int)) (fun k => ?_) (cells_l1 p wi h x i (by omega) _ (ih (i + 1) (by omega)) wi 0 (by omega))
  conv => lhs; unfold spec_l1Cells.l0
  rw [if_pos (by omega)]
  rfl
theorem l1Cells_ev (p : List ByteArray) (wi : Nat) (h : Small p wi) (x : Int) : Evs (fun k => spec_l1Cells.f k p x) (countN (numsOf p) wi x (p.length * wi)) := by
 have := cells_l0 p wi h x p.length 0 (by omega)
 show Evs (fun k => spec_l1Cells.l0 k p x 0 0) _
 simpa [countN] using this
theorem mx_max (a b : Int) : mx a b = max a b := by unfold mx; omega
theorem mn_min (a b : Int) : mn a b = min a b := by unfold mn; omega
theorem rooms_l1 (p : List ByteArray) (wi : Nat) (h : Small p wi) (i : Nat) (hi : i < p.length) (r : Int) (hnext : Evs (fun k => spec_l1Rooms.l0 k p (maxN (numsOf p) wi ((i + 1) * wi)) ((i + 1 : Nat) : Int)) r) :
  ∀ m j, j + m = wi → Evs (fun k => spec_l1Rooms.l1 k p (maxN (numsOf p) wi (i * wi + j)) (i : Int) (j : Int)) r := by
 have h6 := h.high
 have w6 := h.wide
 intro m
 induction m with
 | zero =>
  intro j hj
  obtain ⟨s, hs, hsz⟩ := h.row_at hi
  rw [show i * wi + j = (i + 1) * wi by rw [Nat.succ_mul]; omega]
  refine Evs.step (h := fun k => spec_l1Rooms.l0 k p (maxN (numsOf p) wi ((i + 1) * wi)) ((i + 1 : Nat) : Int)) (fun k => ?_) hnext
  conv => lhs; unfold spec_l1Rooms.l1
  rw [if_pos (by omega), if_pos (by omega), rdOf_at hs, if_neg (by omega), wrap_succ (by omega)]
 | succ m ih =>
  intro j hj
  obtain ⟨s, hs, hsz, hb, hb0, hb1⟩ := h.at hi (show j < wi by omega)
  refine Evs.step (h := fun k => spec_l1Rooms.l1 k p (maxN (numsOf p) wi (i * wi + (j + 1))) (i : Int) ((j + 1 : Nat) : Int)) (fun k => ?_) (ih (j + 1) (by omega))
  conv => lhs; unfold spec_l1Rooms.l1
  rw [if_pos (by omega), if_pos (by omega), rdOf_at hs, if_pos (by omega), if_pos (by omega), wrap64_small (x := bt s (j : Int)) (by omega) (by omega), wrap64_small (x := bt s (j : Int) - 97) (by omega) (by omega), wrap64_small (x := bt s (j : Int) - 97 + 1) (by omega) (by omega), show bt s (j : Int) - 97 = cellN (numsOf p) wi (i * wi + j) by omega, wrap_succ (by omega), mx_max]
  rfl
theorem rooms_l0 (p : List ByteArray) (wi : Nat) (h : Small p wi) : ∀ m i, i + m = p.length → Evs (fun k => spec_l1Rooms.l0 k p (maxN (numsOf p) wi (i * wi)) (i : Int)) (maxN (numsOf p) wi (p.length * wi)) := by
 have h6 := h.high
 intro m
 induction m with
 | zero =>
  intro i hi
  obtain rfl : i = p.length := by omega
  refine Evs.step (h := fun _ => some (maxN (numsOf p) wi (p.length * wi))) (fun k => ?_) (Evs.const _)
  conv => lhs; unfold spec_l1Rooms.l0
  rw [if_neg (by omega)]
 | succ m ih =>
  intro i hi
  refine Evs.step (h := fun k => spec_l1Rooms.l1 k p (maxN (numsOf p) wi (i * wi)) (i : Int) ((0 : Nat) : Int)) (fun k => ?_) (rooms_l1 p wi h i (by omega) _ (ih (i + 1) (by omega)) wi 0 (by omega))
  conv => lhs; unfold spec_l1Rooms.l0
  rw [if_pos (by omega)]
  rfl
theorem l1Rooms_ev (p : List ByteArray) (wi : Nat) (h : Small p wi) : Evs (fun k => spec_l1Rooms.f k p) (maxN (numsOf p) wi (p.length * wi)) := by
 have := rooms_l0 p wi h p.length 0 (by omega)
 show Evs (fun k => spec_l1Rooms.l0 k p 0 0) _
 simpa [maxN] using this
def roomOut (q : Int × Int × Int × Int) : Int × Int × Int × Int := (q.1, q.2.1, q.2.2.1 - q.1 + 1, q.2.2.2 - q.2.1 + 1)
theorem roomN_le {p : List ByteArray} {wi : Nat} (h : Small p wi) (x t l : Int) (ht : 0 ≤ t) (ht2 : t ≤ 6) (hl : 0 ≤ l) (hl2 : l ≤ 6) : ∀ n, n ≤ p.length * wi → let q := roomN (numsOf p) wi x t l n; 0 ≤ q.1 ∧ q.1 ≤ 6 ∧ 0 ≤ q.2.1 ∧ q.2.1 ≤ 6 ∧ -1 ≤ q.2.2.1 ∧ q.2.2.1 ≤ 6 ∧ -1 ≤ q.2.2.2 ∧ q.2.2.2 ≤ 6
 | 0, _ => by simp only [roomN]; omega
 | n + 1, hn => by
  have ih := roomN_le h x t l ht ht2 hl hl2 n (by omega)
  have hwi : 0 < wi := by
   rcases Nat.eq_zero_or_pos wi with h0 | h0
   ·subst h0; simp at hn
   ·exact h0
  have h1 : n / wi < p.length := by rw [Nat.div_lt_iff_lt_mul hwi]; omega
  have h2 : n % wi < wi := Nat.mod_lt _ hwi
  have h3 := h.high
  have h4 := h.wide
  simp only [roomN] at ih ⊢
  generalize n / wi = a at *
  generalize n % wi = b at *
  split
  ·dsimp only
   omega
  ·exact ih
theorem room_l1 (p : List ByteArray) (wi : Nat) (h : Small p wi) (x t l : Int) (ht : 0 ≤ t) (ht2 : t ≤ 6) (hl : 0 ≤ l) (hl2 : l ≤ 6) (i : Nat) (hi : i < p.length) (r : Int × Int × Int × Int) (hnext : let q := roomN (numsOf p) wi x t l ((i + 1) * wi); Evs (fun k => spec_l1Room.l0 k p x q.1 q.2.1 q.2.2.1 q.2.2.2 ((i + 1 : Nat) : Int)) r) :
  ∀ m j, j + m = wi → let q := roomN (numsOf p) wi x t l (i * wi + j); Evs (fun k => spec_l1Room.l1 k p x q.1 q.2.1 q.2.2.1 q.2.2.2 (i : Int) (j : Int)) r := by
 have h6 := h.high
 have w6 := h.wide
 intro m
 induction m with
 | zero =>
  intro j hj
  obtain ⟨s, hs, hsz⟩ := h.row_at hi
  rw [show i * wi + j = (i + 1) * wi by rw [Nat.succ_mul]; omega]
  intro q
  refine Evs.step (h := fun k => spec_l1Room.l0 k p x q.1 q.2.1 q.2.2.1 q.2.2.2 ((i + 1 : Nat) : Int)) (fun k => ?_) hnext
  conv => lhs; unfold spec_l1Room.l1
  rw [if_pos (by omega), if_pos (by omega), rdOf_at hs, if_neg (by omega), wrap_succ (by omega)]
 | succ m ih =>
  intro j hj q
  obtain ⟨s, hs, hsz, hb, hb0, hb1⟩ := h.at hi (show j < wi by omega)
  have hnx := ih (j + 1) (by omega)
  obtain ⟨d1, d2⟩ := divmod_of (r := i) (show j < wi by omega)
  have hsucc : roomN (numsOf p) wi x t l (i * wi + (j + 1)) = if cellN (numsOf p) wi (i * wi + j) = x then (min q.1 (i : Int), min q.2.1 (j : Int), max q.2.2.1 (i : Int), max q.2.2.2 (j : Int)) else q := by
   show roomN (numsOf p) wi x t l (i * wi + j + 1) = _
   simp only [roomN]
   rw [d1, d2]
  rw [hsucc] at hnx
  generalize q = q at *
  refine Evs.step (h := fun k => spec_l1Room.l1 k p x (if cellN (numsOf p) wi (i * wi + j) = x then (min q.1 (i : Int), min q.2.1 (j : Int), max q.2.2.1 (i : Int), max q.2.2.2 (j : Int)) else q).1 (if cellN (numsOf p) wi (i * wi + j) = x then (min q.1 (i : Int), min q.2.1 (j : Int), max q.2.2.1 (i : Int), max q.2.2.2 (j : Int)) else q).2.1 (if cellN (numsOf p) wi (i * wi + j) = x then (min q.1 (i : Int), min q.2.1 (j : Int), max q.2.2.1 (i : Int), max q.2.2.2 (j : Int)) else q).2.2.1 (if cellN (numsOf p) wi (i * wi + j) = x then (min q.1 (i : Int), min q.2.1 (j : Int), max q.2.2.1 (i : Int), max q.2.2.2 (j : Int)) else q).2.2.2 (i : Int) ((j + 1 : Nat) : Int)) (fun k => ?_) hnx
  conv => lhs; unfold spec_l1Room.l1
  rw [if_pos (by omega), if_pos (by omega), rdOf_at hs, if_pos (by omega), if_pos (by omega), wrap64_small (x := bt s (j : Int)) (by omega) (by omega), wrap64_small (x := bt s (j : Int) - 97) (by omega) (by omega), show bt s (j : Int) - 97 = cellN (numsOf p) wi (i * wi + j) by omega, wrap_succ (by omega)]
  by_cases hx : cellN (numsOf p) wi (i * wi + j) = x
  ·rw [if_pos hx, if_pos hx, mn_min, mn_min, mx_max, mx_max]
  ·rw [if_neg hx, if_neg hx]
theorem room_l0 (p : List ByteArray) (wi : Nat) (h : Small p wi) (x t l : Int) (ht : 0 ≤ t) (ht2 : t ≤ 6) (hl : 0 ≤ l) (hl2 : l ≤ 6) : ∀ m i, i + m = p.length → let q := roomN (numsOf p) wi x t l (i * wi); Evs (fun k => spec_l1Room.l0 k p x q.1 q.2.1 q.2.2.1 q.2.2.2 (i : Int)) (roomOut (roomN (numsOf p) wi x t l (p.length * wi))) := by
 have h6 := h.high
 intro m
 induction m with
 | zero =>
  intro i hi q
  obtain rfl : i = p.length := by omega
  have hq := roomN_le h x t l ht ht2 hl hl2 (p.length * wi) (Nat.le_refl _)
  refine Evs.step (h := fun _ => some (roomOut q)) (fun k => ?_) (Evs.const _)
  conv => lhs; unfold spec_l1Room.l0
  have hq' : 0 ≤ q.1 ∧ q.1 ≤ 6 ∧ 0 ≤ q.2.1 ∧ q.2.1 ≤ 6 ∧ -1 ≤ q.2.2.1 ∧ q.2.2.1 ≤ 6 ∧ -1 ≤ q.2.2.2 ∧ q.2.2.2 ≤ 6 := hq
  clear hq
  generalize q = q at *
  rw [if_neg (by omega), wrap64_small (x := q.2.2.1 - q.1) (by omega) (by omega), wrap64_small (x := q.2.2.1 - q.1 + 1) (by omega) (by omega), wrap64_small (x := q.2.2.2 - q.2.1) (by omega) (by omega), wrap64_small (x := q.2.2.2 - q.2.1 + 1) (by omega) (by omega)]
  rfl
 | succ m ih =>
  intro i hi q
  refine Evs.step (h := fun k => spec_l1Room.l1 k p x q.1 q.2.1 q.2.2.1 q.2.2.2 (i : Int) ((0 : Nat) : Int)) (fun k => ?_) (room_l1 p wi h x t l ht ht2 hl hl2 i (by omega) _ (ih (i + 1) (by omega)) wi 0 (by omega))
  conv => lhs; unfold spec_l1Room.l0
  rw [if_pos (by omega)]
  rfl
theorem l1Room_ev (p : List ByteArray) (wi : Nat) (h : Small p wi) (h1 : 1 ≤ p.length) (x : Int) : Evs (fun k => spec_l1Room.f k p x) (roomOut (roomN (numsOf p) wi x (p.length : Int) (wi : Int) (p.length * wi))) := by
 have h6 := h.high
 have w6 := h.wide
 have := room_l0 p wi h x (p.length : Int) (wi : Int) (by omega) (by omega) (by omega) (by omega) p.length 0 (by omega)
 obtain ⟨s, hs, hsz⟩ := h.row_at (i := 0) (by omega)
 refine Evs.congr (fun k => ?_) this
 unfold spec_l1Room.f
 have e := rdOf_at hs
 simp only [Int.ofNat_zero, Int.natCast_zero] at e
 rw [if_pos (by omega), e, hsz]
 simp [roomN]
theorem same_l0 (p q : List ByteArray) (hl : p.length = q.length) (hb : p.length ≤ 1048576) : ∀ m i, i + m = p.length → p.take i = q.take i → Evs (fun k => spec_l1Same.l0 k p q (i : Int)) (decide (p = q)) := by
 intro m
 induction m with
 | zero =>
  intro i hi ht
  have e : p = q := by
   rw [show i = p.length by omega, List.take_length, hl, List.take_length] at ht
   exact ht
  refine Evs.step (h := fun _ => some (decide (p = q))) (fun k => ?_) (Evs.const _)
  conv => lhs; unfold spec_l1Same.l0
  rw [if_neg (by omega), decide_eq_true e]
 | succ m ih =>
  intro i hi ht
  by_cases he : p[i] = q[i]
  ·refine Evs.step (h := fun k => spec_l1Same.l0 k p q ((i + 1 : Nat) : Int)) (fun k => ?_) (ih (i + 1) (by omega) (by
    rw [List.take_add_one, List.take_add_one, ht, List.getElem?_eq_getElem (by omega), List.getElem?_eq_getElem (by omega), he]))
   conv => lhs; unfold spec_l1Same.l0
   rw [if_pos (by omega), if_pos (by omega), if_pos (by omega), rdOf_get p i (by omega), rdOf_get q i (by omega), if_pos (toList_inj.2 he), wrap_succ (by omega)]
  ·have hne : p ≠ q := by rintro rfl; exact he rfl
   refine Evs.step (h := fun _ => some (decide (p = q))) (fun k => ?_) (Evs.const _)
   conv => lhs; unfold spec_l1Same.l0
   rw [if_pos (by omega), if_pos (by omega), if_pos (by omega), rdOf_get p i (by omega), rdOf_get q i (by omega), if_neg (fun h => he (toList_inj.1 h)), decide_eq_false hne]
theorem l1Same_ev (p q : List ByteArray) (hb : p.length ≤ 1048576) : Evs (fun k => spec_l1Same.f k p q) (decide (p = q)) := by
 by_cases h : p.length = q.length
 ·refine Evs.congr (fun k => ?_) (same_l0 p q h hb p.length 0 (by omega) (by simp))
  unfold spec_l1Same.f
  rw [if_pos (by omega)]
  rfl
 ·have hne : p ≠ q := by rintro rfl; exact h rfl
  refine Evs.congr (h := fun _ => some (decide (p = q))) (fun k => ?_) (Evs.const _)
  unfold spec_l1Same.f
  rw [if_neg (by omega), decide_eq_false hne]
def sumI (f : Nat → Int) : Nat → Int
 | 0 => 0
 | n + 1 => sumI f n + f n
theorem sumI_add (f g : Nat → Int) : ∀ n, sumI (fun x => f x + g x) n = sumI f n + sumI g n
 | 0 => rfl
 | n + 1 => by simp only [sumI, sumI_add f g n]; omega
theorem sumI_congr {f g : Nat → Int} : ∀ n, (∀ x, x < n → f x = g x) → sumI f n = sumI g n
 | 0, _ => rfl
 | n + 1, h => by simp only [sumI]; rw [sumI_congr n (fun x hx => h x (by omega)), h n (by omega)]
theorem sumI_le {f g : Nat → Int} : ∀ n, (∀ x, x < n → f x ≤ g x) → sumI f n ≤ sumI g n
 | 0, _ => Int.le_refl _
 | n + 1, h => by
  have := sumI_le n (fun x hx => h x (by omega))
  have := h n (by omega)
  simp only [sumI]
  omega
theorem sumI_eq {f g : Nat → Int} : ∀ n, (∀ x, x < n → f x ≤ g x) → sumI f n = sumI g n → ∀ x, x < n → f x = g x
 | 0, _, _, x, hx => by omega
 | n + 1, h, he, x, hx => by
  have h1 := sumI_le n (fun x hx => h x (by omega))
  have h2 := h n (by omega)
  simp only [sumI] at he
  rcases Nat.lt_or_eq_of_le (Nat.lt_succ_iff.1 hx) with h3 | h3
  ·exact sumI_eq n (fun x hx => h x (by omega)) (by omega) x h3
  ·subst h3; omega
theorem sumI_one (v : Int) : ∀ n, sumI (fun x => if v = (x : Int) then 1 else 0) n = if 0 ≤ v ∧ v < n then 1 else 0
 | 0 => by
  simp only [sumI]
  rw [if_neg (by omega)]
 | n + 1 => by
  simp only [sumI, sumI_one v n]
  by_cases h : v = (n : Int)
  ·rw [if_neg (by omega), if_pos h, if_pos (by omega)]; omega
  ·rw [if_neg h]
   by_cases h2 : 0 ≤ v ∧ v < n
   ·rw [if_pos h2, if_pos (by omega)]; omega
   ·rw [if_neg h2, if_neg (by omega)]; omega
theorem count_sum (rows : List (List Int)) (wi n : Nat) : ∀ N, (∀ m, m < N → 0 ≤ cellN rows wi m ∧ cellN rows wi m < n) → sumI (fun x => countN rows wi (x : Int) N) n = N
 | 0, _ => by
  have : sumI (fun x => countN rows wi (x : Int) 0) n = sumI (fun _ => 0) n := rfl
  rw [this]
  have h0 : ∀ n, sumI (fun _ => 0) n = 0 := fun n => by induction n with
   | zero => rfl
   | succ n ih => simp only [sumI, ih]; rfl
  rw [h0]
  rfl
 | N + 1, h => by
  have ih := count_sum rows wi n N (fun m hm => h m (by omega))
  have h1 := h N (by omega)
  have h2 := sumI_one (cellN rows wi N) n
  rw [if_pos h1] at h2
  have h3 : sumI (fun x => countN rows wi (x : Int) (N + 1)) n = sumI (fun x => countN rows wi (x : Int) N + (if cellN rows wi N = (x : Int) then 1 else 0)) n := by
   apply sumI_congr
   intro x hx
   simp only [countN]
   split <;> omega
  rw [h3, sumI_add, ih, h2]
  omega
def inBox (b : Rc) (wi m : Nat) : Prop := b.f0 ≤ (m / wi : Nat) ∧ ((m / wi : Nat) : Int) < b.f0 + b.f2 ∧ b.f1 ≤ (m % wi : Nat) ∧ ((m % wi : Nat) : Int) < b.f1 + b.f3
instance (b : Rc) (wi m : Nat) : Decidable (inBox b wi m) := by unfold inBox; exact inferInstance
def countB (b : Rc) (wi : Nat) : Nat → Int
 | 0 => 0
 | n + 1 => if inBox b wi n then countB b wi n + 1 else countB b wi n
theorem countN_le_B (rows : List (List Int)) (wi : Nat) (x : Int) (b : Rc) : ∀ n, (∀ m, m < n → cellN rows wi m = x → inBox b wi m) → countN rows wi x n ≤ countB b wi n
 | 0, _ => Int.le_refl _
 | n + 1, h => by
  have ih := countN_le_B rows wi x b n (fun m hm => h m (by omega))
  simp only [countN, countB]
  by_cases hx : cellN rows wi n = x
  ·rw [if_pos hx, if_pos (h n (by omega) hx)]; omega
  ·rw [if_neg hx]
   split <;> omega
def clamp (a n : Int) : Int := max 0 (min a n)
theorem countB_at (b : Rc) (hi wi : Nat) (hb : boundR b hi wi) : ∀ i j, i ≤ hi → j ≤ wi → (i < hi ∨ j = 0) → countB b wi (i * wi + j) = clamp ((i : Int) - b.f0) b.f2 * b.f3 + (if b.f0 ≤ i ∧ (i : Int) < b.f0 + b.f2 then clamp ((j : Int) - b.f1) b.f3 else 0) := by
 obtain ⟨b0, b1, b2, b3, b4, b5⟩ := hb
 intro i
 induction i with
 | zero =>
  intro j
  induction j with
  | zero =>
   intro _ _ _
   have h1 : clamp (((0 : Nat) : Int) - b.f0) b.f2 = 0 := by unfold clamp; omega
   have h2 : clamp (((0 : Nat) : Int) - b.f1) b.f3 = 0 := by unfold clamp; omega
   rw [h1, h2]
   simp [countB]
  | succ j ih =>
   intro h1 h2 h3
   have h := ih h1 (by omega) (by omega)
   obtain ⟨d1, d2⟩ := divmod_of (r := 0) (show j < wi by omega)
   show (if inBox b wi (0 * wi + j) then countB b wi (0 * wi + j) + 1 else countB b wi (0 * wi + j)) = _
   rw [h]
   have hib : inBox b wi (0 * wi + j) ↔ (b.f0 ≤ ((0 : Nat) : Int) ∧ ((0 : Nat) : Int) < b.f0 + b.f2 ∧ b.f1 ≤ (j : Int) ∧ (j : Int) < b.f1 + b.f3) := by unfold inBox; rw [d1, d2]
   by_cases hr : b.f0 ≤ ((0 : Nat) : Int) ∧ ((0 : Nat) : Int) < b.f0 + b.f2
   ·rw [if_pos hr, if_pos hr]
    have : clamp (((j + 1 : Nat) : Int) - b.f1) b.f3 = clamp ((j : Int) - b.f1) b.f3 + (if b.f1 ≤ (j : Int) ∧ (j : Int) < b.f1 + b.f3 then 1 else 0) := by
     unfold clamp; split <;> omega
    rw [this]
    by_cases hc : b.f1 ≤ (j : Int) ∧ (j : Int) < b.f1 + b.f3
    ·rw [if_pos (hib.2 ⟨hr.1, hr.2, hc.1, hc.2⟩), if_pos hc]; omega
    ·rw [if_neg (fun h => hc ⟨(hib.1 h).2.2.1, (hib.1 h).2.2.2⟩), if_neg hc]; omega
   ·rw [if_neg hr, if_neg hr, if_neg (fun h => hr ⟨(hib.1 h).1, (hib.1 h).2.1⟩)]
 | succ i ihi =>
  intro j
  induction j with
  | zero =>
   intro h1 _ _
   have h := ihi wi (by omega) (Nat.le_refl _) (by omega)
   rw [show (i + 1) * wi + 0 = i * wi + wi by rw [Nat.succ_mul]; omega, h]
   have e2 : clamp (((0 : Nat) : Int) - b.f1) b.f3 = 0 := by unfold clamp; omega
   have e3 : clamp ((wi : Int) - b.f1) b.f3 = b.f3 := by unfold clamp; omega
   rw [e2, e3]
   have e4 : (if b.f0 ≤ ((i + 1 : Nat) : Int) ∧ ((i + 1 : Nat) : Int) < b.f0 + b.f2 then (0 : Int) else 0) = 0 := by split <;> rfl
   rw [e4]
   by_cases hr : b.f0 ≤ (i : Int) ∧ (i : Int) < b.f0 + b.f2
   ·have e5 : clamp (((i + 1 : Nat) : Int) - b.f0) b.f2 = clamp ((i : Int) - b.f0) b.f2 + 1 := by unfold clamp; omega
    rw [if_pos hr, e5, Int.add_mul]
    omega
   ·have e5 : clamp (((i + 1 : Nat) : Int) - b.f0) b.f2 = clamp ((i : Int) - b.f0) b.f2 := by unfold clamp; omega
    rw [if_neg hr, e5]
  | succ j ih =>
   intro h1 h2 h3
   have h := ih h1 (by omega) (by omega)
   obtain ⟨d1, d2⟩ := divmod_of (r := i + 1) (show j < wi by omega)
   show (if inBox b wi ((i + 1) * wi + j) then countB b wi ((i + 1) * wi + j) + 1 else countB b wi ((i + 1) * wi + j)) = _
   rw [h]
   have hib : inBox b wi ((i + 1) * wi + j) ↔ (b.f0 ≤ ((i + 1 : Nat) : Int) ∧ ((i + 1 : Nat) : Int) < b.f0 + b.f2 ∧ b.f1 ≤ (j : Int) ∧ (j : Int) < b.f1 + b.f3) := by unfold inBox; rw [d1, d2]
   by_cases hr : b.f0 ≤ ((i + 1 : Nat) : Int) ∧ ((i + 1 : Nat) : Int) < b.f0 + b.f2
   ·rw [if_pos hr, if_pos hr]
    have : clamp (((j + 1 : Nat) : Int) - b.f1) b.f3 = clamp ((j : Int) - b.f1) b.f3 + (if b.f1 ≤ (j : Int) ∧ (j : Int) < b.f1 + b.f3 then 1 else 0) := by
     unfold clamp; split <;> omega
    rw [this]
    by_cases hc : b.f1 ≤ (j : Int) ∧ (j : Int) < b.f1 + b.f3
    ·rw [if_pos (hib.2 ⟨hr.1, hr.2, hc.1, hc.2⟩), if_pos hc]; omega
    ·rw [if_neg (fun h => hc ⟨(hib.1 h).2.2.1, (hib.1 h).2.2.2⟩), if_neg hc]; omega
   ·rw [if_neg hr, if_neg hr, if_neg (fun h => hr ⟨(hib.1 h).1, (hib.1 h).2.1⟩)]
theorem countB_all (b : Rc) (hi wi : Nat) (hb : boundR b hi wi) : countB b wi (hi * wi) = areaR b := by
 have := countB_at b hi wi hb hi 0 (Nat.le_refl _) (by omega) (Or.inr rfl)
 obtain ⟨b0, b1, b2, b3, b4, b5⟩ := hb
 rw [Nat.add_zero] at this
 have h2 : clamp (((0 : Nat) : Int) - b.f1) b.f3 = 0 := by unfold clamp; omega
 have h3 : clamp ((hi : Int) - b.f0) b.f2 = b.f2 := by unfold clamp; omega
 rw [this, h2, h3]
 unfold areaR
 split <;> omega
theorem maxN_ge (rows : List (List Int)) (wi : Nat) : ∀ n m, m < n → cellN rows wi m + 1 ≤ maxN rows wi n
 | 0, m, h => by omega
 | n + 1, m, h => by
  simp only [maxN]
  rcases Nat.lt_or_eq_of_le (Nat.lt_succ_iff.1 h) with h1 | h1
  ·have := maxN_ge rows wi n m h1; omega
  ·subst h1; omega
theorem maxN_ub (rows : List (List Int)) (wi : Nat) (M : Int) (hM : 0 ≤ M) : ∀ n, (∀ m, m < n → cellN rows wi m + 1 ≤ M) → maxN rows wi n ≤ M
 | 0, _ => hM
 | n + 1, h => by
  have := maxN_ub rows wi M hM n (fun m hm => h m (by omega))
  have := h n (by omega)
  simp only [maxN]
  omega
theorem roomN_ge (rows : List (List Int)) (wi : Nat) (x t l : Int) : ∀ n m, m < n → cellN rows wi m = x → (roomN rows wi x t l n).1 ≤ (m / wi : Nat) ∧ (roomN rows wi x t l n).2.1 ≤ (m % wi : Nat) ∧ ((m / wi : Nat) : Int) ≤ (roomN rows wi x t l n).2.2.1 ∧ ((m % wi : Nat) : Int) ≤ (roomN rows wi x t l n).2.2.2
 | 0, m, h, _ => by omega
 | n + 1, m, h, hx => by
  simp only [roomN]
  rcases Nat.lt_or_eq_of_le (Nat.lt_succ_iff.1 h) with h1 | h1
  ·have ih := roomN_ge rows wi x t l n m h1 hx
   generalize roomN rows wi x t l n = q at *
   split
   ·dsimp only; omega
   ·exact ih
  ·subst h1
   rw [if_pos hx]
   dsimp only
   omega
theorem roomN_at (rows : List (List Int)) (wi : Nat) (x t l : Int) : ∀ n,
  ((roomN rows wi x t l n).1 = t ∨ ∃ m, m < n ∧ cellN rows wi m = x ∧ (roomN rows wi x t l n).1 = (m / wi : Nat)) ∧
  ((roomN rows wi x t l n).2.1 = l ∨ ∃ m, m < n ∧ cellN rows wi m = x ∧ (roomN rows wi x t l n).2.1 = (m % wi : Nat)) ∧
  ((roomN rows wi x t l n).2.2.1 = -1 ∨ ∃ m, m < n ∧ cellN rows wi m = x ∧ (roomN rows wi x t l n).2.2.1 = (m / wi : Nat)) ∧
  ((roomN rows wi x t l n).2.2.2 = -1 ∨ ∃ m, m < n ∧ cellN rows wi m = x ∧ (roomN rows wi x t l n).2.2.2 = (m % wi : Nat))
 | 0 => ⟨.inl rfl, .inl rfl, .inl rfl, .inl rfl⟩
 | n + 1 => by
  obtain ⟨h1, h2, h3, h4⟩ := roomN_at rows wi x t l n
  simp only [roomN]
  generalize roomN rows wi x t l n = q at *
  by_cases hx : cellN rows wi n = x
  ·rw [if_pos hx]
   dsimp only
   refine ⟨?_, ?_, ?_, ?_⟩
   ·by_cases hc : q.1 ≤ ((n / wi : Nat) : Int)
    ·rw [Int.min_eq_left hc]
     rcases h1 with h | ⟨m, a, b, c⟩
     ·exact .inl h
     ·exact .inr ⟨m, by omega, b, c⟩
    ·exact .inr ⟨n, by omega, hx, Int.min_eq_right (by omega)⟩
   ·by_cases hc : q.2.1 ≤ ((n % wi : Nat) : Int)
    ·rw [Int.min_eq_left hc]
     rcases h2 with h | ⟨m, a, b, c⟩
     ·exact .inl h
     ·exact .inr ⟨m, by omega, b, c⟩
    ·exact .inr ⟨n, by omega, hx, Int.min_eq_right (by omega)⟩
   ·by_cases hc : ((n / wi : Nat) : Int) ≤ q.2.2.1
    ·rw [Int.max_eq_left hc]
     rcases h3 with h | ⟨m, a, b, c⟩
     ·exact .inl h
     ·exact .inr ⟨m, by omega, b, c⟩
    ·exact .inr ⟨n, by omega, hx, Int.max_eq_right (by omega)⟩
   ·by_cases hc : ((n % wi : Nat) : Int) ≤ q.2.2.2
    ·rw [Int.max_eq_left hc]
     rcases h4 with h | ⟨m, a, b, c⟩
     ·exact .inl h
     ·exact .inr ⟨m, by omega, b, c⟩
    ·exact .inr ⟨n, by omega, hx, Int.max_eq_right (by omega)⟩
  ·rw [if_neg hx]
   refine ⟨?_, ?_, ?_, ?_⟩
   ·rcases h1 with h | ⟨m, a, b, c⟩
    ·exact .inl h
    ·exact .inr ⟨m, by omega, b, c⟩
   ·rcases h2 with h | ⟨m, a, b, c⟩
    ·exact .inl h
    ·exact .inr ⟨m, by omega, b, c⟩
   ·rcases h3 with h | ⟨m, a, b, c⟩
    ·exact .inl h
    ·exact .inr ⟨m, by omega, b, c⟩
   ·rcases h4 with h | ⟨m, a, b, c⟩
    ·exact .inl h
    ·exact .inr ⟨m, by omega, b, c⟩
theorem room_box {rows rows' : List (List Int)} {hi wi : Nat} {x y : Int} {b : Rc} (he : ∀ m, m < hi * wi → (cellN rows wi m = x ↔ valAt rows' (m / wi) (m % wi) = y)) (hb : BoxN rows' wi (hi * wi) y b) (hbd : boundR b hi wi) (t l : Int) (ht : (hi : Int) ≤ t) (hl : (wi : Int) ≤ l) :
  roomOut (roomN rows wi x t l (hi * wi)) = (b.f0, b.f1, b.f2, b.f3) := by
 obtain ⟨b0, b1, b2, b3, b4, b5⟩ := hbd
 obtain ⟨m1, n1, v1, e1⟩ := hb.top
 obtain ⟨m2, n2, v2, e2⟩ := hb.low
 obtain ⟨m3, n3, v3, e3⟩ := hb.left
 obtain ⟨m4, n4, v4, e4⟩ := hb.right
 have g1 := roomN_ge rows wi x t l (hi * wi) m1 n1 ((he m1 n1).2 v1)
 have g2 := roomN_ge rows wi x t l (hi * wi) m2 n2 ((he m2 n2).2 v2)
 have g3 := roomN_ge rows wi x t l (hi * wi) m3 n3 ((he m3 n3).2 v3)
 have g4 := roomN_ge rows wi x t l (hi * wi) m4 n4 ((he m4 n4).2 v4)
 obtain ⟨a1, a2, a3, a4⟩ := roomN_at rows wi x t l (hi * wi)
 have key : ∀ m, m < hi * wi → cellN rows wi m = x → b.f0 ≤ (m / wi : Nat) ∧ ((m / wi : Nat) : Int) < b.f0 + b.f2 ∧ b.f1 ≤ (m % wi : Nat) ∧ ((m % wi : Nat) : Int) < b.f1 + b.f3 := fun m hm hx => hb.ins m hm ((he m hm).1 hx)
 generalize roomN rows wi x t l (hi * wi) = q at *
 have r1 : q.1 = b.f0 := by
  rcases a1 with h | ⟨m, n, v, e⟩
  ·omega
  ·have := key m n v; omega
 have r2 : q.2.1 = b.f1 := by
  rcases a2 with h | ⟨m, n, v, e⟩
  ·omega
  ·have := key m n v; omega
 have r3 : q.2.2.1 = b.f0 + b.f2 - 1 := by
  rcases a3 with h | ⟨m, n, v, e⟩
  ·omega
  ·have := key m n v; omega
 have r4 : q.2.2.2 = b.f1 + b.f3 - 1 := by
  rcases a4 with h | ⟨m, n, v, e⟩
  ·omega
  ·have := key m n v; omega
 unfold roomOut
 rw [r1, r2, r3, r4]
 congr 3
 ·omega
 ·omega
theorem letterOf_toNat {x : Int} (h0 : 0 ≤ x) (h1 : x ≤ 100) : ((letterOf x).toNat : Int) = 97 + x := by
 unfold letterOf
 rw [UInt8.toNat_ofNat']
 omega
theorem bytesOf_rowText (row : List Int) (h : ∀ x ∈ row, 0 ≤ x ∧ x ≤ 100) : bytesOf (rowText row) = row.map (fun x => 97 + x) := by
 unfold bytesOf rowText rowBytes
 show ((row.map letterOf).toArray.toList).map _ = _
 rw [List.map_map]
 apply List.map_congr_left
 intro x hx
 exact letterOf_toNat (h x hx).1 (h x hx).2
theorem numsOf_textOf (cs : List (List Int)) (h : ∀ r ∈ cs, ∀ x ∈ r, 0 ≤ x ∧ x ≤ 100) : numsOf (textOf cs) = cs.map (fun r => r.map (fun x => 97 + x)) := by
 unfold numsOf textOf
 rw [List.map_map]
 apply List.map_congr_left
 intro r hr
 exact bytesOf_rowText r (h r hr)
theorem canon_val {rows : List (List Int)} (h : shapeOk rows = true) : ∀ r ∈ canon rows, ∀ x ∈ r, 0 ≤ x ∧ x ≤ 100 := by
 have hL := shape_order h
 intro r hr x hx
 unfold canon canonL at hr
 simp at hr
 obtain ⟨a, _, rfl⟩ := hr
 simp at hx
 obtain ⟨y, _, rfl⟩ := hx
 have := List.idxOf_le_length (a := y) (l := ordAll rows)
 omega
structure Canon (p : List ByteArray) : Prop where
 grid : gridOk p = true
 names : namesOf p = p
theorem Canon.shape {p : List ByteArray} (h : Canon p) : shapeOk (numsOf p) = true := by
 have := h.grid
 unfold gridOk at this
 rw [Bool.and_eq_true] at this
 exact this.1
theorem numsOf_length (p : List ByteArray) : (numsOf p).length = p.length := by simp [numsOf]
theorem Canon.cell {p : List ByteArray} (h : Canon p) : ∀ m, m < p.length * wideOf (numsOf p) → cellN (numsOf p) (wideOf (numsOf p)) m = ((ordAll (numsOf p)).idxOf (valAt (numsOf p) (m / wideOf (numsOf p)) (m % wideOf (numsOf p))) : Int) := by
 intro m hm
 have hR := shape_rect h.shape
 have h1 : numsOf p = (canon (numsOf p)).map (fun r => r.map (fun x => 97 + x)) := by
  have := numsOf_textOf (canon (numsOf p)) (canon_val h.shape)
  rw [show textOf (canon (numsOf p)) = p from h.names] at this
  exact this
 have hwi : 0 < wideOf (numsOf p) := by
  rcases Nat.eq_zero_or_pos (wideOf (numsOf p)) with h0 | h0
  ·rw [h0] at hm; simp at hm
  ·exact h0
 have hr : m / wideOf (numsOf p) < (numsOf p).length := by rw [numsOf_length, Nat.div_lt_iff_lt_mul hwi]; exact hm
 have hc := Nat.mod_lt m hwi
 have hcr : Rect (wideOf (numsOf p)) (canon (numsOf p)) := by rw [canon_grid hR]; exact gridOf_rect _ _ _
 have h2 := rect_map hcr (fun x => 97 + x)
 rw [← h1] at h2
 have hcl : (canon (numsOf p)).length = (numsOf p).length := by simp [canon, canonL]
 unfold cellN
 have h3 := congrArg (fun R => valAt R (m / wideOf (numsOf p)) (m % wideOf (numsOf p))) h2
 have h4 := congrArg (fun R => valAt R (m / wideOf (numsOf p)) (m % wideOf (numsOf p))) (canon_grid hR)
 try dsimp only at h3 h4
 rw [valAt_gridOf (by rw [hcl]; exact hr) hc] at h3
 rw [valAt_gridOf hr hc] at h4
 omega
theorem rooms_len {rows : List (List Int)} (h : shapeOk rows = true) : (ordAll rows).length = (roomsOf rows).length := by
 rw [← stAt_all (shape_rect h)]
 exact (stAt_len rows (wideOf rows) _).1
theorem rooms_box {rows : List (List Int)} (h : shapeOk rows = true) (i : Nat) (hi : i < (roomsOf rows).length) : ∃ x, (ordAll rows)[i]? = some x ∧ BoxN rows (wideOf rows) (rows.length * wideOf rows) x ((roomsOf rows).getD i zeroR) ∧ boundR ((roomsOf rows).getD i zeroR) rows.length (wideOf rows) := by
 have hl := rooms_len h
 obtain ⟨x, hx⟩ : ∃ x, (ordAll rows)[i]? = some x := ⟨_, List.getElem?_eq_getElem (by omega)⟩
 have hb : (roomsOf rows)[i]? = some ((roomsOf rows).getD i zeroR) := by
  rw [List.getD_eq_getElem?_getD, List.getElem?_eq_getElem hi]
  rfl
 have hx2 := hx
 rw [← stAt_all (shape_rect h)] at hx2
 exact ⟨x, hx, stAt_box rows (wideOf rows) _ i x _ hx2 hb, (stAt_inv rows rows.length (wideOf rows) _ (Nat.le_refl _)).2.2.2 _ (List.mem_of_getElem? hb)⟩
theorem idx_iff {L : List Int} (hn : L.Nodup) {i : Nat} {x v : Int} (hx : L[i]? = some x) (hv : v ∈ L) : ((L.idxOf v : Int) = (i : Int) ↔ v = x) := by
 have hi := (List.getElem?_eq_some_iff.1 hx).1
 have hk := List.idxOf_lt_length_of_mem hv
 have e : L[L.idxOf v] = v := List.getElem_idxOf hk
 rw [List.getElem?_eq_getElem hi] at hx
 have hx := Option.some.inj hx
 constructor
 ·intro h
  have h : L.idxOf v = i := by omega
  subst h
  rw [← e, hx]
 ·rintro rfl
  have := nodup_inj hn hk hi (e.trans hx.symm)
  omega
theorem ordAll_nodup (rows : List (List Int)) : (ordAll rows).Nodup := ordL_nodup _ _ List.nodup_nil
theorem cell_mem {rows : List (List Int)} (h : shapeOk rows = true) (m : Nat) (hm : m < rows.length * wideOf rows) : valAt rows (m / wideOf rows) (m % wideOf rows) ∈ ordAll rows := by
 have := flatten_get rows (shape_rect h) m hm
 exact ordL_mem _ _ _ (List.mem_of_getElem? this)
theorem mem_cell {rows : List (List Int)} (h : shapeOk rows = true) (x : Int) (hx : x ∈ ordAll rows) : ∃ m, m < rows.length * wideOf rows ∧ valAt rows (m / wideOf rows) (m % wideOf rows) = x := by
 rcases ordL_sub _ _ x hx with h1 | h1
 ·cases h1
 ·obtain ⟨m, hm, e⟩ := List.mem_iff_getElem.1 h1
  have hl := flatten_length_le rows _ (shape_rect h)
  refine ⟨m, by omega, ?_⟩
  have := flatten_get rows (shape_rect h) m (by omega)
  rw [List.getElem?_eq_getElem hm, e] at this
  exact (Option.some.inj this).symm
theorem Canon.max {p : List ByteArray} (h : Canon p) : maxN (numsOf p) (wideOf (numsOf p)) (p.length * wideOf (numsOf p)) = (roomsOf (numsOf p)).length := by
 have hs := h.shape
 have hl := rooms_len hs
 have hc := h.cell
 obtain ⟨s1, s2, s3, s4, s5⟩ := (shapeOk_iff _).1 hs
 rw [numsOf_length] at s1 s2
 have hpos : 0 < p.length * wideOf (numsOf p) := Nat.mul_pos (by omega) (by omega)
 have hub := maxN_ub (numsOf p) (wideOf (numsOf p)) ((roomsOf (numsOf p)).length : Int) (by omega) (p.length * wideOf (numsOf p)) (fun m hm => by
  rw [hc m hm]
  have := List.idxOf_lt_length_of_mem (cell_mem hs m (by rw [numsOf_length]; exact hm))
  omega)
 have h0 := List.idxOf_lt_length_of_mem (cell_mem hs 0 (by rw [numsOf_length]; exact hpos))
 obtain ⟨y, hy⟩ : ∃ y, (ordAll (numsOf p))[(ordAll (numsOf p)).length - 1]? = some y := ⟨_, List.getElem?_eq_getElem (by omega)⟩
 obtain ⟨m, hm, hv⟩ := mem_cell hs y (List.mem_of_getElem? hy)
 rw [numsOf_length] at hm
 have hge := maxN_ge (numsOf p) (wideOf (numsOf p)) _ m hm
 have hi := (idx_iff (ordAll_nodup (numsOf p)) hy (List.mem_of_getElem? hy)).2 rfl
 rw [hc m hm, hv] at hge
 omega
theorem Canon.room {p : List ByteArray} (h : Canon p) (i : Nat) (hi : i < (roomsOf (numsOf p)).length) : let b := (roomsOf (numsOf p)).getD i zeroR
  roomOut (roomN (numsOf p) (wideOf (numsOf p)) (i : Int) (p.length : Int) (wideOf (numsOf p) : Int) (p.length * wideOf (numsOf p))) = (b.f0, b.f1, b.f2, b.f3) ∧ countN (numsOf p) (wideOf (numsOf p)) (i : Int) (p.length * wideOf (numsOf p)) ≤ areaR b ∧ boundR b p.length (wideOf (numsOf p)) := by
 intro b
 have hs := h.shape
 obtain ⟨x, hx, hb, hbd⟩ := rooms_box hs i hi
 rw [numsOf_length] at hb hbd
 have hiff : ∀ m, m < p.length * wideOf (numsOf p) → (cellN (numsOf p) (wideOf (numsOf p)) m = (i : Int) ↔ valAt (numsOf p) (m / wideOf (numsOf p)) (m % wideOf (numsOf p)) = x) := fun m hm => by
  rw [h.cell m hm]
  exact idx_iff (ordAll_nodup _) hx (cell_mem hs m (by rw [numsOf_length]; exact hm))
 refine ⟨room_box hiff hb hbd _ _ (Int.le_refl _) (Int.le_refl _), ?_, hbd⟩
 rw [← countB_all b p.length (wideOf (numsOf p)) hbd]
 exact countN_le_B _ _ _ _ _ (fun m hm hv => hb.ins m hm ((hiff m hm).1 hv))
theorem Canon.sum {p : List ByteArray} (h : Canon p) : sumI (fun x => countN (numsOf p) (wideOf (numsOf p)) (x : Int) (p.length * wideOf (numsOf p))) (roomsOf (numsOf p)).length = ((p.length * wideOf (numsOf p) : Nat) : Int) := by
 refine count_sum _ _ _ _ (fun m hm => ?_)
 rw [h.cell m hm]
 have := List.idxOf_lt_length_of_mem (cell_mem h.shape m (by rw [numsOf_length]; exact hm))
 have := rooms_len h.shape
 omega
theorem sumArea_sumI (rs : List Rc) : sumArea rs = sumI (fun x => areaR (rs.getD x zeroR)) rs.length := by
 have : ∀ n, n ≤ rs.length → sumArea (rs.take n) = sumI (fun x => areaR (rs.getD x zeroR)) n := by
  intro n
  induction n with
  | zero => intro _; simp [sumArea, sumI]
  | succ n ih => intro hn; rw [sum_take rs n (by omega), ih (by omega)]; rfl
 have h := this rs.length (Nat.le_refl _)
 rwa [List.take_length] at h
def fullB (p : List ByteArray) (x : Nat) : Bool := decide (countN (numsOf p) (wideOf (numsOf p)) (x : Int) (p.length * wideOf (numsOf p)) = areaR ((roomsOf (numsOf p)).getD x zeroR))
theorem full_iff {p : List ByteArray} (h : Canon p) : (List.range (roomsOf (numsOf p)).length).all (fullB p) = decide (sumArea (roomsOf (numsOf p)) = (p.length : Int) * (wideOf (numsOf p) : Int)) := by
 rw [Bool.eq_iff_iff, List.all_eq_true, decide_eq_true_eq, sumArea_sumI, ← Int.natCast_mul, ← h.sum]
 constructor
 ·intro hall
  refine (sumI_congr _ (fun x hx => ?_)).symm
  have := hall x (List.mem_range.2 hx)
  unfold fullB at this
  exact of_decide_eq_true this
 ·intro he x hx
  have := sumI_eq _ (fun x hx => (h.room x hx).2.1) he.symm x (List.mem_range.1 hx)
  unfold fullB
  exact decide_eq_true this
theorem planIn_l0 {p : List ByteArray} (h : Canon p) : ∀ m r, r + m = (roomsOf (numsOf p)).length → Evs (fun k => spec_PlanIn.l0 k p (r : Int)) (((List.range (roomsOf (numsOf p)).length).drop r).all (fullB p)) := by
 have hsm := gridOk_small h.grid
 obtain ⟨s1, s2, s3, s4, s5⟩ := (shapeOk_iff _).1 h.shape
 rw [numsOf_length] at s1 s2
 have hR := l1Rooms_ev p _ hsm
 rw [h.max] at hR
 have hrl : (roomsOf (numsOf p)).length ≤ 36 := by have := rooms_len h.shape; have := shape_order h.shape; omega
 intro m
 induction m with
 | zero =>
  intro r hr
  rw [List.drop_eq_nil_of_le (by simp; omega)]
  refine Evs.step (h := fun k => (spec_l1Rooms.f k p).bind fun t => if (r : Int) < t then ((spec_l1Room.f k p (r : Int)).bind fun bt161 => ((spec_l1Cells.f k p (r : Int)).bind fun t165 => (if t165 = (wrap64 (bt161.2.2.1 * bt161.2.2.2)) then (spec_PlanIn.l0 k p (wrap64 ((r : Int) + 1))) else (some false)))) else some true) (fun k => ?_) (Evs.bind hR ?_)
  ·conv => lhs; unfold spec_PlanIn.l0
  ·refine Evs.congr (h := fun _ => some true) (fun k => ?_) (Evs.const _)
   try dsimp only
   rw [if_neg (by omega)]
 | succ m ih =>
  intro r hr
  obtain ⟨q1, q2, q3⟩ := h.room r (by omega)
  have hroom := l1Room_ev p _ hsm s1 (r : Int)
  have hcnt := l1Cells_ev p _ hsm (r : Int)
  rw [q1] at hroom
  have hab := area_bound q3 s2 s4
  have hdrop : (List.range (roomsOf (numsOf p)).length).drop r = r :: (List.range (roomsOf (numsOf p)).length).drop (r + 1) := by
   rw [List.drop_eq_getElem_cons (by simp; omega)]
   simp
  rw [hdrop, List.all_cons]
  refine Evs.step (h := fun k => (spec_l1Rooms.f k p).bind fun t => if (r : Int) < t then ((spec_l1Room.f k p (r : Int)).bind fun bt161 => ((spec_l1Cells.f k p (r : Int)).bind fun t165 => (if t165 = (wrap64 (bt161.2.2.1 * bt161.2.2.2)) then (spec_PlanIn.l0 k p (wrap64 ((r : Int) + 1))) else (some false)))) else some true) (fun k => ?_) (Evs.bind hR ?_)
  ·conv => lhs; unfold spec_PlanIn.l0
  ·refine Evs.congr (h := fun k => ((spec_l1Room.f k p (r : Int)).bind fun bt161 => ((spec_l1Cells.f k p (r : Int)).bind fun t165 => (if t165 = (wrap64 (bt161.2.2.1 * bt161.2.2.2)) then (spec_PlanIn.l0 k p (wrap64 ((r : Int) + 1))) else (some false))))) (fun k => ?_) ?_
   ·try dsimp only
    rw [if_pos (by omega)]
   ·refine Evs.bind hroom (Evs.bind hcnt ?_)
    try dsimp only
    have hw : wrap64 (((roomsOf (numsOf p)).getD r zeroR).f2 * ((roomsOf (numsOf p)).getD r zeroR).f3) = areaR ((roomsOf (numsOf p)).getD r zeroR) := by
     have h3 := hab
     unfold areaR at h3 ⊢
     exact wrap64_small (by omega) (by omega)
    rw [hw]
    have hnx := ih (r + 1) (by omega)
    by_cases hf : countN (numsOf p) (wideOf (numsOf p)) (r : Int) (p.length * wideOf (numsOf p)) = areaR ((roomsOf (numsOf p)).getD r zeroR)
    ·have : fullB p r = true := decide_eq_true hf
     rw [this, Bool.true_and]
     refine Evs.congr (fun k => ?_) hnx
     rw [if_pos hf, wrap_succ (by omega)]
    ·have : fullB p r = false := decide_eq_false hf
     rw [this, Bool.false_and]
     refine Evs.congr (h := fun _ => some false) (fun k => ?_) (Evs.const _)
     rw [if_neg hf]
theorem planIn_j0 (k : Nat) (p : List ByteArray) (b : Bool) : spec_PlanIn.j0 (k + 1) p b = if b = true then some false else spec_PlanIn.l0 k p 0 := by simp only [spec_PlanIn.j0]
def planB (p : List ByteArray) : Bool := (floorF p).isSome
theorem settled_shape {rows : List (List Int)} (h : shapeOk rows = true) : settledF rows = if (roomsOf rows).length ≤ 9 then some (canon rows, roomsOf rows, decide (sumArea (roomsOf rows) = (rows.length : Int) * (wideOf rows : Int))) else none := by
 unfold settledF
 rw [if_pos h, cellsOf_canon h]
theorem floorF_grid {p : List ByteArray} (h : gridOk p = true) : floorF p = if (roomsOf (numsOf p)).length ≤ 9 ∧ sumArea (roomsOf (numsOf p)) = (p.length : Int) * (wideOf (numsOf p) : Int) ∧ namesOf p = p then some (canon (numsOf p), roomsOf (numsOf p)) else none := by
 unfold gridOk at h
 rw [Bool.and_eq_true] at h
 unfold floorF readF
 rw [if_pos h.2, settled_shape h.1, numsOf_length]
 by_cases h9 : (roomsOf (numsOf p)).length ≤ 9
 ·rw [if_pos h9]
  simp only [Option.bind_some, decide_eq_true_eq]
  rw [show textOf (canon (numsOf p)) = namesOf p from rfl]
  by_cases hs : sumArea (roomsOf (numsOf p)) = (p.length : Int) * (wideOf (numsOf p) : Int) ∧ namesOf p = p
  ·rw [if_pos hs, if_pos ⟨h9, hs⟩]
  ·rw [if_neg hs, if_neg (fun hh => hs hh.2)]
 ·rw [if_neg h9, if_neg (fun hh => h9 hh.1)]
  rfl
theorem floorF_nogrid {p : List ByteArray} (h : gridOk p = false) : floorF p = none := by
 unfold floorF readF
 unfold gridOk at h
 by_cases ha : p.all okText = true
 ·rw [ha, Bool.and_true] at h
  rw [if_pos ha]
  unfold settledF
  rw [if_neg (by rw [h]; simp)]
  rfl
 ·rw [if_neg ha]
  rfl
theorem PlanIn_ev (p : List ByteArray) (hp : smallP p) : Evs (fun k => spec_PlanIn.f k p) (planB p) := by
 have hg := l1Grid_ev p hp
 cases hG : gridOk p
 ·rw [hG] at hg
  have : planB p = false := by unfold planB; rw [floorF_nogrid hG]; rfl
  rw [this]
  refine Evs.bind hg ?_
  refine Evs.congr (h := fun k => spec_PlanIn.j0 k p true) (fun k => ?_) (Evs.step (h := fun _ => some false) (fun k => ?_) (Evs.const _))
  ·try dsimp only
   rw [if_neg (by simp)]
  ·rw [planIn_j0]
   rw [if_pos rfl]
 ·rw [hG] at hg
  have hs : shapeOk (numsOf p) = true := by
   unfold gridOk at hG
   rw [Bool.and_eq_true] at hG
   exact hG.1
  have hn := l1Names_ev p hp (by have := shape_order hs; omega)
  have hsame := l1Same_ev (namesOf p) p (by simp [namesOf, textOf, canon, canonL, numsOf]; have := hp.1; omega)
  refine Evs.bind hg ?_
  refine Evs.congr (h := fun k => (spec_l1Names.f k p).bind fun t155 => ((spec_l1Same.f k t155 p).bind fun t158 => (if t158 = true then ((spec_l1Rooms.f k p).bind fun t159 => (spec_PlanIn.j0 k p (decide (t159 > 9)))) else (spec_PlanIn.j0 k p true)))) (fun k => ?_) (Evs.bind hn (Evs.bind hsame ?_))
  ·try dsimp only
   rw [if_pos rfl]
  ·unfold planB
   rw [floorF_grid hG]
   by_cases hN : namesOf p = p
   ·have hC : Canon p := ⟨hG, hN⟩
    have hR := l1Rooms_ev p _ (gridOk_small hG)
    rw [hC.max] at hR
    refine Evs.congr (h := fun k => (spec_l1Rooms.f k p).bind fun t159 => (spec_PlanIn.j0 k p (decide (t159 > 9)))) (fun k => ?_) (Evs.bind hR ?_)
    ·try dsimp only
     rw [decide_eq_true hN, if_pos rfl]
    ·by_cases h9 : (roomsOf (numsOf p)).length ≤ 9
     ·refine Evs.step (h := fun k => spec_PlanIn.l0 k p ((0 : Nat) : Int)) (fun k => ?_) ?_
      ·try dsimp only
       rw [planIn_j0]
       rw [decide_eq_false (by omega), if_neg (by simp)]
       rfl
      ·have := planIn_l0 hC (roomsOf (numsOf p)).length 0 (by omega)
       rw [List.drop_zero, full_iff hC] at this
       by_cases hsum : sumArea (roomsOf (numsOf p)) = (p.length : Int) * (wideOf (numsOf p) : Int)
       ·rw [decide_eq_true hsum] at this
        rw [if_pos ⟨h9, hsum, hN⟩]
        exact this
       ·rw [decide_eq_false hsum] at this
        rw [if_neg (fun hh => hsum hh.2.1)]
        exact this
     ·rw [if_neg (fun hh => h9 hh.1)]
      refine Evs.step (h := fun _ => some false) (fun k => ?_) (Evs.const _)
      try dsimp only
      rw [planIn_j0]
      rw [decide_eq_true (by omega), if_pos rfl]
   ·rw [if_neg (fun hh => hN hh.2.2)]
    refine Evs.congr (h := fun k => spec_PlanIn.j0 k p true) (fun k => ?_) (Evs.step (h := fun _ => some false) (fun k => ?_) (Evs.const _))
    ·try dsimp only
     rw [decide_eq_false hN, if_neg (by simp)]
    ·rw [planIn_j0]
     rw [if_pos rfl]
def mapG (f : Int → Int) (rows : List (List Int)) : List (List Int) := rows.map fun r => r.map f
def InjOn (f : Int → Int) (S : Int → Prop) : Prop := ∀ a b, S a → S b → f a = f b → a = b
theorem idxOf_map (f : Int → Int) (S : Int → Prop) (hf : InjOn f S) (x : Int) (hx : S x) : ∀ L : List Int, (∀ y ∈ L, S y) → (L.map f).idxOf (f x) = L.idxOf x
 | [], _ => rfl
 | y :: r, h => by
  rw [List.map_cons, List.idxOf_cons, List.idxOf_cons]
  by_cases he : y = x
  ·subst he; simp
  ·have : f y ≠ f x := fun e => he (hf y x (h y List.mem_cons_self) hx e)
   have h1 : (f y == f x) = false := by simp [this]
   have h2 : (y == x) = false := by simp [he]
   rw [h1, h2, idxOf_map f S hf x hx r (fun z hz => h z (List.mem_cons_of_mem _ hz))]
theorem pushL_map (f : Int → Int) (S : Int → Prop) (hf : InjOn f S) (x : Int) (hx : S x) (o : List Int) (ho : ∀ y ∈ o, S y) : pushL (o.map f) (f x) = (pushL o x).map f := by
 have hiff : f x ∈ o.map f ↔ x ∈ o := by
  rw [List.mem_map]
  constructor
  ·rintro ⟨y, hy, e⟩
   rw [← hf y x (ho y hy) hx e]
   exact hy
  ·exact fun h => ⟨x, h, rfl⟩
 unfold pushL
 by_cases h : x ∈ o
 ·rw [if_pos h, if_pos (hiff.2 h)]
 ·rw [if_neg h, if_neg (fun hh => h (hiff.1 hh))]
  simp
theorem pushL_all {S : Int → Prop} {x : Int} (hx : S x) {o : List Int} (ho : ∀ y ∈ o, S y) : ∀ y ∈ pushL o x, S y := by
 intro y hy
 unfold pushL at hy
 split at hy
 ·exact ho y hy
 ·rcases List.mem_append.1 hy with h | h
  ·exact ho y h
  ·simp at h; subst h; exact hx
theorem ordL_map (f : Int → Int) (S : Int → Prop) (hf : InjOn f S) : ∀ (xs o : List Int), (∀ y ∈ xs, S y) → (∀ y ∈ o, S y) → ordL (xs.map f) (o.map f) = (ordL xs o).map f
 | [], o, _, _ => rfl
 | x :: r, o, h, ho => by
  show ordL (r.map f) (pushL (o.map f) (f x)) = (ordL r (pushL o x)).map f
  have hx := h x List.mem_cons_self
  rw [pushL_map f S hf x hx o ho]
  exact ordL_map f S hf r (pushL o x) (fun z hz => h z (List.mem_cons_of_mem _ hz)) (pushL_all hx ho)
theorem mapG_length (f : Int → Int) (rows : List (List Int)) : (mapG f rows).length = rows.length := by simp [mapG]
theorem mapG_flatten (f : Int → Int) (rows : List (List Int)) : (mapG f rows).flatten = rows.flatten.map f := by
 unfold mapG
 rw [List.map_flatten]
theorem mapG_wide (f : Int → Int) (rows : List (List Int)) : wideOf (mapG f rows) = wideOf rows := by
 unfold wideOf mapG
 cases rows with
 | nil => rfl
 | cons a r => simp
theorem mapG_shape (f : Int → Int) (rows : List (List Int)) : shapeOk (mapG f rows) = shapeOk rows := by
 rw [Bool.eq_iff_iff, shapeOk_iff, shapeOk_iff, mapG_length, mapG_wide]
 have : (∀ r ∈ mapG f rows, r.length = wideOf rows) ↔ (∀ r ∈ rows, r.length = wideOf rows) := by
  constructor
  ·intro h r hr
   have := h (r.map f) (List.mem_map.2 ⟨r, hr, rfl⟩)
   simpa using this
  ·intro h r hr
   obtain ⟨a, ha, rfl⟩ := List.mem_map.1 hr
   rw [List.length_map]
   exact h a ha
 rw [this]
def Vals (rows : List (List Int)) (x : Int) : Prop := x ∈ rows.flatten
theorem ordAll_map {f : Int → Int} {rows : List (List Int)} (hf : InjOn f (Vals rows)) : ordAll (mapG f rows) = (ordAll rows).map f := by
 unfold ordAll
 rw [mapG_flatten]
 exact ordL_map f (Vals rows) hf rows.flatten [] (fun y hy => hy) (by simp)
theorem ordAll_vals (rows : List (List Int)) : ∀ y ∈ ordAll rows, Vals rows y := by
 intro y hy
 rcases ordL_sub _ _ y hy with h | h
 ·cases h
 ·exact h
theorem canon_map {f : Int → Int} {rows : List (List Int)} (hf : InjOn f (Vals rows)) : canon (mapG f rows) = canon rows := by
 unfold canon canonL
 rw [ordAll_map hf]
 unfold mapG
 rw [List.map_map]
 apply List.map_congr_left
 intro r hr
 show (r.map f).map _ = _
 rw [List.map_map]
 apply List.map_congr_left
 intro x hx
 show (((ordAll rows).map f).idxOf (f x) : Int) = _
 rw [idxOf_map f (Vals rows) hf x (List.mem_flatten.2 ⟨r, hr, hx⟩) _ (ordAll_vals rows)]
theorem valAt_map {rows : List (List Int)} {wi r c : Nat} (h : Rect wi rows) (f : Int → Int) (hr : r < rows.length) (hc : c < wi) : valAt (mapG f rows) r c = f (valAt rows r c) := by
 have := congrArg (fun R => valAt R r c) (rect_map h f)
 unfold mapG
 rw [show valAt (rows.map fun r => r.map f) r c = valAt (gridOf rows.length wi fun r c => f (valAt rows r c)) r c from this, valAt_gridOf hr hc]
theorem val_mem {rows : List (List Int)} {wi r c : Nat} (h : Rect wi rows) (hr : r < rows.length) (hc : c < wi) : Vals rows (valAt rows r c) := by
 obtain ⟨row, h1, h2⟩ := valAt_get h hr hc
 exact List.mem_flatten.2 ⟨row, List.mem_of_getElem? h1, List.mem_of_getElem? h2⟩
theorem stAt_map {f : Int → Int} {rows : List (List Int)} {wi : Nat} (h : Rect wi rows) (hf : InjOn f (Vals rows)) : ∀ n, n ≤ rows.length * wi → stAt (mapG f rows) wi n = ((stAt rows wi n).1.map f, (stAt rows wi n).2)
 | 0, _ => rfl
 | n + 1, hn => by
  have hwi : 0 < wi := by
   rcases Nat.eq_zero_or_pos wi with h0 | h0
   ·subst h0; simp at hn
   ·exact h0
  have hr : n / wi < rows.length := by rw [Nat.div_lt_iff_lt_mul hwi]; omega
  have hc := Nat.mod_lt n hwi
  have hvals : ∀ y ∈ (stAt rows wi n).1, Vals rows y := by
   rw [stAt_ord h n (by omega)]
   intro y hy
   rcases ordL_sub _ _ y hy with h1 | h1
   ·cases h1
   ·exact List.mem_of_mem_take h1
  have hv := val_mem h hr hc
  simp only [stAt]
  rw [stAt_map h hf n (by omega), valAt_map h f hr hc]
  have hiff : f (valAt rows (n / wi) (n % wi)) ∈ (stAt rows wi n).1.map f ↔ valAt rows (n / wi) (n % wi) ∈ (stAt rows wi n).1 := by
   rw [List.mem_map]
   constructor
   ·rintro ⟨y, hy, e⟩
    rw [← hf y _ (hvals y hy) hv e]
    exact hy
   ·exact fun h => ⟨_, h, rfl⟩
  unfold stepS
  by_cases hm : valAt rows (n / wi) (n % wi) ∈ (stAt rows wi n).1
  ·rw [if_pos hm, if_pos (hiff.2 hm)]
   simp only
   rw [idxOf_map f (Vals rows) hf _ hv _ hvals]
  ·rw [if_neg hm, if_neg (fun hh => hm (hiff.1 hh))]
   simp
theorem rooms_map {f : Int → Int} {rows : List (List Int)} (hs : shapeOk rows = true) (hf : InjOn f (Vals rows)) : roomsOf (mapG f rows) = roomsOf rows := by
 unfold roomsOf
 rw [mapG_length, mapG_wide, stAt_map (shape_rect hs) hf _ (Nat.le_refl _)]
theorem planF_shape {rows : List (List Int)} (h : shapeOk rows = true) : planF rows = if (roomsOf rows).length ≤ 9 ∧ sumArea (roomsOf rows) = (rows.length : Int) * (wideOf rows : Int) then (textOf (canon rows), true) else ([], false) := by
 unfold planF
 rw [settled_shape h]
 by_cases h9 : (roomsOf rows).length ≤ 9
 ·rw [if_pos h9]
  by_cases hs : sumArea (roomsOf rows) = (rows.length : Int) * (wideOf rows : Int)
  ·rw [decide_eq_true hs, if_pos ⟨h9, hs⟩]
  ·rw [decide_eq_false hs, if_neg (fun hh => hs hh.2)]
 ·rw [if_neg h9, if_neg (fun hh => h9 hh.1)]
theorem planF_noshape {rows : List (List Int)} (h : shapeOk rows = false) : planF rows = ([], false) := by
 unfold planF settledF
 rw [if_neg (by rw [h]; simp)]
theorem names_nums {rows : List (List Int)} (h : shapeOk rows = true) : numsOf (textOf (canon rows)) = mapG (fun x => 97 + ((ordAll rows).idxOf x : Int)) rows := by
 rw [numsOf_textOf _ (canon_val h)]
 unfold canon canonL mapG
 rw [List.map_map]
 apply List.map_congr_left
 intro r hr
 show (r.map _).map _ = _
 rw [List.map_map]
 rfl
theorem names_inj (rows : List (List Int)) : InjOn (fun x => 97 + ((ordAll rows).idxOf x : Int)) (Vals rows) := by
 intro a b ha hb e
 have e2 : (ordAll rows).idxOf a = (ordAll rows).idxOf b := by
  have : (97 : Int) + ((ordAll rows).idxOf a : Int) = 97 + ((ordAll rows).idxOf b : Int) := e
  omega
 have h1 := List.idxOf_lt_length_of_mem (ordL_mem rows.flatten [] a ha)
 have h2 := List.idxOf_lt_length_of_mem (ordL_mem rows.flatten [] b hb)
 have e3 : (ordAll rows)[(ordAll rows).idxOf a]'h1 = a := List.getElem_idxOf h1
 have e4 : (ordAll rows)[(ordAll rows).idxOf b]'h2 = b := List.getElem_idxOf h2
 rw [← e3, ← e4]
 congr 1
structure PlanFacts (p : List ByteArray) (cs : List (List Int)) (rs : List Rc) : Prop where
 canon : Canon p
 cells : cs = Hd.canon (numsOf p)
 rooms : rs = roomsOf (numsOf p)
 nums : numsOf p = mapG (fun x => 97 + x) cs
 ok : FloorOk cs rs
 len : p.length = cs.length
 wide : wideOf (numsOf p) = wideOf cs
 text : p = textOf cs
theorem floor_facts {p : List ByteArray} {cs : List (List Int)} {rs : List Rc} (h : floorF p = some (cs, rs)) : PlanFacts p cs rs := by
 have hok := floorF_ok h
 cases hG : gridOk p with
 | false => rw [floorF_nogrid hG] at h; cases h
 | true =>
  rw [floorF_grid hG] at h
  split at h
  ·rename_i hc
   injection h with h
   injection h with e1 e2
   have hC : Canon p := ⟨hG, hc.2.2⟩
   have hn : numsOf p = mapG (fun x => 97 + x) cs := by
    have := numsOf_textOf (canon (numsOf p)) (canon_val hC.shape)
    rw [show textOf (canon (numsOf p)) = p from hC.names, e1] at this
    exact this
   refine ⟨hC, e1.symm, e2.symm, hn, hok, ?_, ?_, ?_⟩
   ·rw [← numsOf_length, hn, mapG_length]
   ·rw [hn, mapG_wide]
   ·rw [← e1]; exact hC.names.symm
  ·cases h
theorem bytesOf_strOfNums (xs : List Int) (h : ∀ x ∈ xs, 0 ≤ x ∧ x ≤ 255) : bytesOf (strOfNums xs) = xs := by
 unfold bytesOf strOfNums
 show ((xs.map fun n => UInt8.ofNat n.toNat).toArray.toList).map _ = _
 rw [List.map_map]
 conv => rhs; rw [← List.map_id xs]
 apply List.map_congr_left
 intro x hx
 have := h x hx
 show ((UInt8.ofNat x.toNat).toNat : Int) = x
 rw [UInt8.toNat_ofNat']
 omega
theorem FloorOk.rect {cs : List (List Int)} {rs : List Rc} (h : FloorOk cs rs) : Rect (wideOf cs) cs := h.cells.row
theorem planB_cases (p : List ByteArray) : (planB p = false ∧ floorF p = none) ∨ (planB p = true ∧ ∃ cs rs, floorF p = some (cs, rs)) := by
 unfold planB
 cases h : floorF p with
 | none => exact .inl ⟨rfl, rfl⟩
 | some t => exact .inr ⟨rfl, t.1, t.2, rfl⟩
structure Mid (p : List ByteArray) (wi : Nat) : Prop where
 high : p.length ≤ 100
 wide : wi ≤ 100
 row : ∀ s ∈ p, s.size = wi
theorem Mid.rect {p : List ByteArray} {wi : Nat} (h : Mid p wi) : Rect wi (numsOf p) := by
 intro r hr
 obtain ⟨s, hs, rfl⟩ := List.mem_map.1 hr
 rw [bytesOf_length]
 exact h.row s hs
def colOf (p : List ByteArray) (c : Nat) : List Int := p.map fun s => (bytesOf s).getD c 0
def transOf (p : List ByteArray) (wi : Nat) : List ByteArray := (List.range wi).map fun c => strOfNums (colOf p c)
theorem trans_l1 (p : List ByteArray) (wi : Nat) (h : Mid p wi) (c : Nat) (hc : c < wi) (x3 : List ByteArray) (h3 : x3.length ≤ 1000) (r : List ByteArray) (hnext : Evs (fun k => spec_l1Trans.l0 k p (x3 ++ [strOfNums (colOf p c)]) ((c + 1 : Nat) : Int)) r) :
  ∀ m i, i + m = p.length → Evs (fun k => spec_l1Trans.l1 k p x3 (c : Int) (colOf (p.take i) c) (i : Int)) r := by
 have hh := h.high
 have hw := h.wide
 intro m
 induction m with
 | zero =>
  intro i hi
  rw [List.take_of_length_le (by omega)]
  refine Evs.step (h := fun k => spec_l1Trans.l0 k p (x3 ++ [strOfNums (colOf p c)]) ((c + 1 : Nat) : Int)) (fun k => ?_) hnext
  conv => lhs; unfold spec_l1Trans.l1
  rw [if_neg (by omega), if_pos (by omega), wrap_succ (by omega)]
 | succ m ih =>
  intro i hi
  obtain ⟨s, hs⟩ : ∃ s, p[i]? = some s := ⟨_, List.getElem?_eq_getElem (by omega)⟩
  have hsz := h.row s (List.mem_of_getElem? hs)
  have hnx := ih (i + 1) (by omega)
  have e : colOf (p.take (i + 1)) c = colOf (p.take i) c ++ [(bytesOf s).getD c 0] := by
   unfold colOf
   rw [List.take_add_one, hs, List.map_append]
   rfl
  rw [e] at hnx
  refine Evs.step (h := fun k => spec_l1Trans.l1 k p x3 (c : Int) (colOf (p.take i) c ++ [(bytesOf s).getD c 0]) ((i + 1 : Nat) : Int)) (fun k => ?_) hnx
  conv => lhs; unfold spec_l1Trans.l1
  rw [if_pos (by omega), if_pos (by omega), if_pos (by omega), rdOf_at hs, if_pos (by omega), if_pos (by simp [colOf]; omega), ← bytesOf_get, wrap_succ (by omega)]
theorem trans_l0 (p : List ByteArray) (wi : Nat) (h : Mid p wi) (h1 : 1 ≤ p.length) : ∀ m c, c + m = wi → Evs (fun k => spec_l1Trans.l0 k p ((List.range c).map fun c => strOfNums (colOf p c)) (c : Int)) (transOf p wi) := by
 have hh := h.high
 have hw := h.wide
 obtain ⟨s, hs⟩ : ∃ s, p[0]? = some s := ⟨_, List.getElem?_eq_getElem (by omega)⟩
 have hsz := h.row s (List.mem_of_getElem? hs)
 have e0 : rdOf ByteArray.empty p 0 = s := rdOf_at (i := 0) hs
 intro m
 induction m with
 | zero =>
  intro c hc
  obtain rfl : c = wi := by omega
  refine Evs.step (h := fun _ => some (transOf p c)) (fun k => ?_) (Evs.const _)
  conv => lhs; unfold spec_l1Trans.l0
  rw [if_pos (by omega), e0, if_neg (by omega)]
  rfl
 | succ m ih =>
  intro c hc
  have hnx := ih (c + 1) (by omega)
  rw [List.range_succ, List.map_append] at hnx
  have := trans_l1 p wi h c (by omega) ((List.range c).map fun c => strOfNums (colOf p c)) (by simp; omega) _ hnx p.length 0 (by omega)
  refine Evs.step (h := fun k => spec_l1Trans.l1 k p ((List.range c).map fun c => strOfNums (colOf p c)) (c : Int) (colOf (p.take 0) c) ((0 : Nat) : Int)) (fun k => ?_) this
  conv => lhs; unfold spec_l1Trans.l0
  rw [if_pos (by omega), e0, if_pos (by omega)]
  rfl
theorem l1Trans_ev (p : List ByteArray) (wi : Nat) (h : Mid p wi) (h1 : 1 ≤ p.length) : Evs (fun k => spec_l1Trans.f k p) (transOf p wi) := trans_l0 p wi h h1 wi 0 (by omega)
theorem colOf_range (p : List ByteArray) (c : Nat) : ∀ x ∈ colOf p c, 0 ≤ x ∧ x ≤ 255 := by
 intro x hx
 obtain ⟨s, hs, rfl⟩ := List.mem_map.1 hx
 rw [List.getD_eq_getElem?_getD]
 cases h : (bytesOf s)[c]? with
 | none => simp
 | some y => exact bytesOf_range s y (List.mem_of_getElem? h)
theorem numsOf_trans (p : List ByteArray) (wi : Nat) : numsOf (transOf p wi) = gridOf wi p.length (fun r c => valAt (numsOf p) c r) := by
 unfold numsOf transOf gridOf
 rw [List.map_map]
 apply List.map_congr_left
 intro c hc
 show bytesOf (strOfNums (colOf p c)) = _
 rw [bytesOf_strOfNums _ (colOf_range p c)]
 unfold colOf
 apply List.ext_getElem?
 intro i
 rw [List.getElem?_map, List.getElem?_map]
 by_cases hi : i < p.length
 ·rw [List.getElem?_range hi, List.getElem?_eq_getElem hi]
  simp only [Option.map_some]
  congr 1
  unfold valAt
  rw [List.getD_eq_getElem?_getD (l := List.map bytesOf p), List.getElem?_map, List.getElem?_eq_getElem hi]
  rfl
 ·rw [List.getElem?_eq_none (by omega), List.getElem?_eq_none (by simp; omega)]
  rfl
theorem mid_trans {p : List ByteArray} {wi : Nat} (h : Mid p wi) : Mid (transOf p wi) p.length := by
 refine ⟨by simp [transOf]; exact h.wide, h.high, fun s hs => ?_⟩
 obtain ⟨c, hc, rfl⟩ := List.mem_map.1 hs
 show (List.map _ (colOf p c)).toArray.size = _
 simp [colOf]
theorem trans_length (p : List ByteArray) (wi : Nat) : (transOf p wi).length = wi := by simp [transOf]
section
variable {α : Type} {g h : Nat → Option α} {r : α} {c : Prop} [Decidable c]
theorem Evs.pos (hc : c) (hg : Evs g r) : Evs (fun k => if c then g k else h k) r := Evs.congr (fun k => if_pos hc) hg
theorem Evs.neg (hc : ¬ c) (hh : Evs h r) : Evs (fun k => if c then g k else h k) r := Evs.congr (fun k => if_neg hc) hh
end
theorem textOf_len (cs : List (List Int)) : (textOf cs).length = cs.length := by simp [textOf]
theorem planF_len (rows : List (List Int)) : (planF rows).1.length ≤ 6 := by
 cases h : shapeOk rows with
 | false => rw [planF_noshape h]; simp
 | true =>
  rw [planF_shape h]
  split
  ·obtain ⟨h1, h2, h3⟩ := (shapeOk_iff _).1 h
   simp [textOf_len, canon, canonL]
   omega
  ·simp
theorem remadeF_len (p : List ByteArray) (how : List (List Int) → List Rc → List (List Int)) : (remadeF p how).1.length ≤ 6 := by
 unfold remadeF
 split
 ·simp
 ·exact planF_len _
def fits (p : List ByteArray) : Prop := p.length ≤ 9223372036854775807 ∧ ∀ s ∈ p, s.size ≤ 9223372036854775807
end Go.Proofs.Ytickdcegnlldjaa.Hd
namespace Go.Proofs.Ytickdcegnlldjaa.Hd
open Go.RowKit Go.Proofs.YtickdcegnlldjaaW.PrintWords Go.Proofs.YtickdcegnlldjaaW.PrintLast Go.Proofs.YtickdcegnlldjaaW.PrintMore Go.Proofs.Ytickdcegnlldjaa.PB
theorem floor_sum {p : List ByteArray} {cs : List (List Int)} {rs : List Rc} (h : floorF p = some (cs, rs)) : sumArea rs = (p.length : Int) * (wideOf (numsOf p) : Int) := by
 have F := floor_facts h
 rw [floorF_grid F.canon.grid] at h
 split at h
 ·rename_i hc
  rw [F.rooms]
  exact hc.2.1
 ·cases h
theorem count_conv (rows : List (List Int)) (wi : Nat) (x : Int) (b : Rc) : ∀ n, (∀ m, m < n → cellN rows wi m = x → inBox b wi m) → countN rows wi x n = countB b wi n → ∀ m, m < n → inBox b wi m → cellN rows wi m = x
 | 0, _, _, m, hm, _ => by omega
 | n + 1, h, he, m, hm, hb => by
  have hle := countN_le_B rows wi x b n (fun m hm => h m (by omega))
  simp only [countN, countB] at he
  by_cases hx : cellN rows wi n = x
  ·rw [if_pos hx, if_pos (h n (by omega) hx)] at he
   rcases Nat.lt_or_eq_of_le (Nat.lt_succ_iff.1 hm) with h1 | h1
   ·exact count_conv rows wi x b n (fun m hm => h m (by omega)) (by omega) m h1 hb
   ·subst h1; exact hx
  ·rw [if_neg hx] at he
   by_cases hbn : inBox b wi n
   ·rw [if_pos hbn] at he; omega
   ·rw [if_neg hbn] at he
    rcases Nat.lt_or_eq_of_le (Nat.lt_succ_iff.1 hm) with h1 | h1
    ·exact count_conv rows wi x b n (fun m hm => h m (by omega)) he m h1 hb
    ·subst h1; exact absurd hb hbn
theorem room_cells {p : List ByteArray} {cs : List (List Int)} {rs : List Rc} (h : floorF p = some (cs, rs)) (i : Nat) (hi : i < rs.length) (r c : Nat) (hr : r < cs.length) (hc : c < wideOf cs) :
  valAt cs r c = (i : Int) ↔ ((rs.getD i zeroR).f0 ≤ r ∧ (r : Int) < (rs.getD i zeroR).f0 + (rs.getD i zeroR).f2 ∧ (rs.getD i zeroR).f1 ≤ c ∧ (c : Int) < (rs.getD i zeroR).f1 + (rs.getD i zeroR).f3) := by
 have F := floor_facts h
 have hsum := floor_sum h
 have hrs := F.rooms
 have hfull := full_iff F.canon
 rw [← hrs, decide_eq_true hsum, List.all_eq_true] at hfull
 have hf := of_decide_eq_true (hfull i (List.mem_range.2 hi))
 rw [← hrs] at hf
 have hs := F.canon.shape
 obtain ⟨x, hx, hb, hbd⟩ := rooms_box hs i (by rw [← hrs]; exact hi)
 rw [numsOf_length, ← hrs] at hb hbd
 have hiff : ∀ m, m < p.length * wideOf (numsOf p) → (cellN (numsOf p) (wideOf (numsOf p)) m = (i : Int) ↔ valAt (numsOf p) (m / wideOf (numsOf p)) (m % wideOf (numsOf p)) = x) := fun m hm => by
  rw [F.canon.cell m hm]
  exact idx_iff (ordAll_nodup _) hx (cell_mem hs m (by rw [numsOf_length]; exact hm))
 have hin : ∀ m, m < p.length * wideOf (numsOf p) → cellN (numsOf p) (wideOf (numsOf p)) m = (i : Int) → inBox (rs.getD i zeroR) (wideOf (numsOf p)) m := fun m hm hv => hb.ins m hm ((hiff m hm).1 hv)
 have hcb := countB_all (rs.getD i zeroR) p.length (wideOf (numsOf p)) hbd
 have hconv := count_conv _ _ _ _ _ hin (hf.trans hcb.symm)
 rw [F.wide] at hin hconv
 have hm : r * wideOf cs + c < p.length * wideOf cs := by
  rw [F.len]
  have : (r + 1) * wideOf cs ≤ cs.length * wideOf cs := Nat.mul_le_mul_right _ hr
  rw [Nat.succ_mul] at this
  omega
 obtain ⟨d1, d2⟩ := divmod_of (r := r) hc
 have hcell : cellN (numsOf p) (wideOf cs) (r * wideOf cs + c) = valAt cs r c := by
  unfold cellN
  rw [d1, d2, F.nums, valAt_map F.ok.rect _ hr hc]
  omega
 have hib : inBox (rs.getD i zeroR) (wideOf cs) (r * wideOf cs + c) ↔ ((rs.getD i zeroR).f0 ≤ r ∧ (r : Int) < (rs.getD i zeroR).f0 + (rs.getD i zeroR).f2 ∧ (rs.getD i zeroR).f1 ≤ c ∧ (c : Int) < (rs.getD i zeroR).f1 + (rs.getD i zeroR).f3) := by unfold inBox; rw [d1, d2]
 rw [← hcell, ← hib]
 exact ⟨hin _ hm, hconv _ hm⟩
theorem Evs.stepNeg {α : Type} {c : Prop} {inst : Decidable c} {a h g : Nat → Option α} {r : α} (e : ∀ k, g (k + 1) = @ite _ c inst (a k) (h k)) (hc : ¬ c) (hh : Evs h r) : Evs g r := Evs.step (fun k => (e k).trans (if_neg hc)) hh
theorem Evs.stepPos {α : Type} {c : Prop} {inst : Decidable c} {a h g : Nat → Option α} {r : α} (e : ∀ k, g (k + 1) = @ite _ c inst (a k) (h k)) (hc : c) (hh : Evs a r) : Evs g r := Evs.step (fun k => (e k).trans (if_pos hc)) hh
theorem rd_at {p : List Int} {i : Nat} {s : Int} (h : p[i]? = some s) : rd p (i : Int) = s := by
 unfold rd; rw [Int.toNat_natCast, List.getD_eq_getElem?_getD, h]; rfl
theorem set_one {w : World} {b : Nat} {t : TypeId} {x : Value} (h : w.heap[b]? = some (.cells #[x] t (0, 0))) (v : Value) : (w.setCell ⟨b, 0, none⟩ v).heap[b]? = some (.cells #[v] t (0, 0)) := by
 simp only [World.setCell, Array.getElem?_modify, if_true, h, Option.map_some]
 simp
set_option maxHeartbeats 2000000 in
set_option maxRecDepth 100000 in
theorem cloneG_calls (ad : Addr) (c : Nat) (hs : List Value) (w : World) (hc : ∀ j u, hs[j]? = some u → w.cell? (ad.add j) = some u) (h1 : ∀ u ∈ hs, u.oneCell' = true) (h0 : 0 < hs.length) (h6 : hs.length ≤ 1048576) :
  Calls Try.prog 71 #[.slice (some ad) hs.length c] w fun e w' => ∃ g tl, e = .returned (.slice (some ⟨g, 0, none⟩) hs.length (hs.length + tl.length)) ∧ w'.heap[g]? = some (.cells (hs ++ tl).toArray 24 (0, 0)) ∧ hs.length + tl.length ≤ maxLen ∧ w.heap.size ≤ g ∧ Below w.heap.size w w' := by
 have i3 : (Try.prog.info? 24).map (fun i => (i.zero, i.size, i.bytes)) = some (some (.slice none 0 0), 1, 24) := by kernel_rfl
 obtain ⟨i0, hi, hzz⟩ := Option.map_eq_some_iff.1 i3
 simp only [Prod.mk.injEq] at hzz
 obtain ⟨hz0, hz1, hz2⟩ := hzz
 have HC := Aside0.mk hc
 have H6 := Aside0.mk h6
 have H0 := Aside0.mk h0
 have H1 := Aside0.mk h1
 have HI := Aside0.mk hi
 have HZ0 := Aside0.mk hz0
 have HZ1 := Aside0.mk hz1
 have HZ2 := Aside0.mk hz2
 clear hc h6 h0 h1 i3 hi hz0 hz1 hz2
 have q22 : ∀ (w : World) (a : Option Addr) (n c n' c' : Nat), (binOp .eql 55 (.slice a n c) (.slice none n' c')).run Try.prog w = .ok (.bool a.isNone) w := fun w a n c n' c' => Lib.run_eql_slice_nil w _ _ a n c n' c' Try.underlying55
 go_enter Try.func71, Try.ntmps71
 go_wp2_with (at_builtin; refine wpList_append_own _ rfl _ _ 55 rfl w.heap.size 24 i0 (.slice none 0 0) 1 24 Try.underlying55 HI.out HZ0.out HZ1.out HZ2.out rfl (by decide) _ _ _ rfl (World.ownsRow_made w #[] 0 (Nat.le_refl _) (Nat.zero_le _) rfl) ad hs.length c hs rfl ?qc1 ?qc2 H1.out ?qc4 ?qc5 ?qc6 ?_)
 case qc1 => rw [Nat.mul_one]
 case qc2 =>
  intro j u hj
  exact Lib.cell?_alloc_some _ (HC.out j u hj)
 case qc4 => have := H6.out; unfold maxLen; omega
 case qc5 => have := H6.out; omega
 case qc6 => simp
 intro v' w1 hown hgrow hnil
 have HO := Aside0.mk hown
 have HG := Aside0.mk hgrow
 clear hown hgrow hnil
 go_wp2
 go_ret
 have hB : Below w.heap.size w w1 := ((Below.refl _ w).alloc (Nat.le_refl _) _).grown HG.out (by simp) (by intro k hk; simp [Value.ownBlock] at hk; omega)
 have ho : w1.ownsRow w.heap.size 24 1 v' hs.length hs := by simpa using HO.out
 rcases ho.2 with ⟨hv, hx0⟩ | ⟨g, cap, cur, hv, hb, hh, hnc, hcm, hcs, htake⟩
 ·have := H0.out
  omega
 ·rw [Nat.mul_one] at htake hcs
  have e : hs ++ cur.toList.drop hs.length = cur.toList := by
   conv => rhs; rw [← List.take_append_drop hs.length cur.toList, htake]
  have hl : (cur.toList.drop hs.length).length = cap - hs.length := by rw [List.length_drop, Array.length_toList, hcs]
  refine ⟨g, cur.toList.drop hs.length, ?_, ?_, by omega, hb, hB⟩
  ·rw [hv, hl, show hs.length + (cap - hs.length) = cap by omega]
   rfl
  ·rw [e, Array.toArray_toList]
   exact hh
abbrev RowP := Value × List Int
def putG (L : List RowP) (x : RowP) : List RowP := if L.getLast?.map (·.2) = some x.2 then L else L ++ [x]
def foldG (ps : List RowP) : List RowP := ps.foldl putG []
theorem foldG_snoc (ps : List RowP) (x : RowP) : foldG (ps ++ [x]) = putG (foldG ps) x := by simp [foldG]
theorem foldG_last (ps : List RowP) (x : RowP) : (foldG (ps ++ [x])).getLast?.map (·.2) = some x.2 := by
 rw [foldG_snoc]
 unfold putG
 split
 ·assumption
 ·simp
theorem take_snocG {ps : List RowP} {k : Nat} {x : RowP} (h : ps[k]? = some x) : ps.take (k + 1) = ps.take k ++ [x] := by
 rw [List.take_add_one, h]
 rfl
theorem foldG_take {ps : List RowP} {k : Nat} {x y : RowP} (hx : ps[k]? = some x) (hy : ps[k + 1]? = some y) : foldG (ps.take (k + 2)) = if x.2 = y.2 then foldG (ps.take (k + 1)) else foldG (ps.take (k + 1)) ++ [y] := by
 rw [take_snocG hy, foldG_snoc]
 unfold putG
 rw [take_snocG hx, foldG_last]
 by_cases e : x.2 = y.2
 ·rw [if_pos (by rw [e]), if_pos e]
 ·rw [if_neg (fun z => e (Option.some.inj z)), if_neg e]
theorem foldG_one {ps : List RowP} {x : RowP} (hx : ps[0]? = some x) : foldG (ps.take 1) = ps.take 1 := by
 rw [show (1 : Nat) = 0 + 1 from rfl, take_snocG hx]
 simp [foldG, putG]
theorem foldG_le (ps : List RowP) : ∀ k, k ≤ ps.length → (foldG (ps.take k)).length ≤ k
 | 0, _ => by simp [foldG]
 | 1, h => by
  rw [foldG_one (List.getElem?_eq_getElem (show 0 < ps.length by omega))]
  simp
  omega
 | k + 2, h => by
  have ih := foldG_le ps (k + 1) (by omega)
  rw [foldG_take (List.getElem?_eq_getElem (show k < ps.length by omega)) (List.getElem?_eq_getElem (show k + 1 < ps.length by omega))]
  split
  ·omega
  ·simp
   omega
theorem foldG_pos {ps : List RowP} : ∀ k, 1 ≤ k → k ≤ ps.length → 1 ≤ (foldG (ps.take k)).length
 | 0, h, _ => by omega
 | 1, _, h => by
  rw [foldG_one (List.getElem?_eq_getElem (show 0 < ps.length by omega))]
  simp
  omega
 | k + 2, _, h => by
  have ih := foldG_pos (k + 1) (by omega) (show k + 1 ≤ ps.length by omega)
  rw [foldG_take (List.getElem?_eq_getElem (show k < ps.length by omega)) (List.getElem?_eq_getElem (show k + 1 < ps.length by omega))]
  split
  ·omega
  ·simp
theorem foldG_sub (ps : List RowP) : ∀ x ∈ foldG ps, x ∈ ps := by
 suffices h : ∀ k, k ≤ ps.length → ∀ x ∈ foldG (ps.take k), x ∈ ps by
  have := h ps.length (Nat.le_refl _)
  rwa [List.take_length] at this
 intro k
 induction k with
 | zero => intro _ x hx; simp [foldG] at hx
 | succ k ih =>
  intro hk x hx
  rw [take_snocG (List.getElem?_eq_getElem (show k < ps.length by omega)), foldG_snoc] at hx
  unfold putG at hx
  split at hx
  ·exact ih (by omega) x hx
  ·rcases List.mem_append.1 hx with h | h
   ·exact ih (by omega) x h
   ·rw [List.mem_singleton.1 h]
    exact List.getElem_mem _
def RowV (W : World) (x : RowP) : Prop := ∃ A c, x.1 = .slice A x.2.length c ∧ x.2.length ≤ c ∧ (Kd.int .i64).C W A x.2.length x.2
theorem RowV.below {W W1 : World} {x : RowP} (h : RowV W x) (hb : Below W.heap.size W W1) : RowV W1 x := by
 obtain ⟨A, c, e, hl, hC⟩ := h
 exact ⟨A, c, e, hl, Kd.C_below hC hb⟩
theorem row_cell {W : World} {g : Nat} {t : TypeId} {ps : List RowP} {tl : List Value} (h : W.heap[g]? = some (.cells (ps.map Prod.fst ++ tl).toArray t (0, 0))) {i : Nat} {x : RowP} (hx : ps[i]? = some x) : W.cell? ⟨g, i, none⟩ = some x.1 := by
 have hl := (List.getElem?_eq_some_iff.1 hx).1
 rw [blk_cell h, List.getElem?_toArray, List.getElem?_append_left (by simpa using hl), List.getElem?_map, hx]
 rfl
theorem equal_ev (a b : List Int) (ha : a.length ≤ 100) : Evs (fun k => PC.slices_Equal_int_int.f k a b) (decide (a = b)) := by
 have key : ∀ m i, i + m = a.length → a.length = b.length → a.take i = b.take i → Evs (fun k => PC.slices_Equal_int_int.l0 k a b (a.length : Int) (i : Int)) (decide (a = b)) := by
  intro m
  induction m with
  | zero =>
   intro i hi hl ht
   refine Evs.stepNeg (fun k => by conv => lhs; unfold PC.slices_Equal_int_int.l0) (by omega) ?_
   have : a = b := by
    rw [List.take_of_length_le (by omega), List.take_of_length_le (by omega)] at ht
    exact ht
   rw [decide_eq_true this]
   exact Evs.const _
  | succ m ih =>
   intro i hi hl ht
   refine Evs.stepPos (fun k => by conv => lhs; unfold PC.slices_Equal_int_int.l0) (by omega) (Evs.pos (by omega) (Evs.pos (by omega) (Evs.pos (by omega) ?_)))
   have ha' : a[i]? = some a[i] := List.getElem?_eq_getElem (by omega)
   have hb' : b[i]? = some b[i] := List.getElem?_eq_getElem (by omega)
   rw [rd_at ha', rd_at hb']
   by_cases e : a[i] = b[i]
   ·refine Evs.pos e ?_
    rw [wrap_succ (by omega)]
    refine ih (i + 1) (by omega) hl ?_
    rw [List.take_add_one, List.take_add_one, ha', hb', ht, e]
   ·refine Evs.neg e ?_
    have : ¬ a = b := fun z => e (by subst z; rfl)
    rw [decide_eq_false this]
    exact Evs.const _
 by_cases hl : a.length = b.length
 ·refine Evs.congr (h := fun k => PC.slices_Equal_int_int.l0 k a b (a.length : Int) 0) (fun k => ?_) (key a.length 0 (by omega) hl rfl)
  unfold PC.slices_Equal_int_int.f
  rw [if_pos (by omega)]
 ·rw [decide_eq_false (fun z => hl (by rw [z]))]
  refine Evs.congr (h := fun _ => some false) (fun k => ?_) (Evs.const _)
  unfold PC.slices_Equal_int_int.f
  rw [if_neg (by omega)]
theorem set_list {w : World} {g : Nat} {t : TypeId} {vs : List Value} (h : w.heap[g]? = some (.cells vs.toArray t (0, 0))) (i : Nat) (v : Value) : (w.setCell ⟨g, i, none⟩ v).heap[g]? = some (.cells (vs.set i v).toArray t (0, 0)) := by
 simp only [World.setCell, Array.getElem?_modify, if_true, h, Option.map_some]
 simp
theorem sets_list {g : Nat} {t : TypeId} : ∀ (us : List Value) (o : Nat) (w : World) (vs : List Value), w.heap[g]? = some (.cells vs.toArray t (0, 0)) → o + us.length ≤ vs.length → (w.setCells g o us).heap[g]? = some (.cells (vs.take o ++ us ++ vs.drop (o + us.length)).toArray t (0, 0))
 | [], o, w, vs, h, _ => by
  rw [List.append_nil, List.length_nil, Nat.add_zero, List.take_append_drop]
  exact h
 | v :: r, o, w, vs, h, hl => by
  rw [List.length_cons] at hl
  have := sets_list r (o + 1) (w.setCell ⟨g, o, none⟩ v) (vs.set o v) (set_list h o v) (by rw [List.length_set]; omega)
  rw [World.setCells, this]
  congr 2
  apply congrArg
  have e1 : (vs.set o v).take (o + 1) = vs.take o ++ [v] := by
   rw [List.take_add_one, List.getElem?_set_self (by omega), List.take_set_of_le (Nat.le_refl o)]
   rfl
  have e2 : (vs.set o v).drop (o + 1 + r.length) = vs.drop (o + (r.length + 1)) := by
   rw [List.drop_set_of_lt (by omega), show o + 1 + r.length = o + (r.length + 1) by omega]
  rw [e1, e2, List.length_cons]
  simp
theorem below_setsG {w : World} {g : Nat} (hg : w.heap.size ≤ g) : ∀ (vs : List Value) (o : Nat) (W : World), Below w.heap.size w W → Below w.heap.size w (W.setCells g o vs)
 | [], _, _, h => h
 | v :: r, o, W, h => below_setsG hg r (o + 1) _ (below_set h hg)
def CompRes (w0 : World) (ps : List RowP) (g c : Nat) (e : Ending) (w' : World) : Prop :=
 ∃ vs, e = .returned (.slice (some ⟨g, 0, none⟩) (foldG ps).length c) ∧ w'.heap[g]? = some (.cells ((foldG ps).map Prod.fst ++ vs).toArray 24 (0, 0)) ∧ Below w0.heap.size w0 w'
set_option maxHeartbeats 4000000 in
set_option maxRecDepth 100000 in
theorem compactF_calls (w0 : World) (ps : List RowP) (g : Nat) (tl : List Value) (w : World) (hB : Below w0.heap.size w0 w) (hg : w0.heap.size ≤ g) (hrows : ∀ x ∈ ps, RowV w0 x ∧ x.2.length ≤ 6) (hh : w.heap[g]? = some (.cells (ps.map Prod.fst ++ tl).toArray 24 (0, 0))) (h6 : ps.length ≤ 6) (h1 : 1 ≤ ps.length) (hc : ps.length + tl.length ≤ maxLen) :
  Calls Try.prog 70 #[.slice (some ⟨g, 0, none⟩) ps.length (ps.length + tl.length), .func (.func 72) #[] #[]] w (CompRes w0 ps g (ps.length + tl.length)) := by
 have HB := Aside0.mk hB
 have HG := Aside0.mk hg
 have HR := Aside0.mk hrows
 have HH := Aside0.mk hh
 unfold maxLen at hc
 clear hB hg hrows hh
 generalize hcc : ps.length + tl.length = cc at *
 have hle : ps.length ≤ cc := by omega
 have HCc := Aside0.mk hcc
 clear hcc
 by_cases hn : ps.length < 2
 ·have hnl : (ps.length : Int) < 2 := by omega
  go_enter Try.func70, Try.ntmps70
  go_wp2
  go_ret
  have e : foldG ps = ps := by
   have : ps.length = 1 := by omega
   have h := foldG_one (List.getElem?_eq_getElem (show 0 < ps.length by omega))
   rwa [List.take_of_length_le (by omega)] at h
  show CompRes w0 ps g cc _ _
  unfold CompRes
  rw [e]
  exact ⟨tl, rfl, HH.out, HB.out⟩
 ·have hnl : ¬ (ps.length : Int) < 2 := by omega
  go_enter Try.func70, Try.ntmps70
  go_wp2
  have HF1 := Aside0.mk (foldG_one (List.getElem?_eq_getElem (show 0 < ps.length by omega)))
  go_loopg [5] ps.length (fun kq v5 w' => ∃ k : Nat, v5 = .int .i64 (k : Int) ∧ Aside0 (k + kq = ps.length + 1) ∧ Aside0 (1 ≤ k) ∧ Aside0 (k ≤ ps.length) ∧ Aside0 (foldG (ps.take k) = ps.take k) ∧ Aside0 (w'.heap[g]? = some (.cells (ps.map Prod.fst ++ tl).toArray 24 (0, 0))) ∧ Aside0 (Below w0.heap.size w0 w'))
  case atStart => exact ⟨1, rfl, ⟨by omega⟩, ⟨by omega⟩, ⟨h1⟩, HF1, HH, HB⟩
  case round =>
   obtain ⟨k, rfl, HK, HK1, HKn, HFo, HHk, HBk⟩ := hrel
   have k1 := HK1.out
   have kn := HKn.out
   by_cases hk : k < ps.length
   ·have hlt : (k : Int) < (ps.length : Int) := by omega
    obtain ⟨j, hj⟩ : ∃ j, k = j + 1 := ⟨k - 1, by omega⟩
    obtain ⟨x, hx⟩ : ∃ x, ps[j]? = some x := ⟨_, List.getElem?_eq_getElem (by omega)⟩
    obtain ⟨y, hy⟩ : ∃ y, ps[k]? = some y := ⟨_, List.getElem?_eq_getElem (by omega)⟩
    obtain ⟨⟨Ax, cx, ex, hLx, hCx⟩, hx6⟩ := HR.out x (List.mem_of_getElem? hx)
    obtain ⟨⟨Ay, cy, ey, hLy, hCy⟩, hy6⟩ := HR.out y (List.mem_of_getElem? hy)
    obtain ⟨vx, lx⟩ := x
    obtain ⟨vy, ly⟩ := y
    dsimp only at ex ey hLx hLy hCx hCy hx6 hy6
    subst ex
    subst ey
    obtain ⟨KE, hK⟩ := equal_ev ly lx (by omega)
    have HEv := Aside0.mk (hK KE (Nat.le_refl KE))
    have HCx := Aside0.mk hCx
    have HCy := Aside0.mk hCy
    have HLx := Aside0.mk hLx
    have HLy := Aside0.mk hLy
    have hcy : wr.cell? ⟨g, k, none⟩ = some (.slice Ay ly.length cy) := row_cell HHk.out hy
    have hcx : wr.cell? ⟨g, j, none⟩ = some (.slice Ax lx.length cx) := row_cell HHk.out hx
    have y0 : (0 : Int) ≤ (k : Int) := by omega
    have y1 : (0 : Int) ≤ (j : Int) := by omega
    have y2 : (j : Int) < (ps.length : Int) := by omega
    have y3 : wrap64 ((k : Int) - 1) = (j : Int) := by rw [wrap64_small (by omega) (by omega)]; omega
    have y4 : IntKind.i64.wrap ((k : Int) - 1) = (j : Int) := by rw [i64_w]; exact y3
    have y5 : j < ps.length := by omega
    have HJ := Aside0.mk hj
    have HX := Aside0.mk hx
    have HY := Aside0.mk hy
    clear hj hx hy hCx hCy hLx hLy hK hx6 hy6
    go_wp2
    refine start_ (n := 11) (S := fun w' => (w'.cell? ⟨g, k, none⟩ = some (.slice Ay ly.length cy)) ∧ (w'.cell? ⟨g, j, none⟩ = some (.slice Ax lx.length cx))) (ds := []) #[false, false, false, false, false, false, false, false, false, false, false] (by kernel_rfl) rfl rfl (⟨hcy, hcx⟩) (fun hHeld => ?_)
    refine pure_ (i := 0) (N := some 18) (v := ?_) (a' := ?_) #[true, false, false, false, false, false, false, false, false, false, false] rfl rfl (by kernel_rfl) (fun _ _ _ h => h) (Or.inl ⟨by rfl, ?_⟩) ?_ ?_
    rotate_left
    ·intro w'
     go_simp
     with_reducible rfl
    rotate_left
    ·simp only [Act.put, List.setIfInBounds_toArray, List.set_cons_zero, List.set_cons_succ, i64_w, i32_w]
     rfl
    refine pure_ (i := 1) (N := some 19) (v := ?_) (a' := ?_) #[true, true, false, false, false, false, false, false, false, false, false] rfl rfl (by kernel_rfl) (fun _ _ _ h => h) (Or.inl ⟨by rfl, ?_⟩) ?_ ?_
    rotate_left
    ·intro w'
     go_simp
     with_reducible rfl
    rotate_left
    ·simp only [Act.put, List.setIfInBounds_toArray, List.set_cons_zero, List.set_cons_succ, i64_w, i32_w]
     rfl
    refine pure_ (i := 2) (N := some 20) (v := ?_) (a' := ?_) #[true, true, true, false, false, false, false, false, false, false, false] rfl rfl (by kernel_rfl) (fun _ _ _ h => h) (Or.inl ⟨by rfl, ?_⟩) ?_ ?_
    rotate_left
    ·intro w'
     go_simp
     with_reducible rfl
    rotate_left
    ·simp only [Act.put, List.setIfInBounds_toArray, List.set_cons_zero, List.set_cons_succ, i64_w, i32_w]
     rfl
    refine pure_ (i := 3) (N := some 21) (v := ?_) (a' := ?_) #[true, true, true, true, false, false, false, false, false, false, false] rfl rfl (by kernel_rfl) (fun _ _ _ h => h) (Or.inl ⟨by rfl, ?_⟩) ?_ ?_
    rotate_left
    ·intro w'
     go_simp
     with_reducible rfl
    rotate_left
    ·simp only [Act.put, List.setIfInBounds_toArray, List.set_cons_zero, List.set_cons_succ, i64_w, i32_w]
     rfl
    refine take_ (i := 4) (N := some 22) (v := ?_) (a' := ?_) #[true, true, true, true, true, false, false, false, false, false, false] rfl rfl (by kernel_rfl) (fun _ _ _ h => h) (Or.inl ⟨by rfl, ?_⟩) hHeld ?_ ?_
    rotate_left
    ·rintro w' ⟨s0, s1⟩
     go_simp
     with_reducible rfl
    rotate_left
    ·simp only [Act.put, List.setIfInBounds_toArray, List.set_cons_zero, List.set_cons_succ, i64_w, i32_w]
     rfl
    refine pure_ (i := 5) (N := some 23) (v := ?_) (a' := ?_) #[true, true, true, true, true, true, false, false, false, false, false] rfl rfl (by kernel_rfl) (fun _ _ _ h => h) (Or.inl ⟨by rfl, ?_⟩) ?_ ?_
    rotate_left
    ·intro w'
     go_simp
     with_reducible rfl
    rotate_left
    ·simp only [Act.put, List.setIfInBounds_toArray, List.set_cons_zero, List.set_cons_succ, i64_w, i32_w]
     rfl
    refine pure_ (i := 6) (N := some 24) (v := ?_) (a' := ?_) #[true, true, true, true, true, true, true, false, false, false, false] rfl rfl (by kernel_rfl) (fun _ _ _ h => h) (Or.inl ⟨by rfl, ?_⟩) ?_ ?_
    rotate_left
    ·intro w'
     go_simp
     with_reducible rfl
    rotate_left
    ·simp only [Act.put, List.setIfInBounds_toArray, List.set_cons_zero, List.set_cons_succ, i64_w, i32_w]
     rfl
    refine pure_ (i := 7) (N := some 25) (v := ?_) (a' := ?_) #[true, true, true, true, true, true, true, true, false, false, false] rfl rfl (by kernel_rfl) (fun _ _ _ h => h) (Or.inl ⟨by rfl, ?_⟩) ?_ ?_
    rotate_left
    ·intro w'
     go_simp
     with_reducible rfl
    rotate_left
    ·simp only [Act.put, List.setIfInBounds_toArray, List.set_cons_zero, List.set_cons_succ, i64_w, i32_w]
     rfl
    refine pure_ (i := 8) (N := some 26) (v := ?_) (a' := ?_) #[true, true, true, true, true, true, true, true, true, false, false] rfl rfl (by kernel_rfl) (fun _ _ _ h => h) (Or.inl ⟨by rfl, ?_⟩) ?_ ?_
    rotate_left
    ·intro w'
     go_simp
     with_reducible rfl
    rotate_left
    ·simp only [Act.put, List.setIfInBounds_toArray, List.set_cons_zero, List.set_cons_succ, i64_w, i32_w]
     rfl
    refine take_ (i := 9) (N := some 27) (v := ?_) (a' := ?_) #[true, true, true, true, true, true, true, true, true, true, false] rfl rfl (by kernel_rfl) (fun _ _ _ h => h) (Or.inl ⟨by rfl, ?_⟩) hHeld ?_ ?_
    rotate_left
    ·rintro w' ⟨s0, s1⟩
     go_simp
     with_reducible rfl
    rotate_left
    ·simp only [Act.put, List.setIfInBounds_toArray, List.set_cons_zero, List.set_cons_succ, i64_w, i32_w]
     rfl
    refine one_ (i := 10) (N := some 28) #[true, true, true, true, true, true, true, true, true, true, true] rfl rfl (by kernel_rfl) (by decide) (fun K hK => ?_)
    refine goesv_ Try.func72 (by kernel_rfl) rfl #[.slice Ay ly.length cy, .slice Ax lx.length cx] (by rfl) rfl rfl rfl (by (try simp only [List.map_toArray, List.map_cons, List.map_nil]); first | done | rfl) ?_
    refine calls_of_args (args' := #[.slice Ay ly.length cy, .slice Ax lx.length cx]) (by rfl) ?_
    have hs_ := hHeld
    obtain ⟨s0, s1⟩ := hs_
    refine (PC.slices_Equal_int_int.calls KE Ay cy ly Ax cx lx _ _ (Kd.C_below HCy.out (below_drew HBk.out)) HLy.out (Kd.C_below HCx.out (below_drew HBk.out)) HLx.out HEv.out).mono ?_
    rintro e w8 ⟨rfl, hd⟩
    have hb := hd.below
    refine ⟨_, rfl, ?_⟩
    refine hK.out _ _ ⟨pw_cell_below hb s0, pw_cell_below hb s1⟩ (fun hHeld => ?_)
    have hbd := below_step (below_drew (Below.refl wr.heap.size wr)) hb
    clear hK hb s0 s1 hd hHeld
    refine norm_ (a' := ?_) ?_ ?_
    rotate_left
    ·show Act.put _ (some 28) _ = _
     simp only [Act.put, List.setIfInBounds_toArray, List.set_cons_zero, List.set_cons_succ, i64_w, i32_w]
     rfl
    refine done_ (by kernel_rfl) ?_
    have HB8 := Aside0.mk (below_step HBk.out hbd)
    have HH8 := Aside0.mk ((hbd.block g (blk_lt HHk.out)).trans HHk.out)
    clear hcx hcy hbd
    by_cases hxy : ly = lx
    ·rw [decide_eq_true hxy]
     have hkc : ¬ cc = k := by omega
     go_wp2
     clear hkc
     have hst := foldG_take (ps := ps) (k := j) HX.out (by rw [← HJ.out]; exact HY.out)
     rw [if_pos hxy.symm, show j + 2 = k + 1 by have := HJ.out; omega, show j + 1 = k by have := HJ.out; omega, HFo.out] at hst
     have HSt := Aside0.mk hst
     have HLv := Aside0.mk (show (ps.map Prod.fst ++ tl).length = cc by rw [List.length_append, List.length_map]; exact HCc.out)
     have HTk := Aside0.mk (show (ps.map Prod.fst ++ tl).take k = (ps.take k).map Prod.fst by rw [List.take_append_of_le_length (by simp; omega), List.map_take])
     have HAt := Aside0.mk (show ∀ i (x : RowP), k + 1 ≤ i + 1 → ps[i]? = some x → (ps.map Prod.fst ++ tl)[i]? = some x.1 from fun i x _ hx => by
      have hl := (List.getElem?_eq_some_iff.1 hx).1
      rw [List.getElem?_append_left (by simpa using hl), List.getElem?_map, hx]
      rfl)
     clear hst hxy y0 y1 y2 y3 y4 y5
     clear HX HY HCx HCy HLx HLy HEv HJ HFo HHk HBk
     obtain ⟨m, hm⟩ : ∃ m, m = ps.length - k := ⟨_, rfl⟩
     rw [← hm]
     have hmk : k + m = ps.length := by omega
     have HM := Aside0.mk hm
     clear hm
     generalize ps.map Prod.fst ++ tl = vs0 at *
     go_loopg [5, 7] m (fun kq v5 v7 w' => ∃ (kk k2 : Nat) (vs : List Value), v5 = .int .i64 (kk : Int) ∧ v7 = .int .i64 (k2 : Int) ∧ Aside0 (k2 + kq = m + 1) ∧ Aside0 (1 ≤ k2 ∧ k2 ≤ m) ∧ Aside0 ((foldG (ps.take (k + k2))).length = kk ∧ kk + 1 ≤ k + k2) ∧ Aside0 (w'.heap[g]? = some (.cells vs.toArray 24 (0, 0))) ∧ Aside0 (vs.length = cc) ∧ Aside0 (vs.take kk = (foldG (ps.take (k + k2))).map Prod.fst) ∧ Aside0 (∀ i (x : RowP), k + k2 ≤ i + 1 → ps[i]? = some x → vs[i]? = some x.1) ∧ Aside0 (Below w0.heap.size w0 w'))
     case atStart => exact ⟨k, 1, vs0, rfl, rfl, ⟨by omega⟩, ⟨by omega, by omega⟩, ⟨by rw [HSt.out, List.length_take]; omega, by omega⟩, HH8, HLv, ⟨by rw [HSt.out]; exact HTk.out⟩, HAt, HB8⟩
     case round =>
      clear HH8 HB8 HSt HLv HTk HAt
      obtain ⟨kk, k2, vs, rfl, rfl, HK2, HK12, HKk, HHk, HLv, HTk, HAt, HBk⟩ := hrel
      obtain ⟨k21, k2m⟩ := HK12.out
      obtain ⟨kkl, kks⟩ := HKk.out
      have kkc : kk < cc := by omega
      by_cases hk2 : k2 < m
      ·have hlt2 : (k2 : Int) < (m : Int) := by omega
       obtain ⟨j, hj⟩ : ∃ j, k2 = j + 1 := ⟨k2 - 1, by omega⟩
       obtain ⟨x, hx⟩ : ∃ x, ps[k + j]? = some x := ⟨_, List.getElem?_eq_getElem (by omega)⟩
       obtain ⟨y, hy⟩ : ∃ y, ps[k + k2]? = some y := ⟨_, List.getElem?_eq_getElem (by omega)⟩
       obtain ⟨⟨Ax, cx, ex, hLx, hCx⟩, hx6⟩ := HR.out x (List.mem_of_getElem? hx)
       obtain ⟨⟨Ay, cy, ey, hLy, hCy⟩, hy6⟩ := HR.out y (List.mem_of_getElem? hy)
       obtain ⟨vx, lx⟩ := x
       obtain ⟨vy, ly⟩ := y
       dsimp only at ex ey hLx hLy hCx hCy hx6 hy6
       subst ex
       subst ey
       obtain ⟨KE, hK⟩ := equal_ev ly lx (by omega)
       have HEv := Aside0.mk (hK KE (Nat.le_refl KE))
       have HCx := Aside0.mk hCx
       have HCy := Aside0.mk hCy
       have HLx := Aside0.mk hLx
       have HLy := Aside0.mk hLy
       have hcy : wr.cell? ⟨g, k + k2, none⟩ = some (.slice Ay ly.length cy) := by
        rw [blk_cell HHk.out, List.getElem?_toArray]
        exact HAt.out _ _ (by omega) hy
       have hcx : wr.cell? ⟨g, k + j, none⟩ = some (.slice Ax lx.length cx) := by
        rw [blk_cell HHk.out, List.getElem?_toArray]
        exact HAt.out _ _ (by omega) hx
       have hck : ∃ u, wr.cell? ⟨g, kk, none⟩ = some u := by
        rw [blk_cell HHk.out, List.getElem?_toArray]
        exact ⟨_, List.getElem?_eq_getElem (by have := HLv.out; omega)⟩
       obtain ⟨uk, hck⟩ := hck
       have y0 : (0 : Int) ≤ (k2 : Int) := by omega
       have y1 : (0 : Int) ≤ (j : Int) := by omega
       have y2 : (j : Int) < (m : Int) := by omega
       have y3 : wrap64 ((k2 : Int) - 1) = (j : Int) := by rw [wrap64_small (by omega) (by omega)]; omega
       have y4 : IntKind.i64.wrap ((k2 : Int) - 1) = (j : Int) := by rw [i64_w]; exact y3
       have y5 : j < m := by omega
       have HJ := Aside0.mk hj
       have HX := Aside0.mk hx
       have HY := Aside0.mk hy
       have hfo := foldG_take (ps := ps) (k := k + j) hx (by rw [show k + j + 1 = k + k2 by omega]; exact hy)
       rw [show k + j + 2 = k + (k2 + 1) by omega, show k + j + 1 = k + k2 by omega] at hfo
       have HFo := Aside0.mk hfo
       clear hj hx hy hCx hCy hLx hLy hK hx6 hy6 hfo
       go_wp2
       refine start_ (n := 12) (S := fun w' => (w'.cell? ⟨g, k + k2, none⟩ = some (.slice Ay ly.length cy)) ∧ (w'.cell? ⟨g, k + j, none⟩ = some (.slice Ax lx.length cx))) (ds := []) #[false, false, false, false, false, false, false, false, false, false, false, false] (by kernel_rfl) rfl rfl (⟨hcy, hcx⟩) (fun hHeld => ?_)
       refine pure_ (i := 0) (N := some 38) (v := ?_) (a' := ?_) #[true, false, false, false, false, false, false, false, false, false, false, false] rfl rfl (by kernel_rfl) (fun _ _ _ h => h) (Or.inl ⟨by rfl, ?_⟩) ?_ ?_
       rotate_left
       ·intro w'
        go_simp
        with_reducible rfl
       rotate_left
       ·simp only [Act.put, List.setIfInBounds_toArray, List.set_cons_zero, List.set_cons_succ, i64_w, i32_w]
        rfl
       refine pure_ (i := 1) (N := some 39) (v := ?_) (a' := ?_) #[true, true, false, false, false, false, false, false, false, false, false, false] rfl rfl (by kernel_rfl) (fun _ _ _ h => h) (Or.inl ⟨by rfl, ?_⟩) ?_ ?_
       rotate_left
       ·intro w'
        go_simp
        with_reducible rfl
       rotate_left
       ·simp only [Act.put, List.setIfInBounds_toArray, List.set_cons_zero, List.set_cons_succ, i64_w, i32_w]
        rfl
       refine pure_ (i := 2) (N := some 40) (v := ?_) (a' := ?_) #[true, true, true, false, false, false, false, false, false, false, false, false] rfl rfl (by kernel_rfl) (fun _ _ _ h => h) (Or.inl ⟨by rfl, ?_⟩) ?_ ?_
       rotate_left
       ·intro w'
        go_simp
        with_reducible rfl
       rotate_left
       ·simp only [Act.put, List.setIfInBounds_toArray, List.set_cons_zero, List.set_cons_succ, i64_w, i32_w]
        rfl
       refine pure_ (i := 3) (N := some 41) (v := ?_) (a' := ?_) #[true, true, true, true, false, false, false, false, false, false, false, false] rfl rfl (by kernel_rfl) (fun _ _ _ h => h) (Or.inl ⟨by rfl, ?_⟩) ?_ ?_
       rotate_left
       ·intro w'
        go_simp
        with_reducible rfl
       rotate_left
       ·simp only [Act.put, List.setIfInBounds_toArray, List.set_cons_zero, List.set_cons_succ, i64_w, i32_w]
        rfl
       refine take_ (i := 4) (N := some 42) (v := ?_) (a' := ?_) #[true, true, true, true, true, false, false, false, false, false, false, false] rfl rfl (by kernel_rfl) (fun _ _ _ h => h) (Or.inl ⟨by rfl, ?_⟩) hHeld ?_ ?_
       rotate_left
       ·rintro w' ⟨s0, s1⟩
        go_simp
        with_reducible rfl
       rotate_left
       ·simp only [Act.put, List.setIfInBounds_toArray, List.set_cons_zero, List.set_cons_succ, i64_w, i32_w]
        rfl
       refine pure_ (i := 5) (N := some 43) (v := ?_) (a' := ?_) #[true, true, true, true, true, true, false, false, false, false, false, false] rfl rfl (by kernel_rfl) (fun _ _ _ h => h) (Or.inl ⟨by rfl, ?_⟩) ?_ ?_
       rotate_left
       ·intro w'
        go_simp
        with_reducible rfl
       rotate_left
       ·simp only [Act.put, List.setIfInBounds_toArray, List.set_cons_zero, List.set_cons_succ, i64_w, i32_w]
        rfl
       refine pure_ (i := 6) (N := some 44) (v := ?_) (a' := ?_) #[true, true, true, true, true, true, true, false, false, false, false, false] rfl rfl (by kernel_rfl) (fun _ _ _ h => h) (Or.inl ⟨by rfl, ?_⟩) ?_ ?_
       rotate_left
       ·intro w'
        go_simp
        with_reducible rfl
       rotate_left
       ·simp only [Act.put, List.setIfInBounds_toArray, List.set_cons_zero, List.set_cons_succ, i64_w, i32_w]
        rfl
       refine pure_ (i := 7) (N := some 45) (v := ?_) (a' := ?_) #[true, true, true, true, true, true, true, true, false, false, false, false] rfl rfl (by kernel_rfl) (fun _ _ _ h => h) (Or.inl ⟨by rfl, ?_⟩) ?_ ?_
       rotate_left
       ·intro w'
        go_simp
        with_reducible rfl
       rotate_left
       ·simp only [Act.put, List.setIfInBounds_toArray, List.set_cons_zero, List.set_cons_succ, i64_w, i32_w]
        rfl
       refine pure_ (i := 8) (N := some 46) (v := ?_) (a' := ?_) #[true, true, true, true, true, true, true, true, true, false, false, false] rfl rfl (by kernel_rfl) (fun _ _ _ h => h) (Or.inl ⟨by rfl, ?_⟩) ?_ ?_
       rotate_left
       ·intro w'
        go_simp
        with_reducible rfl
       rotate_left
       ·simp only [Act.put, List.setIfInBounds_toArray, List.set_cons_zero, List.set_cons_succ, i64_w, i32_w]
        rfl
       refine take_ (i := 9) (N := some 47) (v := ?_) (a' := ?_) #[true, true, true, true, true, true, true, true, true, true, false, false] rfl rfl (by kernel_rfl) (fun _ _ _ h => h) (Or.inl ⟨by rfl, ?_⟩) hHeld ?_ ?_
       rotate_left
       ·rintro w' ⟨s0, s1⟩
        go_simp
        with_reducible rfl
       rotate_left
       ·simp only [Act.put, List.setIfInBounds_toArray, List.set_cons_zero, List.set_cons_succ, i64_w, i32_w]
        rfl
       refine one_ (i := 10) (N := some 48) #[true, true, true, true, true, true, true, true, true, true, true, false] rfl rfl (by kernel_rfl) (by decide) (fun K hK => ?_)
       refine goesv_ Try.func72 (by kernel_rfl) rfl #[.slice Ay ly.length cy, .slice Ax lx.length cx] (by rfl) rfl rfl rfl (by (try simp only [List.map_toArray, List.map_cons, List.map_nil]); first | done | rfl) ?_
       refine calls_of_args (args' := #[.slice Ay ly.length cy, .slice Ax lx.length cx]) (by rfl) ?_
       have hs_ := hHeld
       obtain ⟨s0, s1⟩ := hs_
       refine (PC.slices_Equal_int_int.calls KE Ay cy ly Ax cx lx _ _ (Kd.C_below HCy.out (below_drew HBk.out)) HLy.out (Kd.C_below HCx.out (below_drew HBk.out)) HLx.out HEv.out).mono ?_
       rintro e w8 ⟨rfl, hd⟩
       have hb := hd.below
       refine ⟨_, rfl, ?_⟩
       refine hK.out _ _ ⟨pw_cell_below hb s0, pw_cell_below hb s1⟩ (fun hHeld => ?_)
       have hbd := below_step (below_drew (Below.refl wr.heap.size wr)) hb
       clear hK hb s0 s1 hd hHeld
       refine norm_ (a' := ?_) ?_ ?_
       rotate_left
       ·show Act.put _ (some 48) _ = _
        simp only [Act.put, List.setIfInBounds_toArray, List.set_cons_zero, List.set_cons_succ, i64_w, i32_w]
        rfl
       refine pure_ (i := 11) (N := some 49) (v := ?_) (a' := ?_) #[true, true, true, true, true, true, true, true, true, true, true, true] rfl rfl (by kernel_rfl) (fun _ _ _ h => h) (Or.inl ⟨by rfl, ?_⟩) ?_ ?_
       rotate_left
       ·intro w'
        go_simp
        with_reducible rfl
       rotate_left
       ·simp only [Act.put, List.setIfInBounds_toArray, List.set_cons_zero, List.set_cons_succ, i64_w, i32_w]
        rfl
       refine done_ (by kernel_rfl) ?_
       have HB9 := Aside0.mk (below_step HBk.out hbd)
       have HH9 := Aside0.mk ((hbd.block g (blk_lt HHk.out)).trans HHk.out)
       have hcy9 := pw_cell_below hbd hcy
       have hck9 := pw_cell_below hbd hck
       have hfk9 := blk_frozen HH9.out kk
       clear hcx hcy hck hbd y3 y4
       by_cases hxy : ly = lx
       ·rw [decide_eq_true hxy]
        have HEq := Aside0.mk hxy
        clear hxy
        go_wp2
        go_roundg (m + 1 - (k2 + 1))
        case measure => have := HK2.out; omega
        case rel => exact ⟨kk, k2 + 1, vs, by first | rfl | (congr 1; omega), by first | rfl | (congr 1; omega), ⟨by have := HK2.out; omega⟩, ⟨by omega, by omega⟩, ⟨by rw [HFo.out, if_pos HEq.out.symm]; exact kkl, by omega⟩, HH9, HLv, ⟨by rw [HFo.out, if_pos HEq.out.symm]; exact HTk.out⟩, ⟨fun i x hi hx => HAt.out i x (by omega) hx⟩, HB9⟩
       ·rw [decide_eq_false hxy]
        have HNe := Aside0.mk hxy
        clear hxy
        have z0 : (0 : Int) ≤ (kk : Int) := by omega
        have z1 : (kk : Int) < (ps.length : Int) := by omega
        have z2 : kk < ps.length := by omega
        go_wp2
        have hset := set_list HH9.out kk (.slice Ay ly.length cy)
        have hbs : Below w0.heap.size w0 (w8.setCell ⟨g, kk, none⟩ (.slice Ay ly.length cy)) := below_set HB9.out HG.out
        go_roundg (m + 1 - (k2 + 1))
        case measure => have := HK2.out; omega
        case rel => exact ⟨kk + 1, k2 + 1, vs.set kk (.slice Ay ly.length cy), by first | rfl | (congr 1; omega), by first | rfl | (congr 1; omega), ⟨by have := HK2.out; omega⟩, ⟨by omega, by omega⟩, ⟨by rw [HFo.out, if_neg (fun z => HNe.out z.symm), List.length_append, List.length_singleton, kkl], by omega⟩, ⟨hset⟩, ⟨by rw [List.length_set]; exact HLv.out⟩, ⟨by
          rw [HFo.out, if_neg (fun z => HNe.out z.symm), List.map_append, ← HTk.out, List.take_add_one, List.getElem?_set_self (by have := HLv.out; omega), List.take_set_of_le (Nat.le_refl kk)]
          rfl⟩, ⟨fun i x hi hx => by
          rw [List.getElem?_set_ne (by omega)]
          exact HAt.out i x (by omega) hx⟩, ⟨hbs⟩⟩
      ·obtain rfl : k2 = m := by omega
       have hge2 : ¬ (k2 : Int) < (k2 : Int) := by omega
       have z0 : (0 : Int) ≤ (kk : Int) := by omega
       have z1 : (kk : Int) ≤ (ps.length : Int) := by omega
       have z2 : ¬ cc = kk := by omega
       have hfin : foldG ps = foldG (ps.take (k + k2)) := by rw [List.take_of_length_le (by omega)]
       have HFin := Aside0.mk hfin
       clear hfin
       have hcl := Lib.run_clear_slice (P := Try.prog) wr 55 24 0 (.slice none 0 0) Try.underlying55 Try.zeroValue24 rfl rfl g kk (ps.length - kk) (cc - kk) (by omega) (fun j hj => by
        rw [blk_cell HHk.out, List.getElem?_toArray, List.getElem?_eq_getElem (by have := HLv.out; omega)]
        rfl) (fun j _ => blk_frozen HHk.out _)
       go_wp2
       clear hcl
       have hset := sets_list (List.replicate (ps.length - kk) (.slice none 0 0)) kk wr vs HHk.out (by rw [List.length_replicate]; have := HLv.out; omega)
       have hbs : Below w0.heap.size w0 (wr.setCells g kk (List.replicate (ps.length - kk) (.slice none 0 0))) := below_setsG HG.out _ _ _ HBk.out
       go_ret
       show CompRes w0 ps g cc _ _
       unfold CompRes
       rw [HFin.out, kkl, ← HTk.out]
       exact ⟨_, rfl, by rw [hset, List.append_assoc], hbs⟩

    ·rw [decide_eq_false hxy]
     have HNe := Aside0.mk hxy
     clear hxy
     go_wp2
     go_roundg (ps.length + 1 - (k + 1))
     case measure => have := HK.out; omega
     case rel => exact ⟨k + 1, by first | rfl | (congr 1; omega), ⟨by have := HK.out; omega⟩, ⟨by omega⟩, ⟨by omega⟩, ⟨by
      have hj := HJ.out
      subst hj
      rw [show j + 1 + 1 = j + 2 from rfl, foldG_take HX.out HY.out, if_neg (fun z => HNe.out z.symm), HFo.out, ← take_snocG HY.out]⟩, HH8, HB8⟩
   ·obtain rfl : k = ps.length := by omega
    have hge : ¬ (ps.length : Int) < (ps.length : Int) := by omega
    go_wp2
    go_ret
    have e : foldG ps = ps := by
     have := HFo.out
     rwa [List.take_length] at this
    show CompRes w0 ps g cc _ _
    unfold CompRes
    rw [e]
    exact ⟨tl, rfl, HHk.out, HBk.out⟩
def Conv (hi wi : Nat) (g : Nat → Nat → Int) : Prop := ∀ r c r' c' i j, r < hi → c < wi → r' < hi → c' < wi → g r c = g r' c' → min r r' ≤ i → i ≤ max r r' → min c c' ≤ j → j ≤ max c c' → g i j = g r c
def ConvG (rows : List (List Int)) : Prop := Conv rows.length (wideOf rows) (valAt rows)
theorem Conv.congr {hi wi : Nat} {g g' : Nat → Nat → Int} (h : Conv hi wi g) (e : ∀ r c, r < hi → c < wi → g r c = g' r c) : Conv hi wi g' := by
 intro r c r' c' i j h1 h2 h3 h4 hv k1 k2 k3 k4
 rw [← e i j (by omega) (by omega), ← e r c h1 h2]
 exact h r c r' c' i j h1 h2 h3 h4 (by rw [e r c h1 h2, e r' c' h3 h4]; exact hv) k1 k2 k3 k4
theorem Conv.map {hi wi : Nat} {g : Nat → Nat → Int} (h : Conv hi wi g) (f : Int → Int) (hf : ∀ r c r' c', r < hi → c < wi → r' < hi → c' < wi → f (g r c) = f (g r' c') → g r c = g r' c') : Conv hi wi (fun r c => f (g r c)) := by
 intro r c r' c' i j h1 h2 h3 h4 hv k1 k2 k3 k4
 show f _ = f _
 rw [h r c r' c' i j h1 h2 h3 h4 (hf _ _ _ _ h1 h2 h3 h4 hv) k1 k2 k3 k4]
theorem names_canon {rows : List (List Int)} (hs : shapeOk rows = true) (h9 : (roomsOf rows).length ≤ 9) : Canon (textOf (canon rows)) := by
 have hn := names_nums hs
 have hinj := names_inj rows
 have hL := rooms_len hs
 refine ⟨?_, ?_⟩
 ·unfold gridOk
  rw [Bool.and_eq_true, hn, mapG_shape]
  refine ⟨hs, ?_⟩
  rw [List.all_eq_true]
  intro s hss
  obtain ⟨r, hr, rfl⟩ := List.mem_map.1 hss
  unfold okText
  rw [bytesOf_rowText r (canon_val hs r hr), List.all_eq_true]
  intro x hx
  obtain ⟨y, hy, rfl⟩ := List.mem_map.1 hx
  unfold canon canonL at hr
  obtain ⟨r0, hr0, rfl⟩ := List.mem_map.1 hr
  obtain ⟨z, hz, rfl⟩ := List.mem_map.1 hy
  have h3 : (ordAll rows).idxOf z < (ordAll rows).length := List.idxOf_lt_length_of_mem (ordL_mem rows.flatten [] z (List.mem_flatten.2 ⟨r0, hr0, hz⟩))
  simp only [okLetter, Bool.not_eq_true', Bool.or_eq_false_iff, decide_eq_false_iff_not]
  omega
 ·unfold namesOf
  rw [hn, canon_map hinj]
theorem text_length (rows : List (List Int)) : (textOf (canon rows)).length = rows.length := by simp [textOf, canon, canonL]
theorem canon_length (rows : List (List Int)) : (canon rows).length = rows.length := by simp [canon, canonL]
theorem names_floor {rows : List (List Int)} (hs : shapeOk rows = true) (h9 : (roomsOf rows).length ≤ 9) : floorF (textOf (canon rows)) = if sumArea (roomsOf rows) = (rows.length : Int) * (wideOf rows : Int) then some (canon rows, roomsOf rows) else none := by
 have hC := names_canon hs h9
 have hn := names_nums hs
 have hinj := names_inj rows
 rw [floorF_grid hC.grid, hn, rooms_map hs hinj, mapG_wide, text_length, canon_map hinj]
 by_cases h : sumArea (roomsOf rows) = (rows.length : Int) * (wideOf rows : Int)
 ·rw [if_pos h, if_pos ⟨h9, h, hC.names⟩]
 ·rw [if_neg h, if_neg (fun z => h z.2.1)]
theorem canon_wide (rows : List (List Int)) : wideOf (canon rows) = wideOf rows := by
 unfold wideOf canon canonL
 cases rows with
 | nil => rfl
 | cons a r => simp
theorem canon_at {rows : List (List Int)} (hs : shapeOk rows = true) {r c : Nat} (hr : r < rows.length) (hc : c < wideOf rows) : valAt (canon rows) r c = ((ordAll rows).idxOf (valAt rows r c) : Int) := by
 have e := congrArg (fun R => valAt R r c) (rect_map (shape_rect hs) (fun x => ((ordAll rows).idxOf x : Int)))
 exact Eq.trans e (valAt_gridOf hr hc)
theorem idxOf_inj {L : List Int} {x y : Int} (hx : x ∈ L) (hy : y ∈ L) (e : L.idxOf x = L.idxOf y) : x = y := by
 have h1 := List.idxOf_lt_length_of_mem hx
 have h2 := List.idxOf_lt_length_of_mem hy
 have e1 : L[L.idxOf x] = x := List.getElem_idxOf h1
 have e2 : L[L.idxOf y] = y := List.getElem_idxOf h2
 rw [← e1, ← e2]
 congr 1
theorem val_ord {rows : List (List Int)} (hs : shapeOk rows = true) {r c : Nat} (hr : r < rows.length) (hc : c < wideOf rows) : valAt rows r c ∈ ordAll rows := ordL_mem rows.flatten [] _ (val_mem (shape_rect hs) hr hc)
theorem canon_eq_iff {rows : List (List Int)} (hs : shapeOk rows = true) {r c r' c' : Nat} (hr : r < rows.length) (hc : c < wideOf rows) (hr' : r' < rows.length) (hc' : c' < wideOf rows) : valAt (canon rows) r c = valAt (canon rows) r' c' ↔ valAt rows r c = valAt rows r' c' := by
 rw [canon_at hs hr hc, canon_at hs hr' hc']
 constructor
 ·exact fun h => idxOf_inj (val_ord hs hr hc) (val_ord hs hr' hc') (by omega)
 ·intro h
  rw [h]
theorem conv_canon {rows : List (List Int)} (hs : shapeOk rows = true) : ConvG (canon rows) ↔ ConvG rows := by
 unfold ConvG
 rw [canon_length, canon_wide]
 constructor
 ·intro h r c r' c' i j h1 h2 h3 h4 hv k1 k2 k3 k4
  exact (canon_eq_iff hs (by omega) (by omega) h1 h2).1 (h r c r' c' i j h1 h2 h3 h4 ((canon_eq_iff hs h1 h2 h3 h4).2 hv) k1 k2 k3 k4)
 ·intro h r c r' c' i j h1 h2 h3 h4 hv k1 k2 k3 k4
  exact (canon_eq_iff hs (by omega) (by omega) h1 h2).2 (h r c r' c' i j h1 h2 h3 h4 ((canon_eq_iff hs h1 h2 h3 h4).1 hv) k1 k2 k3 k4)
theorem countN_conv (rows : List (List Int)) (wi : Nat) (x : Int) (b : Rc) : ∀ n, (∀ m, m < n → (cellN rows wi m = x ↔ inBox b wi m)) → countN rows wi x n = countB b wi n
 | 0, _ => rfl
 | n + 1, h => by
  have ih := countN_conv rows wi x b n (fun m hm => h m (by omega))
  simp only [countN, countB]
  by_cases hx : cellN rows wi n = x
  ·rw [if_pos hx, if_pos ((h n (by omega)).1 hx), ih]
  ·rw [if_neg hx, if_neg (fun z => hx ((h n (by omega)).2 z)), ih]
theorem conv_sum {rows : List (List Int)} (hs : shapeOk rows = true) (h9 : (roomsOf rows).length ≤ 9) : sumArea (roomsOf rows) = (rows.length : Int) * (wideOf rows : Int) ↔ ConvG rows := by
 have hfl := names_floor hs h9
 constructor
 ·intro h
  rw [if_pos h] at hfl
  have F := floor_facts hfl
  rw [← conv_canon hs]
  intro r c r' c' i j h1 h2 h3 h4 hv k1 k2 k3 k4
  have hv1 := valAt_range F.ok r c h1 h2
  obtain ⟨q, hq⟩ := Int.eq_ofNat_of_zero_le hv1.1
  have hq2 : q < (roomsOf rows).length := by omega
  have hc := fun r c hr hc => room_cells hfl q hq2 r c hr hc
  have a1 := (hc r c h1 h2).1 hq
  have a2 := (hc r' c' h3 h4).1 (by rw [← hv]; exact hq)
  rw [hq]
  exact (hc i j (by omega) (by omega)).2 (by omega)
 ·intro h
  have hC := names_canon hs h9
  have hn := names_nums hs
  have hinj := names_inj rows
  have hiff := full_iff hC
  rw [hn, rooms_map hs hinj, mapG_wide, text_length] at hiff
  have hall : (List.range (roomsOf rows).length).all (fullB (textOf (canon rows))) = true := by
   rw [List.all_eq_true]
   intro x hx
   have hx := List.mem_range.1 hx
   unfold fullB
   rw [decide_eq_true_eq, hn, rooms_map hs hinj, mapG_wide, text_length]
   obtain ⟨v, hv, hb, hbd⟩ := rooms_box hs x hx
   rw [← countB_all _ _ _ hbd]
   obtain ⟨s1, s2, s3, s4, s5⟩ := (shapeOk_iff _).1 hs
   have hR := shape_rect hs
   refine countN_conv _ _ _ _ _ fun m hm => ?_
   have hr : m / wideOf rows < rows.length := by rw [Nat.div_lt_iff_lt_mul (by omega)]; exact hm
   have hc := Nat.mod_lt m (show 0 < wideOf rows by omega)
   have hcell : cellN (mapG (fun x => 97 + ((ordAll rows).idxOf x : Int)) rows) (wideOf rows) m = ((ordAll rows).idxOf (valAt rows (m / wideOf rows) (m % wideOf rows)) : Int) := by
    unfold cellN
    rw [valAt_map hR _ hr hc]
    omega
   rw [hcell, idx_iff (ordAll_nodup rows) hv (val_ord hs hr hc)]
   constructor
   ·exact fun h => hb.ins m hm h
   ·intro hin
    obtain ⟨i1, i2, i3, i4⟩ := hin
    obtain ⟨mt, nt, vt, et⟩ := hb.top
    obtain ⟨ml, nl, vl, el⟩ := hb.left
    obtain ⟨mw, nw, vw, ew⟩ := hb.low
    obtain ⟨mr, nr, vr, er⟩ := hb.right
    have rr : ∀ m, m < rows.length * wideOf rows → m / wideOf rows < rows.length ∧ m % wideOf rows < wideOf rows := fun m hm => ⟨by rw [Nat.div_lt_iff_lt_mul (by omega)]; exact hm, Nat.mod_lt m (by omega)⟩
    obtain ⟨t1, t2⟩ := rr mt nt
    obtain ⟨l1, l2⟩ := rr ml nl
    obtain ⟨w1, w2⟩ := rr mw nw
    obtain ⟨r1, r2⟩ := rr mr nr
    have gt := hb.ins mt nt vt
    have gl := hb.ins ml nl vl
    have gw := hb.ins mw nw vw
    have gr := hb.ins mr nr vr
    generalize hbx : (roomsOf rows).getD x zeroR = bx at *
    -- the upper left and the lower right corner
    have c1 := h (mt / wideOf rows) (mt % wideOf rows) (ml / wideOf rows) (ml % wideOf rows) (mt / wideOf rows) (ml % wideOf rows) t1 t2 l1 l2 (vt.trans vl.symm) (by omega) (by omega) (by omega) (by omega)
    have c2 := h (mw / wideOf rows) (mw % wideOf rows) (mr / wideOf rows) (mr % wideOf rows) (mw / wideOf rows) (mr % wideOf rows) w1 w2 r1 r2 (vw.trans vr.symm) (by omega) (by omega) (by omega) (by omega)
    have c3 := h (mt / wideOf rows) (ml % wideOf rows) (mw / wideOf rows) (mr % wideOf rows) (m / wideOf rows) (m % wideOf rows) t1 l2 w1 r2 (by rw [c1, c2, vt, vw]) (by omega) (by omega) (by omega) (by omega)
    rw [c3, c1, vt]
  rw [hall] at hiff
  exact of_decide_eq_true hiff.symm
structure OkG (rows : List (List Int)) : Prop where
 shape : shapeOk rows = true
 many : (ordAll rows).length ≤ 9
 conv : ConvG rows
theorem OkG.plan {rows : List (List Int)} (h : OkG rows) : planF rows = (textOf (canon rows), true) := by
 have h9 : (roomsOf rows).length ≤ 9 := by rw [← rooms_len h.shape]; exact h.many
 rw [planF_shape h.shape, if_pos ⟨h9, (conv_sum h.shape h9).2 h.conv⟩]
theorem OkG.floor {rows : List (List Int)} (h : OkG rows) : floorF (textOf (canon rows)) = some (canon rows, roomsOf rows) := by
 have h9 : (roomsOf rows).length ≤ 9 := by rw [← rooms_len h.shape]; exact h.many
 rw [names_floor h.shape h9, if_pos ((conv_sum h.shape h9).2 h.conv)]
theorem floor_shape {cs : List (List Int)} {rs : List Rc} (h : FloorOk cs rs) : shapeOk cs = true := (shapeOk_iff _).2 ⟨h.h1, h.h6, h.w1, h.w6, h.rect⟩
theorem add_inj (a : Int) (S : Int → Prop) : InjOn (fun x => a + x) S := fun x y _ _ e => by have : a + x = a + y := e; omega
theorem floor_okG {p : List ByteArray} {cs : List (List Int)} {rs : List Rc} (h : floorF p = some (cs, rs)) : OkG cs ∧ canon cs = cs ∧ rs = roomsOf cs ∧ p = textOf cs := by
 have F := floor_facts h
 have hs := floor_shape F.ok
 have e1 : canon cs = cs := by
  have e2 : canon (mapG (fun x => 97 + x) cs) = canon cs := canon_map (add_inj 97 _)
  rw [← F.nums, ← F.cells] at e2
  exact e2.symm
 have e2 : rs = roomsOf cs := by rw [F.rooms, F.nums, rooms_map hs (add_inj 97 _)]
 have h9 : (roomsOf cs).length ≤ 9 := by rw [← e2]; exact F.ok.many
 have hsum := floor_sum h
 rw [F.wide, F.len, e2] at hsum
 exact ⟨⟨hs, by rw [rooms_len hs]; exact h9, (conv_sum hs h9).1 hsum⟩, e1, e2, F.text⟩
theorem gridOf_wide {h w : Nat} {g : Nat → Nat → Int} (h1 : 1 ≤ h) : wideOf (gridOf h w g) = w := by
 have := gridOf_get (hi := h) (wi := w) (g := g) (r := 0) (by omega)
 unfold wideOf
 rw [List.getD_eq_getElem?_getD, this]
 simp
def reG (X : List (List Int)) (h w : Nat) (a b : Nat → Nat → Nat) : List (List Int) := gridOf h w fun r c => valAt X (a r c) (b r c)
def IntoR (hi wi h w : Nat) (a b : Nat → Nat → Nat) : Prop := ∀ r c, r < h → c < w → a r c < hi ∧ b r c < wi
def BoxM (h w : Nat) (a b : Nat → Nat → Nat) : Prop := ∀ r c r' c' i j, r < h → c < w → r' < h → c' < w → min r r' ≤ i → i ≤ max r r' → min c c' ≤ j → j ≤ max c c' →
 min (a r c) (a r' c') ≤ a i j ∧ a i j ≤ max (a r c) (a r' c') ∧ min (b r c) (b r' c') ≤ b i j ∧ b i j ≤ max (b r c) (b r' c')
theorem shape_grid {h w : Nat} {g : Nat → Nat → Int} (h1 : 1 ≤ h) (h6 : h ≤ 6) (w1 : 1 ≤ w) (w6 : w ≤ 6) : shapeOk (gridOf h w g) = true := by
 rw [shapeOk_iff, gridOf_length, gridOf_wide h1]
 exact ⟨h1, h6, w1, w6, gridOf_rect h w g⟩
theorem vals_grid {h w : Nat} {g : Nat → Nat → Int} {v : Int} : Vals (gridOf h w g) v ↔ ∃ r c, r < h ∧ c < w ∧ g r c = v := by
 unfold Vals gridOf
 rw [List.mem_flatten]
 constructor
 ·rintro ⟨l, hl, hv⟩
  obtain ⟨r, hr, rfl⟩ := List.mem_map.1 hl
  obtain ⟨c, hc, rfl⟩ := List.mem_map.1 hv
  exact ⟨r, c, List.mem_range.1 hr, List.mem_range.1 hc, rfl⟩
 ·rintro ⟨r, c, hr, hc, rfl⟩
  exact ⟨_, List.mem_map.2 ⟨r, List.mem_range.2 hr, rfl⟩, List.mem_map.2 ⟨c, List.mem_range.2 hc, rfl⟩⟩
theorem vals_rows {X : List (List Int)} (hs : shapeOk X = true) {v : Int} : Vals X v ↔ ∃ r c, r < X.length ∧ c < wideOf X ∧ valAt X r c = v := by
 have := rect_eq (shape_rect hs)
 conv => lhs; rw [this]
 exact vals_grid
theorem ord_vals (X : List (List Int)) (v : Int) : v ∈ ordAll X ↔ Vals X v := ⟨ordAll_vals X v, fun h => ordL_mem X.flatten [] v h⟩
theorem ord_sub {X Y : List (List Int)} (h : ∀ v, Vals X v → Vals Y v) : (ordAll X).length ≤ (ordAll Y).length :=
 (ordAll_nodup X).length_le_of_subset fun v hv => (ord_vals Y v).2 (h v ((ord_vals X v).1 hv))
theorem re_vals {X : List (List Int)} (hs : shapeOk X = true) {h w : Nat} {a b : Nat → Nat → Nat} (hi : IntoR X.length (wideOf X) h w a b) : ∀ v, Vals (reG X h w a b) v → Vals X v := by
 intro v hv
 obtain ⟨r, c, hr, hc, rfl⟩ := vals_grid.1 hv
 exact (vals_rows hs).2 ⟨_, _, (hi r c hr hc).1, (hi r c hr hc).2, rfl⟩
theorem re_conv {X : List (List Int)} (hc : ConvG X) {h w : Nat} {a b : Nat → Nat → Nat} (hi : IntoR X.length (wideOf X) h w a b) (hb : BoxM h w a b) : Conv h w (fun r c => valAt X (a r c) (b r c)) := by
 intro r c r' c' i j h1 h2 h3 h4 hv k1 k2 k3 k4
 obtain ⟨m1, m2, m3, m4⟩ := hb r c r' c' i j h1 h2 h3 h4 k1 k2 k3 k4
 obtain ⟨a1, a2⟩ := hi r c h1 h2
 obtain ⟨b1, b2⟩ := hi r' c' h3 h4
 exact hc _ _ _ _ _ _ a1 a2 b1 b2 hv m1 m2 m3 m4
theorem convG_grid {h w : Nat} {g : Nat → Nat → Int} (h1 : 1 ≤ h) (hc : Conv h w g) : ConvG (gridOf h w g) := by
 unfold ConvG
 rw [gridOf_length, gridOf_wide h1]
 exact hc.congr fun r c hr hc => (valAt_gridOf hr hc).symm
theorem re_ok {X : List (List Int)} (hX : OkG X) {h w : Nat} {a b : Nat → Nat → Nat} (h1 : 1 ≤ h) (h6 : h ≤ 6) (w1 : 1 ≤ w) (w6 : w ≤ 6) (hi : IntoR X.length (wideOf X) h w a b) (hb : BoxM h w a b) : OkG (reG X h w a b) :=
 ⟨shape_grid h1 h6 w1 w6, Nat.le_trans (ord_sub (re_vals hX.shape hi)) hX.many, convG_grid h1 (re_conv hX.conv hi hb)⟩
theorem OkG.dims {X : List (List Int)} (h : OkG X) : 1 ≤ X.length ∧ X.length ≤ 6 ∧ 1 ≤ wideOf X ∧ wideOf X ≤ 6 := by
 obtain ⟨a, b, c, d, e⟩ := (shapeOk_iff _).1 h.shape
 exact ⟨a, b, c, d⟩
theorem OkG.canon {X : List (List Int)} (h : OkG X) : OkG (canon X) := (floor_okG h.floor).1
def PredR (P : Program) (f : FuncId) (caps : Array Value) (w : World) (rows : List (List Int)) (p : List Int → Bool) : Prop :=
 ∀ (W : World) (row : List Int) (A : Option Addr) (c : Nat), row ∈ rows → Below w.heap.size w W → (Kd.int .i64).C W A row.length row → row.length ≤ c → Calls P f (#[.slice A row.length c] ++ caps) W fun e W' => e = .returned (.bool (p row)) ∧ Below W.heap.size W W'
set_option maxHeartbeats 4000000 in
set_option maxRecDepth 100000 in
theorem indexR_calls (f : FuncId) (fn : Func) (hf : Try.prog.funcs[f]? = some fn) (hname : (fn.name == "runtime.NumGoroutine") = false) (hb : fn.body.isSome = true) (caps : Array Value) (p : List Int → Bool) (A0 : Option Addr) (c0 : Nat) (rows : List (List Int)) (w : World)
  (hr0 : (Kd.slice 3 (Kd.int .i64)).C w A0 rows.length rows) (hp : PredR Try.prog f caps w rows p) :
  Calls Try.prog 99 #[.slice A0 rows.length c0, .func (.func f) #[] caps] w (IndexPost w rows p) := by
 have hn := (C_len hr0).2
 have HR0 := Aside0.mk hr0
 have HP := Aside0.mk hp
 have HF := Aside0.mk hf
 have HN := Aside0.mk hname
 have HBd := Aside0.mk hb
 clear hr0 hp hf hname hb
 have b1 : (rows.length : Int) ≤ 9223372036854775807 := by omega
 go_enter Try.func99, Try.ntmps99
 go_wp2
 go_loopg [8] rows.length (fun kq v8 w' => ∃ i : Nat, v8 = .int .i64 (i : Int) ∧ Aside0 (i + kq = rows.length) ∧ Aside0 ((rows.take i).any p = false) ∧ Aside0 (Below w.heap.size w w'))
 case atStart => exact ⟨0, rfl, ⟨by omega⟩, ⟨by simp⟩, ⟨Below.refl _ _⟩⟩
 case round =>
  obtain ⟨i, rfl, HK, HA, HB⟩ := hrel
  by_cases hi : i < rows.length
  ·have hlt : (i : Int) < rows.length := by omega
   have hi0 : (0 : Int) ≤ i := by omega
   obtain ⟨row, hrow⟩ : ∃ row, rows[i]? = some row := ⟨_, List.getElem?_eq_getElem hi⟩
   obtain ⟨ad, Ai, ci, e1, hx, hl, hr⟩ := C_row HR0.out i row hrow
   cases e1
   replace hx := pw_cell_below HB.out hx
   have HRi := Aside0.mk (Kd.C_below hr HB.out)
   have HLi := Aside0.mk hl
   have HRow := Aside0.mk (List.mem_of_getElem? hrow)
   have HT := Aside0.mk (show (rows.take (i + 1)).any p = p row by
    rw [List.take_add_one, hrow, List.any_append, HA.out]; simp)
   clear hr hl hrow
   generalize hpv : p row = b at HT
   have HPV := Aside0.mk hpv
   clear hpv
   cases b
   ·go_wp2_with (first | ((with_reducible refine gate_dst (N := 16) rfl ?_); refine goesvL_ (some 16) rfl rfl HF.out HN.out HBd.out #[.slice Ai row.length ci] rfl rfl (by (try simp only [List.map_toArray, List.map_cons, List.map_nil]); first | done | rfl) ?_; refine (HP.out _ row Ai ci HRow.out HB.out HRi.out HLi.out).mono ?_; rintro e w8 ⟨rfl, hb8⟩; rw [HPV.out]; refine ⟨_, rfl, ?_⟩; have HB8 := Aside0.mk (below_step HB.out hb8); clear hb8))
    go_roundg (rows.length - (i + 1))
    case measure => have := HK.out; omega
    case rel => exact ⟨i + 1, by first | rfl | (congr 1; omega), ⟨by have := HK.out; omega⟩, HT, HB8⟩
   ·go_wp2_with (first | ((with_reducible refine gate_dst (N := 16) rfl ?_); refine goesvL_ (some 16) rfl rfl HF.out HN.out HBd.out #[.slice Ai row.length ci] rfl rfl (by (try simp only [List.map_toArray, List.map_cons, List.map_nil]); first | done | rfl) ?_; refine (HP.out _ row Ai ci HRow.out HB.out HRi.out HLi.out).mono ?_; rintro e w8 ⟨rfl, hb8⟩; rw [HPV.out]; refine ⟨_, rfl, ?_⟩; have HB8 := Aside0.mk (below_step HB.out hb8); clear hb8))
    go_ret
    refine ⟨i, rfl, ?_, HB8.out⟩
    rw [decide_eq_true (by omega), ← List.take_append_drop (i + 1) rows, List.any_append, HT.out]
    rfl
  ·have hge : ¬ (i : Int) < rows.length := by omega
   obtain rfl : i = rows.length := by have := HK.out; omega
   go_wp2
   go_ret
   refine ⟨-1, rfl, ?_, HB.out⟩
   have := HA.out
   rw [List.take_length] at this
   rw [this]
   rfl
set_option maxHeartbeats 4000000 in
set_option maxRecDepth 100000 in
theorem containsR_calls (f : FuncId) (fn : Func) (hf : Try.prog.funcs[f]? = some fn) (hname : (fn.name == "runtime.NumGoroutine") = false) (hb : fn.body.isSome = true) (caps : Array Value) (p : List Int → Bool) (A0 : Option Addr) (c0 : Nat) (rows : List (List Int)) (w : World)
  (hr0 : (Kd.slice 3 (Kd.int .i64)).C w A0 rows.length rows) (hp : PredR Try.prog f caps w rows p) :
  Calls Try.prog 74 #[.slice A0 rows.length c0, .func (.func f) #[] caps] w fun e w' => e = .returned (.bool (rows.any p)) ∧ Below w.heap.size w w' := by
 have H := Aside0.mk (indexR_calls f fn hf hname hb caps p A0 c0 rows w hr0 hp)
 clear hr0 hp hf hname hb
 generalize hv : rows.any p = v
 have HV := Aside0.mk hv
 clear hv
 go_enter Try.func74, Try.ntmps74
 go_wp2_with (first | (go_at_call 99; refine H.out.mono ?_; rintro e w8 ⟨i, rfl, hi, hb8⟩; rw [HV.out] at hi; have HB8 := Aside0.mk hb8; clear hb8))
 go_ret
 exact ⟨by rw [← hi]; rfl, HB8.out⟩
def newCol (c : Nat) (row : List Int) : Bool := decide (c = 0) || (rd row (c : Int) != rd row ((c - 1 : Nat) : Int))
set_option maxHeartbeats 4000000 in
set_option maxRecDepth 100000 in
theorem differs_pred (w : World) (pc c wi : Nat) (rows : List (List Int)) (hc : w.cell? ⟨pc, 0, none⟩ = some (.int .i64 (c : Int))) (hcw : c < wi) (hw6 : wi ≤ 6) (hrows : ∀ r ∈ rows, r.length = wi) :
  PredR Try.prog 73 #[.pointer (some ⟨pc, 0, none⟩)] w rows (newCol c) := by
 intro W row A cap hm hb hC hl
 have hrl := hrows row hm
 replace hc := pw_cell_below hb hc
 clear hb hm hrows
 show Calls _ _ #[.slice A row.length cap, .pointer (some ⟨pc, 0, none⟩)] W _
 by_cases h0 : c = 0
 ·subst h0
  have hp : newCol 0 row = true := by simp [newCol]
  rw [hp]
  clear hC
  go_enter Try.func73, Try.ntmps73
  go_upto_region 1 with (fail)
  refine start_ (n := 15) (S := fun w' => (w'.cell? ⟨pc, 0, none⟩ = some (.int .i64 ((0 : Nat) : Int)))) (ds := []) #[false, false, false, false, false, false, false, false, false, false, false, false, false, false, false] (by kernel_rfl) rfl rfl (hc) (fun hHeld => ?_)
  refine take_ (i := 0) (N := some 4) (v := ?_) (a' := ?_) #[true, false, false, false, false, false, false, false, false, false, false, false, false, false, false] rfl rfl (by kernel_rfl) (fun _ _ _ h => h) (Or.inl ⟨by rfl, ?_⟩) hHeld ?_ ?_
  rotate_left
  ·rintro w' s0
   go_simp
   with_reducible rfl
  rotate_left
  ·simp only [Act.put, List.setIfInBounds_toArray, List.set_cons_zero, List.set_cons_succ, i64_w, i32_w]
   rfl
  refine pure_ (i := 1) (N := some 5) (v := ?_) (a' := ?_) #[true, true, false, false, false, false, false, false, false, false, false, false, false, false, false] rfl rfl (by kernel_rfl) (fun _ _ _ h => h) (Or.inl ⟨by rfl, ?_⟩) ?_ ?_
  rotate_left
  ·intro w'
   go_simp
   with_reducible rfl
  rotate_left
  ·simp only [Act.put, List.setIfInBounds_toArray, List.set_cons_zero, List.set_cons_succ, i64_w, i32_w]
   rfl
  refine pure_ (i := 2) (N := some 6) (v := ?_) (a' := ?_) #[true, true, true, false, false, false, false, false, false, false, false, false, false, false, false] rfl rfl (by kernel_rfl) (fun _ _ _ h => h) (Or.inl ⟨by rfl, ?_⟩) ?_ ?_
  rotate_left
  ·intro w'
   go_simp
   with_reducible rfl
  rotate_left
  ·simp only [Act.put, List.setIfInBounds_toArray, List.set_cons_zero, List.set_cons_succ, i64_w, i32_w]
   rfl
  refine pure_ (i := 3) (N := some 7) (v := undef) (a' := ?_) #[true, true, true, true, false, false, false, false, false, false, false, false, false, false, false] rfl rfl (by kernel_rfl) (fun _ _ _ h => h) (Or.inr ⟨by rfl, rfl⟩) ?_ ?_
  rotate_left
  ·simp only [Act.put, List.setIfInBounds_toArray, List.set_cons_zero, List.set_cons_succ, i64_w, i32_w]
   rfl
  refine pure_ (i := 4) (N := some 8) (v := undef) (a' := ?_) #[true, true, true, true, true, false, false, false, false, false, false, false, false, false, false] rfl rfl (by kernel_rfl) (fun _ _ _ h => h) (Or.inr ⟨by rfl, rfl⟩) ?_ ?_
  rotate_left
  ·simp only [Act.put, List.setIfInBounds_toArray, List.set_cons_zero, List.set_cons_succ, i64_w, i32_w]
   rfl
  refine pure_ (i := 5) (N := some 9) (v := undef) (a' := ?_) #[true, true, true, true, true, true, false, false, false, false, false, false, false, false, false] rfl rfl (by kernel_rfl) (fun _ _ _ h => h) (Or.inr ⟨by rfl, rfl⟩) ?_ ?_
  rotate_left
  ·simp only [Act.put, List.setIfInBounds_toArray, List.set_cons_zero, List.set_cons_succ, i64_w, i32_w]
   rfl
  refine pure_ (i := 6) (N := some 10) (v := undef) (a' := ?_) #[true, true, true, true, true, true, true, false, false, false, false, false, false, false, false] rfl rfl (by kernel_rfl) (fun _ _ _ h => h) (Or.inr ⟨by rfl, rfl⟩) ?_ ?_
  rotate_left
  ·simp only [Act.put, List.setIfInBounds_toArray, List.set_cons_zero, List.set_cons_succ, i64_w, i32_w]
   rfl
  refine pure_ (i := 7) (N := some 11) (v := undef) (a' := ?_) #[true, true, true, true, true, true, true, true, false, false, false, false, false, false, false] rfl rfl (by kernel_rfl) (fun _ _ _ h => h) (Or.inr ⟨by rfl, rfl⟩) ?_ ?_
  rotate_left
  ·simp only [Act.put, List.setIfInBounds_toArray, List.set_cons_zero, List.set_cons_succ, i64_w, i32_w]
   rfl
  refine pure_ (i := 8) (N := some 12) (v := undef) (a' := ?_) #[true, true, true, true, true, true, true, true, true, false, false, false, false, false, false] rfl rfl (by kernel_rfl) (fun _ _ _ h => h) (Or.inr ⟨by rfl, rfl⟩) ?_ ?_
  rotate_left
  ·simp only [Act.put, List.setIfInBounds_toArray, List.set_cons_zero, List.set_cons_succ, i64_w, i32_w]
   rfl
  refine pure_ (i := 9) (N := some 13) (v := undef) (a' := ?_) #[true, true, true, true, true, true, true, true, true, true, false, false, false, false, false] rfl rfl (by kernel_rfl) (fun _ _ _ h => h) (Or.inr ⟨by rfl, rfl⟩) ?_ ?_
  rotate_left
  ·simp only [Act.put, List.setIfInBounds_toArray, List.set_cons_zero, List.set_cons_succ, i64_w, i32_w]
   rfl
  refine pure_ (i := 10) (N := some 14) (v := undef) (a' := ?_) #[true, true, true, true, true, true, true, true, true, true, true, false, false, false, false] rfl rfl (by kernel_rfl) (fun _ _ _ h => h) (Or.inr ⟨by rfl, rfl⟩) ?_ ?_
  rotate_left
  ·simp only [Act.put, List.setIfInBounds_toArray, List.set_cons_zero, List.set_cons_succ, i64_w, i32_w]
   rfl
  refine pure_ (i := 11) (N := some 15) (v := undef) (a' := ?_) #[true, true, true, true, true, true, true, true, true, true, true, true, false, false, false] rfl rfl (by kernel_rfl) (fun _ _ _ h => h) (Or.inr ⟨by rfl, rfl⟩) ?_ ?_
  rotate_left
  ·simp only [Act.put, List.setIfInBounds_toArray, List.set_cons_zero, List.set_cons_succ, i64_w, i32_w]
   rfl
  refine pure_ (i := 12) (N := some 16) (v := undef) (a' := ?_) #[true, true, true, true, true, true, true, true, true, true, true, true, true, false, false] rfl rfl (by kernel_rfl) (fun _ _ _ h => h) (Or.inr ⟨by rfl, rfl⟩) ?_ ?_
  rotate_left
  ·simp only [Act.put, List.setIfInBounds_toArray, List.set_cons_zero, List.set_cons_succ, i64_w, i32_w]
   rfl
  refine pure_ (i := 13) (N := some 17) (v := ?_) (a' := ?_) #[true, true, true, true, true, true, true, true, true, true, true, true, true, true, false] rfl rfl (by kernel_rfl) (fun _ _ _ h => h) (Or.inl ⟨by rfl, ?_⟩) ?_ ?_
  rotate_left
  ·intro w'
   go_simp
   with_reducible rfl
  rotate_left
  ·simp only [Act.put, List.setIfInBounds_toArray, List.set_cons_zero, List.set_cons_succ, i64_w, i32_w]
   rfl
  refine pure_ (i := 14) (N := some 3) (v := ?_) (a' := ?_) #[true, true, true, true, true, true, true, true, true, true, true, true, true, true, true] rfl rfl (by kernel_rfl) (fun _ _ _ h => h) (Or.inl ⟨by rfl, ?_⟩) ?_ ?_
  rotate_left
  ·intro w'
   go_simp
   with_reducible rfl
  rotate_left
  ·simp only [Act.put, List.setIfInBounds_toArray, List.set_cons_zero, List.set_cons_succ, i64_w, i32_w]
   rfl
  refine done_ (by kernel_rfl) ?_
  go_wp2
  go_ret
  exact ⟨rfl, below_drew (Below.refl _ _)⟩
 ·obtain ⟨j, hj⟩ : ∃ j, c = j + 1 := ⟨c - 1, by omega⟩
  obtain ⟨ad, e1, hz1⟩ := C_int_cell hC c (by omega)
  obtain ⟨ad', e2, hz0⟩ := C_int_cell hC j (by omega)
  subst e1
  cases e2
  have hp : newCol c row = (rd row (c : Int) != rd row (j : Int)) := by
   unfold newCol
   rw [decide_eq_false h0, Bool.false_or, show c - 1 = j by omega]
  have y0 : (0 : Int) ≤ (c : Int) := by omega
  have y1 : (c : Int) < (row.length : Int) := by omega
  have y2 : (0 : Int) ≤ (j : Int) := by omega
  have y3 : (j : Int) < (row.length : Int) := by omega
  have y4 : wrap64 ((c : Int) - 1) = (j : Int) := by rw [wrap64_small (by omega) (by omega)]; omega
  have y5 : IntKind.i64.wrap ((c : Int) - 1) = (j : Int) := by rw [i64_w]; exact y4
  have y6 : ((c : Int) == 0) = false := by rw [beq_eq_false_iff_ne]; omega
  have y7 : c < row.length := by omega
  have y8 : j < row.length := by omega
  generalize hq : (rd row (c : Int) != rd row (j : Int)) = q at *
  have HP := Aside0.mk hp
  clear hC hp h0 hj hrl hl
  go_enter Try.func73, Try.ntmps73
  go_upto_region 1 with (fail)
  refine start_ (n := 15) (S := fun w' => (w'.cell? ⟨pc, 0, none⟩ = some (.int .i64 (c : Int))) ∧ (w'.cell? (ad.add c) = some (.int .i64 (rd row (c : Int)))) ∧ (w'.cell? (ad.add j) = some (.int .i64 (rd row (j : Int))))) (ds := []) #[false, false, false, false, false, false, false, false, false, false, false, false, false, false, false] (by kernel_rfl) rfl rfl (⟨hc, hz1, hz0⟩) (fun hHeld => ?_)
  refine take_ (i := 0) (N := some 4) (v := ?_) (a' := ?_) #[true, false, false, false, false, false, false, false, false, false, false, false, false, false, false] rfl rfl (by kernel_rfl) (fun _ _ _ h => h) (Or.inl ⟨by rfl, ?_⟩) hHeld ?_ ?_
  rotate_left
  ·rintro w' ⟨s0, s1, s2⟩
   go_simp
   with_reducible rfl
  rotate_left
  ·simp only [Act.put, List.setIfInBounds_toArray, List.set_cons_zero, List.set_cons_succ, i64_w, i32_w]
   rfl
  refine pure_ (i := 1) (N := some 5) (v := ?_) (a' := ?_) #[true, true, false, false, false, false, false, false, false, false, false, false, false, false, false] rfl rfl (by kernel_rfl) (fun _ _ _ h => h) (Or.inl ⟨by rfl, ?_⟩) ?_ ?_
  rotate_left
  ·intro w'
   go_simp
   with_reducible rfl
  rotate_left
  ·simp only [Act.put, List.setIfInBounds_toArray, List.set_cons_zero, List.set_cons_succ, i64_w, i32_w]
   rfl
  refine pure_ (i := 2) (N := some 6) (v := ?_) (a' := ?_) #[true, true, true, false, false, false, false, false, false, false, false, false, false, false, false] rfl rfl (by kernel_rfl) (fun _ _ _ h => h) (Or.inl ⟨by rfl, ?_⟩) ?_ ?_
  rotate_left
  ·intro w'
   go_simp
   with_reducible rfl
  rotate_left
  ·simp only [Act.put, List.setIfInBounds_toArray, List.set_cons_zero, List.set_cons_succ, i64_w, i32_w]
   rfl
  refine pure_ (i := 3) (N := some 7) (v := ?_) (a' := ?_) #[true, true, true, true, false, false, false, false, false, false, false, false, false, false, false] rfl rfl (by kernel_rfl) (fun _ _ _ h => h) (Or.inl ⟨by rfl, ?_⟩) ?_ ?_
  rotate_left
  ·intro w'
   go_simp
   with_reducible rfl
  rotate_left
  ·simp only [Act.put, List.setIfInBounds_toArray, List.set_cons_zero, List.set_cons_succ, i64_w, i32_w]
   rfl
  refine take_ (i := 4) (N := some 8) (v := ?_) (a' := ?_) #[true, true, true, true, true, false, false, false, false, false, false, false, false, false, false] rfl rfl (by kernel_rfl) (fun _ _ _ h => h) (Or.inl ⟨by rfl, ?_⟩) hHeld ?_ ?_
  rotate_left
  ·rintro w' ⟨s0, s1, s2⟩
   go_simp
   with_reducible rfl
  rotate_left
  ·simp only [Act.put, List.setIfInBounds_toArray, List.set_cons_zero, List.set_cons_succ, i64_w, i32_w]
   rfl
  refine pure_ (i := 5) (N := some 9) (v := ?_) (a' := ?_) #[true, true, true, true, true, true, false, false, false, false, false, false, false, false, false] rfl rfl (by kernel_rfl) (fun _ _ _ h => h) (Or.inl ⟨by rfl, ?_⟩) ?_ ?_
  rotate_left
  ·intro w'
   go_simp
   with_reducible rfl
  rotate_left
  ·simp only [Act.put, List.setIfInBounds_toArray, List.set_cons_zero, List.set_cons_succ, i64_w, i32_w]
   rfl
  refine take_ (i := 6) (N := some 10) (v := ?_) (a' := ?_) #[true, true, true, true, true, true, true, false, false, false, false, false, false, false, false] rfl rfl (by kernel_rfl) (fun _ _ _ h => h) (Or.inl ⟨by rfl, ?_⟩) hHeld ?_ ?_
  rotate_left
  ·rintro w' ⟨s0, s1, s2⟩
   go_simp
   with_reducible rfl
  rotate_left
  ·simp only [Act.put, List.setIfInBounds_toArray, List.set_cons_zero, List.set_cons_succ, i64_w, i32_w]
   rfl
  refine pure_ (i := 7) (N := some 11) (v := ?_) (a' := ?_) #[true, true, true, true, true, true, true, true, false, false, false, false, false, false, false] rfl rfl (by kernel_rfl) (fun _ _ _ h => h) (Or.inl ⟨by rfl, ?_⟩) ?_ ?_
  rotate_left
  ·intro w'
   go_simp
   with_reducible rfl
  rotate_left
  ·simp only [Act.put, List.setIfInBounds_toArray, List.set_cons_zero, List.set_cons_succ, i64_w, i32_w]
   rfl
  refine take_ (i := 8) (N := some 12) (v := ?_) (a' := ?_) #[true, true, true, true, true, true, true, true, true, false, false, false, false, false, false] rfl rfl (by kernel_rfl) (fun _ _ _ h => h) (Or.inl ⟨by rfl, ?_⟩) hHeld ?_ ?_
  rotate_left
  ·rintro w' ⟨s0, s1, s2⟩
   go_simp
   with_reducible rfl
  rotate_left
  ·simp only [Act.put, List.setIfInBounds_toArray, List.set_cons_zero, List.set_cons_succ, i64_w, i32_w]
   rfl
  refine pure_ (i := 9) (N := some 13) (v := ?_) (a' := ?_) #[true, true, true, true, true, true, true, true, true, true, false, false, false, false, false] rfl rfl (by kernel_rfl) (fun _ _ _ h => h) (Or.inl ⟨by rfl, ?_⟩) ?_ ?_
  rotate_left
  ·intro w'
   go_simp
   with_reducible rfl
  rotate_left
  ·simp only [Act.put, List.setIfInBounds_toArray, List.set_cons_zero, List.set_cons_succ, i64_w, i32_w]
   rfl
  refine pure_ (i := 10) (N := some 14) (v := ?_) (a' := ?_) #[true, true, true, true, true, true, true, true, true, true, true, false, false, false, false] rfl rfl (by kernel_rfl) (fun _ _ _ h => h) (Or.inl ⟨by rfl, ?_⟩) ?_ ?_
  rotate_left
  ·intro w'
   go_simp
   with_reducible rfl
  rotate_left
  ·simp only [Act.put, List.setIfInBounds_toArray, List.set_cons_zero, List.set_cons_succ, i64_w, i32_w]
   rfl
  refine take_ (i := 11) (N := some 15) (v := ?_) (a' := ?_) #[true, true, true, true, true, true, true, true, true, true, true, true, false, false, false] rfl rfl (by kernel_rfl) (fun _ _ _ h => h) (Or.inl ⟨by rfl, ?_⟩) hHeld ?_ ?_
  rotate_left
  ·rintro w' ⟨s0, s1, s2⟩
   go_simp
   with_reducible rfl
  rotate_left
  ·simp only [Act.put, List.setIfInBounds_toArray, List.set_cons_zero, List.set_cons_succ, i64_w, i32_w]
   rfl
  refine pure_ (i := 12) (N := some 16) (v := ?_) (a' := ?_) #[true, true, true, true, true, true, true, true, true, true, true, true, true, false, false] rfl rfl (by kernel_rfl) (fun _ _ _ h => h) (Or.inl ⟨by rfl, ?_⟩) ?_ ?_
  rotate_left
  ·intro w'
   go_simp
   with_reducible rfl
  rotate_left
  ·simp only [Act.put, List.setIfInBounds_toArray, List.set_cons_zero, List.set_cons_succ, i64_w, i32_w]
   rfl
  refine pure_ (i := 13) (N := some 17) (v := ?_) (a' := ?_) #[true, true, true, true, true, true, true, true, true, true, true, true, true, true, false] rfl rfl (by kernel_rfl) (fun _ _ _ h => h) (Or.inl ⟨by rfl, ?_⟩) ?_ ?_
  rotate_left
  ·intro w'
   go_simp
   with_reducible rfl
  rotate_left
  ·simp only [Act.put, List.setIfInBounds_toArray, List.set_cons_zero, List.set_cons_succ, i64_w, i32_w]
   rfl
  refine pure_ (i := 14) (N := some 3) (v := ?_) (a' := ?_) #[true, true, true, true, true, true, true, true, true, true, true, true, true, true, true] rfl rfl (by kernel_rfl) (fun _ _ _ h => h) (Or.inl ⟨by rfl, ?_⟩) ?_ ?_
  rotate_left
  ·intro w'
   go_simp
   with_reducible rfl
  rotate_left
  ·simp only [Act.put, List.setIfInBounds_toArray, List.set_cons_zero, List.set_cons_succ, i64_w, i32_w]
   rfl
  refine done_ (by kernel_rfl) ?_
  go_wp2
  go_ret
  exact ⟨by rw [HP.out]; rfl, below_drew (Below.refl _ _)⟩
def putRw (L : List (List Int)) (x : List Int) : List (List Int) := if L.getLast? = some x then L else L ++ [x]
def foldR (rows : List (List Int)) : List (List Int) := rows.foldl putRw []
theorem foldR_snoc (rows : List (List Int)) (x : List Int) : foldR (rows ++ [x]) = putRw (foldR rows) x := by simp [foldR]
theorem foldG_rows (ps : List RowP) : (foldG ps).map (·.2) = foldR (ps.map (·.2)) := by
 suffices h : ∀ k, k ≤ ps.length → (foldG (ps.take k)).map (·.2) = foldR ((ps.take k).map (·.2)) by
  have := h ps.length (Nat.le_refl _)
  rwa [List.take_length] at this
 intro k
 induction k with
 | zero => intro _; rfl
 | succ k ih =>
  intro hk
  have hx : ps[k]? = some ps[k] := List.getElem?_eq_getElem (by omega)
  rw [take_snocG hx, foldG_snoc, List.map_append, List.map_cons, List.map_nil, foldR_snoc, ← ih (by omega)]
  unfold putG putRw
  rw [List.getLast?_map]
  split
  ·rfl
  ·simp
theorem foldR_sub (rows : List (List Int)) : ∀ x ∈ foldR rows, x ∈ rows := by
 have e : rows = (rows.map (fun r => ((.slice none 0 0 : Value), r))).map (·.2) := by rw [List.map_map]; exact (List.map_id rows).symm
 intro x hx
 rw [e, ← foldG_rows] at hx
 obtain ⟨y, hy, rfl⟩ := List.mem_map.1 hx
 obtain ⟨r, hr, rfl⟩ := List.mem_map.1 (foldG_sub _ y hy)
 exact hr
theorem foldR_len (rows : List (List Int)) : (foldR rows).length ≤ rows.length ∧ (1 ≤ rows.length → 1 ≤ (foldR rows).length) := by
 have e : rows = (rows.map (fun r => ((.slice none 0 0 : Value), r))).map (·.2) := by rw [List.map_map]; exact (List.map_id rows).symm
 generalize hps : rows.map (fun r => ((.slice none 0 0 : Value), r)) = ps at e
 have h1 := foldG_le ps ps.length (Nat.le_refl _)
 have h2 := foldG_pos (ps := ps) ps.length
 rw [List.take_length] at h1 h2
 have hl : rows.length = ps.length := by rw [e, List.length_map]
 have hf : (foldR rows).length = (foldG ps).length := by rw [e, ← foldG_rows, List.length_map]
 rw [hl, hf]
 exact ⟨h1, fun h => h2 h (Nat.le_refl _)⟩
def colsT (R : List (List Int)) (wi : Nat) : List Int := ((List.range wi).filter fun c => R.any (newCol c)).map fun (c : Nat) => (c : Int)
theorem colsT_succ (R : List (List Int)) (c : Nat) : colsT R (c + 1) = colsT R c ++ (if R.any (newCol c) = true then [(c : Int)] else []) := by
 unfold colsT
 rw [List.range_succ, List.filter_append, List.map_append]
 congr 1
 cases h : R.any (newCol c) <;> simp [h]
theorem colsT_length (R : List (List Int)) (wi : Nat) : (colsT R wi).length ≤ wi := by
 unfold colsT
 have := List.length_filter_le (fun c => R.any (newCol c)) (List.range wi)
 rw [List.length_range] at this
 rw [List.length_map]
 exact this
theorem colsT_range (R : List (List Int)) (wi : Nat) : ∀ x ∈ colsT R wi, ∃ c : Nat, x = (c : Int) ∧ c < wi := by
 intro x hx
 obtain ⟨c, hc, rfl⟩ := List.mem_map.1 hx
 exact ⟨c, rfl, List.mem_range.1 (List.mem_filter.1 hc).1⟩
def tightG (R : List (List Int)) (Cc : List Int) : List (List Int) := gridOf R.length Cc.length (fun r c => rd (R.getD r []) (rd Cc (c : Int)))
def tightH (cs : List (List Int)) (_ : List Rc) : List (List Int) := tightG (foldR cs) (colsT (foldR cs) (wideOf cs))
theorem rowsOf_C {w : World} {ad : Addr} {rows : List (List Int)} (h : (Kd.slice 3 (Kd.int .i64)).C w (some ad) rows.length rows) :
  ∃ ps : List RowP, ps.map (·.2) = rows ∧ (∀ j u, (ps.map Prod.fst)[j]? = some u → w.cell? (ad.add j) = some u) ∧ ∀ x ∈ ps, RowV w x := by
 refine ⟨(List.range rows.length).map fun i => ((w.cell? (ad.add i)).getD undef, rows.getD i []), ?_, ?_, ?_⟩
 ·rw [List.map_map]
  apply List.ext_getElem?
  intro i
  rw [List.getElem?_map]
  by_cases hi : i < rows.length
  ·rw [List.getElem?_range hi]
   simp [List.getD, hi]
  ·rw [List.getElem?_eq_none (by simpa using hi), List.getElem?_eq_none (by omega)]
   rfl
 ·intro j u hj
  rw [List.map_map, List.getElem?_map] at hj
  by_cases hi : j < rows.length
  ·rw [List.getElem?_range hi] at hj
   obtain ⟨ad', Ai, ci, e1, hx, -, -⟩ := C_row h j _ (List.getElem?_eq_getElem hi)
   cases e1
   simp only [Option.map_some, Function.comp, hx, Option.getD_some] at hj
   rw [hx]
   exact hj
  ·rw [List.getElem?_eq_none (by simpa using hi)] at hj
   cases hj
 ·intro x hx
  obtain ⟨i, hi, rfl⟩ := List.mem_map.1 hx
  have hi' := List.mem_range.1 hi
  obtain ⟨ad', Ai, ci, e1, hc, hl, hr⟩ := C_row h i _ (List.getElem?_eq_getElem hi')
  cases e1
  have e : rows.getD i [] = rows[i] := by simp [List.getD, hi']
  unfold RowV
  dsimp only
  rw [hc, e]
  exact ⟨Ai, ci, rfl, hl, hr⟩
theorem C_rows {W : World} {g : Nat} {t : TypeId} {ps : List RowP} {tl : List Value} (h : W.heap[g]? = some (.cells (ps.map Prod.fst ++ tl).toArray t (0, 0))) (hr : ∀ x ∈ ps, RowV W x) (hl : ps.length ≤ 1000) :
  (Kd.slice 3 (Kd.int .i64)).C W (some ⟨g, 0, none⟩) ps.length (ps.map (·.2)) := by
 refine ⟨by simp, by omega, fun _ => ⟨_, rfl, fun j p hj => ?_⟩⟩
 rw [List.getElem?_map] at hj
 obtain ⟨x, hx, rfl⟩ := Option.map_eq_some_iff.1 hj
 obtain ⟨A, c, e, hl2, hC⟩ := hr x (List.mem_of_getElem? hx)
 refine ⟨[.slice A x.2.length c], rfl, ⟨A, c, rfl, hl2, hC⟩, fun i u hu => ?_⟩
 have hi : i = 0 := by
  rcases Nat.eq_zero_or_pos i with h0 | h0
  ·exact h0
  ·rw [List.getElem?_eq_none (by simp; omega)] at hu; cases hu
 subst hi
 have hu' : Value.slice A x.2.length c = u := by simpa using hu
 subst hu'
 have h2 := row_cell h hx
 rw [e] at h2
 show W.cell? ((⟨g, 0, none⟩ : Addr).add (j * 1 + 0)) = _
 rw [Nat.mul_one, Nat.add_zero, add_plain]
 exact h2
set_option maxHeartbeats 4000000 in
set_option maxRecDepth 100000 in
theorem tight2_read (w : World) (pr pc : Nat) (A Ac : Option Addr) (cm cn wi : Nat) (R : List (List Int)) (Cc : List Int) (hp : w.cell? ⟨pr, 0, none⟩ = some (.slice A R.length cm)) (hq : w.cell? ⟨pc, 0, none⟩ = some (.slice Ac Cc.length cn))
  (hR : (Kd.slice 3 (Kd.int .i64)).C w A R.length R) (hC : (Kd.int .i64).C w Ac Cc.length Cc) (hrw : ∀ r ∈ R, r.length = wi) (hcw : ∀ x ∈ Cc, ∃ c : Nat, x = (c : Int) ∧ c < wi) :
  ReadFn Try.prog 76 #[.pointer (some ⟨pr, 0, none⟩), .pointer (some ⟨pc, 0, none⟩)] w R.length Cc.length (fun r c => rd (R.getD r []) (rd Cc (c : Int))) := by
 intro W r c hr hc hS
 show Calls Try.prog _ _ _ fun e W' => e = .returned (.int .i64 (rd (R.getD r []) (rd Cc (c : Int)))) ∧ Below W.heap.size W W'
 obtain ⟨row, hrow⟩ : ∃ row, R[r]? = some row := ⟨_, List.getElem?_eq_getElem hr⟩
 obtain ⟨ad, Ai, ci, e1, hx, hl, hrr⟩ := C_row hR r row hrow
 obtain ⟨ac, e2, hy⟩ := C_int_cell hC c hc
 have hcm : rd Cc (c : Int) ∈ Cc := by
  rw [rd_at (List.getElem?_eq_getElem hc)]
  exact List.getElem_mem hc
 obtain ⟨j, hj, hjw⟩ := hcw _ hcm
 have hrl := hrw row (List.mem_of_getElem? hrow)
 obtain ⟨ar, e3, hz⟩ := C_int_cell hrr j (by omega)
 subst e1
 subst e2
 subst e3
 have eg : R.getD r [] = row := by rw [List.getD_eq_getElem?_getD, hrow]; rfl
 rw [eg, hj]
 rw [hj] at hy
 replace hp := hS.cell hp
 replace hq := hS.cell hq
 replace hx := hS.cell hx
 replace hy := hS.cell hy
 replace hz := hS.cell hz
 have r0 : (0 : Int) ≤ r := by omega
 have r1 : (r : Int) < R.length := by omega
 have c0 : (0 : Int) ≤ c := by omega
 have c1 : (c : Int) < Cc.length := by omega
 have j0 : (0 : Int) ≤ j := by omega
 have j1 : (j : Int) < row.length := by omega
 have j2 : j < row.length := by omega
 generalize rd row (j : Int) = q at *
 clear hR hC hrw hcw hrr hrow hS hcm hl hrl eg hj hjw
 show Calls Try.prog _ #[.int .i64 (r : Int), .int .i64 (c : Int), .pointer (some ⟨pr, 0, none⟩), .pointer (some ⟨pc, 0, none⟩)] _ _
 go_enter Try.func76, Try.ntmps76
 go_upto_region 1 with (fail)
 refine start_ (n := 11) (S := fun w' => (w'.cell? ⟨pr, 0, none⟩ = some (.slice (some ad) R.length cm)) ∧ (w'.cell? ⟨pc, 0, none⟩ = some (.slice (some ac) Cc.length cn)) ∧ (w'.cell? (ad.add r) = some (.slice (some ar) row.length ci)) ∧ (w'.cell? (ac.add c) = some (.int .i64 (j : Int))) ∧ (w'.cell? (ar.add j) = some (.int .i64 q))) (ds := []) #[false, false, false, false, false, false, false, false, false, false, false] (by kernel_rfl) rfl rfl (⟨hp, hq, hx, hy, hz⟩) (fun hHeld => ?_)
 refine take_ (i := 0) (N := some 7) (v := ?_) (a' := ?_) #[true, false, false, false, false, false, false, false, false, false, false] rfl rfl (by kernel_rfl) (fun _ _ _ h => h) (Or.inl ⟨by rfl, ?_⟩) hHeld ?_ ?_
 rotate_left
 ·rintro w' ⟨s0, s1, s2, s3, s4⟩
  go_simp
  with_reducible rfl
 rotate_left
 ·simp only [Act.put, List.setIfInBounds_toArray, List.set_cons_zero, List.set_cons_succ, i64_w, i32_w]
  rfl
 refine pure_ (i := 1) (N := some 8) (v := ?_) (a' := ?_) #[true, true, false, false, false, false, false, false, false, false, false] rfl rfl (by kernel_rfl) (fun _ _ _ h => h) (Or.inl ⟨by rfl, ?_⟩) ?_ ?_
 rotate_left
 ·intro w'
  go_simp
  with_reducible rfl
 rotate_left
 ·simp only [Act.put, List.setIfInBounds_toArray, List.set_cons_zero, List.set_cons_succ, i64_w, i32_w]
  rfl
 refine pure_ (i := 2) (N := some 9) (v := ?_) (a' := ?_) #[true, true, true, false, false, false, false, false, false, false, false] rfl rfl (by kernel_rfl) (fun _ _ _ h => h) (Or.inl ⟨by rfl, ?_⟩) ?_ ?_
 rotate_left
 ·intro w'
  go_simp
  with_reducible rfl
 rotate_left
 ·simp only [Act.put, List.setIfInBounds_toArray, List.set_cons_zero, List.set_cons_succ, i64_w, i32_w]
  rfl
 refine take_ (i := 3) (N := some 10) (v := ?_) (a' := ?_) #[true, true, true, true, false, false, false, false, false, false, false] rfl rfl (by kernel_rfl) (fun _ _ _ h => h) (Or.inl ⟨by rfl, ?_⟩) hHeld ?_ ?_
 rotate_left
 ·rintro w' ⟨s0, s1, s2, s3, s4⟩
  go_simp
  with_reducible rfl
 rotate_left
 ·simp only [Act.put, List.setIfInBounds_toArray, List.set_cons_zero, List.set_cons_succ, i64_w, i32_w]
  rfl
 refine take_ (i := 4) (N := some 11) (v := ?_) (a' := ?_) #[true, true, true, true, true, false, false, false, false, false, false] rfl rfl (by kernel_rfl) (fun _ _ _ h => h) (Or.inl ⟨by rfl, ?_⟩) hHeld ?_ ?_
 rotate_left
 ·rintro w' ⟨s0, s1, s2, s3, s4⟩
  go_simp
  with_reducible rfl
 rotate_left
 ·simp only [Act.put, List.setIfInBounds_toArray, List.set_cons_zero, List.set_cons_succ, i64_w, i32_w]
  rfl
 refine pure_ (i := 5) (N := some 12) (v := ?_) (a' := ?_) #[true, true, true, true, true, true, false, false, false, false, false] rfl rfl (by kernel_rfl) (fun _ _ _ h => h) (Or.inl ⟨by rfl, ?_⟩) ?_ ?_
 rotate_left
 ·intro w'
  go_simp
  with_reducible rfl
 rotate_left
 ·simp only [Act.put, List.setIfInBounds_toArray, List.set_cons_zero, List.set_cons_succ, i64_w, i32_w]
  rfl
 refine pure_ (i := 6) (N := some 13) (v := ?_) (a' := ?_) #[true, true, true, true, true, true, true, false, false, false, false] rfl rfl (by kernel_rfl) (fun _ _ _ h => h) (Or.inl ⟨by rfl, ?_⟩) ?_ ?_
 rotate_left
 ·intro w'
  go_simp
  with_reducible rfl
 rotate_left
 ·simp only [Act.put, List.setIfInBounds_toArray, List.set_cons_zero, List.set_cons_succ, i64_w, i32_w]
  rfl
 refine take_ (i := 7) (N := some 14) (v := ?_) (a' := ?_) #[true, true, true, true, true, true, true, true, false, false, false] rfl rfl (by kernel_rfl) (fun _ _ _ h => h) (Or.inl ⟨by rfl, ?_⟩) hHeld ?_ ?_
 rotate_left
 ·rintro w' ⟨s0, s1, s2, s3, s4⟩
  go_simp
  with_reducible rfl
 rotate_left
 ·simp only [Act.put, List.setIfInBounds_toArray, List.set_cons_zero, List.set_cons_succ, i64_w, i32_w]
  rfl
 refine pure_ (i := 8) (N := some 15) (v := ?_) (a' := ?_) #[true, true, true, true, true, true, true, true, true, false, false] rfl rfl (by kernel_rfl) (fun _ _ _ h => h) (Or.inl ⟨by rfl, ?_⟩) ?_ ?_
 rotate_left
 ·intro w'
  go_simp
  with_reducible rfl
 rotate_left
 ·simp only [Act.put, List.setIfInBounds_toArray, List.set_cons_zero, List.set_cons_succ, i64_w, i32_w]
  rfl
 refine take_ (i := 9) (N := some 16) (v := ?_) (a' := ?_) #[true, true, true, true, true, true, true, true, true, true, false] rfl rfl (by kernel_rfl) (fun _ _ _ h => h) (Or.inl ⟨by rfl, ?_⟩) hHeld ?_ ?_
 rotate_left
 ·rintro w' ⟨s0, s1, s2, s3, s4⟩
  go_simp
  with_reducible rfl
 rotate_left
 ·simp only [Act.put, List.setIfInBounds_toArray, List.set_cons_zero, List.set_cons_succ, i64_w, i32_w]
  rfl
 refine pure_ (i := 10) (N := some 6) (v := ?_) (a' := ?_) #[true, true, true, true, true, true, true, true, true, true, true] rfl rfl (by kernel_rfl) (fun _ _ _ h => h) (Or.inl ⟨by rfl, ?_⟩) ?_ ?_
 rotate_left
 ·intro w'
  go_simp
  with_reducible rfl
 rotate_left
 ·simp only [Act.put, List.setIfInBounds_toArray, List.set_cons_zero, List.set_cons_succ, i64_w, i32_w]
  rfl
 refine done_ (by kernel_rfl) ?_
 go_wp2
 go_ret
 exact ⟨rfl, below_drew (Below.refl _ _)⟩
theorem oneCell_rows {W : World} {ps : List RowP} (h : ∀ x ∈ ps, RowV W x) : ∀ u ∈ ps.map Prod.fst, u.oneCell' = true := by
 intro u hu
 obtain ⟨x, hx, rfl⟩ := List.mem_map.1 hu
 obtain ⟨A, c, e, -, -⟩ := h x hx
 rw [e]
 rfl
set_option maxHeartbeats 4000000 in
set_option maxRecDepth 100000 in
theorem tight_fn (w : World) : HowFn Try.prog 69 #[] w tightH := by
 intro W g cs rs hk hf hS
 have HK := Aside0.mk hk
 have HF := Aside0.mk hf
 have W1 := Aside0.mk (wide_f hk)
 have a1 := hk.h6
 have a2 := hk.h1
 have a3 := hk.w6
 have a4 := hk.w1
 obtain ⟨A0, c0, A1, c1, h1, h2, h3, h4⟩ := hf
 obtain ⟨ad, cx, adx, cy, hc1, -, -⟩ := HF.out.cell hk 0 0 (by omega) (by omega)
 have eA : A0 = some ad := by
  have e := (blk_cell h1 0).symm.trans hc1
  injection e with e
  injection e
 subst eA
 obtain ⟨ps, hps, hcells, hrow⟩ := rowsOf_C h3
 have hpl : ps.length = cs.length := by rw [← hps, List.length_map]
 have hrows : ∀ x ∈ ps, RowV W x ∧ x.2.length ≤ 6 := fun x hx => ⟨hrow x hx, by
  have : x.2 ∈ cs := by rw [← hps]; exact List.mem_map.2 ⟨x, hx, rfl⟩
  have := hk.cells.row _ this
  omega⟩
 have HRs := Aside0.mk hrows
 have HCs := Aside0.mk hcells
 have HOne := Aside0.mk (oneCell_rows hrow)
 have HHl := Aside0.mk (show (ps.map Prod.fst).length = ps.length by simp)
 have hR : (foldG ps).map (·.2) = foldR cs := by rw [foldG_rows, hps]
 have hRl : (foldG ps).length = (foldR cs).length := by rw [← hR, List.length_map]
 have HRl := Aside0.mk hRl
 have HRm := Aside0.mk hR
 have HRow := Aside0.mk (show ∀ x ∈ foldG ps, RowV W x from fun x hx => hrow x (foldG_sub _ x hx))
 have hb1 : (foldR cs).length ≤ 6 ∧ 1 ≤ (foldR cs).length := by
  have := foldR_len cs
  exact ⟨by omega, this.2 (by omega)⟩
 have HRw := Aside0.mk (show ∀ r ∈ foldR cs, r.length = wideOf cs from fun r hr => hk.cells.row _ (foldR_sub cs r hr))
 have r1 := hb1.1
 have hcell : W.cell? ⟨g, 0, none⟩ = some (.slice (some ad) ps.length c0) := by
  rw [hpl]
  exact blk_cell h1 0
 have hclone := cloneG_calls ad c0 (ps.map Prod.fst) W HCs.out HOne.out (by rw [HHl.out]; omega) (by rw [HHl.out]; omega)
 rw [HHl.out] at hclone
 have HCl := Aside0.mk hclone
 have HP0 := Aside0.mk (show 0 < ps.length ∧ ps.length ≤ 6 by omega)
 generalize hRR : foldR cs = R at *
 have HRR := Aside0.mk hRR
 clear hclone hk h1 h2 h3 h4 hc1 hS hps hcells hrow hpl hrows hR hRl hb1 hRR
 show Calls Try.prog _ #[.pointer (some ⟨g, 0, none⟩)] _ _
 go_enter Try.func69, Try.ntmps69
 go_upto_region 2 with (first
  | (go_at_call 71; refine HCl.out.mono ?_; rintro e w1 ⟨g1, tl, rfl, hh1, hcap1, hg1, hb1⟩; have HH1 := Aside0.mk hh1; have HCap1 := Aside0.mk hcap1; have HG1 := Aside0.mk hg1; have HB1 := Aside0.mk hb1; clear hh1 hcap1 hg1 hb1)
  | (go_at_call 70; refine (compactF_calls W ps g1 tl _ HB1.out HG1.out HRs.out HH1.out HP0.out.2 HP0.out.1 HCap1.out).mono ?_; rintro e w2 ⟨vs, he, hh2, hb2⟩; rw [HRl.out] at he; subst he; have HH2 := Aside0.mk hh2; have HB2 := Aside0.mk hb2; clear hh2 hb2))
 have hb := below_alloc (Below.refl w2.heap.size w2) (.cells #[.slice (some ⟨g1, 0, none⟩) R.length (ps.length + tl.length)] 55)
 have hk := heap_alloc_new w2 (.cells #[.slice (some ⟨g1, 0, none⟩) R.length (ps.length + tl.length)] 55)
 generalize w2.alloc (.cells #[.slice (some ⟨g1, 0, none⟩) R.length (ps.length + tl.length)] 55) = w3 at *
 obtain ⟨pr, hpr⟩ : ∃ pr, pr = w2.heap.size := ⟨_, rfl⟩
 rw [← hpr] at hk ⊢
 generalize ps.length + tl.length = cp at *
 have hgr := C_rows HH2.out (fun x hx => (HRow.out x hx).below HB2.out) (by rw [HRl.out]; omega)
 rw [HRl.out, HRm.out] at hgr
 have HC3 := Aside0.mk (Kd.C_below hgr hb)
 have HB3 := Aside0.mk (below_step HB2.out hb)
 have hr3 := box_cell hk
 clear hgr hb hk hpr hcell HCs HOne HHl HP0 HRs HRow HRm HRl HB1 HG1 HH1 HCap1 HH2 HB2
 go_upto_region 3 with (fail)
 have hb := below_alloc (Below.refl w3.heap.size w3) (.cells #[.slice none 0 0] 24)
 have hk := heap_alloc_new w3 (.cells #[.slice none 0 0] 24)
 generalize w3.alloc (.cells #[.slice none 0 0] 24) = w4 at *
 obtain ⟨pc, hpc⟩ : ∃ pc, pc = w3.heap.size := ⟨_, rfl⟩
 rw [← hpc] at hk ⊢
 have HPc := Aside0.mk hpc
 have HB4 := Aside0.mk hb
 have HP4 := Aside0.mk hk
 have HR4 := Aside0.mk (Kd.R_nil (Kd.int .i64) 3 w4 w3.heap.size (fun k => pc < k))
 have HF4 := Aside0.mk (HF.out.below (below_step HB3.out hb))
 clear hb hk hpc HF
 have hcl := colsT_length R (wideOf cs)
 have HCr := Aside0.mk (colsT_range R (wideOf cs))
 go_wp2_with (first
  | (go_at_call 51; refine (impl_floor_wide.calls g cs rs _ _ _ HF4.out (Below.refl _ _) W1.out).mono ?_; rintro e w5 ⟨rfl, -, hb, -⟩; have HB5 := Aside0.mk (below_step HB4.out hb); have HP5 := Aside0.mk ((hb.block pc (blk_lt HP4.out)).trans HP4.out); have HR5 := Aside0.mk (Kd.R_below HR4.out hb); clear hb HF4 HB4 HP4 HR4))
 generalize hwi : wideOf cs = wi at *
 have HWi := Aside0.mk hwi
 clear hwi
 go_loopg [15] wi (fun kq v15 w' => ∃ (c : Nat) (v : Value), v15 = .int .i64 (c : Int) ∧ Aside0 (c + kq = wi) ∧ Aside0 (w'.heap[pc]? = some (.cells #[v] 24 (0, 0))) ∧ Aside0 (Kd.R (Kd.int .i64) 3 w' w3.heap.size (fun k => pc < k) v (colsT R c)) ∧ Aside0 (Below w3.heap.size w3 w'))
 case atStart => exact ⟨0, _, rfl, ⟨by omega⟩, HP5, HR5, HB5⟩
 case round =>
  clear HP5 HR5 HB5
  obtain ⟨c, v, rfl, HKc, HP, HR, HB⟩ := hrel
  obtain ⟨Av, cv, ev, -, hCv⟩ := Kd.R_reads HR.out
  subst ev
  have hr := pw_cell_below HB.out hr3
  have hpv := box_cell HP.out
  by_cases hc : c < wi
  ·have hlt : (c : Int) < (wi : Int) := by omega
   clear hCv
   go_upto_region 6 with (fail)
   have hb := below_alloc (Below.refl wr.heap.size wr) (.cells #[.int .i64 (c : Int)] 3)
   have hk := heap_alloc_new wr (.cells #[.int .i64 (c : Int)] 3)
   generalize wr.alloc (.cells #[.int .i64 (c : Int)] 3) = w6 at *
   obtain ⟨pv, hpvq⟩ : ∃ pv, pv = wr.heap.size := ⟨_, rfl⟩
   rw [← hpvq] at hk ⊢
   have HB6 := Aside0.mk (below_step HB.out hb)
   have HP6 := Aside0.mk ((hb.block pc (blk_lt HP.out)).trans HP.out)
   have HR6 := Aside0.mk (Kd.R_below HR.out hb)
   have hr6 := pw_cell_below hb hr
   have hv6 := box_cell hk
   clear hb hk hpvq hr hpv HB HP HR
   have hst := colsT_succ R c
   have HPredi := Aside0.mk (containsR_calls 73 Try.f73 Try.func73 (by kernel_rfl) rfl _ (newCol c) (some ⟨g1, 0, none⟩) cp R _ (Kd.C_below HC3.out HB6.out) (differs_pred _ pv c wi R hv6 hc a3 HRw.out))
   cases hany : R.any (newCol c) with
   | false =>
    rw [hany] at HPredi hst
    rw [if_neg (by simp), List.append_nil] at hst
    have HSt := Aside0.mk hst
    clear hst hany
    go_wp2_with (first
     | (go_at_call 74; refine HPredi.out.mono ?_; rintro e w7 ⟨rfl, hb7⟩; have HB7 := Aside0.mk (below_step HB6.out hb7); have HP7 := Aside0.mk ((hb7.block pc (blk_lt HP6.out)).trans HP6.out); have HR7 := Aside0.mk (Kd.R_below HR6.out hb7); clear hb7))
    go_roundg (wi - (c + 1))
    case measure => have := HKc.out; omega
    case rel => exact ⟨c + 1, _, by first | rfl | (congr 1; omega), ⟨by have := HKc.out; omega⟩, HP7, ⟨by rw [HSt.out]; exact HR7.out⟩, HB7⟩
   | true =>
    rw [hany] at HPredi hst
    rw [if_pos rfl] at hst
    have HSt := Aside0.mk hst
    clear hst hany
    go_upto_region 8 with (first
     | (go_at_call 74; refine HPredi.out.mono ?_; rintro e w7 ⟨rfl, hb7⟩; have HB7 := Aside0.mk (below_step HB6.out hb7); have HP7 := Aside0.mk ((hb7.block pc (blk_lt HP6.out)).trans HP6.out); have HR7 := Aside0.mk (Kd.R_below (Kd.R_bound HR6.out) hb7); have hp7 := box_cell HP7.out; have hv7 := pw_cell_below hb7 hv6; have HS7 := Aside0.mk hb7.size; clear hb7))
    have HR8 := Aside0.mk (Kd.R_mono HR7.out (ok' := fun k => (pc < k ∧ k < w6.heap.size) ∨ w7.heap.size ≤ k) (fun k hk => .inl ⟨hk.1, hk.2.2.1⟩))
    have HCl7 := Aside0.mk (colsT_length R c)
    have HNum := Aside0.mk (show pc < w6.heap.size ∧ w6.heap.size ≤ w7.heap.size ∧ pc = w3.heap.size from ⟨blk_lt HP6.out, HS7.out, HPc.out⟩)
    go_upto_region 9 with (first
     | ((with_reducible refine gate_builtin (b := .append) (xs := #[.tmp 22, .tmp 24]) rfl ?_); at_builtin; refine Kd.R_append (Kd.int .i64) (w0 := w3) w3.heap.size rfl (.tmp 22) (.tmp 24) 24 3 (.int .i64 0) 8 rfl Try.underlying24 info3 rfl (by decide) (by omega) (.slice Av (colsT R c).length cv) (colsT R c) (c : Int) [.int .i64 (c : Int)] (fun k => (pc < k ∧ k < w6.heap.size) ∨ w7.heap.size ≤ k) (fun _ => False) rfl rfl ?aP (fun _ hk => hk.elim) ?aF ?aO ?aB ?aS ?aL ?_; (case aP => exact rfl); (case aB => exact HB7.out); (case aF => exact (fun k_ hk => .inr hk)); (case aO => exact HR8.out); (case aS => exact HB7.out.size); (case aL => have := HCl7.out; omega); intro v8 w8 ho8 hb8 hg8 hat8; rw [← HSt.out] at ho8; obtain ⟨A9, c9, e9⟩ := Kd.R_slice ho8; subst e9; have HR9 := Aside0.mk ho8; have HB9 := Aside0.mk hb8; have HK9 := Aside0.mk (Kept.of_grown hg8 (Kept.refl w7 (fun k => pc < k ∧ k < w6.heap.size)) (fun k hk => HR8.out.1 k hk)); have hO9 := blk_kept HP7.out HK9.out (fun z => by have hn := HNum.out; omega); have hf9 := blk_frozen hO9 0; have hc9 := box_cell hO9; have HO9 := Aside0.mk hO9; clear ho8 hb8 hg8 hat8 hO9))
    have HO10 := Aside0.mk (set_one HO9.out (.slice A9 (colsT R (c + 1)).length c9))
    have HR10 := Aside0.mk (Kd.R_mono (Kd.R_far (p := ⟨pc, 0, none⟩) HR9.out (fun k hk e => by have hn := HNum.out; have e' : k = pc := e; omega) (.slice A9 (colsT R (c + 1)).length c9)) (ok' := fun k => pc < k) (fun k hk => by have hn := HNum.out; omega))
    have HB10 := Aside0.mk (show Below w3.heap.size w3 (w8.setCell ⟨pc, 0, none⟩ (.slice A9 (colsT R (c + 1)).length c9)) from below_set HB9.out (by have hn := HNum.out; omega))
    go_wp2
    go_roundg (wi - (c + 1))
    case measure => have := HKc.out; omega
    case rel => exact ⟨c + 1, _, by first | rfl | (congr 1; omega), ⟨by have := HKc.out; omega⟩, HO10, HR10, HB10⟩
  ·have hge : ¬ (c : Int) < (wi : Int) := by omega
   have hcw : c = wi := by have := HKc.out; omega
   subst hcw
   have HB' := Aside0.mk (below_step HB3.out HB.out)
   have HRd := Aside0.mk (tight2_read wr pr pc (some ⟨g1, 0, none⟩) Av cp cv c R (colsT R c) hr hpv (Kd.C_below HC3.out HB.out) hCv HRw.out HCr.out)
   have HRl := Aside0.mk (show R.length ≤ 1048576 by omega)
   have HCl2 := Aside0.mk (show (colsT R c).length ≤ 1048576 by omega)
   clear hCv
   go_wp2_with (first
    | (go_at_call 75; refine (blank_reads 76 Try.f76 Try.func76 (by kernel_rfl) rfl _ R.length (colsT R c).length _ _ HRd.out HRl.out HCl2.out).mono ?_; rintro e w14 ⟨A14, c14, rfl, hl14, hC14, hb⟩; have HC14 := Aside0.mk hC14; have HL14 := Aside0.mk hl14; have HB14 := Aside0.mk (below_step HB'.out hb); clear hC14 hl14 hb))
   go_ret
   have he : tightH cs rs = gridOf R.length (colsT R c).length (fun r i => rd (R.getD r []) (rd (colsT R c) (i : Int))) := by unfold tightH; rw [HRR.out, HWi.out]; rfl
   rw [he]
   exact ⟨A14, c14, rfl, HL14.out, HC14.out, HB14.out⟩
theorem ordL_id : ∀ (xs o : List Int), (∀ x ∈ xs, x ∈ o) → ordL xs o = o
 | [], _, _ => rfl
 | x :: r, o, h => by
  show ordL r (pushL o x) = o
  have : pushL o x = o := by unfold pushL; rw [if_pos (h x List.mem_cons_self)]
  rw [this]
  exact ordL_id r o fun y hy => h y (List.mem_cons_of_mem _ hy)
theorem mid_of {p : List ByteArray} {cs : List (List Int)} {rs : List Rc} (F : PlanFacts p cs rs) : Mid p (wideOf cs) := by
 have hsm := gridOk_small F.canon.grid
 rw [F.wide] at hsm
 exact ⟨by have := hsm.high; omega, by have := hsm.wide; omega, hsm.row⟩
theorem remade_none {p : List ByteArray} (h : floorF p = none) (how : List (List Int) → List Rc → List (List Int)) : remadeF p how = ([], false) := by unfold remadeF; rw [h]
section
variable {α β : Type}
theorem snocInd {P : List α → Prop} (h0 : P []) (h1 : ∀ l x, P l → P (l ++ [x])) (l : List α) : P l := by
 rw [← l.reverse_reverse]
 induction l.reverse with
 | nil => exact h0
 | cons a r ih => rw [List.reverse_cons]; exact h1 _ _ ih
variable [DecidableEq α] [DecidableEq β]
def putL (L : List α) (x : α) : List α := if L.getLast? = some x then L else L ++ [x]
def onceL (l : List α) : List α := l.foldl putL []
theorem onceL_snoc (l : List α) (x : α) : onceL (l ++ [x]) = putL (onceL l) x := by simp [onceL]
theorem putL_last (L : List α) (x : α) : (putL L x).getLast? = some x := by
 unfold putL
 split
 ·assumption
 ·simp
theorem onceL_last (l : List α) : (onceL l).getLast? = l.getLast? := by
 induction l using snocInd with
 | h0 => rfl
 | h1 l x _ => rw [onceL_snoc, putL_last]; simp
theorem onceL_step (l : List α) (x : α) : onceL (l ++ [x]) = if l.getLast? = some x then onceL l else onceL l ++ [x] := by
 rw [onceL_snoc]
 unfold putL
 rw [onceL_last]
theorem onceL_sub (l : List α) : ∀ x ∈ onceL l, x ∈ l := by
 induction l using snocInd with
 | h0 => intro x hx; cases hx
 | h1 l x ih =>
  intro y hy
  rw [onceL_step] at hy
  split at hy
  ·exact List.mem_append_left _ (ih y hy)
  ·rcases List.mem_append.1 hy with h | h
   ·exact List.mem_append_left _ (ih y h)
   ·exact List.mem_append_right _ h
theorem onceL_mem (l : List α) : ∀ x ∈ l, x ∈ onceL l := by
 induction l using snocInd with
 | h0 => intro x hx; cases hx
 | h1 l x ih =>
  intro y hy
  rw [onceL_step]
  rcases List.mem_append.1 hy with h | h
  ·split
   ·exact ih y h
   ·exact List.mem_append_left _ (ih y h)
  ·rw [List.mem_singleton] at h
   subst h
   split
   ·rename_i hl
    rw [← onceL_last] at hl
    exact List.mem_of_getLast? hl
   ·simp
theorem onceL_len (l : List α) : (onceL l).length ≤ l.length ∧ (1 ≤ l.length → 1 ≤ (onceL l).length) := by
 constructor
 ·induction l using snocInd with
  | h0 => exact Nat.le_refl _
  | h1 l x ih => rw [onceL_step]; split <;> simp <;> omega
 ·intro h
  obtain ⟨x, hx⟩ : ∃ x, x ∈ l := ⟨l[0], List.getElem_mem _⟩
  exact List.length_pos_of_mem (onceL_mem l x hx)
theorem onceL_map (f : α → β) : ∀ l : List α, (∀ x ∈ l, ∀ y ∈ l, f x = f y → x = y) → onceL (l.map f) = (onceL l).map f := by
 intro l
 induction l using snocInd with
 | h0 => exact fun _ => rfl
 | h1 l x ih => ?_
 intro hf
 have ih := ih (fun a ha b hb => hf a (List.mem_append_left _ ha) b (List.mem_append_left _ hb))
 rw [List.map_append, List.map_cons, List.map_nil, onceL_step, onceL_step, ih, List.getLast?_map]
 by_cases h : l.getLast? = some x
 ·rw [if_pos h, h, if_pos (show Option.map f (some x) = some (f x) from rfl)]
 ·rw [if_neg h, if_neg]
  ·simp
  ·intro h2
   obtain ⟨y, hy, e⟩ := Option.map_eq_some_iff.1 h2
   have := hf y (List.mem_append_left _ (List.mem_of_getLast? hy)) x (by simp) e
   subst this
   exact h hy
theorem onceL_ix (l : List α) : ∃ ρ : Nat → Nat, (∀ r, r < (onceL l).length → ρ r < l.length ∧ (onceL l)[r]? = l[ρ r]?) ∧ (∀ r r', r ≤ r' → r' < (onceL l).length → ρ r ≤ ρ r') := by
 induction l using snocInd with
 | h0 => exact ⟨fun _ => 0, fun r h => by simp [onceL] at h, fun r r' _ h => by simp [onceL] at h⟩
 | h1 l x ih => ?_
 obtain ⟨ρ, h1, h2⟩ := ih
 rw [onceL_step]
 split
 ·refine ⟨ρ, fun r hr => ?_, h2⟩
  obtain ⟨a, b⟩ := h1 r hr
  exact ⟨by simp; omega, by rw [b, List.getElem?_append_left a]⟩
 ·refine ⟨fun r => if r = (onceL l).length then l.length else ρ r, fun r hr => ?_, fun r r' hrr hr' => ?_⟩
  ·by_cases e : r = (onceL l).length
   ·simp [e]
   ·have hr : r < (onceL l).length := by simp at hr; omega
    obtain ⟨a, b⟩ := h1 r hr
    simp only [if_neg e]
    exact ⟨by simp; omega, by rw [List.getElem?_append_left hr, List.getElem?_append_left a, b]⟩
  ·simp only [List.length_append, List.length_singleton] at hr'
   dsimp only
   split <;> split
   ·exact Nat.le_refl _
   ·omega
   ·exact Nat.le_of_lt (h1 r (by omega)).1
   ·exact h2 r r' hrr (by omega)
def newN (f : Nat → α) (c : Nat) : Bool := decide (c = 0) || decide (f c ≠ f (c - 1))
theorem onceL_range (f : Nat → α) : ∀ n, onceL ((List.range n).map f) = ((List.range n).filter (newN f)).map f
 | 0 => rfl
 | n + 1 => by
  rw [List.range_succ, List.map_append, List.map_cons, List.map_nil, onceL_step, onceL_range f n, List.filter_append, List.map_append]
  cases n with
  | zero => simp [newN]
  | succ n =>
   have e : ((List.range (n + 1)).map f).getLast? = some (f n) := by rw [List.range_succ]; simp
   rw [e]
   by_cases h : f n = f (n + 1)
   ·rw [if_pos (by rw [h])]
    simp [newN, h]
   ·rw [if_neg (by intro h2; exact h (Option.some.inj h2))]
    have h' : ¬ f (n + 1) = f n := fun e => h e.symm
    simp [newN, h']
end
theorem foldR_once (rows : List (List Int)) : foldR rows = onceL rows := by
 induction rows using snocInd with
 | h0 => rfl
 | h1 l x ih =>
  rw [foldR_snoc, onceL_snoc, ih]
  rfl
def newP (R : List (List Int)) (c : Nat) : Bool := R.any (newCol c)
def keptC (R : List (List Int)) (w : Nat) : List Nat := (List.range w).filter (newP R)
def thinR (R : List (List Int)) (w : Nat) (row : List Int) : List Int := (keptC R w).map fun (c : Nat) => rd row (c : Int)
theorem colsT_kept (R : List (List Int)) (w : Nat) : colsT R w = (keptC R w).map fun (c : Nat) => (c : Int) := rfl
theorem newP_false {R : List (List Int)} {c : Nat} (h1 : 1 ≤ R.length) (h : newP R c = false) : 1 ≤ c ∧ ∀ row ∈ R, rd row (c : Int) = rd row ((c - 1 : Nat) : Int) := by
 unfold newP at h
 rw [List.any_eq_false] at h
 have h2 : ∀ row ∈ R, ¬ c = 0 ∧ rd row (c : Int) = rd row ((c - 1 : Nat) : Int) := fun row hr => by
  have := h row hr
  unfold newCol at this
  simp at this
  exact this
 exact ⟨by have := (h2 R[0] (List.getElem_mem _)).1; omega, fun row hr => (h2 row hr).2⟩
theorem kept_for {R : List (List Int)} (h1 : 1 ≤ R.length) (w : Nat) : ∀ c, c < w → ∃ c' ∈ keptC R w, c' ≤ c ∧ ∀ row ∈ R, rd row (c : Int) = rd row (c' : Int) := by
 intro c
 induction c with
 | zero =>
  intro hc
  refine ⟨0, ?_, Nat.le_refl _, fun _ _ => rfl⟩
  unfold keptC
  rw [List.mem_filter, List.mem_range]
  refine ⟨hc, ?_⟩
  cases h : newP R 0 with
  | true => rfl
  | false => have := (newP_false h1 h).1; omega
 | succ c ih =>
  intro hc
  cases h : newP R (c + 1) with
  | true => exact ⟨c + 1, by unfold keptC; rw [List.mem_filter, List.mem_range]; exact ⟨hc, h⟩, Nat.le_refl _, fun _ _ => rfl⟩
  | false =>
   obtain ⟨c', m, l, e⟩ := ih (by omega)
   refine ⟨c', m, by omega, fun row hr => ?_⟩
   rw [(newP_false h1 h).2 row hr]
   exact e row hr
theorem kept_pos {R : List (List Int)} (h1 : 1 ≤ R.length) {w : Nat} (hw : 1 ≤ w) : 1 ≤ (keptC R w).length := by
 obtain ⟨c', m, -⟩ := kept_for h1 w 0 (by omega)
 exact List.length_pos_of_mem m
theorem kept_le (R : List (List Int)) (w : Nat) : (keptC R w).length ≤ w := by
 have := List.length_filter_le (newP R) (List.range w)
 rw [List.length_range] at this
 exact this
theorem kept_lt {R : List (List Int)} {w i : Nat} (hi : i < (keptC R w).length) : (keptC R w)[i] < w := by
 have := List.getElem_mem hi
 unfold keptC at this
 exact List.mem_range.1 (List.mem_filter.1 this).1
theorem kept_mono {R : List (List Int)} {w i j : Nat} (hij : i < j) (hj : j < (keptC R w).length) : (keptC R w)[i] < (keptC R w)[j] := by
 have : (keptC R w).Pairwise (· < ·) := List.Pairwise.filter _ List.pairwise_lt_range
 exact List.pairwise_iff_getElem.1 this i j (by omega) hj hij
def tightX (X : List (List Int)) : List (List Int) := (onceL X).map (thinR (onceL X) (wideOf X))
theorem tightH_X (cs : List (List Int)) (rs : List Rc) : tightH cs rs = tightX cs := by
 unfold tightH tightX tightG
 rw [foldR_once, colsT_kept]
 generalize onceL cs = R
 unfold gridOf thinR
 rw [List.length_map]
 generalize keptC R (wideOf cs) = K
 apply List.ext_getElem?
 intro r
 rw [List.getElem?_map, List.getElem?_map]
 by_cases hr : r < R.length
 ·rw [List.getElem?_range hr, List.getElem?_eq_getElem hr]
  simp only [Option.map_some]
  congr 1
  apply List.ext_getElem?
  intro i
  rw [List.getElem?_map, List.getElem?_map]
  by_cases hi : i < K.length
  ·rw [List.getElem?_range hi, List.getElem?_eq_getElem hi]
   simp only [Option.map_some]
   rw [rd_at (p := K.map fun (c : Nat) => (c : Int)) (i := i) (s := ((K[i] : Nat) : Int)) (by rw [List.getElem?_map, List.getElem?_eq_getElem hi]; rfl)]
   congr 2
   rw [List.getD_eq_getElem?_getD, List.getElem?_eq_getElem hr]
   rfl
  ·rw [List.getElem?_eq_none (by simp; omega), List.getElem?_eq_none (by omega)]
   rfl
 ·rw [List.getElem?_eq_none (by simp; omega), List.getElem?_eq_none (by omega)]
  rfl
end Go.Proofs.Ytickdcegnlldjaa.Hd
namespace Go.Proofs.Ytickdcegnlldjaa.Hd
open Go.RowKit Go.Proofs.YtickdcegnlldjaaW.PrintWords Go.Proofs.YtickdcegnlldjaaW.PrintLast Go.Proofs.YtickdcegnlldjaaW.PrintMore Go.Proofs.Ytickdcegnlldjaa.PB
theorem valAt_rd {R : List (List Int)} {r : Nat} {row : List Int} (h : R[r]? = some row) (c : Nat) : valAt R r c = rd row (c : Int) := by
 unfold valAt rd
 rw [List.getD_eq_getElem?_getD (l := R), h, Int.toNat_natCast]
 rfl
theorem once_dims {X : List (List Int)} (hX : OkG X) : 1 ≤ (onceL X).length ∧ (onceL X).length ≤ X.length ∧ ∀ r ∈ onceL X, r.length = wideOf X := by
 have hd := hX.dims
 have hl := onceL_len X
 exact ⟨hl.2 hd.1, hl.1, fun r hr => shape_rect hX.shape r (onceL_sub X r hr)⟩
theorem tight_get (X : List (List Int)) {r i : Nat} {row : List Int} (hr : (onceL X)[r]? = some row) (hi : i < (keptC (onceL X) (wideOf X)).length) : valAt (tightX X) r i = rd row (((keptC (onceL X) (wideOf X))[i] : Nat) : Int) := by
 have h1 : (tightX X)[r]? = some (thinR (onceL X) (wideOf X) row) := by unfold tightX; rw [List.getElem?_map, hr]; rfl
 rw [valAt_rd h1]
 exact rd_at (by unfold thinR; rw [List.getElem?_map, List.getElem?_eq_getElem hi]; rfl)
theorem tight_len (X : List (List Int)) : (tightX X).length = (onceL X).length := by unfold tightX; rw [List.length_map]
theorem tight_rect (X : List (List Int)) : Rect (keptC (onceL X) (wideOf X)).length (tightX X) := by
 intro r hr
 obtain ⟨row, -, rfl⟩ := List.mem_map.1 hr
 unfold thinR
 rw [List.length_map]
theorem tight_re {X : List (List Int)} (hX : OkG X) : ∃ ρ κ : Nat → Nat, tightX X = reG X (onceL X).length (keptC (onceL X) (wideOf X)).length (fun r _ => ρ r) (fun _ c => κ c) ∧
  (∀ r, r < (onceL X).length → ρ r < X.length) ∧ (∀ c, c < (keptC (onceL X) (wideOf X)).length → κ c < wideOf X) ∧ (∀ r r', r ≤ r' → r' < (onceL X).length → ρ r ≤ ρ r') ∧ (∀ c c', c ≤ c' → c' < (keptC (onceL X) (wideOf X)).length → κ c ≤ κ c') := by
 obtain ⟨ρ, h1, h2⟩ := onceL_ix X
 refine ⟨ρ, fun c => (keptC (onceL X) (wideOf X)).getD c 0, ?_, fun r hr => (h1 r hr).1, fun c hc => ?_, h2, fun c c' hcc hc' => ?_⟩
 ·have e := rect_eq (tight_rect X)
  rw [tight_len] at e
  refine e.trans (gridOf_congr fun r c hr hc => ?_)
  have hrow : (onceL X)[r]? = some (onceL X)[r] := List.getElem?_eq_getElem hr
  rw [tight_get X hrow hc]
  have hx := hrow.symm.trans (h1 r hr).2
  rw [valAt_rd hx.symm]
  dsimp only
  rw [List.getD_eq_getElem?_getD, List.getElem?_eq_getElem hc]
  rfl
 ·dsimp only
  rw [List.getD_eq_getElem?_getD, List.getElem?_eq_getElem hc]
  exact kept_lt hc
 ·dsimp only
  rw [List.getD_eq_getElem?_getD, List.getD_eq_getElem?_getD, List.getElem?_eq_getElem hc', List.getElem?_eq_getElem (by omega)]
  rcases Nat.lt_or_eq_of_le hcc with h | h
  ·exact Nat.le_of_lt (kept_mono h hc')
  ·subst h; exact Nat.le_refl _
theorem tight_ok {X : List (List Int)} (hX : OkG X) : OkG (tightX X) := by
 obtain ⟨ρ, κ, e, h1, h2, m1, m2⟩ := tight_re hX
 obtain ⟨d1, d2, d3, d4⟩ := hX.dims
 obtain ⟨o1, o2, o3⟩ := once_dims hX
 have k1 := kept_pos o1 d3
 have k2 := kept_le (onceL X) (wideOf X)
 rw [e]
 refine re_ok hX o1 (by omega) k1 (by omega) (fun r c hr hc => ⟨h1 r hr, h2 c hc⟩) (fun r c r' c' i j q1 q2 q3 q4 z1 z2 z3 z4 => ?_)
 have a1 := m1 (min r r') i z1 (by omega)
 have a2 := m1 i (max r r') z2 (by omega)
 have b1 := m2 (min c c') j z3 (by omega)
 have b2 := m2 j (max c c') z4 (by omega)
 refine ⟨?_, ?_, ?_, ?_⟩
 ·rcases Nat.le_total r r' with h | h
  ·rw [Nat.min_eq_left h] at a1; exact Nat.le_trans (Nat.min_le_left _ _) a1
  ·rw [Nat.min_eq_right h] at a1; exact Nat.le_trans (Nat.min_le_right _ _) a1
 ·rcases Nat.le_total r r' with h | h
  ·rw [Nat.max_eq_right h] at a2; exact Nat.le_trans a2 (Nat.le_max_right _ _)
  ·rw [Nat.max_eq_left h] at a2; exact Nat.le_trans a2 (Nat.le_max_left _ _)
 ·rcases Nat.le_total c c' with h | h
  ·rw [Nat.min_eq_left h] at b1; exact Nat.le_trans (Nat.min_le_left _ _) b1
  ·rw [Nat.min_eq_right h] at b1; exact Nat.le_trans (Nat.min_le_right _ _) b1
 ·rcases Nat.le_total c c' with h | h
  ·rw [Nat.max_eq_right h] at b2; exact Nat.le_trans b2 (Nat.le_max_right _ _)
  ·rw [Nat.max_eq_left h] at b2; exact Nat.le_trans b2 (Nat.le_max_left _ _)
theorem ord_once (X : List (List Int)) (o : List Int) : ordL (onceL X).flatten o = ordL X.flatten o := by
 induction X using snocInd with
 | h0 => rfl
 | h1 l x ih =>
  rw [onceL_step, List.flatten_append, ordL_append]
  split
  ·rename_i h
   rw [ih]
   refine (ordL_id _ _ fun y hy => ?_).symm
   have hx : x ∈ l := List.mem_of_getLast? h
   have hy' : y ∈ x := by simpa using hy
   exact ordL_mem _ _ _ (List.mem_flatten.2 ⟨x, hx, hy'⟩)
  ·rw [List.flatten_append, ordL_append, ih]
theorem ord_thin (f : Nat → Int) (p : Nat → Bool) (o : List Int) : ∀ n, (∀ c, c < n → p c = false → 1 ≤ c ∧ f c = f (c - 1)) → ordL (((List.range n).filter p).map f) o = ordL ((List.range n).map f) o
 | 0, _ => rfl
 | n + 1, h => by
  have ih := ord_thin f p o n (fun c hc => h c (by omega))
  rw [List.range_succ, List.filter_append, List.map_append, List.map_append, ordL_append, ordL_append, ih]
  cases hp : p n with
  | true => simp [hp]
  | false =>
   obtain ⟨a, b⟩ := h n (by omega) hp
   have e : ([n].filter p).map f = [] := by simp [hp]
   rw [e]
   show ordL ((List.range n).map f) o = ordL ([n].map f) (ordL ((List.range n).map f) o)
   refine (ordL_id _ _ fun y hy => ?_).symm
   have hy' : y = f n := by simpa using hy
   rw [hy', b]
   exact ordL_mem _ _ _ (List.mem_map.2 ⟨n - 1, (List.mem_range (n := n)).2 (by omega), rfl⟩)
theorem row_range {row : List Int} {w : Nat} (h : row.length = w) : (List.range w).map (fun (c : Nat) => rd row (c : Int)) = row := by
 apply List.ext_getElem?
 intro i
 rw [List.getElem?_map]
 by_cases hi : i < w
 ·rw [List.getElem?_range hi, List.getElem?_eq_getElem (by omega)]
  exact congrArg some (rd_at (List.getElem?_eq_getElem (by omega)))
 ·rw [List.getElem?_eq_none (by simp; omega), List.getElem?_eq_none (by omega)]
  rfl
theorem ord_thinR {R : List (List Int)} (h1 : 1 ≤ R.length) {w : Nat} (row : List Int) (hm : row ∈ R) (hw : row.length = w) (o : List Int) : ordL (thinR R w row) o = ordL row o := by
 have := ord_thin (fun (c : Nat) => rd row (c : Int)) (newP R) o w (fun c hc hp => ⟨(newP_false h1 hp).1, (newP_false h1 hp).2 row hm⟩)
 rw [row_range hw] at this
 exact this
theorem ord_thins {R : List (List Int)} (h1 : 1 ≤ R.length) {w : Nat} : ∀ (S : List (List Int)) (o : List Int), (∀ row ∈ S, row ∈ R ∧ row.length = w) → ordL (S.map (thinR R w)).flatten o = ordL S.flatten o
 | [], o, _ => rfl
 | row :: S, o, h => by
  obtain ⟨a, b⟩ := h row (by simp)
  rw [List.map_cons, List.flatten_cons, List.flatten_cons, ordL_append, ordL_append, ord_thinR h1 row a b]
  exact ord_thins h1 S _ (fun r hr => h r (List.mem_cons_of_mem _ hr))
theorem tight_ord {X : List (List Int)} (hX : OkG X) : ordAll (tightX X) = ordAll X := by
 obtain ⟨o1, o2, o3⟩ := once_dims hX
 unfold ordAll tightX
 rw [ord_thins o1 (onceL X) [] (fun r hr => ⟨hr, o3 r hr⟩), ord_once]
theorem tight_vals {X : List (List Int)} (hX : OkG X) {v : Int} (h : Vals (tightX X) v) : Vals X v := by
 rw [← ord_vals, tight_ord hX, ord_vals] at h
 exact h
theorem canon_id_iff {X : List (List Int)} (h : canon X = X) {v : Int} (hv : Vals X v) : ((ordAll X).idxOf v : Int) = v := by
 unfold canon canonL at h
 obtain ⟨row, hr, hx⟩ := List.mem_flatten.1 hv
 obtain ⟨i, hi, e⟩ := List.getElem_of_mem hr
 have h2 := congrArg (fun L => L[i]?) h
 simp only [List.getElem?_map, List.getElem?_eq_getElem hi, Option.map_some, e] at h2
 have h3 := Option.some.inj h2
 obtain ⟨j, hj, e2⟩ := List.getElem_of_mem hx
 have h4 := congrArg (fun L => L[j]?) h3
 simp only [List.getElem?_map, List.getElem?_eq_getElem hj, Option.map_some, e2] at h4
 exact Option.some.inj h4
theorem tight_canon {X : List (List Int)} (hX : OkG X) (hc : canon X = X) : canon (tightX X) = tightX X := by
 unfold canon canonL
 rw [tight_ord hX]
 conv => rhs; rw [← List.map_id (tightX X)]
 apply List.map_congr_left
 intro row hr
 conv => rhs; rw [id, ← List.map_id row]
 apply List.map_congr_left
 intro x hx
 exact canon_id_iff hc (tight_vals hX (List.mem_flatten.2 ⟨row, hr, hx⟩))
theorem tight_plan {X : List (List Int)} (hX : OkG X) (hc : canon X = X) : planF (tightX X) = (textOf (tightX X), true) := by
 rw [(tight_ok hX).plan, tight_canon hX hc]
def tightF (p : List ByteArray) : List ByteArray × Bool := remadeF p tightH
theorem tight_good : goodHow tightH := by
 intro cs rs hk r hr x hx
 rw [tightH_X] at hr
 obtain ⟨row, hrow, rfl⟩ := List.mem_map.1 hr
 obtain ⟨c, hc, rfl⟩ := List.mem_map.1 hx
 have hm := onceL_sub cs row hrow
 have hl := hk.cells.row row hm
 have hcw : c < wideOf cs := List.mem_range.1 (List.mem_filter.1 hc).1
 have hget : row[c]? = some row[c] := List.getElem?_eq_getElem (by omega)
 rw [rd_at hget]
 have := hk.cells.val row hm _ (List.getElem_mem (show c < row.length by omega))
 have := hk.many
 omega
theorem bytesOf_inj {a b : ByteArray} (h : bytesOf a = bytesOf b) : a = b := by
 unfold bytesOf at h
 have h2 : a.data.toList = b.data.toList := by
  have hinj : ∀ (l m : List UInt8), l.map (fun x => ((x.toNat : Nat) : Int)) = m.map (fun x => ((x.toNat : Nat) : Int)) → l = m := by
   intro l
   induction l with
   | nil => intro m h; cases m with
    | nil => rfl
    | cons a m => cases h
   | cons x l ih => intro m h; cases m with
    | nil => cases h
    | cons y m =>
     simp only [List.map_cons, List.cons.injEq] at h
     have : x = y := UInt8.toNat_inj.1 (by omega)
     rw [this, ih m h.2]
  exact hinj _ _ h
 cases a; cases b
 simp only at h2
 rw [Array.toList_inj.1 h2]
theorem numsOf_inj : ∀ {p q : List ByteArray}, numsOf p = numsOf q → p = q
 | [], [], _ => rfl
 | [], _ :: _, h => by cases h
 | _ :: _, [], h => by cases h
 | a :: p, b :: q, h => by
  unfold numsOf at h
  simp only [List.map_cons, List.cons.injEq] at h
  rw [bytesOf_inj h.1, numsOf_inj (p := p) (q := q) h.2]
theorem once_l0 (p : List ByteArray) (hp : p.length ≤ 1000) : ∀ m i, i + m = p.length → Evs (fun k => spec_l1Once.l0 k p (onceL (p.take i)) (i : Int)) (onceL p) := by
 intro m
 induction m with
 | zero =>
  intro i hi
  rw [List.take_of_length_le (by omega)]
  refine Evs.step (h := fun _ => some (onceL p)) (fun k => ?_) (Evs.const _)
  conv => lhs; unfold spec_l1Once.l0
  rw [if_neg (by omega)]
 | succ m ih =>
  intro i hi
  obtain ⟨s, hs⟩ : ∃ s, p[i]? = some s := ⟨_, List.getElem?_eq_getElem (by omega)⟩
  have hnx := ih (i + 1) (by omega)
  have et : p.take (i + 1) = p.take i ++ [s] := by rw [List.take_add_one, hs]; rfl
  have hl := (onceL_len (p.take i)).1
  rw [List.length_take] at hl
  have hl2 : (onceL (p.take i)).length ≤ 1000 := by omega
  rw [et, onceL_step] at hnx
  refine Evs.step (h := fun k => spec_l1Once.l0 k p (if (p.take i).getLast? = some s then onceL (p.take i) else onceL (p.take i) ++ [s]) ((i + 1 : Nat) : Int)) (fun k => ?_) hnx
  conv => lhs; unfold spec_l1Once.l0
  rw [if_pos (by omega), wrap_succ (by omega), rdOf_at hs]
  cases i with
  | zero =>
   rw [if_pos (by omega), if_pos (by omega), if_pos (by omega), if_neg (by simp)]
  | succ i =>
   obtain ⟨t, ht⟩ : ∃ t, p[i]? = some t := ⟨_, List.getElem?_eq_getElem (by omega)⟩
   have el : (p.take (i + 1)).getLast? = some t := by rw [List.take_add_one, ht]; simp
   have ew : wrap64 (((i + 1 : Nat) : Int) - 1) = (i : Int) := by rw [wrap64_small (by omega) (by omega)]; omega
   rw [if_neg (by omega), if_pos (by omega), ew, if_pos (by omega), if_pos (by omega), rdOf_at ht, el]
   by_cases h : s = t
   ·rw [if_pos (toList_inj.2 h), if_pos (by rw [h])]
   ·rw [if_neg (fun e => h (toList_inj.1 e)), if_pos (by omega), if_neg (fun e => h (Option.some.inj e).symm)]
theorem l1Once_ev (p : List ByteArray) (hp : p.length ≤ 1000) : Evs (fun k => spec_l1Once.f k p) (onceL p) := once_l0 p hp p.length 0 (by omega)
theorem nums_once (p : List ByteArray) : numsOf (onceL p) = onceL (numsOf p) := (onceL_map bytesOf p (fun _ _ _ _ h => bytesOf_inj h)).symm
theorem once_mapG (a : Int) (X : List (List Int)) : onceL (mapG (fun x => a + x) X) = mapG (fun x => a + x) (onceL X) := by
 refine onceL_map _ X (fun x _ y _ h => ?_)
 have hinj : ∀ (l m : List Int), l.map (fun x => a + x) = m.map (fun x => a + x) → l = m := by
  intro l
  induction l with
  | nil => intro m h; cases m with
   | nil => rfl
   | cons a m => cases h
  | cons x l ih => intro m h; cases m with
   | nil => cases h
   | cons y m =>
    simp only [List.map_cons, List.cons.injEq] at h
    rw [show x = y by omega, ih m h.2]
 exact hinj x y h
def tightTexts (p : List ByteArray) (wi : Nat) : List ByteArray := transOf (onceL (transOf (onceL p) wi)) (onceL p).length
theorem grid_cols {R : List (List Int)} {w : Nat} (a : Int) (hw : ∀ r ∈ R, r.length = w) : gridOf w R.length (fun c r => valAt (mapG (fun x => a + x) R) r c) = (List.range w).map fun (c : Nat) => R.map fun row => a + rd row (c : Int) := by
 unfold gridOf
 apply List.map_congr_left
 intro c hc
 have hc := List.mem_range.1 hc
 apply List.ext_getElem?
 intro r
 rw [List.getElem?_map, List.getElem?_map]
 by_cases hr : r < R.length
 ·rw [List.getElem?_range hr, List.getElem?_eq_getElem hr]
  simp only [Option.map_some]
  congr 1
  have hl := hw _ (List.getElem_mem hr)
  rw [valAt_rd (R := mapG (fun x => a + x) R) (row := R[r].map fun x => a + x) (by unfold mapG; rw [List.getElem?_map, List.getElem?_eq_getElem hr]; rfl)]
  rw [rd_at (i := c) (s := a + R[r][c]) (by rw [List.getElem?_map, List.getElem?_eq_getElem (by omega)]; rfl), rd_at (p := R[r]) (i := c) (List.getElem?_eq_getElem (by omega))]
 ·rw [List.getElem?_eq_none (by simp; omega), List.getElem?_eq_none (by omega)]
  rfl
theorem new_same {R : List (List Int)} (h1 : 1 ≤ R.length) (a : Int) (c : Nat) : newN (fun (c : Nat) => R.map fun row => a + rd row (c : Int)) c = newP R c := by
 unfold newN newP newCol
 rw [Bool.eq_iff_iff]
 simp only [Bool.or_eq_true, decide_eq_true_eq, List.any_eq_true, bne_iff_ne, ne_eq]
 constructor
 ·rintro (h | h)
  ·exact ⟨R[0], List.getElem_mem _, .inl h⟩
  ·by_cases h2 : ∃ x, x ∈ R ∧ ¬ rd x (c : Int) = rd x ((c - 1 : Nat) : Int)
   ·obtain ⟨x, hx, e⟩ := h2
    exact ⟨x, hx, .inr e⟩
   ·exact absurd (List.map_congr_left fun x hx => by
     have : rd x (c : Int) = rd x ((c - 1 : Nat) : Int) := Classical.byContradiction fun e => h2 ⟨x, hx, e⟩
     rw [this]) h
 ·rintro ⟨x, hx, h | h⟩
  ·exact .inl h
  ·refine .inr fun e => h ?_
   obtain ⟨i, hi, ei⟩ := List.getElem_of_mem hx
   have := congrArg (fun L => L[i]?) e
   simp only [List.getElem?_map, List.getElem?_eq_getElem hi, Option.map_some, ei, Option.some.injEq] at this
   omega
theorem tight_nums {p : List ByteArray} {cs : List (List Int)} {rs : List Rc} (F : PlanFacts p cs rs) (hX : OkG cs) : numsOf (tightTexts p (wideOf cs)) = mapG (fun x => 97 + x) (tightX cs) := by
 obtain ⟨o1, o2, o3⟩ := once_dims hX
 unfold tightTexts
 have e1 : numsOf (onceL p) = mapG (fun x => 97 + x) (onceL cs) := by rw [nums_once, F.nums, once_mapG]
 have el : (onceL p).length = (onceL cs).length := by
  have := congrArg List.length e1
  unfold numsOf mapG at this
  rw [List.length_map, List.length_map] at this
  exact this
 rw [numsOf_trans, nums_once, numsOf_trans, e1, el, grid_cols 97 o3, onceL_range]
 rw [List.filter_congr (fun c _ => new_same o1 97 c)]
 unfold tightX
 generalize onceL cs = R at *
 have : (onceL (transOf (onceL p) (wideOf cs))).length = (keptC R (wideOf cs)).length := by
  rw [← numsOf_length, nums_once, numsOf_trans, e1, el, grid_cols 97 o3, onceL_range, List.length_map, List.filter_congr (fun c _ => new_same o1 97 c)]
  rfl
 rw [this]
 unfold mapG thinR gridOf
 rw [List.map_map]
 show _ = R.map fun row => ((keptC R (wideOf cs)).map fun (c : Nat) => rd row (c : Int)).map fun x => 97 + x
 show (List.range R.length).map (fun r => (List.range (keptC R (wideOf cs)).length).map fun c => valAt ((keptC R (wideOf cs)).map fun (c : Nat) => R.map fun row => 97 + rd row (c : Int)) c r) = _
 generalize keptC R (wideOf cs) = K
 apply List.ext_getElem?
 intro r
 rw [List.getElem?_map, List.getElem?_map]
 by_cases hr : r < R.length
 ·rw [List.getElem?_range hr, List.getElem?_eq_getElem hr]
  simp only [Option.map_some]
  congr 1
  apply List.ext_getElem?
  intro i
  rw [List.getElem?_map, List.getElem?_map, List.getElem?_map]
  by_cases hi : i < K.length
  ·rw [List.getElem?_range hi, List.getElem?_eq_getElem hi]
   simp only [Option.map_some]
   congr 1
   rw [valAt_rd (row := R.map fun row => 97 + rd row ((K[i] : Nat) : Int)) (by rw [List.getElem?_map, List.getElem?_eq_getElem hi]; rfl)]
   exact rd_at (by rw [List.getElem?_map, List.getElem?_eq_getElem hr]; rfl)
  ·rw [List.getElem?_eq_none (by simp; omega), List.getElem?_eq_none (by omega)]
   rfl
 ·rw [List.getElem?_eq_none (by simp; omega), List.getElem?_eq_none (by omega)]
  rfl
theorem mid_once {p : List ByteArray} {wi : Nat} (h : Mid p wi) : Mid (onceL p) wi := ⟨Nat.le_trans (onceL_len p).1 h.high, h.wide, fun s hs => h.row s (onceL_sub p s hs)⟩
theorem tight_text {p : List ByteArray} {cs : List (List Int)} {rs : List Rc} (F : PlanFacts p cs rs) (hX : OkG cs) : tightTexts p (wideOf cs) = textOf (tightX cs) := by
 apply numsOf_inj
 rw [tight_nums F hX, numsOf_textOf]
 ·rfl
 ·intro r hr x hx
  rw [← tightH_X cs rs] at hr
  have hk := F.ok
  rw [tightH_X] at hr
  obtain ⟨row, hrow, rfl⟩ := List.mem_map.1 hr
  obtain ⟨c, hc, rfl⟩ := List.mem_map.1 hx
  have hm := onceL_sub cs row hrow
  have hl := hk.cells.row row hm
  have hcw : c < wideOf cs := List.mem_range.1 (List.mem_filter.1 hc).1
  have hget : row[c]? = some row[c] := List.getElem?_eq_getElem (by omega)
  rw [rd_at hget]
  have := hk.cells.val row hm _ (List.getElem_mem (show c < row.length by omega))
  have := hk.many
  omega
theorem PlanTight_ev (p : List ByteArray) (hp : smallP p) : Evs (fun k => spec_PlanTight.f k p) (tightF p) := by
 have h1 := PlanIn_ev p hp
 rcases planB_cases p with ⟨e1, f1⟩ | ⟨e1, cs, rs, f1⟩
 ·rw [e1] at h1
  unfold tightF
  rw [remade_none f1]
  exact Evs.bind h1 (Evs.neg (by simp) (Evs.const _))
 ·rw [e1] at h1
  have F := floor_facts f1
  obtain ⟨hX, hc, -, -⟩ := floor_okG f1
  have hd := hX.dims
  have l1 := F.len
  have M := mid_of F
  have hh := M.high
  have o1 : 1 ≤ (onceL p).length := (onceL_len p).2 (by omega)
  have M1 := mid_once M
  have M2 := mid_trans M1
  have M3 := mid_once M2
  have hh1 := M1.high
  have hh2 := M2.high
  have o3 : 1 ≤ (onceL (transOf (onceL p) (wideOf cs))).length := (onceL_len _).2 (by rw [trans_length]; omega)
  have E1 := l1Once_ev p (by omega)
  have E2 := l1Trans_ev _ _ M1 o1
  have E3 := l1Once_ev (transOf (onceL p) (wideOf cs)) (by omega)
  have E4 := l1Trans_ev _ _ M3 o3
  rw [show transOf (onceL (transOf (onceL p) (wideOf cs))) (onceL p).length = tightTexts p (wideOf cs) from rfl, tight_text F hX] at E4
  have er : tightF p = (textOf (tightX cs), true) := by
   unfold tightF remadeF
   rw [f1]
   show planF (tightH cs rs) = _
   rw [tightH_X, tight_plan hX hc]
  rw [er]
  refine Evs.bind h1 (Evs.pos rfl (Evs.bind (F := fun k t382 => some (t382, true)) ?_ (Evs.const _)))
  exact Evs.bind E1 (Evs.bind E2 (Evs.bind E3 (Evs.bind E4 (Evs.const _))))
set_option maxHeartbeats 4000000 in
set_option maxRecDepth 100000 in
theorem PlanTight_calls (A0 : Option Addr) (c0 : Nat) (l0 : List ByteArray) (w : World) (hr0 : Kd.C Kd.string w A0 l0.length l0) (hc0 : l0.length ≤ c0) (hp : smallP l0) :
  Calls Try.prog 33 #[.slice A0 l0.length c0] w (PlanRes w (remadeF l0 tightH)) := by
 have HR := Aside0.mk hr0
 have HC := Aside0.mk hc0
 have HP := Aside0.mk hp
 clear hr0 hc0 hp
 generalize hM : remadeF l0 tightH = res
 have HM := Aside0.mk hM
 clear hM
 go_enter Try.func33, Try.ntmps33
 go_wp2_with (first
  | (go_at_call 68; refine (remade_calls 69 Try.f69 Try.func69 (by kernel_rfl) rfl #[] tightH tight_good A0 c0 l0 _ HR.out HC.out HP.out (tight_fn _)).mono ?_; rw [HM.out]; rintro e w9 ⟨v9, rfl, hr9, hb9⟩; have HR9 := Aside0.mk hr9; have HB9 := Aside0.mk hb9; clear hr9 hb9))
 go_ret2
 exact ⟨v9, rfl, HR9.out, HB9.out⟩
theorem tightF_len (p : List ByteArray) : (tightF p).1.length ≤ 1048576 := Nat.le_trans (remadeF_len p tightH) (by omega)
def impl_PlanTight.f (l0 : List ByteArray) : Option (List ByteArray × Bool) := if smallB l0 = true then some (tightF l0) else none
theorem impl_PlanTight.calls (A0 : Option Addr) (c0 : Nat) (l0 : List ByteArray) (r1 : List ByteArray) (r2 : Bool) (w : World) (hr0 : Kd.C Kd.string w A0 l0.length l0) (hc0 : l0.length ≤ c0) (h : impl_PlanTight.f l0 = some (r1, r2)) :
  Calls Try.prog 33 #[.slice A0 l0.length c0] w fun e w' => ∃ v0_ : Value, e = .returned (.tuple #[v0_, .bool r2]) ∧ Kd.R Kd.string 9 w' w.heap.size (fun _ => True) v0_ r1 ∧ Below w.heap.size w w' := by
 unfold impl_PlanTight.f at h
 split at h
 ·rename_i hs
  have e : remadeF l0 tightH = (r1, r2) := Option.some.inj h
  have := PlanTight_calls A0 c0 l0 w hr0 hc0 ((smallB_iff _).1 hs)
  rw [e] at this
  exact this
 ·cases h
end Go.Proofs.Ytickdcegnlldjaa.Hd
namespace Go.Proofs.Ytickdcegnlldjaa.LT
open Go.Proofs.Ytickdcegnlldjaa.PB Go.Proofs.Ytickdcegnlldjaa.Hd
open Go.RowKit Go.Proofs.YtickdcegnlldjaaW.PrintWords Go.Proofs.YtickdcegnlldjaaW.PrintLast Go.Proofs.YtickdcegnlldjaaW.PrintMore
attribute [local go_sem] max2_int min2_int max_two min_two max_three min_three max_four min_four   -- for this text's walks alone
def errW : Option Int → Value
 | none => .nilIface
 | some c => .iface 0 (.int .i64 c)
theorem errW_none : errW none = .nilIface := rfl
theorem errW_some (c : Int) : errW (some c) = .iface 0 (.int .i64 c) := rfl
theorem info5 : (Try.prog.info? 5).map (fun i => (i.zero, i.size, i.bytes)) = some (some (.int .u8 0), 1, 1) := by kernel_rfl
theorem info9 : (Try.prog.info? 9).map (fun i => (i.zero, i.size, i.bytes)) = some (some (.string ⟨#[]⟩), 1, 16) := by kernel_rfl
def rd_L3 (xs : List (List Int)) (i : Int) : (List Int) := xs.getD i.toNat ([] : List Int)
theorem at_L3 {w : World} {A : Option Addr} {n : Nat} {xs : List (List Int)} (h : Kd.C (Kd.slice 3 (Kd.int .i64)) w A n xs) (i : Int) (h0 : 0 ≤ i) (h1 : i < n) : ∃ ad A0 c0, A = some ad ∧ w.cell? (ad.add i.toNat) = some (.slice A0 (rd_L3 xs i).length c0) ∧ (rd_L3 xs i).length ≤ c0 ∧ (Kd.int .i64).C w A0 (rd_L3 xs i).length (rd_L3 xs i) := by
 obtain ⟨ad, c, e, _, hK, hc0⟩ := Kd.C_get h ([] : List Int) i h0 h1
 have hc : ∀ j u, c[j]? = some u → w.cell? (ad.add (i.toNat * 1 + j)) = some u := hc0
 obtain ⟨A0, c0, rfl, l0, g0⟩ := hK
 exact ⟨ad, A0, c0, e, by have hq := hc 0 _ rfl; rwa [Nat.mul_one, Nat.add_zero] at hq, l0, g0⟩
structure S120 where
 f0 : Int
 f1 : Int
 f2 : Int
 f3 : Int
def z120 : S120 := ⟨(0 : Int), (0 : Int), (0 : Int), (0 : Int)⟩
def k120 : Kd S120 := Kd.iso (Kd.pair (Kd.int .i64) (Kd.pair (Kd.int .i64) (Kd.pair (Kd.int .i64) (Kd.int .i64)))) (fun x : S120 => (x.f0, x.f1, x.f2, x.f3))
theorem k120_open {w : World} {x : S120} {cs : List Value} (h : k120.K w x cs) : cs = [.int .i64 x.f0, .int .i64 x.f1, .int .i64 x.f2, .int .i64 x.f3] := by
 obtain ⟨_, _, rfl, rfl, ⟨_, _, rfl, rfl, ⟨_, _, rfl, rfl, rfl⟩⟩⟩ := h
 exact rfl
theorem k120_mkM (w : World) (base : Nat) (ok : Nat → Prop) (x : S120)  : k120.M w base ok x [.int .i64 x.f0, .int .i64 x.f1, .int .i64 x.f2, .int .i64 x.f3] := ⟨[.int .i64 x.f0], [.int .i64 x.f1, .int .i64 x.f2, .int .i64 x.f3], rfl, rfl, ⟨[.int .i64 x.f1], [.int .i64 x.f2, .int .i64 x.f3], rfl, rfl, ⟨[.int .i64 x.f2], [.int .i64 x.f3], rfl, rfl, rfl⟩⟩⟩
def rd_T120 (xs : List S120) (i : Int) : S120 := xs.getD i.toNat z120
theorem at_T120 {w : World} {A : Option Addr} {n : Nat} {xs : List S120} (h : Kd.C k120 w A n xs) (i : Int) (h0 : 0 ≤ i) (h1 : i < n) : ∃ ad , A = some ad ∧ w.cell? (ad.add (i.toNat * 4)) = some (.int .i64 (rd_T120 xs i).f0) ∧ w.cell? ⟨(ad.add (i.toNat * 4)).block, (ad.add (i.toNat * 4)).off + 1, none⟩ = some (.int .i64 (rd_T120 xs i).f1) ∧ w.cell? ⟨(ad.add (i.toNat * 4)).block, (ad.add (i.toNat * 4)).off + 2, none⟩ = some (.int .i64 (rd_T120 xs i).f2) ∧ w.cell? ⟨(ad.add (i.toNat * 4)).block, (ad.add (i.toNat * 4)).off + 3, none⟩ = some (.int .i64 (rd_T120 xs i).f3) := by
 obtain ⟨ad, c, e, _, hK, hc0⟩ := Kd.C_get h z120 i h0 h1
 have hc : ∀ j u, c[j]? = some u → w.cell? (ad.add (i.toNat * 4 + j)) = some u := hc0
 obtain rfl := k120_open hK
 exact ⟨ad, e, hc 0 _ rfl, by rw [← add_field _ _ 1 (by omega)]; exact hc 1 _ rfl, by rw [← add_field _ _ 2 (by omega)]; exact hc 2 _ rfl, by rw [← add_field _ _ 3 (by omega)]; exact hc 3 _ rfl⟩
end Go.Proofs.Ytickdcegnlldjaa.LT
