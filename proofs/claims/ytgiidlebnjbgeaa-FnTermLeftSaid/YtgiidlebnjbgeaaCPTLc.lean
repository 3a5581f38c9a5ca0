/- Part 3 of the proof of FnTermLeft: what the program's functions and the reference's compute. -/
import Derived.Lib.Strings
import Derived.Lib.Bytealg
import Derived.Laws.Strings3
import Derived.Laws.AppendOwn
import Derived.Lib.SliceRun
import Derived.Lib.LazyBuf
import Derived.Test.YtgiidlebnjbgeaaProg
import Derived.Below
import Derived.Deep.Draws
import Derived.Deep.AppendLies
import Derived.Maps.AppendAt
import Derived.OwnWalk
import Derived.Laws.BytesArg
import Derived.Laws.MakeOwn
import Derived.Laws.OwnMore
import Derived.Deep.OwnRows
import Derived.Tactics
import Derived.Lib.ConvBytes
import Derived.Laws.Slices
import Derived.WalkKit
import Derived.KernelRfl
import Derived.RowKit3
import Derived.Deep.LoopGhost
import Derived.Deep.QuietTactic
import Derived.BigQuiet
import Derived.WideLaws
import Derived.Deep.DeepCutAuto
import Derived.Deep.CutBlock
import Derived.Deep.RegionHeld3
import Derived.Laws.Rows
import Derived.Lib.AppendStr
import Derived.ArgAppend
import Derived.Laws.IdiomCopy
import Derived.OrdersHeld
import Derived.Laws.BitsLemmas
import Derived.RowKit
import Derived.Test.YtgiidlebnjbgeaaCPTLb
set_option linter.unusedSimpArgs false
set_option linter.unusedVariables false
namespace Go.Proofs.Ytgiidlebnjbgeaa.Hd
open Go.RowKit Go.PW.PrintWords Go.PW.PrintLast Go.PW.PrintMore Go.Proofs.Ytgiidlebnjbgeaa.PB
def TmRes (w : World) (t : Tm) (e : Ending) (w' : World) : Prop :=
 ∃ (sg : Int) (A : Option Addr) (n c : Nat), e = .returned (.agg #[.int .u8 sg, .slice A n c]) ∧ Below w.heap.size w w' ∧ TmF w' (fun k => w.heap.size ≤ k) t sg (.slice A n c)
set_option maxHeartbeats 400000 in
set_option maxRecDepth 100000 in
theorem l11Tidy_calls : ∀ (t : Tr) (n : Nat) (fl : Bool) (w : World) (sg : Int) (v : Value) (x : Int), x = (n : Int) → n < 4 → TmV w (toS t) sg v →
  Calls Try.prog 21 #[.agg #[.int .u8 sg, v], .int .i64 x, .bool fl] w (TmRes w (toS (tidyR t n fl))) := by
 intro t
 induction t with
 | o =>
  intro n fl w sg v x hx hn hv
  obtain ⟨hsg0, A, c, e, hl, hC⟩ := hv
  have hsg : sg = 111 := hsg0
  clear hsg0
  subst hsg e hx
  show Calls Try.prog 21 #[.agg #[.int .u8 111, .slice A 0 c], .int .i64 (n : Int), .bool fl] w _
  go_enter Try.func21, Try.ntmps21
  go_upto_region 1 with (fail)
  have hb := zab (zab (Below.refl w.heap.size w) (.cells #[.int .u8 111, .slice A 0 c] 38)) (.cells #[.int .u8 0, .slice none 0 0] 38)
  have hk3 := heap_alloc2_old w (.cells #[.int .u8 111, .slice A 0 c] 38) (.cells #[.int .u8 0, .slice none 0 0] 38)
  have hk6 := heap_alloc2_new w (.cells #[.int .u8 111, .slice A 0 c] 38) (.cells #[.int .u8 0, .slice none 0 0] 38)
  generalize (w.alloc (.cells #[.int .u8 111, .slice A 0 c] 38)).alloc (.cells #[.int .u8 0, .slice none 0 0] 38) = w2 at *
  obtain ⟨p6, hp6⟩ : ∃ p6, p6 = w.heap.size + 1 := ⟨_, rfl⟩
  rw [← hp6] at hk6 ⊢
  obtain ⟨p3, hp3⟩ : ∃ p3, p3 = w.heap.size := ⟨_, rfl⟩
  rw [← hp3] at hk3 hp6 ⊢
  have HP6 := zaa.mk (show w.heap.size ≤ p6 by omega)
  have HB2 := zaa.mk hb
  have HK6 := zaa.mk hk6
  have HK3 := zaa.mk hk3
  have x30 : w2.cell? ⟨p3, 0, none⟩ = some (.int .u8 111) := (zaf hk3 0).trans rfl
  have x31 : w2.cell? ⟨p3, 1, none⟩ = some (.slice A 0 c) := (zaf hk3 1).trans rfl
  have x60 : w2.cell? ⟨p6, 0, none⟩ = some (.int .u8 0) := (zaf hk6 0).trans rfl
  have f60 := zaj hk6 0
  have x61 : w2.cell? ⟨p6, 1, none⟩ = some (.slice none 0 0) := (zaf hk6 1).trans rfl
  have f61 := zaj hk6 1
  clear hb hk3 hk6 hp6 hp3
  clear hC hl
  go_wp2
  have x0 := zbe HK6.out (.int .u8 111) (.slice A 0 c)
  have HBs := zaa.mk (show Below w.heap.size w ((w2.setCell ⟨p6, 0, none⟩ (.int .u8 111)).setCell ⟨p6, 1, none⟩ (.slice A 0 c)) from zah (zah HB2.out (by have := HP6.out; omega)) (by have := HP6.out; omega))
  generalize (w2.setCell ⟨p6, 0, none⟩ (.int .u8 111)).setCell ⟨p6, 1, none⟩ (.slice A 0 c) = wz at *
  (try simp only [Exit.inBlock, Exit.then])
  refine bodyPost_ret (results_cell_row rfl _ _ p6 38 _ (0, 0) _ rfl x0 Try.underlying38 rfl (by kernel_rfl)) rfl ?_
  exact ⟨111, _, _, _, rfl, HBs.out, TmF.leaf _ _ _ _ _⟩
 | un b t ih =>
  intro n fl w sg v x hx hn hv
  obtain ⟨hsg0, A, c, e, hl, hC⟩ := hv
  have HIh := zaa.mk ih
  clear ih
  subst e hx
  replace hC : kT.C w A 1 [toS t] := hC
  obtain ⟨adq, Aq, cq, e, yq0, yq1, lq, hCq⟩ := at_T38 hC 0 (by omega) (by omega)
  subst e
  have er : zbb [toS t] 0 = toS t := rfl
  rw [er] at yq0 yq1 lq hCq
  have ea : adq.add (Int.toNat 0 * 2) = adq := Addr.add_zero' adq
  rw [ea] at yq0 yq1
  have n0 : (0 : Int) ≤ (n : Int) := by omega
  cases b with
  | true =>
   have hsg : sg = 62 := hsg0
   clear hsg0
   subst hsg
   show Calls Try.prog 21 #[.agg #[.int .u8 62, .slice (some adq) 1 c], .int .i64 (n : Int), .bool fl] w _
   cases fl with
   | true =>
    go_enter Try.func21, Try.ntmps21
    go_upto_region 1 with (fail)
    have hb := zab (zab (Below.refl w.heap.size w) (.cells #[.int .u8 62, .slice (some adq) 1 c] 38)) (.cells #[.int .u8 0, .slice none 0 0] 38)
    have hk3 := heap_alloc2_old w (.cells #[.int .u8 62, .slice (some adq) 1 c] 38) (.cells #[.int .u8 0, .slice none 0 0] 38)
    have hk6 := heap_alloc2_new w (.cells #[.int .u8 62, .slice (some adq) 1 c] 38) (.cells #[.int .u8 0, .slice none 0 0] 38)
    generalize (w.alloc (.cells #[.int .u8 62, .slice (some adq) 1 c] 38)).alloc (.cells #[.int .u8 0, .slice none 0 0] 38) = w2 at *
    obtain ⟨p6, hp6⟩ : ∃ p6, p6 = w.heap.size + 1 := ⟨_, rfl⟩
    rw [← hp6] at hk6 ⊢
    obtain ⟨p3, hp3⟩ : ∃ p3, p3 = w.heap.size := ⟨_, rfl⟩
    rw [← hp3] at hk3 hp6 ⊢
    have HP6 := zaa.mk (show w.heap.size ≤ p6 by omega)
    have HB2 := zaa.mk hb
    have HK6 := zaa.mk hk6
    have HK3 := zaa.mk hk3
    have x30 : w2.cell? ⟨p3, 0, none⟩ = some (.int .u8 62) := (zaf hk3 0).trans rfl
    have x31 : w2.cell? ⟨p3, 1, none⟩ = some (.slice (some adq) 1 c) := (zaf hk3 1).trans rfl
    have x60 : w2.cell? ⟨p6, 0, none⟩ = some (.int .u8 0) := (zaf hk6 0).trans rfl
    have f60 := zaj hk6 0
    have x61 : w2.cell? ⟨p6, 1, none⟩ = some (.slice none 0 0) := (zaf hk6 1).trans rfl
    have f61 := zaj hk6 1
    clear hb hk3 hk6 hp6 hp3
    have HQ := zaa.mk (show TmV w2 (toS t) (toS t).f0 (.slice Aq (toS t).f1.length cq) from TmV.below ⟨rfl, Aq, cq, rfl, lq, hCq⟩ HB2.out)
    replace yq0 := zag HB2.out yq0
    replace yq1 := zag HB2.out yq1
    clear hC hl hCq lq er ea
    generalize (toS t).f0 = sq at *
    generalize (toS t).f1.length = nq at *
    go_wp2_with (first
     | (go_at_call 21; refine (HIh.out ((n + 3) % 4) true _ _ _ _ (by first | rfl | (rw [Int.tmod_eq_emod_of_nonneg (by omega)]; omega)) (by omega) HQ.out).mono ?_; rintro e w3 ⟨sr, Ar, nr, cr, rfl, hb, hT⟩; have hk6 := (hb.block p6 (zat HK6.out)).trans HK6.out; have HK63 := zaa.mk hk6; have HB3 := zaa.mk (zae HB2.out hb); have HT := zaa.mk hT; clear x60 x61 f60 f61 hb hT; have x60 : w3.cell? ⟨p6, 0, none⟩ = some (.int .u8 0) := (zaf hk6 0).trans rfl; have x61 : w3.cell? ⟨p6, 1, none⟩ = some (.slice none 0 0) := (zaf hk6 1).trans rfl; have f60 := zaj hk6 0; have f61 := zaj hk6 1; clear hk6))
    have x0 := zbe HK63.out (.int .u8 sr) (.slice Ar nr cr)
    have HBs := zaa.mk (show Below w.heap.size w ((w3.setCell ⟨p6, 0, none⟩ (.int .u8 sr)).setCell ⟨p6, 1, none⟩ (.slice Ar nr cr)) from zah (zah HB3.out (by have := HP6.out; omega)) (by have := HP6.out; omega))
    have HN := zaa.mk (show p6 < w2.heap.size ∧ w.heap.size ≤ w2.heap.size from ⟨zat HK6.out, HB2.out.size⟩)
    have HTt := zaa.mk ((HT.out.far (p := ⟨p6, 0, none⟩) (fun k hk => by have := HN.out; show k ≠ p6; omega) (.int .u8 sr)).far (p := ⟨p6, 1, none⟩) (fun k hk => by have := HN.out; show k ≠ p6; omega) (.slice Ar nr cr))
    generalize (w3.setCell ⟨p6, 0, none⟩ (.int .u8 sr)).setCell ⟨p6, 1, none⟩ (.slice Ar nr cr) = wz at *
    (try simp only [Exit.inBlock, Exit.then])
    refine bodyPost_ret (results_cell_row rfl _ _ p6 38 _ (0, 0) _ rfl x0 Try.underlying38 rfl (by kernel_rfl)) rfl ?_
    exact ⟨sr, _, _, _, rfl, HBs.out, HTt.out.mono (fun k hk => by have := HN.out; show w.heap.size ≤ k; omega)⟩
   | false =>
    go_enter Try.func21, Try.ntmps21
    go_upto_region 1 with (fail)
    have hb := zab (zab (Below.refl w.heap.size w) (.cells #[.int .u8 62, .slice (some adq) 1 c] 38)) (.cells #[.int .u8 0, .slice none 0 0] 38)
    have hk3 := heap_alloc2_old w (.cells #[.int .u8 62, .slice (some adq) 1 c] 38) (.cells #[.int .u8 0, .slice none 0 0] 38)
    have hk6 := heap_alloc2_new w (.cells #[.int .u8 62, .slice (some adq) 1 c] 38) (.cells #[.int .u8 0, .slice none 0 0] 38)
    generalize (w.alloc (.cells #[.int .u8 62, .slice (some adq) 1 c] 38)).alloc (.cells #[.int .u8 0, .slice none 0 0] 38) = w2 at *
    obtain ⟨p6, hp6⟩ : ∃ p6, p6 = w.heap.size + 1 := ⟨_, rfl⟩
    rw [← hp6] at hk6 ⊢
    obtain ⟨p3, hp3⟩ : ∃ p3, p3 = w.heap.size := ⟨_, rfl⟩
    rw [← hp3] at hk3 hp6 ⊢
    have HP6 := zaa.mk (show w.heap.size ≤ p6 by omega)
    have HB2 := zaa.mk hb
    have HK6 := zaa.mk hk6
    have HK3 := zaa.mk hk3
    have x30 : w2.cell? ⟨p3, 0, none⟩ = some (.int .u8 62) := (zaf hk3 0).trans rfl
    have x31 : w2.cell? ⟨p3, 1, none⟩ = some (.slice (some adq) 1 c) := (zaf hk3 1).trans rfl
    have x60 : w2.cell? ⟨p6, 0, none⟩ = some (.int .u8 0) := (zaf hk6 0).trans rfl
    have f60 := zaj hk6 0
    have x61 : w2.cell? ⟨p6, 1, none⟩ = some (.slice none 0 0) := (zaf hk6 1).trans rfl
    have f61 := zaj hk6 1
    clear hb hk3 hk6 hp6 hp3
    have HQ := zaa.mk (show TmV w2 (toS t) (toS t).f0 (.slice Aq (toS t).f1.length cq) from TmV.below ⟨rfl, Aq, cq, rfl, lq, hCq⟩ HB2.out)
    replace yq0 := zag HB2.out yq0
    replace yq1 := zag HB2.out yq1
    clear hC hl hCq lq er ea
    generalize (toS t).f0 = sq at *
    generalize (toS t).f1.length = nq at *
    go_wp2_with (first
     | (go_at_call 21; refine (HIh.out ((n + 1) % 4) false _ _ _ _ (by first | rfl | (rw [Int.tmod_eq_emod_of_nonneg (by omega)]; omega)) (by omega) HQ.out).mono ?_; rintro e w3 ⟨sr, Ar, nr, cr, rfl, hb, hT⟩; have hk6 := (hb.block p6 (zat HK6.out)).trans HK6.out; have HK63 := zaa.mk hk6; have HB3 := zaa.mk (zae HB2.out hb); have HT := zaa.mk hT; clear x60 x61 f60 f61 hb hT; have x60 : w3.cell? ⟨p6, 0, none⟩ = some (.int .u8 0) := (zaf hk6 0).trans rfl; have x61 : w3.cell? ⟨p6, 1, none⟩ = some (.slice none 0 0) := (zaf hk6 1).trans rfl; have f60 := zaj hk6 0; have f61 := zaj hk6 1; clear hk6))
    have x0 := zbe HK63.out (.int .u8 sr) (.slice Ar nr cr)
    have HBs := zaa.mk (show Below w.heap.size w ((w3.setCell ⟨p6, 0, none⟩ (.int .u8 sr)).setCell ⟨p6, 1, none⟩ (.slice Ar nr cr)) from zah (zah HB3.out (by have := HP6.out; omega)) (by have := HP6.out; omega))
    have HN := zaa.mk (show p6 < w2.heap.size ∧ w.heap.size ≤ w2.heap.size from ⟨zat HK6.out, HB2.out.size⟩)
    have HTt := zaa.mk ((HT.out.far (p := ⟨p6, 0, none⟩) (fun k hk => by have := HN.out; show k ≠ p6; omega) (.int .u8 sr)).far (p := ⟨p6, 1, none⟩) (fun k hk => by have := HN.out; show k ≠ p6; omega) (.slice Ar nr cr))
    generalize (w3.setCell ⟨p6, 0, none⟩ (.int .u8 sr)).setCell ⟨p6, 1, none⟩ (.slice Ar nr cr) = wz at *
    (try simp only [Exit.inBlock, Exit.then])
    refine bodyPost_ret (results_cell_row rfl _ _ p6 38 _ (0, 0) _ rfl x0 Try.underlying38 rfl (by kernel_rfl)) rfl ?_
    exact ⟨sr, _, _, _, rfl, HBs.out, HTt.out.mono (fun k hk => by have := HN.out; show w.heap.size ≤ k; omega)⟩
  | false =>
   have hsg : sg = 94 := hsg0
   clear hsg0
   subst hsg
   show Calls Try.prog 21 #[.agg #[.int .u8 94, .slice (some adq) 1 c], .int .i64 (n : Int), .bool fl] w _
   cases fl with
   | true =>
    go_enter Try.func21, Try.ntmps21
    go_upto_region 1 with (fail)
    have hb := zab (zab (Below.refl w.heap.size w) (.cells #[.int .u8 94, .slice (some adq) 1 c] 38)) (.cells #[.int .u8 0, .slice none 0 0] 38)
    have hk3 := heap_alloc2_old w (.cells #[.int .u8 94, .slice (some adq) 1 c] 38) (.cells #[.int .u8 0, .slice none 0 0] 38)
    have hk6 := heap_alloc2_new w (.cells #[.int .u8 94, .slice (some adq) 1 c] 38) (.cells #[.int .u8 0, .slice none 0 0] 38)
    generalize (w.alloc (.cells #[.int .u8 94, .slice (some adq) 1 c] 38)).alloc (.cells #[.int .u8 0, .slice none 0 0] 38) = w2 at *
    obtain ⟨p6, hp6⟩ : ∃ p6, p6 = w.heap.size + 1 := ⟨_, rfl⟩
    rw [← hp6] at hk6 ⊢
    obtain ⟨p3, hp3⟩ : ∃ p3, p3 = w.heap.size := ⟨_, rfl⟩
    rw [← hp3] at hk3 hp6 ⊢
    have HP6 := zaa.mk (show w.heap.size ≤ p6 by omega)
    have HB2 := zaa.mk hb
    have HK6 := zaa.mk hk6
    have HK3 := zaa.mk hk3
    have x30 : w2.cell? ⟨p3, 0, none⟩ = some (.int .u8 94) := (zaf hk3 0).trans rfl
    have x31 : w2.cell? ⟨p3, 1, none⟩ = some (.slice (some adq) 1 c) := (zaf hk3 1).trans rfl
    have x60 : w2.cell? ⟨p6, 0, none⟩ = some (.int .u8 0) := (zaf hk6 0).trans rfl
    have f60 := zaj hk6 0
    have x61 : w2.cell? ⟨p6, 1, none⟩ = some (.slice none 0 0) := (zaf hk6 1).trans rfl
    have f61 := zaj hk6 1
    clear hb hk3 hk6 hp6 hp3
    have HQ := zaa.mk (show TmV w2 (toS t) (toS t).f0 (.slice Aq (toS t).f1.length cq) from TmV.below ⟨rfl, Aq, cq, rfl, lq, hCq⟩ HB2.out)
    replace yq0 := zag HB2.out yq0
    replace yq1 := zag HB2.out yq1
    clear hC hl hCq lq er ea
    generalize (toS t).f0 = sq at *
    generalize (toS t).f1.length = nq at *
    go_wp2_with (first
     | (go_at_call 21; refine (HIh.out n false _ _ _ _ (by first | rfl | (rw [Int.tmod_eq_emod_of_nonneg (by omega)]; omega)) (by omega) HQ.out).mono ?_; rintro e w3 ⟨sr, Ar, nr, cr, rfl, hb, hT⟩; have hk6 := (hb.block p6 (zat HK6.out)).trans HK6.out; have HK63 := zaa.mk hk6; have HB3 := zaa.mk (zae HB2.out hb); have HT := zaa.mk hT; clear x60 x61 f60 f61 hb hT; have x60 : w3.cell? ⟨p6, 0, none⟩ = some (.int .u8 0) := (zaf hk6 0).trans rfl; have x61 : w3.cell? ⟨p6, 1, none⟩ = some (.slice none 0 0) := (zaf hk6 1).trans rfl; have f60 := zaj hk6 0; have f61 := zaj hk6 1; clear hk6))
    have x0 := zbe HK63.out (.int .u8 sr) (.slice Ar nr cr)
    have HBs := zaa.mk (show Below w.heap.size w ((w3.setCell ⟨p6, 0, none⟩ (.int .u8 sr)).setCell ⟨p6, 1, none⟩ (.slice Ar nr cr)) from zah (zah HB3.out (by have := HP6.out; omega)) (by have := HP6.out; omega))
    have HN := zaa.mk (show p6 < w2.heap.size ∧ w.heap.size ≤ w2.heap.size from ⟨zat HK6.out, HB2.out.size⟩)
    have HTt := zaa.mk ((HT.out.far (p := ⟨p6, 0, none⟩) (fun k hk => by have := HN.out; show k ≠ p6; omega) (.int .u8 sr)).far (p := ⟨p6, 1, none⟩) (fun k hk => by have := HN.out; show k ≠ p6; omega) (.slice Ar nr cr))
    generalize (w3.setCell ⟨p6, 0, none⟩ (.int .u8 sr)).setCell ⟨p6, 1, none⟩ (.slice Ar nr cr) = wz at *
    (try simp only [Exit.inBlock, Exit.then])
    refine bodyPost_ret (results_cell_row rfl _ _ p6 38 _ (0, 0) _ rfl x0 Try.underlying38 rfl (by kernel_rfl)) rfl ?_
    exact ⟨sr, _, _, _, rfl, HBs.out, HTt.out.mono (fun k hk => by have := HN.out; show w.heap.size ≤ k; omega)⟩
   | false =>
    go_enter Try.func21, Try.ntmps21
    go_upto_region 1 with (fail)
    have hb := zab (zab (Below.refl w.heap.size w) (.cells #[.int .u8 94, .slice (some adq) 1 c] 38)) (.cells #[.int .u8 0, .slice none 0 0] 38)
    have hk3 := heap_alloc2_old w (.cells #[.int .u8 94, .slice (some adq) 1 c] 38) (.cells #[.int .u8 0, .slice none 0 0] 38)
    have hk6 := heap_alloc2_new w (.cells #[.int .u8 94, .slice (some adq) 1 c] 38) (.cells #[.int .u8 0, .slice none 0 0] 38)
    generalize (w.alloc (.cells #[.int .u8 94, .slice (some adq) 1 c] 38)).alloc (.cells #[.int .u8 0, .slice none 0 0] 38) = w2 at *
    obtain ⟨p6, hp6⟩ : ∃ p6, p6 = w.heap.size + 1 := ⟨_, rfl⟩
    rw [← hp6] at hk6 ⊢
    obtain ⟨p3, hp3⟩ : ∃ p3, p3 = w.heap.size := ⟨_, rfl⟩
    rw [← hp3] at hk3 hp6 ⊢
    have HP6 := zaa.mk (show w.heap.size ≤ p6 by omega)
    have HB2 := zaa.mk hb
    have HK6 := zaa.mk hk6
    have HK3 := zaa.mk hk3
    have x30 : w2.cell? ⟨p3, 0, none⟩ = some (.int .u8 94) := (zaf hk3 0).trans rfl
    have x31 : w2.cell? ⟨p3, 1, none⟩ = some (.slice (some adq) 1 c) := (zaf hk3 1).trans rfl
    have x60 : w2.cell? ⟨p6, 0, none⟩ = some (.int .u8 0) := (zaf hk6 0).trans rfl
    have f60 := zaj hk6 0
    have x61 : w2.cell? ⟨p6, 1, none⟩ = some (.slice none 0 0) := (zaf hk6 1).trans rfl
    have f61 := zaj hk6 1
    clear hb hk3 hk6 hp6 hp3
    have HQ := zaa.mk (show TmV w2 (toS t) (toS t).f0 (.slice Aq (toS t).f1.length cq) from TmV.below ⟨rfl, Aq, cq, rfl, lq, hCq⟩ HB2.out)
    replace yq0 := zag HB2.out yq0
    replace yq1 := zag HB2.out yq1
    clear hC hl hCq lq er ea
    generalize (toS t).f0 = sq at *
    generalize (toS t).f1.length = nq at *
    go_wp2_with (first
     | (go_at_call 21; refine (HIh.out n true _ _ _ _ (by first | rfl | (rw [Int.tmod_eq_emod_of_nonneg (by omega)]; omega)) (by omega) HQ.out).mono ?_; rintro e w3 ⟨sr, Ar, nr, cr, rfl, hb, hT⟩; have hk6 := (hb.block p6 (zat HK6.out)).trans HK6.out; have HK63 := zaa.mk hk6; have HB3 := zaa.mk (zae HB2.out hb); have HT := zaa.mk hT; clear x60 x61 f60 f61 hb hT; have x60 : w3.cell? ⟨p6, 0, none⟩ = some (.int .u8 0) := (zaf hk6 0).trans rfl; have x61 : w3.cell? ⟨p6, 1, none⟩ = some (.slice none 0 0) := (zaf hk6 1).trans rfl; have f60 := zaj hk6 0; have f61 := zaj hk6 1; clear hk6))
    have x0 := zbe HK63.out (.int .u8 sr) (.slice Ar nr cr)
    have HBs := zaa.mk (show Below w.heap.size w ((w3.setCell ⟨p6, 0, none⟩ (.int .u8 sr)).setCell ⟨p6, 1, none⟩ (.slice Ar nr cr)) from zah (zah HB3.out (by have := HP6.out; omega)) (by have := HP6.out; omega))
    have HN := zaa.mk (show p6 < w2.heap.size ∧ w.heap.size ≤ w2.heap.size from ⟨zat HK6.out, HB2.out.size⟩)
    have HTt := zaa.mk ((HT.out.far (p := ⟨p6, 0, none⟩) (fun k hk => by have := HN.out; show k ≠ p6; omega) (.int .u8 sr)).far (p := ⟨p6, 1, none⟩) (fun k hk => by have := HN.out; show k ≠ p6; omega) (.slice Ar nr cr))
    generalize (w3.setCell ⟨p6, 0, none⟩ (.int .u8 sr)).setCell ⟨p6, 1, none⟩ (.slice Ar nr cr) = wz at *
    (try simp only [Exit.inBlock, Exit.then])
    refine bodyPost_ret (results_cell_row rfl _ _ p6 38 _ (0, 0) _ rfl x0 Try.underlying38 rfl (by kernel_rfl)) rfl ?_
    exact ⟨sr, _, _, _, rfl, HBs.out, HTt.out.mono (fun k hk => by have := HN.out; show w.heap.size ≤ k; omega)⟩
 | bin b t1 t2 ih1 ih2 =>
  intro n fl w sg v x hx hn hv
  obtain ⟨hsg0, A, c, e, hl, hC⟩ := hv
  have HIh1 := zaa.mk ih1
  have HIh2 := zaa.mk ih2
  clear ih1 ih2
  subst e hx
  replace hC : kT.C w A 2 [toS t1, toS t2] := hC
  obtain ⟨adq, Aq, cq, e, yq0, yq1, lq, hCq⟩ := at_T38 hC 0 (by omega) (by omega)
  obtain ⟨adr, Ar, cr, e2, yr0, yr1, lr, hCr⟩ := at_T38 hC 1 (by omega) (by omega)
  subst e
  injection e2 with e2
  subst e2
  have er : zbb [toS t1, toS t2] 0 = toS t1 := rfl
  have er2 : zbb [toS t1, toS t2] 1 = toS t2 := rfl
  rw [er] at yq0 yq1 lq hCq
  rw [er2] at yr0 yr1 lr hCr
  have ea : adq.add (Int.toNat 0 * 2) = adq := Addr.add_zero' adq
  rw [ea] at yq0 yq1
  replace yr0 : w.cell? (adq.add 2) = some (.int .u8 (toS t2).f0) := yr0
  have e3 : (⟨(adq.add 2).block, (adq.add 2).off + 1, none⟩ : Addr) = ⟨adq.block, adq.off + 2 + 1, none⟩ := by simp [Addr.add]
  replace yr1 : w.cell? ⟨(adq.add 2).block, (adq.add 2).off + 1, none⟩ = some (.slice Ar (toS t2).f1.length cr) := yr1
  rw [e3] at yr1
  have e4 : adq.add 2 = ⟨adq.block, adq.off + 2, none⟩ := by simp [Addr.add]
  rw [e4] at yr0
  clear e3 e4
  have hsg : sg = binC b := hsg0
  clear hsg0
  subst hsg
  have n0 : (0 : Int) ≤ (n : Int) := by omega
  show Calls Try.prog 21 #[.agg #[.int .u8 (binC b), .slice (some adq) 2 c], .int .i64 (n : Int), .bool fl] w _
  go_enter Try.func21, Try.ntmps21
  go_upto_region 1 with (fail)
  have hb := zab (zab (Below.refl w.heap.size w) (.cells #[.int .u8 (binC b), .slice (some adq) 2 c] 38)) (.cells #[.int .u8 0, .slice none 0 0] 38)
  have hk3 := heap_alloc2_old w (.cells #[.int .u8 (binC b), .slice (some adq) 2 c] 38) (.cells #[.int .u8 0, .slice none 0 0] 38)
  have hk6 := heap_alloc2_new w (.cells #[.int .u8 (binC b), .slice (some adq) 2 c] 38) (.cells #[.int .u8 0, .slice none 0 0] 38)
  generalize (w.alloc (.cells #[.int .u8 (binC b), .slice (some adq) 2 c] 38)).alloc (.cells #[.int .u8 0, .slice none 0 0] 38) = w2 at *
  obtain ⟨p6, hp6⟩ : ∃ p6, p6 = w.heap.size + 1 := ⟨_, rfl⟩
  rw [← hp6] at hk6 ⊢
  obtain ⟨p3, hp3⟩ : ∃ p3, p3 = w.heap.size := ⟨_, rfl⟩
  rw [← hp3] at hk3 hp6 ⊢
  have HP6 := zaa.mk (show w.heap.size ≤ p6 by omega)
  have HB2 := zaa.mk hb
  have HK6 := zaa.mk hk6
  have HK3 := zaa.mk hk3
  have x30 : w2.cell? ⟨p3, 0, none⟩ = some (.int .u8 (binC b)) := (zaf hk3 0).trans rfl
  have x31 : w2.cell? ⟨p3, 1, none⟩ = some (.slice (some adq) 2 c) := (zaf hk3 1).trans rfl
  have x60 : w2.cell? ⟨p6, 0, none⟩ = some (.int .u8 0) := (zaf hk6 0).trans rfl
  have f60 := zaj hk6 0
  have x61 : w2.cell? ⟨p6, 1, none⟩ = some (.slice none 0 0) := (zaf hk6 1).trans rfl
  have f61 := zaj hk6 1
  clear hb hk3 hk6 hp6 hp3
  have HQ1 := zaa.mk (show TmV w2 (toS t1) (toS t1).f0 (.slice Aq (toS t1).f1.length cq) from TmV.below ⟨rfl, Aq, cq, rfl, lq, hCq⟩ HB2.out)
  have HQ2 := zaa.mk (show TmV w2 (toS t2) (toS t2).f0 (.slice Ar (toS t2).f1.length cr) from TmV.below ⟨rfl, Ar, cr, rfl, lr, hCr⟩ HB2.out)
  replace yq0 := zag HB2.out yq0
  replace yq1 := zag HB2.out yq1
  replace yr0 := zag HB2.out yr0
  replace yr1 := zag HB2.out yr1
  clear hC hl hCq lq er ea hCr lr er2
  have b1 : (binC b == 62) = false := by cases b <;> rfl
  have b2 : (binC b == 94) = false := by cases b <;> rfl
  have b3 : (binC b == 111) = false := by cases b <;> rfl
  have b4 : (binC b == 124) = b := by cases b <;> rfl
  generalize (toS t1).f0 = sq at *
  generalize (toS t1).f1.length = nq at *
  generalize (toS t2).f0 = sr at *
  generalize (toS t2).f1.length = nr at *
  generalize hcb : binC b = cb at *
  have HCb := zaa.mk hcb
  clear hcb
  go_upto_region 12 with (first
   | (go_at_call 21; refine (HIh1.out n fl _ _ _ _ rfl hn HQ1.out).mono ?_; rintro e w3 ⟨sa, Aa, na, ca, rfl, hb, hT⟩; have HB3 := zaa.mk hb; have HTa := zaa.mk hT; clear hb hT))
  have hb := zab (Below.refl w3.heap.size w3) (.cells #[.int .u8 sa, .slice Aa na ca] 38)
  have hk := heap_alloc_new w3 (.cells #[.int .u8 sa, .slice Aa na ca] 38)
  generalize w3.alloc (.cells #[.int .u8 sa, .slice Aa na ca] 38) = w4 at *
  obtain ⟨p8, hp⟩ : ∃ p8, p8 = w3.heap.size := ⟨_, rfl⟩
  rw [← hp] at hk ⊢
  have Hp8 := zaa.mk hp
  have HAw4 := zaa.mk hb
  have HKp8 := zaa.mk hk
  clear hb hk hp
  have hb24 := zae HB3.out HAw4.out
  have HB24 := zaa.mk hb24
  have hk6 := (hb24.block p6 (zat HK6.out)).trans HK6.out
  have hk3 := (hb24.block p3 (zat HK3.out)).trans HK3.out
  have HK64 := zaa.mk hk6
  have HK34 := zaa.mk hk3
  clear x30 x31 x60 x61 f60 f61
  replace yr0 := zag hb24 yr0
  replace yr1 := zag hb24 yr1
  clear yq0 yq1 hb24
  have x30 : w4.cell? ⟨p3, 0, none⟩ = some (.int .u8 cb) := (zaf hk3 0).trans rfl
  have x31 : w4.cell? ⟨p3, 1, none⟩ = some (.slice (some adq) 2 c) := (zaf hk3 1).trans rfl
  have x60 : w4.cell? ⟨p6, 0, none⟩ = some (.int .u8 0) := (zaf hk6 0).trans rfl
  have f60 := zaj hk6 0
  have x61 : w4.cell? ⟨p6, 1, none⟩ = some (.slice none 0 0) := (zaf hk6 1).trans rfl
  have f61 := zaj hk6 1
  clear hk6 hk3
  go_upto_region 13 with (first
   | (go_at_call 21; refine (HIh2.out n fl _ _ _ _ rfl hn (HQ2.out.below HB24.out)).mono ?_; rintro e w5 ⟨sb, Ab, nb, cb2, rfl, hb, hT⟩; have HB5 := zaa.mk hb; have HTb := zaa.mk hT; clear hb hT))
  have hb := zab (Below.refl w5.heap.size w5) (.cells #[.int .u8 sb, .slice Ab nb cb2] 38)
  have hk := heap_alloc_new w5 (.cells #[.int .u8 sb, .slice Ab nb cb2] 38)
  generalize w5.alloc (.cells #[.int .u8 sb, .slice Ab nb cb2] 38) = w6 at *
  obtain ⟨p9, hp⟩ : ∃ p9, p9 = w5.heap.size := ⟨_, rfl⟩
  rw [← hp] at hk ⊢
  have Hp9 := zaa.mk hp
  have HAw6 := zaa.mk hb
  have HKp9 := zaa.mk hk
  clear hb hk hp
  have hb46 := zae HB5.out HAw6.out
  have HB46 := zaa.mk hb46
  have hk6 := (hb46.block p6 (zat HK64.out)).trans HK64.out
  have hk3 := (hb46.block p3 (zat HK34.out)).trans HK34.out
  have hk8 := (hb46.block p8 (zat HKp8.out)).trans HKp8.out
  have HK66 := zaa.mk hk6
  have HK86 := zaa.mk hk8
  have HB6 := zaa.mk (zae (zae HB2.out HB24.out) HB46.out)
  clear x30 x31 x60 x61 f60 f61 yr0 yr1 hb46
  clear hk6 hk3 hk8
  have HDef := zaa.mk (show tidyR (.bin b t1 t2) n fl = if (rotN n (b, fl && b)).2 then .bin (rotN n (b, fl && b)).1 (tidyR t2 n fl) (tidyR t1 n fl) else .bin (rotN n (b, fl && b)).1 (tidyR t1 n fl) (tidyR t2 n fl) from rfl)
  cases fl with
  | true =>
   go_upto_region 15 with (fail)
   go_loopg [7, 10, 11] n (fun kq v7 v10 v11 w' => ∃ (i : Nat) (s' sw : Bool), v7 = .int .u8 (binC s') ∧ v10 = .bool sw ∧ v11 = .int .i64 (i : Int) ∧ zaa (i + kq = n) ∧ zaa (rotN (n - i) (s', sw) = rotN n (b, true && b)) ∧ zaa (Below w6.heap.size w6 w'))
   case atStart => exact ⟨0, b, true && b, by rw [HCb.out], rfl, rfl, ⟨by omega⟩, ⟨rfl⟩, ⟨Below.refl _ _⟩⟩
   case round =>
    obtain ⟨i, s', sw, rfl, rfl, rfl, HI, HRt, HBl⟩ := hrel
    by_cases hin : i < n
    ·have hlt : (i : Int) < (n : Int) := by omega
     cases s' with
     | true =>
      have d : (binC true == 124) = true := rfl
      go_wp2
      go_roundg (n - (i + 1))
      case measure => have := HI.out; omega
      case rel => exact ⟨i + 1, false, sw, rfl, rfl, by first | rfl | (congr 1; omega), ⟨by have := HI.out; omega⟩, ⟨by have h := HRt.out; rw [show n - i = (n - (i + 1)) + 1 by omega] at h; exact h⟩, ⟨HBl.out⟩⟩
     | false =>
      have d : (binC false == 124) = false := rfl
      go_wp2
      go_roundg (n - (i + 1))
      case measure => have := HI.out; omega
      case rel => exact ⟨i + 1, true, !sw, rfl, rfl, by first | rfl | (congr 1; omega), ⟨by have := HI.out; omega⟩, ⟨by have h := HRt.out; rw [show n - i = (n - (i + 1)) + 1 by omega] at h; exact h⟩, ⟨HBl.out⟩⟩
    ·have hge : ¬ (i : Int) < (n : Int) := by omega
     have HRt' := zaa.mk (show (s', sw) = rotN n (b, true && b) by have h := HRt.out; rw [show n - i = 0 by omega] at h; exact h)
     have hk6 := (HBl.out.block p6 (zat HK66.out)).trans HK66.out
     have hk8 := (HBl.out.block p8 (zat HK86.out)).trans HK86.out
     have hk9 := (HBl.out.block p9 (zat HKp9.out)).trans HKp9.out
     have HK67 := zaa.mk hk6
     have x60 : wr.cell? ⟨p6, 0, none⟩ = some (.int .u8 0) := (zaf hk6 0).trans rfl
     have f60 := zaj hk6 0
     have x61 : wr.cell? ⟨p6, 1, none⟩ = some (.slice none 0 0) := (zaf hk6 1).trans rfl
     have f61 := zaj hk6 1
     have x80 : wr.cell? ⟨p8, 0, none⟩ = some (.int .u8 sa) := (zaf hk8 0).trans rfl
     have x81 : wr.cell? ⟨p8, 1, none⟩ = some (.slice Aa na ca) := (zaf hk8 1).trans rfl
     have x90 : wr.cell? ⟨p9, 0, none⟩ = some (.int .u8 sb) := (zaf hk9 0).trans rfl
     have x91 : wr.cell? ⟨p9, 1, none⟩ = some (.slice Ab nb cb2) := (zaf hk9 1).trans rfl
     clear hk6 hk8 hk9
     cases sw with
     | true =>
      go_wp2_with (first
       | ((with_reducible refine zbi (N := 82) rfl ?_); refine zbw ?hg (N := 82) ?hd (n := 2) (cs := #[.int .u8 sb, .slice Ab nb cb2, .int .u8 sa, .slice Aa na ca]) (t := 38) ?hr ?_; (case hd => rfl); (case hg => rfl); (case hr => first | (go_simp; done) | (go_simp; rfl)); intro pb hpb w8 hk hb; have Hpb := zaa.mk hpb; have HAw8 := zaa.mk hb; have HKpb := zaa.mk hk; have hk6 := (hb.block p6 (zat HK67.out)).trans HK67.out; have HK68 := zaa.mk hk6; clear x60 x61 f60 f61 hb hk hpb; have x60 : w8.cell? ⟨p6, 0, none⟩ = some (.int .u8 0) := (zaf hk6 0).trans rfl; have x61 : w8.cell? ⟨p6, 1, none⟩ = some (.slice none 0 0) := (zaf hk6 1).trans rfl; have f60 := zaj hk6 0; have f61 := zaj hk6 1; clear hk6))
      have x0 := zbe HK68.out (.int .u8 (binC s')) (.slice (some ⟨pb, 0, none⟩) 2 2)
      have HBs := zaa.mk (show Below w.heap.size w ((w8.setCell ⟨p6, 0, none⟩ (.int .u8 (binC s'))).setCell ⟨p6, 1, none⟩ (.slice (some ⟨pb, 0, none⟩) 2 2)) from zah (zah (zae (zae HB6.out HBl.out) HAw8.out) (by have := HP6.out; omega)) (by have := HP6.out; omega))
      have HN := zaa.mk (show p6 < w2.heap.size ∧ w2.heap.size ≤ w3.heap.size ∧ w3.heap.size ≤ w4.heap.size ∧ w4.heap.size ≤ w5.heap.size ∧ w5.heap.size ≤ w6.heap.size ∧ w6.heap.size ≤ wr.heap.size ∧ pb = wr.heap.size ∧ w.heap.size ≤ p6 ∧ w.heap.size ≤ w2.heap.size from ⟨zat HK6.out, HB3.out.size, HAw4.out.size, HB5.out.size, HAw6.out.size, HBl.out.size, Hpb.out, HP6.out, HB2.out.size⟩)
      have HKb := zaa.mk (show ((w8.setCell ⟨p6, 0, none⟩ (.int .u8 (binC s'))).setCell ⟨p6, 1, none⟩ (.slice (some ⟨pb, 0, none⟩) 2 2)).heap[pb]? = some (.cells #[.int .u8 sb, .slice Ab nb cb2, .int .u8 sa, .slice Aa na ca] 38 (0, 0)) from (Below.heap_setCell _ ⟨p6, 1, none⟩ _ pb (by have := HN.out; show pb ≠ p6; omega)).trans ((Below.heap_setCell w8 ⟨p6, 0, none⟩ _ pb (by have := HN.out; show pb ≠ p6; omega)).trans HKpb.out))
      have HTa2 := zaa.mk (show TmF ((w8.setCell ⟨p6, 0, none⟩ (.int .u8 (binC s'))).setCell ⟨p6, 1, none⟩ (.slice (some ⟨pb, 0, none⟩) 2 2)) (fun k => w2.heap.size ≤ k) (toS (tidyR t1 n true)) sa (.slice Aa na ca) from (((((HTa.out.below HAw4.out).below HB46.out).below HBl.out).below HAw8.out).far (p := ⟨p6, 0, none⟩) (fun k hk => by have := HN.out; show k ≠ p6; omega) _).far (p := ⟨p6, 1, none⟩) (fun k hk => by have := HN.out; show k ≠ p6; omega) _)
      have HTb2 := zaa.mk (show TmF ((w8.setCell ⟨p6, 0, none⟩ (.int .u8 (binC s'))).setCell ⟨p6, 1, none⟩ (.slice (some ⟨pb, 0, none⟩) 2 2)) (fun k => w4.heap.size ≤ k) (toS (tidyR t2 n true)) sb (.slice Ab nb cb2) from ((((HTb.out.below HAw6.out).below HBl.out).below HAw8.out).far (p := ⟨p6, 0, none⟩) (fun k hk => by have := HN.out; show k ≠ p6; omega) _).far (p := ⟨p6, 1, none⟩) (fun k hk => by have := HN.out; show k ≠ p6; omega) _)
      generalize (w8.setCell ⟨p6, 0, none⟩ (.int .u8 (binC s'))).setCell ⟨p6, 1, none⟩ (.slice (some ⟨pb, 0, none⟩) 2 2) = wz at *
      (try simp only [Exit.inBlock, Exit.then])
      refine bodyPost_ret (results_cell_row rfl _ _ p6 38 _ (0, 0) _ rfl x0 Try.underlying38 rfl (by kernel_rfl)) rfl ?_
      have hde := HDef.out
      rw [← HRt'.out] at hde
      rw [if_pos rfl] at hde
      rw [hde]
      exact ⟨binC s', _, 2, 2, rfl, HBs.out, TmF.two HKb.out (by have := HN.out; show w.heap.size ≤ pb; omega) (HTb2.out.mono (fun k hk => by have := HN.out; show w.heap.size ≤ k; omega)) (HTa2.out.mono (fun k hk => by have := HN.out; show w.heap.size ≤ k; omega))⟩
     | false =>
      go_wp2_with (first
       | ((with_reducible refine zbi (N := 87) rfl ?_); refine zbw ?hg (N := 87) ?hd (n := 2) (cs := #[.int .u8 sa, .slice Aa na ca, .int .u8 sb, .slice Ab nb cb2]) (t := 38) ?hr ?_; (case hd => rfl); (case hg => rfl); (case hr => first | (go_simp; done) | (go_simp; rfl)); intro pb hpb w8 hk hb; have Hpb := zaa.mk hpb; have HAw8 := zaa.mk hb; have HKpb := zaa.mk hk; have hk6 := (hb.block p6 (zat HK67.out)).trans HK67.out; have HK68 := zaa.mk hk6; clear x60 x61 f60 f61 hb hk hpb; have x60 : w8.cell? ⟨p6, 0, none⟩ = some (.int .u8 0) := (zaf hk6 0).trans rfl; have x61 : w8.cell? ⟨p6, 1, none⟩ = some (.slice none 0 0) := (zaf hk6 1).trans rfl; have f60 := zaj hk6 0; have f61 := zaj hk6 1; clear hk6))
      have x0 := zbe HK68.out (.int .u8 (binC s')) (.slice (some ⟨pb, 0, none⟩) 2 2)
      have HBs := zaa.mk (show Below w.heap.size w ((w8.setCell ⟨p6, 0, none⟩ (.int .u8 (binC s'))).setCell ⟨p6, 1, none⟩ (.slice (some ⟨pb, 0, none⟩) 2 2)) from zah (zah (zae (zae HB6.out HBl.out) HAw8.out) (by have := HP6.out; omega)) (by have := HP6.out; omega))
      have HN := zaa.mk (show p6 < w2.heap.size ∧ w2.heap.size ≤ w3.heap.size ∧ w3.heap.size ≤ w4.heap.size ∧ w4.heap.size ≤ w5.heap.size ∧ w5.heap.size ≤ w6.heap.size ∧ w6.heap.size ≤ wr.heap.size ∧ pb = wr.heap.size ∧ w.heap.size ≤ p6 ∧ w.heap.size ≤ w2.heap.size from ⟨zat HK6.out, HB3.out.size, HAw4.out.size, HB5.out.size, HAw6.out.size, HBl.out.size, Hpb.out, HP6.out, HB2.out.size⟩)
      have HKb := zaa.mk (show ((w8.setCell ⟨p6, 0, none⟩ (.int .u8 (binC s'))).setCell ⟨p6, 1, none⟩ (.slice (some ⟨pb, 0, none⟩) 2 2)).heap[pb]? = some (.cells #[.int .u8 sa, .slice Aa na ca, .int .u8 sb, .slice Ab nb cb2] 38 (0, 0)) from (Below.heap_setCell _ ⟨p6, 1, none⟩ _ pb (by have := HN.out; show pb ≠ p6; omega)).trans ((Below.heap_setCell w8 ⟨p6, 0, none⟩ _ pb (by have := HN.out; show pb ≠ p6; omega)).trans HKpb.out))
      have HTa2 := zaa.mk (show TmF ((w8.setCell ⟨p6, 0, none⟩ (.int .u8 (binC s'))).setCell ⟨p6, 1, none⟩ (.slice (some ⟨pb, 0, none⟩) 2 2)) (fun k => w2.heap.size ≤ k) (toS (tidyR t1 n true)) sa (.slice Aa na ca) from (((((HTa.out.below HAw4.out).below HB46.out).below HBl.out).below HAw8.out).far (p := ⟨p6, 0, none⟩) (fun k hk => by have := HN.out; show k ≠ p6; omega) _).far (p := ⟨p6, 1, none⟩) (fun k hk => by have := HN.out; show k ≠ p6; omega) _)
      have HTb2 := zaa.mk (show TmF ((w8.setCell ⟨p6, 0, none⟩ (.int .u8 (binC s'))).setCell ⟨p6, 1, none⟩ (.slice (some ⟨pb, 0, none⟩) 2 2)) (fun k => w4.heap.size ≤ k) (toS (tidyR t2 n true)) sb (.slice Ab nb cb2) from ((((HTb.out.below HAw6.out).below HBl.out).below HAw8.out).far (p := ⟨p6, 0, none⟩) (fun k hk => by have := HN.out; show k ≠ p6; omega) _).far (p := ⟨p6, 1, none⟩) (fun k hk => by have := HN.out; show k ≠ p6; omega) _)
      generalize (w8.setCell ⟨p6, 0, none⟩ (.int .u8 (binC s'))).setCell ⟨p6, 1, none⟩ (.slice (some ⟨pb, 0, none⟩) 2 2) = wz at *
      (try simp only [Exit.inBlock, Exit.then])
      refine bodyPost_ret (results_cell_row rfl _ _ p6 38 _ (0, 0) _ rfl x0 Try.underlying38 rfl (by kernel_rfl)) rfl ?_
      have hde := HDef.out
      rw [← HRt'.out] at hde
      rw [if_neg (by simp)] at hde
      rw [hde]
      exact ⟨binC s', _, 2, 2, rfl, HBs.out, TmF.two HKb.out (by have := HN.out; show w.heap.size ≤ pb; omega) (HTa2.out.mono (fun k hk => by have := HN.out; show w.heap.size ≤ k; omega)) (HTb2.out.mono (fun k hk => by have := HN.out; show w.heap.size ≤ k; omega))⟩
  | false =>
   go_upto_region 15 with (fail)
   go_loopg [7, 10, 11] n (fun kq v7 v10 v11 w' => ∃ (i : Nat) (s' sw : Bool), v7 = .int .u8 (binC s') ∧ v10 = .bool sw ∧ v11 = .int .i64 (i : Int) ∧ zaa (i + kq = n) ∧ zaa (rotN (n - i) (s', sw) = rotN n (b, false && b)) ∧ zaa (Below w6.heap.size w6 w'))
   case atStart => exact ⟨0, b, false && b, by rw [HCb.out], rfl, rfl, ⟨by omega⟩, ⟨rfl⟩, ⟨Below.refl _ _⟩⟩
   case round =>
    obtain ⟨i, s', sw, rfl, rfl, rfl, HI, HRt, HBl⟩ := hrel
    by_cases hin : i < n
    ·have hlt : (i : Int) < (n : Int) := by omega
     cases s' with
     | true =>
      have d : (binC true == 124) = true := rfl
      go_wp2
      go_roundg (n - (i + 1))
      case measure => have := HI.out; omega
      case rel => exact ⟨i + 1, false, sw, rfl, rfl, by first | rfl | (congr 1; omega), ⟨by have := HI.out; omega⟩, ⟨by have h := HRt.out; rw [show n - i = (n - (i + 1)) + 1 by omega] at h; exact h⟩, ⟨HBl.out⟩⟩
     | false =>
      have d : (binC false == 124) = false := rfl
      go_wp2
      go_roundg (n - (i + 1))
      case measure => have := HI.out; omega
      case rel => exact ⟨i + 1, true, !sw, rfl, rfl, by first | rfl | (congr 1; omega), ⟨by have := HI.out; omega⟩, ⟨by have h := HRt.out; rw [show n - i = (n - (i + 1)) + 1 by omega] at h; exact h⟩, ⟨HBl.out⟩⟩
    ·have hge : ¬ (i : Int) < (n : Int) := by omega
     have HRt' := zaa.mk (show (s', sw) = rotN n (b, false && b) by have h := HRt.out; rw [show n - i = 0 by omega] at h; exact h)
     have hk6 := (HBl.out.block p6 (zat HK66.out)).trans HK66.out
     have hk8 := (HBl.out.block p8 (zat HK86.out)).trans HK86.out
     have hk9 := (HBl.out.block p9 (zat HKp9.out)).trans HKp9.out
     have HK67 := zaa.mk hk6
     have x60 : wr.cell? ⟨p6, 0, none⟩ = some (.int .u8 0) := (zaf hk6 0).trans rfl
     have f60 := zaj hk6 0
     have x61 : wr.cell? ⟨p6, 1, none⟩ = some (.slice none 0 0) := (zaf hk6 1).trans rfl
     have f61 := zaj hk6 1
     have x80 : wr.cell? ⟨p8, 0, none⟩ = some (.int .u8 sa) := (zaf hk8 0).trans rfl
     have x81 : wr.cell? ⟨p8, 1, none⟩ = some (.slice Aa na ca) := (zaf hk8 1).trans rfl
     have x90 : wr.cell? ⟨p9, 0, none⟩ = some (.int .u8 sb) := (zaf hk9 0).trans rfl
     have x91 : wr.cell? ⟨p9, 1, none⟩ = some (.slice Ab nb cb2) := (zaf hk9 1).trans rfl
     clear hk6 hk8 hk9
     cases sw with
     | true =>
      go_wp2_with (first
       | ((with_reducible refine zbi (N := 82) rfl ?_); refine zbw ?hg (N := 82) ?hd (n := 2) (cs := #[.int .u8 sb, .slice Ab nb cb2, .int .u8 sa, .slice Aa na ca]) (t := 38) ?hr ?_; (case hd => rfl); (case hg => rfl); (case hr => first | (go_simp; done) | (go_simp; rfl)); intro pb hpb w8 hk hb; have Hpb := zaa.mk hpb; have HAw8 := zaa.mk hb; have HKpb := zaa.mk hk; have hk6 := (hb.block p6 (zat HK67.out)).trans HK67.out; have HK68 := zaa.mk hk6; clear x60 x61 f60 f61 hb hk hpb; have x60 : w8.cell? ⟨p6, 0, none⟩ = some (.int .u8 0) := (zaf hk6 0).trans rfl; have x61 : w8.cell? ⟨p6, 1, none⟩ = some (.slice none 0 0) := (zaf hk6 1).trans rfl; have f60 := zaj hk6 0; have f61 := zaj hk6 1; clear hk6))
      have x0 := zbe HK68.out (.int .u8 (binC s')) (.slice (some ⟨pb, 0, none⟩) 2 2)
      have HBs := zaa.mk (show Below w.heap.size w ((w8.setCell ⟨p6, 0, none⟩ (.int .u8 (binC s'))).setCell ⟨p6, 1, none⟩ (.slice (some ⟨pb, 0, none⟩) 2 2)) from zah (zah (zae (zae HB6.out HBl.out) HAw8.out) (by have := HP6.out; omega)) (by have := HP6.out; omega))
      have HN := zaa.mk (show p6 < w2.heap.size ∧ w2.heap.size ≤ w3.heap.size ∧ w3.heap.size ≤ w4.heap.size ∧ w4.heap.size ≤ w5.heap.size ∧ w5.heap.size ≤ w6.heap.size ∧ w6.heap.size ≤ wr.heap.size ∧ pb = wr.heap.size ∧ w.heap.size ≤ p6 ∧ w.heap.size ≤ w2.heap.size from ⟨zat HK6.out, HB3.out.size, HAw4.out.size, HB5.out.size, HAw6.out.size, HBl.out.size, Hpb.out, HP6.out, HB2.out.size⟩)
      have HKb := zaa.mk (show ((w8.setCell ⟨p6, 0, none⟩ (.int .u8 (binC s'))).setCell ⟨p6, 1, none⟩ (.slice (some ⟨pb, 0, none⟩) 2 2)).heap[pb]? = some (.cells #[.int .u8 sb, .slice Ab nb cb2, .int .u8 sa, .slice Aa na ca] 38 (0, 0)) from (Below.heap_setCell _ ⟨p6, 1, none⟩ _ pb (by have := HN.out; show pb ≠ p6; omega)).trans ((Below.heap_setCell w8 ⟨p6, 0, none⟩ _ pb (by have := HN.out; show pb ≠ p6; omega)).trans HKpb.out))
      have HTa2 := zaa.mk (show TmF ((w8.setCell ⟨p6, 0, none⟩ (.int .u8 (binC s'))).setCell ⟨p6, 1, none⟩ (.slice (some ⟨pb, 0, none⟩) 2 2)) (fun k => w2.heap.size ≤ k) (toS (tidyR t1 n false)) sa (.slice Aa na ca) from (((((HTa.out.below HAw4.out).below HB46.out).below HBl.out).below HAw8.out).far (p := ⟨p6, 0, none⟩) (fun k hk => by have := HN.out; show k ≠ p6; omega) _).far (p := ⟨p6, 1, none⟩) (fun k hk => by have := HN.out; show k ≠ p6; omega) _)
      have HTb2 := zaa.mk (show TmF ((w8.setCell ⟨p6, 0, none⟩ (.int .u8 (binC s'))).setCell ⟨p6, 1, none⟩ (.slice (some ⟨pb, 0, none⟩) 2 2)) (fun k => w4.heap.size ≤ k) (toS (tidyR t2 n false)) sb (.slice Ab nb cb2) from ((((HTb.out.below HAw6.out).below HBl.out).below HAw8.out).far (p := ⟨p6, 0, none⟩) (fun k hk => by have := HN.out; show k ≠ p6; omega) _).far (p := ⟨p6, 1, none⟩) (fun k hk => by have := HN.out; show k ≠ p6; omega) _)
      generalize (w8.setCell ⟨p6, 0, none⟩ (.int .u8 (binC s'))).setCell ⟨p6, 1, none⟩ (.slice (some ⟨pb, 0, none⟩) 2 2) = wz at *
      (try simp only [Exit.inBlock, Exit.then])
      refine bodyPost_ret (results_cell_row rfl _ _ p6 38 _ (0, 0) _ rfl x0 Try.underlying38 rfl (by kernel_rfl)) rfl ?_
      have hde := HDef.out
      rw [← HRt'.out] at hde
      rw [if_pos rfl] at hde
      rw [hde]
      exact ⟨binC s', _, 2, 2, rfl, HBs.out, TmF.two HKb.out (by have := HN.out; show w.heap.size ≤ pb; omega) (HTb2.out.mono (fun k hk => by have := HN.out; show w.heap.size ≤ k; omega)) (HTa2.out.mono (fun k hk => by have := HN.out; show w.heap.size ≤ k; omega))⟩
     | false =>
      go_wp2_with (first
       | ((with_reducible refine zbi (N := 87) rfl ?_); refine zbw ?hg (N := 87) ?hd (n := 2) (cs := #[.int .u8 sa, .slice Aa na ca, .int .u8 sb, .slice Ab nb cb2]) (t := 38) ?hr ?_; (case hd => rfl); (case hg => rfl); (case hr => first | (go_simp; done) | (go_simp; rfl)); intro pb hpb w8 hk hb; have Hpb := zaa.mk hpb; have HAw8 := zaa.mk hb; have HKpb := zaa.mk hk; have hk6 := (hb.block p6 (zat HK67.out)).trans HK67.out; have HK68 := zaa.mk hk6; clear x60 x61 f60 f61 hb hk hpb; have x60 : w8.cell? ⟨p6, 0, none⟩ = some (.int .u8 0) := (zaf hk6 0).trans rfl; have x61 : w8.cell? ⟨p6, 1, none⟩ = some (.slice none 0 0) := (zaf hk6 1).trans rfl; have f60 := zaj hk6 0; have f61 := zaj hk6 1; clear hk6))
      have x0 := zbe HK68.out (.int .u8 (binC s')) (.slice (some ⟨pb, 0, none⟩) 2 2)
      have HBs := zaa.mk (show Below w.heap.size w ((w8.setCell ⟨p6, 0, none⟩ (.int .u8 (binC s'))).setCell ⟨p6, 1, none⟩ (.slice (some ⟨pb, 0, none⟩) 2 2)) from zah (zah (zae (zae HB6.out HBl.out) HAw8.out) (by have := HP6.out; omega)) (by have := HP6.out; omega))
      have HN := zaa.mk (show p6 < w2.heap.size ∧ w2.heap.size ≤ w3.heap.size ∧ w3.heap.size ≤ w4.heap.size ∧ w4.heap.size ≤ w5.heap.size ∧ w5.heap.size ≤ w6.heap.size ∧ w6.heap.size ≤ wr.heap.size ∧ pb = wr.heap.size ∧ w.heap.size ≤ p6 ∧ w.heap.size ≤ w2.heap.size from ⟨zat HK6.out, HB3.out.size, HAw4.out.size, HB5.out.size, HAw6.out.size, HBl.out.size, Hpb.out, HP6.out, HB2.out.size⟩)
      have HKb := zaa.mk (show ((w8.setCell ⟨p6, 0, none⟩ (.int .u8 (binC s'))).setCell ⟨p6, 1, none⟩ (.slice (some ⟨pb, 0, none⟩) 2 2)).heap[pb]? = some (.cells #[.int .u8 sa, .slice Aa na ca, .int .u8 sb, .slice Ab nb cb2] 38 (0, 0)) from (Below.heap_setCell _ ⟨p6, 1, none⟩ _ pb (by have := HN.out; show pb ≠ p6; omega)).trans ((Below.heap_setCell w8 ⟨p6, 0, none⟩ _ pb (by have := HN.out; show pb ≠ p6; omega)).trans HKpb.out))
      have HTa2 := zaa.mk (show TmF ((w8.setCell ⟨p6, 0, none⟩ (.int .u8 (binC s'))).setCell ⟨p6, 1, none⟩ (.slice (some ⟨pb, 0, none⟩) 2 2)) (fun k => w2.heap.size ≤ k) (toS (tidyR t1 n false)) sa (.slice Aa na ca) from (((((HTa.out.below HAw4.out).below HB46.out).below HBl.out).below HAw8.out).far (p := ⟨p6, 0, none⟩) (fun k hk => by have := HN.out; show k ≠ p6; omega) _).far (p := ⟨p6, 1, none⟩) (fun k hk => by have := HN.out; show k ≠ p6; omega) _)
      have HTb2 := zaa.mk (show TmF ((w8.setCell ⟨p6, 0, none⟩ (.int .u8 (binC s'))).setCell ⟨p6, 1, none⟩ (.slice (some ⟨pb, 0, none⟩) 2 2)) (fun k => w4.heap.size ≤ k) (toS (tidyR t2 n false)) sb (.slice Ab nb cb2) from ((((HTb.out.below HAw6.out).below HBl.out).below HAw8.out).far (p := ⟨p6, 0, none⟩) (fun k hk => by have := HN.out; show k ≠ p6; omega) _).far (p := ⟨p6, 1, none⟩) (fun k hk => by have := HN.out; show k ≠ p6; omega) _)
      generalize (w8.setCell ⟨p6, 0, none⟩ (.int .u8 (binC s'))).setCell ⟨p6, 1, none⟩ (.slice (some ⟨pb, 0, none⟩) 2 2) = wz at *
      (try simp only [Exit.inBlock, Exit.then])
      refine bodyPost_ret (results_cell_row rfl _ _ p6 38 _ (0, 0) _ rfl x0 Try.underlying38 rfl (by kernel_rfl)) rfl ?_
      have hde := HDef.out
      rw [← HRt'.out] at hde
      rw [if_neg (by simp)] at hde
      rw [hde]
      exact ⟨binC s', _, 2, 2, rfl, HBs.out, TmF.two HKb.out (by have := HN.out; show w.heap.size ≤ pb; omega) (HTa2.out.mono (fun k hk => by have := HN.out; show w.heap.size ≤ k; omega)) (HTb2.out.mono (fun k hk => by have := HN.out; show w.heap.size ≤ k; omega))⟩
def zbu (l : List Int) (n : Nat) : List Int := l.map fun x => x + (n : Int)
def zbf : Tr → List Int
 | .o => [0]
 | .un _ t => zbf t
 | .bin true a b => zbf a ++ zbu (zbf b) (zbf a).length
 | .bin false a b => zbu (zbf b) (zbf a).length ++ zbf a
theorem zbl (l : List Int) (n : Nat) : (zbu l n).length = l.length := by simp [zbu]
theorem zcd : ∀ t : Tr, (zbf t).length ≤ t.nodes ∧ 1 ≤ (zbf t).length
 | .o => ⟨Nat.le_refl _, Nat.le_refl _⟩
 | .un _ t => by have := zcd t; simp only [zbf, Tr.nodes]; omega
 | .bin true a b => by have := zcd a; have := zcd b; simp only [zbf, Tr.nodes, List.length_append, zbl]; omega
 | .bin false a b => by have := zcd a; have := zcd b; simp only [zbf, Tr.nodes, List.length_append, zbl]; omega
theorem moreL_range {l : List Int} {n m : Nat} (h : ∀ x ∈ l, 0 ≤ x ∧ x < (m : Int)) : ∀ x ∈ zbu l n, (n : Int) ≤ x ∧ x < ((n + m : Nat) : Int) := by
 intro x hx
 obtain ⟨y, hy, rfl⟩ := List.mem_map.1 hx
 have := h y hy
 omega
theorem permR_range : ∀ (t : Tr), ∀ x ∈ zbf t, 0 ≤ x ∧ x < ((zbf t).length : Int)
 | .o, x, hx => by simp only [zbf, List.mem_singleton] at hx; subst hx; simp [zbf]
 | .un _ t, x, hx => permR_range t x hx
 | .bin true a b, x, hx => by
  simp only [zbf, List.length_append, zbl] at hx ⊢
  rcases List.mem_append.1 hx with h | h
  ·have := permR_range a x h; omega
  ·have := moreL_range (permR_range b) x h; omega
 | .bin false a b, x, hx => by
  simp only [zbf, List.length_append, zbl] at hx ⊢
  rcases List.mem_append.1 hx with h | h
  ·have := moreL_range (permR_range b) x h; omega
  ·have := permR_range a x h; omega
theorem rdR_nodes : ∀ (f : Nat) (s : ByteArray) (i : Nat) (t : Tr) (e : Nat), rdR f s i = some (t, e) → i + t.nodes ≤ e
 | 0, s, i, t, e, h => by cases h
 | f + 1, s, i, t, e, h => by
  unfold rdR at h
  split at h
  ·cases h
  ·split at h
   ·injection h with h; injection h with h1 h2; subst h1; simp only [Tr.nodes]; omega
   ·split at h
    ·split at h
     ·cases h
     ·rename_i t' e' hr
      injection h with h; injection h with h1 h2
      have := rdR_nodes f s _ _ _ hr
      subst h1
      simp only [Tr.nodes]
      omega
    ·split at h
     ·cases h
     ·split at h
      ·cases h
      ·rename_i a m hr
       have h3 := rdR_nodes f s _ _ _ hr
       split at h
       ·cases h
       ·split at h
        ·cases h
        ·rename_i b e' hr2
         have h4 := rdR_nodes f s _ _ _ hr2
         split at h
         ·cases h
         ·injection h with h; injection h with h1 h2; subst h1; simp only [Tr.nodes]; omega
theorem ofR_nodes {s : ByteArray} {t : Tr} (h : ofR s = some t) : t.nodes ≤ 60 := by
 unfold ofR at h
 split at h
 ·cases h
 ·rename_i hn
  split at h
  ·cases h
  ·rename_i t' e' hr
   split at h
   ·rename_i he
    injection h with h
    subst h
    have := rdR_nodes _ _ _ _ _ hr
    omega
   ·cases h
def zbg (s : ByteArray) : List Int × Bool := match ofR s with
 | none => ([], false)
 | some t => (zbf (tid t), true)
def PermRes (w : World) (r : List Int × Bool) (e : Ending) (w' : World) : Prop :=
 ∃ v0_ : Value, e = .returned (.tuple #[v0_, .bool r.2]) ∧ Kd.R (Kd.int .i64) 3 w' w.heap.size (fun _ => True) v0_ r.1 ∧ Below w.heap.size w w'
def restB (s : ByteArray) (i : Nat) : ByteArray := s.extract i s.size
theorem restB_size (s : ByteArray) {i : Nat} (h : i ≤ s.size) : (restB s i).size = s.size - i := by unfold restB; rw [ByteArray.size_extract]; omega
theorem restB_next (s : ByteArray) {i : Nat} (h : i < s.size) : (restB s i).extract 1 (restB s i).size = restB s (i + 1) := by
 rw [restB_size s (by omega)]
 unfold restB
 rw [ByteArray.extract_extract]
 congr 1
 omega
theorem restB_zero (s : ByteArray) : restB s 0 = s := by unfold restB; exact ByteArray.extract_zero_size
theorem restB_bt (s : ByteArray) {i : Nat} (h : i < s.size) : bt (restB s i) 0 = bt s (i : Int) := by
 have h1 : (0 : Nat) < (restB s i).size := by rw [restB_size s (by omega)]; omega
 rw [← bt_nat s i h]
 have := bt_nat (restB s i) 0 h1
 rw [show ((0 : Nat) : Int) = 0 from rfl] at this
 rw [← this]
 have e : (restB s i)[0]'h1 = s[i]'h := (ByteArray.getElem_extract (b := s) (start := i) (stop := s.size) (i := 0) h1).trans (by simp)
 rw [e]
theorem toList_nil {b : ByteArray} : b.toList = [] ↔ b.size = 0 := by
 rw [ByteArray.toList_eq]
 have : b.size = b.data.toList.length := rfl
 rw [this, List.length_eq_zero_iff]
def cAt (s : ByteArray) (i : Nat) : Int := if i < s.size then bt s (i : Int) else 0
def nxt (s : ByteArray) (i : Nat) : Nat := if i < s.size then i + 1 else i
theorem take_f (s : ByteArray) (i : Nat) (hi : i ≤ s.size) : impl_reader_take.f (restB s i) = some (cAt s i, restB s (nxt s i)) := by
 have hz := restB_size s hi
 unfold impl_reader_take.f cAt nxt
 by_cases h : i < s.size
 ·rw [if_neg (fun e => by have := toList_nil.1 e; omega), if_pos (by omega), if_pos (by omega), if_pos h, if_pos h, restB_bt s h, restB_next s h]
 ·rw [if_pos (toList_nil.2 (by omega)), if_neg h, if_neg h]
def PtAt (w : World) (ok : Nat → Prop) : Tr → Nat → Prop
 | .o, p => ok p ∧ w.heap[p]? = some (.cells #[.int .u8 111, .slice none 0 0] 64 (0, 0))
 | .un b t, p => ok p ∧ ∃ q k, w.heap[p]? = some (.cells #[.int .u8 (unC b), .slice (some ⟨q, 0, none⟩) 1 1] 64 (0, 0)) ∧ ok q ∧ w.heap[q]? = some (.cells #[.pointer (some ⟨k, 0, none⟩)] 43 (0, 0)) ∧ PtAt w ok t k
 | .bin b x y, p => ok p ∧ ∃ q k m, w.heap[p]? = some (.cells #[.int .u8 (binC b), .slice (some ⟨q, 0, none⟩) 2 2] 64 (0, 0)) ∧ ok q ∧ w.heap[q]? = some (.cells #[.pointer (some ⟨k, 0, none⟩), .pointer (some ⟨m, 0, none⟩)] 43 (0, 0)) ∧ PtAt w ok x k ∧ PtAt w ok y m
theorem PtAt.move {w w' : World} {ok ok' : Nat → Prop} (hm : ∀ k, ok k → k < w.heap.size → w'.heap[k]? = w.heap[k]?) (hk : ∀ k, ok k → ok' k) : ∀ (t : Tr) (p : Nat), PtAt w ok t p → PtAt w' ok' t p
 | .o, p, h => ⟨hk p h.1, (hm p h.1 (zat h.2)).trans h.2⟩
 | .un b t, p, h => by
  obtain ⟨h1, q, k, h2, h3, h4, h5⟩ := h
  exact ⟨hk p h1, q, k, (hm p h1 (zat h2)).trans h2, hk q h3, (hm q h3 (zat h4)).trans h4, PtAt.move hm hk t k h5⟩
 | .bin b x y, p, h => by
  obtain ⟨h1, q, k, m, h2, h3, h4, h5, h6⟩ := h
  exact ⟨hk p h1, q, k, m, (hm p h1 (zat h2)).trans h2, hk q h3, (hm q h3 (zat h4)).trans h4, PtAt.move hm hk x k h5, PtAt.move hm hk y m h6⟩
theorem PtAt.below {w w' : World} {ok : Nat → Prop} {t : Tr} {p : Nat} (h : PtAt w ok t p) (hb : Below w.heap.size w w') : PtAt w' ok t p := PtAt.move (fun k _ hk => hb.block k hk) (fun _ h => h) t p h
theorem PtAt.kept {w w' : World} {g : Nat} {t : Tr} {p : Nat} (h : PtAt w (fun k => k ≠ g) t p) (hk : zak w w' g none) : PtAt w' (fun k => k ≠ g) t p := PtAt.move (fun k ho hlt => hk.2 k hlt ho (by simp)) (fun _ h => h) t p h
def RdRes (w0 w : World) (g : Nat) (s : ByteArray) (i : Nat) (r : Option (Tr × Nat)) (e : Ending) (w' : World) : Prop :=
 ∃ (q : Option Addr) (j : Nat), e = .returned (.pointer q) ∧ i ≤ j ∧ j ≤ s.size ∧ zbk w0 w' g (restB s j) ∧ Below w0.heap.size w0 w' ∧ zak w w' g none ∧ match r with
  | none => q = none
  | some (t, e') => j = e' ∧ ∃ p, q = some ⟨p, 0, none⟩ ∧ PtAt w' (fun k => k ≠ g) t p
theorem take_at (s : ByteArray) (i : Nat) (hi : i ≤ s.size) (w0 w : World) (g : Nat) (hI : zbk w0 w g (restB s i)) (hB : Below w0.heap.size w0 w) :
  Calls Try.prog 49 #[.pointer (some ⟨g, 0, none⟩)] w fun e w' => e = .returned (.int .u8 (cAt s i)) ∧ zbk w0 w' g (restB s (nxt s i)) ∧ Below w0.heap.size w0 w' ∧ zak w w' g none :=
 impl_reader_take.calls g (restB s i) _ _ w0 w hI hB (take_f s i hi)
set_option maxHeartbeats 400000 in
set_option maxRecDepth 100000 in
theorem reader_calls (s : ByteArray) (w0 : World) (g : Nat) : ∀ (f i : Nat) (w : World), s.size < i + f → i ≤ s.size → zbk w0 w g (restB s i) → Below w0.heap.size w0 w →
  Calls Try.prog 38 #[.pointer (some ⟨g, 0, none⟩)] w (RdRes w0 w g s i (rdR f s i)) := by
 intro f
 induction f with
 | zero => intro i w h1 h2; omega
 | succ f ih =>
  intro i w h1 h2 hI hB
  have HIh := zaa.mk ih
  have HF := zaa.mk h1
  have HI := zaa.mk hI
  have HB := zaa.mk hB
  clear ih h1 hI hB
  by_cases hi : s.size ≤ i
  ·have hc : cAt s i = 0 := if_neg (by omega)
   have hn : nxt s i = i := if_neg (by omega)
   have HR := zaa.mk (show rdR (f + 1) s i = none by unfold rdR; rw [if_pos hi])
   have HTk := zaa.mk (take_at s i h2 w0 w g HI.out HB.out)
   rw [hc, hn] at HTk
   clear hc hn hi
   go_enter Try.func38, Try.ntmps38
   go_wp2_with (first
    | (go_at_call 49; refine HTk.out.mono ?_; rintro e w2 ⟨rfl, hI2, hB2, hK2⟩; have HI2 := zaa.mk hI2; have HB2 := zaa.mk hB2; have HK2 := zaa.mk hK2; clear hI2 hB2 hK2))
   go_ret
   rw [HR.out]
   exact ⟨none, i, rfl, Nat.le_refl _, h2, HI2.out, HB2.out, HK2.out, rfl⟩
  ·-- REST
   have hil : i < s.size := by omega
   obtain ⟨j, hj⟩ : ∃ j, j = i + 1 := ⟨_, rfl⟩
   have HJ := zaa.mk (show j = i + 1 ∧ i < s.size from ⟨hj, hil⟩)
   have hc : cAt s i = bt s (i : Int) := if_pos hil
   have hn : nxt s i = j := by rw [hj]; exact if_pos hil
   have HTk := zaa.mk (take_at s i h2 w0 w g HI.out HB.out)
   rw [hc, hn] at HTk
   have HUn := zaa.mk (show rdR (f + 1) s i = if bt s (i : Int) = 111 then some (.o, j) else
    if bt s (i : Int) = 62 ∨ bt s (i : Int) = 94 then match rdR f s j with
     | none => none
     | some (t, e) => some (.un (decide (bt s (i : Int) = 62)) t, e)
    else if bt s (i : Int) ≠ 40 then none else match rdR f s j with
     | none => none
     | some (a, m) => if s.size ≤ m ∨ (bt s (m : Int) ≠ 124 ∧ bt s (m : Int) ≠ 45) then none else match rdR f s (m + 1) with
      | none => none
      | some (b, e) => if s.size ≤ e ∨ bt s (e : Int) ≠ 41 then none else some (.bin (decide (bt s (m : Int) = 124)) a b, e + 1) by
    conv => lhs; unfold rdR
    rw [if_neg hi, hj]
    try rfl)
   clear hc hn hi hil hj HI HB
   generalize bt s (i : Int) = c at *
   rcases (show c = 111 ∨ c = 62 ∨ c = 94 ∨ c = 40 ∨ (c ≠ 111 ∧ c ≠ 62 ∧ c ≠ 94 ∧ c ≠ 40) by omega) with e3 | e3 | e3 | e3 | e3
   ·have d1 : (c == 111) = true := by rw [beq_iff_eq]; exact e3
    have HR0 := zaa.mk (show rdR (f + 1) s i = some (.o, j) by rw [HUn.out, if_pos e3])
    have HC := zaa.mk e3
    clear e3
    go_enter Try.func38, Try.ntmps38
    go_wp2_with (first
     | (go_at_call 49; refine HTk.out.mono ?_; rintro e w2 ⟨rfl, hI_, hB_, hK_⟩; have HI2 := zaa.mk hI_; have HB2 := zaa.mk hB_; have HK2 := zaa.mk hK_; clear hI_ hB_ hK_))
    have hb := zab (Below.refl w2.heap.size w2) (.cells #[.int .u8 111, .slice none 0 0] 64)
    have hk1 := heap_alloc_new w2 (.cells #[.int .u8 111, .slice none 0 0] 64)
    have hI5 := HI2.out.alloc (.cells #[.int .u8 111, .slice none 0 0] 64)
    have hgl : g < w2.heap.size := zat HI2.out.1
    have hc := HC.out
    first | subst hc | skip
    go_ret
    rw [HR0.out]
    exact ⟨_, j, rfl, by have := HJ.out; omega, by have := HJ.out; omega, hI5, zae HB2.out hb, HK2.out.trans (zak.of_below hb g none) (.inl rfl), rfl, _, rfl, by show w2.heap.size ≠ g; omega, hk1⟩
   ·have d1 : (c == 111) = false := by rw [beq_eq_false_iff_ne]; omega
    have d2 : (c == 62) = true := by rw [beq_iff_eq]; exact e3
    have hun := HUn.out
    rw [if_neg (by omega), if_pos (by omega)] at hun
    clear HUn
    have HUn := zaa.mk hun
    have HC := zaa.mk e3
    clear hun e3
    go_enter Try.func38, Try.ntmps38
    go_upto_region 8 with (first
     | (go_at_call 49; refine HTk.out.mono ?_; rintro e w2 ⟨rfl, hI_, hB_, hK_⟩; have HI2 := zaa.mk hI_; have HB2 := zaa.mk hB_; have HK2 := zaa.mk hK_; clear hI_ hB_ hK_)
     | (go_at_call 38; refine (HIh.out j _ (by have := HF.out; have := HJ.out; omega) (by have := HJ.out; omega) HI2.out HB2.out).mono ?_; rintro e w3 ⟨q3, j3, rfl, hle_, hls_, hI_, hB_, hK_, hres_⟩; have HL3 := zaa.mk (show j ≤ j3 ∧ j3 ≤ s.size from ⟨hle_, hls_⟩); have HI3 := zaa.mk hI_; have HB3 := zaa.mk hB_; have HK3 := zaa.mk hK_; have HR3 := zaa.mk hres_; clear hle_ hls_ hI_ hB_ hK_ hres_))
    have hres := HR3.out
    clear HR3
    cases hrd : rdR f s j with
    | none =>
     rw [hrd] at hres
     dsimp only at hres
     subst hres
     have HR0 := zaa.mk (show rdR (f + 1) s i = none by rw [HUn.out, hrd])
     clear hrd
     go_wp2
     go_ret
     rw [HR0.out]
     exact ⟨none, j3, rfl, by have := HJ.out; have := HL3.out; omega, by have := HJ.out; have := HL3.out; omega, HI3.out, HB3.out, HK2.out.trans HK3.out (.inl rfl), rfl⟩
    | some te =>
     obtain ⟨t, e⟩ := te
     rw [hrd] at hres
     dsimp only at hres
     obtain ⟨hj, p, rfl, hP⟩ := hres
     have hun := HUn.out
     rw [hrd] at hun
     dsimp only at hun
     have HR0 := zaa.mk hun
     have HP := zaa.mk hP
     have HJ3 := zaa.mk hj
     clear hrd hun hP hj
     go_wp2
     have hb := zab (zab (Below.refl w3.heap.size w3) (.cells #[.pointer (some ⟨p, 0, none⟩)] 43)) (.cells #[.int .u8 c, .slice (some ⟨w3.heap.size, 0, none⟩) 1 1] 64)
     have hk1 := heap_alloc2_old w3 (.cells #[.pointer (some ⟨p, 0, none⟩)] 43) (.cells #[.int .u8 c, .slice (some ⟨w3.heap.size, 0, none⟩) 1 1] 64)
     have hk2 := heap_alloc2_new w3 (.cells #[.pointer (some ⟨p, 0, none⟩)] 43) (.cells #[.int .u8 c, .slice (some ⟨w3.heap.size, 0, none⟩) 1 1] 64)
     have hI5 := (HI3.out.alloc (.cells #[.pointer (some ⟨p, 0, none⟩)] 43)).alloc (.cells #[.int .u8 c, .slice (some ⟨w3.heap.size, 0, none⟩) 1 1] 64)
     generalize (w3.alloc (.cells #[.pointer (some ⟨p, 0, none⟩)] 43)).alloc (.cells #[.int .u8 c, .slice (some ⟨w3.heap.size, 0, none⟩) 1 1] 64) = w5 at *
     have hgl : g < w3.heap.size := zat HI3.out.1
     have HP5 := zaa.mk (HP.out.below hb)
     go_ret
     rw [HR0.out]
     exact ⟨_, j3, rfl, by have := HJ.out; have := HL3.out; omega, HL3.out.2, hI5, zae HB3.out hb, (HK2.out.trans HK3.out (.inl rfl)).trans (zak.of_below hb g none) (.inl rfl), HJ3.out, _, rfl, by show w3.heap.size + 1 ≠ g; omega, w3.heap.size, p, by rw [hk2]; have := HC.out; subst this; rfl, by show w3.heap.size ≠ g; omega, hk1, HP5.out⟩
   ·have d1 : (c == 111) = false := by rw [beq_eq_false_iff_ne]; omega
    have d2 : (c == 62) = false := by rw [beq_eq_false_iff_ne]; omega
    have d3 : (c == 94) = true := by rw [beq_iff_eq]; exact e3
    have hun := HUn.out
    rw [if_neg (by omega), if_pos (by omega)] at hun
    clear HUn
    have HUn := zaa.mk hun
    have HC := zaa.mk e3
    clear hun e3
    go_enter Try.func38, Try.ntmps38
    go_upto_region 8 with (first
     | (go_at_call 49; refine HTk.out.mono ?_; rintro e w2 ⟨rfl, hI_, hB_, hK_⟩; have HI2 := zaa.mk hI_; have HB2 := zaa.mk hB_; have HK2 := zaa.mk hK_; clear hI_ hB_ hK_)
     | (go_at_call 38; refine (HIh.out j _ (by have := HF.out; have := HJ.out; omega) (by have := HJ.out; omega) HI2.out HB2.out).mono ?_; rintro e w3 ⟨q3, j3, rfl, hle_, hls_, hI_, hB_, hK_, hres_⟩; have HL3 := zaa.mk (show j ≤ j3 ∧ j3 ≤ s.size from ⟨hle_, hls_⟩); have HI3 := zaa.mk hI_; have HB3 := zaa.mk hB_; have HK3 := zaa.mk hK_; have HR3 := zaa.mk hres_; clear hle_ hls_ hI_ hB_ hK_ hres_))
    have hres := HR3.out
    clear HR3
    cases hrd : rdR f s j with
    | none =>
     rw [hrd] at hres
     dsimp only at hres
     subst hres
     have HR0 := zaa.mk (show rdR (f + 1) s i = none by rw [HUn.out, hrd])
     clear hrd
     go_wp2
     go_ret
     rw [HR0.out]
     exact ⟨none, j3, rfl, by have := HJ.out; have := HL3.out; omega, by have := HJ.out; have := HL3.out; omega, HI3.out, HB3.out, HK2.out.trans HK3.out (.inl rfl), rfl⟩
    | some te =>
     obtain ⟨t, e⟩ := te
     rw [hrd] at hres
     dsimp only at hres
     obtain ⟨hj, p, rfl, hP⟩ := hres
     have hun := HUn.out
     rw [hrd] at hun
     dsimp only at hun
     have HR0 := zaa.mk hun
     have HP := zaa.mk hP
     have HJ3 := zaa.mk hj
     clear hrd hun hP hj
     go_wp2
     have hb := zab (zab (Below.refl w3.heap.size w3) (.cells #[.pointer (some ⟨p, 0, none⟩)] 43)) (.cells #[.int .u8 c, .slice (some ⟨w3.heap.size, 0, none⟩) 1 1] 64)
     have hk1 := heap_alloc2_old w3 (.cells #[.pointer (some ⟨p, 0, none⟩)] 43) (.cells #[.int .u8 c, .slice (some ⟨w3.heap.size, 0, none⟩) 1 1] 64)
     have hk2 := heap_alloc2_new w3 (.cells #[.pointer (some ⟨p, 0, none⟩)] 43) (.cells #[.int .u8 c, .slice (some ⟨w3.heap.size, 0, none⟩) 1 1] 64)
     have hI5 := (HI3.out.alloc (.cells #[.pointer (some ⟨p, 0, none⟩)] 43)).alloc (.cells #[.int .u8 c, .slice (some ⟨w3.heap.size, 0, none⟩) 1 1] 64)
     generalize (w3.alloc (.cells #[.pointer (some ⟨p, 0, none⟩)] 43)).alloc (.cells #[.int .u8 c, .slice (some ⟨w3.heap.size, 0, none⟩) 1 1] 64) = w5 at *
     have hgl : g < w3.heap.size := zat HI3.out.1
     have HP5 := zaa.mk (HP.out.below hb)
     go_ret
     rw [HR0.out]
     exact ⟨_, j3, rfl, by have := HJ.out; have := HL3.out; omega, HL3.out.2, hI5, zae HB3.out hb, (HK2.out.trans HK3.out (.inl rfl)).trans (zak.of_below hb g none) (.inl rfl), HJ3.out, _, rfl, by show w3.heap.size + 1 ≠ g; omega, w3.heap.size, p, by rw [hk2]; have := HC.out; subst this; rfl, by show w3.heap.size ≠ g; omega, hk1, HP5.out⟩
   ·have d1 : (c == 111) = false := by rw [beq_eq_false_iff_ne]; omega
    have d2 : (c == 62) = false := by rw [beq_eq_false_iff_ne]; omega
    have d3 : (c == 94) = false := by rw [beq_eq_false_iff_ne]; omega
    have d4 : (c == 40) = true := by rw [beq_iff_eq]; exact e3
    have hun := HUn.out
    rw [if_neg (by omega), if_neg (by omega), if_neg (by omega)] at hun
    clear HUn
    have HUn := zaa.mk hun
    have HC := zaa.mk e3
    clear hun e3
    go_enter Try.func38, Try.ntmps38
    go_upto_region 14 with (first
     | (go_at_call 49; refine HTk.out.mono ?_; rintro e w2 ⟨rfl, hI_, hB_, hK_⟩; have HI2 := zaa.mk hI_; have HB2 := zaa.mk hB_; have HK2 := zaa.mk hK_; clear hI_ hB_ hK_)
     | (go_at_call 38; refine (HIh.out j _ (by have := HF.out; have := HJ.out; omega) (by have := HJ.out; omega) HI2.out HB2.out).mono ?_; rintro e w3 ⟨q3, j3, rfl, hle_, hls_, hI_, hB_, hK_, hres_⟩; have HL3 := zaa.mk (show j ≤ j3 ∧ j3 ≤ s.size from ⟨hle_, hls_⟩); have HI3 := zaa.mk hI_; have HB3 := zaa.mk hB_; have HK3 := zaa.mk hK_; have HR3 := zaa.mk hres_; clear hle_ hls_ hI_ hB_ hK_ hres_)
     | (have hnx_ := show j3 ≤ nxt s j3 ∧ nxt s j3 ≤ s.size from (by have := HL3.out; unfold nxt; split <;> omega); have HN4 := zaa.mk hnx_; clear hnx_; (go_at_call 49; refine (take_at s j3 HL3.out.2 w0 w3 g HI3.out HB3.out).mono ?_; rintro e w4 ⟨rfl, hI_, hB_, hK_⟩; have HI4 := zaa.mk hI_; have HB4 := zaa.mk hB_; have HK4 := zaa.mk hK_; clear hI_ hB_ hK_))
     | (go_at_call 38; refine (HIh.out (nxt s j3) _ (by have := HF.out; have := HJ.out; have := HL3.out; have := HN4.out; omega) HN4.out.2 HI4.out HB4.out).mono ?_; rintro e w5 ⟨q5, j5, rfl, hle_, hls_, hI_, hB_, hK_, hres_⟩; have HL5 := zaa.mk (show (nxt s j3) ≤ j5 ∧ j5 ≤ s.size from ⟨hle_, hls_⟩); have HI5 := zaa.mk hI_; have HB5 := zaa.mk hB_; have HK5 := zaa.mk hK_; have HR5 := zaa.mk hres_; clear hle_ hls_ hI_ hB_ hK_ hres_))
    have HK5' := zaa.mk ((HK2.out.trans HK3.out (.inl rfl)).trans (HK4.out.trans HK5.out (.inl rfl)) (.inl rfl))
    have hres := HR3.out
    have hres2 := HR5.out
    clear HR3 HR5
    cases hrd : rdR f s j with
    | none =>
     rw [hrd] at hres
     dsimp only at hres
     subst hres
     have HR0 := zaa.mk (show rdR (f + 1) s i = none by rw [HUn.out, hrd])
     clear hrd hres2
     go_wp2
     go_ret
     rw [HR0.out]
     exact ⟨none, j5, rfl, by have := HJ.out; have := HL3.out; have := HN4.out; have := HL5.out; omega, HL5.out.2, HI5.out, HB5.out, HK5'.out, rfl⟩
    | some am =>
     obtain ⟨a, md⟩ := am
     rw [hrd] at hres
     dsimp only at hres
     obtain ⟨hj, pa, rfl, hPa⟩ := hres
     subst hj
     have hun := HUn.out
     rw [hrd] at hun
     dsimp only at hun
     clear HUn hrd
     have HUn := zaa.mk hun
     have HPa := zaa.mk (PtAt.kept (PtAt.kept hPa HK4.out) HK5.out)
     clear hun hPa
     by_cases hbad : s.size ≤ j3 ∨ (bt s (j3 : Int) ≠ 124 ∧ bt s (j3 : Int) ≠ 45)
     ·have HR0 := zaa.mk (show rdR (f + 1) s i = none by rw [HUn.out, if_pos hbad])
      have d5 : (cAt s j3 == 124) = false := by rw [beq_eq_false_iff_ne]; unfold cAt; split <;> omega
      have d6 : (cAt s j3 == 45) = false := by rw [beq_eq_false_iff_ne]; unfold cAt; split <;> omega
      clear hbad
      generalize cAt s j3 = c4 at *
      rcases q5 with _ | q5
      ·go_wp2
       go_ret
       rw [HR0.out]
       exact ⟨none, j5, rfl, by have := HJ.out; have := HL3.out; have := HN4.out; have := HL5.out; omega, HL5.out.2, HI5.out, HB5.out, HK5'.out, rfl⟩
      ·go_wp2
       go_ret
       rw [HR0.out]
       exact ⟨none, j5, rfl, by have := HJ.out; have := HL3.out; have := HN4.out; have := HL5.out; omega, HL5.out.2, HI5.out, HB5.out, HK5'.out, rfl⟩
     ·have hun := HUn.out
      rw [if_neg hbad] at hun
      clear HUn
      have HUn := zaa.mk hun
      have hlt3 : j3 < s.size := by omega
      have hn3 : nxt s j3 = j3 + 1 := if_pos hlt3
      have hc3 : cAt s j3 = bt s (j3 : Int) := if_pos hlt3
      rw [hn3] at hres2
      rw [hc3]
      have hbs : bt s (j3 : Int) = 124 ∨ bt s (j3 : Int) = 45 := by omega
      clear hun hbad hc3
      generalize bt s (j3 : Int) = c4 at *
      have HBs := zaa.mk hbs
      cases hrd : rdR f s (j3 + 1) with
      | none =>
       rw [hrd] at hres2
       dsimp only at hres2
       subst hres2
       have HR0 := zaa.mk (show rdR (f + 1) s i = none by rw [HUn.out, hrd])
       clear hrd hbs hn3
       go_wp2
       go_ret
       rw [HR0.out]
       exact ⟨none, j5, rfl, by have := HJ.out; have := HL3.out; have := HN4.out; have := HL5.out; omega, HL5.out.2, HI5.out, HB5.out, HK5'.out, rfl⟩
      | some be =>
       obtain ⟨b, e⟩ := be
       rw [hrd] at hres2
       dsimp only at hres2
       obtain ⟨hj, pb, rfl, hPb⟩ := hres2
       subst hj
       have hun := HUn.out
       rw [hrd] at hun
       dsimp only at hun
       clear HUn hrd hn3
       have HUn := zaa.mk hun
       have HPb := zaa.mk hPb
       clear hun hPb
       have HTk6 := zaa.mk (take_at s j5 HL5.out.2 w0 w5 g HI5.out HB5.out)
       have HN6 := zaa.mk (show j5 ≤ nxt s j5 ∧ nxt s j5 ≤ s.size by have := HL5.out; unfold nxt; split <;> omega)
       rcases hbs with e8 | e8
       ·have d5 : (c4 == 124) = true := by rw [beq_iff_eq]; exact e8
        have HC4 := zaa.mk e8
        clear e8
        by_cases h41 : s.size ≤ j5 ∨ bt s (j5 : Int) ≠ 41
        ·have HR0 := zaa.mk (show rdR (f + 1) s i = none by rw [HUn.out, if_pos h41])
         have d7 : (cAt s j5 == 41) = false := by rw [beq_eq_false_iff_ne]; unfold cAt; split <;> omega
         clear h41
         generalize cAt s j5 = c6 at *
         go_wp2_with (first
          | (go_at_call 49; refine HTk6.out.mono ?_; rintro e w6 ⟨rfl, hI_, hB_, hK_⟩; have HI6 := zaa.mk hI_; have HB6 := zaa.mk hB_; have HK6 := zaa.mk hK_; clear hI_ hB_ hK_))
         go_ret
         rw [HR0.out]
         exact ⟨none, nxt s j5, rfl, by have := HJ.out; have := HL3.out; have := HN4.out; have := HL5.out; have := HN6.out; omega, HN6.out.2, HI6.out, HB6.out, HK5'.out.trans HK6.out (.inl rfl), rfl⟩
        ·have hun := HUn.out
         rw [if_neg h41] at hun
         have HR0 := zaa.mk hun
         have hlt5 : j5 < s.size := by omega
         have HX := zaa.mk (show nxt s j5 = j5 + 1 from if_pos hlt5)
         have d7 : (cAt s j5 == 41) = true := by rw [beq_iff_eq, show cAt s j5 = bt s (j5 : Int) from if_pos hlt5]; omega
         clear hun h41 HUn
         generalize cAt s j5 = c6 at *
         go_wp2_with (first
          | (go_at_call 49; refine HTk6.out.mono ?_; rintro e w6 ⟨rfl, hI_, hB_, hK_⟩; have HI6 := zaa.mk hI_; have HB6 := zaa.mk hB_; have HK6 := zaa.mk hK_; clear hI_ hB_ hK_))
         have hb := zab (zab (Below.refl w6.heap.size w6) (.cells #[.pointer (some ⟨pa, 0, none⟩), .pointer (some ⟨pb, 0, none⟩)] 43)) (.cells #[.int .u8 c4, .slice (some ⟨w6.heap.size, 0, none⟩) 2 2] 64)
         have hk1 := heap_alloc2_old w6 (.cells #[.pointer (some ⟨pa, 0, none⟩), .pointer (some ⟨pb, 0, none⟩)] 43) (.cells #[.int .u8 c4, .slice (some ⟨w6.heap.size, 0, none⟩) 2 2] 64)
         have hk2 := heap_alloc2_new w6 (.cells #[.pointer (some ⟨pa, 0, none⟩), .pointer (some ⟨pb, 0, none⟩)] 43) (.cells #[.int .u8 c4, .slice (some ⟨w6.heap.size, 0, none⟩) 2 2] 64)
         have hI7 := (HI6.out.alloc (.cells #[.pointer (some ⟨pa, 0, none⟩), .pointer (some ⟨pb, 0, none⟩)] 43)).alloc (.cells #[.int .u8 c4, .slice (some ⟨w6.heap.size, 0, none⟩) 2 2] 64)
         generalize (w6.alloc (.cells #[.pointer (some ⟨pa, 0, none⟩), .pointer (some ⟨pb, 0, none⟩)] 43)).alloc (.cells #[.int .u8 c4, .slice (some ⟨w6.heap.size, 0, none⟩) 2 2] 64) = w7 at *
         have hgl : g < w6.heap.size := zat HI6.out.1
         have HPa7 := zaa.mk (PtAt.below (PtAt.kept HPa.out HK6.out) hb)
         have HPb7 := zaa.mk (PtAt.below (PtAt.kept HPb.out HK6.out) hb)
         have hc4 := HC4.out
         go_ret
         rw [HR0.out]
         exact ⟨_, nxt s j5, rfl, by have := HJ.out; have := HL3.out; have := HN4.out; have := HL5.out; have := HN6.out; omega, HN6.out.2, hI7, zae HB6.out hb, (HK5'.out.trans HK6.out (.inl rfl)).trans (zak.of_below hb g none) (.inl rfl), HX.out, _, rfl, by show w6.heap.size + 1 ≠ g; omega, w6.heap.size, pa, pb, by rw [hk2, hc4]; rfl, by show w6.heap.size ≠ g; omega, hk1, HPa7.out, HPb7.out⟩
       ·have d5 : (c4 == 124) = false := by rw [beq_eq_false_iff_ne]; omega
        have d6 : (c4 == 45) = true := by rw [beq_iff_eq]; exact e8
        have HC4 := zaa.mk e8
        clear e8
        by_cases h41 : s.size ≤ j5 ∨ bt s (j5 : Int) ≠ 41
        ·have HR0 := zaa.mk (show rdR (f + 1) s i = none by rw [HUn.out, if_pos h41])
         have d7 : (cAt s j5 == 41) = false := by rw [beq_eq_false_iff_ne]; unfold cAt; split <;> omega
         clear h41
         generalize cAt s j5 = c6 at *
         go_wp2_with (first
          | (go_at_call 49; refine HTk6.out.mono ?_; rintro e w6 ⟨rfl, hI_, hB_, hK_⟩; have HI6 := zaa.mk hI_; have HB6 := zaa.mk hB_; have HK6 := zaa.mk hK_; clear hI_ hB_ hK_))
         go_ret
         rw [HR0.out]
         exact ⟨none, nxt s j5, rfl, by have := HJ.out; have := HL3.out; have := HN4.out; have := HL5.out; have := HN6.out; omega, HN6.out.2, HI6.out, HB6.out, HK5'.out.trans HK6.out (.inl rfl), rfl⟩
        ·have hun := HUn.out
         rw [if_neg h41] at hun
         have HR0 := zaa.mk hun
         have hlt5 : j5 < s.size := by omega
         have HX := zaa.mk (show nxt s j5 = j5 + 1 from if_pos hlt5)
         have d7 : (cAt s j5 == 41) = true := by rw [beq_iff_eq, show cAt s j5 = bt s (j5 : Int) from if_pos hlt5]; omega
         clear hun h41 HUn
         generalize cAt s j5 = c6 at *
         go_wp2_with (first
          | (go_at_call 49; refine HTk6.out.mono ?_; rintro e w6 ⟨rfl, hI_, hB_, hK_⟩; have HI6 := zaa.mk hI_; have HB6 := zaa.mk hB_; have HK6 := zaa.mk hK_; clear hI_ hB_ hK_))
         have hb := zab (zab (Below.refl w6.heap.size w6) (.cells #[.pointer (some ⟨pa, 0, none⟩), .pointer (some ⟨pb, 0, none⟩)] 43)) (.cells #[.int .u8 c4, .slice (some ⟨w6.heap.size, 0, none⟩) 2 2] 64)
         have hk1 := heap_alloc2_old w6 (.cells #[.pointer (some ⟨pa, 0, none⟩), .pointer (some ⟨pb, 0, none⟩)] 43) (.cells #[.int .u8 c4, .slice (some ⟨w6.heap.size, 0, none⟩) 2 2] 64)
         have hk2 := heap_alloc2_new w6 (.cells #[.pointer (some ⟨pa, 0, none⟩), .pointer (some ⟨pb, 0, none⟩)] 43) (.cells #[.int .u8 c4, .slice (some ⟨w6.heap.size, 0, none⟩) 2 2] 64)
         have hI7 := (HI6.out.alloc (.cells #[.pointer (some ⟨pa, 0, none⟩), .pointer (some ⟨pb, 0, none⟩)] 43)).alloc (.cells #[.int .u8 c4, .slice (some ⟨w6.heap.size, 0, none⟩) 2 2] 64)
         generalize (w6.alloc (.cells #[.pointer (some ⟨pa, 0, none⟩), .pointer (some ⟨pb, 0, none⟩)] 43)).alloc (.cells #[.int .u8 c4, .slice (some ⟨w6.heap.size, 0, none⟩) 2 2] 64) = w7 at *
         have hgl : g < w6.heap.size := zat HI6.out.1
         have HPa7 := zaa.mk (PtAt.below (PtAt.kept HPa.out HK6.out) hb)
         have HPb7 := zaa.mk (PtAt.below (PtAt.kept HPb.out HK6.out) hb)
         have hc4 := HC4.out
         go_ret
         rw [HR0.out]
         exact ⟨_, nxt s j5, rfl, by have := HJ.out; have := HL3.out; have := HN4.out; have := HL5.out; have := HN6.out; omega, HN6.out.2, hI7, zae HB6.out hb, (HK5'.out.trans HK6.out (.inl rfl)).trans (zak.of_below hb g none) (.inl rfl), HX.out, _, rfl, by show w6.heap.size + 1 ≠ g; omega, w6.heap.size, pa, pb, by rw [hk2, hc4]; rfl, by show w6.heap.size ≠ g; omega, hk1, HPa7.out, HPb7.out⟩
   ·have d1 : (c == 111) = false := by rw [beq_eq_false_iff_ne]; omega
    have d2 : (c == 62) = false := by rw [beq_eq_false_iff_ne]; omega
    have d3 : (c == 94) = false := by rw [beq_eq_false_iff_ne]; omega
    have d4 : (c == 40) = false := by rw [beq_eq_false_iff_ne]; omega
    have HR0 := zaa.mk (show rdR (f + 1) s i = none by rw [HUn.out, if_neg (by omega), if_neg (by omega), if_pos (by omega)])
    go_enter Try.func38, Try.ntmps38
    go_wp2_with (first
     | (go_at_call 49; refine HTk.out.mono ?_; rintro e w2 ⟨rfl, hI_, hB_, hK_⟩; have HI2 := zaa.mk hI_; have HB2 := zaa.mk hB_; have HK2 := zaa.mk hK_; clear hI_ hB_ hK_))
    go_ret
    rw [HR0.out]
    exact ⟨none, j, rfl, by have := HJ.out; omega, by have := HJ.out; omega, HI2.out, HB2.out, HK2.out, rfl⟩
set_option maxHeartbeats 1000000 in
set_option maxRecDepth 100000 in
theorem countO_calls (s : ByteArray) (w : World) : Calls Try.prog 37 #[.string s, .string ⟨#[111]⟩] w fun e w' => e = .returned (.int .i64 (Lib.countByte s.data.toList 111)) ∧ w' = w := by
 go_enter Try.func37, Try.ntmps37
 go_wp2
 rw [run_callFunc_extern Try.func47 (by kernel_rfl) (by kernel_rfl) (by kernel_rfl) (e := Extern.BytealgCount.count) (by kernel_rfl), Lib.run_countString]
 simp only [Result.andThen]
 rw [Oper.upon_value]
 go_wp2
 go_ret
 exact ⟨rfl, rfl⟩
theorem count_rooms (s : ByteArray) : ∀ n, n ≤ s.size → zbs s n = (s.data.toList.take n).count 111
 | 0, _ => rfl
 | n + 1, h => by
  have hl : n < s.data.toList.length := by rw [Array.length_toList]; exact h
  have hb : bt s (n : Int) = ((s.data.toList[n].toNat : Nat) : Int) := by
   rw [← bt_nat s n (by omega)]
   rfl
  rw [zcr, count_rooms s n (by omega), List.take_add_one, List.getElem?_eq_getElem hl, List.count_append, hb]
  congr 1
  by_cases e : s.data.toList[n] = 111
  ·rw [e]; rfl
  ·have : ¬ ((s.data.toList[n].toNat : Nat) : Int) = 111 := fun h2 => e (UInt8.toNat_inj.1 (by show _ = 111; omega))
   rw [if_neg this]
   symm
   show List.count 111 [s.data.toList[n]] = 0
   rw [List.count_eq_zero]
   intro hm
   rw [List.mem_singleton] at hm
   exact e hm.symm
theorem count_all (s : ByteArray) : Lib.countByte s.data.toList 111 = zbs s s.size := by
 rw [count_rooms s s.size (Nat.le_refl _)]
 unfold Lib.countByte
 rw [List.take_of_length_le (by rw [Array.length_toList]; exact Nat.le_refl _)]
def POfRes (w : World) (r : Option Tr) (e : Ending) (w' : World) : Prop :=
 ∃ q : Option Addr, e = .returned (.pointer q) ∧ Below w.heap.size w w' ∧ match r with
  | none => q = none
  | some t => ∃ p, q = some ⟨p, 0, none⟩ ∧ PtAt w' (fun _ => True) t p
set_option maxHeartbeats 400000 in
set_option maxRecDepth 100000 in
theorem termOf_calls (s : ByteArray) (hs : s.size ≤ 1048576) (w : World) : Calls Try.prog 22 #[.string s] w (POfRes w (ofR s)) := by
 have hrl := roomsS_le s s.size
 have HOf := zaa.mk (show ofR s = if 60 < s.size ∨ 7 < zbs s s.size then none else match rdR (s.size + 1) s 0 with
  | none => none
  | some (t, e) => if e = s.size then some t else none from rfl)
 have HCo := zaa.mk (fun w => countO_calls s w)
 rw [count_all] at HCo
 generalize zbs s s.size = rn at *
 by_cases hbig : 60 < s.size
 ·have d1 : (60 : Int) < (s.size : Int) := by omega
  have HR := zaa.mk (show ofR s = none by rw [HOf.out, if_pos (.inl hbig)])
  clear hbig
  go_enter Try.func22, Try.ntmps22
  go_wp2
  go_ret
  rw [HR.out]
  exact ⟨none, rfl, Below.refl _ _, rfl⟩
 ·have d1 : ¬ (60 : Int) < (s.size : Int) := by omega
  by_cases h7 : 7 < rn
  ·have d2 : (7 : Int) < (rn : Int) := by omega
   have HR := zaa.mk (show ofR s = none by rw [HOf.out, if_pos (.inr h7)])
   clear h7 hbig
   go_enter Try.func22, Try.ntmps22
   go_wp2_with (first
    | (go_at_call 37; refine (HCo.out _).mono ?_; rintro e w2 ⟨rfl, rfl⟩))
   go_ret
   rw [HR.out]
   exact ⟨none, rfl, Below.refl _ _, rfl⟩
  ·have d2 : ¬ (7 : Int) < (rn : Int) := by omega
   have hof := HOf.out
   rw [if_neg (fun h => h.elim hbig h7)] at hof
   clear HOf h7 hbig
   have HOf := zaa.mk hof
   clear hof
   go_enter Try.func22, Try.ntmps22
   go_upto_region 4 with (first
    | (go_at_call 37; refine (HCo.out _).mono ?_; rintro e w2 ⟨rfl, rfl⟩))
   have hI := zbk.new w2 w2 s (Below.refl _ _)
   have hB := zab (Below.refl w2.heap.size w2) (.cells #[.string s] 60)
   generalize w2.alloc (.cells #[.string s] 60) = w3 at *
   obtain ⟨g, hg⟩ : ∃ g, g = w2.heap.size := ⟨_, rfl⟩
   rw [← hg] at hI ⊢
   have hI' : zbk w2 w3 g (restB s 0) := by rw [restB_zero]; exact hI
   have HRd := zaa.mk (reader_calls s w2 g (s.size + 1) 0 w3 (by omega) (Nat.zero_le _) hI' hB)
   clear hI hB hg hI'
   go_upto_region 5 with (first
    | (go_at_call 38; refine HRd.out.mono ?_; rintro e w4 ⟨q, j, rfl, hle_, hls_, hI_, hB_, hK_, hres_⟩; have HLs := zaa.mk hls_; have HI4 := zaa.mk hI_; have HB4 := zaa.mk hB_; have HR4 := zaa.mk hres_; clear hle_ hls_ hI_ hB_ hK_ hres_))
   have x0 := cellS60_0 HI4.out.1
   have hz := restB_size s HLs.out
   have hres := HR4.out
   have hof := HOf.out
   clear HR4 HOf
   by_cases hj : j = s.size
   ·have t1 : ((restB s j).toList == ([] : List UInt8)) = true := by rw [beq_iff_eq, toList_nil]; omega
    have t2 : ((restB s j).toList != ([] : List UInt8)) = false := by rw [bne, t1]; rfl
    have HZ := zaa.mk hz
    clear hz
    generalize restB s j = rb at *
    go_wp2
    go_ret
    cases hrd : rdR (s.size + 1) s 0 with
    | none =>
     rw [hrd] at hres hof
     dsimp only at hres hof
     rw [hof]
     exact ⟨q, rfl, HB4.out, hres⟩
    | some te =>
     obtain ⟨t, e⟩ := te
     rw [hrd] at hres hof
     dsimp only at hres hof
     obtain ⟨hje, p, rfl, hP⟩ := hres
     rw [if_pos (by omega)] at hof
     rw [hof]
     exact ⟨_, rfl, HB4.out, p, rfl, PtAt.move (fun _ _ _ => rfl) (fun _ _ => trivial) t p hP⟩
   ·have t1 : ((restB s j).toList == ([] : List UInt8)) = false := by rw [beq_eq_false_iff_ne]; intro h; have := toList_nil.1 h; have := HLs.out; omega
    have t2 : ((restB s j).toList != ([] : List UInt8)) = true := by rw [bne, t1]; rfl
    have HZ := zaa.mk hz
    clear hz
    generalize restB s j = rb at *
    go_wp2
    go_ret
    have hn : ofR s = none := by
     rw [hof]
     cases hrd : rdR (s.size + 1) s 0 with
     | none => rfl
     | some te =>
      obtain ⟨t, e⟩ := te
      rw [hrd] at hres
      dsimp only at hres ⊢
      rw [if_neg (by omega)]
    rw [hn]
    exact ⟨none, rfl, HB4.out, rfl⟩
abbrev PtA (w : World) (t : Tr) (p : Nat) : Prop := PtAt w (fun _ => True) t p
theorem PtAt.drew {w : World} {ok : Nat → Prop} {t : Tr} {p : Nat} (h : PtAt w ok t p) : PtAt w.drew ok t p := PtAt.move (w := w) (w' := w.drew) (fun _ _ _ => rfl) (fun _ h => h) t p h
def PRes (w : World) (t : Tr) (e : Ending) (w' : World) : Prop := ∃ p, e = .returned (.pointer (some ⟨p, 0, none⟩)) ∧ Below w.heap.size w w' ∧ PtA w' t p
def sgC : Option Bool → Int
 | none => 0
 | some b => unC b
set_option maxHeartbeats 400000 in
set_option maxRecDepth 100000 in
theorem inward_calls : ∀ (n : Nat) (t : Tr), t.nodes ≤ n → ∀ (c : Option Bool) (sg : Int) (w : World) (p : Nat), sg = sgC c → PtA w t p →
  Calls Try.prog 39 #[.pointer (some ⟨p, 0, none⟩), .int .u8 sg] w (PRes w (inF c (tid t))) := by
 intro n
 induction n with
 | zero => intro t h; exact absurd h (by cases t <;> simp [Tr.nodes])
 | succ n ih =>
  intro t hn c sg w p hsg hP
  have HIh := zaa.mk ih
  clear ih
  cases t with
  | o =>
   obtain ⟨-, hk⟩ := hP
   have x0 : w.cell? ⟨p, 0, none⟩ = some (.int .u8 111) := (zaf hk 0).trans rfl
   have HK := zaa.mk hk
   have HR := zaa.mk (show inF c (tid .o) = .o by cases c with
    | none => exact inF_none _
    | some d => cases d <;> rfl)
   clear hk hsg
   go_enter Try.func39, Try.ntmps39
   go_wp2
   go_ret
   rw [HR.out]
   exact ⟨p, rfl, Below.refl _ _, trivial, HK.out⟩
  | un b t =>
   obtain ⟨-, q, k, hk, -, hk2, hPk⟩ := hP
   simp only [Tr.nodes] at hn
   have HN := zaa.mk (show t.nodes ≤ n by omega)
   have HU := zaa.mk (show unC b = sgC (some b) from rfl)
   have u1 : (unC b == 111) = false := by cases b <;> rfl
   generalize unC b = u at *
   have x0 : w.cell? ⟨p, 0, none⟩ = some (.int .u8 u) := (zaf hk 0).trans rfl
   have x1 : w.cell? ⟨p, 1, none⟩ = some (.slice (some ⟨q, 0, none⟩) 1 1) := (zaf hk 1).trans rfl
   have x2 : w.cell? ⟨q, 0, none⟩ = some (.pointer (some ⟨k, 0, none⟩)) := (zaf hk2 0).trans rfl
   have HPk := zaa.mk hPk
   clear hk hk2 hPk hn
   go_enter Try.func39, Try.ntmps39
   go_upto_region 4 with (fail)
   refine start_ (n := 12) (S := fun w' => (w'.cell? ⟨p, 0, none⟩ = some (.int .u8 u)) ∧ (w'.cell? ⟨p, 1, none⟩ = some (.slice (some ⟨q, 0, none⟩) 1 1)) ∧ (w'.cell? ⟨q, 0, none⟩ = some (.pointer (some ⟨k, 0, none⟩))) ∧ (PtA w' t k) ∧ (Below w.heap.size w w')) (ds := []) #[false, false, false, false, false, false, false, false, false, false, false, false] (by kernel_rfl) rfl rfl (⟨x0, x1, x2, HPk.out.drew, zbh (Below.refl _ _)⟩) (fun hHeld => ?_)
   clear x0 x1 x2
   refine zaw (i := 0) (N := some 22) (v := ?_) (a' := ?_) #[true, false, false, false, false, false, false, false, false, false, false, false] rfl rfl (by kernel_rfl) (fun _ _ _ h => h) (Or.inl ⟨by rfl, ?_⟩) ?_ ?_
   rotate_left
   ·intro w'
    go_simp
    with_reducible rfl
   rotate_left
   ·simp only [Act.put, List.setIfInBounds_toArray, List.set_cons_zero, List.set_cons_succ, zap, zaq]
    rfl
   refine zaw (i := 1) (N := some 23) (v := ?_) (a' := ?_) #[true, true, false, false, false, false, false, false, false, false, false, false] rfl rfl (by kernel_rfl) (fun _ _ _ h => h) (Or.inl ⟨by rfl, ?_⟩) ?_ ?_
   rotate_left
   ·intro w'
    go_simp
    with_reducible rfl
   rotate_left
   ·simp only [Act.put, List.setIfInBounds_toArray, List.set_cons_zero, List.set_cons_succ, zap, zaq]
    rfl
   refine zaw (i := 2) (N := some 24) (v := ?_) (a' := ?_) #[true, true, true, false, false, false, false, false, false, false, false, false] rfl rfl (by kernel_rfl) (fun _ _ _ h => h) (Or.inl ⟨by rfl, ?_⟩) ?_ ?_
   rotate_left
   ·intro w'
    go_simp
    with_reducible rfl
   rotate_left
   ·simp only [Act.put, List.setIfInBounds_toArray, List.set_cons_zero, List.set_cons_succ, zap, zaq]
    rfl
   refine take_ (i := 3) (N := some 25) (v := ?_) (a' := ?_) #[true, true, true, true, false, false, false, false, false, false, false, false] rfl rfl (by kernel_rfl) (fun _ _ _ h => h) (Or.inl ⟨by rfl, ?_⟩) hHeld ?_ ?_
   rotate_left
   ·rintro w' ⟨s0, s1, s2, s3, s4⟩
    go_simp
    with_reducible rfl
   rotate_left
   ·simp only [Act.put, List.setIfInBounds_toArray, List.set_cons_zero, List.set_cons_succ, zap, zaq]
    rfl
   refine zaw (i := 4) (N := some 26) (v := ?_) (a' := ?_) #[true, true, true, true, true, false, false, false, false, false, false, false] rfl rfl (by kernel_rfl) (fun _ _ _ h => h) (Or.inl ⟨by rfl, ?_⟩) ?_ ?_
   rotate_left
   ·intro w'
    go_simp
    with_reducible rfl
   rotate_left
   ·simp only [Act.put, List.setIfInBounds_toArray, List.set_cons_zero, List.set_cons_succ, zap, zaq]
    rfl
   refine take_ (i := 5) (N := some 27) (v := ?_) (a' := ?_) #[true, true, true, true, true, true, false, false, false, false, false, false] rfl rfl (by kernel_rfl) (fun _ _ _ h => h) (Or.inl ⟨by rfl, ?_⟩) hHeld ?_ ?_
   rotate_left
   ·rintro w' ⟨s0, s1, s2, s3, s4⟩
    go_simp
    with_reducible rfl
   rotate_left
   ·simp only [Act.put, List.setIfInBounds_toArray, List.set_cons_zero, List.set_cons_succ, zap, zaq]
    rfl
   refine zaw (i := 6) (N := some 28) (v := ?_) (a' := ?_) #[true, true, true, true, true, true, true, false, false, false, false, false] rfl rfl (by kernel_rfl) (fun _ _ _ h => h) (Or.inl ⟨by rfl, ?_⟩) ?_ ?_
   rotate_left
   ·intro w'
    go_simp
    with_reducible rfl
   rotate_left
   ·simp only [Act.put, List.setIfInBounds_toArray, List.set_cons_zero, List.set_cons_succ, zap, zaq]
    rfl
   refine zaw (i := 7) (N := some 29) (v := ?_) (a' := ?_) #[true, true, true, true, true, true, true, true, false, false, false, false] rfl rfl (by kernel_rfl) (fun _ _ _ h => h) (Or.inl ⟨by rfl, ?_⟩) ?_ ?_
   rotate_left
   ·intro w'
    go_simp
    with_reducible rfl
   rotate_left
   ·simp only [Act.put, List.setIfInBounds_toArray, List.set_cons_zero, List.set_cons_succ, zap, zaq]
    rfl
   refine zaw (i := 8) (N := some 30) (v := ?_) (a' := ?_) #[true, true, true, true, true, true, true, true, true, false, false, false] rfl rfl (by kernel_rfl) (fun _ _ _ h => h) (Or.inl ⟨by rfl, ?_⟩) ?_ ?_
   rotate_left
   ·intro w'
    go_simp
    with_reducible rfl
   rotate_left
   ·simp only [Act.put, List.setIfInBounds_toArray, List.set_cons_zero, List.set_cons_succ, zap, zaq]
    rfl
   refine take_ (i := 9) (N := some 31) (v := ?_) (a' := ?_) #[true, true, true, true, true, true, true, true, true, true, false, false] rfl rfl (by kernel_rfl) (fun _ _ _ h => h) (Or.inl ⟨by rfl, ?_⟩) hHeld ?_ ?_
   rotate_left
   ·rintro w' ⟨s0, s1, s2, s3, s4⟩
    go_simp
    with_reducible rfl
   rotate_left
   ·simp only [Act.put, List.setIfInBounds_toArray, List.set_cons_zero, List.set_cons_succ, zap, zaq]
    rfl
   refine one_ (i := 10) (N := some 32) #[true, true, true, true, true, true, true, true, true, true, true, false] rfl rfl (by kernel_rfl) (by decide) (fun K hK => ?_)
   refine goes_ Try.func39 (by kernel_rfl) rfl #[.pointer (some ⟨k, 0, none⟩), .int .u8 u] (by rfl) rfl rfl (by (try simp only [List.map_toArray, List.map_cons, List.map_nil]); first | done | rfl) ?_
   have hs_ := hHeld
   obtain ⟨s0, s1, s2, s3, s4⟩ := hs_
   refine (HIh.out t HN.out (some b) u _ k HU.out s3).mono ?_
   rintro e w3 ⟨m, rfl, hb, hP⟩
   have HB3 := zaa.mk (zae s4 hb)
   have HP3 := zaa.mk hP
   clear hP
   refine ⟨_, rfl, ?_⟩
   refine hK.out _ _ ⟨zag hb s0, zag hb s1, zag hb s2, PtAt.below s3 hb, zae s4 hb⟩ (fun hHeld => ?_)
   clear hK K hb s0 s1 s2 s3 s4
   refine norm_ (a' := ?_) ?_ ?_
   rotate_left
   ·show Act.put _ (some 32) _ = _
    simp only [Act.put, List.setIfInBounds_toArray, List.set_cons_zero, List.set_cons_succ, zap, zaq]
    rfl
   refine zaw (i := 11) (N := some 5) (v := ?_) (a' := ?_) #[true, true, true, true, true, true, true, true, true, true, true, true] rfl rfl (by kernel_rfl) (fun _ _ _ h => h) (Or.inl ⟨by rfl, ?_⟩) ?_ ?_
   rotate_left
   ·intro w'
    go_simp
    with_reducible rfl
   rotate_left
   ·simp only [Act.put, List.setIfInBounds_toArray, List.set_cons_zero, List.set_cons_succ, zap, zaq]
    rfl
   refine done_ (by kernel_rfl) ?_
   have HId := zaa.mk (show inF (some b) (tid t) = tid (.un b t) from rfl)
   cases c with
   | none =>
    have hsg0 : sg = 0 := hsg
    subst hsg0
    clear hsg
    go_wp2
    go_ret
    rw [inF_none]
    exact ⟨m, rfl, HB3.out, HP3.out⟩
   | some d =>
    have HS := zaa.mk hsg
    have v1 : (sg == 0) = false := by rw [hsg]; cases d <;> rfl
    clear hsg
    have HN2 := zaa.mk (show (inF (some b) (tid t)).nodes ≤ n by have h := HN.out; have := zcn t; rw [zcf]; omega)
    go_wp2_with (first
     | (go_at_call 39; refine (HIh.out _ HN2.out (some d) sg _ m HS.out HP3.out).mono ?_; rintro e w5 ⟨m2, rfl, hb, hP⟩; have HB5 := zaa.mk (zae HB3.out hb); have HP5 := zaa.mk hP; clear hb hP))
    go_ret
    have h := HP5.out
    rw [tid_self _ (inF_tidy _ _ (zbm t))] at h
    exact ⟨m2, rfl, HB5.out, h⟩
  | bin b x y =>
   obtain ⟨-, q, k, l, hk, -, hk2, hPk, hPl⟩ := hP
   simp only [Tr.nodes] at hn
   have HN := zaa.mk (show x.nodes ≤ n ∧ y.nodes ≤ n by omega)
   have HS := zaa.mk hsg
   have HB := zaa.mk (show binC b = binC b from rfl)
   have u1 : (binC b == 111) = false := by cases b <;> rfl
   have HU := zaa.mk (show ∃ u, u = binC b from ⟨_, rfl⟩)
   obtain ⟨u, hu⟩ := HU.out
   rw [← hu] at hk u1
   have HUu := zaa.mk hu
   clear HU HB hu
   have x0 : w.cell? ⟨p, 0, none⟩ = some (.int .u8 u) := (zaf hk 0).trans rfl
   have x1 : w.cell? ⟨p, 1, none⟩ = some (.slice (some ⟨q, 0, none⟩) 2 2) := (zaf hk 1).trans rfl
   have x2 : w.cell? ⟨q, 0, none⟩ = some (.pointer (some ⟨k, 0, none⟩)) := (zaf hk2 0).trans rfl
   have x3 : w.cell? ⟨q, 1, none⟩ = some (.pointer (some ⟨l, 0, none⟩)) := (zaf hk2 1).trans rfl
   have HPk := zaa.mk hPk
   have HPl := zaa.mk hPl
   have HX0 := zaa.mk x0
   clear hk hk2 hPk hPl hn hsg
   go_enter Try.func39, Try.ntmps39
   go_upto_region 8 with (fail)
   refine start_ (n := 18) (S := fun w' => (w'.cell? ⟨p, 1, none⟩ = some (.slice (some ⟨q, 0, none⟩) 2 2)) ∧ (w'.cell? ⟨q, 0, none⟩ = some (.pointer (some ⟨k, 0, none⟩))) ∧ (w'.cell? ⟨q, 1, none⟩ = some (.pointer (some ⟨l, 0, none⟩))) ∧ (PtA w' x k) ∧ (PtA w' y l) ∧ (Below w.heap.size w w')) (ds := []) #[false, false, false, false, false, false, false, false, false, false, false, false, false, false, false, false, false, false] (by kernel_rfl) rfl rfl (⟨x1, x2, x3, HPk.out.drew, HPl.out.drew, zbh (Below.refl _ _)⟩) (fun hHeld => ?_)
   clear x0 x1 x2 x3
   refine zaw (i := 0) (N := some 39) (v := ?_) (a' := ?_) #[true, false, false, false, false, false, false, false, false, false, false, false, false, false, false, false, false, false] rfl rfl (by kernel_rfl) (fun _ _ _ h => h) (Or.inl ⟨by rfl, ?_⟩) ?_ ?_
   rotate_left
   ·intro w'
    go_simp
    with_reducible rfl
   rotate_left
   ·simp only [Act.put, List.setIfInBounds_toArray, List.set_cons_zero, List.set_cons_succ, zap, zaq]
    rfl
   refine zaw (i := 1) (N := some 40) (v := ?_) (a' := ?_) #[true, true, false, false, false, false, false, false, false, false, false, false, false, false, false, false, false, false] rfl rfl (by kernel_rfl) (fun _ _ _ h => h) (Or.inl ⟨by rfl, ?_⟩) ?_ ?_
   rotate_left
   ·intro w'
    go_simp
    with_reducible rfl
   rotate_left
   ·simp only [Act.put, List.setIfInBounds_toArray, List.set_cons_zero, List.set_cons_succ, zap, zaq]
    rfl
   refine zaw (i := 2) (N := some 41) (v := ?_) (a' := ?_) #[true, true, true, false, false, false, false, false, false, false, false, false, false, false, false, false, false, false] rfl rfl (by kernel_rfl) (fun _ _ _ h => h) (Or.inl ⟨by rfl, ?_⟩) ?_ ?_
   rotate_left
   ·intro w'
    go_simp
    with_reducible rfl
   rotate_left
   ·simp only [Act.put, List.setIfInBounds_toArray, List.set_cons_zero, List.set_cons_succ, zap, zaq]
    rfl
   refine take_ (i := 3) (N := some 42) (v := ?_) (a' := ?_) #[true, true, true, true, false, false, false, false, false, false, false, false, false, false, false, false, false, false] rfl rfl (by kernel_rfl) (fun _ _ _ h => h) (Or.inl ⟨by rfl, ?_⟩) hHeld ?_ ?_
   rotate_left
   ·rintro w' ⟨s0, s1, s2, s3, s4, s5⟩
    go_simp
    with_reducible rfl
   rotate_left
   ·simp only [Act.put, List.setIfInBounds_toArray, List.set_cons_zero, List.set_cons_succ, zap, zaq]
    rfl
   refine zaw (i := 4) (N := some 43) (v := ?_) (a' := ?_) #[true, true, true, true, true, false, false, false, false, false, false, false, false, false, false, false, false, false] rfl rfl (by kernel_rfl) (fun _ _ _ h => h) (Or.inl ⟨by rfl, ?_⟩) ?_ ?_
   rotate_left
   ·intro w'
    go_simp
    with_reducible rfl
   rotate_left
   ·simp only [Act.put, List.setIfInBounds_toArray, List.set_cons_zero, List.set_cons_succ, zap, zaq]
    rfl
   refine take_ (i := 5) (N := some 44) (v := ?_) (a' := ?_) #[true, true, true, true, true, true, false, false, false, false, false, false, false, false, false, false, false, false] rfl rfl (by kernel_rfl) (fun _ _ _ h => h) (Or.inl ⟨by rfl, ?_⟩) hHeld ?_ ?_
   rotate_left
   ·rintro w' ⟨s0, s1, s2, s3, s4, s5⟩
    go_simp
    with_reducible rfl
   rotate_left
   ·simp only [Act.put, List.setIfInBounds_toArray, List.set_cons_zero, List.set_cons_succ, zap, zaq]
    rfl
   refine zaw (i := 6) (N := some 45) (v := ?_) (a' := ?_) #[true, true, true, true, true, true, true, false, false, false, false, false, false, false, false, false, false, false] rfl rfl (by kernel_rfl) (fun _ _ _ h => h) (Or.inl ⟨by rfl, ?_⟩) ?_ ?_
   rotate_left
   ·intro w'
    go_simp
    with_reducible rfl
   rotate_left
   ·simp only [Act.put, List.setIfInBounds_toArray, List.set_cons_zero, List.set_cons_succ, zap, zaq]
    rfl
   refine zaw (i := 8) (N := some 47) (v := ?_) (a' := ?_) #[true, true, true, true, true, true, true, false, true, false, false, false, false, false, false, false, false, false] rfl rfl (by kernel_rfl) (fun _ _ _ h => h) (Or.inl ⟨by rfl, ?_⟩) ?_ ?_
   rotate_left
   ·intro w'
    go_simp
    with_reducible rfl
   rotate_left
   ·simp only [Act.put, List.setIfInBounds_toArray, List.set_cons_zero, List.set_cons_succ, zap, zaq]
    rfl
   refine zaw (i := 9) (N := some 48) (v := ?_) (a' := ?_) #[true, true, true, true, true, true, true, false, true, true, false, false, false, false, false, false, false, false] rfl rfl (by kernel_rfl) (fun _ _ _ h => h) (Or.inl ⟨by rfl, ?_⟩) ?_ ?_
   rotate_left
   ·intro w'
    go_simp
    with_reducible rfl
   rotate_left
   ·simp only [Act.put, List.setIfInBounds_toArray, List.set_cons_zero, List.set_cons_succ, zap, zaq]
    rfl
   refine zaw (i := 10) (N := some 49) (v := ?_) (a' := ?_) #[true, true, true, true, true, true, true, false, true, true, true, false, false, false, false, false, false, false] rfl rfl (by kernel_rfl) (fun _ _ _ h => h) (Or.inl ⟨by rfl, ?_⟩) ?_ ?_
   rotate_left
   ·intro w'
    go_simp
    with_reducible rfl
   rotate_left
   ·simp only [Act.put, List.setIfInBounds_toArray, List.set_cons_zero, List.set_cons_succ, zap, zaq]
    rfl
   refine take_ (i := 11) (N := some 50) (v := ?_) (a' := ?_) #[true, true, true, true, true, true, true, false, true, true, true, true, false, false, false, false, false, false] rfl rfl (by kernel_rfl) (fun _ _ _ h => h) (Or.inl ⟨by rfl, ?_⟩) hHeld ?_ ?_
   rotate_left
   ·rintro w' ⟨s0, s1, s2, s3, s4, s5⟩
    go_simp
    with_reducible rfl
   rotate_left
   ·simp only [Act.put, List.setIfInBounds_toArray, List.set_cons_zero, List.set_cons_succ, zap, zaq]
    rfl
   refine zaw (i := 12) (N := some 51) (v := ?_) (a' := ?_) #[true, true, true, true, true, true, true, false, true, true, true, true, true, false, false, false, false, false] rfl rfl (by kernel_rfl) (fun _ _ _ h => h) (Or.inl ⟨by rfl, ?_⟩) ?_ ?_
   rotate_left
   ·intro w'
    go_simp
    with_reducible rfl
   rotate_left
   ·simp only [Act.put, List.setIfInBounds_toArray, List.set_cons_zero, List.set_cons_succ, zap, zaq]
    rfl
   refine take_ (i := 13) (N := some 52) (v := ?_) (a' := ?_) #[true, true, true, true, true, true, true, false, true, true, true, true, true, true, false, false, false, false] rfl rfl (by kernel_rfl) (fun _ _ _ h => h) (Or.inl ⟨by rfl, ?_⟩) hHeld ?_ ?_
   rotate_left
   ·rintro w' ⟨s0, s1, s2, s3, s4, s5⟩
    go_simp
    with_reducible rfl
   rotate_left
   ·simp only [Act.put, List.setIfInBounds_toArray, List.set_cons_zero, List.set_cons_succ, zap, zaq]
    rfl
   refine zaw (i := 14) (N := some 53) (v := ?_) (a' := ?_) #[true, true, true, true, true, true, true, false, true, true, true, true, true, true, true, false, false, false] rfl rfl (by kernel_rfl) (fun _ _ _ h => h) (Or.inl ⟨by rfl, ?_⟩) ?_ ?_
   rotate_left
   ·intro w'
    go_simp
    with_reducible rfl
   rotate_left
   ·simp only [Act.put, List.setIfInBounds_toArray, List.set_cons_zero, List.set_cons_succ, zap, zaq]
    rfl
   refine one_ (i := 7) (N := some 46) #[true, true, true, true, true, true, true, true, true, true, true, true, true, true, true, false, false, false] rfl rfl (by kernel_rfl) (by decide) (fun K hK => ?_)
   refine goes_ Try.func39 (by kernel_rfl) rfl #[.pointer (some ⟨k, 0, none⟩), .int .u8 sg] (by rfl) rfl rfl (by (try simp only [List.map_toArray, List.map_cons, List.map_nil]); first | done | rfl) ?_
   have hs_ := hHeld
   obtain ⟨s0, s1, s2, s3, s4, s5⟩ := hs_
   refine (HIh.out x HN.out.1 c sg _ k HS.out s3).mono ?_
   rintro e w2 ⟨m1, rfl, hb, hP⟩
   have HQ1 := zaa.mk hP
   clear hP
   refine ⟨_, rfl, ?_⟩
   refine hK.out _ _ ⟨zag hb s0, zag hb s1, zag hb s2, PtAt.below s3 hb, PtAt.below s4 hb, zae s5 hb⟩ (fun hHeld => ?_)
   clear hK K hb s0 s1 s2 s3 s4 s5
   refine norm_ (a' := ?_) ?_ ?_
   rotate_left
   ·show Act.put _ (some 46) _ = _
    simp only [Act.put, List.setIfInBounds_toArray, List.set_cons_zero, List.set_cons_succ, zap, zaq]
    rfl
   refine one_ (i := 15) (N := some 54) #[true, true, true, true, true, true, true, true, true, true, true, true, true, true, true, true, false, false] rfl rfl (by kernel_rfl) (by decide) (fun K hK => ?_)
   refine goes_ Try.func39 (by kernel_rfl) rfl #[.pointer (some ⟨l, 0, none⟩), .int .u8 sg] (by rfl) rfl rfl (by (try simp only [List.map_toArray, List.map_cons, List.map_nil]); first | done | rfl) ?_
   have hs_ := hHeld
   obtain ⟨s0, s1, s2, s3, s4, s5⟩ := hs_
   refine (HIh.out y HN.out.2 c sg _ l HS.out s4).mono ?_
   rintro e w3 ⟨m2, rfl, hb, hP⟩
   have HP1 := zaa.mk (HQ1.out.below hb)
   have HP2 := zaa.mk hP
   have HB3 := zaa.mk (zae s5 hb)
   clear hP
   refine ⟨_, rfl, ?_⟩
   refine hK.out _ _ ⟨zag hb s0, zag hb s1, zag hb s2, PtAt.below s3 hb, PtAt.below s4 hb, zae s5 hb⟩ (fun hHeld => ?_)
   clear hK K hb s0 s1 s2 s3 s4 s5
   refine norm_ (a' := ?_) ?_ ?_
   rotate_left
   ·show Act.put _ (some 54) _ = _
    simp only [Act.put, List.setIfInBounds_toArray, List.set_cons_zero, List.set_cons_succ, zap, zaq]
    rfl
   refine zaw (i := 16) (N := some 6) (v := ?_) (a' := ?_) #[true, true, true, true, true, true, true, true, true, true, true, true, true, true, true, true, true, false] rfl rfl (by kernel_rfl) (fun _ _ _ h => h) (Or.inl ⟨by rfl, ?_⟩) ?_ ?_
   rotate_left
   ·intro w'
    go_simp
    with_reducible rfl
   rotate_left
   ·simp only [Act.put, List.setIfInBounds_toArray, List.set_cons_zero, List.set_cons_succ, zap, zaq]
    rfl
   refine zaw (i := 17) (N := some 7) (v := ?_) (a' := ?_) #[true, true, true, true, true, true, true, true, true, true, true, true, true, true, true, true, true, true] rfl rfl (by kernel_rfl) (fun _ _ _ h => h) (Or.inl ⟨by rfl, ?_⟩) ?_ ?_
   rotate_left
   ·intro w'
    go_simp
    with_reducible rfl
   rotate_left
   ·simp only [Act.put, List.setIfInBounds_toArray, List.set_cons_zero, List.set_cons_succ, zap, zaq]
    rfl
   refine done_ (by kernel_rfl) ?_
   have x0 := zag HB3.out HX0.out
   have hu := HUu.out
   have hsg := HS.out
   clear HUu HS
   cases b with
   | true =>
    replace hu : u = 124 := hu
    subst hu
    cases c with
    | none =>
     replace hsg : sg = 0 := hsg
     subst hsg
     go_wp2
     have hb := zab (zab (Below.refl w3.heap.size w3) (.cells #[.pointer (some ⟨m1, 0, none⟩), .pointer (some ⟨m2, 0, none⟩)] 43)) (.cells #[.int .u8 124, .slice (some ⟨w3.heap.size, 0, none⟩) 2 2] 64)
     have hk1 := heap_alloc2_old w3 (.cells #[.pointer (some ⟨m1, 0, none⟩), .pointer (some ⟨m2, 0, none⟩)] 43) (.cells #[.int .u8 124, .slice (some ⟨w3.heap.size, 0, none⟩) 2 2] 64)
     have hk2 := heap_alloc2_new w3 (.cells #[.pointer (some ⟨m1, 0, none⟩), .pointer (some ⟨m2, 0, none⟩)] 43) (.cells #[.int .u8 124, .slice (some ⟨w3.heap.size, 0, none⟩) 2 2] 64)
     generalize (w3.alloc (.cells #[.pointer (some ⟨m1, 0, none⟩), .pointer (some ⟨m2, 0, none⟩)] 43)).alloc (.cells #[.int .u8 124, .slice (some ⟨w3.heap.size, 0, none⟩) 2 2] 64) = wz at *
     have h1 := HP1.out.below hb
     have h2 := HP2.out.below hb
     rw [inF_none] at h1 h2
     go_ret
     exact ⟨_, rfl, zae HB3.out hb, trivial, w3.heap.size, m1, m2, hk2, trivial, hk1, h1, h2⟩
    | some d =>
     cases d with
     | true =>
      replace hsg : sg = 62 := hsg
      subst hsg
      go_wp2
      have hb := zab (zab (Below.refl w3.heap.size w3) (.cells #[.pointer (some ⟨m1, 0, none⟩), .pointer (some ⟨m2, 0, none⟩)] 43)) (.cells #[.int .u8 45, .slice (some ⟨w3.heap.size, 0, none⟩) 2 2] 64)
      have hk1 := heap_alloc2_old w3 (.cells #[.pointer (some ⟨m1, 0, none⟩), .pointer (some ⟨m2, 0, none⟩)] 43) (.cells #[.int .u8 45, .slice (some ⟨w3.heap.size, 0, none⟩) 2 2] 64)
      have hk2 := heap_alloc2_new w3 (.cells #[.pointer (some ⟨m1, 0, none⟩), .pointer (some ⟨m2, 0, none⟩)] 43) (.cells #[.int .u8 45, .slice (some ⟨w3.heap.size, 0, none⟩) 2 2] 64)
      generalize (w3.alloc (.cells #[.pointer (some ⟨m1, 0, none⟩), .pointer (some ⟨m2, 0, none⟩)] 43)).alloc (.cells #[.int .u8 45, .slice (some ⟨w3.heap.size, 0, none⟩) 2 2] 64) = wz at *
      have h1 := HP1.out.below hb
      have h2 := HP2.out.below hb
      go_ret
      exact ⟨_, rfl, zae HB3.out hb, trivial, w3.heap.size, m1, m2, hk2, trivial, hk1, h1, h2⟩
     | false =>
      replace hsg : sg = 94 := hsg
      subst hsg
      go_wp2
      have hb := zab (zab (Below.refl w3.heap.size w3) (.cells #[.pointer (some ⟨m2, 0, none⟩), .pointer (some ⟨m1, 0, none⟩)] 43)) (.cells #[.int .u8 124, .slice (some ⟨w3.heap.size, 0, none⟩) 2 2] 64)
      have hk1 := heap_alloc2_old w3 (.cells #[.pointer (some ⟨m2, 0, none⟩), .pointer (some ⟨m1, 0, none⟩)] 43) (.cells #[.int .u8 124, .slice (some ⟨w3.heap.size, 0, none⟩) 2 2] 64)
      have hk2 := heap_alloc2_new w3 (.cells #[.pointer (some ⟨m2, 0, none⟩), .pointer (some ⟨m1, 0, none⟩)] 43) (.cells #[.int .u8 124, .slice (some ⟨w3.heap.size, 0, none⟩) 2 2] 64)
      generalize (w3.alloc (.cells #[.pointer (some ⟨m2, 0, none⟩), .pointer (some ⟨m1, 0, none⟩)] 43)).alloc (.cells #[.int .u8 124, .slice (some ⟨w3.heap.size, 0, none⟩) 2 2] 64) = wz at *
      have h1 := HP2.out.below hb
      have h2 := HP1.out.below hb
      go_ret
      exact ⟨_, rfl, zae HB3.out hb, trivial, w3.heap.size, m2, m1, hk2, trivial, hk1, h1, h2⟩
   | false =>
    replace hu : u = 45 := hu
    subst hu
    cases c with
    | none =>
     replace hsg : sg = 0 := hsg
     subst hsg
     go_wp2
     have hb := zab (zab (Below.refl w3.heap.size w3) (.cells #[.pointer (some ⟨m1, 0, none⟩), .pointer (some ⟨m2, 0, none⟩)] 43)) (.cells #[.int .u8 45, .slice (some ⟨w3.heap.size, 0, none⟩) 2 2] 64)
     have hk1 := heap_alloc2_old w3 (.cells #[.pointer (some ⟨m1, 0, none⟩), .pointer (some ⟨m2, 0, none⟩)] 43) (.cells #[.int .u8 45, .slice (some ⟨w3.heap.size, 0, none⟩) 2 2] 64)
     have hk2 := heap_alloc2_new w3 (.cells #[.pointer (some ⟨m1, 0, none⟩), .pointer (some ⟨m2, 0, none⟩)] 43) (.cells #[.int .u8 45, .slice (some ⟨w3.heap.size, 0, none⟩) 2 2] 64)
     generalize (w3.alloc (.cells #[.pointer (some ⟨m1, 0, none⟩), .pointer (some ⟨m2, 0, none⟩)] 43)).alloc (.cells #[.int .u8 45, .slice (some ⟨w3.heap.size, 0, none⟩) 2 2] 64) = wz at *
     have h1 := HP1.out.below hb
     have h2 := HP2.out.below hb
     rw [inF_none] at h1 h2
     go_ret
     exact ⟨_, rfl, zae HB3.out hb, trivial, w3.heap.size, m1, m2, hk2, trivial, hk1, h1, h2⟩
    | some d =>
     cases d with
     | true =>
      replace hsg : sg = 62 := hsg
      subst hsg
      go_wp2
      have hb := zab (zab (Below.refl w3.heap.size w3) (.cells #[.pointer (some ⟨m2, 0, none⟩), .pointer (some ⟨m1, 0, none⟩)] 43)) (.cells #[.int .u8 124, .slice (some ⟨w3.heap.size, 0, none⟩) 2 2] 64)
      have hk1 := heap_alloc2_old w3 (.cells #[.pointer (some ⟨m2, 0, none⟩), .pointer (some ⟨m1, 0, none⟩)] 43) (.cells #[.int .u8 124, .slice (some ⟨w3.heap.size, 0, none⟩) 2 2] 64)
      have hk2 := heap_alloc2_new w3 (.cells #[.pointer (some ⟨m2, 0, none⟩), .pointer (some ⟨m1, 0, none⟩)] 43) (.cells #[.int .u8 124, .slice (some ⟨w3.heap.size, 0, none⟩) 2 2] 64)
      generalize (w3.alloc (.cells #[.pointer (some ⟨m2, 0, none⟩), .pointer (some ⟨m1, 0, none⟩)] 43)).alloc (.cells #[.int .u8 124, .slice (some ⟨w3.heap.size, 0, none⟩) 2 2] 64) = wz at *
      have h1 := HP2.out.below hb
      have h2 := HP1.out.below hb
      go_ret
      exact ⟨_, rfl, zae HB3.out hb, trivial, w3.heap.size, m2, m1, hk2, trivial, hk1, h1, h2⟩
     | false =>
      replace hsg : sg = 94 := hsg
      subst hsg
      go_wp2
      have hb := zab (zab (Below.refl w3.heap.size w3) (.cells #[.pointer (some ⟨m1, 0, none⟩), .pointer (some ⟨m2, 0, none⟩)] 43)) (.cells #[.int .u8 45, .slice (some ⟨w3.heap.size, 0, none⟩) 2 2] 64)
      have hk1 := heap_alloc2_old w3 (.cells #[.pointer (some ⟨m1, 0, none⟩), .pointer (some ⟨m2, 0, none⟩)] 43) (.cells #[.int .u8 45, .slice (some ⟨w3.heap.size, 0, none⟩) 2 2] 64)
      have hk2 := heap_alloc2_new w3 (.cells #[.pointer (some ⟨m1, 0, none⟩), .pointer (some ⟨m2, 0, none⟩)] 43) (.cells #[.int .u8 45, .slice (some ⟨w3.heap.size, 0, none⟩) 2 2] 64)
      generalize (w3.alloc (.cells #[.pointer (some ⟨m1, 0, none⟩), .pointer (some ⟨m2, 0, none⟩)] 43)).alloc (.cells #[.int .u8 45, .slice (some ⟨w3.heap.size, 0, none⟩) 2 2] 64) = wz at *
      have h1 := HP1.out.below hb
      have h2 := HP2.out.below hb
      go_ret
      exact ⟨_, rfl, zae HB3.out hb, trivial, w3.heap.size, m1, m2, hk2, trivial, hk1, h1, h2⟩
set_option maxHeartbeats 400000 in
set_option maxRecDepth 100000 in
theorem tidy_calls (t : Tr) (w : World) (p : Nat) (hP : PtA w t p) : Calls Try.prog 23 #[.pointer (some ⟨p, 0, none⟩)] w (PRes w (tid t)) := by
 have HI := zaa.mk (inward_calls t.nodes t (Nat.le_refl _) none 0 w p rfl hP)
 rw [inF_none] at HI
 clear hP
 go_enter Try.func23, Try.ntmps23
 go_wp2_with (first
  | (go_at_call 39; refine HI.out.mono ?_; rintro e w2 ⟨m, rfl, hb, hP⟩; have HB2 := zaa.mk hb; have HP2 := zaa.mk hP; clear hb hP))
 go_ret
 exact ⟨m, rfl, HB2.out, HP2.out⟩
theorem C_intT_cell {k : IntKind} {w : World} {A : Option Addr} {n : Nat} {l : List Int} (h : (Kd.int k).C w A n l) (i : Nat) (hi : i < n) : ∃ ad, A = some ad ∧ w.cell? (ad.add i) = some (.int k (rd l (i : Int))) := by
 obtain ⟨ad, c, e1, hc, hK, hx⟩ := Kd.C_get h (0 : Int) (i : Int) (by omega) (by omega)
 subst e1
 exact ⟨ad, rfl, by have := Kd.foot_int h (i : Int) (by omega) (by omega); simpa using this⟩
set_option maxHeartbeats 2000000 in
set_option maxRecDepth 100000 in
theorem cloneT_calls (A : Option Addr) (c : Nat) (xs : List Int) (w : World) (hC : (Kd.int .i64).C w A xs.length xs) (h0 : 0 < xs.length) (h6 : xs.length ≤ 1048576) :
  Calls Try.prog 51 #[.slice A xs.length c] w fun e w' => ∃ v', e = .returned v' ∧ Kd.R (Kd.int .i64) 3 w' w.heap.size (fun _ => True) v' xs ∧ Below w.heap.size w w' := by
 obtain ⟨ad, rfl, -⟩ := hC.2.2 h0
 have i3 : (Try.prog.info? 3).map (fun i => (i.zero, i.size, i.bytes)) = some (some (.int .i64 0), 1, 8) := by kernel_rfl
 obtain ⟨i0, hi, hzz⟩ := Option.map_eq_some_iff.1 i3
 simp only [Prod.mk.injEq] at hzz
 obtain ⟨hz0, hz1, hz2⟩ := hzz
 have HC := zaa.mk hC
 have H6 := zaa.mk h6
 have H0 := zaa.mk h0
 have HI := zaa.mk hi
 have HZ0 := zaa.mk hz0
 have HZ1 := zaa.mk hz1
 have HZ2 := zaa.mk hz2
 clear hC h6 h0 i3 hi hz0 hz1 hz2
 have q22 : ∀ (w : World) (a : Option Addr) (n c n' c' : Nat), (binOp .eql 22 (.slice a n c) (.slice none n' c')).run Try.prog w = .ok (.bool a.isNone) w := fun w a n c n' c' => Lib.run_eql_slice_nil w _ _ a n c n' c' Try.underlying22
 go_enter Try.func51, Try.ntmps51
 go_wp2_with (at_builtin; refine wpList_append_own _ rfl _ _ 22 rfl w.heap.size 3 i0 (.int .i64 0) 1 8 Try.underlying22 HI.out HZ0.out HZ1.out HZ2.out rfl (by decide) _ _ _ rfl (World.ownsRow_made w #[] 0 (Nat.le_refl _) (Nat.zero_le _) rfl) ad xs.length c (encs (Value.int .i64) xs) rfl ?qc1 ?qc2 ?qc3 ?qc4 ?qc5 ?qc6 ?_)
 case qc1 => rw [encs_length, Nat.mul_one]
 case qc2 =>
  intro j u hj
  have hjn : j < xs.length := by
   have := (List.getElem?_eq_some_iff.1 hj).1
   rwa [encs_length] at this
  obtain ⟨ad', e1, hx⟩ := C_intT_cell HC.out j hjn
  cases e1
  refine Lib.cell?_alloc_some _ ?_
  rw [hx]
  have e2 : (encs (Value.int .i64) xs)[j]? = some (Value.int .i64 (rd xs (j : Int))) := by
   unfold rd
   simp [encs, List.getD, hjn, List.getElem?_eq_getElem hjn]
  rw [e2] at hj
  exact hj
 case qc3 => intro u hu; obtain ⟨x, _, rfl⟩ := List.mem_map.1 hu; rfl
 case qc4 => have := H6.out; unfold maxLen; omega
 case qc5 => have := H6.out; omega
 case qc6 => simp
 intro v' w1 hown hgrow hnil
 have HO := zaa.mk hown
 have HG := zaa.mk hgrow
 clear hown hgrow hnil
 go_wp2
 go_ret
 refine ⟨v', rfl, Kd.R_of_own (by simpa using HO.out) (fun _ _ => trivial), ?_⟩
 exact ((Below.refl _ w).alloc (Nat.le_refl _) _).grown HG.out (by simp) (by intro k hk; simp [Value.ownBlock] at hk; omega)
def slices_Clone_int_int.f (l0 : List Int) : Option (List Int) := if 0 < l0.length ∧ l0.length ≤ 1048576 then some l0 else none
theorem slices_Clone_int_int.calls (A0 : Option Addr) (c0 : Nat) (l0 : List Int) (r : List Int) (w : World) (hr0 : Kd.C (Kd.int .i64) w A0 l0.length l0) (hc0 : l0.length ≤ c0) (h : slices_Clone_int_int.f l0 = some r) :
  Calls Try.prog 51 #[.slice A0 l0.length c0] w fun e w' => ∃ v0_ : Value, e = .returned (v0_) ∧ Kd.R (Kd.int .i64) 3 w' w.heap.size (fun _ => True) v0_ r ∧ Below w.heap.size w w' := by
 unfold slices_Clone_int_int.f at h
 split at h
 ·rename_i hs
  have e := Option.some.inj h
  rw [← e]
  exact cloneT_calls A0 c0 l0 w hr0 hs.1 hs.2
 ·cases h
set_option maxHeartbeats 2000000 in
set_option maxRecDepth 100000 in
theorem growT_calls (n : Nat) (h1 : 1 ≤ n) (hn : n ≤ 1000) (w : World) : Calls Try.prog 50 #[.slice none 0 0, .int .i64 (n : Int)] w fun e w' => ∃ v', e = .returned v' ∧ Kd.R (Kd.int .i64) 3 w' w.heap.size (fun _ => True) v' [] ∧ Below w.heap.size w w' := by
 have n0 : (0 : Int) < (n : Int) := by omega
 have n1 : ¬ (n : Int) < 0 := by omega
 have HN := zaa.mk hn
 go_enter Try.func50, Try.ntmps50
 go_wp2_with (first
  | ((with_reducible refine gate_builtin (b := .append) (xs := #[.tmp 20, .tmp 21]) rfl ?_); at_builtin; refine Kd.R_append_zeros (Kd.int .i64) (w0 := w) w.heap.size rfl (.tmp 20) (.tmp 21) 22 3 3 (.int .i64 0) 8 rfl Try.underlying22 Try.underlying3 (by kernel_rfl) rfl (by decide) (by decide) (.slice none 0 0) [] 0 (n : Int) (fun _ => True) rfl rfl (by rfl) (fun _ _ => trivial) (Kd.R_nil _ _ _ _ _) (by omega) (Below.refl _ _) (Nat.le_refl _) (by have := HN.out; simp; omega) ?_; intro v1 w1 hr hb hg hat; obtain ⟨A1, c1, e1⟩ := Kd.R_slice hr; subst e1; have HR1 := zaa.mk hr; have HB1 := zaa.mk hb; clear hr hb hg hat))
 go_ret
 exact ⟨_, rfl, by have h := Kd.R_take HR1.out (m := 0) (Nat.zero_le _); simpa using h, HB1.out⟩
end Go.Proofs.Ytgiidlebnjbgeaa.Hd
namespace Go.Proofs.Ytgiidlebnjbgeaa.TR
open Go.Proofs.Ytgiidlebnjbgeaa.PB Go.Proofs.Ytgiidlebnjbgeaa.Hd
open Go.RowKit Go.PW.PrintWords Go.PW.PrintLast Go.PW.PrintMore
attribute [local go_sem] zca zby zcm zcl zbo zbn zbz zbx   -- for this text's walks alone
def errW : Option Int → Value
 | none => .nilIface
 | some c => .iface 0 (.int .i64 c)
theorem zan : errW none = .nilIface := rfl
theorem zam (c : Int) : errW (some c) = .iface 0 (.int .i64 c) := rfl
end Go.Proofs.Ytgiidlebnjbgeaa.TR
namespace Go.Proofs.Ytgiidlebnjbgeaa.TR
open Go.Proofs.Ytgiidlebnjbgeaa.PB Go.Proofs.Ytgiidlebnjbgeaa.Hd
open Go.RowKit Go.PW.PrintWords Go.PW.PrintLast Go.PW.PrintMore
attribute [local go_sem] zca zby zcm zcl zbo zbn zbz zbx   -- for this text's walks alone
def impl_raised.l0 : Nat → Int → List Int → Int → Int → Option (List Int)
 | 0, _, _, _, _ => none
 | k + 1, x1, x5, x10, x11 => if x11 < x10 then (if 0 ≤ x11 then (if x11 < (x5.length : Int) then (impl_raised.l0 k x1 (x5.set (x11 : Int).toNat (wrap64 ((rd x5 x11) + x1))) x10 (wrap64 (x11 + 1))) else (none)) else (none)) else (some x5)
def impl_raised.f (k : Nat) (l0 : List Int) (a1 : Int) : Option (List Int) := (slices_Clone_int_int.f l0).bind fun t101 => (impl_raised.l0 k a1 t101 (t101.length : Int) 0)
set_option maxHeartbeats 8000000 in
set_option maxRecDepth 100000 in
theorem impl_raised.calls (k : Nat) (A0 : Option Addr) (c0 : Nat) (l0 : List Int) (a1 : Int) (r : List Int) (w : World) (hr0 : Kd.C (Kd.int .i64) w A0 l0.length l0) (hc0 : l0.length ≤ c0) (h : impl_raised.f k l0 a1 = some r) :
  Calls Try.prog 41 #[.slice A0 l0.length c0, .int .i64 a1] w fun e w' => ∃ v0_ : Value, e = .returned (v0_) ∧ Kd.R (Kd.int .i64) 3 w' w.heap.size (fun _ => True) v0_ r ∧ Below w.heap.size w w' := by
 have HR0 := zaa.mk hr0
 have HC0 := zaa.mk hc0
 clear hr0 hc0
 have HB := zaa.mk (Below.refl w.heap.size w)
 have H : ((slices_Clone_int_int.f l0).bind fun t101 => (impl_raised.l0 k a1 t101 (t101.length : Int) 0)) = some r := h
 clear h
 replace H := Option.bind_eq_some_iff.mp H
 obtain ⟨t101, A30, H⟩ := H
 replace H : (impl_raised.l0 k a1 t101 (t101.length : Int) 0) = some r := H
 have A3 := zaa.mk A30
 clear A30
 have H' := zaa.mk H
 clear H
 go_enter Try.func41, Try.ntmps41
 go_wp2_with (first | ((with_reducible refine zal (f := 51) rfl ?_); refine zba (some 8) rfl rfl Try.func51 (by kernel_rfl) rfl #[.slice A0 l0.length c0] rfl (by (try simp only [List.map_toArray, List.map_cons, List.map_nil]); first | done | rfl | (simp only [List.length_drop, List.length_take]; rfl)) ?_; (with_reducible refine (slices_Clone_int_int.calls _ _ l0 t101 _ ?side1 ?side2 A3.out).mono ?_); (case side1 => repeat (first | exact HR0.out | (with_reducible refine Kd.C_alloc ?_ _) | (with_reducible refine Kd.C_drewN ?_ _) | (with_reducible refine Kd.C_drew ?_))); (case side2 => exact HC0.out); rintro e w4 ⟨v102, rfl, ho0, hb⟩; refine ⟨_, rfl, ?_⟩; have n0_ := zaa.mk (Kd.R_lower ho0 (zay (by repeat (first | (with_reducible first | exact HB.out | apply zab | apply zac | apply zad) | exact HB.out)))); have n1_ := zaa.mk (zae (by repeat (first | (with_reducible first | exact HB.out | apply zab | apply zac | apply zad) | exact HB.out)) hb); clear HB; have HO103 := n0_; have HB := n1_; clear n0_ n1_; (try clear hb); (try clear hb2); (try clear hk); (try clear hi); (try clear ho0); obtain ⟨Ao5, co5, eo5⟩ := Kd.R_slice HO103.out; subst eo5))
 go_loopg [11] k (fun kq v11 w' => ∃ (x5_1 : List Int) (x11_1 : Int), v11 = .int .i64 x11_1 ∧ zaa (impl_raised.l0 kq a1 x5_1 (t101.length : Int) x11_1 = some r) ∧ zaa (kq ≤ k) ∧ zaa (Kd.R (Kd.int .i64) 3 w' w.heap.size (fun _ => True) (.slice Ao5 t101.length co5) x5_1) ∧ zaa (Below w.heap.size w w'))
 case atStart => exact ⟨(t101), (0), (by first | rfl | (simp; done) | (simp [*]; done)), H', ⟨Nat.le_refl _⟩, ⟨by (with_reducible repeat (first | apply Kd.R_alloc | apply Kd.R_drewN | apply Kd.R_drew)); exact HO103.out⟩, ⟨by repeat (first | (with_reducible first | exact HB.out | apply zab | apply zac | apply zad) | exact HB.out)⟩⟩
 case round =>
  clear H'
  try clear p2
  try clear c4
  try clear c5
  obtain ⟨x5_1, x11_1, rfl, HA, HK1, HO_5, HB⟩ := hrel
  have hl5_1 := (Kd.R_reads' HO_5.out).1
  rw [hl5_1] at HO_5
  (try simp only [hl5_1])
  cases gk with
  | zero => exact absurd HA.out (by simp [impl_raised.l0])
  | succ k1 =>
   have H := HA.out
   clear HA
   simp only [impl_raised.l0] at H
   by_cases c6 : x11_1 < (t101.length : Int)
   ·rw [if_pos c6] at H
    have c6b0 : decide (x11_1 < (t101.length : Int)) = true := decide_eq_true c6
    clear c6
    by_cases c7 : 0 ≤ x11_1
    ·rw [if_pos c7] at H
     have c7b0 : decide (0 ≤ x11_1) = true := decide_eq_true c7
     clear c7
     by_cases c8 : x11_1 < (x5_1.length : Int)
     ·rw [if_pos c8] at H
      have c8b0 : decide (x11_1 < (x5_1.length : Int)) = true := decide_eq_true c8
      clear c8
      obtain ⟨y105, hy105⟩ : ∃ y_ : List Int, y_ = (x5_1.set (x11_1 : Int).toNat (wrap64 ((rd x5_1 x11_1) + a1))) := ⟨_, rfl⟩
      replace H : (impl_raised.l0 k1 a1 y105 (t101.length : Int) (wrap64 (x11_1 + 1))) = some r := by first | (rw [hy105]; with_reducible exact H) | (have H2_ := (Option.bind_some _ _).symm.trans H; rw [hy105]; with_reducible exact H2_) | (have H2_ := (Option.bind_some _ _).symm.trans H; with_reducible exact H2_) | with_reducible exact H | (rw [hy105]; exact H) | exact H
      have Ny105 := zaa.mk hy105
      clear hy105
      have H' := zaa.mk H
      clear H
      have p104 : 0 ≤ (x11_1 : Int) := of_decide_eq_true (by first | (with_reducible assumption) | assumption)
      have q104 : x11_1 < (x5_1.length : Int) := of_decide_eq_true (by first | (with_reducible assumption) | assumption)
      obtain ⟨ad104, e104, hx104_0⟩ := Kd.at_int (Kd.R_reads' HO_5.out).2.2 x11_1 p104 q104
      cases e104
      replace p104 := eq_true p104
      replace q104 := eq_true q104
      have p9 : 0 ≤ (x11_1 : Int) := of_decide_eq_true (by first | (with_reducible assumption) | assumption)
      have q9 : (x11_1 : Int) < ((x5_1.length : Int) : Int) := of_decide_eq_true (by first | (with_reducible assumption) | assumption)
      obtain ⟨go9, co9, eo9, gb9, gl9, cl9, HG9⟩ := Kd.R_form HO_5.out (by omega)
      (first | cases eo9 | (injection eo9 with ea_ en_ ec_; (first | subst ea_ | (injection ea_ with ea_; subst ea_)); subst ec_; clear en_))
      have GB9 := zaa.mk gb9
      have GG9 := zaa.mk HG9
      clear gb9 gl9 HG9
      (first | simp only [zcq] at hx104_0 | skip)
      obtain ⟨hx9_0, hf9_0⟩ := Kd.R_celln 0 HO_5.out (x11_1 : Int) p9 q9
      replace p9 := eq_true p9
      replace q9 := eq_true q9
      have HP10 := Kd.R_putg HO_5.out (x11_1 : Int) (wrap64 ((rd x5_1 x11_1) + a1))
      go_wp2_with (first | ((with_reducible refine gate_store (t := 3) (p := 20) rfl ?_); refine store_event (t := 3) (p := 20) (v := ?vo_w11) (w1 := (wr.setCell ⟨go9, (x11_1 : Int).toNat, none⟩ (.int .i64 (wrap64 ((rd x5_1 x11_1) + a1))))) ?hg ?ho ?hn ?hr ?_; (case ho => rfl); (case hg => rfl); (case hn => rfl); (case hr => first | (go_simp; done) | (go_simp; rfl)); intro w11 hw; have hg : wr.grownBy w11 (some go9) := (by rw [hw]; exact HP10.2); have hp_ : Kd.R (Kd.int .i64) 3 w11 w.heap.size (fun _ => True) (.slice (some ⟨go9, 0, none⟩) x5_1.length co5) y105 := (by rw [hw, Ny105.out]; exact HP10.1); clear HP10; have n0_ := zaa.mk (hp_); have n1_ := zaa.mk ((by rw [hw]; exact zah (HB.out) GB9.out : Below w.heap.size w w11)); clear HO_5; clear HB; have HO_5 := n0_; have HB := n1_; clear n0_ n1_; clear hg hw hp_))
      (try simp only [← hl5_1])
      go_roundg k1
      case measure => have := HK1.out; omega
      case rel => exact ⟨(y105), (wrap64 (x11_1 + 1)), (by first | rfl | (simp; done) | (simp [*]; done)), H', ⟨by have := HK1.out; omega⟩, ⟨by (try simp only [hl5_1]); (with_reducible repeat (first | apply Kd.R_alloc | apply Kd.R_drewN | apply Kd.R_drew)); exact HO_5.out⟩, ⟨by repeat (first | (with_reducible first | exact HB.out | apply zab | apply zac | apply zad) | exact HB.out)⟩⟩
     ·rw [if_neg c8] at H
      exact absurd H (by simp)
    ·rw [if_neg c7] at H
     exact absurd H (by simp)
   ·rw [if_neg c6] at H
    have c6b0 : decide (x11_1 < (t101.length : Int)) = false := decide_eq_false c6
    clear c6
    (try rw [hl5_1] at c6b0)
    obtain rfl := Option.some.inj H
    go_wp2
    go_ret
    exact ⟨_, by first | rfl | (simp [zan, zam] <;> rfl) | (simp [*, zan, zam] <;> rfl), by (with_reducible repeat (first | apply Kd.R_alloc | apply Kd.R_drewN | apply Kd.R_drew)); exact HO_5.out, by repeat (first | (with_reducible first | exact HB.out | apply zab | apply zac | apply zad) | exact HB.out)⟩
end Go.Proofs.Ytgiidlebnjbgeaa.TR
namespace Go.Proofs.Ytgiidlebnjbgeaa.Hd
open Go.RowKit Go.PW.PrintWords Go.PW.PrintLast Go.PW.PrintMore Go.Proofs.Ytgiidlebnjbgeaa.PB Go.Proofs.Ytgiidlebnjbgeaa.TR
theorem raised_l0 (l : List Int) (n : Nat) (hl : l.length ≤ 100000) (hn : n ≤ 100000) (hx : ∀ x ∈ l, 0 ≤ x ∧ x ≤ 100000) : ∀ m i, i + m = l.length → Evs (fun k => impl_raised.l0 k (n : Int) (zbu (l.take i) n ++ l.drop i) (l.length : Int) (i : Int)) (zbu l n) := by
 intro m
 induction m with
 | zero =>
  intro i hi
  rw [List.take_of_length_le (by omega), List.drop_eq_nil_of_le (by omega), List.append_nil]
  refine Evs.step (h := fun _ => some (zbu l n)) (fun k => ?_) (Evs.const _)
  conv => lhs; unfold impl_raised.l0
  rw [if_neg (by omega)]
 | succ m ih =>
  intro i hi
  have hget : l[i]? = some l[i] := List.getElem?_eq_getElem (by omega)
  have hr := hx l[i] (List.getElem_mem (by omega))
  have hnx := ih (i + 1) (by omega)
  have hli : (zbu (l.take i) n).length = i := by rw [zbl, List.length_take]; omega
  have hd : l.drop i = l[i] :: l.drop (i + 1) := List.drop_eq_getElem_cons (by omega)
  have e0 : (zbu (l.take i) n ++ l.drop i)[i]? = some l[i] := by rw [hd, List.getElem?_append_right (by omega), hli, Nat.sub_self]; rfl
  have e1 : rd (zbu (l.take i) n ++ l.drop i) (i : Int) = l[i] := by unfold rd; rw [Int.toNat_natCast, List.getD_eq_getElem?_getD, e0]; rfl
  have e2 : wrap64 ((i : Int) + 1) = ((i + 1 : Nat) : Int) := by rw [wrapT (by omega) (by omega)]; omega
  have e3 : wrap64 (l[i] + (n : Int)) = l[i] + (n : Int) := wrapT (by omega) (by omega)
  have es : (zbu (l.take i) n ++ l.drop i).set i (l[i] + (n : Int)) = zbu (l.take (i + 1)) n ++ l.drop (i + 1) := by
   rw [hd, List.set_append_right _ _ (by omega), hli, Nat.sub_self, List.set_cons_zero]
   unfold zbu
   rw [List.take_add_one, hget, List.map_append, List.append_assoc]
   rfl
  have hlen : (zbu (l.take i) n ++ l.drop i).length = l.length := by rw [List.length_append, hli, List.length_drop]; omega
  rw [← es] at hnx
  refine Evs.step (h := fun k => impl_raised.l0 k (n : Int) ((zbu (l.take i) n ++ l.drop i).set i (l[i] + (n : Int))) (l.length : Int) ((i + 1 : Nat) : Int)) (fun k => ?_) hnx
  conv => lhs; unfold impl_raised.l0
  rw [if_pos (by omega), if_pos (by omega), if_pos (by omega), e1, e2, e3, Int.toNat_natCast]
theorem raised_ev (l : List Int) (n : Nat) (h1 : 1 ≤ l.length) (hl : l.length ≤ 100000) (hn : n ≤ 100000) (hx : ∀ x ∈ l, 0 ≤ x ∧ x ≤ 100000) : Evs (fun k => impl_raised.f k l (n : Int)) (zbu l n) := by
 refine Evs.bindS (b := l) (by unfold slices_Clone_int_int.f; rw [if_pos (by omega)]) ?_
 exact raised_l0 l n hl hn hx l.length 0 (by omega)
def sz2 (a b : Nat) (i : Nat) : Nat := if i = 0 then 0 else if i = 1 then a else a + b
def cat2 (a b : List Int) (i : Nat) : List Int := if i = 0 then [] else if i = 1 then a else a ++ b
set_option maxHeartbeats 400000 in
set_option maxRecDepth 100000 in
theorem concat_calls (w : World) (g : Nat) (A1 A2 : Option Addr) (c1 c2 : Nat) (a b : List Int) (hk : w.heap[g]? = some (.cells #[.slice A1 a.length c1, .slice A2 b.length c2] 22 (0, 0))) (ha : (Kd.int .i64).C w A1 a.length a) (hb : (Kd.int .i64).C w A2 b.length b) (hl1 : a.length ≤ c1) (hl2 : b.length ≤ c2) (hs : a.length + b.length ≤ 1000) (h1 : 1 ≤ a.length) :
  Calls Try.prog 40 #[.slice (some ⟨g, 0, none⟩) 2 2] w fun e w' => ∃ v', e = .returned v' ∧ Kd.R (Kd.int .i64) 3 w' w.heap.size (fun _ => True) v' (a ++ b) ∧ Below w.heap.size w w' := by
 have x0 : w.cell? ⟨g, 0, none⟩ = some (.slice A1 a.length c1) := (zaf hk 0).trans rfl
 have x1 : w.cell? ⟨g, 1, none⟩ = some (.slice A2 b.length c2) := (zaf hk 1).trans rfl
 have HA := zaa.mk ha
 have HBb := zaa.mk hb
 have HS := zaa.mk hs
 have H1 := zaa.mk h1
 clear hk ha hb
 go_enter Try.func40, Try.ntmps40
 go_upto_region 3 with (fail)
 go_loopg [3, 11] 2 (fun kq v3 v11 w' => ∃ i : Nat, v3 = .int .i64 (sz2 a.length b.length i : Int) ∧ v11 = .int .i64 (i : Int) ∧ zaa (i + kq = 2) ∧ zaa (Below w.heap.size w w'))
 case atStart => exact ⟨0, rfl, rfl, ⟨rfl⟩, ⟨Below.refl _ _⟩⟩
 case round =>
  obtain ⟨i, rfl, rfl, HI, HBl⟩ := hrel
  have z0 := zag HBl.out x0
  have z1 := zag HBl.out x1
  rcases (show i = 0 ∨ i = 1 ∨ i = 2 by have := HI.out; omega) with rfl | rfl | rfl
  ·have e0 : sz2 a.length b.length 0 = 0 := rfl
   rw [e0]
   have y0 : ¬ (a.length : Int) < 0 := by omega
   go_wp2
   go_roundg (2 - 1)
   case measure => have := HI.out; omega
   case rel => exact ⟨1, by first | rfl | (simp [sz2]; done), by rfl, ⟨by have := HI.out; omega⟩, HBl⟩
  ·have e0 : sz2 a.length b.length 1 = a.length := rfl
   rw [e0]
   have y0 : ¬ (a.length : Int) + (b.length : Int) < 0 := by omega
   go_wp2
   go_roundg (2 - 2)
   case measure => have := HI.out; omega
   case rel => exact ⟨2, by first | rfl | (simp [sz2]; done), by rfl, ⟨by have := HI.out; omega⟩, HBl⟩
  ·have e0 : sz2 a.length b.length 2 = a.length + b.length := rfl
   rw [e0]
   obtain ⟨n, hn⟩ : ∃ n, n = a.length + b.length := ⟨_, rfl⟩
   rw [← hn]
   have HGr := zaa.mk (growT_calls n (by omega) (by omega) wr)
   clear hn
   go_upto_region 11 with (first
    | (go_at_call 50; refine HGr.out.mono ?_; rintro e w3 ⟨v3, rfl, hr, hb⟩; obtain ⟨A3, c3, e3⟩ := Kd.R_slice hr; subst e3; have HR3 := zaa.mk (Kd.R_lower hr HBl.out.size); have HB3 := zaa.mk (zae HBl.out hb); clear hr hb))
   go_loopg [6, 27] 2 (fun kq v6 v27 w' => ∃ (i : Nat) (A : Option Addr) (c : Nat), v6 = .slice A (cat2 a b i).length c ∧ v27 = .int .i64 (i : Int) ∧ zaa (i + kq = 2) ∧ zaa (Kd.R (Kd.int .i64) 3 w' w.heap.size (fun _ => True) (.slice A (cat2 a b i).length c) (cat2 a b i)) ∧ zaa (Below w.heap.size w w'))
   case atStart => exact ⟨0, A3, c3, rfl, rfl, ⟨rfl⟩, HR3, HB3⟩
   case round =>
    clear HR3 HB3 HI HBl z0 z1
    obtain ⟨i, Av, cv, rfl, rfl, HI, HR, HBl⟩ := hrel
    have z0 := zag HBl.out x0
    have z1 := zag HBl.out x1
    rcases (show i = 0 ∨ i = 1 ∨ i = 2 by have := HI.out; omega) with rfl | rfl | rfl
    ·have HRi := zaa.mk (show Kd.R (Kd.int .i64) 3 wr w.heap.size (fun _ => True) (.slice Av 0 cv) ([] : List Int) from HR.out)
     clear HR
     have ec : (cat2 a b 0).length = 0 := rfl
     rw [ec]
     go_wp2_with (first
      | ((with_reducible refine gate_builtin (b := .append) (xs := #[.tmp 31, .tmp 32]) rfl ?_); at_builtin; refine Kd.R_append_row (Value.int .i64) (0 : Int) (h1 := fun _ => rfl) (w0 := w) w.heap.size rfl (.tmp 31) (.tmp 32) 22 3 (.int .i64 0) 8 rfl Try.underlying22 info3 rfl (by decide) (.slice Av 0 cv) ([] : List Int) a A1 a.length c1 (fun _ => True) rfl rfl (fun _ _ => trivial) HRi.out (Kd.C_below HA.out HBl.out) HBl.out HBl.out.size (by have := HS.out; first | omega | (simp; omega)) ?_; intro v1 w1 ho hb hg hat; obtain ⟨Aw, cw, ew⟩ := Kd.R_slice ho; subst ew; have HR1 := zaa.mk ho; have HB1 := zaa.mk hb; clear ho hb hg hat))
     go_roundg (2 - 1)
     case measure => have := HI.out; omega
     case rel => exact ⟨1, Aw, cw, by first | rfl | (simp [cat2]; done), by rfl, ⟨by have := HI.out; omega⟩, ⟨by have h := HR1.out; first | exact h | (simpa [cat2] using h)⟩, HB1⟩
    ·have HRi := zaa.mk (show Kd.R (Kd.int .i64) 3 wr w.heap.size (fun _ => True) (.slice Av a.length cv) (a) from HR.out)
     clear HR
     have ec : (cat2 a b 1).length = a.length := rfl
     rw [ec]
     go_wp2_with (first
      | ((with_reducible refine gate_builtin (b := .append) (xs := #[.tmp 31, .tmp 32]) rfl ?_); at_builtin; refine Kd.R_append_row (Value.int .i64) (0 : Int) (h1 := fun _ => rfl) (w0 := w) w.heap.size rfl (.tmp 31) (.tmp 32) 22 3 (.int .i64 0) 8 rfl Try.underlying22 info3 rfl (by decide) (.slice Av a.length cv) (a) b A2 b.length c2 (fun _ => True) rfl rfl (fun _ _ => trivial) HRi.out (Kd.C_below HBb.out HBl.out) HBl.out HBl.out.size (by have := HS.out; first | omega | (simp; omega)) ?_; intro v1 w1 ho hb hg hat; obtain ⟨Aw, cw, ew⟩ := Kd.R_slice ho; subst ew; have HR1 := zaa.mk ho; have HB1 := zaa.mk hb; clear ho hb hg hat))
     go_roundg (2 - 2)
     case measure => have := HI.out; omega
     case rel => exact ⟨2, Aw, cw, by first | rfl | (simp [cat2]; done), by rfl, ⟨by have := HI.out; omega⟩, ⟨by have h := HR1.out; first | exact h | (simpa [cat2] using h)⟩, HB1⟩
    ·have HRi := zaa.mk (show Kd.R (Kd.int .i64) 3 wr w.heap.size (fun _ => True) (.slice Av (a ++ b).length cv) (a ++ b) from HR.out)
     clear HR
     have ec : (cat2 a b 2).length = (a ++ b).length := rfl
     rw [ec]
     go_wp2
     go_ret
     exact ⟨_, rfl, by have h := HRi.out; simpa using h, HBl.out⟩
def PermI (w : World) (t : Tr) (e : Ending) (w' : World) : Prop := ∃ v', e = .returned v' ∧ Kd.R (Kd.int .i64) 3 w' w.heap.size (fun _ => True) v' (zbf t) ∧ Below w.heap.size w w'
set_option maxHeartbeats 400000 in
set_option maxRecDepth 100000 in
theorem permI_calls : ∀ (t : Tr), t.tidy = true → t.nodes ≤ 100 → ∀ (w : World) (p : Nat), PtA w t p → Calls Try.prog 24 #[.pointer (some ⟨p, 0, none⟩)] w (PermI w t) := by
 intro t
 induction t with
 | un c t ih => intro h; cases h
 | o =>
  intro _ _ w p hP
  obtain ⟨-, hk⟩ := hP
  have x1 : w.cell? ⟨p, 1, none⟩ = some (.slice none 0 0) := (zaf hk 1).trans rfl
  clear hk
  go_enter Try.func24, Try.ntmps24
  go_wp2_with (first
   | ((with_reducible refine zbi (N := 11) rfl ?_); refine Kd.R_lit (Kd.int .i64) _ 3 ?hg (N := 11) ?hd (xs := ([0] : List Int)) (inner := [.int .i64 0]) (ok := fun _ => True) (okp := fun _ => True) ?hr ?hp (fun _ hk => hk) trivial (Below.refl _ _) (Nat.le_refl _) (by simp) ?_; (case hd => rfl); (case hg => rfl); (case hr => first | (go_simp; done) | (go_simp; rfl)); (case hp => exact (Reps.one (show Kd.M (Kd.int .i64) _ _ _ 0 [.int .i64 0] from rfl) (Reps.none _ _))); intro v5 w5 ho hb hg_ hnew_; clear hg_ hnew_; have HR5 := zaa.mk ho; have HB5 := zaa.mk hb; clear ho hb))
  go_ret
  exact ⟨_, rfl, HR5.out, HB5.out⟩
 | bin s x y ihx ihy =>
  intro htd hn w p hP
  simp only [Tr.tidy, Bool.and_eq_true] at htd
  simp only [Tr.nodes] at hn
  obtain ⟨-, q, k, l, hk, -, hk2, hPk, hPl⟩ := hP
  have HX := zaa.mk (fun w p h => ihx htd.1 (by omega) w p h)
  have HY := zaa.mk (fun w p h => ihy htd.2 (by omega) w p h)
  have hla := zcd x
  have hlb := zcd y
  have HLen := zaa.mk (show (zbf x).length + (zbf y).length ≤ 200 ∧ 1 ≤ (zbf x).length ∧ 1 ≤ (zbf y).length by omega)
  obtain ⟨K, hK⟩ := raised_ev (zbf y) (zbf x).length (by omega) (by omega) (by omega) (fun z hz => by have := permR_range y z hz; omega)
  have HRa := zaa.mk (hK K (Nat.le_refl K))
  have HDef := zaa.mk (show zbf (.bin s x y) = if s then zbf x ++ zbu (zbf y) (zbf x).length else zbu (zbf y) (zbf x).length ++ zbf x by cases s <;> rfl)
  have x0 : w.cell? ⟨p, 0, none⟩ = some (.int .u8 (binC s)) := (zaf hk 0).trans rfl
  have x1 : w.cell? ⟨p, 1, none⟩ = some (.slice (some ⟨q, 0, none⟩) 2 2) := (zaf hk 1).trans rfl
  have x2 : w.cell? ⟨q, 0, none⟩ = some (.pointer (some ⟨k, 0, none⟩)) := (zaf hk2 0).trans rfl
  have x3 : w.cell? ⟨q, 1, none⟩ = some (.pointer (some ⟨l, 0, none⟩)) := (zaf hk2 1).trans rfl
  have HPk := zaa.mk hPk
  have HPl := zaa.mk hPl
  have HX0 := zaa.mk x0
  clear hk hk2 hPk hPl hn ihx ihy htd hla hlb hK x0
  unfold PermI at HX HY
  unfold PermI
  obtain ⟨res, hres⟩ : ∃ res, res = zbf (.bin s x y) := ⟨_, rfl⟩
  rw [← hres]
  have HRes := zaa.mk (hres.trans HDef.out)
  clear HDef hres
  generalize zbf x = a at *
  generalize zbf y = b at *
  go_enter Try.func24, Try.ntmps24
  go_upto_region 3 with (fail)
  refine start_ (n := 16) (S := fun w' => (w'.cell? ⟨p, 1, none⟩ = some (.slice (some ⟨q, 0, none⟩) 2 2)) ∧ (w'.cell? ⟨q, 0, none⟩ = some (.pointer (some ⟨k, 0, none⟩))) ∧ (w'.cell? ⟨q, 1, none⟩ = some (.pointer (some ⟨l, 0, none⟩))) ∧ (PtA w' x k) ∧ (PtA w' y l) ∧ (Below w.heap.size w w')) (ds := []) #[false, false, false, false, false, false, false, false, false, false, false, false, false, false, false, false] (by kernel_rfl) rfl rfl (⟨x1, x2, x3, HPk.out.drew, HPl.out.drew, zbh (Below.refl _ _)⟩) (fun hHeld => ?_)
  clear x1 x2 x3
  refine zaw (i := 0) (N := some 12) (v := ?_) (a' := ?_) #[true, false, false, false, false, false, false, false, false, false, false, false, false, false, false, false] rfl rfl (by kernel_rfl) (fun _ _ _ h => h) (Or.inl ⟨by rfl, ?_⟩) ?_ ?_
  rotate_left
  ·intro w'
   go_simp
   with_reducible rfl
  rotate_left
  ·simp only [Act.put, List.setIfInBounds_toArray, List.set_cons_zero, List.set_cons_succ, zap, zaq]
   rfl
  refine zaw (i := 1) (N := some 13) (v := ?_) (a' := ?_) #[true, true, false, false, false, false, false, false, false, false, false, false, false, false, false, false] rfl rfl (by kernel_rfl) (fun _ _ _ h => h) (Or.inl ⟨by rfl, ?_⟩) ?_ ?_
  rotate_left
  ·intro w'
   go_simp
   with_reducible rfl
  rotate_left
  ·simp only [Act.put, List.setIfInBounds_toArray, List.set_cons_zero, List.set_cons_succ, zap, zaq]
   rfl
  refine zaw (i := 2) (N := some 14) (v := ?_) (a' := ?_) #[true, true, true, false, false, false, false, false, false, false, false, false, false, false, false, false] rfl rfl (by kernel_rfl) (fun _ _ _ h => h) (Or.inl ⟨by rfl, ?_⟩) ?_ ?_
  rotate_left
  ·intro w'
   go_simp
   with_reducible rfl
  rotate_left
  ·simp only [Act.put, List.setIfInBounds_toArray, List.set_cons_zero, List.set_cons_succ, zap, zaq]
   rfl
  refine take_ (i := 3) (N := some 15) (v := ?_) (a' := ?_) #[true, true, true, true, false, false, false, false, false, false, false, false, false, false, false, false] rfl rfl (by kernel_rfl) (fun _ _ _ h => h) (Or.inl ⟨by rfl, ?_⟩) hHeld ?_ ?_
  rotate_left
  ·rintro w' ⟨s0, s1, s2, s3, s4, s5⟩
   go_simp
   with_reducible rfl
  rotate_left
  ·simp only [Act.put, List.setIfInBounds_toArray, List.set_cons_zero, List.set_cons_succ, zap, zaq]
   rfl
  refine zaw (i := 4) (N := some 16) (v := ?_) (a' := ?_) #[true, true, true, true, true, false, false, false, false, false, false, false, false, false, false, false] rfl rfl (by kernel_rfl) (fun _ _ _ h => h) (Or.inl ⟨by rfl, ?_⟩) ?_ ?_
  rotate_left
  ·intro w'
   go_simp
   with_reducible rfl
  rotate_left
  ·simp only [Act.put, List.setIfInBounds_toArray, List.set_cons_zero, List.set_cons_succ, zap, zaq]
   rfl
  refine take_ (i := 5) (N := some 17) (v := ?_) (a' := ?_) #[true, true, true, true, true, true, false, false, false, false, false, false, false, false, false, false] rfl rfl (by kernel_rfl) (fun _ _ _ h => h) (Or.inl ⟨by rfl, ?_⟩) hHeld ?_ ?_
  rotate_left
  ·rintro w' ⟨s0, s1, s2, s3, s4, s5⟩
   go_simp
   with_reducible rfl
  rotate_left
  ·simp only [Act.put, List.setIfInBounds_toArray, List.set_cons_zero, List.set_cons_succ, zap, zaq]
   rfl
  refine zaw (i := 7) (N := some 19) (v := ?_) (a' := ?_) #[true, true, true, true, true, true, false, true, false, false, false, false, false, false, false, false] rfl rfl (by kernel_rfl) (fun _ _ _ h => h) (Or.inl ⟨by rfl, ?_⟩) ?_ ?_
  rotate_left
  ·intro w'
   go_simp
   with_reducible rfl
  rotate_left
  ·simp only [Act.put, List.setIfInBounds_toArray, List.set_cons_zero, List.set_cons_succ, zap, zaq]
   rfl
  refine zaw (i := 8) (N := some 20) (v := ?_) (a' := ?_) #[true, true, true, true, true, true, false, true, true, false, false, false, false, false, false, false] rfl rfl (by kernel_rfl) (fun _ _ _ h => h) (Or.inl ⟨by rfl, ?_⟩) ?_ ?_
  rotate_left
  ·intro w'
   go_simp
   with_reducible rfl
  rotate_left
  ·simp only [Act.put, List.setIfInBounds_toArray, List.set_cons_zero, List.set_cons_succ, zap, zaq]
   rfl
  refine zaw (i := 9) (N := some 21) (v := ?_) (a' := ?_) #[true, true, true, true, true, true, false, true, true, true, false, false, false, false, false, false] rfl rfl (by kernel_rfl) (fun _ _ _ h => h) (Or.inl ⟨by rfl, ?_⟩) ?_ ?_
  rotate_left
  ·intro w'
   go_simp
   with_reducible rfl
  rotate_left
  ·simp only [Act.put, List.setIfInBounds_toArray, List.set_cons_zero, List.set_cons_succ, zap, zaq]
   rfl
  refine take_ (i := 10) (N := some 22) (v := ?_) (a' := ?_) #[true, true, true, true, true, true, false, true, true, true, true, false, false, false, false, false] rfl rfl (by kernel_rfl) (fun _ _ _ h => h) (Or.inl ⟨by rfl, ?_⟩) hHeld ?_ ?_
  rotate_left
  ·rintro w' ⟨s0, s1, s2, s3, s4, s5⟩
   go_simp
   with_reducible rfl
  rotate_left
  ·simp only [Act.put, List.setIfInBounds_toArray, List.set_cons_zero, List.set_cons_succ, zap, zaq]
   rfl
  refine zaw (i := 11) (N := some 23) (v := ?_) (a' := ?_) #[true, true, true, true, true, true, false, true, true, true, true, true, false, false, false, false] rfl rfl (by kernel_rfl) (fun _ _ _ h => h) (Or.inl ⟨by rfl, ?_⟩) ?_ ?_
  rotate_left
  ·intro w'
   go_simp
   with_reducible rfl
  rotate_left
  ·simp only [Act.put, List.setIfInBounds_toArray, List.set_cons_zero, List.set_cons_succ, zap, zaq]
   rfl
  refine take_ (i := 12) (N := some 24) (v := ?_) (a' := ?_) #[true, true, true, true, true, true, false, true, true, true, true, true, true, false, false, false] rfl rfl (by kernel_rfl) (fun _ _ _ h => h) (Or.inl ⟨by rfl, ?_⟩) hHeld ?_ ?_
  rotate_left
  ·rintro w' ⟨s0, s1, s2, s3, s4, s5⟩
   go_simp
   with_reducible rfl
  rotate_left
  ·simp only [Act.put, List.setIfInBounds_toArray, List.set_cons_zero, List.set_cons_succ, zap, zaq]
   rfl
  refine one_ (i := 6) (N := some 18) #[true, true, true, true, true, true, true, true, true, true, true, true, true, false, false, false] rfl rfl (by kernel_rfl) (by decide) (fun K hK => ?_)
  refine goes_ Try.func24 (by kernel_rfl) rfl #[.pointer (some ⟨k, 0, none⟩)] (by rfl) rfl rfl (by (try simp only [List.map_toArray, List.map_cons, List.map_nil]); first | done | rfl) ?_
  have hs_ := hHeld
  obtain ⟨s0, s1, s2, s3, s4, s5⟩ := hs_
  refine (HX.out _ k s3).mono ?_
  rintro e w2 ⟨v1, rfl, hr1, hb⟩
  obtain ⟨A1, c1, e1, hl1, hC1⟩ := Kd.R_reads hr1
  subst e1
  have HC12 := zaa.mk hC1
  have HL1 := zaa.mk hl1
  clear hr1 hl1 hC1
  refine ⟨_, rfl, ?_⟩
  refine hK.out _ _ ⟨zag hb s0, zag hb s1, zag hb s2, PtAt.below s3 hb, PtAt.below s4 hb, zae s5 hb⟩ (fun hHeld => ?_)
  clear hK K hb s0 s1 s2 s3 s4 s5
  refine norm_ (a' := ?_) ?_ ?_
  rotate_left
  ·show Act.put _ (some 18) _ = _
   simp only [Act.put, List.setIfInBounds_toArray, List.set_cons_zero, List.set_cons_succ, zap, zaq]
   rfl
  refine one_ (i := 13) (N := some 25) #[true, true, true, true, true, true, true, true, true, true, true, true, true, true, false, false] rfl rfl (by kernel_rfl) (by decide) (fun K hK => ?_)
  refine goes_ Try.func24 (by kernel_rfl) rfl #[.pointer (some ⟨l, 0, none⟩)] (by rfl) rfl rfl (by (try simp only [List.map_toArray, List.map_cons, List.map_nil]); first | done | rfl) ?_
  have hs_ := hHeld
  obtain ⟨s0, s1, s2, s3, s4, s5⟩ := hs_
  refine (HY.out _ l s4).mono ?_
  rintro e w3 ⟨v2, rfl, hr2, hb⟩
  obtain ⟨A2, c2, e2, hl2, hC2⟩ := Kd.R_reads hr2
  subst e2
  have HC1 := zaa.mk (Kd.C_below HC12.out hb)
  have HC2 := zaa.mk hC2
  have HL2 := zaa.mk hl2
  have HB3 := zaa.mk (zae s5 hb)
  clear hr2 hl2 hC2
  refine ⟨_, rfl, ?_⟩
  refine hK.out _ _ ⟨zag hb s0, zag hb s1, zag hb s2, PtAt.below s3 hb, PtAt.below s4 hb, zae s5 hb⟩ (fun hHeld => ?_)
  clear hK K hb s0 s1 s2 s3 s4 s5
  refine norm_ (a' := ?_) ?_ ?_
  rotate_left
  ·show Act.put _ (some 25) _ = _
   simp only [Act.put, List.setIfInBounds_toArray, List.set_cons_zero, List.set_cons_succ, zap, zaq]
   rfl
  refine zaw (i := 14) (N := some 3) (v := ?_) (a' := ?_) #[true, true, true, true, true, true, true, true, true, true, true, true, true, true, true, false] rfl rfl (by kernel_rfl) (fun _ _ _ h => h) (Or.inl ⟨by rfl, ?_⟩) ?_ ?_
  rotate_left
  ·intro w'
   go_simp
   with_reducible rfl
  rotate_left
  ·simp only [Act.put, List.setIfInBounds_toArray, List.set_cons_zero, List.set_cons_succ, zap, zaq]
   rfl
  refine zaw (i := 15) (N := some 4) (v := ?_) (a' := ?_) #[true, true, true, true, true, true, true, true, true, true, true, true, true, true, true, true] rfl rfl (by kernel_rfl) (fun _ _ _ h => h) (Or.inl ⟨by rfl, ?_⟩) ?_ ?_
  rotate_left
  ·intro w'
   go_simp
   with_reducible rfl
  rotate_left
  ·simp only [Act.put, List.setIfInBounds_toArray, List.set_cons_zero, List.set_cons_succ, zap, zaq]
   rfl
  refine done_ (by kernel_rfl) ?_
  have hsgn := zag HB3.out HX0.out
  clear HX0
  obtain ⟨u, hu⟩ : ∃ u, u = binC s := ⟨_, rfl⟩
  rw [← hu] at hsgn
  have x0 := hsgn
  cases s with
  | true =>
   replace hu : u = 124 := hu
   subst hu
   clear hsgn
   go_wp2_with (first
    | (go_at_call 41; refine (impl_raised.calls K A2 c2 b (a.length : Int) (zbu b a.length) _ HC2.out HL2.out HRa.out).mono ?_; rintro e w4 ⟨v4, rfl, hr, hb⟩; obtain ⟨A4, c4, e4, hl4, hC4⟩ := Kd.R_reads hr; subst e4; have HB4 := zaa.mk (zae HB3.out hb); have HC4 := zaa.mk hC4; have HL4 := zaa.mk hl4; have HC14 := zaa.mk (Kd.C_below HC1.out hb); clear hr hb hl4 hC4)
    | ((with_reducible refine zbi (N := 36) rfl ?_); refine zbw ?hg (N := 36) ?hd (n := 2) (cs := #[.slice A1 a.length c1, .slice A4 (zbu b a.length).length c4]) (t := 22) ?hr ?_; (case hd => rfl); (case hg => rfl); (case hr => first | (go_simp; done) | (go_simp; rfl)); intro pb hpb w5 hk hb; have HKb := zaa.mk hk; have HB5 := zaa.mk (zae HB4.out hb); have HC15 := zaa.mk (Kd.C_below HC14.out hb); have HC45 := zaa.mk (Kd.C_below HC4.out hb); clear hk hb hpb)
    | (go_at_call 40; refine (concat_calls _ pb A1 A4 c1 c4 a (zbu b a.length) HKb.out HC15.out HC45.out HL1.out HL4.out (by have := HLen.out; rw [zbl]; omega) (by have := HLen.out; first | omega | (rw [zbl]; omega))).mono ?_; rintro e w6 ⟨v6, rfl, hr, hb⟩; have HR6 := zaa.mk (Kd.R_lower hr HB5.out.size); have HB6 := zaa.mk (zae HB5.out hb); clear hr hb))
   go_ret
   have hr : res = a ++ zbu b a.length := HRes.out
   rw [hr]
   exact ⟨_, rfl, HR6.out, HB6.out⟩
  | false =>
   replace hu : u = 45 := hu
   subst hu
   clear hsgn
   go_wp2_with (first
    | (go_at_call 41; refine (impl_raised.calls K A2 c2 b (a.length : Int) (zbu b a.length) _ HC2.out HL2.out HRa.out).mono ?_; rintro e w4 ⟨v4, rfl, hr, hb⟩; obtain ⟨A4, c4, e4, hl4, hC4⟩ := Kd.R_reads hr; subst e4; have HB4 := zaa.mk (zae HB3.out hb); have HC4 := zaa.mk hC4; have HL4 := zaa.mk hl4; have HC14 := zaa.mk (Kd.C_below HC1.out hb); clear hr hb hl4 hC4)
    | ((with_reducible refine zbi (N := 43) rfl ?_); refine zbw ?hg (N := 43) ?hd (n := 2) (cs := #[.slice A4 (zbu b a.length).length c4, .slice A1 a.length c1]) (t := 22) ?hr ?_; (case hd => rfl); (case hg => rfl); (case hr => first | (go_simp; done) | (go_simp; rfl)); intro pb hpb w5 hk hb; have HKb := zaa.mk hk; have HB5 := zaa.mk (zae HB4.out hb); have HC15 := zaa.mk (Kd.C_below HC14.out hb); have HC45 := zaa.mk (Kd.C_below HC4.out hb); clear hk hb hpb)
    | (go_at_call 40; refine (concat_calls _ pb A4 A1 c4 c1 (zbu b a.length) a HKb.out HC45.out HC15.out HL4.out HL1.out (by have := HLen.out; rw [zbl]; omega) (by have := HLen.out; first | omega | (rw [zbl]; omega))).mono ?_; rintro e w6 ⟨v6, rfl, hr, hb⟩; have HR6 := zaa.mk (Kd.R_lower hr HB5.out.size); have HB6 := zaa.mk (zae HB5.out hb); clear hr hb))
   go_ret
   have hr : res = zbu b a.length ++ a := HRes.out
   rw [hr]
   exact ⟨_, rfl, HR6.out, HB6.out⟩
def impl_TermPerm.f (s : ByteArray) : Option (List Int × Bool) := if s.size ≤ 1048576 then some (zbg s) else none
set_option maxHeartbeats 400000 in
set_option maxRecDepth 100000 in
theorem implPerm_calls (s : ByteArray) (hs : s.size ≤ 1048576) (w : World) : Calls Try.prog 8 #[.string s] w (PermRes w (zbg s)) := by
 have HOf := zaa.mk (termOf_calls s hs w)
 cases hof : ofR s with
 | none =>
  have HR := zaa.mk (show zbg s = ([], false) by unfold zbg; rw [hof])
  rw [hof] at HOf
  clear hof
  go_enter Try.func8, Try.ntmps8
  go_wp2_with (first
   | (go_at_call 22; refine HOf.out.mono ?_; rintro e w2 ⟨q, rfl, hb, hres⟩; replace hres : q = none := hres; subst hres; have HB2 := zaa.mk hb; clear hb))
  go_ret2
  rw [HR.out]
  exact ⟨_, rfl, Kd.R_nil _ _ _ _ _, HB2.out⟩
 | some t =>
  have HR := zaa.mk (show zbg s = (zbf (tid t), true) by unfold zbg; rw [hof])
  have HN := zaa.mk (show (tid t).nodes ≤ 100 by have := ofR_nodes hof; have := zcn t; omega)
  rw [hof] at HOf
  clear hof
  go_enter Try.func8, Try.ntmps8
  go_wp2_with (first
   | (go_at_call 22; refine HOf.out.mono ?_; rintro e w2 ⟨q, rfl, hb, hres⟩; replace hres : ∃ p, q = some ⟨p, 0, none⟩ ∧ PtAt w2 (fun _ => True) t p := hres; obtain ⟨p, rfl, hP⟩ := hres; have HB2 := zaa.mk hb; have HP2 := zaa.mk hP; clear hb hP)
   | (go_at_call 23; refine (tidy_calls t _ p HP2.out).mono ?_; rintro e w3 ⟨m, rfl, hb, hP⟩; have HB3 := zaa.mk (zae HB2.out hb); have HP3 := zaa.mk hP; clear hb hP)
   | (go_at_call 24; refine (permI_calls (tid t) (zbm t) HN.out _ m HP3.out).mono ?_; rintro e w4 ⟨v4, rfl, hr, hb⟩; have HR4 := zaa.mk (Kd.R_lower hr HB3.out.size); have HB4 := zaa.mk (zae HB3.out hb); clear hr hb))
  go_ret2
  rw [HR.out]
  exact ⟨_, rfl, HR4.out, HB4.out⟩
theorem impl_TermPerm.calls (a0 : ByteArray) (r1 : List Int) (r2 : Bool) (w : World) (h : impl_TermPerm.f a0 = some (r1, r2)) :
  Calls Try.prog 8 #[.string a0] w fun e w' => ∃ v0_ : Value, e = .returned (.tuple #[v0_, .bool r2]) ∧ Kd.R (Kd.int .i64) 3 w' w.heap.size (fun _ => True) v0_ r1 ∧ Below w.heap.size w w' := by
 unfold impl_TermPerm.f at h
 split at h
 ·rename_i hs
  have e := Option.some.inj h
  have := implPerm_calls a0 hs w
  rw [e] at this
  exact this
 ·cases h
end Go.Proofs.Ytgiidlebnjbgeaa.Hd
namespace Go.Proofs.Ytgiidlebnjbgeaa.Hd
open Go.RowKit Go.PW.PrintWords Go.PW.PrintLast Go.PW.PrintMore Go.Proofs.Ytgiidlebnjbgeaa.PB
def zbv (c : UInt8) : ByteArray := ⟨#[c]⟩
def zaz : Tr → ByteArray
 | .o => zbv 111
 | .un b t => zbv (if b then 62 else 94) ++ zaz t
 | .bin b x y => zbv 40 ++ zaz x ++ zbv (if b then 124 else 45) ++ zaz y ++ zbv 41
theorem zcj : ∀ t : Tr, (zaz t).size ≤ 4 * t.nodes
 | .o => by show (1 : Nat) ≤ 4 * 1; omega
 | .un b t => by
  have := zcj t
  simp only [zaz, Tr.nodes, ByteArray.size_append]
  have : ∀ c : UInt8, (zbv c).size = 1 := fun _ => rfl
  rw [this]
  omega
 | .bin b x y => by
  have := zcj x
  have := zcj y
  simp only [zaz, Tr.nodes, ByteArray.size_append]
  have : ∀ c : UInt8, (zbv c).size = 1 := fun _ => rfl
  rw [this, this, this]
  omega
set_option maxHeartbeats 400000 in
set_option maxRecDepth 100000 in
theorem textP_calls : ∀ (t : Tr), t.tidy = true → t.nodes ≤ 1000 → ∀ (w : World) (p : Nat), PtA w t p → Calls Try.prog 29 #[.pointer (some ⟨p, 0, none⟩)] w fun e w' => e = .returned (.string (zaz t)) ∧ Below w.heap.size w w' := by
 intro t
 induction t with
 | un c t ih => intro h; cases h
 | o =>
  intro _ _ w p hP
  obtain ⟨-, hk⟩ := hP
  have x0 : w.cell? ⟨p, 0, none⟩ = some (.int .u8 111) := (zaf hk 0).trans rfl
  have x1 : w.cell? ⟨p, 1, none⟩ = some (.slice none 0 0) := (zaf hk 1).trans rfl
  clear hk
  go_enter Try.func29, Try.ntmps29
  go_wp2
  go_ret
  have e : Utf8.encode 111 = zaz .o := by kernel_rfl
  exact ⟨by rw [← e]; rfl, Below.refl _ _⟩
 | bin s x y ihx ihy =>
  intro htd hn w p hP
  simp only [Tr.nodes] at hn
  simp only [Tr.tidy, Bool.and_eq_true] at htd
  obtain ⟨-, q, k, l, hk, -, hk2, hPk, hPl⟩ := hP
  have HX := zaa.mk (ihx htd.1 (by omega))
  have HY := zaa.mk (ihy htd.2 (by omega))
  obtain ⟨u, hu⟩ : ∃ u, u = binC s := ⟨_, rfl⟩
  rw [← hu] at hk
  have HE := zaa.mk (show Utf8.encode u = zbv (if s then 124 else 45) by rw [hu]; cases s <;> kernel_rfl)
  have HDef := zaa.mk (show zaz (.bin s x y) = zbv 40 ++ zaz x ++ zbv (if s then 124 else 45) ++ zaz y ++ zbv 41 from rfl)
  have w32 : wrap32 u = u := by rw [hu]; cases s <;> (unfold wrap32 binC; decide)
  have x0 : w.cell? ⟨p, 0, none⟩ = some (.int .u8 u) := (zaf hk 0).trans rfl
  have x1 : w.cell? ⟨p, 1, none⟩ = some (.slice (some ⟨q, 0, none⟩) 2 2) := (zaf hk 1).trans rfl
  have x2 : w.cell? ⟨q, 0, none⟩ = some (.pointer (some ⟨k, 0, none⟩)) := (zaf hk2 0).trans rfl
  have x3 : w.cell? ⟨q, 1, none⟩ = some (.pointer (some ⟨l, 0, none⟩)) := (zaf hk2 1).trans rfl
  have HPk := zaa.mk hPk
  have HPl := zaa.mk hPl
  clear hk hk2 hPk hPl ihx ihy htd hu
  rw [HDef.out]
  clear HDef
  obtain ⟨ta, hta⟩ : ∃ ta, ta = zaz x := ⟨_, rfl⟩
  obtain ⟨tb, htb⟩ : ∃ tb, tb = zaz y := ⟨_, rfl⟩
  have sa := zcj x
  have sb := zcj y
  obtain ⟨eu, heu⟩ : ∃ eu, eu = zbv (if s then 124 else 45) := ⟨_, rfl⟩
  have he : Utf8.encode u = eu := by rw [heu]; exact HE.out
  have se : eu.size = 1 := by rw [heu]; rfl
  rw [← hta, ← htb, ← heu]
  rw [← hta] at sa
  rw [← htb] at sb
  have z1 : ¬ 9223372036854775807 < 1 + ta.size := by omega
  have z2 : ¬ 9223372036854775807 < 1 + ta.size + eu.size := by omega
  have z3 : ¬ 9223372036854775807 < 1 + ta.size + eu.size + tb.size := by omega
  have z4 : ¬ 9223372036854775807 < 1 + ta.size + eu.size + tb.size + 1 := by omega
  clear sa sb se heu
  rw [← hta] at HX
  rw [← htb] at HY
  clear hta htb HE
  go_enter Try.func29, Try.ntmps29
  go_upto_region 6 with (fail)
  refine start_ (n := 25) (S := fun w' => (w'.cell? ⟨p, 0, none⟩ = some (.int .u8 u)) ∧ (w'.cell? ⟨p, 1, none⟩ = some (.slice (some ⟨q, 0, none⟩) 2 2)) ∧ (w'.cell? ⟨q, 0, none⟩ = some (.pointer (some ⟨k, 0, none⟩))) ∧ (w'.cell? ⟨q, 1, none⟩ = some (.pointer (some ⟨l, 0, none⟩))) ∧ (PtA w' x k) ∧ (PtA w' y l) ∧ (Below w.heap.size w w')) (ds := []) #[false, false, false, false, false, false, false, false, false, false, false, false, false, false, false, false, false, false, false, false, false, false, false, false, false] (by kernel_rfl) rfl rfl (⟨x0, x1, x2, x3, HPk.out.drew, HPl.out.drew, zbh (Below.refl _ _)⟩) (fun hHeld => ?_)
  clear x0 x1 x2 x3
  refine zaw (i := 0) (N := some 32) (v := ?_) (a' := ?_) #[true, false, false, false, false, false, false, false, false, false, false, false, false, false, false, false, false, false, false, false, false, false, false, false, false] rfl rfl (by kernel_rfl) (fun _ _ _ h => h) (Or.inl ⟨by rfl, ?_⟩) ?_ ?_
  rotate_left
  ·intro w'
   go_simp
   with_reducible rfl
  rotate_left
  ·simp only [Act.put, List.setIfInBounds_toArray, List.set_cons_zero, List.set_cons_succ, zap, zaq]
   rfl
  refine zaw (i := 1) (N := some 33) (v := ?_) (a' := ?_) #[true, true, false, false, false, false, false, false, false, false, false, false, false, false, false, false, false, false, false, false, false, false, false, false, false] rfl rfl (by kernel_rfl) (fun _ _ _ h => h) (Or.inl ⟨by rfl, ?_⟩) ?_ ?_
  rotate_left
  ·intro w'
   go_simp
   with_reducible rfl
  rotate_left
  ·simp only [Act.put, List.setIfInBounds_toArray, List.set_cons_zero, List.set_cons_succ, zap, zaq]
   rfl
  refine zaw (i := 2) (N := some 34) (v := ?_) (a' := ?_) #[true, true, true, false, false, false, false, false, false, false, false, false, false, false, false, false, false, false, false, false, false, false, false, false, false] rfl rfl (by kernel_rfl) (fun _ _ _ h => h) (Or.inl ⟨by rfl, ?_⟩) ?_ ?_
  rotate_left
  ·intro w'
   go_simp
   with_reducible rfl
  rotate_left
  ·simp only [Act.put, List.setIfInBounds_toArray, List.set_cons_zero, List.set_cons_succ, zap, zaq]
   rfl
  refine take_ (i := 3) (N := some 35) (v := ?_) (a' := ?_) #[true, true, true, true, false, false, false, false, false, false, false, false, false, false, false, false, false, false, false, false, false, false, false, false, false] rfl rfl (by kernel_rfl) (fun _ _ _ h => h) (Or.inl ⟨by rfl, ?_⟩) hHeld ?_ ?_
  rotate_left
  ·rintro w' ⟨s0, s1, s2, s3, s4, s5, s6⟩
   go_simp
   with_reducible rfl
  rotate_left
  ·simp only [Act.put, List.setIfInBounds_toArray, List.set_cons_zero, List.set_cons_succ, zap, zaq]
   rfl
  refine zaw (i := 4) (N := some 36) (v := ?_) (a' := ?_) #[true, true, true, true, true, false, false, false, false, false, false, false, false, false, false, false, false, false, false, false, false, false, false, false, false] rfl rfl (by kernel_rfl) (fun _ _ _ h => h) (Or.inl ⟨by rfl, ?_⟩) ?_ ?_
  rotate_left
  ·intro w'
   go_simp
   with_reducible rfl
  rotate_left
  ·simp only [Act.put, List.setIfInBounds_toArray, List.set_cons_zero, List.set_cons_succ, zap, zaq]
   rfl
  refine take_ (i := 5) (N := some 37) (v := ?_) (a' := ?_) #[true, true, true, true, true, true, false, false, false, false, false, false, false, false, false, false, false, false, false, false, false, false, false, false, false] rfl rfl (by kernel_rfl) (fun _ _ _ h => h) (Or.inl ⟨by rfl, ?_⟩) hHeld ?_ ?_
  rotate_left
  ·rintro w' ⟨s0, s1, s2, s3, s4, s5, s6⟩
   go_simp
   with_reducible rfl
  rotate_left
  ·simp only [Act.put, List.setIfInBounds_toArray, List.set_cons_zero, List.set_cons_succ, zap, zaq]
   rfl
  refine zaw (i := 8) (N := some 40) (v := ?_) (a' := ?_) #[true, true, true, true, true, true, false, false, true, false, false, false, false, false, false, false, false, false, false, false, false, false, false, false, false] rfl rfl (by kernel_rfl) (fun _ _ _ h => h) (Or.inl ⟨by rfl, ?_⟩) ?_ ?_
  rotate_left
  ·intro w'
   go_simp
   with_reducible rfl
  rotate_left
  ·simp only [Act.put, List.setIfInBounds_toArray, List.set_cons_zero, List.set_cons_succ, zap, zaq]
   rfl
  refine zaw (i := 9) (N := some 41) (v := ?_) (a' := ?_) #[true, true, true, true, true, true, false, false, true, true, false, false, false, false, false, false, false, false, false, false, false, false, false, false, false] rfl rfl (by kernel_rfl) (fun _ _ _ h => h) (Or.inl ⟨by rfl, ?_⟩) ?_ ?_
  rotate_left
  ·intro w'
   go_simp
   with_reducible rfl
  rotate_left
  ·simp only [Act.put, List.setIfInBounds_toArray, List.set_cons_zero, List.set_cons_succ, zap, zaq]
   rfl
  refine zaw (i := 10) (N := some 42) (v := ?_) (a' := ?_) #[true, true, true, true, true, true, false, false, true, true, true, false, false, false, false, false, false, false, false, false, false, false, false, false, false] rfl rfl (by kernel_rfl) (fun _ _ _ h => h) (Or.inl ⟨by rfl, ?_⟩) ?_ ?_
  rotate_left
  ·intro w'
   go_simp
   with_reducible rfl
  rotate_left
  ·simp only [Act.put, List.setIfInBounds_toArray, List.set_cons_zero, List.set_cons_succ, zap, zaq]
   rfl
  refine take_ (i := 11) (N := some 43) (v := ?_) (a' := ?_) #[true, true, true, true, true, true, false, false, true, true, true, true, false, false, false, false, false, false, false, false, false, false, false, false, false] rfl rfl (by kernel_rfl) (fun _ _ _ h => h) (Or.inl ⟨by rfl, ?_⟩) hHeld ?_ ?_
  rotate_left
  ·rintro w' ⟨s0, s1, s2, s3, s4, s5, s6⟩
   go_simp
   with_reducible rfl
  rotate_left
  ·simp only [Act.put, List.setIfInBounds_toArray, List.set_cons_zero, List.set_cons_succ, zap, zaq]
   rfl
  refine zaw (i := 12) (N := some 44) (v := ?_) (a' := ?_) #[true, true, true, true, true, true, false, false, true, true, true, true, true, false, false, false, false, false, false, false, false, false, false, false, false] rfl rfl (by kernel_rfl) (fun _ _ _ h => h) (Or.inl ⟨by rfl, ?_⟩) ?_ ?_
  rotate_left
  ·intro w'
   go_simp
   with_reducible rfl
  rotate_left
  ·simp only [Act.put, List.setIfInBounds_toArray, List.set_cons_zero, List.set_cons_succ, zap, zaq]
   rfl
  refine zaw (i := 13) (N := some 45) (v := ?_) (a' := ?_) #[true, true, true, true, true, true, false, false, true, true, true, true, true, true, false, false, false, false, false, false, false, false, false, false, false] rfl rfl (by kernel_rfl) (fun _ _ _ h => h) (Or.inl ⟨by rfl, ?_⟩) ?_ ?_
  rotate_left
  ·intro w'
   go_simp
   with_reducible rfl
  rotate_left
  ·simp only [Act.put, List.setIfInBounds_toArray, List.set_cons_zero, List.set_cons_succ, zap, zaq]
   rfl
  refine zaw (i := 15) (N := some 47) (v := ?_) (a' := ?_) #[true, true, true, true, true, true, false, false, true, true, true, true, true, true, false, true, false, false, false, false, false, false, false, false, false] rfl rfl (by kernel_rfl) (fun _ _ _ h => h) (Or.inl ⟨by rfl, ?_⟩) ?_ ?_
  rotate_left
  ·intro w'
   go_simp
   with_reducible rfl
  rotate_left
  ·simp only [Act.put, List.setIfInBounds_toArray, List.set_cons_zero, List.set_cons_succ, zap, zaq]
   rfl
  refine zaw (i := 16) (N := some 48) (v := ?_) (a' := ?_) #[true, true, true, true, true, true, false, false, true, true, true, true, true, true, false, true, true, false, false, false, false, false, false, false, false] rfl rfl (by kernel_rfl) (fun _ _ _ h => h) (Or.inl ⟨by rfl, ?_⟩) ?_ ?_
  rotate_left
  ·intro w'
   go_simp
   with_reducible rfl
  rotate_left
  ·simp only [Act.put, List.setIfInBounds_toArray, List.set_cons_zero, List.set_cons_succ, zap, zaq]
   rfl
  refine zaw (i := 17) (N := some 49) (v := ?_) (a' := ?_) #[true, true, true, true, true, true, false, false, true, true, true, true, true, true, false, true, true, true, false, false, false, false, false, false, false] rfl rfl (by kernel_rfl) (fun _ _ _ h => h) (Or.inl ⟨by rfl, ?_⟩) ?_ ?_
  rotate_left
  ·intro w'
   go_simp
   with_reducible rfl
  rotate_left
  ·simp only [Act.put, List.setIfInBounds_toArray, List.set_cons_zero, List.set_cons_succ, zap, zaq]
   rfl
  refine take_ (i := 18) (N := some 50) (v := ?_) (a' := ?_) #[true, true, true, true, true, true, false, false, true, true, true, true, true, true, false, true, true, true, true, false, false, false, false, false, false] rfl rfl (by kernel_rfl) (fun _ _ _ h => h) (Or.inl ⟨by rfl, ?_⟩) hHeld ?_ ?_
  rotate_left
  ·rintro w' ⟨s0, s1, s2, s3, s4, s5, s6⟩
   go_simp
   with_reducible rfl
  rotate_left
  ·simp only [Act.put, List.setIfInBounds_toArray, List.set_cons_zero, List.set_cons_succ, zap, zaq]
   rfl
  refine zaw (i := 19) (N := some 51) (v := ?_) (a' := ?_) #[true, true, true, true, true, true, false, false, true, true, true, true, true, true, false, true, true, true, true, true, false, false, false, false, false] rfl rfl (by kernel_rfl) (fun _ _ _ h => h) (Or.inl ⟨by rfl, ?_⟩) ?_ ?_
  rotate_left
  ·intro w'
   go_simp
   with_reducible rfl
  rotate_left
  ·simp only [Act.put, List.setIfInBounds_toArray, List.set_cons_zero, List.set_cons_succ, zap, zaq]
   rfl
  refine take_ (i := 20) (N := some 52) (v := ?_) (a' := ?_) #[true, true, true, true, true, true, false, false, true, true, true, true, true, true, false, true, true, true, true, true, true, false, false, false, false] rfl rfl (by kernel_rfl) (fun _ _ _ h => h) (Or.inl ⟨by rfl, ?_⟩) hHeld ?_ ?_
  rotate_left
  ·rintro w' ⟨s0, s1, s2, s3, s4, s5, s6⟩
   go_simp
   with_reducible rfl
  rotate_left
  ·simp only [Act.put, List.setIfInBounds_toArray, List.set_cons_zero, List.set_cons_succ, zap, zaq]
   rfl
  refine one_ (i := 6) (N := some 38) #[true, true, true, true, true, true, true, false, true, true, true, true, true, true, false, true, true, true, true, true, true, false, false, false, false] rfl rfl (by kernel_rfl) (by decide) (fun K hK => ?_)
  refine goes_ Try.func29 (by kernel_rfl) rfl #[.pointer (some ⟨k, 0, none⟩)] (by rfl) rfl rfl (by (try simp only [List.map_toArray, List.map_cons, List.map_nil]); first | done | rfl) ?_
  have hs_ := hHeld
  obtain ⟨s0, s1, s2, s3, s4, s5, s6⟩ := hs_
  refine (HX.out _ k s4).mono ?_
  rintro e w2 ⟨rfl, hb⟩
  refine ⟨_, rfl, ?_⟩
  refine hK.out _ _ ⟨zag hb s0, zag hb s1, zag hb s2, zag hb s3, PtAt.below s4 hb, PtAt.below s5 hb, zae s6 hb⟩ (fun hHeld => ?_)
  clear hK K hb s0 s1 s2 s3 s4 s5 s6
  refine norm_ (a' := ?_) ?_ ?_
  rotate_left
  ·show Act.put _ (some 38) _ = _
   simp only [Act.put, List.setIfInBounds_toArray, List.set_cons_zero, List.set_cons_succ, zap, zaq]
   rfl
  refine zaw (i := 7) (N := some 39) (v := ?_) (a' := ?_) #[true, true, true, true, true, true, true, true, true, true, true, true, true, true, false, true, true, true, true, true, true, false, false, false, false] rfl rfl (by kernel_rfl) (fun _ _ _ h => h) (Or.inl ⟨by rfl, ?_⟩) ?_ ?_
  rotate_left
  ·intro w'
   go_simp
   with_reducible rfl
  rotate_left
  ·simp only [Act.put, List.setIfInBounds_toArray, List.set_cons_zero, List.set_cons_succ, zap, zaq]
   rfl
  refine zaw (i := 14) (N := some 46) (v := ?_) (a' := ?_) #[true, true, true, true, true, true, true, true, true, true, true, true, true, true, true, true, true, true, true, true, true, false, false, false, false] rfl rfl (by kernel_rfl) (fun _ _ _ h => h) (Or.inl ⟨by rfl, ?_⟩) ?_ ?_
  rotate_left
  ·intro w'
   go_simp
   with_reducible rfl
  rotate_left
  ·simp only [Act.put, List.setIfInBounds_toArray, List.set_cons_zero, List.set_cons_succ, zap, zaq]
   rfl
  refine one_ (i := 21) (N := some 53) #[true, true, true, true, true, true, true, true, true, true, true, true, true, true, true, true, true, true, true, true, true, true, false, false, false] rfl rfl (by kernel_rfl) (by decide) (fun K hK => ?_)
  refine goes_ Try.func29 (by kernel_rfl) rfl #[.pointer (some ⟨l, 0, none⟩)] (by rfl) rfl rfl (by (try simp only [List.map_toArray, List.map_cons, List.map_nil]); first | done | rfl) ?_
  have hs_ := hHeld
  obtain ⟨s0, s1, s2, s3, s4, s5, s6⟩ := hs_
  refine (HY.out _ l s5).mono ?_
  rintro e w3 ⟨rfl, hb⟩
  have HB3 := zaa.mk (zae s6 hb)
  refine ⟨_, rfl, ?_⟩
  refine hK.out _ _ ⟨zag hb s0, zag hb s1, zag hb s2, zag hb s3, PtAt.below s4 hb, PtAt.below s5 hb, zae s6 hb⟩ (fun hHeld => ?_)
  clear hK K hb s0 s1 s2 s3 s4 s5 s6
  refine norm_ (a' := ?_) ?_ ?_
  rotate_left
  ·show Act.put _ (some 53) _ = _
   simp only [Act.put, List.setIfInBounds_toArray, List.set_cons_zero, List.set_cons_succ, zap, zaq]
   rfl
  refine zaw (i := 22) (N := some 54) (v := ?_) (a' := ?_) #[true, true, true, true, true, true, true, true, true, true, true, true, true, true, true, true, true, true, true, true, true, true, true, false, false] rfl rfl (by kernel_rfl) (fun _ _ _ h => h) (Or.inl ⟨by rfl, ?_⟩) ?_ ?_
  rotate_left
  ·intro w'
   go_simp
   with_reducible rfl
  rotate_left
  ·simp only [Act.put, List.setIfInBounds_toArray, List.set_cons_zero, List.set_cons_succ, zap, zaq]
   rfl
  refine zaw (i := 23) (N := some 55) (v := ?_) (a' := ?_) #[true, true, true, true, true, true, true, true, true, true, true, true, true, true, true, true, true, true, true, true, true, true, true, true, false] rfl rfl (by kernel_rfl) (fun _ _ _ h => h) (Or.inl ⟨by rfl, ?_⟩) ?_ ?_
  rotate_left
  ·intro w'
   go_simp
   with_reducible rfl
  rotate_left
  ·simp only [Act.put, List.setIfInBounds_toArray, List.set_cons_zero, List.set_cons_succ, zap, zaq]
   rfl
  refine zaw (i := 24) (N := some 2) (v := ?_) (a' := ?_) #[true, true, true, true, true, true, true, true, true, true, true, true, true, true, true, true, true, true, true, true, true, true, true, true, true] rfl rfl (by kernel_rfl) (fun _ _ _ h => h) (Or.inl ⟨by rfl, ?_⟩) ?_ ?_
  rotate_left
  ·intro w'
   go_simp
   with_reducible rfl
  rotate_left
  ·simp only [Act.put, List.setIfInBounds_toArray, List.set_cons_zero, List.set_cons_succ, zap, zaq]
   rfl
  refine done_ (by kernel_rfl) ?_
  go_wp2
  go_ret
  exact ⟨rfl, HB3.out⟩
def foldB (s : Bool) : List Tr → Tr
  | [] => .o
  | p :: ps => ps.foldl (fun out k => .bin s out k) p
def laR : Tr → Tr × List Tr × List Tr
  | .o => (.o, [.o], [.o])
  | .un c t => (.un c t, [.un c t], [.un c t])
  | .bin true x y => (foldB true ((laR x).2.1 ++ (laR y).2.1), (laR x).2.1 ++ (laR y).2.1, [foldB true ((laR x).2.1 ++ (laR y).2.1)])
  | .bin false x y => (foldB false ((laR x).2.2 ++ (laR y).2.2), [foldB false ((laR x).2.2 ++ (laR y).2.2)], (laR x).2.2 ++ (laR y).2.2)
def zbc (t : Tr) : Tr := (laR t).1
def zbr (s : Bool) (t : Tr) : List Tr := if s then (laR t).2.1 else (laR t).2.2
theorem zcg (b : Bool) (x y : Tr) : zbr b (.bin b x y) = zbr b x ++ zbr b y := by cases b <;> rfl
theorem alongR_other (b : Bool) (x y : Tr) : zbr (!b) (.bin b x y) = [zbc (.bin b x y)] := by cases b <;> rfl
theorem alongR_leaf (s : Bool) : zbr s .o = [zbc .o] := by cases s <;> rfl
theorem leftR_bin (b : Bool) (x y : Tr) : zbc (.bin b x y) = foldB b (zbr b (.bin b x y)) := by cases b <;> rfl
theorem alongR_pos (s : Bool) : ∀ t : Tr, 1 ≤ (zbr s t).length
  | .o => by cases s <;> exact Nat.le_refl _
  | .un c t => by cases s <;> exact Nat.le_refl _
  | .bin b x y => by
    by_cases h : s = b
    · subst h
      have := alongR_pos s x
      rw [zcg, List.length_append]
      omega
    · have : s = !b := by cases s <;> cases b <;> simp_all
      rw [this, alongR_other]
      exact Nat.le_refl _
theorem zch (s : Bool) : ∀ t : Tr, (zbr s t).length ≤ t.nodes
  | .o => by cases s <;> exact Nat.le_refl _
  | .un c t => by cases s <;> (show 1 ≤ _; simp [Tr.nodes])
  | .bin b x y => by
    by_cases h : s = b
    · subst h
      have := zch s x
      have := zch s y
      rw [zcg, List.length_append]
      simp only [Tr.nodes]
      omega
    · have : s = !b := by cases s <;> cases b <;> simp_all
      rw [this, alongR_other]
      show 1 ≤ _
      simp [Tr.nodes]
def kP : Kd Nat := Kd.scalar (fun p => Value.pointer (some ⟨p, 0, none⟩)) (fun _ => rfl)
def AllP (w : World) (ok : Nat → Prop) : List Tr → List Nat → Prop
  | [], [] => True
  | t :: ts, p :: ps => PtAt w ok t p ∧ AllP w ok ts ps
  | _, _ => False
theorem PtAt.bound {w : World} {ok : Nat → Prop} : ∀ {t : Tr} {p : Nat}, PtAt w ok t p → PtAt w (fun k => ok k ∧ k < w.heap.size) t p
  | .o, p, h => ⟨⟨h.1, zat h.2⟩, h.2⟩
  | .un b t, p, h => by
    obtain ⟨h1, q, k, h2, h3, h4, h5⟩ := h
    exact ⟨⟨h1, zat h2⟩, q, k, h2, ⟨h3, zat h4⟩, h4, PtAt.bound h5⟩
  | .bin b x y, p, h => by
    obtain ⟨h1, q, k, m, h2, h3, h4, h5, h6⟩ := h
    exact ⟨⟨h1, zat h2⟩, q, k, m, h2, ⟨h3, zat h4⟩, h4, PtAt.bound h5, PtAt.bound h6⟩
theorem PtAt.mono {w : World} {ok ok' : Nat → Prop} {t : Tr} {p : Nat} (h : PtAt w ok t p) (hk : ∀ k, ok k → k < w.heap.size → ok' k) : PtAt w ok' t p :=
  PtAt.move (fun _ _ _ => rfl) (fun k h => hk k h.1 h.2) t p h.bound
theorem AllP.move {w w' : World} {ok ok' : Nat → Prop} (hm : ∀ k, ok k → k < w.heap.size → w'.heap[k]? = w.heap[k]?) (hk : ∀ k, ok k → k < w.heap.size → ok' k) : ∀ {ts : List Tr} {ps : List Nat}, AllP w ok ts ps → AllP w' ok' ts ps
  | [], [], _ => trivial
  | t :: ts, p :: ps, h => ⟨PtAt.move (fun k h1 h2 => hm k h1.1 h2) (fun k h => hk k h.1 h.2) t p h.1.bound, AllP.move hm hk h.2⟩
  | [], _ :: _, h => h.elim
  | _ :: _, [], h => h.elim
theorem AllP.below {w w' : World} {ok : Nat → Prop} (hb : Below w.heap.size w w') {ts : List Tr} {ps : List Nat} (h : AllP w ok ts ps) : AllP w' ok ts ps := AllP.move (fun k _ hk => hb.block k hk) (fun _ h _ => h) h
theorem AllP.app {w : World} {ok : Nat → Prop} : ∀ {ts : List Tr} {ps : List Nat} {ts' : List Tr} {ps' : List Nat}, AllP w ok ts ps → AllP w ok ts' ps' → AllP w ok (ts ++ ts') (ps ++ ps')
  | [], [], _, _, _, h2 => h2
  | t :: ts, p :: ps, _, _, h, h2 => ⟨h.1, AllP.app h.2 h2⟩
  | [], _ :: _, _, _, h, _ => h.elim
  | _ :: _, [], _, _, h, _ => h.elim
theorem AllP.len {w : World} {ok : Nat → Prop} : ∀ {ts : List Tr} {ps : List Nat}, AllP w ok ts ps → ts.length = ps.length
  | [], [], _ => rfl
  | t :: ts, p :: ps, h => congrArg (· + 1) (AllP.len h.2)
  | [], _ :: _, h => h.elim
  | _ :: _, [], h => h.elim
theorem AllP.get {w : World} {ok : Nat → Prop} : ∀ {ts : List Tr} {ps : List Nat} (i : Nat) (p : Nat), AllP w ok ts ps → ps[i]? = some p → ∃ t, ts[i]? = some t ∧ PtAt w ok t p
  | [], [], i, p, _, h => by cases h
  | t :: ts, q :: ps, 0, p, h, hi => ⟨t, rfl, by have : q = p := by simpa using hi
                                                 subst this; exact h.1⟩
  | t :: ts, q :: ps, i + 1, p, h, hi => by
    obtain ⟨t', h1, h2⟩ := AllP.get i p h.2 (by simpa using hi)
    exact ⟨t', by simpa using h1, h2⟩
  | [], _ :: _, _, _, h, _ => h.elim
  | _ :: _, [], _, _, h, _ => h.elim
def AlRes (w : World) (P : Nat → Prop) (ts : List Tr) (e : Ending) (w' : World) : Prop := ∃ v ps, e = .returned v ∧ Kd.R kP 43 w' w.heap.size (fun _ => True) v ps ∧ Below w.heap.size w w' ∧ AllP w' (fun k => (P k ∨ w.heap.size ≤ k) ∧ some k ≠ v.ownBlock) ts ps
def LRes (w : World) (P : Nat → Prop) (t : Tr) (e : Ending) (w' : World) : Prop := ∃ p, e = .returned (.pointer (some ⟨p, 0, none⟩)) ∧ Below w.heap.size w w' ∧ PtAt w' (fun k => P k ∨ w.heap.size ≤ k) t p
def AlongC (t : Tr) (s : Bool) : Prop := ∀ (P : Nat → Prop) (w : World) (p : Nat) (u : Int), u = binC s → (∀ k, P k → k < w.heap.size) → PtAt w P t p → Calls Try.prog 42 #[.pointer (some ⟨p, 0, none⟩), .int .u8 u] w (AlRes w P (zbr s t))
def LeftC (t : Tr) : Prop := ∀ (P : Nat → Prop) (w : World) (p : Nat), (∀ k, P k → k < w.heap.size) → PtAt w P t p → Calls Try.prog 28 #[.pointer (some ⟨p, 0, none⟩)] w (LRes w P (zbc t))
def topC : Tr → Int
  | .o => 111
  | .un b _ => unC b
  | .bin b _ _ => binC b
theorem top_cell {w : World} {P : Nat → Prop} {t : Tr} {p : Nat} (h : PtAt w P t p) : w.cell? ⟨p, 0, none⟩ = some (.int .u8 (topC t)) := by
  cases t with
  | o => exact (zaf h.2 0).trans rfl
  | un b t => obtain ⟨-, q, k, h2, -⟩ := h; exact (zaf h2 0).trans rfl
  | bin b x y => obtain ⟨-, q, k, m, h2, -⟩ := h; exact (zaf h2 0).trans rfl
set_option maxHeartbeats 400000 in
set_option maxRecDepth 100000 in
theorem along_other (t : Tr) (s : Bool) (hs : topC t ≠ binC s) (hr : zbr s t = [zbc t]) (hl : LeftC t) : AlongC t s := by
  intro P w p u hu hPl hP
  have x0 := top_cell hP
  have HL := zaa.mk (hl P w p hPl hP)
  have d1 : (topC t == u) = false := by rw [beq_eq_false_iff_ne, hu]; exact hs
  have d2 : (topC t != u) = true := by rw [bne, d1]; rfl
  have HR := zaa.mk hr
  clear hP hs hr hl hu hPl
  generalize topC t = c at *
  go_enter Try.func42, Try.ntmps42
  go_wp2_with (first
    | (go_at_call 28; refine HL.out.mono ?_; rintro e w2 ⟨m, rfl, hb, hP⟩; have HB2 := zaa.mk hb; have HP2 := zaa.mk hP; clear hb hP)
    | ((with_reducible refine zbi (N := 13) rfl ?_); refine Kd.R_lit kP _ 43 ?hg (N := 13) ?hd (xs := [m]) (inner := [.pointer (some ⟨m, 0, none⟩)]) (ok := fun _ => True) (okp := fun _ => True) ?hr ?hp (fun _ hk => hk) trivial (Below.refl _ _) (Nat.le_refl _) (by simp) ?_; (case hd => rfl); (case hg => rfl); (case hr => first | (go_simp; done) | (go_simp; rfl)); (case hp => exact (Reps.one (show Kd.M kP _ _ _ m [.pointer (some ⟨m, 0, none⟩)] from rfl) (Reps.none _ _))); intro v5 w5 ho hb hg_ hnew_; clear hg_ hnew_; have HRb := zaa.mk (Kd.R_base ho); have HR5 := zaa.mk (Kd.R_lower ho HB2.out.size); have HB5 := zaa.mk (zae HB2.out hb); have HP5 := zaa.mk (PtAt.below (PtAt.mono HP2.out (ok' := fun k => (P k ∨ w.heap.size ≤ k) ∧ some k ≠ v5.ownBlock) (fun k hk hlt => ⟨hk, fun he => by have := HRb.out k he.symm; omega⟩)) hb); clear ho hb))
  go_ret
  rw [HR.out]
  exact ⟨_, [m], rfl, HR5.out, HB5.out, HP5.out, trivial⟩
set_option maxHeartbeats 400000 in
set_option maxRecDepth 100000 in
theorem along_same (b : Bool) (x y : Tr) (hn : x.nodes + y.nodes ≤ 1000) (hx : AlongC x b) (hy : AlongC y b) : AlongC (.bin b x y) b := by
 intro P w p u hu hlt hP
 have HLt := zaa.mk hlt
 obtain ⟨-, q, k, l, hk, -, hk2, hPk, hPl⟩ := hP
 have HX := zaa.mk hx
 have HY := zaa.mk hy
 have HU := zaa.mk hu
 rw [← hu] at hk
 have HN := zaa.mk (show (zbr b x).length + (zbr b y).length ≤ 1000 by have := zch b x; have := zch b y; omega)
 have d1 : (u == u) = true := by simp
 have x0 : w.cell? ⟨p, 0, none⟩ = some (.int .u8 u) := (zaf hk 0).trans rfl
 have x1 : w.cell? ⟨p, 1, none⟩ = some (.slice (some ⟨q, 0, none⟩) 2 2) := (zaf hk 1).trans rfl
 have x2 : w.cell? ⟨q, 0, none⟩ = some (.pointer (some ⟨k, 0, none⟩)) := (zaf hk2 0).trans rfl
 have x3 : w.cell? ⟨q, 1, none⟩ = some (.pointer (some ⟨l, 0, none⟩)) := (zaf hk2 1).trans rfl
 have HPk := zaa.mk hPk
 have HPl := zaa.mk hPl
 have HR := zaa.mk (zcg b x y)
 clear hk hk2 hPk hPl hx hy hu hn hlt
 go_enter Try.func42, Try.ntmps42
 go_upto_region 3 with (fail)
 have HB0 := zaa.mk (show Below w.drew.heap.size w.drew w.drew from Below.refl _ _)
 refine start_ (n := 18) (S := fun w' => w'.cell? ⟨p, 1, none⟩ = some (.slice (some ⟨q, 0, none⟩) 2 2) ∧ w'.cell? ⟨q, 0, none⟩ = some (.pointer (some ⟨k, 0, none⟩)) ∧ w'.cell? ⟨q, 1, none⟩ = some (.pointer (some ⟨l, 0, none⟩)) ∧ PtAt w' P x k ∧ PtAt w' P y l ∧ Below w.heap.size w w') (ds := [16]) #[false, false, false, false, false, false, false, false, false, false, false, false, false, false, false, false, false, false] (by kernel_rfl) rfl rfl (⟨x1, x2, x3, HPk.out.drew, HPl.out.drew, zbh (Below.refl _ _)⟩) (fun hHeld => ?_)
 clear x0 x1 x2 x3
 refine zaw (i := 0) (N := some 14) (v := ?_) (a' := ?_) #[true, false, false, false, false, false, false, false, false, false, false, false, false, false, false, false, false, false] rfl rfl (by kernel_rfl) (fun _ _ _ h => h) (Or.inl ⟨by rfl, ?_⟩) ?_ ?_
 rotate_left
 ·intro w'
  go_simp
  with_reducible rfl
 rotate_left
 ·simp only [Act.put, List.setIfInBounds_toArray, List.set_cons_zero, List.set_cons_succ, zap, zaq]
  rfl
 refine zaw (i := 1) (N := some 15) (v := ?_) (a' := ?_) #[true, true, false, false, false, false, false, false, false, false, false, false, false, false, false, false, false, false] rfl rfl (by kernel_rfl) (fun _ _ _ h => h) (Or.inl ⟨by rfl, ?_⟩) ?_ ?_
 rotate_left
 ·intro w'
  go_simp
  with_reducible rfl
 rotate_left
 ·simp only [Act.put, List.setIfInBounds_toArray, List.set_cons_zero, List.set_cons_succ, zap, zaq]
  rfl
 refine zaw (i := 2) (N := some 16) (v := ?_) (a' := ?_) #[true, true, true, false, false, false, false, false, false, false, false, false, false, false, false, false, false, false] rfl rfl (by kernel_rfl) (fun _ _ _ h => h) (Or.inl ⟨by rfl, ?_⟩) ?_ ?_
 rotate_left
 ·intro w'
  go_simp
  with_reducible rfl
 rotate_left
 ·simp only [Act.put, List.setIfInBounds_toArray, List.set_cons_zero, List.set_cons_succ, zap, zaq]
  rfl
 refine take_ (i := 3) (N := some 17) (v := ?_) (a' := ?_) #[true, true, true, true, false, false, false, false, false, false, false, false, false, false, false, false, false, false] rfl rfl (by kernel_rfl) (fun _ _ _ h => h) (Or.inl ⟨by rfl, ?_⟩) hHeld ?_ ?_
 rotate_left
 ·rintro w' ⟨s0, s1, s2, s3, s4, s5⟩
  go_simp
  with_reducible rfl
 rotate_left
 ·simp only [Act.put, List.setIfInBounds_toArray, List.set_cons_zero, List.set_cons_succ, zap, zaq]
  rfl
 refine zaw (i := 4) (N := some 18) (v := ?_) (a' := ?_) #[true, true, true, true, true, false, false, false, false, false, false, false, false, false, false, false, false, false] rfl rfl (by kernel_rfl) (fun _ _ _ h => h) (Or.inl ⟨by rfl, ?_⟩) ?_ ?_
 rotate_left
 ·intro w'
  go_simp
  with_reducible rfl
 rotate_left
 ·simp only [Act.put, List.setIfInBounds_toArray, List.set_cons_zero, List.set_cons_succ, zap, zaq]
  rfl
 refine take_ (i := 5) (N := some 19) (v := ?_) (a' := ?_) #[true, true, true, true, true, true, false, false, false, false, false, false, false, false, false, false, false, false] rfl rfl (by kernel_rfl) (fun _ _ _ h => h) (Or.inl ⟨by rfl, ?_⟩) hHeld ?_ ?_
 rotate_left
 ·rintro w' ⟨s0, s1, s2, s3, s4, s5⟩
  go_simp
  with_reducible rfl
 rotate_left
 ·simp only [Act.put, List.setIfInBounds_toArray, List.set_cons_zero, List.set_cons_succ, zap, zaq]
  rfl
 refine zaw (i := 6) (N := some 20) (v := ?_) (a' := ?_) #[true, true, true, true, true, true, true, false, false, false, false, false, false, false, false, false, false, false] rfl rfl (by kernel_rfl) (fun _ _ _ h => h) (Or.inl ⟨by rfl, ?_⟩) ?_ ?_
 rotate_left
 ·intro w'
  go_simp
  with_reducible rfl
 rotate_left
 ·simp only [Act.put, List.setIfInBounds_toArray, List.set_cons_zero, List.set_cons_succ, zap, zaq]
  rfl
 refine zaw (i := 8) (N := some 22) (v := ?_) (a' := ?_) #[true, true, true, true, true, true, true, false, true, false, false, false, false, false, false, false, false, false] rfl rfl (by kernel_rfl) (fun _ _ _ h => h) (Or.inl ⟨by rfl, ?_⟩) ?_ ?_
 rotate_left
 ·intro w'
  go_simp
  with_reducible rfl
 rotate_left
 ·simp only [Act.put, List.setIfInBounds_toArray, List.set_cons_zero, List.set_cons_succ, zap, zaq]
  rfl
 refine zaw (i := 9) (N := some 23) (v := ?_) (a' := ?_) #[true, true, true, true, true, true, true, false, true, true, false, false, false, false, false, false, false, false] rfl rfl (by kernel_rfl) (fun _ _ _ h => h) (Or.inl ⟨by rfl, ?_⟩) ?_ ?_
 rotate_left
 ·intro w'
  go_simp
  with_reducible rfl
 rotate_left
 ·simp only [Act.put, List.setIfInBounds_toArray, List.set_cons_zero, List.set_cons_succ, zap, zaq]
  rfl
 refine zaw (i := 10) (N := some 24) (v := ?_) (a' := ?_) #[true, true, true, true, true, true, true, false, true, true, true, false, false, false, false, false, false, false] rfl rfl (by kernel_rfl) (fun _ _ _ h => h) (Or.inl ⟨by rfl, ?_⟩) ?_ ?_
 rotate_left
 ·intro w'
  go_simp
  with_reducible rfl
 rotate_left
 ·simp only [Act.put, List.setIfInBounds_toArray, List.set_cons_zero, List.set_cons_succ, zap, zaq]
  rfl
 refine take_ (i := 11) (N := some 25) (v := ?_) (a' := ?_) #[true, true, true, true, true, true, true, false, true, true, true, true, false, false, false, false, false, false] rfl rfl (by kernel_rfl) (fun _ _ _ h => h) (Or.inl ⟨by rfl, ?_⟩) hHeld ?_ ?_
 rotate_left
 ·rintro w' ⟨s0, s1, s2, s3, s4, s5⟩
  go_simp
  with_reducible rfl
 rotate_left
 ·simp only [Act.put, List.setIfInBounds_toArray, List.set_cons_zero, List.set_cons_succ, zap, zaq]
  rfl
 refine zaw (i := 12) (N := some 26) (v := ?_) (a' := ?_) #[true, true, true, true, true, true, true, false, true, true, true, true, true, false, false, false, false, false] rfl rfl (by kernel_rfl) (fun _ _ _ h => h) (Or.inl ⟨by rfl, ?_⟩) ?_ ?_
 rotate_left
 ·intro w'
  go_simp
  with_reducible rfl
 rotate_left
 ·simp only [Act.put, List.setIfInBounds_toArray, List.set_cons_zero, List.set_cons_succ, zap, zaq]
  rfl
 refine take_ (i := 13) (N := some 27) (v := ?_) (a' := ?_) #[true, true, true, true, true, true, true, false, true, true, true, true, true, true, false, false, false, false] rfl rfl (by kernel_rfl) (fun _ _ _ h => h) (Or.inl ⟨by rfl, ?_⟩) hHeld ?_ ?_
 rotate_left
 ·rintro w' ⟨s0, s1, s2, s3, s4, s5⟩
  go_simp
  with_reducible rfl
 rotate_left
 ·simp only [Act.put, List.setIfInBounds_toArray, List.set_cons_zero, List.set_cons_succ, zap, zaq]
  rfl
 refine zaw (i := 14) (N := some 28) (v := ?_) (a' := ?_) #[true, true, true, true, true, true, true, false, true, true, true, true, true, true, true, false, false, false] rfl rfl (by kernel_rfl) (fun _ _ _ h => h) (Or.inl ⟨by rfl, ?_⟩) ?_ ?_
 rotate_left
 ·intro w'
  go_simp
  with_reducible rfl
 rotate_left
 ·simp only [Act.put, List.setIfInBounds_toArray, List.set_cons_zero, List.set_cons_succ, zap, zaq]
  rfl
 refine one_ (i := 7) (N := some 21) #[true, true, true, true, true, true, true, true, true, true, true, true, true, true, true, false, false, false] rfl rfl (by kernel_rfl) (by decide) (fun K hK => ?_)
 refine goes_ Try.func42 (by kernel_rfl) rfl #[.pointer (some ⟨k, 0, none⟩), .int .u8 u] (by rfl) rfl rfl (by (try simp only [List.map_toArray, List.map_cons, List.map_nil]); first | done | rfl) ?_
 obtain ⟨s0, s1, s2, s3, s4, s5⟩ := hHeld
 refine (HX.out P w.drew k u HU.out HLt.out s3).mono ?_
 rintro e w2 ⟨v1, ps1, rfl, hr, hb, hA⟩
 have HR1 := zaa.mk hr
 have HA1 := zaa.mk hA
 have HV1 := zaa.mk (show ∀ k, v1.ownBlock = some k → w.heap.size ≤ k ∧ k < w2.heap.size from fun k hk => ⟨Kd.R_base hr k hk, Kd.R_lt hr k hk⟩)
 have HB2 := zaa.mk (zae s5 hb)
 have HB12 := zaa.mk (zay s5)
 refine ⟨_, rfl, ?_⟩
 refine hK.out _ _ ⟨zag hb s0, zag hb s1, zag hb s2, PtAt.below s3 hb, PtAt.below s4 hb, zae s5 hb⟩ (fun hHeld => ?_)
 clear hK K hb s0 s1 s2 s3 s4 s5 hr hA
 refine norm_ (a' := ?_) ?_ ?_
 rotate_left
 ·show Act.put _ (some 21) _ = _
  simp only [Act.put, List.setIfInBounds_toArray, List.set_cons_zero, List.set_cons_succ, zap, zaq]
  rfl
 refine one_ (i := 15) (N := some 29) #[true, true, true, true, true, true, true, true, true, true, true, true, true, true, true, true, false, false] rfl rfl (by kernel_rfl) (by decide) (fun K hK => ?_)
 refine goes_ Try.func42 (by kernel_rfl) rfl #[.pointer (some ⟨l, 0, none⟩), .int .u8 u] (by rfl) rfl rfl (by (try simp only [List.map_toArray, List.map_cons, List.map_nil]); first | done | rfl) ?_
 obtain ⟨s0, s1, s2, s3, s4, s5⟩ := hHeld
 refine (HY.out P _ l u HU.out (fun k hk => Nat.lt_of_lt_of_le (HLt.out k hk) HB2.out.size) s4).mono ?_
 rintro e w3 ⟨v2, ps2, rfl, hr, hb, hA⟩
 obtain ⟨A2, c2, e2, hl2, hC2⟩ := Kd.R_reads hr
 subst e2
 have HC2 := zaa.mk hC2
 have HA2 := zaa.mk hA
 have HA13 := zaa.mk (AllP.below hb HA1.out)
 have HS23 := zaa.mk hb.size
 have HB23 := zaa.mk hb
 have HR13 := zaa.mk (Kd.R_lower (Kd.R_below HR1.out hb) HB12.out)
 have HB3 := zaa.mk (zae s5 hb)
 refine ⟨_, rfl, ?_⟩
 refine hK.out _ _ ⟨zag hb s0, zag hb s1, zag hb s2, PtAt.below s3 hb, PtAt.below s4 hb, zae s5 hb⟩ (fun hHeld => ?_)
 clear hK K hb s0 s1 s2 s3 s4 s5 hr hA hl2 hC2
 refine norm_ (a' := ?_) ?_ ?_
 rotate_left
 ·show Act.put _ (some 29) _ = _
  simp only [Act.put, List.setIfInBounds_toArray, List.set_cons_zero, List.set_cons_succ, zap, zaq]
  rfl
 have hlen1 := AllP.len HA1.out
 have hlen2 := AllP.len HA2.out
 refine last_ (i := 16) (N := some 30) #[true, true, true, true, true, true, true, true, true, true, true, true, true, true, true, true, true, false] rfl rfl (by kernel_rfl) (by decide) (fun K hK => ?_)
 refine Kd.R_append_rows_step kP (Rr := kP.K w3) (w0 := w) w.heap.size (by rfl) (.tmp 21) (.tmp 29) 62 43 (.pointer none) 8 rfl Try.underlying62 (by kernel_rfl) rfl (by decide) (by decide) v1 ps1 ps2 A2 ps2.length c2 (fun _ => True) (fun _ => False) rfl rfl HR13.out HC2.out (fun _ _ h => h) (fun _ h => h.elim) (fun _ _ => trivial) HB3.out HB3.out.size (by have := HN.out; omega) ?_
 intro v5 w5 ho hb hg hat
 have HR5 := zaa.mk ho
 have HB5 := zaa.mk hb
 have HG5 := zaa.mk hg
 have HAt5 := zaa.mk hat
 clear ho hb hg hat hlen1 hlen2
 refine hK.out _ _ ?_
 clear hK K hHeld
 refine norm_ (a' := ?_) ?_ ?_
 rotate_left
 ·show Act.put _ (some 30) _ = _
  simp only [Act.put, List.setIfInBounds_toArray, List.set_cons_zero, List.set_cons_succ, zap, zaq]
  rfl
 refine zaw (i := 17) (N := some 4) (v := ?_) (a' := ?_) #[true, true, true, true, true, true, true, true, true, true, true, true, true, true, true, true, true, true] rfl rfl (by kernel_rfl) (fun _ _ _ h => h) (Or.inl ⟨by rfl, ?_⟩) ?_ ?_
 rotate_left
 ·intro w'
  go_simp
  with_reducible rfl
 rotate_left
 ·simp only [Act.put, List.setIfInBounds_toArray, List.set_cons_zero, List.set_cons_succ, zap, zaq]
  rfl
 refine done_ (by kernel_rfl) ?_
 have hne : ∀ k, some k ≠ v1.ownBlock → k < w3.heap.size → some k ≠ v5.ownBlock := by
  intro k h1 h2 he
  rcases HAt5.out with h | ⟨b', h, hle⟩
  ·exact h1 (he.trans h)
  ·rw [h] at he
   injection he with he
   omega
 have hs2 := HB2.out.size
 have h1 : AllP w5 (fun k => (P k ∨ w.heap.size ≤ k) ∧ some k ≠ v5.ownBlock) (zbr b x) ps1 :=
  AllP.move (fun k h1 h2 => HG5.out.block k h2 h1.2) (fun k h1 h2 => ⟨h1.1, hne k h1.2 h2⟩) HA13.out
 have h2 : AllP w5 (fun k => (P k ∨ w.heap.size ≤ k) ∧ some k ≠ v5.ownBlock) (zbr b y) ps2 := by
  have hv : ∀ k, (P k ∨ w2.heap.size ≤ k) → some k ≠ v1.ownBlock := by
   intro k hk he
   have := HV1.out k he.symm
   rcases hk with h | h
   ·have := HLt.out k h; omega
   ·omega
  exact AllP.move (fun k h1 h2 => HG5.out.block k h2 (hv k h1.1)) (fun k h1 h2 => ⟨h1.1.elim (fun h => .inl h) (fun h => .inr (by omega)), hne k (hv k h1.1) h2⟩) HA2.out
 have HA5 := zaa.mk (AllP.app h1 h2)
 clear h1 h2 hne hs2
 go_wp2
 go_ret
 rw [HR.out]
 exact ⟨_, ps1 ++ ps2, rfl, HR5.out, HB5.out, HA5.out⟩
theorem kP_cell {w : World} {A : Option Addr} {n : Nat} {l : List Nat} (h : kP.C w A n l) (i : Nat) (p : Nat) (hp : l[i]? = some p) : ∃ ad, A = some ad ∧ w.cell? (ad.add i) = some (.pointer (some ⟨p, 0, none⟩)) := by
 have hi : i < n := by have := (List.getElem?_eq_some_iff.1 hp).1; have := h.1; omega
 obtain ⟨ad, c, e1, hc, hK, hx⟩ := Kd.C_get h (0 : Nat) (i : Int) (by omega) (by omega)
 subst e1
 refine ⟨ad, rfl, ?_⟩
 have e : l.getD (i : Int).toNat 0 = p := by rw [Int.toNat_natCast, List.getD_eq_getElem?_getD, hp]; rfl
 rw [e] at hK
 have hK : c = [.pointer (some ⟨p, 0, none⟩)] := hK
 subst hK
 have := hx 0 _ rfl
 simpa [kP, Kd.scalar] using this
set_option maxHeartbeats 400000 in
set_option maxRecDepth 100000 in
theorem left_leaf : LeftC .o := by
 intro P w p hlt hP
 have HP := zaa.mk hP
 obtain ⟨-, hk⟩ := hP
 have x1 : w.cell? ⟨p, 1, none⟩ = some (.slice none 0 0) := (zaf hk 1).trans rfl
 clear hk hlt
 go_enter Try.func28, Try.ntmps28
 go_wp2
 go_ret
 exact ⟨p, rfl, Below.refl _ _, HP.out.mono (fun k hk _ => .inl hk)⟩
set_option maxHeartbeats 400000 in
set_option maxRecDepth 100000 in
theorem left_bin (b : Bool) (x y : Tr) (hn : (Tr.bin b x y).nodes ≤ 1000) (ha : AlongC (.bin b x y) b) : LeftC (.bin b x y) := by
 intro P w p hlt hP
 obtain ⟨u, hu⟩ : ∃ u, u = binC b := ⟨_, rfl⟩
 have HU := zaa.mk hu
 have HLt := zaa.mk hlt
 have HAl := zaa.mk (ha P w p u hu hlt hP)
 have hnd := zch b (.bin b x y)
 have hps := alongR_pos b x
 have hps2 := alongR_pos b y
 have hsm := zcg b x y
 have hl2 : 2 ≤ (zbr b (.bin b x y)).length := by rw [hsm, List.length_append]; omega
 have HLr := zaa.mk (leftR_bin b x y)
 have HLe := zaa.mk (show 2 ≤ (zbr b (.bin b x y)).length ∧ (zbr b (.bin b x y)).length ≤ 1000 by omega)
 obtain ⟨-, q, k, l, hk, -, hk2, hPk, hPl⟩ := hP
 rw [← hu] at hk
 have x0 : w.cell? ⟨p, 0, none⟩ = some (.int .u8 u) := (zaf hk 0).trans rfl
 have x1 : w.cell? ⟨p, 1, none⟩ = some (.slice (some ⟨q, 0, none⟩) 2 2) := (zaf hk 1).trans rfl
 clear hk hk2 hPk hPl hlt ha hn hu hnd hps hps2 hsm hl2
 generalize hts : zbr b (.bin b x y) = tss at *
 clear hts
 go_enter Try.func28, Try.ntmps28
 go_upto_region 4 with (first
  | (go_at_call 42; refine HAl.out.mono ?_; rintro e w2 ⟨v, ps, rfl, hr, hb, hA⟩; have HR2 := zaa.mk hr; have HB2 := zaa.mk hb; have HA2 := zaa.mk hA; clear hr hb hA))
 have hlen := AllP.len HA2.out
 have hA := HA2.out
 rcases ps with _ | ⟨p0, ps⟩
 ·exfalso
  have := HLe.out
  simp at hlen
  rw [hlen] at this
  simp at this
 rcases tss with _ | ⟨t0, ts⟩
 ·exact hA.elim
 obtain ⟨g0, co, eo, gb, gl, cl, HG⟩ := Kd.R_form HR2.out (by simp)
 subst eo
 have hC := (Kd.R_reads' HR2.out).2.2
 have hcap := (Kd.R_reads' HR2.out).2.1
 obtain ⟨m, hm⟩ : ∃ m, m = ps.length := ⟨_, rfl⟩
 have HM := zaa.mk (show m = ps.length ∧ ts.length = m ∧ 1 ≤ m by have := HLe.out; simp at this hlen; omega)
 have hml : m ≤ 1000 := by have := HLe.out; simp at this hlen; omega
 have HC2 := zaa.mk hC
 have hpl : (p0 :: ps).length = m + 1 := by rw [List.length_cons, hm]
 rw [hpl] at hcap ⊢
 have hm1 : 1 ≤ m := HM.out.2.2
 have HCell := zaa.mk (show ∀ (i : Nat) (z : Nat), (p0 :: ps)[i]? = some z → w2.cell? ⟨g0, i, none⟩ = some (.pointer (some ⟨z, 0, none⟩)) from fun i z hz => by
  obtain ⟨ad, e1, h⟩ := kP_cell HC2.out i z hz
  injection e1 with e1
  subst e1
  rw [zcq] at h
  exact h)
 have hc0 := HCell.out 0 p0 rfl
 have hA0 := zaa.mk hA.1
 have hAs := zaa.mk hA.2
 have x0_ := x0
 replace x0 := zag HB2.out x0
 clear gb gl HG hC hm hA hlen hpl x1 HA2 HAl
 have k1 : (1 : Int) ≤ (m + 1 : Nat) := by omega
 have k2 : ((m + 1 : Nat) : Int) ≤ (co : Int) := by omega
 have HCell2 := zaa.mk (fun (i : Nat) (z : Nat) (hz : ps[i]? = some z) => HCell.out (i + 1) z (by simpa using hz))
 have HX0 := zaa.mk x0
 clear HCell x0_
 go_upto_region 6 with (fail)
 clear k1 k2 hcap hc0 x0
 go_loopg [4, 26] m (fun kq v4 v26 w' => ∃ (i r : Nat), v4 = .pointer (some ⟨r, 0, none⟩) ∧ v26 = .int .i64 (i : Int) ∧ zaa (i + kq = m) ∧ zaa (PtAt w' (fun k => P k ∨ w.heap.size ≤ k) ((ts.take i).foldl (fun acc k => .bin b acc k) t0) r) ∧ zaa (Below w2.heap.size w2 w'))
 case atStart => exact ⟨0, p0, rfl, rfl, ⟨by omega⟩, ⟨hA0.out.mono (fun k hk _ => hk.1)⟩, ⟨Below.refl _ _⟩⟩
 case round =>
  obtain ⟨i, r, rfl, rfl, HI, HT, HBl⟩ := hrel
  by_cases hi : i < m
  ·have hlt : (i : Int) < (m : Int) := by omega
   have i0 : (0 : Int) ≤ (i : Int) := by omega
   obtain ⟨pk, hpk⟩ : ∃ pk, ps[i]? = some pk := ⟨_, List.getElem?_eq_getElem (by have := HM.out.1; omega)⟩
   obtain ⟨tk, htk, hPk⟩ := AllP.get i pk hAs.out hpk
   have hcell := zag HBl.out (HCell2.out i pk hpk)
   rw [Nat.add_comm i 1] at hcell
   have y0 := zag HBl.out HX0.out
   have HPk := zaa.mk (PtAt.below (PtAt.mono hPk (ok' := fun k => P k ∨ w.heap.size ≤ k) (fun k hk _ => hk.1)) HBl.out)
   have HTk := zaa.mk (show (ts.take (i + 1)).foldl (fun acc k => Tr.bin b acc k) t0 = .bin b ((ts.take i).foldl (fun acc k => .bin b acc k) t0) tk by rw [List.take_add_one, htk, List.foldl_append]; rfl)
   clear hpk htk hPk
   go_wp2
   have hb := zab (zab (Below.refl wr.heap.size wr) (.cells #[.pointer (some ⟨r, 0, none⟩), .pointer (some ⟨pk, 0, none⟩)] 43)) (.cells #[.int .u8 u, .slice (some ⟨wr.heap.size, 0, none⟩) 2 2] 64)
   have hk1 := heap_alloc2_old wr (.cells #[.pointer (some ⟨r, 0, none⟩), .pointer (some ⟨pk, 0, none⟩)] 43) (.cells #[.int .u8 u, .slice (some ⟨wr.heap.size, 0, none⟩) 2 2] 64)
   have hk2 := heap_alloc2_new wr (.cells #[.pointer (some ⟨r, 0, none⟩), .pointer (some ⟨pk, 0, none⟩)] 43) (.cells #[.int .u8 u, .slice (some ⟨wr.heap.size, 0, none⟩) 2 2] 64)
   generalize (wr.alloc (.cells #[.pointer (some ⟨r, 0, none⟩), .pointer (some ⟨pk, 0, none⟩)] 43)).alloc (.cells #[.int .u8 u, .slice (some ⟨wr.heap.size, 0, none⟩) 2 2] 64) = wz at *
   have h1 := HT.out.below hb
   have h2 := HPk.out.below hb
   have hsz : w.heap.size ≤ wr.heap.size := Nat.le_trans HB2.out.size HBl.out.size
   have hu := HU.out
   rw [hu] at hk2
   go_roundg (m - (i + 1))
   case measure => have := HI.out; omega
   case rel => exact ⟨i + 1, _, rfl, by first | rfl | (congr 1; omega), ⟨by have := HI.out; omega⟩, ⟨by rw [HTk.out]; exact ⟨.inr (by show w.heap.size ≤ wr.heap.size + 1; omega), wr.heap.size, r, pk, hk2, .inr hsz, hk1, h1, h2⟩⟩, ⟨zae HBl.out hb⟩⟩
  ·have hge : ¬ (i : Int) < (m : Int) := by omega
   go_wp2
   go_ret
   have hT := HT.out
   rw [List.take_of_length_le (by have := HM.out.2.1; omega)] at hT
   rw [HLr.out]
   exact ⟨r, rfl, zae HB2.out HBl.out, hT⟩
theorem left_all : ∀ t : Tr, t.tidy = true → t.nodes ≤ 1000 → LeftC t ∧ ∀ s, AlongC t s
 | .o, _, _ => ⟨left_leaf, fun s => along_other .o s (by cases s <;> decide) (alongR_leaf s) left_leaf⟩
 | .un _ _, h, _ => by cases h
 | .bin b x y, h, hn => by
  simp only [Tr.tidy, Bool.and_eq_true] at h
  have hn' := hn
  simp only [Tr.nodes] at hn'
  have ax := (left_all x h.1 (by omega)).2 b
  have ay := (left_all y h.2 (by omega)).2 b
  have same := along_same b x y (by omega) ax ay
  have hl := left_bin b x y hn same
  refine ⟨hl, fun s => ?_⟩
  by_cases e : s = b
  ·subst e; exact same
  ·have : s = !b := by cases s <;> cases b <;> simp_all
   subst this
   exact along_other (.bin b x y) (!b) (by show binC b ≠ binC (!b); cases b <;> decide) (alongR_other b x y) hl
def joinP (s : Bool) (a b : List Int) : List Int := if s then a ++ zbu b a.length else zbu b a.length ++ a
theorem permR_bin (s : Bool) (x y : Tr) : zbf (.bin s x y) = joinP s (zbf x) (zbf y) := by cases s <;> rfl
theorem moreL_more (l : List Int) (m n : Nat) : zbu (zbu l m) n = zbu l (n + m) := by
 unfold zbu
 rw [List.map_map]
 apply List.map_congr_left
 intro x _
 show x + (m : Int) + (n : Int) = x + ((n + m : Nat) : Int)
 omega
theorem moreL_app (a b : List Int) (n : Nat) : zbu (a ++ b) n = zbu a n ++ zbu b n := List.map_append
theorem joinP_assoc (s : Bool) (a b c : List Int) : joinP s (joinP s a b) c = joinP s a (joinP s b c) := by
 cases s
 ·show zbu c (zbu b a.length ++ a).length ++ (zbu b a.length ++ a) = zbu (zbu c b.length ++ b) a.length ++ a
  rw [moreL_app, moreL_more, List.length_append, zbl, List.append_assoc, Nat.add_comm b.length a.length]
 ·show a ++ zbu b a.length ++ zbu c (a ++ zbu b a.length).length = a ++ zbu (b ++ zbu c b.length) a.length
  rw [moreL_app, moreL_more, List.length_append, zbl, List.append_assoc]
def permL (s : Bool) : List Tr → List Int
 | [] => []
 | p :: ps => ps.foldl (fun acc k => joinP s acc (zbf k)) (zbf p)
theorem permL_foldB (s : Bool) : ∀ ts : List Tr, 1 ≤ ts.length → zbf (foldB s ts) = permL s ts
 | [], h => absurd h (by simp)
 | p :: ps, _ => by
  show zbf (ps.foldl (fun out k => .bin s out k) p) = ps.foldl (fun acc k => joinP s acc (zbf k)) (zbf p)
  induction ps generalizing p with
  | nil => rfl
  | cons k ps ih =>
   rw [List.foldl_cons, List.foldl_cons, ih _ (by simp), permR_bin]
theorem foldl_join (s : Bool) (a b : List Int) : ∀ ts : List Tr, ts.foldl (fun acc k => joinP s acc (zbf k)) (joinP s a b) = joinP s a (ts.foldl (fun acc k => joinP s acc (zbf k)) b)
 | [] => rfl
 | k :: ts => by
  rw [List.foldl_cons, List.foldl_cons, joinP_assoc, foldl_join s a _ ts]
theorem permL_app (s : Bool) : ∀ (ts us : List Tr), 1 ≤ ts.length → 1 ≤ us.length → permL s (ts ++ us) = joinP s (permL s ts) (permL s us)
 | [], _, h, _ => absurd h (by simp)
 | _ :: _, [], _, h => absurd h (by simp)
 | p :: ps, q :: qs, _, _ => by
  show (ps ++ q :: qs).foldl (fun acc k => joinP s acc (zbf k)) (zbf p) = joinP s (ps.foldl (fun acc k => joinP s acc (zbf k)) (zbf p)) (qs.foldl (fun acc k => joinP s acc (zbf k)) (zbf q))
  rw [List.foldl_append, List.foldl_cons, foldl_join]
def sumN (ts : List Tr) : Nat := (ts.map Tr.nodes).foldr (· + ·) 0
theorem sumN_app (a b : List Tr) : sumN (a ++ b) = sumN a + sumN b := by
 induction a with
 | nil => simp [sumN]
 | cons x a ih => simp only [sumN, List.cons_append, List.map_cons, List.foldr_cons] at ih ⊢; omega
theorem sumN_one (t : Tr) : sumN [t] = t.nodes := by simp [sumN]
theorem foldB_nodes (s : Bool) : ∀ ts : List Tr, 1 ≤ ts.length → (foldB s ts).nodes + 1 = sumN ts + ts.length
 | [], h => absurd h (by simp)
 | p :: ps, _ => by
  show (ps.foldl (fun out k => Tr.bin s out k) p).nodes + 1 = _
  induction ps generalizing p with
  | nil => simp [sumN]
  | cons k ps ih =>
   rw [List.foldl_cons, ih _ (by simp)]
   simp only [sumN, List.map_cons, List.foldr_cons, Tr.nodes, List.length_cons]
   omega
theorem foldB_tidy (s : Bool) : ∀ ts : List Tr, (∀ t ∈ ts, t.tidy = true) → (foldB s ts).tidy = true
 | [], _ => rfl
 | p :: ps, h => by
  show (ps.foldl (fun out k => Tr.bin s out k) p).tidy = true
  induction ps generalizing p with
  | nil => exact h p (by simp)
  | cons k ps ih =>
   rw [List.foldl_cons]
   refine ih _ (fun t ht => ?_)
   rcases List.mem_cons.1 ht with rfl | ht
   ·simp only [Tr.tidy, Bool.and_eq_true]
    exact ⟨h p (by simp), h k (by simp)⟩
   ·exact h t (by simp [ht])
def notS (s : Bool) (t : Tr) : Prop := topC t ≠ binC s
theorem foldB_top (s : Bool) : ∀ ts : List Tr, 2 ≤ ts.length → ∃ a b, foldB s ts = .bin s a b
 | [], h => absurd h (by simp)
 | [_], h => absurd h (by simp)
 | p :: k :: ps, _ => by
  show ∃ a b, ps.foldl (fun out k => Tr.bin s out k) (.bin s p k) = .bin s a b
  suffices h : ∀ (ps : List Tr) (a b : Tr), ∃ a' b', ps.foldl (fun out k => Tr.bin s out k) (.bin s a b) = .bin s a' b' from h ps p k
  intro ps
  induction ps with
  | nil => exact fun a b => ⟨a, b, rfl⟩
  | cons q ps ih => exact fun a b => ih _ _
structure LeftOk (t : Tr) : Prop where
 tidy : (zbc t).tidy = true
 nodes : (zbc t).nodes = t.nodes
 perm : zbf (zbc t) = zbf t
 top : topC (zbc t) = topC t
 again : zbc (zbc t) = zbc t
structure AlongOk (s : Bool) (t : Tr) : Prop where
 tidy : ∀ k ∈ zbr s t, k.tidy = true
 nodes : sumN (zbr s t) + (zbr s t).length = t.nodes + 1
 perm : permL s (zbr s t) = zbf t
 parts : ∀ k ∈ zbr s t, notS s k ∧ zbc k = k
theorem along_one {s : Bool} {k : Tr} (h : notS s k) (hk : zbc k = k) : zbr s k = [k] := by
 cases k with
 | o => cases s <;> rfl
 | un c t => cases s <;> rfl
 | bin b x y =>
  have : s = !b := by
   cases s <;> cases b <;> first | rfl | exact absurd rfl h
  rw [this, alongR_other, hk]
theorem along_foldB (s : Bool) : ∀ ts : List Tr, 1 ≤ ts.length → (∀ k ∈ ts, notS s k ∧ zbc k = k) → zbr s (foldB s ts) = ts
 | [], h, _ => absurd h (by simp)
 | p :: ps, _, h => by
  have key : ∀ (ps : List Tr) (a : Tr) (us : List Tr), zbr s a = us → (∀ k ∈ ps, notS s k ∧ zbc k = k) → zbr s (ps.foldl (fun out k => Tr.bin s out k) a) = us ++ ps := by
   intro ps
   induction ps with
   | nil => intro a us h _; rw [List.append_nil]; exact h
   | cons k ps ih =>
    intro a us ha hk
    rw [List.foldl_cons, ih (.bin s a k) (us ++ [k]) (by rw [zcg, ha, along_one (hk k (by simp)).1 (hk k (by simp)).2]) (fun z hz => hk z (List.mem_cons_of_mem _ hz)), List.append_assoc]
    rfl
  have h0 := h p (by simp)
  exact key ps p [p] (along_one h0.1 h0.2) (fun z hz => h z (List.mem_cons_of_mem _ hz))
theorem along_of_left {s : Bool} {t : Tr} (hs : notS s t) (h : zbr s t = [zbc t]) (hl : LeftOk t) : AlongOk s t := by
 refine ⟨?_, ?_, ?_, ?_⟩
 ·rw [h]; intro k hk; rw [List.mem_singleton] at hk; subst hk; exact hl.tidy
 ·rw [h, sumN_one, hl.nodes]; rfl
 ·rw [h]; exact hl.perm
 ·rw [h]; intro k hk; rw [List.mem_singleton] at hk; subst hk
  exact ⟨by unfold notS; rw [hl.top]; exact hs, hl.again⟩
theorem left_of_along {b : Bool} {x y : Tr} (h : AlongOk b (.bin b x y)) (h2 : 2 ≤ (zbr b (.bin b x y)).length) : LeftOk (.bin b x y) := by
 have e := leftR_bin b x y
 have h1 : 1 ≤ (zbr b (.bin b x y)).length := by omega
 obtain ⟨a', b', ht⟩ := foldB_top b _ h2
 refine ⟨by rw [e]; exact foldB_tidy b _ h.tidy, ?_, by rw [e, permL_foldB b _ h1, h.perm], by rw [e, ht]; rfl, ?_⟩
 ·have := foldB_nodes b _ h1
  have := h.nodes
  rw [e]
  omega
 ·rw [e]
  have hf := along_foldB b _ h1 h.parts
  rw [ht] at hf ⊢
  rw [leftR_bin, hf]
  exact ht
theorem left_ok : ∀ t : Tr, t.tidy = true → LeftOk t ∧ ∀ s, AlongOk s t
 | .o, _ => by
  have h : LeftOk .o := ⟨rfl, rfl, rfl, rfl, rfl⟩
  exact ⟨h, fun s => along_of_left (by unfold notS; cases s <;> decide) (alongR_leaf s) h⟩
 | .un _ _, h => by cases h
 | .bin b x y, h => by
  simp only [Tr.tidy, Bool.and_eq_true] at h
  have ax := (left_ok x h.1).2 b
  have ay := (left_ok y h.2).2 b
  have e := zcg b x y
  have px := alongR_pos b x
  have py := alongR_pos b y
  have same : AlongOk b (.bin b x y) := by
   refine ⟨?_, ?_, ?_, ?_⟩
   ·rw [e]; intro k hk; exact (List.mem_append.1 hk).elim (ax.tidy k) (ay.tidy k)
   ·have := ax.nodes
    have := ay.nodes
    rw [e, sumN_app, List.length_append]
    simp only [Tr.nodes]
    omega
   ·rw [e, permL_app b _ _ px py, ax.perm, ay.perm, permR_bin]
   ·rw [e]; intro k hk; exact (List.mem_append.1 hk).elim (ax.parts k) (ay.parts k)
  have hl := left_of_along same (by rw [e, List.length_append]; omega)
  refine ⟨hl, fun s => ?_⟩
  by_cases es : s = b
  ·subst es; exact same
  ·have : s = !b := by cases s <;> cases b <;> simp_all
   subst this
   exact along_of_left (by show binC b ≠ binC (!b); cases b <;> decide) (alongR_other b x y) hl
def termTidyF (s : ByteArray) : ByteArray × Bool := match ofR s with
 | none => (⟨#[]⟩, false)
 | some t => (zaz (tid t), true)
def zbd (s : ByteArray) : ByteArray × Bool := match ofR s with
 | none => (⟨#[]⟩, false)
 | some t => (zaz (zbc (tid t)), true)
def StrRes (w : World) (r : ByteArray × Bool) (e : Ending) (w' : World) : Prop := e = .returned (.tuple #[.string r.1, .bool r.2]) ∧ Below w.heap.size w w'
set_option maxHeartbeats 400000 in
set_option maxRecDepth 100000 in
theorem tidyI_calls (s : ByteArray) (hs : s.size ≤ 1048576) (w : World) : Calls Try.prog 17 #[.string s] w (StrRes w (termTidyF s)) := by
 have HOf := zaa.mk (termOf_calls s hs w)
 cases hof : ofR s with
 | none =>
  have HR := zaa.mk (show termTidyF s = (⟨#[]⟩, false) by unfold termTidyF; rw [hof])
  rw [hof] at HOf
  clear hof
  go_enter Try.func17, Try.ntmps17
  go_wp2_with (first
   | (go_at_call 22; refine HOf.out.mono ?_; rintro e w2 ⟨q, rfl, hb, hres⟩; replace hres : q = none := hres; subst hres; have HB2 := zaa.mk hb; clear hb))
  go_ret2
  rw [HR.out]
  exact ⟨rfl, HB2.out⟩
 | some t =>
  have HR := zaa.mk (show termTidyF s = (zaz (tid t), true) by unfold termTidyF; rw [hof])
  have HN := zaa.mk (show (tid t).nodes ≤ 1000 by have := ofR_nodes hof; have := zcn t; omega)
  rw [hof] at HOf
  clear hof
  go_enter Try.func17, Try.ntmps17
  go_wp2_with (first
   | (go_at_call 22; refine HOf.out.mono ?_; rintro e w2 ⟨q, rfl, hb, hres⟩; replace hres : ∃ p, q = some ⟨p, 0, none⟩ ∧ PtAt w2 (fun _ => True) t p := hres; obtain ⟨p, rfl, hP⟩ := hres; have HB2 := zaa.mk hb; have HP2 := zaa.mk hP; clear hb hP)
   | (go_at_call 23; refine (tidy_calls t _ p HP2.out).mono ?_; rintro e w3 ⟨m, rfl, hb, hP⟩; have HB3 := zaa.mk (zae HB2.out hb); have HP3 := zaa.mk hP; clear hb hP)
   | (go_at_call 29; refine (textP_calls (tid t) (zbm t) HN.out _ m HP3.out).mono ?_; rintro e w4 ⟨rfl, hb⟩; have HB4 := zaa.mk (zae HB3.out hb); clear hb))
  go_ret2
  rw [HR.out]
  exact ⟨rfl, HB4.out⟩
set_option maxHeartbeats 400000 in
set_option maxRecDepth 100000 in
theorem leftI_calls (s : ByteArray) (hs : s.size ≤ 1048576) (w : World) : Calls Try.prog 15 #[.string s] w (StrRes w (zbd s)) := by
 have HOf := zaa.mk (termOf_calls s hs w)
 cases hof : ofR s with
 | none =>
  have HR := zaa.mk (show zbd s = (⟨#[]⟩, false) by unfold zbd; rw [hof])
  rw [hof] at HOf
  clear hof
  go_enter Try.func15, Try.ntmps15
  go_wp2_with (first
   | (go_at_call 22; refine HOf.out.mono ?_; rintro e w2 ⟨q, rfl, hb, hres⟩; replace hres : q = none := hres; subst hres; have HB2 := zaa.mk hb; clear hb))
  go_ret2
  rw [HR.out]
  exact ⟨rfl, HB2.out⟩
 | some t =>
  have HR := zaa.mk (show zbd s = (zaz (zbc (tid t)), true) by unfold zbd; rw [hof])
  have HN := zaa.mk (show (tid t).nodes ≤ 1000 by have := ofR_nodes hof; have := zcn t; omega)
  have HLo := zaa.mk (left_ok (tid t) (zbm t)).1
  rw [hof] at HOf
  clear hof
  go_enter Try.func15, Try.ntmps15
  go_wp2_with (first
   | (go_at_call 22; refine HOf.out.mono ?_; rintro e w2 ⟨q, rfl, hb, hres⟩; replace hres : ∃ p, q = some ⟨p, 0, none⟩ ∧ PtAt w2 (fun _ => True) t p := hres; obtain ⟨p, rfl, hP⟩ := hres; have HB2 := zaa.mk hb; have HP2 := zaa.mk hP; clear hb hP)
   | (go_at_call 23; refine (tidy_calls t _ p HP2.out).mono ?_; rintro e w3 ⟨m, rfl, hb, hP⟩; have HB3 := zaa.mk (zae HB2.out hb); have HP3 := zaa.mk hP; clear hb hP)
   | (go_at_call 28; refine ((left_all (tid t) (zbm t) HN.out).1 (fun k => True ∧ k < w3.heap.size) w3 m (fun k hk => hk.2) HP3.out.bound).mono ?_; rintro e w4 ⟨m4, rfl, hb, hP⟩; have HB4 := zaa.mk (zae HB3.out hb); have HP4 := zaa.mk (show PtA w4 (zbc (tid t)) m4 from PtAt.mono hP (fun _ _ _ => trivial)); clear hb hP)
   | (go_at_call 29; refine (textP_calls (zbc (tid t)) HLo.out.tidy (by rw [HLo.out.nodes]; exact HN.out) _ m4 HP4.out).mono ?_; rintro e w5 ⟨rfl, hb⟩; have HB5 := zaa.mk (zae HB4.out hb); clear hb))
  go_ret2
  rw [HR.out]
  exact ⟨rfl, HB5.out⟩
def impl_TermTidy.f (s : ByteArray) : Option (ByteArray × Bool) := if s.size ≤ 1048576 then some (termTidyF s) else none
def impl_TermLeft.f (s : ByteArray) : Option (ByteArray × Bool) := if s.size ≤ 1048576 then some (zbd s) else none
theorem impl_TermTidy.calls (a0 : ByteArray) (r1 : ByteArray) (r2 : Bool) (w : World) (h : impl_TermTidy.f a0 = some (r1, r2)) :
  Calls Try.prog 17 #[.string a0] w fun e w' => e = .returned (.tuple #[.string r1, .bool r2]) ∧ Below w.heap.size w w' := by
 unfold impl_TermTidy.f at h
 split at h
 ·rename_i hs
  have e := Option.some.inj h
  have := tidyI_calls a0 hs w
  rw [e] at this
  exact this
 ·cases h
theorem impl_TermLeft.calls (a0 : ByteArray) (r1 : ByteArray) (r2 : Bool) (w : World) (h : impl_TermLeft.f a0 = some (r1, r2)) :
  Calls Try.prog 15 #[.string a0] w fun e w' => e = .returned (.tuple #[.string r1, .bool r2]) ∧ Below w.heap.size w w' := by
 unfold impl_TermLeft.f at h
 split at h
 ·rename_i hs
  have e := Option.some.inj h
  have := leftI_calls a0 hs w
  rw [e] at this
  exact this
 ·cases h
def partsT (s : Bool) : Tr → List Tr
 | .bin b x y => if b = s then partsT s x ++ partsT s y else [.bin b x y]
 | .o => [.o]
 | .un c t => [.un c t]
theorem partsT_same (b : Bool) (x y : Tr) : partsT b (.bin b x y) = partsT b x ++ partsT b y := if_pos rfl
theorem partsT_other {s b : Bool} (h : ¬ b = s) (x y : Tr) : partsT s (.bin b x y) = [.bin b x y] := if_neg h
theorem partsT_along (s : Bool) : ∀ t : Tr, t.tidy = true → (partsT s t).map zbc = zbr s t
 | .o, _ => by cases s <;> rfl
 | .un _ _, h => by cases h
 | .bin b x y, h => by
  simp only [Tr.tidy, Bool.and_eq_true] at h
  by_cases e : b = s
  ·subst e
   rw [partsT_same, List.map_append, partsT_along b x h.1, partsT_along b y h.2, zcg]
  ·have : s = !b := by cases s <;> cases b <;> simp_all
   rw [partsT_other e]
   subst this
   rw [alongR_other]
   rfl
theorem partsT_len (s : Bool) (t : Tr) (h : t.tidy = true) : (partsT s t).length = (zbr s t).length := by rw [← partsT_along s t h, List.length_map]
theorem l11Parts_ev (s : Bool) : ∀ t : Tr, t.tidy = true → t.nodes ≤ 1000 → Evs (fun k => spec_l11Parts.f k (toS t).f0 (toS t).f1 (binC s)) ((partsT s t).map toS)
 | .o, _, _ => by
  refine Evs.stepNeg (fun k => by conv => lhs; unfold spec_l11Parts.f) (by show ¬ (111 : Int) = binC s; cases s <;> decide) ?_
  exact Evs.const _
 | .un _ _, h, _ => by cases h
 | .bin b x y, h, hn => by
  have ht := h
  simp only [Tr.tidy, Bool.and_eq_true] at h
  simp only [Tr.nodes] at hn
  by_cases e : b = s
  ·subst e
   have ex := l11Parts_ev b x h.1 (by omega)
   have ey := l11Parts_ev b y h.2 (by omega)
   have lx := partsT_len b x h.1
   have ly := partsT_len b y h.2
   have nx := zch b x
   have ny := zch b y
   rw [partsT_same, List.map_append]
   refine Evs.stepPos (fun k => by conv => lhs; unfold spec_l11Parts.f) (show (toS (.bin b x y)).f0 = binC b from rfl) ?_
   refine Evs.pos (by show (0 : Int) < ((2 : Nat) : Int); omega) (Evs.bind ex (Evs.pos (by show (1 : Int) < ((2 : Nat) : Int); omega) (Evs.bind ey ?_)))
   first
    | exact Evs.const _
    | exact Evs.pos (by simp only [List.length_map]; omega) (Evs.const _)
  ·rw [partsT_other e]
   refine Evs.stepNeg (fun k => by conv => lhs; unfold spec_l11Parts.f) (by show ¬ binC b = binC s; cases s <;> cases b <;> simp_all [binC]) ?_
   exact Evs.const _
theorem F_elem {w : World} {ok : Nat → Prop} {A : Option Addr} {n : Nat} {xs : List Tm} (h : Kd.F kT w ok A n xs) (i : Nat) (x : Tm) (hx : xs[i]? = some x) :
  ∃ ad A1 c1, A = some ad ∧ w.cell? (ad.add (i * 2)) = some (.int .u8 x.f0) ∧ w.cell? ⟨(ad.add (i * 2)).block, (ad.add (i * 2)).off + 1, none⟩ = some (.slice A1 x.f1.length c1) ∧ TmF w ok x x.f0 (.slice A1 x.f1.length c1) := by
 have hi : i < n := by have := (List.getElem?_eq_some_iff.1 hx).1; have := (Kd.F_now h).1; omega
 obtain ⟨ad, c, e, hcl, hK, hcc, -⟩ := Kd.F_get h x (i : Int) (by omega) (by omega)
 have ex : xs.getD (i : Int).toNat x = x := by rw [Int.toNat_natCast, List.getD_eq_getElem?_getD, hx]; rfl
 rw [ex] at hK
 rw [Int.toNat_natCast] at hcc
 obtain ⟨A1, c1, rfl, l1, hF⟩ := k38_openF hK
 refine ⟨ad, A1, c1, e, ?_, ?_, rfl, A1, c1, rfl, l1, hF⟩
 ·have := hcc 0 _ rfl
  exact this
 ·have h1 := hcc 1 _ rfl
  have e1 : (⟨(ad.add (i * 2)).block, (ad.add (i * 2)).off + 1, none⟩ : Addr) = ad.add (i * 2 + 1) := by
   by_cases hz : i * 2 = 0
   ·simp [Addr.add, hz]
   ·simp [Addr.add, hz, Nat.add_assoc]
  rw [e1]
  exact h1
def textL (s : Bool) (acc : ByteArray) : List Tr → ByteArray
 | [] => acc
 | k :: ks => textL s (zbv 40 ++ acc ++ zbv (if s then 124 else 45) ++ zaz k ++ zbv 41) ks
theorem textL_fold (s : Bool) : ∀ (ks : List Tr) (p : Tr), zaz (ks.foldl (fun out k => .bin s out k) p) = textL s (zaz p) ks
 | [], p => rfl
 | k :: ks, p => by
  rw [List.foldl_cons, textL_fold s ks]
  rfl
theorem textL_app (s : Bool) : ∀ (ks ls : List Tr) (acc : ByteArray), textL s acc (ks ++ ls) = textL s (textL s acc ks) ls
 | [], ls, acc => rfl
 | k :: ks, ls, acc => textL_app s ks ls _
theorem textL_size (s : Bool) : ∀ (ks : List Tr) (acc : ByteArray), (textL s acc ks).size ≤ acc.size + 4 * sumN ks + 3 * ks.length
 | [], acc => by simp [textL]
 | k :: ks, acc => by
  have h := textL_size s ks (zbv 40 ++ acc ++ zbv (if s then 124 else 45) ++ zaz k ++ zbv 41)
  have h2 := zcj k
  simp only [ByteArray.size_append] at h
  have hb : ∀ c : UInt8, (zbv c).size = 1 := fun _ => rfl
  rw [hb, hb, hb] at h
  simp only [textL, sumN, List.map_cons, List.foldr_cons, List.length_cons] at h ⊢
  omega
theorem partsT_nodes (s : Bool) : ∀ t : Tr, t.tidy = true → ∀ k ∈ partsT s t, k.tidy = true ∧ k.nodes ≤ t.nodes
 | .o, h, k, hk => by
  have : k = .o := by simpa [partsT] using hk
  subst this; exact ⟨rfl, Nat.le_refl _⟩
 | .un _ _, h, _, _ => by cases h
 | .bin b x y, h, k, hk => by
  have ht := h
  simp only [Tr.tidy, Bool.and_eq_true] at h
  by_cases e : b = s
  ·subst e
   rw [partsT_same] at hk
   simp only [Tr.nodes]
   rcases List.mem_append.1 hk with hk | hk
   ·have := partsT_nodes b x h.1 k hk; exact ⟨this.1, by omega⟩
   ·have := partsT_nodes b y h.2 k hk; exact ⟨this.1, by omega⟩
  ·rw [partsT_other e, List.mem_singleton] at hk
   subst hk
   exact ⟨ht, Nat.le_refl _⟩
theorem partsT_less (b : Bool) (x y : Tr) (h : (Tr.bin b x y).tidy = true) : ∀ k ∈ partsT b (.bin b x y), k.tidy = true ∧ k.nodes < (Tr.bin b x y).nodes := by
 intro k hk
 simp only [Tr.tidy, Bool.and_eq_true] at h
 rw [partsT_same] at hk
 simp only [Tr.nodes]
 rcases List.mem_append.1 hk with hk | hk
 ·have := partsT_nodes b x h.1 k hk; exact ⟨this.1, by omega⟩
 ·have := partsT_nodes b y h.2 k hk; exact ⟨this.1, by omega⟩
section
variable {P : Program} {ops : Array Oper} {Q : Exit → Act → World → Prop} {md : Region.Mode} {S S' : World → Prop} {ds : List Nat}
def onlyLastT (md : Region.Mode) (ops : Array Oper) (ds : List Nat) : Bool :=
 ds.all fun d => match ops[d]? with
  | some o => (List.range ops.size).all fun j => j == d || o.after.any fun e => Region.binds md e && e.on == j
  | none => true
theorem onlyLastT_ready {listed : Array Bool} {d : Nat} (h : onlyLastT md ops ds = true) (hd : d ∈ ds) (hr : d ∈ Region.ready md ops listed) : Region.ready md ops (listed.setIfInBounds d true) = [] := by
 apply List.eq_nil_iff_forall_not_mem.2
 intro k hk
 obtain ⟨hun, ok, hok, -⟩ := mem_ready.1 hk
 obtain ⟨-, o, ho, hall⟩ := mem_ready.1 hr
 have h1 := List.all_eq_true.1 h d hd
 rw [ho] at h1
 have hks : k < ops.size := (Array.getElem?_eq_some_iff.1 hok).1
 have h2 := List.all_eq_true.1 h1 k (List.mem_range.2 hks)
 by_cases e : d = k
 ·subst e
  rcases Nat.lt_or_ge d listed.size with h' | h'
  ·simp [h'] at hun
  ·rw [Array.getD_eq_getD_getElem?, Array.getElem?_eq_none (by simpa using h')] at hun
   cases hun
 ·rw [Bool.or_eq_true] at h2
  rcases h2 with h2 | h2
  ·exact e (by simpa using Eq.symm (by simpa using h2))
  ·obtain ⟨ed, he, h3⟩ := Array.any_eq_true'.1 h2
   rw [Bool.and_eq_true, beq_iff_eq] at h3
   have h4 := hall ed he h3.1
   rw [h3.2] at h4
   rw [getD_set_ne true e] at hun
   rcases Nat.lt_or_ge k listed.size with h' | h'
   ·simp [h'] at hun h4
    rw [hun] at h4
    cases h4
   ·simp [Array.getElem?_eq_none h'] at hun
theorem turnT_ (hl : onlyLastT md ops ds = true) (h : ∀ v, S' v → S v) : ∀ (fuel : Nat) (listed : Array Bool) (a : Act) (w : World), S' w → zav P md ops Q S' ds fuel listed a w → zav P md ops Q S ds fuel listed a w
 | 0, _, _, _, _, H => H
 | fuel + 1, listed, a, w, hw, H => ⟨H.1, fun i hi => wpOp_mono (fun a' w' hh => by
  by_cases hd : i ∈ ds
  ·refine ⟨fun z => absurd hd z, ?_⟩
   have hr := onlyLastT_ready hl hd hi
   have h2 := hh.2
   cases fuel with
   | zero => exact h2
   | succ n => exact wpAnyLast_done hr (h2.1 hr) (n + 1)
  ·have hs := hh.1 hd hw
   exact ⟨fun _ _ => h _ hs, turnT_ hl h fuel _ a' w' hs hh.2⟩) (H.2 i hi)⟩
theorem turnTB_ {W w : World} {fuel : Nat} {l : Array Bool} {a : Act} (hl : onlyLastT md ops ds = true) (h : Below W.heap.size W w) (hk : zav P md ops Q (fun v => Below w.heap.size w v) ds fuel l a w) : zav P md ops Q (fun v => Below W.heap.size W v) ds fuel l a w :=
 turnT_ hl (fun v hv => zae h hv) fuel l a w (Below.refl _ _) hk
end
theorem byte_row {w : World} {g : Nat} {u : Int} (h : w.heap[g]? = some (.cells #[.int .u8 u] 5 (0, 0))) : (Kd.int .u8).C w (some ⟨g, 0, none⟩) 1 [u] := by
 refine ⟨rfl, by omega, fun _ => ⟨_, rfl, fun j p hj => ?_⟩⟩
 have hj0 : j = 0 := by
  rcases Nat.eq_zero_or_pos j with h0 | h0
  ·exact h0
  ·rw [List.getElem?_eq_none (by simp; omega)] at hj; cases hj
 subst hj0
 have hp : u = p := by simpa using hj
 subst hp
 refine ⟨[.int .u8 u], rfl, rfl, fun i z hz => ?_⟩
 have hi : i < 1 := (List.getElem?_eq_some_iff.1 hz).1
 obtain rfl : i = 0 := by omega
 show w.cell? ((⟨g, 0, none⟩ : Addr).add (0 * 1 + 0)) = _
 rw [zcq, zaf h, ← hz]
 rfl
theorem sumN_take (l : List Tr) (i : Nat) (x : Tr) (h : l[i]? = some x) : sumN (l.take i) + x.nodes ≤ sumN l := by
 have e : l = l.take i ++ (x :: l.drop (i + 1)) := by
  have hi := (List.getElem?_eq_some_iff.1 h)
  obtain ⟨hi1, hi2⟩ := hi
  rw [← hi2, ← List.drop_eq_getElem_cons hi1, List.take_append_drop]
 conv => rhs; rw [e]
 rw [sumN_app]
 simp only [sumN, List.map_cons, List.foldr_cons]
 omega
theorem strByte (b : Bool) : strOfNums [binC b] = zbv (if b then 124 else 45) := by cases b <;> rfl
def LeftS (t : Tr) : Prop := ∀ (P : Nat → Prop) (w : World) (sg : Int) (v : Value), TmF w P (toS t) sg v → Calls Try.prog 30 #[.agg #[.int .u8 sg, v]] w fun e w' => e = .returned (.string (zaz (zbc t))) ∧ Below w.heap.size w w'
set_option maxHeartbeats 400000 in
set_option maxRecDepth 100000 in
theorem leftS_leaf : LeftS .o := by
 intro P w sg v hT
 obtain ⟨hsg, A, c, e, -, -⟩ := hT
 have h1 : sg = 111 := hsg
 clear hsg
 subst h1 e
 show Calls Try.prog 30 #[.agg #[.int .u8 111, .slice A 0 c]] w _
 go_enter Try.func30, Try.ntmps30
 go_upto_region 1 with (fail)
 have hb := zab (Below.refl w.heap.size w) (.cells #[.int .u8 111, .slice A 0 c] 38)
 have hk := heap_alloc_new w (.cells #[.int .u8 111, .slice A 0 c] 38)
 generalize w.alloc (.cells #[.int .u8 111, .slice A 0 c] 38) = w2 at *
 obtain ⟨p1, hp1⟩ : ∃ p1, p1 = w.heap.size := ⟨_, rfl⟩
 rw [← hp1] at hk ⊢
 have x0 : w2.cell? ⟨p1, 0, none⟩ = some (.int .u8 111) := (zaf hk 0).trans rfl
 have HB := zaa.mk hb
 clear hb hk hp1
 go_wp2
 go_ret
 exact ⟨rfl, HB.out⟩
set_option maxHeartbeats 400000 in
set_option maxRecDepth 100000 in
theorem leftS_bin (b : Bool) (x0t y0t : Tr) (ht : (Tr.bin b x0t y0t).tidy = true) (hn : (Tr.bin b x0t y0t).nodes ≤ 1000) (ih : ∀ k, k.tidy = true → k.nodes < (Tr.bin b x0t y0t).nodes → LeftS k) : LeftS (.bin b x0t y0t) := by
 intro P w sg v hT
 obtain ⟨K, hK⟩ := l11Parts_ev b _ ht hn
 have HPe := zaa.mk (hK K (Nat.le_refl K))
 have HLess := zaa.mk (partsT_less b x0t y0t ht)
 have HIh := zaa.mk ih
 have hal := partsT_along b _ ht
 have ok := (left_ok _ ht).2 b
 have hlr := leftR_bin b x0t y0t
 have hpl := partsT_len b _ ht
 have hps := alongR_pos b x0t
 have hps2 := alongR_pos b y0t
 have h2 : 2 ≤ (partsT b (.bin b x0t y0t)).length := by rw [hpl, zcg, List.length_append]; omega
 have hsn := ok.nodes
 rw [← hal] at hlr hsn
 have HSn := zaa.mk hsn
 obtain ⟨hsg, A, c, e, hl, hF⟩ := hT
 have hsg' : sg = binC b := hsg
 clear hsg hK ih hal ok hpl hps hps2 ht hsn
 subst e
 obtain ⟨u, hu⟩ : ∃ u, u = binC b := ⟨_, rfl⟩
 have HU := zaa.mk hu
 rw [← hu] at hsg'
 subst hsg'
 have hPe := HPe.out
 rw [show (toS (.bin b x0t y0t)).f0 = binC b from rfl, ← hu] at hPe
 have HPe2 := zaa.mk hPe
 have HF := zaa.mk hF
 have HL := zaa.mk hl
 have HNn := zaa.mk hn
 rw [hlr]
 clear hPe HPe hF hl hu hlr hn
 generalize (Tr.bin b x0t y0t).nodes = nn at *
 generalize partsT b (.bin b x0t y0t) = ps at *
 generalize (toS (.bin b x0t y0t)).f1 = kids at *
 have HPe3 := zaa.mk (show spec_l11Parts.f K sg kids sg = some (ps.map toS) from HPe2.out)
 clear HPe2
 rcases ps with _ | ⟨q0, qs⟩
 ·exact absurd h2 (by simp)
 obtain ⟨m, hm⟩ : ∃ m, m = qs.length := ⟨_, rfl⟩
 have HM := zaa.mk hm
 have hml : m ≤ 2000 := by have h := HSn.out; have h1 := HNn.out; simp at h; omega
 have d1 : (sg == 111) = false := by rw [HU.out]; cases b <;> rfl
 clear h2 hm
 go_enter Try.func30, Try.ntmps30
 go_upto_region 1 with (fail)
 have hb := zab (Below.refl w.heap.size w) (.cells #[.int .u8 sg, .slice A kids.length c] 38)
 have hk := heap_alloc_new w (.cells #[.int .u8 sg, .slice A kids.length c] 38)
 generalize w.alloc (.cells #[.int .u8 sg, .slice A kids.length c] 38) = w2 at *
 obtain ⟨p1, hp1⟩ : ∃ p1, p1 = w.heap.size := ⟨_, rfl⟩
 rw [← hp1] at hk ⊢
 have x10 : w2.cell? ⟨p1, 0, none⟩ = some (.int .u8 sg) := (zaf hk 0).trans rfl
 have x11 : w2.cell? ⟨p1, 1, none⟩ = some (.slice A kids.length c) := (zaf hk 1).trans rfl
 have HB2 := zaa.mk hb
 clear hb hk hp1
 go_upto_region 4 with (first
  | (go_at_call 43; refine (spec_l11Parts.calls K sg P A c kids sg ((q0 :: qs).map toS) _ (Kd.V_mk HL.out (Kd.F_below HF.out HB2.out)) HPe3.out).mono ?_; rintro e w3 ⟨v3, rfl, hN, hb⟩; have HB23 := zaa.mk hb; have HN3 := zaa.mk hN; clear hb hN))
 obtain ⟨A3, c3, e3, hl3, hF3⟩ := Kd.N_V (base' := 0) HN3.out
 subst e3
 obtain ⟨ad, A1, c1, ea, e0, e1, hT0⟩ := F_elem hF3 0 (toS q0) rfl
 subst ea
 have HF3 := zaa.mk hF3
 have hz : ad.add (0 * 2) = ad := Addr.add_zero' ad
 rw [hz] at e0 e1
 have hl0 := HLess.out q0 (by simp)
 have HQ0 := zaa.mk (HIh.out q0 hl0.1 hl0.2 _ _ _ _ hT0)
 have hlen : ((q0 :: qs).map toS).length = m + 1 := by rw [List.length_map, List.length_cons, HM.out]
 rw [hlen] at hl3 ⊢
 have x30 := zag HB23.out x10
 clear hF3 hz hT0 hl0 hlen hl3 x10 x11 HN3
 generalize (toS q0).f0 = s0 at *
 generalize (toS q0).f1.length = n0 at *
 go_upto_region 5 with (first
  | (go_at_call 30; refine HQ0.out.mono ?_; rintro e w4 ⟨rfl, hb⟩; have HB34 := zaa.mk hb; clear hb))
 obtain ⟨acc0, hacc0⟩ : ∃ acc0, acc0 = zaz (zbc q0) := ⟨_, rfl⟩
 rw [← hacc0]
 have HAcc0 := zaa.mk hacc0
 have hac := zcj (zbc q0)
 rw [← hacc0] at hac
 have HSum := zaa.mk (show (zbc q0).nodes + sumN (qs.map zbc) + qs.length ≤ nn by have h := HSn.out; simp only [List.map_cons, List.length_cons, List.length_map, sumN, List.foldr_cons] at h ⊢; omega)
 have HAcz := zaa.mk hac
 have x4 := zag HB34.out x30
 clear hacc0 hac e0 e1 x30 HQ0
 go_upto_region 6 with (fail)
 go_loopg [4, 5] m (fun kq v4 v5 w' => ∃ (j : Nat), v4 = .string (textL b acc0 ((qs.map zbc).take (j - 1))) ∧ v5 = .int .i64 (j : Int) ∧ zaa (j + kq = m + 1 ∧ 1 ≤ j) ∧ zaa (Below w4.heap.size w4 w'))
 case atStart => exact ⟨1, rfl, rfl, ⟨by omega⟩, ⟨Below.refl _ _⟩⟩
 case round =>
  obtain ⟨j, rfl, rfl, HI, HBl⟩ := hrel
  have hj1 : 1 ≤ j := HI.out.2
  by_cases hj : j < m + 1
  ·have hlt : (j : Int) < ((m + 1 : Nat) : Int) := by omega
   have j0 : (0 : Int) ≤ (j : Int) := by omega
   obtain ⟨kq', hkq⟩ : ∃ z, qs[j - 1]? = some z := ⟨_, List.getElem?_eq_getElem (by have := HM.out; omega)⟩
   have hks : (q0 :: qs)[j]? = some kq' := by
    obtain ⟨j', rfl⟩ : ∃ j', j = j' + 1 := ⟨j - 1, by omega⟩
    simpa using hkq
   obtain ⟨ad', Ax, cx, ea, e0, e1, hTj⟩ := F_elem HF3.out j (toS kq') (by rw [List.getElem?_map, hks]; rfl)
   injection ea with ea
   subst ea
   have hlj := HLess.out kq' (List.mem_of_getElem? hks)
   have hb34l := zae HB34.out HBl.out
   have HE0 := zaa.mk (zag hb34l e0)
   have HE1 := zaa.mk (zag hb34l e1)
   have HX0 := zaa.mk (zag HBl.out x4)
   have HTj := zaa.mk (hTj.below hb34l)
   have HElem := zaa.mk (show ∀ (W : World), Below wr.heap.size wr W → Calls Try.prog 30 #[.agg #[.int .u8 (toS kq').f0, .slice Ax (toS kq').f1.length cx]] W (fun e w' => e = .returned (.string (zaz (zbc kq'))) ∧ Below W.heap.size W w') from fun W hW => HIh.out kq' hlj.1 hlj.2 _ _ _ _ (HTj.out.below hW))
   have hts := zcj (zbc kq')
   have hpre := textL_size b ((qs.map zbc).take (j - 1)) acc0
   have hpost : (qs.map zbc).take j = (qs.map zbc).take (j - 1) ++ [zbc kq'] := by
    conv => lhs; rw [show j = (j - 1) + 1 by omega]
    rw [List.take_add_one, List.getElem?_map, hkq]
    rfl
   have hle1 := sumN_take (qs.map zbc) (j - 1) (zbc kq') (by rw [List.getElem?_map, hkq]; rfl)
   have hlt1 : ((qs.map zbc).take (j - 1)).length ≤ qs.length := by rw [List.length_take, List.length_map]; omega
   have HAcc := zaa.mk (show textL b acc0 ((qs.map zbc).take (j + 1 - 1)) = zbv 40 ++ textL b acc0 ((qs.map zbc).take (j - 1)) ++ zbv (if b then 124 else 45) ++ zaz (zbc kq') ++ zbv 41 by rw [Nat.add_sub_cancel, hpost, textL_app]; rfl)
   have hbig := HSum.out
   have hac := HAcz.out
   have hnn := HNn.out
   have hq0n : qs.length ≤ nn := by omega
   obtain ⟨pre, hprq⟩ : ∃ pre, pre = textL b acc0 ((qs.map zbc).take (j - 1)) := ⟨_, rfl⟩
   obtain ⟨txt, htxt⟩ : ∃ txt, txt = zaz (zbc kq') := ⟨_, rfl⟩
   obtain ⟨st, hst⟩ : ∃ st, st = zbv (if b then 124 else 45) := ⟨_, rfl⟩
   rw [← hprq] at hpre HAcc ⊢
   rw [← htxt] at hts HAcc HElem
   rw [← hst] at HAcc
   have hss : st.size = 1 := by rw [hst]; rfl
   have HSt := zaa.mk (show ∀ {W : World} {g : Nat}, (Kd.int .u8).C W (some ⟨g, 0, none⟩) 1 [sg] → (convert 29 9 (.slice (some ⟨g, 0, none⟩) 1 1)).run Try.prog W = .ok (.string st) W from fun h => by
    have := Kd.C_string (P := Try.prog) (src := 29) (dst := 9) (c := 1) Try.underlying29 Try.underlying5 Try.underlying9 h
    rw [this, HU.out, strByte, hst])
   have z1 : ¬ 9223372036854775807 < 1 + pre.size := by omega
   have z2 : ¬ 9223372036854775807 < 1 + pre.size + st.size := by omega
   have z3 : ¬ 9223372036854775807 < 1 + pre.size + st.size + txt.size := by omega
   have z4 : ¬ 9223372036854775807 < 1 + pre.size + st.size + txt.size + 1 := by omega
   generalize (toS kq').f0 = sx at *
   generalize (toS kq').f1.length = nx at *
   clear hkq hks e0 e1 hTj hlj hb34l hts hpre hpost hle1 hlt1 hbig hac hnn hq0n hprq htxt hst hss HTj
   go_upto_region 8 with (fail)
   refine start_ (n := 15) (S := fun w' => Below wr.heap.size wr w') (ds := []) #[false, false, false, false, false, false, false, false, false, false, false, false, false, false, false] (by kernel_rfl) rfl rfl (zbh (Below.refl _ _)) (fun hHeld => ?_)
   refine zaw (i := 0) (N := some 23) (v := ?_) (a' := ?_) #[true, false, false, false, false, false, false, false, false, false, false, false, false, false, false] rfl rfl (by kernel_rfl) (fun _ _ _ h => h) (Or.inl ⟨by rfl, ?_⟩) ?_ ?_
   rotate_left
   ·intro w'
    go_simp
    with_reducible rfl
   rotate_left
   ·simp only [Act.put, List.setIfInBounds_toArray, List.set_cons_zero, List.set_cons_succ, zap, zaq]
    rfl
   refine zaw (i := 1) (N := some 24) (v := ?_) (a' := ?_) #[true, true, false, false, false, false, false, false, false, false, false, false, false, false, false] rfl rfl (by kernel_rfl) (fun _ _ _ h => h) (Or.inl ⟨by rfl, ?_⟩) ?_ ?_
   rotate_left
   ·intro w'
    go_simp
    with_reducible rfl
   rotate_left
   ·simp only [Act.put, List.setIfInBounds_toArray, List.set_cons_zero, List.set_cons_succ, zap, zaq]
    rfl
   refine zaw (i := 2) (N := some 25) (v := ?_) (a' := ?_) #[true, true, true, false, false, false, false, false, false, false, false, false, false, false, false] rfl rfl (by kernel_rfl) (fun _ _ _ h => h) (Or.inl ⟨by rfl, ?_⟩) ?_ ?_
   rotate_left
   ·intro w'
    go_simp
    with_reducible rfl
   rotate_left
   ·simp only [Act.put, List.setIfInBounds_toArray, List.set_cons_zero, List.set_cons_succ, zap, zaq]
    rfl
   refine take_ (i := 3) (N := some 26) (v := ?_) (a' := ?_) #[true, true, true, true, false, false, false, false, false, false, false, false, false, false, false] rfl rfl (by kernel_rfl) (fun _ _ _ h => h) (Or.inl ⟨by rfl, ?_⟩) hHeld ?_ ?_
   rotate_left
   ·intro w' hb_
    have y0 := zag hb_ HX0.out
    go_simp
    with_reducible rfl
   rotate_left
   ·simp only [Act.put, List.setIfInBounds_toArray, List.set_cons_zero, List.set_cons_succ, zap, zaq]
    rfl
   refine zaw (i := 7) (N := some 30) (v := ?_) (a' := ?_) #[true, true, true, true, false, false, false, true, false, false, false, false, false, false, false] rfl rfl (by kernel_rfl) (fun _ _ _ h => h) (Or.inl ⟨by rfl, ?_⟩) ?_ ?_
   rotate_left
   ·intro w'
    go_simp
    with_reducible rfl
   rotate_left
   ·simp only [Act.put, List.setIfInBounds_toArray, List.set_cons_zero, List.set_cons_succ, zap, zaq]
    rfl
   refine zaw (i := 8) (N := some 31) (v := ?_) (a' := ?_) #[true, true, true, true, false, false, false, true, true, false, false, false, false, false, false] rfl rfl (by kernel_rfl) (fun _ _ _ h => h) (Or.inl ⟨by rfl, ?_⟩) ?_ ?_
   rotate_left
   ·intro w'
    go_simp
    with_reducible rfl
   rotate_left
   ·simp only [Act.put, List.setIfInBounds_toArray, List.set_cons_zero, List.set_cons_succ, zap, zaq]
    rfl
   refine zaw (i := 9) (N := some 32) (v := ?_) (a' := ?_) #[true, true, true, true, false, false, false, true, true, true, false, false, false, false, false] rfl rfl (by kernel_rfl) (fun _ _ _ h => h) (Or.inl ⟨by rfl, ?_⟩) ?_ ?_
   rotate_left
   ·intro w'
    go_simp
    with_reducible rfl
   rotate_left
   ·simp only [Act.put, List.setIfInBounds_toArray, List.set_cons_zero, List.set_cons_succ, zap, zaq]
    rfl
   refine take_ (i := 10) (N := some 33) (v := ?_) (a' := ?_) #[true, true, true, true, false, false, false, true, true, true, true, false, false, false, false] rfl rfl (by kernel_rfl) (fun _ _ _ h => h) (Or.inl ⟨by rfl, ?_⟩) hHeld ?_ ?_
   rotate_left
   ·intro w' hb_
    have y0 := zag hb_ HE0.out
    have y1 := zag hb_ HE1.out
    go_simp
    with_reducible rfl
   rotate_left
   ·simp only [Act.put, List.setIfInBounds_toArray, List.set_cons_zero, List.set_cons_succ, zap, zaq]
    rfl
   refine two_ (i := 4) (j := 11) (Ni := some 27) (Nj := some 34) #[true, true, true, true, true, false, false, true, true, true, true, false, false, false, false] #[true, true, true, true, false, false, false, true, true, true, true, true, false, false, false] rfl rfl rfl rfl (by kernel_rfl) (by decide) (by decide) (fun K hK => ?_) (fun K hK => ?_)
   ·refine event_step (by rfl) (v := .slice (some ⟨wr.drew.heap.size, 0, none⟩) 1 1) (w1 := wr.drew.alloc (.cells #[.int .u8 sg] 5)) (by first | (go_simp; done) | (go_simp; rfl)) ?_
    have hba := zab (Below.refl wr.drew.heap.size wr.drew) (.cells #[.int .u8 sg] 5)
    have hka := heap_alloc_new wr.drew (.cells #[.int .u8 sg] 5)
    generalize wr.drew.alloc (.cells #[.int .u8 sg] 5) = w4 at *
    obtain ⟨gb, hgb⟩ : ∃ gb, gb = wr.drew.heap.size := ⟨_, rfl⟩
    rw [← hgb] at hka ⊢
    have HBy := zaa.mk (byte_row hka)
    have HBa := zaa.mk hba
    refine hK.out _ _ (zae hHeld HBa.out) (fun hHeld => ?_)
    clear hK K hba hka hgb
    refine norm_ (a' := ?_) ?_ ?_
    rotate_left
    ·show Act.put _ (some 27) _ = _
     simp only [Act.put, List.setIfInBounds_toArray, List.set_cons_zero, List.set_cons_succ, zap, zaq]
     rfl
    refine turnTB_ (by kernel_rfl) hHeld ?_
    have hHeld0 := hHeld
    replace hHeld := Below.refl w4.heap.size w4
    refine take_ (i := 5) (N := some 28) (v := ?_) (a' := ?_) #[true, true, true, true, true, true, false, true, true, true, true, false, false, false, false] rfl rfl (by kernel_rfl) (fun _ _ _ h => h) (Or.inl ⟨by rfl, ?_⟩) hHeld ?_ ?_
    rotate_left
    ·intro w' hb_
     have hcv := HSt.out (Kd.C_below HBy.out hb_)
     go_simp
     with_reducible rfl
    rotate_left
    ·simp only [Act.put, List.setIfInBounds_toArray, List.set_cons_zero, List.set_cons_succ, zap, zaq]
     rfl
    refine zaw (i := 6) (N := some 29) (v := ?_) (a' := ?_) #[true, true, true, true, true, true, true, true, true, true, true, false, false, false, false] rfl rfl (by kernel_rfl) (fun _ _ _ h => h) (Or.inl ⟨by rfl, ?_⟩) ?_ ?_
    rotate_left
    ·intro w'
     go_simp
     with_reducible rfl
    rotate_left
    ·simp only [Act.put, List.setIfInBounds_toArray, List.set_cons_zero, List.set_cons_succ, zap, zaq]
     rfl
    refine one_ (i := 11) (N := some 34) #[true, true, true, true, true, true, true, true, true, true, true, true, false, false, false] rfl rfl (by kernel_rfl) (by decide) (fun K hK => ?_)
    refine goes_ Try.func30 (by kernel_rfl) rfl #[.agg #[.int .u8 sx, .slice Ax nx cx]] (by rfl) rfl rfl (by (try simp only [List.map_toArray, List.map_cons, List.map_nil]); first | done | rfl) ?_
    refine (HElem.out _ (zae (zbh (Below.refl _ _)) HBa.out)).mono ?_
    rintro e w5 ⟨rfl, hb5⟩
    refine ⟨_, rfl, ?_⟩
    refine hK.out _ _ hb5 (fun hHeld => ?_)
    have HB5 := zaa.mk (zae (zae (zbh (Below.refl _ _)) HBa.out) hb5)
    clear hK K hb5
    refine norm_ (a' := ?_) ?_ ?_
    rotate_left
    ·show Act.put _ (some 34) _ = _
     simp only [Act.put, List.setIfInBounds_toArray, List.set_cons_zero, List.set_cons_succ, zap, zaq]
     rfl
    refine zaw (i := 12) (N := some 35) (v := ?_) (a' := ?_) #[true, true, true, true, true, true, true, true, true, true, true, true, true, false, false] rfl rfl (by kernel_rfl) (fun _ _ _ h => h) (Or.inl ⟨by rfl, ?_⟩) ?_ ?_
    rotate_left
    ·intro w'
     go_simp
     with_reducible rfl
    rotate_left
    ·simp only [Act.put, List.setIfInBounds_toArray, List.set_cons_zero, List.set_cons_succ, zap, zaq]
     rfl
    refine zaw (i := 13) (N := some 36) (v := ?_) (a' := ?_) #[true, true, true, true, true, true, true, true, true, true, true, true, true, true, false] rfl rfl (by kernel_rfl) (fun _ _ _ h => h) (Or.inl ⟨by rfl, ?_⟩) ?_ ?_
    rotate_left
    ·intro w'
     go_simp
     with_reducible rfl
    rotate_left
    ·simp only [Act.put, List.setIfInBounds_toArray, List.set_cons_zero, List.set_cons_succ, zap, zaq]
     rfl
    refine zaw (i := 14) (N := some 4) (v := ?_) (a' := ?_) #[true, true, true, true, true, true, true, true, true, true, true, true, true, true, true] rfl rfl (by kernel_rfl) (fun _ _ _ h => h) (Or.inl ⟨by rfl, ?_⟩) ?_ ?_
    rotate_left
    ·intro w'
     go_simp
     with_reducible rfl
    rotate_left
    ·simp only [Act.put, List.setIfInBounds_toArray, List.set_cons_zero, List.set_cons_succ, zap, zaq]
     rfl
    refine done_ (by kernel_rfl) ?_
    go_wp2
    go_roundg (m - j)
    case measure => have := HI.out; omega
    case rel => exact ⟨j + 1, by rw [HAcc.out]; rfl, by first | rfl | (congr 1; omega), ⟨by have := HI.out; omega⟩, ⟨zae HBl.out HB5.out⟩⟩
   ·refine goes_ Try.func30 (by kernel_rfl) rfl #[.agg #[.int .u8 sx, .slice Ax nx cx]] (by rfl) rfl rfl (by (try simp only [List.map_toArray, List.map_cons, List.map_nil]); first | done | rfl) ?_
    refine (HElem.out _ (zbh (Below.refl _ _))).mono ?_
    rintro e w5 ⟨rfl, hb5⟩
    refine ⟨_, rfl, ?_⟩
    have hs5 := zae hHeld hb5
    refine hK.out _ _ hs5 (fun hHeld => ?_)
    clear hK K
    refine norm_ (a' := ?_) ?_ ?_
    rotate_left
    ·show Act.put _ (some 34) _ = _
     simp only [Act.put, List.setIfInBounds_toArray, List.set_cons_zero, List.set_cons_succ, zap, zaq]
     rfl
    refine one_ (i := 4) (N := some 27) #[true, true, true, true, true, false, false, true, true, true, true, true, false, false, false] rfl rfl (by kernel_rfl) (by decide) (fun K hK => ?_)
    refine event_step (by rfl) (v := .slice (some ⟨w5.heap.size, 0, none⟩) 1 1) (w1 := w5.alloc (.cells #[.int .u8 sg] 5)) (by first | (go_simp; done) | (go_simp; rfl)) ?_
    have hba := zab (Below.refl w5.heap.size w5) (.cells #[.int .u8 sg] 5)
    have hka := heap_alloc_new w5 (.cells #[.int .u8 sg] 5)
    generalize w5.alloc (.cells #[.int .u8 sg] 5) = w4 at *
    obtain ⟨gb, hgb⟩ : ∃ gb, gb = w5.heap.size := ⟨_, rfl⟩
    rw [← hgb] at hka ⊢
    have HBy := zaa.mk (byte_row hka)
    have HBa := zaa.mk hba
    refine hK.out _ _ (zae hHeld HBa.out) (fun hHeld => ?_)
    have HB5 := zaa.mk (zae hs5 HBa.out)
    clear hK K hba hka hgb hb5 hs5
    refine norm_ (a' := ?_) ?_ ?_
    rotate_left
    ·show Act.put _ (some 27) _ = _
     simp only [Act.put, List.setIfInBounds_toArray, List.set_cons_zero, List.set_cons_succ, zap, zaq]
     rfl
    refine turnTB_ (by kernel_rfl) hHeld ?_
    replace hHeld := Below.refl w4.heap.size w4
    refine take_ (i := 5) (N := some 28) (v := ?_) (a' := ?_) #[true, true, true, true, true, true, false, true, true, true, true, true, false, false, false] rfl rfl (by kernel_rfl) (fun _ _ _ h => h) (Or.inl ⟨by rfl, ?_⟩) hHeld ?_ ?_
    rotate_left
    ·intro w' hb_
     have hcv := HSt.out (Kd.C_below HBy.out hb_)
     go_simp
     with_reducible rfl
    rotate_left
    ·simp only [Act.put, List.setIfInBounds_toArray, List.set_cons_zero, List.set_cons_succ, zap, zaq]
     rfl
    refine zaw (i := 6) (N := some 29) (v := ?_) (a' := ?_) #[true, true, true, true, true, true, true, true, true, true, true, true, false, false, false] rfl rfl (by kernel_rfl) (fun _ _ _ h => h) (Or.inl ⟨by rfl, ?_⟩) ?_ ?_
    rotate_left
    ·intro w'
     go_simp
     with_reducible rfl
    rotate_left
    ·simp only [Act.put, List.setIfInBounds_toArray, List.set_cons_zero, List.set_cons_succ, zap, zaq]
     rfl
    refine zaw (i := 12) (N := some 35) (v := ?_) (a' := ?_) #[true, true, true, true, true, true, true, true, true, true, true, true, true, false, false] rfl rfl (by kernel_rfl) (fun _ _ _ h => h) (Or.inl ⟨by rfl, ?_⟩) ?_ ?_
    rotate_left
    ·intro w'
     go_simp
     with_reducible rfl
    rotate_left
    ·simp only [Act.put, List.setIfInBounds_toArray, List.set_cons_zero, List.set_cons_succ, zap, zaq]
     rfl
    refine zaw (i := 13) (N := some 36) (v := ?_) (a' := ?_) #[true, true, true, true, true, true, true, true, true, true, true, true, true, true, false] rfl rfl (by kernel_rfl) (fun _ _ _ h => h) (Or.inl ⟨by rfl, ?_⟩) ?_ ?_
    rotate_left
    ·intro w'
     go_simp
     with_reducible rfl
    rotate_left
    ·simp only [Act.put, List.setIfInBounds_toArray, List.set_cons_zero, List.set_cons_succ, zap, zaq]
     rfl
    refine zaw (i := 14) (N := some 4) (v := ?_) (a' := ?_) #[true, true, true, true, true, true, true, true, true, true, true, true, true, true, true] rfl rfl (by kernel_rfl) (fun _ _ _ h => h) (Or.inl ⟨by rfl, ?_⟩) ?_ ?_
    rotate_left
    ·intro w'
     go_simp
     with_reducible rfl
    rotate_left
    ·simp only [Act.put, List.setIfInBounds_toArray, List.set_cons_zero, List.set_cons_succ, zap, zaq]
     rfl
    refine done_ (by kernel_rfl) ?_
    go_wp2
    go_roundg (m - j)
    case measure => have := HI.out; omega
    case rel => exact ⟨j + 1, by rw [HAcc.out]; rfl, by first | rfl | (congr 1; omega), ⟨by have := HI.out; omega⟩, ⟨zae HBl.out HB5.out⟩⟩
  ·have hge : ¬ (j : Int) < ((m + 1 : Nat) : Int) := by omega
   go_wp2
   go_ret
   have hjm : j = m + 1 := by have := HI.out; omega
   have e : zaz (foldB b ((q0 :: qs).map zbc)) = textL b acc0 ((qs.map zbc).take (j - 1)) := by
    rw [hjm, Nat.add_sub_cancel, List.take_of_length_le (by rw [List.length_map, HM.out]; exact Nat.le_refl _), HAcc0.out]
    exact textL_fold b (qs.map zbc) (zbc q0)
   exact ⟨congrArg (fun z => Ending.returned (Value.string z)) e.symm, zae (zae (zae HB2.out HB23.out) HB34.out) HBl.out⟩
end Go.Proofs.Ytgiidlebnjbgeaa.Hd
namespace Go.Proofs.Ytgiidlebnjbgeaa.Hd
open Go.RowKit Go.PW.PrintWords Go.PW.PrintLast Go.PW.PrintMore Go.Proofs.Ytgiidlebnjbgeaa.PB
theorem leftS_all : ∀ (n : Nat) (t : Tr), t.nodes ≤ n → t.tidy = true → t.nodes ≤ 1000 → LeftS t := by
 intro n
 induction n with
 | zero => intro t h; exact absurd h (by cases t <;> simp [Tr.nodes])
 | succ n ih =>
  intro t h ht h1
  cases t with
  | o => exact leftS_leaf
  | un c t => cases ht
  | bin b x y => exact leftS_bin b x y ht h1 (fun k hk hlt => ih k (by omega) hk (by omega))
set_option maxHeartbeats 400000 in
set_option maxRecDepth 100000 in
theorem specLeft_calls (s : ByteArray) (hs : s.size ≤ 1048576) (w : World) : Calls Try.prog 16 #[.string s] w (StrRes w (zbd s)) := by
 have HOf := zaa.mk (fun w => l11Of_calls s hs w)
 cases hof : ofR s with
 | none =>
  have HR := zaa.mk (show zbd s = (⟨#[]⟩, false) by unfold zbd; rw [hof])
  rw [hof] at HOf
  clear hof
  go_enter Try.func16, Try.ntmps16
  go_upto_region 3 with (first
   | (go_at_call 19; refine (HOf.out _).mono ?_; rintro e w2 ⟨sg, A, n, c, b, rfl, hb, hres⟩; replace hres : b = false := hres; subst hres; have HB2 := zaa.mk hb; clear hb))
  have hb := zab (Below.refl w2.heap.size w2) (.cells #[.int .u8 sg, .slice A n c] 38)
  generalize w2.alloc (.cells #[.int .u8 sg, .slice A n c] 38) = w3 at *
  have HB3 := zaa.mk (zae HB2.out hb)
  clear hb
  go_wp2
  go_ret2
  rw [HR.out]
  exact ⟨rfl, HB3.out⟩
 | some t =>
  have HR := zaa.mk (show zbd s = (zaz (zbc (tid t)), true) by unfold zbd; rw [hof])
  have HLs := zaa.mk (leftS_all (tid t).nodes (tid t) (Nat.le_refl _) (zbm t) (by have := ofR_nodes hof; have := zcn t; omega))
  rw [hof] at HOf
  have hz := tidyR_zero t
  clear hof
  go_enter Try.func16, Try.ntmps16
  go_upto_region 4 with (first
   | (go_at_call 19; refine (HOf.out _).mono ?_; rintro e w2 ⟨sg, A, n, c, b, rfl, hb, hres⟩; replace hres : b = true ∧ TmF w2 (fun k => w.heap.size ≤ k) (toS t) sg (.slice A n c) := hres; obtain ⟨rfl, hT⟩ := hres; have HB2 := zaa.mk hb; have HT := zaa.mk hT; clear hb hT))
  have hb := zab (Below.refl w2.heap.size w2) (.cells #[.int .u8 sg, .slice A n c] 38)
  have hk := heap_alloc_new w2 (.cells #[.int .u8 sg, .slice A n c] 38)
  generalize w2.alloc (.cells #[.int .u8 sg, .slice A n c] 38) = w3 at *
  obtain ⟨p4, hp4⟩ : ∃ p4, p4 = w2.heap.size := ⟨_, rfl⟩
  rw [← hp4] at hk ⊢
  have x0 : w3.cell? ⟨p4, 0, none⟩ = some (.int .u8 sg) := (zaf hk 0).trans rfl
  have x1 : w3.cell? ⟨p4, 1, none⟩ = some (.slice A n c) := (zaf hk 1).trans rfl
  have HB3 := zaa.mk (zae HB2.out hb)
  have HT3 := zaa.mk (HT.out.below hb)
  have HTi := zaa.mk (l11Tidy_calls t 0 false w3 sg (.slice A n c) 0 rfl (by omega) HT3.out.now)
  rw [hz] at HTi
  clear hb hk hp4 hz
  go_wp2_with (first
   | (go_at_call 21; refine HTi.out.mono ?_; rintro e w5 ⟨sr, Ar, nr, cr, rfl, hb, hT⟩; have HB5 := zaa.mk (zae HB3.out hb); have HT5 := zaa.mk hT; clear hb hT)
   | (go_at_call 30; refine (HLs.out _ _ _ _ HT5.out).mono ?_; rintro e w6 ⟨rfl, hb⟩; have HB6 := zaa.mk (zae HB5.out hb); clear hb))
  go_ret2
  rw [HR.out]
  exact ⟨rfl, HB6.out⟩
def spec_TermLeft.f (s : ByteArray) : Option (ByteArray × Bool) := if s.size ≤ 1048576 then some (zbd s) else none
theorem spec_TermLeft.calls (a0 : ByteArray) (r1 : ByteArray) (r2 : Bool) (w : World) (h : spec_TermLeft.f a0 = some (r1, r2)) :
  Calls Try.prog 16 #[.string a0] w fun e w' => e = .returned (.tuple #[.string r1, .bool r2]) ∧ Below w.heap.size w w' := by
 unfold spec_TermLeft.f at h
 split at h
 ·rename_i hs
  have e := Option.some.inj h
  have := specLeft_calls a0 hs w
  rw [e] at this
  exact this
 ·cases h
end Go.Proofs.Ytgiidlebnjbgeaa.Hd
namespace Go.Proofs.Ytgiidlebnjbgeaa.TL
open Go.Proofs.Ytgiidlebnjbgeaa.PB Go.Proofs.Ytgiidlebnjbgeaa.Hd Go.Proofs.Ytgiidlebnjbgeaa.SM
open Go.RowKit Go.PW.PrintWords Go.PW.PrintLast Go.PW.PrintMore
attribute [local go_sem] zca zby zcm zcl zbo zbn zbz zbx   -- for this text's walks alone
def errW : Option Int → Value
 | none => .nilIface
 | some c => .iface 0 (.int .i64 c)
theorem zan : errW none = .nilIface := rfl
theorem zam (c : Int) : errW (some c) = .iface 0 (.int .i64 c) := rfl
theorem info5 : (Try.prog.info? 5).map (fun i => (i.zero, i.size, i.bytes)) = some (some (.int .u8 0), 1, 1) := by kernel_rfl
theorem info38 : (Try.prog.info? 38).map (fun i => (i.zero, i.size, i.bytes)) = some (some (.agg #[(.int .u8 0), (.slice none 0 0)]), 2, 32) := by kernel_rfl
structure S38 where
 f0 : Int
 f1 : (List S38)
def z38 : S38 := ⟨(0 : Int), ([] : List S38)⟩
def F38 (d : Kd S38) : Kd S38 := Kd.iso (Kd.pair (Kd.int .u8) (Kd.slice 38 d)) (fun x : S38 => (x.f0, x.f1))
theorem mono38 : Kd.Mono F38 := Kd.mono_iso _ (Kd.mono_pair (Kd.mono_const _) (Kd.mono_slice 38 Kd.mono_id))
theorem sub38 : Kd.Sub F38 [38] := Kd.sub_iso _ (Kd.sub_pair (Kd.sub_const _ (by decide)) (Kd.sub_slice 38 (by decide) Kd.sub_id))
theorem sz38 : ∀ n, (Kd.upto F38 2 [38] n).sz = 2 := Kd.upto_sz (fun _ => rfl)
def k38 : Kd S38 := Kd.fix F38 2 [38] sz38 (Kd.upto_E sub38)
theorem k38_open {w : World} {x : S38} {cs : List Value} (h : k38.K w x cs) : ∃ A1 c1, cs = [.int .u8 x.f0, .slice A1 x.f1.length c1] ∧ x.f1.length ≤ c1 ∧ k38.C w A1 x.f1.length x.f1 := by
 obtain ⟨n, h⟩ := h
 cases n with
 | zero => exact h.elim
 | succ n =>
  obtain ⟨_, _, rfl, rfl, ⟨A1, c1, rfl, l1, g1⟩⟩ := h
  exact ⟨A1, c1, rfl, l1, Kd.fix_C g1⟩
theorem k38_mk (w : World) (x : S38) {A1 : Option Addr} {c1 : Nat} (l1 : x.f1.length ≤ c1) (g1 : k38.C w A1 x.f1.length x.f1) : k38.K w x [.int .u8 x.f0, .slice A1 x.f1.length c1] := by
 obtain ⟨n1, q1⟩ := Kd.fix_C_back mono38 g1
 have r1 := Kd.upto_C_le mono38 sz38 (show n1 ≤ n1 by omega) q1
 exact ⟨n1 + 1, ⟨[.int .u8 x.f0], [.slice A1 x.f1.length c1], rfl, rfl, ⟨A1, c1, rfl, l1, r1⟩⟩⟩
theorem k38_openF {W : World} {ok : Nat → Prop} {x : S38} {cs : List Value} (h : Kd.FK k38 W ok x cs) : ∃ A1 c1, cs = [.int .u8 x.f0, .slice A1 x.f1.length c1] ∧ x.f1.length ≤ c1 ∧ Kd.F k38 W ok A1 x.f1.length x.f1 := by
 obtain ⟨A1, c1, rfl, l1, _⟩ := k38_open (Kd.FK_now h)
 exact ⟨A1, c1, rfl, l1, (fun W' hW => by obtain ⟨A1_, c1_, he, l1_, g1_⟩ := k38_open (h W' hW); injection (Option.some.inj (show some (Value.slice A1 x.f1.length c1) = some (Value.slice A1_ x.f1.length c1_) from congrArg (fun l => l[1]?) he)) with ha_ _ _; rw [ha_]; exact g1_)⟩
theorem k38_mkF (W : World) (ok : Nat → Prop) (x : S38) {A1 : Option Addr} {c1 : Nat} (l1 : x.f1.length ≤ c1) (g1 : Kd.F k38 W ok A1 x.f1.length x.f1) : Kd.FK k38 W ok x [.int .u8 x.f0, .slice A1 x.f1.length c1] := fun W2 hW => k38_mk W2 x l1 (g1 W2 hW)
def zbb (xs : List S38) (i : Int) : S38 := xs.getD i.toNat z38
theorem at_T38 {w : World} {A : Option Addr} {n : Nat} {xs : List S38} (h : Kd.C k38 w A n xs) (i : Int) (h0 : 0 ≤ i) (h1 : i < n) : ∃ ad A1 c1, A = some ad ∧ w.cell? (ad.add (i.toNat * 2)) = some (.int .u8 (zbb xs i).f0) ∧ w.cell? ⟨(ad.add (i.toNat * 2)).block, (ad.add (i.toNat * 2)).off + 1, none⟩ = some (.slice A1 (zbb xs i).f1.length c1) ∧ (zbb xs i).f1.length ≤ c1 ∧ k38.C w A1 (zbb xs i).f1.length (zbb xs i).f1 := by
 obtain ⟨ad, c, e, _, hK, hc0⟩ := Kd.C_get h z38 i h0 h1
 have hc : ∀ j u, c[j]? = some u → w.cell? (ad.add (i.toNat * 2 + j)) = some u := hc0
 obtain ⟨A1, c1, rfl, l1, g1⟩ := k38_open hK
 exact ⟨ad, A1, c1, e, hc 0 _ rfl, by rw [← add_field _ _ 1 (by omega)]; exact hc 1 _ rfl, l1, g1⟩
end Go.Proofs.Ytgiidlebnjbgeaa.TL
