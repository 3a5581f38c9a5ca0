/- Part 3 of the proof of FnTermSame: what the program's functions and the reference's compute. -/
import Derived.Lib.Strings
import Derived.Lib.Bytealg
import Derived.Laws.Strings3
import Derived.Laws.AppendOwn
import Derived.Lib.SliceRun
import Derived.Lib.LazyBuf
import Derived.Test.YtgiidlebnjbgeaaProg
import Derived.Below
import Derived.Deep.Draws
import Derived.Deep.AppendLies
import Derived.Maps.AppendAt
import Derived.OwnWalk
import Derived.Laws.BytesArg
import Derived.Laws.MakeOwn
import Derived.Laws.OwnMore
import Derived.Deep.OwnRows
import Derived.Tactics
import Derived.Lib.ConvBytes
import Derived.Laws.Slices
import Derived.WalkKit
import Derived.KernelRfl
import Derived.RowKit3
import Derived.Deep.LoopGhost
import Derived.Deep.QuietTactic
import Derived.BigQuiet
import Derived.WideLaws
import Derived.Deep.DeepCutAuto
import Derived.Deep.CutBlock
import Derived.Deep.RegionHeld3
import Derived.Laws.Rows
import Derived.Lib.AppendStr
import Derived.ArgAppend
import Derived.Laws.IdiomCopy
import Derived.OrdersHeld
import Derived.Laws.BitsLemmas
import Derived.RowKit
import Derived.Test.YtgiidlebnjbgeaaCPTSb
set_option linter.unusedSimpArgs false
set_option linter.unusedVariables false
namespace Go.Proofs.Ytgiidlebnjbgeaa.Hd
open Go.RowKit Go.PW.PrintWords Go.PW.PrintLast Go.PW.PrintMore Go.Proofs.Ytgiidlebnjbgeaa.PB
theorem wrapT {x : Int} (h0 : -9223372036854775808 ≤ x) (h1 : x ≤ 9223372036854775807) : wrap64 x = x := by unfold wrap64; omega
theorem bt_nat (s : ByteArray) (i : Nat) (h : i < s.size) : ((s[i]'h).toNat : Int) = bt s (i : Int) := by
 have := bt_at s (i : Int) (by simpa using h)
 simpa using this
abbrev Tm : Type := S38
abbrev kT : Kd Tm := k38
def rdT : Nat → ByteArray → Nat → Option (Tm × Nat)
 | 0, _, _ => none
 | f + 1, s, i => if s.size ≤ i then none else if bt s (i : Int) = 111 then some (⟨111, []⟩, i + 1) else
  if bt s (i : Int) = 62 ∨ bt s (i : Int) = 94 then match rdT f s (i + 1) with
   | none => none
   | some (t, e) => some (⟨bt s (i : Int), [t]⟩, e)
  else if bt s (i : Int) ≠ 40 then none else match rdT f s (i + 1) with
   | none => none
   | some (a, m) => if s.size ≤ m ∨ (bt s (m : Int) ≠ 124 ∧ bt s (m : Int) ≠ 45) then none else match rdT f s (m + 1) with
    | none => none
    | some (b, e) => if s.size ≤ e ∨ bt s (e : Int) ≠ 41 then none else some (⟨bt s (m : Int), [a, b]⟩, e + 1)
theorem rdT_end : ∀ (f : Nat) (s : ByteArray) (i : Nat) (t : Tm) (e : Nat), rdT f s i = some (t, e) → i < e ∧ e ≤ s.size
 | 0, s, i, t, e, h => by cases h
 | f + 1, s, i, t, e, h => by
  unfold rdT at h
  split at h
  ·cases h
  ·split at h
   ·injection h with h; injection h with h1 h2; omega
   ·split at h
    ·split at h
     ·cases h
     ·rename_i t' e' hr
      injection h with h; injection h with h1 h2
      have := rdT_end f s _ _ _ hr
      omega
    ·split at h
     ·cases h
     ·split at h
      ·cases h
      ·rename_i a m hr
       have h3 := rdT_end f s _ _ _ hr
       split at h
       ·cases h
       ·split at h
        ·cases h
        ·rename_i b e' hr2
         have h4 := rdT_end f s _ _ _ hr2
         split at h
         ·cases h
         ·injection h with h; injection h with h1 h2; omega
theorem zbj {w : World} {b : Nat} {t : TypeId} {x y : Value} (h : w.heap[b]? = some (.cells #[x, y] t (0, 0))) (u v : Value) : ((w.setCell ⟨b, 0, none⟩ u).setCell ⟨b, 1, none⟩ v).heap[b]? = some (.cells #[u, v] t (0, 0)) := by
 have h1 : (w.setCell ⟨b, 0, none⟩ u).heap[b]? = some (.cells #[u, y] t (0, 0)) := by simpa using blk_set h 0 u
 simpa using blk_set h1 1 v
theorem zao {P : Program} {fn : Func} {p u : Tmp} {ty : TypeId} (h : fn.results = #[.cell p ty, .tmp u]) (tmps : Array Value) (w : World) (g : Nat) (t : TypeId) (cs : Array Value) (fr : Nat × Nat) (d : TypeDesc)
  (hp : tmps.getD p undef = .pointer (some ⟨g, 0, none⟩)) (hg : w.heap[g]? = some (.cells cs t fr))
  (hu : P.underlying ty = some d) (hd : (match d with | .struct _ | .array _ _ => true | _ => false) = true) (hi : (P.info? ty).map (·.size) = some cs.size) :
  (results fn tmps).run P w = .ok (.tuple #[.agg cs, tmps.getD u undef]) w := by
 have hp' : tmps[p]?.getD undef = .pointer (some ⟨g, 0, none⟩) := by simpa using hp
 rw [results_cell_tmp h]
 simp [hp', asAddr, run_loadVar_row w g t ty cs fr d hg hu hd hi, Result.andThen]
theorem skipT_step {P : Program} {ops : Array Oper} {o : Oper} {a : Act} {Q : Exit → Act → World → Prop} {Kc : Act → World → Prop} {N : Option Tmp} {W w1 : World} (hw : Region.wanted o (yielded ops a.tmps) = true) (hN : o.dst = none) (hrun : (execOp a.eval o).run P W = .ok .skip w1) (h : Kc a w1) : if Region.wanted o (yielded ops a.tmps) = true then Oper.wp P o a W Kc Q else Kc (a.put N undef) W := by
 rw [if_pos hw]
 unfold Oper.wp
 rw [hrun, Oper.upon_skip, hN]
 exact h
theorem zbx {P : Program} {ops : Array Oper} {o : Oper} {rest : List Oper} {a : Act} {Q : Exit → Act → World → Prop} {W : World} (hgd : o.guard = none) {N : Tmp} (_hd : o.dst = some N) {cs : Array Value} {t : TypeId} {n : Nat}
  (hrun : (execOp a.eval o).run P W = .ok (.value (.slice (some ⟨W.heap.size, 0, none⟩) n n)) (W.alloc (.cells cs t (0, 0))))
  (h : ∀ g, g = W.heap.size → ∀ w1, w1.heap[g]? = some (.cells cs t (0, 0)) → Below W.heap.size W w1 → wpList P ops Q rest (a.put o.dst (.slice (some ⟨g, 0, none⟩) n n)) w1) : wpList P ops Q (o :: rest) a W :=
 Kd.event_run hgd hrun (h _ rfl _ (blk_new W _) (zac (Below.refl _ _) _))
def TmV (w : World) (t : Tm) (sg : Int) (v : Value) : Prop := sg = t.f0 ∧ ∃ A c, v = .slice A t.f1.length c ∧ t.f1.length ≤ c ∧ kT.C w A t.f1.length t.f1
theorem TmV.below {w w' : World} {t : Tm} {sg : Int} {v : Value} (h : TmV w t sg v) (hb : Below w.heap.size w w') : TmV w' t sg v := by
 obtain ⟨a, A, c, e, l, hC⟩ := h
 exact ⟨a, A, c, e, l, Kd.C_below hC hb⟩
theorem kT_one {W : World} {g : Nat} {ty : TypeId} {sg : Int} {v : Value} {a : Tm} (h : W.heap[g]? = some (.cells #[.int .u8 sg, v] ty (0, 0))) (hv : TmV W a sg v) : kT.C W (some ⟨g, 0, none⟩) 1 [a] := by
 obtain ⟨rfl, A, c, rfl, l, hC⟩ := hv
 refine ⟨rfl, by omega, fun _ => ⟨_, rfl, fun j p hj => ?_⟩⟩
 have hj0 : j = 0 := by
  rcases Nat.eq_zero_or_pos j with h0 | h0
  ·exact h0
  ·rw [List.getElem?_eq_none (by simp; omega)] at hj; cases hj
 subst hj0
 have hp : a = p := by simpa using hj
 subst hp
 refine ⟨[.int .u8 a.f0, .slice A a.f1.length c], rfl, k38_mk W a l hC, fun i u hu => ?_⟩
 show W.cell? ((⟨g, 0, none⟩ : Addr).add (0 * 2 + i)) = _
 rw [Nat.zero_mul, Nat.zero_add, add_plain, zag h, ← hu]
 simp
theorem kT_two {W : World} {g : Nat} {ty : TypeId} {sg sg2 : Int} {v v2 : Value} {a b : Tm} (h : W.heap[g]? = some (.cells #[.int .u8 sg, v, .int .u8 sg2, v2] ty (0, 0))) (hv : TmV W a sg v) (hv2 : TmV W b sg2 v2) : kT.C W (some ⟨g, 0, none⟩) 2 [a, b] := by
 obtain ⟨rfl, A, c, rfl, l, hC⟩ := hv
 obtain ⟨rfl, A2, c2, rfl, l2, hC2⟩ := hv2
 refine ⟨rfl, by omega, fun _ => ⟨_, rfl, fun j p hj => ?_⟩⟩
 have hj2 : j < 2 := by
  rcases Nat.lt_or_ge j 2 with h0 | h0
  ·exact h0
  ·rw [List.getElem?_eq_none (by simp; omega)] at hj; cases hj
 rcases (show j = 0 ∨ j = 1 by omega) with rfl | rfl
 ·have hp : a = p := by simpa using hj
  subst hp
  refine ⟨[.int .u8 a.f0, .slice A a.f1.length c], rfl, k38_mk W a l hC, fun i u hu => ?_⟩
  show W.cell? ((⟨g, 0, none⟩ : Addr).add (0 * 2 + i)) = _
  have hi : i < 2 := (List.getElem?_eq_some_iff.1 hu).1
  rw [Nat.zero_mul, Nat.zero_add, add_plain, zag h, ← hu]
  rcases (show i = 0 ∨ i = 1 by omega) with rfl | rfl <;> rfl
 ·have hp : b = p := by simpa using hj
  subst hp
  refine ⟨[.int .u8 b.f0, .slice A2 b.f1.length c2], rfl, k38_mk W b l2 hC2, fun i u hu => ?_⟩
  show W.cell? ((⟨g, 0, none⟩ : Addr).add (1 * 2 + i)) = _
  have hi : i < 2 := (List.getElem?_eq_some_iff.1 hu).1
  rw [add_plain, zag h, ← hu]
  rcases (show i = 0 ∨ i = 1 by omega) with rfl | rfl <;> rfl
def TmF (w : World) (ok : Nat → Prop) (t : Tm) (sg : Int) (v : Value) : Prop := sg = t.f0 ∧ ∃ A c, v = .slice A t.f1.length c ∧ t.f1.length ≤ c ∧ Kd.F kT w ok A t.f1.length t.f1
section
variable {w w' : World} {ok ok' : Nat → Prop} {t a b : Tm} {sg sg2 : Int} {v v2 : Value}
theorem TmF.seen (h : TmF w ok t sg v) (hW : ∀ k, ok k → k < w.heap.size → w'.heap[k]? = w.heap[k]?) : TmV w' t sg v := by
 obtain ⟨e, A, c, e2, l, hF⟩ := h
 exact ⟨e, A, c, e2, l, hF w' hW⟩
theorem TmF.now (h : TmF w ok t sg v) : TmV w t sg v := h.seen (fun _ _ _ => rfl)
theorem TmF.below (h : TmF w ok t sg v) (hb : Below w.heap.size w w') : TmF w' ok t sg v := by
 obtain ⟨e, A, c, e2, l, hF⟩ := h
 exact ⟨e, A, c, e2, l, Kd.F_below hF hb⟩
theorem TmF.far (h : TmF w ok t sg v) {p : Addr} (hok : ∀ k, ok k → k ≠ p.block) (u : Value) : TmF (w.setCell p u) ok t sg v := by
 obtain ⟨e, A, c, e2, l, hF⟩ := h
 exact ⟨e, A, c, e2, l, Kd.F_far hF hok u⟩
theorem TmF.mono (h : TmF w ok t sg v) (hok : ∀ k, ok k → ok' k) : TmF w ok' t sg v := by
 obtain ⟨e, A, c, e2, l, hF⟩ := h
 exact ⟨e, A, c, e2, l, Kd.F_mono hF hok⟩
theorem TmF.leaf (w : World) (ok : Nat → Prop) (x : Int) (A : Option Addr) (c : Nat) : TmF w ok ⟨x, []⟩ x (.slice A 0 c) := ⟨rfl, A, c, rfl, Nat.zero_le _, fun _ _ => ⟨rfl, Nat.zero_le _, fun h => absurd h (Nat.lt_irrefl _)⟩⟩
theorem TmF.one {g : Nat} {ty : TypeId} {x : Int} (h : w.heap[g]? = some (.cells #[.int .u8 sg, v] ty (0, 0))) (hg : ok g) (hv : TmF w ok a sg v) : TmF w ok ⟨x, [a]⟩ x (.slice (some ⟨g, 0, none⟩) 1 1) :=
 ⟨rfl, _, _, rfl, Nat.le_refl _, fun w' hW => kT_one ((hW g hg (zau h)).trans h) (hv.seen hW)⟩
theorem TmF.two {g : Nat} {ty : TypeId} {x : Int} (h : w.heap[g]? = some (.cells #[.int .u8 sg, v, .int .u8 sg2, v2] ty (0, 0))) (hg : ok g) (hv : TmF w ok a sg v) (hv2 : TmF w ok b sg2 v2) : TmF w ok ⟨x, [a, b]⟩ x (.slice (some ⟨g, 0, none⟩) 2 2) :=
 ⟨rfl, _, _, rfl, Nat.le_refl _, fun w' hW => kT_two ((hW g hg (zau h)).trans h) (hv.seen hW) (hv2.seen hW)⟩
end
def ReadRes (w : World) (r : Option (Tm × Nat)) (e : Ending) (w' : World) : Prop :=
 ∃ (sg : Int) (A : Option Addr) (n c : Nat) (m : Int), e = .returned (.tuple #[.agg #[.int .u8 sg, .slice A n c], .int .i64 m]) ∧ Below w.heap.size w w' ∧ match r with
  | none => m = 0
  | some (t, i) => m = (i : Int) ∧ TmF w' (fun k => w.heap.size ≤ k) t sg (.slice A n c)
set_option maxHeartbeats 400000 in
set_option maxRecDepth 100000 in
theorem l11Read_calls (s : ByteArray) (hs : s.size ≤ 1048576) : ∀ (f i : Nat) (w : World) (x : Int), x = (i : Int) → s.size < i + f → i ≤ s.size →
  Calls Try.prog 35 #[.string s, .int .i64 x] w (ReadRes w (rdT f s i)) := by
 intro f
 induction f with
 | zero => intro i w x hx h1 h2; omega
 | succ f ih =>
  intro i w x hx h1 h2
  subst hx
  have HIh := zaa.mk ih
  have HF := zaa.mk h1
  clear ih h1
  go_enter Try.func35, Try.ntmps35
  go_upto_region 1 with (fail)
  have hb := zac (Below.refl w.heap.size w) (.cells #[.int .u8 0, .slice none 0 0] 38)
  have hk := heap_alloc_new w (.cells #[.int .u8 0, .slice none 0 0] 38)
  generalize w.alloc (.cells #[.int .u8 0, .slice none 0 0] 38) = w1 at *
  obtain ⟨p4, hp4⟩ : ∃ p4, p4 = w.heap.size := ⟨_, rfl⟩
  rw [← hp4] at hk ⊢
  have HP4 := zaa.mk hp4
  have HB1 := zaa.mk hb
  have HK1 := zaa.mk hk
  clear hb hk hp4
  go_upto_region 2 with (fail)
  have hb2 := zac (zac (Below.refl w1.heap.size w1) (.cells #[] 38)) (.cells #[.int .u8 111, .slice (some ⟨w1.heap.size, 0, none⟩) 0 0] 38)
  have hk6 := heap_alloc_new (w1.alloc (.cells #[] 38)) (.cells #[.int .u8 111, .slice (some ⟨w1.heap.size, 0, none⟩) 0 0] 38)
  rw [World.size_alloc] at hk6
  generalize (w1.alloc (.cells #[] 38)).alloc (.cells #[.int .u8 111, .slice (some ⟨w1.heap.size, 0, none⟩) 0 0] 38) = w2 at *
  obtain ⟨p6, hp6⟩ : ∃ p6, p6 = w1.heap.size + 1 := ⟨_, rfl⟩
  rw [← hp6] at hk6 ⊢
  obtain ⟨pe, hpe⟩ : ∃ pe, pe = w1.heap.size := ⟨_, rfl⟩
  rw [← hpe] at hk6 ⊢
  have hp46 : p4 < p6 := by have := zau HK1.out; omega
  have hk4 := (hb2.block p4 (zau HK1.out)).trans HK1.out
  have HB2 := zaa.mk (zae HB1.out hb2)
  have HK4 := zaa.mk hk4
  have HK6 := zaa.mk hk6
  have x40 : w2.cell? ⟨p4, 0, none⟩ = some (.int .u8 0) := (zag hk4 0).trans rfl
  have x41 : w2.cell? ⟨p4, 1, none⟩ = some (.slice none 0 0) := (zag hk4 1).trans rfl
  have f40 := zaj hk4 0
  have f41 := zaj hk4 1
  have x60 : w2.cell? ⟨p6, 0, none⟩ = some (.int .u8 111) := (zag hk6 0).trans rfl
  have x61 : w2.cell? ⟨p6, 1, none⟩ = some (.slice (some ⟨pe, 0, none⟩) 0 0) := (zag hk6 1).trans rfl
  clear hb2 hk4 hk6 hp6 hpe HB1 HK1
  by_cases hi : s.size ≤ i
  ·have hii : (s.size : Int) ≤ (i : Int) := by omega
   have hr : rdT (f + 1) s i = none := by unfold rdT; rw [if_pos hi]
   go_wp2
   have x0 := zbj HK4.out (.int .u8 111) (.slice (some ⟨pe, 0, none⟩) 0 0)
   have HBs := zaa.mk (show Below w.heap.size w ((w2.setCell ⟨p4, 0, none⟩ (.int .u8 111)).setCell ⟨p4, 1, none⟩ (.slice (some ⟨pe, 0, none⟩) 0 0)) from zaf (zaf HB2.out (by have := HP4.out; omega)) (by have := HP4.out; omega))
   generalize (w2.setCell ⟨p4, 0, none⟩ (.int .u8 111)).setCell ⟨p4, 1, none⟩ (.slice (some ⟨pe, 0, none⟩) 0 0) = w3 at *
   (try simp only [Exit.inBlock, Exit.then])
   refine bodyPost_ret (zao rfl _ _ p4 38 _ (0, 0) _ rfl x0 Try.underlying38 rfl (by kernel_rfl)) rfl ?_
   rw [hr]
   exact ⟨111, _, 0, 0, 0, rfl, HBs.out, rfl⟩
  ·have hlt : ¬ (s.size : Int) ≤ (i : Int) := by omega
   have c0 : (0 : Int) ≤ (i : Int) := by omega
   have c1 : (i : Int) < (s.size : Int) := by omega
   obtain ⟨j, hj⟩ : ∃ j, j = i + 1 := ⟨_, rfl⟩
   have HJ := zaa.mk hj
   clear hj
   have hun : rdT (f + 1) s i = if bt s (i : Int) = 111 then some (⟨111, []⟩, j) else
     if bt s (i : Int) = 62 ∨ bt s (i : Int) = 94 then match rdT f s j with
      | none => none
      | some (t, e) => some (⟨bt s (i : Int), [t]⟩, e)
     else if bt s (i : Int) ≠ 40 then none else match rdT f s j with
      | none => none
      | some (a, m) => if s.size ≤ m ∨ (bt s (m : Int) ≠ 124 ∧ bt s (m : Int) ≠ 45) then none else match rdT f s (m + 1) with
       | none => none
       | some (b, e) => if s.size ≤ e ∨ bt s (e : Int) ≠ 41 then none else some (⟨bt s (m : Int), [a, b]⟩, e + 1) := by
    conv => lhs; unfold rdT
    rw [if_neg hi, HJ.out]
   have HUn := zaa.mk hun
   have hil : i < s.size := by omega
   clear hun hi
   have hbt := bt_nat s i hil
   generalize bt s (i : Int) = c at *
   by_cases e1 : c = 111
   ·have hr : rdT (f + 1) s i = some (⟨111, []⟩, j) := by rw [HUn.out, if_pos e1]
    have d1 : (c == 111) = true := by rw [beq_iff_eq]; exact e1
    have HR := zaa.mk hr
    clear hr e1
    go_wp2
    have x0 := zbj HK4.out (.int .u8 111) (.slice (some ⟨pe, 0, none⟩) 0 0)
    have HBs := zaa.mk (show Below w.heap.size w ((w2.setCell ⟨p4, 0, none⟩ (.int .u8 111)).setCell ⟨p4, 1, none⟩ (.slice (some ⟨pe, 0, none⟩) 0 0)) from zaf (zaf HB2.out (by have := HP4.out; omega)) (by have := HP4.out; omega))
    generalize (w2.setCell ⟨p4, 0, none⟩ (.int .u8 111)).setCell ⟨p4, 1, none⟩ (.slice (some ⟨pe, 0, none⟩) 0 0) = w3 at *
    (try simp only [Exit.inBlock, Exit.then])
    refine bodyPost_ret (zao rfl _ _ p4 38 _ (0, 0) _ rfl x0 Try.underlying38 rfl (by kernel_rfl)) rfl ?_
    rw [HR.out]
    exact ⟨111, _, 0, 0, _, rfl, HBs.out, by have := HJ.out; omega, TmF.leaf _ _ _ _ _⟩
   ·have d1 : (c == 111) = false := by rw [beq_eq_false_iff_ne]; exact e1
    have hun := HUn.out
    rw [if_neg e1] at hun
    clear HUn
    have HUn := zaa.mk hun
    clear hun e1
    rcases (show c = 62 ∨ c = 94 ∨ (c ≠ 62 ∧ c ≠ 94) by omega) with e3 | e3 | ⟨e3, e4⟩
    ·have e2 : c = 62 ∨ c = 94 := by omega
     have d2 : (c == 62) = true := by rw [beq_iff_eq]; exact e3
     have hun := HUn.out
     rw [if_pos e2] at hun
     clear HUn
     have HUn := zaa.mk hun
     have HC := zaa.mk e3
     clear hun e2 e3
     go_upto_region 9 with (first
      | (go_at_call 35; refine (HIh.out j _ _ (by have := HJ.out; omega) (by have := HF.out; have := HJ.out; omega) (by have := HJ.out; omega)).mono ?_; rintro e w3 ⟨sg, A, n, cp, m, rfl, hb, hres⟩; have HB3 := zaa.mk hb; have HRes := zaa.mk hres; clear hb hres))
     have hb := zac (Below.refl w3.heap.size w3) (.cells #[.int .u8 sg, .slice A n cp] 38)
     have hk := heap_alloc_new w3 (.cells #[.int .u8 sg, .slice A n cp] 38)
     generalize w3.alloc (.cells #[.int .u8 sg, .slice A n cp] 38) = w4 at *
     obtain ⟨p8, hp⟩ : ∃ p8, p8 = w3.heap.size := ⟨_, rfl⟩
     rw [← hp] at hk ⊢
     have Hp8 := zaa.mk hp
     have HAw4 := zaa.mk hb
     have HKp8 := zaa.mk hk
     clear hb hk hp
     have hk4 := (HAw4.out.block p4 (by have := HB3.out.size; have := zau HK4.out; omega)).trans ((HB3.out.block p4 (zau HK4.out)).trans HK4.out)
     have HB4 := zaa.mk (zae (zae HB2.out HB3.out) HAw4.out)
     have HK4' := zaa.mk hk4
     clear x40 x41 f40 f41 x60 x61
     have x40 : w4.cell? ⟨p4, 0, none⟩ = some (.int .u8 0) := (zag hk4 0).trans rfl
     have x41 : w4.cell? ⟨p4, 1, none⟩ = some (.slice none 0 0) := (zag hk4 1).trans rfl
     have f40 := zaj hk4 0
     have f41 := zaj hk4 1
     have x80 : w4.cell? ⟨p8, 0, none⟩ = some (.int .u8 sg) := (zag HKp8.out 0).trans rfl
     have x81 : w4.cell? ⟨p8, 1, none⟩ = some (.slice A n cp) := (zag HKp8.out 1).trans rfl
     clear hk4
     go_wp2_with (first
      | ((with_reducible refine zbe (N := 44) rfl ?_); refine zbx ?hg (N := 44) ?hd (n := 1) (cs := #[.int .u8 sg, .slice A n cp]) (t := 38) ?hr ?_; (case hd => rfl); (case hg => rfl); (case hr => first | (go_simp; done) | (go_simp; rfl)); intro pb hpb w5 hk hb; have Hpb := zaa.mk hpb; have HAw5 := zaa.mk hb; have HKpb := zaa.mk hk; have hk4 := (hb.block p4 (zau HK4'.out)).trans HK4'.out; clear x40 x41 f40 f41 x80 x81 hb hk hpb; have x40 : w5.cell? ⟨p4, 0, none⟩ = some (.int .u8 0) := (zag hk4 0).trans rfl; have x41 : w5.cell? ⟨p4, 1, none⟩ = some (.slice none 0 0) := (zag hk4 1).trans rfl; have f40 := zaj hk4 0; have f41 := zaj hk4 1; clear hk4))
     have HN := zaa.mk (show p4 < w2.heap.size ∧ w2.heap.size ≤ w3.heap.size ∧ w3.heap.size ≤ w4.heap.size ∧ pb = w4.heap.size ∧ w.heap.size ≤ p4 ∧ w.heap.size ≤ w2.heap.size from ⟨zau HK4.out, HB3.out.size, HAw4.out.size, Hpb.out, by have := HP4.out; omega, HB2.out.size⟩)
     have hk4 := (HAw5.out.block p4 (zau HK4'.out)).trans HK4'.out
     have x0 := zbj hk4 (.int .u8 c) (.slice (some ⟨pb, 0, none⟩) 1 1)
     have HBs := zaa.mk (show Below w.heap.size w ((w5.setCell ⟨p4, 0, none⟩ (.int .u8 c)).setCell ⟨p4, 1, none⟩ (.slice (some ⟨pb, 0, none⟩) 1 1)) from zaf (zaf (zae HB4.out HAw5.out) (by have := HP4.out; omega)) (by have := HP4.out; omega))
     have HKb := zaa.mk (show ((w5.setCell ⟨p4, 0, none⟩ (.int .u8 c)).setCell ⟨p4, 1, none⟩ (.slice (some ⟨pb, 0, none⟩) 1 1)).heap[pb]? = some (.cells #[.int .u8 sg, .slice A n cp] 38 (0, 0)) from (Below.heap_setCell _ ⟨p4, 1, none⟩ _ pb (by have := HN.out; show pb ≠ p4; omega)).trans ((Below.heap_setCell w5 ⟨p4, 0, none⟩ _ pb (by have := HN.out; show pb ≠ p4; omega)).trans HKpb.out))
     have HT := zaa.mk (show ∀ t : Tm, TmF w3 (fun k => w2.heap.size ≤ k) t sg (.slice A n cp) → TmF ((w5.setCell ⟨p4, 0, none⟩ (.int .u8 c)).setCell ⟨p4, 1, none⟩ (.slice (some ⟨pb, 0, none⟩) 1 1)) (fun k => w2.heap.size ≤ k) t sg (.slice A n cp) from fun t h => (((h.below HAw4.out).below HAw5.out).far (p := ⟨p4, 0, none⟩) (fun k hk => by have := HN.out; show k ≠ p4; omega) _).far (p := ⟨p4, 1, none⟩) (fun k hk => by have := HN.out; show k ≠ p4; omega) _)
     generalize (w5.setCell ⟨p4, 0, none⟩ (.int .u8 c)).setCell ⟨p4, 1, none⟩ (.slice (some ⟨pb, 0, none⟩) 1 1) = w6 at *
     (try simp only [Exit.inBlock, Exit.then])
     refine bodyPost_ret (zao rfl _ _ p4 38 _ (0, 0) _ rfl x0 Try.underlying38 rfl (by kernel_rfl)) rfl ?_
     rw [HUn.out]
     have hres := HRes.out
     cases hrd : rdT f s j with
     | none =>
      rw [hrd] at hres
      dsimp only at hres ⊢
      exact ⟨c, _, 1, 1, m, rfl, HBs.out, hres⟩
     | some te =>
      obtain ⟨t, e⟩ := te
      rw [hrd] at hres
      dsimp only at hres ⊢
      exact ⟨c, _, 1, 1, m, rfl, HBs.out, hres.1, TmF.one HKb.out (by have := HN.out; show w.heap.size ≤ pb; omega) ((HT.out t hres.2).mono (fun k hk => by have := HN.out; show w.heap.size ≤ k; omega))⟩
    ·have e2 : c = 62 ∨ c = 94 := by omega
     have d2 : (c == 62) = false := by rw [beq_eq_false_iff_ne]; omega
     have d3 : (c == 94) = true := by rw [beq_iff_eq]; exact e3
     have hun := HUn.out
     rw [if_pos e2] at hun
     clear HUn
     have HUn := zaa.mk hun
     have HC := zaa.mk e3
     clear hun e2 e3
     go_upto_region 9 with (first
      | (go_at_call 35; refine (HIh.out j _ _ (by have := HJ.out; omega) (by have := HF.out; have := HJ.out; omega) (by have := HJ.out; omega)).mono ?_; rintro e w3 ⟨sg, A, n, cp, m, rfl, hb, hres⟩; have HB3 := zaa.mk hb; have HRes := zaa.mk hres; clear hb hres))
     have hb := zac (Below.refl w3.heap.size w3) (.cells #[.int .u8 sg, .slice A n cp] 38)
     have hk := heap_alloc_new w3 (.cells #[.int .u8 sg, .slice A n cp] 38)
     generalize w3.alloc (.cells #[.int .u8 sg, .slice A n cp] 38) = w4 at *
     obtain ⟨p8, hp⟩ : ∃ p8, p8 = w3.heap.size := ⟨_, rfl⟩
     rw [← hp] at hk ⊢
     have Hp8 := zaa.mk hp
     have HAw4 := zaa.mk hb
     have HKp8 := zaa.mk hk
     clear hb hk hp
     have hk4 := (HAw4.out.block p4 (by have := HB3.out.size; have := zau HK4.out; omega)).trans ((HB3.out.block p4 (zau HK4.out)).trans HK4.out)
     have HB4 := zaa.mk (zae (zae HB2.out HB3.out) HAw4.out)
     have HK4' := zaa.mk hk4
     clear x40 x41 f40 f41 x60 x61
     have x40 : w4.cell? ⟨p4, 0, none⟩ = some (.int .u8 0) := (zag hk4 0).trans rfl
     have x41 : w4.cell? ⟨p4, 1, none⟩ = some (.slice none 0 0) := (zag hk4 1).trans rfl
     have f40 := zaj hk4 0
     have f41 := zaj hk4 1
     have x80 : w4.cell? ⟨p8, 0, none⟩ = some (.int .u8 sg) := (zag HKp8.out 0).trans rfl
     have x81 : w4.cell? ⟨p8, 1, none⟩ = some (.slice A n cp) := (zag HKp8.out 1).trans rfl
     clear hk4
     go_wp2_with (first
      | ((with_reducible refine zbe (N := 44) rfl ?_); refine zbx ?hg (N := 44) ?hd (n := 1) (cs := #[.int .u8 sg, .slice A n cp]) (t := 38) ?hr ?_; (case hd => rfl); (case hg => rfl); (case hr => first | (go_simp; done) | (go_simp; rfl)); intro pb hpb w5 hk hb; have Hpb := zaa.mk hpb; have HAw5 := zaa.mk hb; have HKpb := zaa.mk hk; have hk4 := (hb.block p4 (zau HK4'.out)).trans HK4'.out; clear x40 x41 f40 f41 x80 x81 hb hk hpb; have x40 : w5.cell? ⟨p4, 0, none⟩ = some (.int .u8 0) := (zag hk4 0).trans rfl; have x41 : w5.cell? ⟨p4, 1, none⟩ = some (.slice none 0 0) := (zag hk4 1).trans rfl; have f40 := zaj hk4 0; have f41 := zaj hk4 1; clear hk4))
     have HN := zaa.mk (show p4 < w2.heap.size ∧ w2.heap.size ≤ w3.heap.size ∧ w3.heap.size ≤ w4.heap.size ∧ pb = w4.heap.size ∧ w.heap.size ≤ p4 ∧ w.heap.size ≤ w2.heap.size from ⟨zau HK4.out, HB3.out.size, HAw4.out.size, Hpb.out, by have := HP4.out; omega, HB2.out.size⟩)
     have hk4 := (HAw5.out.block p4 (zau HK4'.out)).trans HK4'.out
     have x0 := zbj hk4 (.int .u8 c) (.slice (some ⟨pb, 0, none⟩) 1 1)
     have HBs := zaa.mk (show Below w.heap.size w ((w5.setCell ⟨p4, 0, none⟩ (.int .u8 c)).setCell ⟨p4, 1, none⟩ (.slice (some ⟨pb, 0, none⟩) 1 1)) from zaf (zaf (zae HB4.out HAw5.out) (by have := HP4.out; omega)) (by have := HP4.out; omega))
     have HKb := zaa.mk (show ((w5.setCell ⟨p4, 0, none⟩ (.int .u8 c)).setCell ⟨p4, 1, none⟩ (.slice (some ⟨pb, 0, none⟩) 1 1)).heap[pb]? = some (.cells #[.int .u8 sg, .slice A n cp] 38 (0, 0)) from (Below.heap_setCell _ ⟨p4, 1, none⟩ _ pb (by have := HN.out; show pb ≠ p4; omega)).trans ((Below.heap_setCell w5 ⟨p4, 0, none⟩ _ pb (by have := HN.out; show pb ≠ p4; omega)).trans HKpb.out))
     have HT := zaa.mk (show ∀ t : Tm, TmF w3 (fun k => w2.heap.size ≤ k) t sg (.slice A n cp) → TmF ((w5.setCell ⟨p4, 0, none⟩ (.int .u8 c)).setCell ⟨p4, 1, none⟩ (.slice (some ⟨pb, 0, none⟩) 1 1)) (fun k => w2.heap.size ≤ k) t sg (.slice A n cp) from fun t h => (((h.below HAw4.out).below HAw5.out).far (p := ⟨p4, 0, none⟩) (fun k hk => by have := HN.out; show k ≠ p4; omega) _).far (p := ⟨p4, 1, none⟩) (fun k hk => by have := HN.out; show k ≠ p4; omega) _)
     generalize (w5.setCell ⟨p4, 0, none⟩ (.int .u8 c)).setCell ⟨p4, 1, none⟩ (.slice (some ⟨pb, 0, none⟩) 1 1) = w6 at *
     (try simp only [Exit.inBlock, Exit.then])
     refine bodyPost_ret (zao rfl _ _ p4 38 _ (0, 0) _ rfl x0 Try.underlying38 rfl (by kernel_rfl)) rfl ?_
     rw [HUn.out]
     have hres := HRes.out
     cases hrd : rdT f s j with
     | none =>
      rw [hrd] at hres
      dsimp only at hres ⊢
      exact ⟨c, _, 1, 1, m, rfl, HBs.out, hres⟩
     | some te =>
      obtain ⟨t, e⟩ := te
      rw [hrd] at hres
      dsimp only at hres ⊢
      exact ⟨c, _, 1, 1, m, rfl, HBs.out, hres.1, TmF.one HKb.out (by have := HN.out; show w.heap.size ≤ pb; omega) ((HT.out t hres.2).mono (fun k hk => by have := HN.out; show w.heap.size ≤ k; omega))⟩
    ·have d2 : (c == 62) = false := by rw [beq_eq_false_iff_ne]; exact e3
     have d3 : (c == 94) = false := by rw [beq_eq_false_iff_ne]; exact e4
     have hun := HUn.out
     rw [if_neg (by omega)] at hun
     clear HUn
     have HUn := zaa.mk hun
     clear hun e3 e4
     by_cases e5 : c = 40
     ·have d4 : (c == 40) = true := by rw [beq_iff_eq]; exact e5
      have hun := HUn.out
      rw [if_neg (fun h => h e5)] at hun
      clear HUn e5
      have HUn := zaa.mk hun
      clear hun
      go_upto_region 13 with (first
       | (go_at_call 35; refine (HIh.out j _ _ (by have := HJ.out; omega) (by have := HF.out; have := HJ.out; omega) (by have := HJ.out; omega)).mono ?_; rintro e w3 ⟨sgA, AA, nA, cA, mA, rfl, hb, hres⟩; have HB3 := zaa.mk hb; have HResA := zaa.mk hres; clear hb hres))
      have hb := zac (Below.refl w3.heap.size w3) (.cells #[.int .u8 sgA, .slice AA nA cA] 38)
      have hk := heap_alloc_new w3 (.cells #[.int .u8 sgA, .slice AA nA cA] 38)
      generalize w3.alloc (.cells #[.int .u8 sgA, .slice AA nA cA] 38) = w4 at *
      obtain ⟨p10, hp⟩ : ∃ p10, p10 = w3.heap.size := ⟨_, rfl⟩
      rw [← hp] at hk ⊢
      have Hp10 := zaa.mk hp
      have HAw4 := zaa.mk hb
      have HKp10 := zaa.mk hk
      clear hb hk hp
      have hk4 := (HAw4.out.block p4 (by have := HB3.out.size; have := zau HK4.out; omega)).trans ((HB3.out.block p4 (zau HK4.out)).trans HK4.out)
      have hk6 := (HAw4.out.block p6 (by have := HB3.out.size; have := zau HK6.out; omega)).trans ((HB3.out.block p6 (zau HK6.out)).trans HK6.out)
      have HB4 := zaa.mk (zae (zae HB2.out HB3.out) HAw4.out)
      have HK44 := zaa.mk hk4
      have HK64 := zaa.mk hk6
      clear x40 x41 f40 f41 x60 x61
      have x40 : w4.cell? ⟨p4, 0, none⟩ = some (.int .u8 0) := (zag hk4 0).trans rfl
      have f40 := zaj hk4 0
      have x41 : w4.cell? ⟨p4, 1, none⟩ = some (.slice none 0 0) := (zag hk4 1).trans rfl
      have f41 := zaj hk4 1
      have x60 : w4.cell? ⟨p6, 0, none⟩ = some (.int .u8 111) := (zag hk6 0).trans rfl
      have x61 : w4.cell? ⟨p6, 1, none⟩ = some (.slice (some ⟨pe, 0, none⟩) 0 0) := (zag hk6 1).trans rfl
      clear hk4 hk6
      have hres := HResA.out
      clear HResA
      cases hrd : rdT f s j with
      | none =>
       rw [hrd] at hres
       dsimp only at hres
       subst hres
       have hr : rdT (f + 1) s i = none := by rw [HUn.out, hrd]
       clear hrd
       have HRn := zaa.mk hr
       clear hr
       go_wp2
       have x0 := zbj HK44.out (.int .u8 111) (.slice (some ⟨pe, 0, none⟩) 0 0)
       have HBs := zaa.mk (show Below w.heap.size w ((w4.setCell ⟨p4, 0, none⟩ (.int .u8 111)).setCell ⟨p4, 1, none⟩ (.slice (some ⟨pe, 0, none⟩) 0 0)) from zaf (zaf HB4.out (by have := HP4.out; omega)) (by have := HP4.out; omega))
       generalize (w4.setCell ⟨p4, 0, none⟩ (.int .u8 111)).setCell ⟨p4, 1, none⟩ (.slice (some ⟨pe, 0, none⟩) 0 0) = wz at *
       (try simp only [Exit.inBlock, Exit.then])
       refine bodyPost_ret (zao rfl _ _ p4 38 _ (0, 0) _ rfl x0 Try.underlying38 rfl (by kernel_rfl)) rfl ?_
       rw [HRn.out]
       exact ⟨111, _, 0, 0, 0, rfl, HBs.out, rfl⟩
      | some am =>
       obtain ⟨a, md⟩ := am
       rw [hrd] at hres
       dsimp only at hres
       obtain ⟨hm, hTa⟩ := hres
       subst hm
       have hend := rdT_end f s j a md hrd
       have hun := HUn.out
       rw [hrd] at hun
       dsimp only at hun
       clear HUn hrd
       have HUn := zaa.mk hun
       have HTA := zaa.mk hTa
       have HEa := zaa.mk (show j < md ∧ md ≤ s.size ∧ 1 ≤ md from ⟨hend.1, hend.2, by omega⟩)
       have d5 : ((md : Int) == 0) = false := by rw [beq_eq_false_iff_ne]; omega
       clear hun hTa hend
       by_cases hsm : s.size ≤ md
       ·have d6 : (s.size : Int) ≤ (md : Int) := by omega
        have hr : rdT (f + 1) s i = none := by rw [HUn.out, if_pos (.inl hsm)]
        clear hsm
        have HRn := zaa.mk hr
        clear hr
        go_wp2
        have x0 := zbj HK44.out (.int .u8 111) (.slice (some ⟨pe, 0, none⟩) 0 0)
        have HBs := zaa.mk (show Below w.heap.size w ((w4.setCell ⟨p4, 0, none⟩ (.int .u8 111)).setCell ⟨p4, 1, none⟩ (.slice (some ⟨pe, 0, none⟩) 0 0)) from zaf (zaf HB4.out (by have := HP4.out; omega)) (by have := HP4.out; omega))
        generalize (w4.setCell ⟨p4, 0, none⟩ (.int .u8 111)).setCell ⟨p4, 1, none⟩ (.slice (some ⟨pe, 0, none⟩) 0 0) = wz at *
        (try simp only [Exit.inBlock, Exit.then])
        refine bodyPost_ret (zao rfl _ _ p4 38 _ (0, 0) _ rfl x0 Try.underlying38 rfl (by kernel_rfl)) rfl ?_
        rw [HRn.out]
        exact ⟨111, _, 0, 0, 0, rfl, HBs.out, rfl⟩
       ·have d6 : ¬ (s.size : Int) ≤ (md : Int) := by omega
        have k2 : (0 : Int) ≤ (md : Int) := by omega
        have k3 : (md : Int) < (s.size : Int) := by omega
        have hml : md < s.size := by omega
        have hbm := bt_nat s md hml
        clear hsm
        generalize bt s (md : Int) = c2 at *
        obtain ⟨j2, hj2⟩ : ∃ j2, j2 = md + 1 := ⟨_, rfl⟩
        rw [← hj2] at HUn
        have HJ2 := zaa.mk hj2
        clear hj2
        rcases (show c2 = 124 ∨ c2 = 45 ∨ (c2 ≠ 124 ∧ c2 ≠ 45) by omega) with e8 | e8 | ⟨e8, e9⟩
        ·have d7 : (c2 == 124) = true := by rw [beq_iff_eq]; exact e8
         have d7b : (c2 != 124) = false := by rw [bne, d7]; rfl
         have HC2 := zaa.mk e8
         have hun := HUn.out
         rw [if_neg (by have := HC2.out; omega)] at hun
         clear HUn e8
         have HUn := zaa.mk hun
         clear hun
         go_upto_region 16 with (first
          | (go_at_call 35; refine (HIh.out j2 _ _ (by have := HJ2.out; omega) (by have := HF.out; have := HJ.out; have := HJ2.out; have := HEa.out; omega) (by have := HJ2.out; have := HEa.out; omega)).mono ?_; rintro e w5 ⟨sgB, AB, nB, cB, mB, rfl, hb, hres⟩; have HB5 := zaa.mk hb; have HResB := zaa.mk hres; clear hb hres))
         have hb := zac (Below.refl w5.heap.size w5) (.cells #[.int .u8 sgB, .slice AB nB cB] 38)
         have hk := heap_alloc_new w5 (.cells #[.int .u8 sgB, .slice AB nB cB] 38)
         generalize w5.alloc (.cells #[.int .u8 sgB, .slice AB nB cB] 38) = w6 at *
         obtain ⟨p12, hp⟩ : ∃ p12, p12 = w5.heap.size := ⟨_, rfl⟩
         rw [← hp] at hk ⊢
         have Hp12 := zaa.mk hp
         have HAw6 := zaa.mk hb
         have HKp12 := zaa.mk hk
         clear hb hk hp
         have hk4 := ((HAw6.out.block p4 (by have := HB5.out.size; have := zau HK44.out; omega)).trans (HB5.out.block p4 (zau HK44.out))).trans HK44.out
         have hk6 := ((HAw6.out.block p6 (by have := HB5.out.size; have := zau HK64.out; omega)).trans (HB5.out.block p6 (zau HK64.out))).trans HK64.out
         have hk10 := ((HAw6.out.block p10 (by have := HB5.out.size; have := zau HKp10.out; omega)).trans (HB5.out.block p10 (zau HKp10.out))).trans HKp10.out
         have HB6 := zaa.mk (zae (zae HB4.out HB5.out) HAw6.out)
         have HK46 := zaa.mk hk4
         clear x40 x41 f40 f41 x60 x61
         have x40 : w6.cell? ⟨p4, 0, none⟩ = some (.int .u8 0) := (zag hk4 0).trans rfl
         have f40 := zaj hk4 0
         have x41 : w6.cell? ⟨p4, 1, none⟩ = some (.slice none 0 0) := (zag hk4 1).trans rfl
         have f41 := zaj hk4 1
         have x60 : w6.cell? ⟨p6, 0, none⟩ = some (.int .u8 111) := (zag hk6 0).trans rfl
         have x61 : w6.cell? ⟨p6, 1, none⟩ = some (.slice (some ⟨pe, 0, none⟩) 0 0) := (zag hk6 1).trans rfl
         have x100 : w6.cell? ⟨p10, 0, none⟩ = some (.int .u8 sgA) := (zag hk10 0).trans rfl
         have x101 : w6.cell? ⟨p10, 1, none⟩ = some (.slice AA nA cA) := (zag hk10 1).trans rfl
         have x120 : w6.cell? ⟨p12, 0, none⟩ = some (.int .u8 sgB) := (zag HKp12.out 0).trans rfl
         have x121 : w6.cell? ⟨p12, 1, none⟩ = some (.slice AB nB cB) := (zag HKp12.out 1).trans rfl
         clear hk4 hk6 hk10
         have hres := HResB.out
         clear HResB
         cases hrd : rdT f s j2 with
         | none =>
          rw [hrd] at hres
          dsimp only at hres
          subst hres
          have hr : rdT (f + 1) s i = none := by rw [HUn.out, hrd]
          clear hrd
          have HRn := zaa.mk hr
          clear hr
          go_wp2
          have x0 := zbj HK46.out (.int .u8 111) (.slice (some ⟨pe, 0, none⟩) 0 0)
          have HBs := zaa.mk (show Below w.heap.size w ((w6.setCell ⟨p4, 0, none⟩ (.int .u8 111)).setCell ⟨p4, 1, none⟩ (.slice (some ⟨pe, 0, none⟩) 0 0)) from zaf (zaf HB6.out (by have := HP4.out; omega)) (by have := HP4.out; omega))
          generalize (w6.setCell ⟨p4, 0, none⟩ (.int .u8 111)).setCell ⟨p4, 1, none⟩ (.slice (some ⟨pe, 0, none⟩) 0 0) = wz at *
          (try simp only [Exit.inBlock, Exit.then])
          refine bodyPost_ret (zao rfl _ _ p4 38 _ (0, 0) _ rfl x0 Try.underlying38 rfl (by kernel_rfl)) rfl ?_
          rw [HRn.out]
          exact ⟨111, _, 0, 0, 0, rfl, HBs.out, rfl⟩
         | some be =>
          obtain ⟨b, e⟩ := be
          rw [hrd] at hres
          dsimp only at hres
          obtain ⟨hm, hTb⟩ := hres
          subst hm
          have hend := rdT_end f s j2 b e hrd
          have hun := HUn.out
          rw [hrd] at hun
          dsimp only at hun
          clear HUn hrd
          have HUn := zaa.mk hun
          have HTB := zaa.mk hTb
          have g0 : ((e : Int) == 0) = false := by rw [beq_eq_false_iff_ne]; omega
          have HEb := zaa.mk hend
          clear hun hTb hend
          by_cases hse : s.size ≤ e
          ·have g1 : (s.size : Int) ≤ (e : Int) := by omega
           have hr : rdT (f + 1) s i = none := by rw [HUn.out, if_pos (.inl hse)]
           clear hse
           have HRn := zaa.mk hr
           clear hr
           go_wp2
           have x0 := zbj HK46.out (.int .u8 111) (.slice (some ⟨pe, 0, none⟩) 0 0)
           have HBs := zaa.mk (show Below w.heap.size w ((w6.setCell ⟨p4, 0, none⟩ (.int .u8 111)).setCell ⟨p4, 1, none⟩ (.slice (some ⟨pe, 0, none⟩) 0 0)) from zaf (zaf HB6.out (by have := HP4.out; omega)) (by have := HP4.out; omega))
           generalize (w6.setCell ⟨p4, 0, none⟩ (.int .u8 111)).setCell ⟨p4, 1, none⟩ (.slice (some ⟨pe, 0, none⟩) 0 0) = wz at *
           (try simp only [Exit.inBlock, Exit.then])
           refine bodyPost_ret (zao rfl _ _ p4 38 _ (0, 0) _ rfl x0 Try.underlying38 rfl (by kernel_rfl)) rfl ?_
           rw [HRn.out]
           exact ⟨111, _, 0, 0, 0, rfl, HBs.out, rfl⟩
          ·have g1 : ¬ (s.size : Int) ≤ (e : Int) := by omega
           have g2 : (0 : Int) ≤ (e : Int) := by omega
           have g3 : (e : Int) < (s.size : Int) := by omega
           have hel : e < s.size := by omega
           have hbe := bt_nat s e hel
           have HNe := zaa.mk hse
           clear hse
           generalize bt s (e : Int) = c3 at *
           obtain ⟨je, hje⟩ : ∃ je, je = e + 1 := ⟨_, rfl⟩
           have HJe := zaa.mk hje
           by_cases e9 : c3 = 41
           ·have g4 : (c3 == 41) = true := by rw [beq_iff_eq]; exact e9
            have g4b : (c3 != 41) = false := by rw [bne, g4]; rfl
            have HRs := zaa.mk (show rdT (f + 1) s i = some (⟨c2, [a, b]⟩, je) by rw [HUn.out, if_neg (by have := HNe.out; omega), hje])
            clear hje e9
            go_upto_region 18 with (fail)
            refine start_ (n := 11) (S := fun w' => w'.cell? ⟨p10, 0, none⟩ = some (.int .u8 sgA) ∧ w'.cell? ⟨p10, 1, none⟩ = some (.slice AA nA cA) ∧ w'.cell? ⟨p12, 0, none⟩ = some (.int .u8 sgB) ∧ w'.cell? ⟨p12, 1, none⟩ = some (.slice AB nB cB)) (ds := [9]) #[false, false, false, false, false, false, false, false, false, false, false] (by kernel_rfl) rfl rfl (⟨x100, x101, x120, x121⟩) (fun hHeld => ?_)
            clear x40 x41 f40 f41 x60 x61 x100 x101 x120 x121
            refine zba (i := 0) (N := some 100) (v := ?_) (a' := ?_) #[true, false, false, false, false, false, false, false, false, false, false] rfl rfl (by kernel_rfl) (fun _ _ _ h => h) (Or.inl ⟨by rfl, ?_⟩) ?_ ?_
            rotate_left
            ·intro w'
             go_simp
             with_reducible rfl
            rotate_left
            ·simp only [Act.put, List.setIfInBounds_toArray, List.set_cons_zero, List.set_cons_succ, zaq, zar]
             rfl
            refine zba (i := 1) (N := some 101) (v := ?_) (a' := ?_) #[true, true, false, false, false, false, false, false, false, false, false] rfl rfl (by kernel_rfl) (fun _ _ _ h => h) (Or.inl ⟨by rfl, ?_⟩) ?_ ?_
            rotate_left
            ·intro w'
             go_simp
             with_reducible rfl
            rotate_left
            ·simp only [Act.put, List.setIfInBounds_toArray, List.set_cons_zero, List.set_cons_succ, zaq, zar]
             rfl
            refine zba (i := 2) (N := some 102) (v := ?_) (a' := ?_) #[true, true, true, false, false, false, false, false, false, false, false] rfl rfl (by kernel_rfl) (fun _ _ _ h => h) (Or.inl ⟨by rfl, ?_⟩) ?_ ?_
            rotate_left
            ·intro w'
             go_simp
             with_reducible rfl
            rotate_left
            ·simp only [Act.put, List.setIfInBounds_toArray, List.set_cons_zero, List.set_cons_succ, zaq, zar]
             rfl
            refine take_ (i := 3) (N := some 103) (v := ?_) (a' := ?_) #[true, true, true, true, false, false, false, false, false, false, false] rfl rfl (by kernel_rfl) (fun _ _ _ h => h) (Or.inl ⟨by rfl, ?_⟩) hHeld ?_ ?_
            rotate_left
            ·rintro w' ⟨s0, s1, s2, s3⟩
             go_simp
             with_reducible rfl
            rotate_left
            ·simp only [Act.put, List.setIfInBounds_toArray, List.set_cons_zero, List.set_cons_succ, zaq, zar]
             rfl
            refine take_ (i := 4) (N := some 104) (v := ?_) (a' := ?_) #[true, true, true, true, true, false, false, false, false, false, false] rfl rfl (by kernel_rfl) (fun _ _ _ h => h) (Or.inl ⟨by rfl, ?_⟩) hHeld ?_ ?_
            rotate_left
            ·rintro w' ⟨s0, s1, s2, s3⟩
             go_simp
             with_reducible rfl
            rotate_left
            ·simp only [Act.put, List.setIfInBounds_toArray, List.set_cons_zero, List.set_cons_succ, zaq, zar]
             rfl
            refine zba (i := 7) (N := some 107) (v := ?_) (a' := ?_) #[true, true, true, true, true, false, false, true, false, false, false] rfl rfl (by kernel_rfl) (fun _ _ _ h => h) (Or.inl ⟨by rfl, ?_⟩) ?_ ?_
            rotate_left
            ·intro w'
             go_simp
             with_reducible rfl
            rotate_left
            ·simp only [Act.put, List.setIfInBounds_toArray, List.set_cons_zero, List.set_cons_succ, zaq, zar]
             rfl
            refine zba (i := 8) (N := some 108) (v := ?_) (a' := ?_) #[true, true, true, true, true, false, false, true, true, false, false] rfl rfl (by kernel_rfl) (fun _ _ _ h => h) (Or.inl ⟨by rfl, ?_⟩) ?_ ?_
            rotate_left
            ·intro w'
             go_simp
             with_reducible rfl
            rotate_left
            ·simp only [Act.put, List.setIfInBounds_toArray, List.set_cons_zero, List.set_cons_succ, zaq, zar]
             rfl
            refine one_ (i := 5) (N := some 105) #[true, true, true, true, true, true, false, true, true, false, false] rfl rfl (by kernel_rfl) (by decide) (fun K hK => ?_)
            refine event_step (by rfl) (v := .slice (some ⟨w6.drew.heap.size, 0, none⟩) 2 2) (w1 := w6.drew.alloc (.cells #[.int .u8 sgA, .slice AA nA cA, .int .u8 sgB, .slice AB nB cB] 38)) (by first | (go_simp; done) | (go_simp; rfl)) ?_
            have hb := zac (zbn (Below.refl w6.heap.size w6)) (.cells #[.int .u8 sgA, .slice AA nA cA, .int .u8 sgB, .slice AB nB cB] 38)
            have hk := heap_alloc_new w6.drew (.cells #[.int .u8 sgA, .slice AA nA cA, .int .u8 sgB, .slice AB nB cB] 38)
            have hc := zac (Below.refl w6.drew.heap.size w6.drew) (.cells #[.int .u8 sgA, .slice AA nA cA, .int .u8 sgB, .slice AB nB cB] 38)
            generalize w6.drew.alloc (.cells #[.int .u8 sgA, .slice AA nA cA, .int .u8 sgB, .slice AB nB cB] 38) = w8 at *
            obtain ⟨pb, hpb⟩ : ∃ pb, pb = w6.drew.heap.size := ⟨_, rfl⟩
            rw [← hpb] at hk ⊢
            have Hpb := zaa.mk (show pb = w6.heap.size from hpb)
            have HKpb := zaa.mk hk
            have HA8 := zaa.mk hb
            refine hK.out _ _ ⟨zah hc hHeld.1, zah hc hHeld.2.1, zah hc hHeld.2.2.1, zah hc hHeld.2.2.2⟩ (fun hHeld => ?_)
            clear hK K hc hb hk hpb
            refine norm_ (a' := ?_) ?_ ?_
            rotate_left
            ·show Act.put _ (some 105) _ = _
             simp only [Act.put, List.setIfInBounds_toArray, List.set_cons_zero, List.set_cons_succ, zaq, zar]
             rfl
            refine zba (i := 6) (N := some 106) (v := ?_) (a' := ?_) #[true, true, true, true, true, true, true, true, true, false, false] rfl rfl (by kernel_rfl) (fun _ _ _ h => h) (Or.inl ⟨by rfl, ?_⟩) ?_ ?_
            rotate_left
            ·intro w'
             go_simp
             with_reducible rfl
            rotate_left
            ·simp only [Act.put, List.setIfInBounds_toArray, List.set_cons_zero, List.set_cons_succ, zaq, zar]
             rfl
            have hk4 := (HA8.out.block p4 (zau HK46.out)).trans HK46.out
            have HK48 := zaa.mk hk4
            have x40 : w8.cell? ⟨p4, 0, none⟩ = some (.int .u8 0) := (zag hk4 0).trans rfl
            have f40 := zaj hk4 0
            have x41 : w8.cell? ⟨p4, 1, none⟩ = some (.slice none 0 0) := (zag hk4 1).trans rfl
            have f41 := zaj hk4 1
            clear hk4
            refine last_ (i := 9) (N := none) #[true, true, true, true, true, true, true, true, true, true, false] rfl rfl (by kernel_rfl) (by decide) (fun K hK => ?_)
            refine skipT_step (by rfl) rfl (w1 := (w8.setCell ⟨p4, 0, none⟩ (.int .u8 c2)).setCell ⟨p4, 1, none⟩ (.slice (some ⟨pb, 0, none⟩) 2 2)) (by first | (go_simp; done) | (go_simp; rfl)) ?_
            refine hK.out _ _ ?_
            clear hK K hHeld x40 x41 f40 f41
            refine zba (i := 10) (N := some 5) (v := ?_) (a' := ?_) #[true, true, true, true, true, true, true, true, true, true, true] rfl rfl (by kernel_rfl) (fun _ _ _ h => h) (Or.inl ⟨by rfl, ?_⟩) ?_ ?_
            rotate_left
            ·intro w'
             go_simp
             with_reducible rfl
            rotate_left
            ·simp only [Act.put, List.setIfInBounds_toArray, List.set_cons_zero, List.set_cons_succ, zaq, zar]
             rfl
            refine done_ (by kernel_rfl) ?_
            go_wp2
            have x0 := zbj HK48.out (.int .u8 c2) (.slice (some ⟨pb, 0, none⟩) 2 2)
            have HBs := zaa.mk (show Below w.heap.size w ((w8.setCell ⟨p4, 0, none⟩ (.int .u8 c2)).setCell ⟨p4, 1, none⟩ (.slice (some ⟨pb, 0, none⟩) 2 2)) from zaf (zaf (zae HB6.out HA8.out) (by have := HP4.out; omega)) (by have := HP4.out; omega))
            have HN := zaa.mk (show p4 < w2.heap.size ∧ w2.heap.size ≤ w3.heap.size ∧ w3.heap.size ≤ w4.heap.size ∧ w4.heap.size ≤ w5.heap.size ∧ w5.heap.size ≤ w6.heap.size ∧ pb = w6.heap.size ∧ w.heap.size ≤ p4 ∧ w.heap.size ≤ w2.heap.size from ⟨zau HK4.out, HB3.out.size, HAw4.out.size, HB5.out.size, HAw6.out.size, Hpb.out, by have := HP4.out; omega, HB2.out.size⟩)
            have HKb := zaa.mk (show ((w8.setCell ⟨p4, 0, none⟩ (.int .u8 c2)).setCell ⟨p4, 1, none⟩ (.slice (some ⟨pb, 0, none⟩) 2 2)).heap[pb]? = some (.cells #[.int .u8 sgA, .slice AA nA cA, .int .u8 sgB, .slice AB nB cB] 38 (0, 0)) from (Below.heap_setCell _ ⟨p4, 1, none⟩ _ pb (by have := HN.out; show pb ≠ p4; omega)).trans ((Below.heap_setCell w8 ⟨p4, 0, none⟩ _ pb (by have := HN.out; show pb ≠ p4; omega)).trans HKpb.out))
            have HTa := zaa.mk (show TmF ((w8.setCell ⟨p4, 0, none⟩ (.int .u8 c2)).setCell ⟨p4, 1, none⟩ (.slice (some ⟨pb, 0, none⟩) 2 2)) (fun k => w2.heap.size ≤ k) a sgA (.slice AA nA cA) from (((((HTA.out.below HAw4.out).below HB5.out).below HAw6.out).below HA8.out).far (p := ⟨p4, 0, none⟩) (fun k hk => by have := HN.out; show k ≠ p4; omega) _).far (p := ⟨p4, 1, none⟩) (fun k hk => by have := HN.out; show k ≠ p4; omega) _)
            have HTb := zaa.mk (show TmF ((w8.setCell ⟨p4, 0, none⟩ (.int .u8 c2)).setCell ⟨p4, 1, none⟩ (.slice (some ⟨pb, 0, none⟩) 2 2)) (fun k => w4.heap.size ≤ k) b sgB (.slice AB nB cB) from (((HTB.out.below HAw6.out).below HA8.out).far (p := ⟨p4, 0, none⟩) (fun k hk => by have := HN.out; show k ≠ p4; omega) _).far (p := ⟨p4, 1, none⟩) (fun k hk => by have := HN.out; show k ≠ p4; omega) _)
            generalize (w8.setCell ⟨p4, 0, none⟩ (.int .u8 c2)).setCell ⟨p4, 1, none⟩ (.slice (some ⟨pb, 0, none⟩) 2 2) = wz at *
            (try simp only [Exit.inBlock, Exit.then])
            refine bodyPost_ret (zao rfl _ _ p4 38 _ (0, 0) _ rfl x0 Try.underlying38 rfl (by kernel_rfl)) rfl ?_
            rw [HRs.out]
            exact ⟨c2, _, 2, 2, _, rfl, HBs.out, by have h := HJe.out; rw [wrapT (by omega) (by omega)]; omega, TmF.two HKb.out (by have := HN.out; show w.heap.size ≤ pb; omega) (HTa.out.mono (fun k hk => by have := HN.out; show w.heap.size ≤ k; omega)) (HTb.out.mono (fun k hk => by have := HN.out; show w.heap.size ≤ k; omega))⟩
           ·have g4 : (c3 == 41) = false := by rw [beq_eq_false_iff_ne]; exact e9
            have g4b : (c3 != 41) = true := by rw [bne, g4]; rfl
            have hr : rdT (f + 1) s i = none := by rw [HUn.out, if_pos (.inr e9)]
            clear hje e9
            have HRn := zaa.mk hr
            clear hr
            go_wp2
            have x0 := zbj HK46.out (.int .u8 111) (.slice (some ⟨pe, 0, none⟩) 0 0)
            have HBs := zaa.mk (show Below w.heap.size w ((w6.setCell ⟨p4, 0, none⟩ (.int .u8 111)).setCell ⟨p4, 1, none⟩ (.slice (some ⟨pe, 0, none⟩) 0 0)) from zaf (zaf HB6.out (by have := HP4.out; omega)) (by have := HP4.out; omega))
            generalize (w6.setCell ⟨p4, 0, none⟩ (.int .u8 111)).setCell ⟨p4, 1, none⟩ (.slice (some ⟨pe, 0, none⟩) 0 0) = wz at *
            (try simp only [Exit.inBlock, Exit.then])
            refine bodyPost_ret (zao rfl _ _ p4 38 _ (0, 0) _ rfl x0 Try.underlying38 rfl (by kernel_rfl)) rfl ?_
            rw [HRn.out]
            exact ⟨111, _, 0, 0, 0, rfl, HBs.out, rfl⟩
        ·have d7 : (c2 == 124) = false := by rw [beq_eq_false_iff_ne]; omega
         have d7b : (c2 != 124) = true := by rw [bne, d7]; rfl
         have d8 : (c2 == 45) = true := by rw [beq_iff_eq]; exact e8
         have d8b : (c2 != 45) = false := by rw [bne, d8]; rfl
         have HC2 := zaa.mk e8
         have hun := HUn.out
         rw [if_neg (by have := HC2.out; omega)] at hun
         clear HUn e8
         have HUn := zaa.mk hun
         clear hun
         go_upto_region 16 with (first
          | (go_at_call 35; refine (HIh.out j2 _ _ (by have := HJ2.out; omega) (by have := HF.out; have := HJ.out; have := HJ2.out; have := HEa.out; omega) (by have := HJ2.out; have := HEa.out; omega)).mono ?_; rintro e w5 ⟨sgB, AB, nB, cB, mB, rfl, hb, hres⟩; have HB5 := zaa.mk hb; have HResB := zaa.mk hres; clear hb hres))
         have hb := zac (Below.refl w5.heap.size w5) (.cells #[.int .u8 sgB, .slice AB nB cB] 38)
         have hk := heap_alloc_new w5 (.cells #[.int .u8 sgB, .slice AB nB cB] 38)
         generalize w5.alloc (.cells #[.int .u8 sgB, .slice AB nB cB] 38) = w6 at *
         obtain ⟨p12, hp⟩ : ∃ p12, p12 = w5.heap.size := ⟨_, rfl⟩
         rw [← hp] at hk ⊢
         have Hp12 := zaa.mk hp
         have HAw6 := zaa.mk hb
         have HKp12 := zaa.mk hk
         clear hb hk hp
         have hk4 := ((HAw6.out.block p4 (by have := HB5.out.size; have := zau HK44.out; omega)).trans (HB5.out.block p4 (zau HK44.out))).trans HK44.out
         have hk6 := ((HAw6.out.block p6 (by have := HB5.out.size; have := zau HK64.out; omega)).trans (HB5.out.block p6 (zau HK64.out))).trans HK64.out
         have hk10 := ((HAw6.out.block p10 (by have := HB5.out.size; have := zau HKp10.out; omega)).trans (HB5.out.block p10 (zau HKp10.out))).trans HKp10.out
         have HB6 := zaa.mk (zae (zae HB4.out HB5.out) HAw6.out)
         have HK46 := zaa.mk hk4
         clear x40 x41 f40 f41 x60 x61
         have x40 : w6.cell? ⟨p4, 0, none⟩ = some (.int .u8 0) := (zag hk4 0).trans rfl
         have f40 := zaj hk4 0
         have x41 : w6.cell? ⟨p4, 1, none⟩ = some (.slice none 0 0) := (zag hk4 1).trans rfl
         have f41 := zaj hk4 1
         have x60 : w6.cell? ⟨p6, 0, none⟩ = some (.int .u8 111) := (zag hk6 0).trans rfl
         have x61 : w6.cell? ⟨p6, 1, none⟩ = some (.slice (some ⟨pe, 0, none⟩) 0 0) := (zag hk6 1).trans rfl
         have x100 : w6.cell? ⟨p10, 0, none⟩ = some (.int .u8 sgA) := (zag hk10 0).trans rfl
         have x101 : w6.cell? ⟨p10, 1, none⟩ = some (.slice AA nA cA) := (zag hk10 1).trans rfl
         have x120 : w6.cell? ⟨p12, 0, none⟩ = some (.int .u8 sgB) := (zag HKp12.out 0).trans rfl
         have x121 : w6.cell? ⟨p12, 1, none⟩ = some (.slice AB nB cB) := (zag HKp12.out 1).trans rfl
         clear hk4 hk6 hk10
         have hres := HResB.out
         clear HResB
         cases hrd : rdT f s j2 with
         | none =>
          rw [hrd] at hres
          dsimp only at hres
          subst hres
          have hr : rdT (f + 1) s i = none := by rw [HUn.out, hrd]
          clear hrd
          have HRn := zaa.mk hr
          clear hr
          go_wp2
          have x0 := zbj HK46.out (.int .u8 111) (.slice (some ⟨pe, 0, none⟩) 0 0)
          have HBs := zaa.mk (show Below w.heap.size w ((w6.setCell ⟨p4, 0, none⟩ (.int .u8 111)).setCell ⟨p4, 1, none⟩ (.slice (some ⟨pe, 0, none⟩) 0 0)) from zaf (zaf HB6.out (by have := HP4.out; omega)) (by have := HP4.out; omega))
          generalize (w6.setCell ⟨p4, 0, none⟩ (.int .u8 111)).setCell ⟨p4, 1, none⟩ (.slice (some ⟨pe, 0, none⟩) 0 0) = wz at *
          (try simp only [Exit.inBlock, Exit.then])
          refine bodyPost_ret (zao rfl _ _ p4 38 _ (0, 0) _ rfl x0 Try.underlying38 rfl (by kernel_rfl)) rfl ?_
          rw [HRn.out]
          exact ⟨111, _, 0, 0, 0, rfl, HBs.out, rfl⟩
         | some be =>
          obtain ⟨b, e⟩ := be
          rw [hrd] at hres
          dsimp only at hres
          obtain ⟨hm, hTb⟩ := hres
          subst hm
          have hend := rdT_end f s j2 b e hrd
          have hun := HUn.out
          rw [hrd] at hun
          dsimp only at hun
          clear HUn hrd
          have HUn := zaa.mk hun
          have HTB := zaa.mk hTb
          have g0 : ((e : Int) == 0) = false := by rw [beq_eq_false_iff_ne]; omega
          have HEb := zaa.mk hend
          clear hun hTb hend
          by_cases hse : s.size ≤ e
          ·have g1 : (s.size : Int) ≤ (e : Int) := by omega
           have hr : rdT (f + 1) s i = none := by rw [HUn.out, if_pos (.inl hse)]
           clear hse
           have HRn := zaa.mk hr
           clear hr
           go_wp2
           have x0 := zbj HK46.out (.int .u8 111) (.slice (some ⟨pe, 0, none⟩) 0 0)
           have HBs := zaa.mk (show Below w.heap.size w ((w6.setCell ⟨p4, 0, none⟩ (.int .u8 111)).setCell ⟨p4, 1, none⟩ (.slice (some ⟨pe, 0, none⟩) 0 0)) from zaf (zaf HB6.out (by have := HP4.out; omega)) (by have := HP4.out; omega))
           generalize (w6.setCell ⟨p4, 0, none⟩ (.int .u8 111)).setCell ⟨p4, 1, none⟩ (.slice (some ⟨pe, 0, none⟩) 0 0) = wz at *
           (try simp only [Exit.inBlock, Exit.then])
           refine bodyPost_ret (zao rfl _ _ p4 38 _ (0, 0) _ rfl x0 Try.underlying38 rfl (by kernel_rfl)) rfl ?_
           rw [HRn.out]
           exact ⟨111, _, 0, 0, 0, rfl, HBs.out, rfl⟩
          ·have g1 : ¬ (s.size : Int) ≤ (e : Int) := by omega
           have g2 : (0 : Int) ≤ (e : Int) := by omega
           have g3 : (e : Int) < (s.size : Int) := by omega
           have hel : e < s.size := by omega
           have hbe := bt_nat s e hel
           have HNe := zaa.mk hse
           clear hse
           generalize bt s (e : Int) = c3 at *
           obtain ⟨je, hje⟩ : ∃ je, je = e + 1 := ⟨_, rfl⟩
           have HJe := zaa.mk hje
           by_cases e9 : c3 = 41
           ·have g4 : (c3 == 41) = true := by rw [beq_iff_eq]; exact e9
            have g4b : (c3 != 41) = false := by rw [bne, g4]; rfl
            have HRs := zaa.mk (show rdT (f + 1) s i = some (⟨c2, [a, b]⟩, je) by rw [HUn.out, if_neg (by have := HNe.out; omega), hje])
            clear hje e9
            go_upto_region 18 with (fail)
            refine start_ (n := 11) (S := fun w' => w'.cell? ⟨p10, 0, none⟩ = some (.int .u8 sgA) ∧ w'.cell? ⟨p10, 1, none⟩ = some (.slice AA nA cA) ∧ w'.cell? ⟨p12, 0, none⟩ = some (.int .u8 sgB) ∧ w'.cell? ⟨p12, 1, none⟩ = some (.slice AB nB cB)) (ds := [9]) #[false, false, false, false, false, false, false, false, false, false, false] (by kernel_rfl) rfl rfl (⟨x100, x101, x120, x121⟩) (fun hHeld => ?_)
            clear x40 x41 f40 f41 x60 x61 x100 x101 x120 x121
            refine zba (i := 0) (N := some 100) (v := ?_) (a' := ?_) #[true, false, false, false, false, false, false, false, false, false, false] rfl rfl (by kernel_rfl) (fun _ _ _ h => h) (Or.inl ⟨by rfl, ?_⟩) ?_ ?_
            rotate_left
            ·intro w'
             go_simp
             with_reducible rfl
            rotate_left
            ·simp only [Act.put, List.setIfInBounds_toArray, List.set_cons_zero, List.set_cons_succ, zaq, zar]
             rfl
            refine zba (i := 1) (N := some 101) (v := ?_) (a' := ?_) #[true, true, false, false, false, false, false, false, false, false, false] rfl rfl (by kernel_rfl) (fun _ _ _ h => h) (Or.inl ⟨by rfl, ?_⟩) ?_ ?_
            rotate_left
            ·intro w'
             go_simp
             with_reducible rfl
            rotate_left
            ·simp only [Act.put, List.setIfInBounds_toArray, List.set_cons_zero, List.set_cons_succ, zaq, zar]
             rfl
            refine zba (i := 2) (N := some 102) (v := ?_) (a' := ?_) #[true, true, true, false, false, false, false, false, false, false, false] rfl rfl (by kernel_rfl) (fun _ _ _ h => h) (Or.inl ⟨by rfl, ?_⟩) ?_ ?_
            rotate_left
            ·intro w'
             go_simp
             with_reducible rfl
            rotate_left
            ·simp only [Act.put, List.setIfInBounds_toArray, List.set_cons_zero, List.set_cons_succ, zaq, zar]
             rfl
            refine take_ (i := 3) (N := some 103) (v := ?_) (a' := ?_) #[true, true, true, true, false, false, false, false, false, false, false] rfl rfl (by kernel_rfl) (fun _ _ _ h => h) (Or.inl ⟨by rfl, ?_⟩) hHeld ?_ ?_
            rotate_left
            ·rintro w' ⟨s0, s1, s2, s3⟩
             go_simp
             with_reducible rfl
            rotate_left
            ·simp only [Act.put, List.setIfInBounds_toArray, List.set_cons_zero, List.set_cons_succ, zaq, zar]
             rfl
            refine take_ (i := 4) (N := some 104) (v := ?_) (a' := ?_) #[true, true, true, true, true, false, false, false, false, false, false] rfl rfl (by kernel_rfl) (fun _ _ _ h => h) (Or.inl ⟨by rfl, ?_⟩) hHeld ?_ ?_
            rotate_left
            ·rintro w' ⟨s0, s1, s2, s3⟩
             go_simp
             with_reducible rfl
            rotate_left
            ·simp only [Act.put, List.setIfInBounds_toArray, List.set_cons_zero, List.set_cons_succ, zaq, zar]
             rfl
            refine zba (i := 7) (N := some 107) (v := ?_) (a' := ?_) #[true, true, true, true, true, false, false, true, false, false, false] rfl rfl (by kernel_rfl) (fun _ _ _ h => h) (Or.inl ⟨by rfl, ?_⟩) ?_ ?_
            rotate_left
            ·intro w'
             go_simp
             with_reducible rfl
            rotate_left
            ·simp only [Act.put, List.setIfInBounds_toArray, List.set_cons_zero, List.set_cons_succ, zaq, zar]
             rfl
            refine zba (i := 8) (N := some 108) (v := ?_) (a' := ?_) #[true, true, true, true, true, false, false, true, true, false, false] rfl rfl (by kernel_rfl) (fun _ _ _ h => h) (Or.inl ⟨by rfl, ?_⟩) ?_ ?_
            rotate_left
            ·intro w'
             go_simp
             with_reducible rfl
            rotate_left
            ·simp only [Act.put, List.setIfInBounds_toArray, List.set_cons_zero, List.set_cons_succ, zaq, zar]
             rfl
            refine one_ (i := 5) (N := some 105) #[true, true, true, true, true, true, false, true, true, false, false] rfl rfl (by kernel_rfl) (by decide) (fun K hK => ?_)
            refine event_step (by rfl) (v := .slice (some ⟨w6.drew.heap.size, 0, none⟩) 2 2) (w1 := w6.drew.alloc (.cells #[.int .u8 sgA, .slice AA nA cA, .int .u8 sgB, .slice AB nB cB] 38)) (by first | (go_simp; done) | (go_simp; rfl)) ?_
            have hb := zac (zbn (Below.refl w6.heap.size w6)) (.cells #[.int .u8 sgA, .slice AA nA cA, .int .u8 sgB, .slice AB nB cB] 38)
            have hk := heap_alloc_new w6.drew (.cells #[.int .u8 sgA, .slice AA nA cA, .int .u8 sgB, .slice AB nB cB] 38)
            have hc := zac (Below.refl w6.drew.heap.size w6.drew) (.cells #[.int .u8 sgA, .slice AA nA cA, .int .u8 sgB, .slice AB nB cB] 38)
            generalize w6.drew.alloc (.cells #[.int .u8 sgA, .slice AA nA cA, .int .u8 sgB, .slice AB nB cB] 38) = w8 at *
            obtain ⟨pb, hpb⟩ : ∃ pb, pb = w6.drew.heap.size := ⟨_, rfl⟩
            rw [← hpb] at hk ⊢
            have Hpb := zaa.mk (show pb = w6.heap.size from hpb)
            have HKpb := zaa.mk hk
            have HA8 := zaa.mk hb
            refine hK.out _ _ ⟨zah hc hHeld.1, zah hc hHeld.2.1, zah hc hHeld.2.2.1, zah hc hHeld.2.2.2⟩ (fun hHeld => ?_)
            clear hK K hc hb hk hpb
            refine norm_ (a' := ?_) ?_ ?_
            rotate_left
            ·show Act.put _ (some 105) _ = _
             simp only [Act.put, List.setIfInBounds_toArray, List.set_cons_zero, List.set_cons_succ, zaq, zar]
             rfl
            refine zba (i := 6) (N := some 106) (v := ?_) (a' := ?_) #[true, true, true, true, true, true, true, true, true, false, false] rfl rfl (by kernel_rfl) (fun _ _ _ h => h) (Or.inl ⟨by rfl, ?_⟩) ?_ ?_
            rotate_left
            ·intro w'
             go_simp
             with_reducible rfl
            rotate_left
            ·simp only [Act.put, List.setIfInBounds_toArray, List.set_cons_zero, List.set_cons_succ, zaq, zar]
             rfl
            have hk4 := (HA8.out.block p4 (zau HK46.out)).trans HK46.out
            have HK48 := zaa.mk hk4
            have x40 : w8.cell? ⟨p4, 0, none⟩ = some (.int .u8 0) := (zag hk4 0).trans rfl
            have f40 := zaj hk4 0
            have x41 : w8.cell? ⟨p4, 1, none⟩ = some (.slice none 0 0) := (zag hk4 1).trans rfl
            have f41 := zaj hk4 1
            clear hk4
            refine last_ (i := 9) (N := none) #[true, true, true, true, true, true, true, true, true, true, false] rfl rfl (by kernel_rfl) (by decide) (fun K hK => ?_)
            refine skipT_step (by rfl) rfl (w1 := (w8.setCell ⟨p4, 0, none⟩ (.int .u8 c2)).setCell ⟨p4, 1, none⟩ (.slice (some ⟨pb, 0, none⟩) 2 2)) (by first | (go_simp; done) | (go_simp; rfl)) ?_
            refine hK.out _ _ ?_
            clear hK K hHeld x40 x41 f40 f41
            refine zba (i := 10) (N := some 5) (v := ?_) (a' := ?_) #[true, true, true, true, true, true, true, true, true, true, true] rfl rfl (by kernel_rfl) (fun _ _ _ h => h) (Or.inl ⟨by rfl, ?_⟩) ?_ ?_
            rotate_left
            ·intro w'
             go_simp
             with_reducible rfl
            rotate_left
            ·simp only [Act.put, List.setIfInBounds_toArray, List.set_cons_zero, List.set_cons_succ, zaq, zar]
             rfl
            refine done_ (by kernel_rfl) ?_
            go_wp2
            have x0 := zbj HK48.out (.int .u8 c2) (.slice (some ⟨pb, 0, none⟩) 2 2)
            have HBs := zaa.mk (show Below w.heap.size w ((w8.setCell ⟨p4, 0, none⟩ (.int .u8 c2)).setCell ⟨p4, 1, none⟩ (.slice (some ⟨pb, 0, none⟩) 2 2)) from zaf (zaf (zae HB6.out HA8.out) (by have := HP4.out; omega)) (by have := HP4.out; omega))
            have HN := zaa.mk (show p4 < w2.heap.size ∧ w2.heap.size ≤ w3.heap.size ∧ w3.heap.size ≤ w4.heap.size ∧ w4.heap.size ≤ w5.heap.size ∧ w5.heap.size ≤ w6.heap.size ∧ pb = w6.heap.size ∧ w.heap.size ≤ p4 ∧ w.heap.size ≤ w2.heap.size from ⟨zau HK4.out, HB3.out.size, HAw4.out.size, HB5.out.size, HAw6.out.size, Hpb.out, by have := HP4.out; omega, HB2.out.size⟩)
            have HKb := zaa.mk (show ((w8.setCell ⟨p4, 0, none⟩ (.int .u8 c2)).setCell ⟨p4, 1, none⟩ (.slice (some ⟨pb, 0, none⟩) 2 2)).heap[pb]? = some (.cells #[.int .u8 sgA, .slice AA nA cA, .int .u8 sgB, .slice AB nB cB] 38 (0, 0)) from (Below.heap_setCell _ ⟨p4, 1, none⟩ _ pb (by have := HN.out; show pb ≠ p4; omega)).trans ((Below.heap_setCell w8 ⟨p4, 0, none⟩ _ pb (by have := HN.out; show pb ≠ p4; omega)).trans HKpb.out))
            have HTa := zaa.mk (show TmF ((w8.setCell ⟨p4, 0, none⟩ (.int .u8 c2)).setCell ⟨p4, 1, none⟩ (.slice (some ⟨pb, 0, none⟩) 2 2)) (fun k => w2.heap.size ≤ k) a sgA (.slice AA nA cA) from (((((HTA.out.below HAw4.out).below HB5.out).below HAw6.out).below HA8.out).far (p := ⟨p4, 0, none⟩) (fun k hk => by have := HN.out; show k ≠ p4; omega) _).far (p := ⟨p4, 1, none⟩) (fun k hk => by have := HN.out; show k ≠ p4; omega) _)
            have HTb := zaa.mk (show TmF ((w8.setCell ⟨p4, 0, none⟩ (.int .u8 c2)).setCell ⟨p4, 1, none⟩ (.slice (some ⟨pb, 0, none⟩) 2 2)) (fun k => w4.heap.size ≤ k) b sgB (.slice AB nB cB) from (((HTB.out.below HAw6.out).below HA8.out).far (p := ⟨p4, 0, none⟩) (fun k hk => by have := HN.out; show k ≠ p4; omega) _).far (p := ⟨p4, 1, none⟩) (fun k hk => by have := HN.out; show k ≠ p4; omega) _)
            generalize (w8.setCell ⟨p4, 0, none⟩ (.int .u8 c2)).setCell ⟨p4, 1, none⟩ (.slice (some ⟨pb, 0, none⟩) 2 2) = wz at *
            (try simp only [Exit.inBlock, Exit.then])
            refine bodyPost_ret (zao rfl _ _ p4 38 _ (0, 0) _ rfl x0 Try.underlying38 rfl (by kernel_rfl)) rfl ?_
            rw [HRs.out]
            exact ⟨c2, _, 2, 2, _, rfl, HBs.out, by have h := HJe.out; rw [wrapT (by omega) (by omega)]; omega, TmF.two HKb.out (by have := HN.out; show w.heap.size ≤ pb; omega) (HTa.out.mono (fun k hk => by have := HN.out; show w.heap.size ≤ k; omega)) (HTb.out.mono (fun k hk => by have := HN.out; show w.heap.size ≤ k; omega))⟩
           ·have g4 : (c3 == 41) = false := by rw [beq_eq_false_iff_ne]; exact e9
            have g4b : (c3 != 41) = true := by rw [bne, g4]; rfl
            have hr : rdT (f + 1) s i = none := by rw [HUn.out, if_pos (.inr e9)]
            clear hje e9
            have HRn := zaa.mk hr
            clear hr
            go_wp2
            have x0 := zbj HK46.out (.int .u8 111) (.slice (some ⟨pe, 0, none⟩) 0 0)
            have HBs := zaa.mk (show Below w.heap.size w ((w6.setCell ⟨p4, 0, none⟩ (.int .u8 111)).setCell ⟨p4, 1, none⟩ (.slice (some ⟨pe, 0, none⟩) 0 0)) from zaf (zaf HB6.out (by have := HP4.out; omega)) (by have := HP4.out; omega))
            generalize (w6.setCell ⟨p4, 0, none⟩ (.int .u8 111)).setCell ⟨p4, 1, none⟩ (.slice (some ⟨pe, 0, none⟩) 0 0) = wz at *
            (try simp only [Exit.inBlock, Exit.then])
            refine bodyPost_ret (zao rfl _ _ p4 38 _ (0, 0) _ rfl x0 Try.underlying38 rfl (by kernel_rfl)) rfl ?_
            rw [HRn.out]
            exact ⟨111, _, 0, 0, 0, rfl, HBs.out, rfl⟩
        ·have d7 : (c2 == 124) = false := by rw [beq_eq_false_iff_ne]; exact e8
         have d7b : (c2 != 124) = true := by rw [bne, d7]; rfl
         have d8 : (c2 == 45) = false := by rw [beq_eq_false_iff_ne]; exact e9
         have d8b : (c2 != 45) = true := by rw [bne, d8]; rfl
         have hr : rdT (f + 1) s i = none := by rw [HUn.out, if_pos (.inr ⟨e8, e9⟩)]
         clear e8 e9
         have HRn := zaa.mk hr
         clear hr
         go_wp2
         have x0 := zbj HK44.out (.int .u8 111) (.slice (some ⟨pe, 0, none⟩) 0 0)
         have HBs := zaa.mk (show Below w.heap.size w ((w4.setCell ⟨p4, 0, none⟩ (.int .u8 111)).setCell ⟨p4, 1, none⟩ (.slice (some ⟨pe, 0, none⟩) 0 0)) from zaf (zaf HB4.out (by have := HP4.out; omega)) (by have := HP4.out; omega))
         generalize (w4.setCell ⟨p4, 0, none⟩ (.int .u8 111)).setCell ⟨p4, 1, none⟩ (.slice (some ⟨pe, 0, none⟩) 0 0) = wz at *
         (try simp only [Exit.inBlock, Exit.then])
         refine bodyPost_ret (zao rfl _ _ p4 38 _ (0, 0) _ rfl x0 Try.underlying38 rfl (by kernel_rfl)) rfl ?_
         rw [HRn.out]
         exact ⟨111, _, 0, 0, 0, rfl, HBs.out, rfl⟩
     ·have d4 : (c == 40) = false := by rw [beq_eq_false_iff_ne]; exact e5
      have hr : rdT (f + 1) s i = none := by rw [HUn.out, if_pos e5]
      clear e5
      have HRn := zaa.mk hr
      clear hr
      go_wp2
      have x0 := zbj HK4.out (.int .u8 111) (.slice (some ⟨pe, 0, none⟩) 0 0)
      have HBs := zaa.mk (show Below w.heap.size w ((w2.setCell ⟨p4, 0, none⟩ (.int .u8 111)).setCell ⟨p4, 1, none⟩ (.slice (some ⟨pe, 0, none⟩) 0 0)) from zaf (zaf HB2.out (by have := HP4.out; omega)) (by have := HP4.out; omega))
      generalize (w2.setCell ⟨p4, 0, none⟩ (.int .u8 111)).setCell ⟨p4, 1, none⟩ (.slice (some ⟨pe, 0, none⟩) 0 0) = wz at *
      (try simp only [Exit.inBlock, Exit.then])
      refine bodyPost_ret (zao rfl _ _ p4 38 _ (0, 0) _ rfl x0 Try.underlying38 rfl (by kernel_rfl)) rfl ?_
      rw [HRn.out]
      exact ⟨111, _, 0, 0, 0, rfl, HBs.out, rfl⟩
end Go.Proofs.Ytgiidlebnjbgeaa.Hd
namespace Go.Proofs.Ytgiidlebnjbgeaa.Hd
open Go.RowKit Go.PW.PrintWords Go.PW.PrintLast Go.PW.PrintMore Go.Proofs.Ytgiidlebnjbgeaa.PB
def Evs {α : Type} (g : Nat → Option α) (r : α) : Prop := ∃ K, ∀ k, K ≤ k → g k = some r
section
variable {α β : Type} {g h : Nat → Option α} {r : α} {c : Prop} {inst : Decidable c}
theorem Evs.const (r : α) : Evs (fun _ => some r) r := ⟨0, fun _ _ => rfl⟩
theorem Evs.step (e : ∀ k, g (k + 1) = h k) (hh : Evs h r) : Evs g r := by
 obtain ⟨K, hK⟩ := hh
 refine ⟨K + 1, fun k hk => ?_⟩
 obtain ⟨j, rfl⟩ : ∃ j, k = j + 1 := ⟨k - 1, by omega⟩
 rw [e]
 exact hK j (by omega)
theorem Evs.congr (e : ∀ k, g k = h k) (hh : Evs h r) : Evs g r := by
 obtain ⟨K, hK⟩ := hh
 exact ⟨K, fun k hk => by rw [e]; exact hK k hk⟩
theorem Evs.bind {g : Nat → Option β} {F : Nat → β → Option α} {b : β} (hg : Evs g b) (hF : Evs (fun k => F k b) r) : Evs (fun k => (g k).bind (F k)) r := by
 obtain ⟨K, hK⟩ := hg
 obtain ⟨L, hL⟩ := hF
 refine ⟨K + L, fun k hk => ?_⟩
 show (g k).bind (F k) = some r
 rw [hK k (by omega)]
 exact hL k (by omega)
theorem Evs.bindS {x : Option β} {F : Nat → β → Option α} {b : β} (hg : x = some b) (hF : Evs (fun k => F k b) r) : Evs (fun k => x.bind (F k)) r := by
 subst hg
 exact hF
theorem Evs.pos (hc : c) (hg : Evs g r) : Evs (fun k => @ite _ c inst (g k) (h k)) r := Evs.congr (fun k => if_pos hc) hg
theorem Evs.neg (hc : ¬ c) (hh : Evs h r) : Evs (fun k => @ite _ c inst (g k) (h k)) r := Evs.congr (fun k => if_neg hc) hh
theorem Evs.stepNeg {a : Nat → Option α} (e : ∀ k, g (k + 1) = @ite _ c inst (a k) (h k)) (hc : ¬ c) (hh : Evs h r) : Evs g r := Evs.step (fun k => (e k).trans (if_neg hc)) hh
theorem Evs.stepPos {a : Nat → Option α} (e : ∀ k, g (k + 1) = @ite _ c inst (a k) (h k)) (hc : c) (hh : Evs a r) : Evs g r := Evs.step (fun k => (e k).trans (if_pos hc)) hh
theorem Evs.ex (h : Evs g r) : ∃ k, g k = some r := by
 obtain ⟨K, hK⟩ := h
 exact ⟨K, hK K (Nat.le_refl _)⟩
end
inductive Tr where
 | o : Tr
 | un : Bool → Tr → Tr
 | bin : Bool → Tr → Tr → Tr
deriving DecidableEq
def unC (b : Bool) : Int := if b then 62 else 94
def binC (b : Bool) : Int := if b then 124 else 45
def toS : Tr → Tm
 | .o => ⟨111, []⟩
 | .un b t => ⟨unC b, [toS t]⟩
 | .bin b x y => ⟨binC b, [toS x, toS y]⟩
def rdR : Nat → ByteArray → Nat → Option (Tr × Nat)
 | 0, _, _ => none
 | f + 1, s, i => if s.size ≤ i then none else if bt s (i : Int) = 111 then some (.o, i + 1) else
  if bt s (i : Int) = 62 ∨ bt s (i : Int) = 94 then match rdR f s (i + 1) with
   | none => none
   | some (t, e) => some (.un (decide (bt s (i : Int) = 62)) t, e)
  else if bt s (i : Int) ≠ 40 then none else match rdR f s (i + 1) with
   | none => none
   | some (a, m) => if s.size ≤ m ∨ (bt s (m : Int) ≠ 124 ∧ bt s (m : Int) ≠ 45) then none else match rdR f s (m + 1) with
    | none => none
    | some (b, e) => if s.size ≤ e ∨ bt s (e : Int) ≠ 41 then none else some (.bin (decide (bt s (m : Int) = 124)) a b, e + 1)
theorem rdT_tr : ∀ (f : Nat) (s : ByteArray) (i : Nat), rdT f s i = (rdR f s i).map fun te => (toS te.1, te.2)
 | 0, s, i => rfl
 | f + 1, s, i => by
  unfold rdT rdR
  rw [rdT_tr f s (i + 1)]
  split
  ·rfl
  ·split
   ·rfl
   ·split
    ·rename_i h
     cases rdR f s (i + 1) with
     | none => rfl
     | some te =>
      obtain ⟨t, e⟩ := te
      simp only [Option.map_some, toS]
      rcases h with h | h <;> simp [h, unC]
    ·split
     ·rfl
     ·cases rdR f s (i + 1) with
      | none => rfl
      | some am =>
       obtain ⟨a, m⟩ := am
       simp only [Option.map_some]
       split
       ·rfl
       ·rename_i hm
        rw [rdT_tr f s (m + 1)]
        cases rdR f s (m + 1) with
        | none => rfl
        | some be =>
         obtain ⟨b, e⟩ := be
         simp only [Option.map_some]
         split
         ·rfl
         ·simp only [Option.map_some, toS]
          have : bt s (m : Int) = 124 ∨ bt s (m : Int) = 45 := by omega
          rcases this with h | h <;> simp [h, binC]
def Tr.tidy : Tr → Bool
 | .o => true
 | .un _ _ => false
 | .bin _ a b => a.tidy && b.tidy
def Tr.nodes : Tr → Nat
 | .o => 1
 | .un _ t => t.nodes + 1
 | .bin _ a b => a.nodes + b.nodes + 1
def inF : Option Bool → Tr → Tr
 | none, t => t
 | some true, .bin true a b => .bin false (inF (some true) a) (inF (some true) b)
 | some true, .bin false a b => .bin true (inF (some true) b) (inF (some true) a)
 | some false, .bin true a b => .bin true (inF (some false) b) (inF (some false) a)
 | some false, .bin false a b => .bin false (inF (some false) a) (inF (some false) b)
 | some _, .o => .o
 | some c, .un d t => .un d (inF (some c) t)
def tid : Tr → Tr
 | .o => .o
 | .un c t => inF (some c) (tid t)
 | .bin s a b => .bin s (tid a) (tid b)
theorem inF_none (t : Tr) : inF none t = t := by unfold inF; rfl
theorem inF_tidy : ∀ (c : Option Bool) (t : Tr), t.tidy = true → (inF c t).tidy = true
 | none, t, h => by rw [inF_none]; exact h
 | some true, .o, _ => rfl
 | some false, .o, _ => rfl
 | some c, .un d t, h => by cases h
 | some true, .bin true a b, h => by
  simp only [Tr.tidy, Bool.and_eq_true] at h
  simp only [inF, Tr.tidy, Bool.and_eq_true]
  exact ⟨inF_tidy _ a h.1, inF_tidy _ b h.2⟩
 | some true, .bin false a b, h => by
  simp only [Tr.tidy, Bool.and_eq_true] at h
  simp only [inF, Tr.tidy, Bool.and_eq_true]
  exact ⟨inF_tidy _ b h.2, inF_tidy _ a h.1⟩
 | some false, .bin true a b, h => by
  simp only [Tr.tidy, Bool.and_eq_true] at h
  simp only [inF, Tr.tidy, Bool.and_eq_true]
  exact ⟨inF_tidy _ b h.2, inF_tidy _ a h.1⟩
 | some false, .bin false a b, h => by
  simp only [Tr.tidy, Bool.and_eq_true] at h
  simp only [inF, Tr.tidy, Bool.and_eq_true]
  exact ⟨inF_tidy _ a h.1, inF_tidy _ b h.2⟩
theorem zby : ∀ t : Tr, (tid t).tidy = true
 | .o => rfl
 | .un c t => inF_tidy _ _ (zby t)
 | .bin s a b => by
  simp only [tid, Tr.tidy, Bool.and_eq_true]
  exact ⟨zby a, zby b⟩
theorem tid_self : ∀ t : Tr, t.tidy = true → tid t = t
 | .o, _ => rfl
 | .un c t, h => by cases h
 | .bin s a b, h => by
  simp only [Tr.tidy, Bool.and_eq_true] at h
  simp only [tid]
  rw [tid_self a h.1, tid_self b h.2]
theorem zch : ∀ (c : Option Bool) (t : Tr), (inF c t).nodes = t.nodes
 | none, t => by rw [inF_none]
 | some true, .o => rfl
 | some false, .o => rfl
 | some c, .un d t => by cases c <;> simp only [inF, Tr.nodes, zch _ t]
 | some true, .bin true a b => by simp only [inF, Tr.nodes]; rw [zch _ a, zch _ b]
 | some true, .bin false a b => by simp only [inF, Tr.nodes]; rw [zch _ a, zch _ b]; omega
 | some false, .bin true a b => by simp only [inF, Tr.nodes]; rw [zch _ a, zch _ b]; omega
 | some false, .bin false a b => by simp only [inF, Tr.nodes]; rw [zch _ a, zch _ b]
theorem tid_nodes : ∀ t : Tr, (tid t).nodes ≤ t.nodes
 | .o => Nat.le_refl _
 | .un c t => by
  simp only [tid, Tr.nodes]
  rw [zch]
  have := tid_nodes t
  omega
 | .bin s a b => by
  simp only [tid, Tr.nodes]
  have := tid_nodes a
  have := tid_nodes b
  omega
def rotN : Nat → Bool × Bool → Bool × Bool
 | 0, x => x
 | n + 1, (s, w) => rotN n (if s then (false, w) else (true, !w))
def tidyR : Tr → Nat → Bool → Tr
 | .o, _, _ => .o
 | .un true t, n, fl => tidyR t (if fl then (n + 3) % 4 else (n + 1) % 4) fl
 | .un false t, n, fl => tidyR t n (!fl)
 | .bin s a b, n, fl => if (rotN n (s, fl && s)).2 then .bin (rotN n (s, fl && s)).1 (tidyR b n fl) (tidyR a n fl) else .bin (rotN n (s, fl && s)).1 (tidyR a n fl) (tidyR b n fl)
def zce : Nat → Tr → Tr
 | 0, t => t
 | n + 1, t => zce n (inF (some true) t)
theorem turn4 : ∀ t : Tr, t.tidy = true → zce 4 t = t
 | .o, _ => rfl
 | .un c t, h => by cases h
 | .bin true a b, h => by
  simp only [Tr.tidy, Bool.and_eq_true] at h
  have ha := turn4 a h.1
  have hb := turn4 b h.2
  simp only [zce, inF] at ha hb ⊢
  rw [ha, hb]
 | .bin false a b, h => by
  simp only [Tr.tidy, Bool.and_eq_true] at h
  have ha := turn4 a h.1
  have hb := turn4 b h.2
  simp only [zce, inF] at ha hb ⊢
  rw [ha, hb]
theorem flip2 : ∀ t : Tr, t.tidy = true → inF (some false) (inF (some false) t) = t
 | .o, _ => rfl
 | .un c t, h => by cases h
 | .bin true a b, h => by
  simp only [Tr.tidy, Bool.and_eq_true] at h
  simp only [inF]
  rw [flip2 a h.1, flip2 b h.2]
 | .bin false a b, h => by
  simp only [Tr.tidy, Bool.and_eq_true] at h
  simp only [inF]
  rw [flip2 a h.1, flip2 b h.2]
theorem flip_turn3 : ∀ t : Tr, t.tidy = true → inF (some false) (inF (some true) t) = zce 3 (inF (some false) t)
 | .o, _ => rfl
 | .un c t, h => by cases h
 | .bin true a b, h => by
  simp only [Tr.tidy, Bool.and_eq_true] at h
  have ha := flip_turn3 a h.1
  have hb := flip_turn3 b h.2
  simp only [zce, inF] at ha hb ⊢
  rw [ha, hb]
 | .bin false a b, h => by
  simp only [Tr.tidy, Bool.and_eq_true] at h
  have ha := flip_turn3 a h.1
  have hb := flip_turn3 b h.2
  simp only [zce, inF] at ha hb ⊢
  rw [ha, hb]
def flipF (fl : Bool) (t : Tr) : Tr := if fl then inF (some false) t else t
theorem turnsF_add (m : Nat) : ∀ (n : Nat) (t : Tr), zce n (zce m t) = zce (m + n) t := by
 induction m with
 | zero => intro n t; rw [Nat.zero_add]; rfl
 | succ m ih =>
  intro n t
  rw [show m + 1 + n = (m + n) + 1 by omega]
  exact ih n _
theorem flipF_tidy (fl : Bool) (t : Tr) (h : t.tidy = true) : (flipF fl t).tidy = true := by
 unfold flipF
 split
 ·exact inF_tidy _ t h
 ·exact h
theorem turnsF_mod (n : Nat) (t : Tr) (h : t.tidy = true) : zce (n % 4) t = zce n t := by
 have : ∀ q r : Nat, zce (4 * q + r) t = zce r t := by
  intro q
  induction q with
  | zero => intro r; rw [Nat.mul_zero, Nat.zero_add]
  | succ q ih =>
   intro r
   rw [show 4 * (q + 1) + r = 4 * q + (4 + r) by omega, ih, ← turnsF_add, turn4 t h]
 have h2 := this (n / 4) (n % 4)
 rw [Nat.div_add_mod] at h2
 exact h2.symm
theorem turnsF_bin (a b : Tr) (ha : a.tidy = true) (hb : b.tidy = true) : ∀ (n : Nat) (s sw : Bool) (A B : Tr), zce n (if sw then .bin s B A else .bin s A B) = if (rotN n (s, sw)).2 then .bin (rotN n (s, sw)).1 (zce n B) (zce n A) else .bin (rotN n (s, sw)).1 (zce n A) (zce n B)
 | 0, s, sw, A, B => rfl
 | n + 1, s, sw, A, B => by
  have ih := turnsF_bin a b ha hb n
  cases s <;> cases sw
  ·have := ih true true (inF (some true) A) (inF (some true) B)
   exact this
  ·have := ih true false (inF (some true) A) (inF (some true) B)
   exact this
  ·have := ih false false (inF (some true) A) (inF (some true) B)
   exact this
  ·have := ih false true (inF (some true) A) (inF (some true) B)
   exact this
theorem tidyR_eq : ∀ (t : Tr) (n : Nat) (fl : Bool), tidyR t n fl = zce n (flipF fl (tid t))
 | .o, n, fl => by
  have h1 : flipF fl Tr.o = Tr.o := by cases fl <;> rfl
  have h2 : ∀ n, zce n Tr.o = Tr.o := fun n => by induction n with
   | zero => rfl
   | succ n ih => exact ih
  show Tr.o = zce n (flipF fl Tr.o)
  rw [h1, h2]
 | .un true t, n, fl => by
  have ht := zby t
  have ih := tidyR_eq t
  cases fl
  ·show tidyR t ((n + 1) % 4) false = zce n (inF (some true) (tid t))
   rw [ih, turnsF_mod _ _ (flipF_tidy _ _ ht)]
   rfl
  ·show tidyR t ((n + 3) % 4) true = zce n (inF (some false) (inF (some true) (tid t)))
   rw [ih, turnsF_mod _ _ (flipF_tidy _ _ ht), flip_turn3 _ ht, turnsF_add, Nat.add_comm 3 n]
   rfl
 | .un false t, n, fl => by
  have ht := zby t
  have ih := tidyR_eq t
  cases fl
  ·show tidyR t n true = zce n (inF (some false) (tid t))
   rw [ih]
   rfl
  ·show tidyR t n false = zce n (inF (some false) (inF (some false) (tid t)))
   rw [ih, flip2 _ ht]
   rfl
 | .bin s a b, n, fl => by
  have ia := tidyR_eq a n fl
  have ib := tidyR_eq b n fl
  have hb := turnsF_bin (tid a) (tid b) (zby a) (zby b) n s (fl && s) (flipF fl (tid a)) (flipF fl (tid b))
  rw [← ia, ← ib] at hb
  show (if (rotN n (s, fl && s)).2 then Tr.bin (rotN n (s, fl && s)).1 (tidyR b n fl) (tidyR a n fl) else Tr.bin (rotN n (s, fl && s)).1 (tidyR a n fl) (tidyR b n fl)) = _
  rw [← hb]
  congr 1
  cases fl <;> cases s <;> rfl
theorem tidyR_zero (t : Tr) : tidyR t 0 false = tid t := tidyR_eq t 0 false
end Go.Proofs.Ytgiidlebnjbgeaa.Hd
namespace Go.Proofs.Ytgiidlebnjbgeaa.Hd
open Go.RowKit Go.PW.PrintWords Go.PW.PrintLast Go.PW.PrintMore Go.Proofs.Ytgiidlebnjbgeaa.PB
def zcg (s : ByteArray) : Nat → Nat
 | 0 => 0
 | n + 1 => zcg s n + if bt s (n : Int) = 111 then 1 else 0
theorem roomsS_succ (s : ByteArray) (n : Nat) : zcg s (n + 1) = zcg s n + if bt s (n : Int) = 111 then 1 else 0 := rfl
theorem roomsS_le (s : ByteArray) : ∀ n, zcg s n ≤ n
 | 0 => Nat.le_refl _
 | n + 1 => by
  have := roomsS_le s n
  unfold zcg
  split <;> omega
theorem roomsS_l0 (s : ByteArray) (hs : s.size ≤ 1048576) : ∀ m i, i + m = s.size → Evs (fun k => spec_l11Rooms.l0 k s (zcg s i : Int) (i : Int)) (zcg s s.size : Int) := by
 intro m
 induction m with
 | zero =>
  intro i hi
  obtain rfl : i = s.size := by omega
  refine Evs.step (h := fun _ => some (zcg s s.size : Int)) (fun k => ?_) (Evs.const _)
  conv => lhs; unfold spec_l11Rooms.l0
  rw [if_neg (by omega)]
 | succ m ih =>
  intro i hi
  have hnx := ih (i + 1) (by omega)
  have hle := roomsS_le s i
  refine Evs.step (h := fun k => spec_l11Rooms.l0 k s (zcg s (i + 1) : Int) ((i + 1 : Nat) : Int)) (fun k => ?_) hnx
  have e2 : wrap64 ((i : Int) + 1) = ((i + 1 : Nat) : Int) := by rw [wrapT (by omega) (by omega)]; omega
  conv => lhs; unfold spec_l11Rooms.l0
  rw [if_pos (by omega), if_pos (by omega), e2]
  by_cases h : bt s (i : Int) = 111
  ·have e3 : zcg s (i + 1) = zcg s i + 1 := by rw [roomsS_succ, if_pos h]
   have e1 : wrap64 ((zcg s i : Int) + 1) = ((zcg s i + 1 : Nat) : Int) := by rw [wrapT (by omega) (by omega)]; omega
   rw [if_pos h, e1, e3]
  ·have e3 : zcg s (i + 1) = zcg s i := by rw [roomsS_succ, if_neg h, Nat.add_zero]
   rw [if_neg h, e3]
theorem l11Rooms_ev (s : ByteArray) (hs : s.size ≤ 1048576) : Evs (fun k => spec_l11Rooms.f k s) (zcg s s.size : Int) := roomsS_l0 s hs s.size 0 (by omega)
def ofR (s : ByteArray) : Option Tr := if 60 < s.size ∨ 7 < zcg s s.size then none else match rdR (s.size + 1) s 0 with
 | none => none
 | some (t, e) => if e = s.size then some t else none
def OfRes (w : World) (r : Option Tr) (e : Ending) (w' : World) : Prop :=
 ∃ (sg : Int) (A : Option Addr) (n c : Nat) (b : Bool), e = .returned (.tuple #[.agg #[.int .u8 sg, .slice A n c], .bool b]) ∧ Below w.heap.size w w' ∧ match r with
  | none => b = false
  | some t => b = true ∧ TmF w' (fun k => w.heap.size ≤ k) (toS t) sg (.slice A n c)
set_option maxHeartbeats 400000 in
set_option maxRecDepth 100000 in
theorem l11Of_calls (s : ByteArray) (hs : s.size ≤ 1048576) (w : World) : Calls Try.prog 19 #[.string s] w (OfRes w (ofR s)) := by
 obtain ⟨K, hK⟩ := l11Rooms_ev s hs
 have HRo := zaa.mk (hK K (Nat.le_refl K))
 have hrl := roomsS_le s s.size
 have HOf := zaa.mk (show ofR s = if 60 < s.size ∨ 7 < zcg s s.size then none else match rdR (s.size + 1) s 0 with
  | none => none
  | some (t, e) => if e = s.size then some t else none from rfl)
 clear hK
 generalize zcg s s.size = rn at *
 go_enter Try.func19, Try.ntmps19
 go_upto_region 1 with (fail)
 have hb := zac (Below.refl w.heap.size w) (.cells #[.int .u8 0, .slice none 0 0] 38)
 have hk := heap_alloc_new w (.cells #[.int .u8 0, .slice none 0 0] 38)
 generalize w.alloc (.cells #[.int .u8 0, .slice none 0 0] 38) = w1 at *
 obtain ⟨p4, hp4⟩ : ∃ p4, p4 = w.heap.size := ⟨_, rfl⟩
 rw [← hp4] at hk ⊢
 have HP4 := zaa.mk hp4
 have HB1 := zaa.mk hb
 have HK1 := zaa.mk hk
 have x40 : w1.cell? ⟨p4, 0, none⟩ = some (.int .u8 0) := (zag hk 0).trans rfl
 have x41 : w1.cell? ⟨p4, 1, none⟩ = some (.slice none 0 0) := (zag hk 1).trans rfl
 have f40 := zaj hk 0
 have f41 := zaj hk 1
 clear hb hk hp4
 by_cases hbig : 60 < s.size
 ·have d1 : (60 : Int) < (s.size : Int) := by omega
  have HR := zaa.mk (show ofR s = none by rw [HOf.out, if_pos (.inl hbig)])
  clear hbig
  go_wp2_with (first
   | ((with_reducible refine zbe (N := 14) rfl ?_); refine zbx ?hg (N := 14) ?hd (n := 0) (cs := #[]) (t := 38) ?hr ?_; (case hd => rfl); (case hg => rfl); (case hr => first | (go_simp; done) | (go_simp; rfl)); intro pb hpb w5 hk hb; have HAw5 := zaa.mk (zae HB1.out hb); have hk4 := (hb.block p4 (zau HK1.out)).trans HK1.out; have HK45 := zaa.mk hk4; clear x40 x41 f40 f41 hb hk hpb; have x40 : w5.cell? ⟨p4, 0, none⟩ = some (.int .u8 0) := (zag hk4 0).trans rfl; have x41 : w5.cell? ⟨p4, 1, none⟩ = some (.slice none 0 0) := (zag hk4 1).trans rfl; have f40 := zaj hk4 0; have f41 := zaj hk4 1; clear hk4))
  have x0 := zbj HK45.out (.int .u8 111) (.slice (some ⟨pb, 0, none⟩) 0 0)
  have HBs := zaa.mk (show Below w.heap.size w ((w5.setCell ⟨p4, 0, none⟩ (.int .u8 111)).setCell ⟨p4, 1, none⟩ (.slice (some ⟨pb, 0, none⟩) 0 0)) from zaf (zaf HAw5.out (by have := HP4.out; omega)) (by have := HP4.out; omega))
  generalize (w5.setCell ⟨p4, 0, none⟩ (.int .u8 111)).setCell ⟨p4, 1, none⟩ (.slice (some ⟨pb, 0, none⟩) 0 0) = wz at *
  (try simp only [Exit.inBlock, Exit.then])
  refine bodyPost_ret (zao rfl _ _ p4 38 _ (0, 0) _ rfl x0 Try.underlying38 rfl (by kernel_rfl)) rfl ?_
  rw [HR.out]
  exact ⟨111, _, 0, 0, false, rfl, HBs.out, rfl⟩
 ·have d1 : ¬ (60 : Int) < (s.size : Int) := by omega
  by_cases h7 : 7 < rn
  ·have d2 : (7 : Int) < (rn : Int) := by omega
   have HR := zaa.mk (show ofR s = none by rw [HOf.out, if_pos (.inr h7)])
   clear h7 hbig
   go_wp2_with (first
    | (go_at_call 34; refine (spec_l11Rooms.calls K s (rn : Int) _ HRo.out).mono ?_; rintro e w2 ⟨rfl, hdr⟩; obtain ⟨nd, hnd⟩ := hdr.out; have hb := zab (Below.refl w1.heap.size w1) nd; rw [← hnd] at hb; have HB2 := zaa.mk (zae HB1.out hb); have hk4 := (hb.block p4 (zau HK1.out)).trans HK1.out; have HK2 := zaa.mk hk4; clear x40 x41 f40 f41 hb hnd hdr; have x40 : w2.cell? ⟨p4, 0, none⟩ = some (.int .u8 0) := (zag hk4 0).trans rfl; have x41 : w2.cell? ⟨p4, 1, none⟩ = some (.slice none 0 0) := (zag hk4 1).trans rfl; have f40 := zaj hk4 0; have f41 := zaj hk4 1; clear hk4)
    | ((with_reducible refine zbe (N := 14) rfl ?_); refine zbx ?hg (N := 14) ?hd (n := 0) (cs := #[]) (t := 38) ?hr ?_; (case hd => rfl); (case hg => rfl); (case hr => first | (go_simp; done) | (go_simp; rfl)); intro pb hpb w5 hk hb; have HAw5 := zaa.mk (zae HB2.out hb); have hk4 := (hb.block p4 (zau HK2.out)).trans HK2.out; have HK45 := zaa.mk hk4; clear x40 x41 f40 f41 hb hk hpb; have x40 : w5.cell? ⟨p4, 0, none⟩ = some (.int .u8 0) := (zag hk4 0).trans rfl; have x41 : w5.cell? ⟨p4, 1, none⟩ = some (.slice none 0 0) := (zag hk4 1).trans rfl; have f40 := zaj hk4 0; have f41 := zaj hk4 1; clear hk4))
   have x0 := zbj HK45.out (.int .u8 111) (.slice (some ⟨pb, 0, none⟩) 0 0)
   have HBs := zaa.mk (show Below w.heap.size w ((w5.setCell ⟨p4, 0, none⟩ (.int .u8 111)).setCell ⟨p4, 1, none⟩ (.slice (some ⟨pb, 0, none⟩) 0 0)) from zaf (zaf HAw5.out (by have := HP4.out; omega)) (by have := HP4.out; omega))
   generalize (w5.setCell ⟨p4, 0, none⟩ (.int .u8 111)).setCell ⟨p4, 1, none⟩ (.slice (some ⟨pb, 0, none⟩) 0 0) = wz at *
   (try simp only [Exit.inBlock, Exit.then])
   refine bodyPost_ret (zao rfl _ _ p4 38 _ (0, 0) _ rfl x0 Try.underlying38 rfl (by kernel_rfl)) rfl ?_
   rw [HR.out]
   exact ⟨111, _, 0, 0, false, rfl, HBs.out, rfl⟩
  ·have d2 : ¬ (7 : Int) < (rn : Int) := by omega
   have hof := HOf.out
   rw [if_neg (fun h => h.elim hbig h7)] at hof
   clear HOf h7 hbig
   have HOf := zaa.mk hof
   have HRd := zaa.mk (fun w => l11Read_calls s hs (s.size + 1) 0 w 0 rfl (by omega) (Nat.zero_le _))
   have hT := rdT_tr (s.size + 1) s 0
   clear hof
   go_upto_region 4 with (first
    | (go_at_call 34; refine (spec_l11Rooms.calls K s (rn : Int) _ HRo.out).mono ?_; rintro e w2 ⟨rfl, hdr⟩; obtain ⟨nd, hnd⟩ := hdr.out; have hb := zab (Below.refl w1.heap.size w1) nd; rw [← hnd] at hb; have HB2 := zaa.mk (zae HB1.out hb); have hk4 := (hb.block p4 (zau HK1.out)).trans HK1.out; have HK2 := zaa.mk hk4; clear x40 x41 f40 f41 hb hnd hdr; have x40 : w2.cell? ⟨p4, 0, none⟩ = some (.int .u8 0) := (zag hk4 0).trans rfl; have x41 : w2.cell? ⟨p4, 1, none⟩ = some (.slice none 0 0) := (zag hk4 1).trans rfl; have f40 := zaj hk4 0; have f41 := zaj hk4 1; clear hk4)
    | (go_at_call 35; refine (HRd.out _).mono ?_; rintro e w3 ⟨sg, A, n, c, m, rfl, hb, hres⟩; have HB3 := zaa.mk hb; have HRes := zaa.mk hres; clear hb hres))
   have hb := zac (Below.refl w3.heap.size w3) (.cells #[.int .u8 sg, .slice A n c] 38)
   have hk := heap_alloc_new w3 (.cells #[.int .u8 sg, .slice A n c] 38)
   generalize w3.alloc (.cells #[.int .u8 sg, .slice A n c] 38) = w4 at *
   obtain ⟨p8, hp⟩ : ∃ p8, p8 = w3.heap.size := ⟨_, rfl⟩
   rw [← hp] at hk ⊢
   have HAw4 := zaa.mk hb
   have hk4 := (hb.block p4 (by have := HB3.out.size; have := zau HK2.out; omega)).trans ((HB3.out.block p4 (zau HK2.out)).trans HK2.out)
   have HB4 := zaa.mk (zae (zae HB2.out HB3.out) hb)
   have HK4 := zaa.mk hk4
   clear x40 x41 f40 f41
   have x40 : w4.cell? ⟨p4, 0, none⟩ = some (.int .u8 0) := (zag hk4 0).trans rfl
   have x41 : w4.cell? ⟨p4, 1, none⟩ = some (.slice none 0 0) := (zag hk4 1).trans rfl
   have f40 := zaj hk4 0
   have f41 := zaj hk4 1
   have x80 : w4.cell? ⟨p8, 0, none⟩ = some (.int .u8 sg) := (zag hk 0).trans rfl
   have x81 : w4.cell? ⟨p8, 1, none⟩ = some (.slice A n c) := (zag hk 1).trans rfl
   clear hb hk hk4 hp
   have hres := HRes.out
   rw [hT] at hres
   have hof := HOf.out
   clear HRes hT HOf
   have HN := zaa.mk (show p4 < w2.heap.size ∧ w.heap.size ≤ w2.heap.size from ⟨zau HK2.out, HB2.out.size⟩)
   cases hrd : rdR (s.size + 1) s 0 with
   | none =>
    rw [hrd] at hres hof
    dsimp only [Option.map_none] at hres hof
    subst hres
    have HR := zaa.mk hof
    clear hrd hof
    go_wp2
    have x0 := zbj HK4.out (.int .u8 sg) (.slice A n c)
    have HBs := zaa.mk (show Below w.heap.size w ((w4.setCell ⟨p4, 0, none⟩ (.int .u8 sg)).setCell ⟨p4, 1, none⟩ (.slice A n c)) from zaf (zaf HB4.out (by have := HP4.out; omega)) (by have := HP4.out; omega))
    generalize (w4.setCell ⟨p4, 0, none⟩ (.int .u8 sg)).setCell ⟨p4, 1, none⟩ (.slice A n c) = wz at *
    (try simp only [Exit.inBlock, Exit.then])
    refine bodyPost_ret (zao rfl _ _ p4 38 _ (0, 0) _ rfl x0 Try.underlying38 rfl (by kernel_rfl)) rfl ?_
    rw [HR.out]
    exact ⟨sg, A, n, c, false, rfl, HBs.out, rfl⟩
   | some te =>
    obtain ⟨t, e⟩ := te
    rw [hrd] at hres hof
    dsimp only [Option.map_some] at hres hof
    obtain ⟨rfl, hT⟩ := hres
    have hend := rdT_end (s.size + 1) s 0 (toS t) e (by rw [rdT_tr, hrd]; rfl)
    have HT := zaa.mk hT
    have g1 : (0 : Int) < (e : Int) := by omega
    clear hrd hT hend
    by_cases hes : e = s.size
    ·have g2 : ((e : Int) == (s.size : Int)) = true := by rw [beq_iff_eq]; omega
     rw [if_pos hes] at hof
     have HR := zaa.mk hof
     clear hof hes
     go_wp2
     have x0 := zbj HK4.out (.int .u8 sg) (.slice A n c)
     have HBs := zaa.mk (show Below w.heap.size w ((w4.setCell ⟨p4, 0, none⟩ (.int .u8 sg)).setCell ⟨p4, 1, none⟩ (.slice A n c)) from zaf (zaf HB4.out (by have := HP4.out; omega)) (by have := HP4.out; omega))
     have HTt := zaa.mk (show TmF ((w4.setCell ⟨p4, 0, none⟩ (.int .u8 sg)).setCell ⟨p4, 1, none⟩ (.slice A n c)) (fun k => w2.heap.size ≤ k) (toS t) sg (.slice A n c) from ((HT.out.below HAw4.out).far (p := ⟨p4, 0, none⟩) (fun k hk => by have := HN.out; show k ≠ p4; omega) _).far (p := ⟨p4, 1, none⟩) (fun k hk => by have := HN.out; show k ≠ p4; omega) _)
     generalize (w4.setCell ⟨p4, 0, none⟩ (.int .u8 sg)).setCell ⟨p4, 1, none⟩ (.slice A n c) = wz at *
     (try simp only [Exit.inBlock, Exit.then])
     refine bodyPost_ret (zao rfl _ _ p4 38 _ (0, 0) _ rfl x0 Try.underlying38 rfl (by kernel_rfl)) rfl ?_
     rw [HR.out]
     exact ⟨sg, A, n, c, true, rfl, HBs.out, rfl, HTt.out.mono (fun k hk => by have := HN.out; show w.heap.size ≤ k; omega)⟩
    ·have g2 : ((e : Int) == (s.size : Int)) = false := by rw [beq_eq_false_iff_ne]; omega
     rw [if_neg hes] at hof
     have HR := zaa.mk hof
     clear hof hes
     go_wp2
     have x0 := zbj HK4.out (.int .u8 sg) (.slice A n c)
     have HBs := zaa.mk (show Below w.heap.size w ((w4.setCell ⟨p4, 0, none⟩ (.int .u8 sg)).setCell ⟨p4, 1, none⟩ (.slice A n c)) from zaf (zaf HB4.out (by have := HP4.out; omega)) (by have := HP4.out; omega))
     generalize (w4.setCell ⟨p4, 0, none⟩ (.int .u8 sg)).setCell ⟨p4, 1, none⟩ (.slice A n c) = wz at *
     (try simp only [Exit.inBlock, Exit.then])
     refine bodyPost_ret (zao rfl _ _ p4 38 _ (0, 0) _ rfl x0 Try.underlying38 rfl (by kernel_rfl)) rfl ?_
     rw [HR.out]
     exact ⟨sg, A, n, c, false, rfl, HBs.out, rfl⟩
def TmRes (w : World) (t : Tm) (e : Ending) (w' : World) : Prop :=
 ∃ (sg : Int) (A : Option Addr) (n c : Nat), e = .returned (.agg #[.int .u8 sg, .slice A n c]) ∧ Below w.heap.size w w' ∧ TmF w' (fun k => w.heap.size ≤ k) t sg (.slice A n c)
set_option maxHeartbeats 400000 in
set_option maxRecDepth 100000 in
theorem l11Tidy_calls : ∀ (t : Tr) (n : Nat) (fl : Bool) (w : World) (sg : Int) (v : Value) (x : Int), x = (n : Int) → n < 4 → TmV w (toS t) sg v →
  Calls Try.prog 21 #[.agg #[.int .u8 sg, v], .int .i64 x, .bool fl] w (TmRes w (toS (tidyR t n fl))) := by
 intro t
 induction t with
 | o =>
  intro n fl w sg v x hx hn hv
  obtain ⟨hsg0, A, c, e, hl, hC⟩ := hv
  have hsg : sg = 111 := hsg0
  clear hsg0
  subst hsg e hx
  show Calls Try.prog 21 #[.agg #[.int .u8 111, .slice A 0 c], .int .i64 (n : Int), .bool fl] w _
  go_enter Try.func21, Try.ntmps21
  go_upto_region 1 with (fail)
  have hb := zac (zac (Below.refl w.heap.size w) (.cells #[.int .u8 111, .slice A 0 c] 38)) (.cells #[.int .u8 0, .slice none 0 0] 38)
  have hk3 := heap_alloc2_old w (.cells #[.int .u8 111, .slice A 0 c] 38) (.cells #[.int .u8 0, .slice none 0 0] 38)
  have hk6 := heap_alloc2_new w (.cells #[.int .u8 111, .slice A 0 c] 38) (.cells #[.int .u8 0, .slice none 0 0] 38)
  generalize (w.alloc (.cells #[.int .u8 111, .slice A 0 c] 38)).alloc (.cells #[.int .u8 0, .slice none 0 0] 38) = w2 at *
  obtain ⟨p6, hp6⟩ : ∃ p6, p6 = w.heap.size + 1 := ⟨_, rfl⟩
  rw [← hp6] at hk6 ⊢
  obtain ⟨p3, hp3⟩ : ∃ p3, p3 = w.heap.size := ⟨_, rfl⟩
  rw [← hp3] at hk3 hp6 ⊢
  have HP6 := zaa.mk (show w.heap.size ≤ p6 by omega)
  have HB2 := zaa.mk hb
  have HK6 := zaa.mk hk6
  have HK3 := zaa.mk hk3
  have x30 : w2.cell? ⟨p3, 0, none⟩ = some (.int .u8 111) := (zag hk3 0).trans rfl
  have x31 : w2.cell? ⟨p3, 1, none⟩ = some (.slice A 0 c) := (zag hk3 1).trans rfl
  have x60 : w2.cell? ⟨p6, 0, none⟩ = some (.int .u8 0) := (zag hk6 0).trans rfl
  have f60 := zaj hk6 0
  have x61 : w2.cell? ⟨p6, 1, none⟩ = some (.slice none 0 0) := (zag hk6 1).trans rfl
  have f61 := zaj hk6 1
  clear hb hk3 hk6 hp6 hp3
  clear hC hl
  go_wp2
  have x0 := zbj HK6.out (.int .u8 111) (.slice A 0 c)
  have HBs := zaa.mk (show Below w.heap.size w ((w2.setCell ⟨p6, 0, none⟩ (.int .u8 111)).setCell ⟨p6, 1, none⟩ (.slice A 0 c)) from zaf (zaf HB2.out (by have := HP6.out; omega)) (by have := HP6.out; omega))
  generalize (w2.setCell ⟨p6, 0, none⟩ (.int .u8 111)).setCell ⟨p6, 1, none⟩ (.slice A 0 c) = wz at *
  (try simp only [Exit.inBlock, Exit.then])
  refine bodyPost_ret (results_cell_row rfl _ _ p6 38 _ (0, 0) _ rfl x0 Try.underlying38 rfl (by kernel_rfl)) rfl ?_
  exact ⟨111, _, _, _, rfl, HBs.out, TmF.leaf _ _ _ _ _⟩
 | un b t ih =>
  intro n fl w sg v x hx hn hv
  obtain ⟨hsg0, A, c, e, hl, hC⟩ := hv
  have HIh := zaa.mk ih
  clear ih
  subst e hx
  replace hC : kT.C w A 1 [toS t] := hC
  obtain ⟨adq, Aq, cq, e, yq0, yq1, lq, hCq⟩ := at_T38 hC 0 (by omega) (by omega)
  subst e
  have er : zay [toS t] 0 = toS t := rfl
  rw [er] at yq0 yq1 lq hCq
  have ea : adq.add (Int.toNat 0 * 2) = adq := Addr.add_zero' adq
  rw [ea] at yq0 yq1
  have n0 : (0 : Int) ≤ (n : Int) := by omega
  cases b with
  | true =>
   have hsg : sg = 62 := hsg0
   clear hsg0
   subst hsg
   show Calls Try.prog 21 #[.agg #[.int .u8 62, .slice (some adq) 1 c], .int .i64 (n : Int), .bool fl] w _
   cases fl with
   | true =>
    go_enter Try.func21, Try.ntmps21
    go_upto_region 1 with (fail)
    have hb := zac (zac (Below.refl w.heap.size w) (.cells #[.int .u8 62, .slice (some adq) 1 c] 38)) (.cells #[.int .u8 0, .slice none 0 0] 38)
    have hk3 := heap_alloc2_old w (.cells #[.int .u8 62, .slice (some adq) 1 c] 38) (.cells #[.int .u8 0, .slice none 0 0] 38)
    have hk6 := heap_alloc2_new w (.cells #[.int .u8 62, .slice (some adq) 1 c] 38) (.cells #[.int .u8 0, .slice none 0 0] 38)
    generalize (w.alloc (.cells #[.int .u8 62, .slice (some adq) 1 c] 38)).alloc (.cells #[.int .u8 0, .slice none 0 0] 38) = w2 at *
    obtain ⟨p6, hp6⟩ : ∃ p6, p6 = w.heap.size + 1 := ⟨_, rfl⟩
    rw [← hp6] at hk6 ⊢
    obtain ⟨p3, hp3⟩ : ∃ p3, p3 = w.heap.size := ⟨_, rfl⟩
    rw [← hp3] at hk3 hp6 ⊢
    have HP6 := zaa.mk (show w.heap.size ≤ p6 by omega)
    have HB2 := zaa.mk hb
    have HK6 := zaa.mk hk6
    have HK3 := zaa.mk hk3
    have x30 : w2.cell? ⟨p3, 0, none⟩ = some (.int .u8 62) := (zag hk3 0).trans rfl
    have x31 : w2.cell? ⟨p3, 1, none⟩ = some (.slice (some adq) 1 c) := (zag hk3 1).trans rfl
    have x60 : w2.cell? ⟨p6, 0, none⟩ = some (.int .u8 0) := (zag hk6 0).trans rfl
    have f60 := zaj hk6 0
    have x61 : w2.cell? ⟨p6, 1, none⟩ = some (.slice none 0 0) := (zag hk6 1).trans rfl
    have f61 := zaj hk6 1
    clear hb hk3 hk6 hp6 hp3
    have HQ := zaa.mk (show TmV w2 (toS t) (toS t).f0 (.slice Aq (toS t).f1.length cq) from TmV.below ⟨rfl, Aq, cq, rfl, lq, hCq⟩ HB2.out)
    replace yq0 := zah HB2.out yq0
    replace yq1 := zah HB2.out yq1
    clear hC hl hCq lq er ea
    generalize (toS t).f0 = sq at *
    generalize (toS t).f1.length = nq at *
    go_wp2_with (first
     | (go_at_call 21; refine (HIh.out ((n + 3) % 4) true _ _ _ _ (by first | rfl | (rw [Int.tmod_eq_emod_of_nonneg (by omega)]; omega)) (by omega) HQ.out).mono ?_; rintro e w3 ⟨sr, Ar, nr, cr, rfl, hb, hT⟩; have hk6 := (hb.block p6 (zau HK6.out)).trans HK6.out; have HK63 := zaa.mk hk6; have HB3 := zaa.mk (zae HB2.out hb); have HT := zaa.mk hT; clear x60 x61 f60 f61 hb hT; have x60 : w3.cell? ⟨p6, 0, none⟩ = some (.int .u8 0) := (zag hk6 0).trans rfl; have x61 : w3.cell? ⟨p6, 1, none⟩ = some (.slice none 0 0) := (zag hk6 1).trans rfl; have f60 := zaj hk6 0; have f61 := zaj hk6 1; clear hk6))
    have x0 := zbj HK63.out (.int .u8 sr) (.slice Ar nr cr)
    have HBs := zaa.mk (show Below w.heap.size w ((w3.setCell ⟨p6, 0, none⟩ (.int .u8 sr)).setCell ⟨p6, 1, none⟩ (.slice Ar nr cr)) from zaf (zaf HB3.out (by have := HP6.out; omega)) (by have := HP6.out; omega))
    have HN := zaa.mk (show p6 < w2.heap.size ∧ w.heap.size ≤ w2.heap.size from ⟨zau HK6.out, HB2.out.size⟩)
    have HTt := zaa.mk ((HT.out.far (p := ⟨p6, 0, none⟩) (fun k hk => by have := HN.out; show k ≠ p6; omega) (.int .u8 sr)).far (p := ⟨p6, 1, none⟩) (fun k hk => by have := HN.out; show k ≠ p6; omega) (.slice Ar nr cr))
    generalize (w3.setCell ⟨p6, 0, none⟩ (.int .u8 sr)).setCell ⟨p6, 1, none⟩ (.slice Ar nr cr) = wz at *
    (try simp only [Exit.inBlock, Exit.then])
    refine bodyPost_ret (results_cell_row rfl _ _ p6 38 _ (0, 0) _ rfl x0 Try.underlying38 rfl (by kernel_rfl)) rfl ?_
    exact ⟨sr, _, _, _, rfl, HBs.out, HTt.out.mono (fun k hk => by have := HN.out; show w.heap.size ≤ k; omega)⟩
   | false =>
    go_enter Try.func21, Try.ntmps21
    go_upto_region 1 with (fail)
    have hb := zac (zac (Below.refl w.heap.size w) (.cells #[.int .u8 62, .slice (some adq) 1 c] 38)) (.cells #[.int .u8 0, .slice none 0 0] 38)
    have hk3 := heap_alloc2_old w (.cells #[.int .u8 62, .slice (some adq) 1 c] 38) (.cells #[.int .u8 0, .slice none 0 0] 38)
    have hk6 := heap_alloc2_new w (.cells #[.int .u8 62, .slice (some adq) 1 c] 38) (.cells #[.int .u8 0, .slice none 0 0] 38)
    generalize (w.alloc (.cells #[.int .u8 62, .slice (some adq) 1 c] 38)).alloc (.cells #[.int .u8 0, .slice none 0 0] 38) = w2 at *
    obtain ⟨p6, hp6⟩ : ∃ p6, p6 = w.heap.size + 1 := ⟨_, rfl⟩
    rw [← hp6] at hk6 ⊢
    obtain ⟨p3, hp3⟩ : ∃ p3, p3 = w.heap.size := ⟨_, rfl⟩
    rw [← hp3] at hk3 hp6 ⊢
    have HP6 := zaa.mk (show w.heap.size ≤ p6 by omega)
    have HB2 := zaa.mk hb
    have HK6 := zaa.mk hk6
    have HK3 := zaa.mk hk3
    have x30 : w2.cell? ⟨p3, 0, none⟩ = some (.int .u8 62) := (zag hk3 0).trans rfl
    have x31 : w2.cell? ⟨p3, 1, none⟩ = some (.slice (some adq) 1 c) := (zag hk3 1).trans rfl
    have x60 : w2.cell? ⟨p6, 0, none⟩ = some (.int .u8 0) := (zag hk6 0).trans rfl
    have f60 := zaj hk6 0
    have x61 : w2.cell? ⟨p6, 1, none⟩ = some (.slice none 0 0) := (zag hk6 1).trans rfl
    have f61 := zaj hk6 1
    clear hb hk3 hk6 hp6 hp3
    have HQ := zaa.mk (show TmV w2 (toS t) (toS t).f0 (.slice Aq (toS t).f1.length cq) from TmV.below ⟨rfl, Aq, cq, rfl, lq, hCq⟩ HB2.out)
    replace yq0 := zah HB2.out yq0
    replace yq1 := zah HB2.out yq1
    clear hC hl hCq lq er ea
    generalize (toS t).f0 = sq at *
    generalize (toS t).f1.length = nq at *
    go_wp2_with (first
     | (go_at_call 21; refine (HIh.out ((n + 1) % 4) false _ _ _ _ (by first | rfl | (rw [Int.tmod_eq_emod_of_nonneg (by omega)]; omega)) (by omega) HQ.out).mono ?_; rintro e w3 ⟨sr, Ar, nr, cr, rfl, hb, hT⟩; have hk6 := (hb.block p6 (zau HK6.out)).trans HK6.out; have HK63 := zaa.mk hk6; have HB3 := zaa.mk (zae HB2.out hb); have HT := zaa.mk hT; clear x60 x61 f60 f61 hb hT; have x60 : w3.cell? ⟨p6, 0, none⟩ = some (.int .u8 0) := (zag hk6 0).trans rfl; have x61 : w3.cell? ⟨p6, 1, none⟩ = some (.slice none 0 0) := (zag hk6 1).trans rfl; have f60 := zaj hk6 0; have f61 := zaj hk6 1; clear hk6))
    have x0 := zbj HK63.out (.int .u8 sr) (.slice Ar nr cr)
    have HBs := zaa.mk (show Below w.heap.size w ((w3.setCell ⟨p6, 0, none⟩ (.int .u8 sr)).setCell ⟨p6, 1, none⟩ (.slice Ar nr cr)) from zaf (zaf HB3.out (by have := HP6.out; omega)) (by have := HP6.out; omega))
    have HN := zaa.mk (show p6 < w2.heap.size ∧ w.heap.size ≤ w2.heap.size from ⟨zau HK6.out, HB2.out.size⟩)
    have HTt := zaa.mk ((HT.out.far (p := ⟨p6, 0, none⟩) (fun k hk => by have := HN.out; show k ≠ p6; omega) (.int .u8 sr)).far (p := ⟨p6, 1, none⟩) (fun k hk => by have := HN.out; show k ≠ p6; omega) (.slice Ar nr cr))
    generalize (w3.setCell ⟨p6, 0, none⟩ (.int .u8 sr)).setCell ⟨p6, 1, none⟩ (.slice Ar nr cr) = wz at *
    (try simp only [Exit.inBlock, Exit.then])
    refine bodyPost_ret (results_cell_row rfl _ _ p6 38 _ (0, 0) _ rfl x0 Try.underlying38 rfl (by kernel_rfl)) rfl ?_
    exact ⟨sr, _, _, _, rfl, HBs.out, HTt.out.mono (fun k hk => by have := HN.out; show w.heap.size ≤ k; omega)⟩
  | false =>
   have hsg : sg = 94 := hsg0
   clear hsg0
   subst hsg
   show Calls Try.prog 21 #[.agg #[.int .u8 94, .slice (some adq) 1 c], .int .i64 (n : Int), .bool fl] w _
   cases fl with
   | true =>
    go_enter Try.func21, Try.ntmps21
    go_upto_region 1 with (fail)
    have hb := zac (zac (Below.refl w.heap.size w) (.cells #[.int .u8 94, .slice (some adq) 1 c] 38)) (.cells #[.int .u8 0, .slice none 0 0] 38)
    have hk3 := heap_alloc2_old w (.cells #[.int .u8 94, .slice (some adq) 1 c] 38) (.cells #[.int .u8 0, .slice none 0 0] 38)
    have hk6 := heap_alloc2_new w (.cells #[.int .u8 94, .slice (some adq) 1 c] 38) (.cells #[.int .u8 0, .slice none 0 0] 38)
    generalize (w.alloc (.cells #[.int .u8 94, .slice (some adq) 1 c] 38)).alloc (.cells #[.int .u8 0, .slice none 0 0] 38) = w2 at *
    obtain ⟨p6, hp6⟩ : ∃ p6, p6 = w.heap.size + 1 := ⟨_, rfl⟩
    rw [← hp6] at hk6 ⊢
    obtain ⟨p3, hp3⟩ : ∃ p3, p3 = w.heap.size := ⟨_, rfl⟩
    rw [← hp3] at hk3 hp6 ⊢
    have HP6 := zaa.mk (show w.heap.size ≤ p6 by omega)
    have HB2 := zaa.mk hb
    have HK6 := zaa.mk hk6
    have HK3 := zaa.mk hk3
    have x30 : w2.cell? ⟨p3, 0, none⟩ = some (.int .u8 94) := (zag hk3 0).trans rfl
    have x31 : w2.cell? ⟨p3, 1, none⟩ = some (.slice (some adq) 1 c) := (zag hk3 1).trans rfl
    have x60 : w2.cell? ⟨p6, 0, none⟩ = some (.int .u8 0) := (zag hk6 0).trans rfl
    have f60 := zaj hk6 0
    have x61 : w2.cell? ⟨p6, 1, none⟩ = some (.slice none 0 0) := (zag hk6 1).trans rfl
    have f61 := zaj hk6 1
    clear hb hk3 hk6 hp6 hp3
    have HQ := zaa.mk (show TmV w2 (toS t) (toS t).f0 (.slice Aq (toS t).f1.length cq) from TmV.below ⟨rfl, Aq, cq, rfl, lq, hCq⟩ HB2.out)
    replace yq0 := zah HB2.out yq0
    replace yq1 := zah HB2.out yq1
    clear hC hl hCq lq er ea
    generalize (toS t).f0 = sq at *
    generalize (toS t).f1.length = nq at *
    go_wp2_with (first
     | (go_at_call 21; refine (HIh.out n false _ _ _ _ (by first | rfl | (rw [Int.tmod_eq_emod_of_nonneg (by omega)]; omega)) (by omega) HQ.out).mono ?_; rintro e w3 ⟨sr, Ar, nr, cr, rfl, hb, hT⟩; have hk6 := (hb.block p6 (zau HK6.out)).trans HK6.out; have HK63 := zaa.mk hk6; have HB3 := zaa.mk (zae HB2.out hb); have HT := zaa.mk hT; clear x60 x61 f60 f61 hb hT; have x60 : w3.cell? ⟨p6, 0, none⟩ = some (.int .u8 0) := (zag hk6 0).trans rfl; have x61 : w3.cell? ⟨p6, 1, none⟩ = some (.slice none 0 0) := (zag hk6 1).trans rfl; have f60 := zaj hk6 0; have f61 := zaj hk6 1; clear hk6))
    have x0 := zbj HK63.out (.int .u8 sr) (.slice Ar nr cr)
    have HBs := zaa.mk (show Below w.heap.size w ((w3.setCell ⟨p6, 0, none⟩ (.int .u8 sr)).setCell ⟨p6, 1, none⟩ (.slice Ar nr cr)) from zaf (zaf HB3.out (by have := HP6.out; omega)) (by have := HP6.out; omega))
    have HN := zaa.mk (show p6 < w2.heap.size ∧ w.heap.size ≤ w2.heap.size from ⟨zau HK6.out, HB2.out.size⟩)
    have HTt := zaa.mk ((HT.out.far (p := ⟨p6, 0, none⟩) (fun k hk => by have := HN.out; show k ≠ p6; omega) (.int .u8 sr)).far (p := ⟨p6, 1, none⟩) (fun k hk => by have := HN.out; show k ≠ p6; omega) (.slice Ar nr cr))
    generalize (w3.setCell ⟨p6, 0, none⟩ (.int .u8 sr)).setCell ⟨p6, 1, none⟩ (.slice Ar nr cr) = wz at *
    (try simp only [Exit.inBlock, Exit.then])
    refine bodyPost_ret (results_cell_row rfl _ _ p6 38 _ (0, 0) _ rfl x0 Try.underlying38 rfl (by kernel_rfl)) rfl ?_
    exact ⟨sr, _, _, _, rfl, HBs.out, HTt.out.mono (fun k hk => by have := HN.out; show w.heap.size ≤ k; omega)⟩
   | false =>
    go_enter Try.func21, Try.ntmps21
    go_upto_region 1 with (fail)
    have hb := zac (zac (Below.refl w.heap.size w) (.cells #[.int .u8 94, .slice (some adq) 1 c] 38)) (.cells #[.int .u8 0, .slice none 0 0] 38)
    have hk3 := heap_alloc2_old w (.cells #[.int .u8 94, .slice (some adq) 1 c] 38) (.cells #[.int .u8 0, .slice none 0 0] 38)
    have hk6 := heap_alloc2_new w (.cells #[.int .u8 94, .slice (some adq) 1 c] 38) (.cells #[.int .u8 0, .slice none 0 0] 38)
    generalize (w.alloc (.cells #[.int .u8 94, .slice (some adq) 1 c] 38)).alloc (.cells #[.int .u8 0, .slice none 0 0] 38) = w2 at *
    obtain ⟨p6, hp6⟩ : ∃ p6, p6 = w.heap.size + 1 := ⟨_, rfl⟩
    rw [← hp6] at hk6 ⊢
    obtain ⟨p3, hp3⟩ : ∃ p3, p3 = w.heap.size := ⟨_, rfl⟩
    rw [← hp3] at hk3 hp6 ⊢
    have HP6 := zaa.mk (show w.heap.size ≤ p6 by omega)
    have HB2 := zaa.mk hb
    have HK6 := zaa.mk hk6
    have HK3 := zaa.mk hk3
    have x30 : w2.cell? ⟨p3, 0, none⟩ = some (.int .u8 94) := (zag hk3 0).trans rfl
    have x31 : w2.cell? ⟨p3, 1, none⟩ = some (.slice (some adq) 1 c) := (zag hk3 1).trans rfl
    have x60 : w2.cell? ⟨p6, 0, none⟩ = some (.int .u8 0) := (zag hk6 0).trans rfl
    have f60 := zaj hk6 0
    have x61 : w2.cell? ⟨p6, 1, none⟩ = some (.slice none 0 0) := (zag hk6 1).trans rfl
    have f61 := zaj hk6 1
    clear hb hk3 hk6 hp6 hp3
    have HQ := zaa.mk (show TmV w2 (toS t) (toS t).f0 (.slice Aq (toS t).f1.length cq) from TmV.below ⟨rfl, Aq, cq, rfl, lq, hCq⟩ HB2.out)
    replace yq0 := zah HB2.out yq0
    replace yq1 := zah HB2.out yq1
    clear hC hl hCq lq er ea
    generalize (toS t).f0 = sq at *
    generalize (toS t).f1.length = nq at *
    go_wp2_with (first
     | (go_at_call 21; refine (HIh.out n true _ _ _ _ (by first | rfl | (rw [Int.tmod_eq_emod_of_nonneg (by omega)]; omega)) (by omega) HQ.out).mono ?_; rintro e w3 ⟨sr, Ar, nr, cr, rfl, hb, hT⟩; have hk6 := (hb.block p6 (zau HK6.out)).trans HK6.out; have HK63 := zaa.mk hk6; have HB3 := zaa.mk (zae HB2.out hb); have HT := zaa.mk hT; clear x60 x61 f60 f61 hb hT; have x60 : w3.cell? ⟨p6, 0, none⟩ = some (.int .u8 0) := (zag hk6 0).trans rfl; have x61 : w3.cell? ⟨p6, 1, none⟩ = some (.slice none 0 0) := (zag hk6 1).trans rfl; have f60 := zaj hk6 0; have f61 := zaj hk6 1; clear hk6))
    have x0 := zbj HK63.out (.int .u8 sr) (.slice Ar nr cr)
    have HBs := zaa.mk (show Below w.heap.size w ((w3.setCell ⟨p6, 0, none⟩ (.int .u8 sr)).setCell ⟨p6, 1, none⟩ (.slice Ar nr cr)) from zaf (zaf HB3.out (by have := HP6.out; omega)) (by have := HP6.out; omega))
    have HN := zaa.mk (show p6 < w2.heap.size ∧ w.heap.size ≤ w2.heap.size from ⟨zau HK6.out, HB2.out.size⟩)
    have HTt := zaa.mk ((HT.out.far (p := ⟨p6, 0, none⟩) (fun k hk => by have := HN.out; show k ≠ p6; omega) (.int .u8 sr)).far (p := ⟨p6, 1, none⟩) (fun k hk => by have := HN.out; show k ≠ p6; omega) (.slice Ar nr cr))
    generalize (w3.setCell ⟨p6, 0, none⟩ (.int .u8 sr)).setCell ⟨p6, 1, none⟩ (.slice Ar nr cr) = wz at *
    (try simp only [Exit.inBlock, Exit.then])
    refine bodyPost_ret (results_cell_row rfl _ _ p6 38 _ (0, 0) _ rfl x0 Try.underlying38 rfl (by kernel_rfl)) rfl ?_
    exact ⟨sr, _, _, _, rfl, HBs.out, HTt.out.mono (fun k hk => by have := HN.out; show w.heap.size ≤ k; omega)⟩
 | bin b t1 t2 ih1 ih2 =>
  intro n fl w sg v x hx hn hv
  obtain ⟨hsg0, A, c, e, hl, hC⟩ := hv
  have HIh1 := zaa.mk ih1
  have HIh2 := zaa.mk ih2
  clear ih1 ih2
  subst e hx
  replace hC : kT.C w A 2 [toS t1, toS t2] := hC
  obtain ⟨adq, Aq, cq, e, yq0, yq1, lq, hCq⟩ := at_T38 hC 0 (by omega) (by omega)
  obtain ⟨adr, Ar, cr, e2, yr0, yr1, lr, hCr⟩ := at_T38 hC 1 (by omega) (by omega)
  subst e
  injection e2 with e2
  subst e2
  have er : zay [toS t1, toS t2] 0 = toS t1 := rfl
  have er2 : zay [toS t1, toS t2] 1 = toS t2 := rfl
  rw [er] at yq0 yq1 lq hCq
  rw [er2] at yr0 yr1 lr hCr
  have ea : adq.add (Int.toNat 0 * 2) = adq := Addr.add_zero' adq
  rw [ea] at yq0 yq1
  replace yr0 : w.cell? (adq.add 2) = some (.int .u8 (toS t2).f0) := yr0
  have e3 : (⟨(adq.add 2).block, (adq.add 2).off + 1, none⟩ : Addr) = ⟨adq.block, adq.off + 2 + 1, none⟩ := by simp [Addr.add]
  replace yr1 : w.cell? ⟨(adq.add 2).block, (adq.add 2).off + 1, none⟩ = some (.slice Ar (toS t2).f1.length cr) := yr1
  rw [e3] at yr1
  have e4 : adq.add 2 = ⟨adq.block, adq.off + 2, none⟩ := by simp [Addr.add]
  rw [e4] at yr0
  clear e3 e4
  have hsg : sg = binC b := hsg0
  clear hsg0
  subst hsg
  have n0 : (0 : Int) ≤ (n : Int) := by omega
  show Calls Try.prog 21 #[.agg #[.int .u8 (binC b), .slice (some adq) 2 c], .int .i64 (n : Int), .bool fl] w _
  go_enter Try.func21, Try.ntmps21
  go_upto_region 1 with (fail)
  have hb := zac (zac (Below.refl w.heap.size w) (.cells #[.int .u8 (binC b), .slice (some adq) 2 c] 38)) (.cells #[.int .u8 0, .slice none 0 0] 38)
  have hk3 := heap_alloc2_old w (.cells #[.int .u8 (binC b), .slice (some adq) 2 c] 38) (.cells #[.int .u8 0, .slice none 0 0] 38)
  have hk6 := heap_alloc2_new w (.cells #[.int .u8 (binC b), .slice (some adq) 2 c] 38) (.cells #[.int .u8 0, .slice none 0 0] 38)
  generalize (w.alloc (.cells #[.int .u8 (binC b), .slice (some adq) 2 c] 38)).alloc (.cells #[.int .u8 0, .slice none 0 0] 38) = w2 at *
  obtain ⟨p6, hp6⟩ : ∃ p6, p6 = w.heap.size + 1 := ⟨_, rfl⟩
  rw [← hp6] at hk6 ⊢
  obtain ⟨p3, hp3⟩ : ∃ p3, p3 = w.heap.size := ⟨_, rfl⟩
  rw [← hp3] at hk3 hp6 ⊢
  have HP6 := zaa.mk (show w.heap.size ≤ p6 by omega)
  have HB2 := zaa.mk hb
  have HK6 := zaa.mk hk6
  have HK3 := zaa.mk hk3
  have x30 : w2.cell? ⟨p3, 0, none⟩ = some (.int .u8 (binC b)) := (zag hk3 0).trans rfl
  have x31 : w2.cell? ⟨p3, 1, none⟩ = some (.slice (some adq) 2 c) := (zag hk3 1).trans rfl
  have x60 : w2.cell? ⟨p6, 0, none⟩ = some (.int .u8 0) := (zag hk6 0).trans rfl
  have f60 := zaj hk6 0
  have x61 : w2.cell? ⟨p6, 1, none⟩ = some (.slice none 0 0) := (zag hk6 1).trans rfl
  have f61 := zaj hk6 1
  clear hb hk3 hk6 hp6 hp3
  have HQ1 := zaa.mk (show TmV w2 (toS t1) (toS t1).f0 (.slice Aq (toS t1).f1.length cq) from TmV.below ⟨rfl, Aq, cq, rfl, lq, hCq⟩ HB2.out)
  have HQ2 := zaa.mk (show TmV w2 (toS t2) (toS t2).f0 (.slice Ar (toS t2).f1.length cr) from TmV.below ⟨rfl, Ar, cr, rfl, lr, hCr⟩ HB2.out)
  replace yq0 := zah HB2.out yq0
  replace yq1 := zah HB2.out yq1
  replace yr0 := zah HB2.out yr0
  replace yr1 := zah HB2.out yr1
  clear hC hl hCq lq er ea hCr lr er2
  have b1 : (binC b == 62) = false := by cases b <;> rfl
  have b2 : (binC b == 94) = false := by cases b <;> rfl
  have b3 : (binC b == 111) = false := by cases b <;> rfl
  have b4 : (binC b == 124) = b := by cases b <;> rfl
  generalize (toS t1).f0 = sq at *
  generalize (toS t1).f1.length = nq at *
  generalize (toS t2).f0 = sr at *
  generalize (toS t2).f1.length = nr at *
  generalize hcb : binC b = cb at *
  have HCb := zaa.mk hcb
  clear hcb
  go_upto_region 12 with (first
   | (go_at_call 21; refine (HIh1.out n fl _ _ _ _ rfl hn HQ1.out).mono ?_; rintro e w3 ⟨sa, Aa, na, ca, rfl, hb, hT⟩; have HB3 := zaa.mk hb; have HTa := zaa.mk hT; clear hb hT))
  have hb := zac (Below.refl w3.heap.size w3) (.cells #[.int .u8 sa, .slice Aa na ca] 38)
  have hk := heap_alloc_new w3 (.cells #[.int .u8 sa, .slice Aa na ca] 38)
  generalize w3.alloc (.cells #[.int .u8 sa, .slice Aa na ca] 38) = w4 at *
  obtain ⟨p8, hp⟩ : ∃ p8, p8 = w3.heap.size := ⟨_, rfl⟩
  rw [← hp] at hk ⊢
  have Hp8 := zaa.mk hp
  have HAw4 := zaa.mk hb
  have HKp8 := zaa.mk hk
  clear hb hk hp
  have hb24 := zae HB3.out HAw4.out
  have HB24 := zaa.mk hb24
  have hk6 := (hb24.block p6 (zau HK6.out)).trans HK6.out
  have hk3 := (hb24.block p3 (zau HK3.out)).trans HK3.out
  have HK64 := zaa.mk hk6
  have HK34 := zaa.mk hk3
  clear x30 x31 x60 x61 f60 f61
  replace yr0 := zah hb24 yr0
  replace yr1 := zah hb24 yr1
  clear yq0 yq1 hb24
  have x30 : w4.cell? ⟨p3, 0, none⟩ = some (.int .u8 cb) := (zag hk3 0).trans rfl
  have x31 : w4.cell? ⟨p3, 1, none⟩ = some (.slice (some adq) 2 c) := (zag hk3 1).trans rfl
  have x60 : w4.cell? ⟨p6, 0, none⟩ = some (.int .u8 0) := (zag hk6 0).trans rfl
  have f60 := zaj hk6 0
  have x61 : w4.cell? ⟨p6, 1, none⟩ = some (.slice none 0 0) := (zag hk6 1).trans rfl
  have f61 := zaj hk6 1
  clear hk6 hk3
  go_upto_region 13 with (first
   | (go_at_call 21; refine (HIh2.out n fl _ _ _ _ rfl hn (HQ2.out.below HB24.out)).mono ?_; rintro e w5 ⟨sb, Ab, nb, cb2, rfl, hb, hT⟩; have HB5 := zaa.mk hb; have HTb := zaa.mk hT; clear hb hT))
  have hb := zac (Below.refl w5.heap.size w5) (.cells #[.int .u8 sb, .slice Ab nb cb2] 38)
  have hk := heap_alloc_new w5 (.cells #[.int .u8 sb, .slice Ab nb cb2] 38)
  generalize w5.alloc (.cells #[.int .u8 sb, .slice Ab nb cb2] 38) = w6 at *
  obtain ⟨p9, hp⟩ : ∃ p9, p9 = w5.heap.size := ⟨_, rfl⟩
  rw [← hp] at hk ⊢
  have Hp9 := zaa.mk hp
  have HAw6 := zaa.mk hb
  have HKp9 := zaa.mk hk
  clear hb hk hp
  have hb46 := zae HB5.out HAw6.out
  have HB46 := zaa.mk hb46
  have hk6 := (hb46.block p6 (zau HK64.out)).trans HK64.out
  have hk3 := (hb46.block p3 (zau HK34.out)).trans HK34.out
  have hk8 := (hb46.block p8 (zau HKp8.out)).trans HKp8.out
  have HK66 := zaa.mk hk6
  have HK86 := zaa.mk hk8
  have HB6 := zaa.mk (zae (zae HB2.out HB24.out) HB46.out)
  clear x30 x31 x60 x61 f60 f61 yr0 yr1 hb46
  clear hk6 hk3 hk8
  have HDef := zaa.mk (show tidyR (.bin b t1 t2) n fl = if (rotN n (b, fl && b)).2 then .bin (rotN n (b, fl && b)).1 (tidyR t2 n fl) (tidyR t1 n fl) else .bin (rotN n (b, fl && b)).1 (tidyR t1 n fl) (tidyR t2 n fl) from rfl)
  cases fl with
  | true =>
   go_upto_region 15 with (fail)
   go_loopg [7, 10, 11] n (fun kq v7 v10 v11 w' => ∃ (i : Nat) (s' sw : Bool), v7 = .int .u8 (binC s') ∧ v10 = .bool sw ∧ v11 = .int .i64 (i : Int) ∧ zaa (i + kq = n) ∧ zaa (rotN (n - i) (s', sw) = rotN n (b, true && b)) ∧ zaa (Below w6.heap.size w6 w'))
   case atStart => exact ⟨0, b, true && b, by rw [HCb.out], rfl, rfl, ⟨by omega⟩, ⟨rfl⟩, ⟨Below.refl _ _⟩⟩
   case round =>
    obtain ⟨i, s', sw, rfl, rfl, rfl, HI, HRt, HBl⟩ := hrel
    by_cases hin : i < n
    ·have hlt : (i : Int) < (n : Int) := by omega
     cases s' with
     | true =>
      have d : (binC true == 124) = true := rfl
      go_wp2
      go_roundg (n - (i + 1))
      case measure => have := HI.out; omega
      case rel => exact ⟨i + 1, false, sw, rfl, rfl, by first | rfl | (congr 1; omega), ⟨by have := HI.out; omega⟩, ⟨by have h := HRt.out; rw [show n - i = (n - (i + 1)) + 1 by omega] at h; exact h⟩, ⟨HBl.out⟩⟩
     | false =>
      have d : (binC false == 124) = false := rfl
      go_wp2
      go_roundg (n - (i + 1))
      case measure => have := HI.out; omega
      case rel => exact ⟨i + 1, true, !sw, rfl, rfl, by first | rfl | (congr 1; omega), ⟨by have := HI.out; omega⟩, ⟨by have h := HRt.out; rw [show n - i = (n - (i + 1)) + 1 by omega] at h; exact h⟩, ⟨HBl.out⟩⟩
    ·have hge : ¬ (i : Int) < (n : Int) := by omega
     have HRt' := zaa.mk (show (s', sw) = rotN n (b, true && b) by have h := HRt.out; rw [show n - i = 0 by omega] at h; exact h)
     have hk6 := (HBl.out.block p6 (zau HK66.out)).trans HK66.out
     have hk8 := (HBl.out.block p8 (zau HK86.out)).trans HK86.out
     have hk9 := (HBl.out.block p9 (zau HKp9.out)).trans HKp9.out
     have HK67 := zaa.mk hk6
     have x60 : wr.cell? ⟨p6, 0, none⟩ = some (.int .u8 0) := (zag hk6 0).trans rfl
     have f60 := zaj hk6 0
     have x61 : wr.cell? ⟨p6, 1, none⟩ = some (.slice none 0 0) := (zag hk6 1).trans rfl
     have f61 := zaj hk6 1
     have x80 : wr.cell? ⟨p8, 0, none⟩ = some (.int .u8 sa) := (zag hk8 0).trans rfl
     have x81 : wr.cell? ⟨p8, 1, none⟩ = some (.slice Aa na ca) := (zag hk8 1).trans rfl
     have x90 : wr.cell? ⟨p9, 0, none⟩ = some (.int .u8 sb) := (zag hk9 0).trans rfl
     have x91 : wr.cell? ⟨p9, 1, none⟩ = some (.slice Ab nb cb2) := (zag hk9 1).trans rfl
     clear hk6 hk8 hk9
     cases sw with
     | true =>
      go_wp2_with (first
       | ((with_reducible refine zbe (N := 82) rfl ?_); refine zbx ?hg (N := 82) ?hd (n := 2) (cs := #[.int .u8 sb, .slice Ab nb cb2, .int .u8 sa, .slice Aa na ca]) (t := 38) ?hr ?_; (case hd => rfl); (case hg => rfl); (case hr => first | (go_simp; done) | (go_simp; rfl)); intro pb hpb w8 hk hb; have Hpb := zaa.mk hpb; have HAw8 := zaa.mk hb; have HKpb := zaa.mk hk; have hk6 := (hb.block p6 (zau HK67.out)).trans HK67.out; have HK68 := zaa.mk hk6; clear x60 x61 f60 f61 hb hk hpb; have x60 : w8.cell? ⟨p6, 0, none⟩ = some (.int .u8 0) := (zag hk6 0).trans rfl; have x61 : w8.cell? ⟨p6, 1, none⟩ = some (.slice none 0 0) := (zag hk6 1).trans rfl; have f60 := zaj hk6 0; have f61 := zaj hk6 1; clear hk6))
      have x0 := zbj HK68.out (.int .u8 (binC s')) (.slice (some ⟨pb, 0, none⟩) 2 2)
      have HBs := zaa.mk (show Below w.heap.size w ((w8.setCell ⟨p6, 0, none⟩ (.int .u8 (binC s'))).setCell ⟨p6, 1, none⟩ (.slice (some ⟨pb, 0, none⟩) 2 2)) from zaf (zaf (zae (zae HB6.out HBl.out) HAw8.out) (by have := HP6.out; omega)) (by have := HP6.out; omega))
      have HN := zaa.mk (show p6 < w2.heap.size ∧ w2.heap.size ≤ w3.heap.size ∧ w3.heap.size ≤ w4.heap.size ∧ w4.heap.size ≤ w5.heap.size ∧ w5.heap.size ≤ w6.heap.size ∧ w6.heap.size ≤ wr.heap.size ∧ pb = wr.heap.size ∧ w.heap.size ≤ p6 ∧ w.heap.size ≤ w2.heap.size from ⟨zau HK6.out, HB3.out.size, HAw4.out.size, HB5.out.size, HAw6.out.size, HBl.out.size, Hpb.out, HP6.out, HB2.out.size⟩)
      have HKb := zaa.mk (show ((w8.setCell ⟨p6, 0, none⟩ (.int .u8 (binC s'))).setCell ⟨p6, 1, none⟩ (.slice (some ⟨pb, 0, none⟩) 2 2)).heap[pb]? = some (.cells #[.int .u8 sb, .slice Ab nb cb2, .int .u8 sa, .slice Aa na ca] 38 (0, 0)) from (Below.heap_setCell _ ⟨p6, 1, none⟩ _ pb (by have := HN.out; show pb ≠ p6; omega)).trans ((Below.heap_setCell w8 ⟨p6, 0, none⟩ _ pb (by have := HN.out; show pb ≠ p6; omega)).trans HKpb.out))
      have HTa2 := zaa.mk (show TmF ((w8.setCell ⟨p6, 0, none⟩ (.int .u8 (binC s'))).setCell ⟨p6, 1, none⟩ (.slice (some ⟨pb, 0, none⟩) 2 2)) (fun k => w2.heap.size ≤ k) (toS (tidyR t1 n true)) sa (.slice Aa na ca) from (((((HTa.out.below HAw4.out).below HB46.out).below HBl.out).below HAw8.out).far (p := ⟨p6, 0, none⟩) (fun k hk => by have := HN.out; show k ≠ p6; omega) _).far (p := ⟨p6, 1, none⟩) (fun k hk => by have := HN.out; show k ≠ p6; omega) _)
      have HTb2 := zaa.mk (show TmF ((w8.setCell ⟨p6, 0, none⟩ (.int .u8 (binC s'))).setCell ⟨p6, 1, none⟩ (.slice (some ⟨pb, 0, none⟩) 2 2)) (fun k => w4.heap.size ≤ k) (toS (tidyR t2 n true)) sb (.slice Ab nb cb2) from ((((HTb.out.below HAw6.out).below HBl.out).below HAw8.out).far (p := ⟨p6, 0, none⟩) (fun k hk => by have := HN.out; show k ≠ p6; omega) _).far (p := ⟨p6, 1, none⟩) (fun k hk => by have := HN.out; show k ≠ p6; omega) _)
      generalize (w8.setCell ⟨p6, 0, none⟩ (.int .u8 (binC s'))).setCell ⟨p6, 1, none⟩ (.slice (some ⟨pb, 0, none⟩) 2 2) = wz at *
      (try simp only [Exit.inBlock, Exit.then])
      refine bodyPost_ret (results_cell_row rfl _ _ p6 38 _ (0, 0) _ rfl x0 Try.underlying38 rfl (by kernel_rfl)) rfl ?_
      have hde := HDef.out
      rw [← HRt'.out] at hde
      rw [if_pos rfl] at hde
      rw [hde]
      exact ⟨binC s', _, 2, 2, rfl, HBs.out, TmF.two HKb.out (by have := HN.out; show w.heap.size ≤ pb; omega) (HTb2.out.mono (fun k hk => by have := HN.out; show w.heap.size ≤ k; omega)) (HTa2.out.mono (fun k hk => by have := HN.out; show w.heap.size ≤ k; omega))⟩
     | false =>
      go_wp2_with (first
       | ((with_reducible refine zbe (N := 87) rfl ?_); refine zbx ?hg (N := 87) ?hd (n := 2) (cs := #[.int .u8 sa, .slice Aa na ca, .int .u8 sb, .slice Ab nb cb2]) (t := 38) ?hr ?_; (case hd => rfl); (case hg => rfl); (case hr => first | (go_simp; done) | (go_simp; rfl)); intro pb hpb w8 hk hb; have Hpb := zaa.mk hpb; have HAw8 := zaa.mk hb; have HKpb := zaa.mk hk; have hk6 := (hb.block p6 (zau HK67.out)).trans HK67.out; have HK68 := zaa.mk hk6; clear x60 x61 f60 f61 hb hk hpb; have x60 : w8.cell? ⟨p6, 0, none⟩ = some (.int .u8 0) := (zag hk6 0).trans rfl; have x61 : w8.cell? ⟨p6, 1, none⟩ = some (.slice none 0 0) := (zag hk6 1).trans rfl; have f60 := zaj hk6 0; have f61 := zaj hk6 1; clear hk6))
      have x0 := zbj HK68.out (.int .u8 (binC s')) (.slice (some ⟨pb, 0, none⟩) 2 2)
      have HBs := zaa.mk (show Below w.heap.size w ((w8.setCell ⟨p6, 0, none⟩ (.int .u8 (binC s'))).setCell ⟨p6, 1, none⟩ (.slice (some ⟨pb, 0, none⟩) 2 2)) from zaf (zaf (zae (zae HB6.out HBl.out) HAw8.out) (by have := HP6.out; omega)) (by have := HP6.out; omega))
      have HN := zaa.mk (show p6 < w2.heap.size ∧ w2.heap.size ≤ w3.heap.size ∧ w3.heap.size ≤ w4.heap.size ∧ w4.heap.size ≤ w5.heap.size ∧ w5.heap.size ≤ w6.heap.size ∧ w6.heap.size ≤ wr.heap.size ∧ pb = wr.heap.size ∧ w.heap.size ≤ p6 ∧ w.heap.size ≤ w2.heap.size from ⟨zau HK6.out, HB3.out.size, HAw4.out.size, HB5.out.size, HAw6.out.size, HBl.out.size, Hpb.out, HP6.out, HB2.out.size⟩)
      have HKb := zaa.mk (show ((w8.setCell ⟨p6, 0, none⟩ (.int .u8 (binC s'))).setCell ⟨p6, 1, none⟩ (.slice (some ⟨pb, 0, none⟩) 2 2)).heap[pb]? = some (.cells #[.int .u8 sa, .slice Aa na ca, .int .u8 sb, .slice Ab nb cb2] 38 (0, 0)) from (Below.heap_setCell _ ⟨p6, 1, none⟩ _ pb (by have := HN.out; show pb ≠ p6; omega)).trans ((Below.heap_setCell w8 ⟨p6, 0, none⟩ _ pb (by have := HN.out; show pb ≠ p6; omega)).trans HKpb.out))
      have HTa2 := zaa.mk (show TmF ((w8.setCell ⟨p6, 0, none⟩ (.int .u8 (binC s'))).setCell ⟨p6, 1, none⟩ (.slice (some ⟨pb, 0, none⟩) 2 2)) (fun k => w2.heap.size ≤ k) (toS (tidyR t1 n true)) sa (.slice Aa na ca) from (((((HTa.out.below HAw4.out).below HB46.out).below HBl.out).below HAw8.out).far (p := ⟨p6, 0, none⟩) (fun k hk => by have := HN.out; show k ≠ p6; omega) _).far (p := ⟨p6, 1, none⟩) (fun k hk => by have := HN.out; show k ≠ p6; omega) _)
      have HTb2 := zaa.mk (show TmF ((w8.setCell ⟨p6, 0, none⟩ (.int .u8 (binC s'))).setCell ⟨p6, 1, none⟩ (.slice (some ⟨pb, 0, none⟩) 2 2)) (fun k => w4.heap.size ≤ k) (toS (tidyR t2 n true)) sb (.slice Ab nb cb2) from ((((HTb.out.below HAw6.out).below HBl.out).below HAw8.out).far (p := ⟨p6, 0, none⟩) (fun k hk => by have := HN.out; show k ≠ p6; omega) _).far (p := ⟨p6, 1, none⟩) (fun k hk => by have := HN.out; show k ≠ p6; omega) _)
      generalize (w8.setCell ⟨p6, 0, none⟩ (.int .u8 (binC s'))).setCell ⟨p6, 1, none⟩ (.slice (some ⟨pb, 0, none⟩) 2 2) = wz at *
      (try simp only [Exit.inBlock, Exit.then])
      refine bodyPost_ret (results_cell_row rfl _ _ p6 38 _ (0, 0) _ rfl x0 Try.underlying38 rfl (by kernel_rfl)) rfl ?_
      have hde := HDef.out
      rw [← HRt'.out] at hde
      rw [if_neg (by simp)] at hde
      rw [hde]
      exact ⟨binC s', _, 2, 2, rfl, HBs.out, TmF.two HKb.out (by have := HN.out; show w.heap.size ≤ pb; omega) (HTa2.out.mono (fun k hk => by have := HN.out; show w.heap.size ≤ k; omega)) (HTb2.out.mono (fun k hk => by have := HN.out; show w.heap.size ≤ k; omega))⟩
  | false =>
   go_upto_region 15 with (fail)
   go_loopg [7, 10, 11] n (fun kq v7 v10 v11 w' => ∃ (i : Nat) (s' sw : Bool), v7 = .int .u8 (binC s') ∧ v10 = .bool sw ∧ v11 = .int .i64 (i : Int) ∧ zaa (i + kq = n) ∧ zaa (rotN (n - i) (s', sw) = rotN n (b, false && b)) ∧ zaa (Below w6.heap.size w6 w'))
   case atStart => exact ⟨0, b, false && b, by rw [HCb.out], rfl, rfl, ⟨by omega⟩, ⟨rfl⟩, ⟨Below.refl _ _⟩⟩
   case round =>
    obtain ⟨i, s', sw, rfl, rfl, rfl, HI, HRt, HBl⟩ := hrel
    by_cases hin : i < n
    ·have hlt : (i : Int) < (n : Int) := by omega
     cases s' with
     | true =>
      have d : (binC true == 124) = true := rfl
      go_wp2
      go_roundg (n - (i + 1))
      case measure => have := HI.out; omega
      case rel => exact ⟨i + 1, false, sw, rfl, rfl, by first | rfl | (congr 1; omega), ⟨by have := HI.out; omega⟩, ⟨by have h := HRt.out; rw [show n - i = (n - (i + 1)) + 1 by omega] at h; exact h⟩, ⟨HBl.out⟩⟩
     | false =>
      have d : (binC false == 124) = false := rfl
      go_wp2
      go_roundg (n - (i + 1))
      case measure => have := HI.out; omega
      case rel => exact ⟨i + 1, true, !sw, rfl, rfl, by first | rfl | (congr 1; omega), ⟨by have := HI.out; omega⟩, ⟨by have h := HRt.out; rw [show n - i = (n - (i + 1)) + 1 by omega] at h; exact h⟩, ⟨HBl.out⟩⟩
    ·have hge : ¬ (i : Int) < (n : Int) := by omega
     have HRt' := zaa.mk (show (s', sw) = rotN n (b, false && b) by have h := HRt.out; rw [show n - i = 0 by omega] at h; exact h)
     have hk6 := (HBl.out.block p6 (zau HK66.out)).trans HK66.out
     have hk8 := (HBl.out.block p8 (zau HK86.out)).trans HK86.out
     have hk9 := (HBl.out.block p9 (zau HKp9.out)).trans HKp9.out
     have HK67 := zaa.mk hk6
     have x60 : wr.cell? ⟨p6, 0, none⟩ = some (.int .u8 0) := (zag hk6 0).trans rfl
     have f60 := zaj hk6 0
     have x61 : wr.cell? ⟨p6, 1, none⟩ = some (.slice none 0 0) := (zag hk6 1).trans rfl
     have f61 := zaj hk6 1
     have x80 : wr.cell? ⟨p8, 0, none⟩ = some (.int .u8 sa) := (zag hk8 0).trans rfl
     have x81 : wr.cell? ⟨p8, 1, none⟩ = some (.slice Aa na ca) := (zag hk8 1).trans rfl
     have x90 : wr.cell? ⟨p9, 0, none⟩ = some (.int .u8 sb) := (zag hk9 0).trans rfl
     have x91 : wr.cell? ⟨p9, 1, none⟩ = some (.slice Ab nb cb2) := (zag hk9 1).trans rfl
     clear hk6 hk8 hk9
     cases sw with
     | true =>
      go_wp2_with (first
       | ((with_reducible refine zbe (N := 82) rfl ?_); refine zbx ?hg (N := 82) ?hd (n := 2) (cs := #[.int .u8 sb, .slice Ab nb cb2, .int .u8 sa, .slice Aa na ca]) (t := 38) ?hr ?_; (case hd => rfl); (case hg => rfl); (case hr => first | (go_simp; done) | (go_simp; rfl)); intro pb hpb w8 hk hb; have Hpb := zaa.mk hpb; have HAw8 := zaa.mk hb; have HKpb := zaa.mk hk; have hk6 := (hb.block p6 (zau HK67.out)).trans HK67.out; have HK68 := zaa.mk hk6; clear x60 x61 f60 f61 hb hk hpb; have x60 : w8.cell? ⟨p6, 0, none⟩ = some (.int .u8 0) := (zag hk6 0).trans rfl; have x61 : w8.cell? ⟨p6, 1, none⟩ = some (.slice none 0 0) := (zag hk6 1).trans rfl; have f60 := zaj hk6 0; have f61 := zaj hk6 1; clear hk6))
      have x0 := zbj HK68.out (.int .u8 (binC s')) (.slice (some ⟨pb, 0, none⟩) 2 2)
      have HBs := zaa.mk (show Below w.heap.size w ((w8.setCell ⟨p6, 0, none⟩ (.int .u8 (binC s'))).setCell ⟨p6, 1, none⟩ (.slice (some ⟨pb, 0, none⟩) 2 2)) from zaf (zaf (zae (zae HB6.out HBl.out) HAw8.out) (by have := HP6.out; omega)) (by have := HP6.out; omega))
      have HN := zaa.mk (show p6 < w2.heap.size ∧ w2.heap.size ≤ w3.heap.size ∧ w3.heap.size ≤ w4.heap.size ∧ w4.heap.size ≤ w5.heap.size ∧ w5.heap.size ≤ w6.heap.size ∧ w6.heap.size ≤ wr.heap.size ∧ pb = wr.heap.size ∧ w.heap.size ≤ p6 ∧ w.heap.size ≤ w2.heap.size from ⟨zau HK6.out, HB3.out.size, HAw4.out.size, HB5.out.size, HAw6.out.size, HBl.out.size, Hpb.out, HP6.out, HB2.out.size⟩)
      have HKb := zaa.mk (show ((w8.setCell ⟨p6, 0, none⟩ (.int .u8 (binC s'))).setCell ⟨p6, 1, none⟩ (.slice (some ⟨pb, 0, none⟩) 2 2)).heap[pb]? = some (.cells #[.int .u8 sb, .slice Ab nb cb2, .int .u8 sa, .slice Aa na ca] 38 (0, 0)) from (Below.heap_setCell _ ⟨p6, 1, none⟩ _ pb (by have := HN.out; show pb ≠ p6; omega)).trans ((Below.heap_setCell w8 ⟨p6, 0, none⟩ _ pb (by have := HN.out; show pb ≠ p6; omega)).trans HKpb.out))
      have HTa2 := zaa.mk (show TmF ((w8.setCell ⟨p6, 0, none⟩ (.int .u8 (binC s'))).setCell ⟨p6, 1, none⟩ (.slice (some ⟨pb, 0, none⟩) 2 2)) (fun k => w2.heap.size ≤ k) (toS (tidyR t1 n false)) sa (.slice Aa na ca) from (((((HTa.out.below HAw4.out).below HB46.out).below HBl.out).below HAw8.out).far (p := ⟨p6, 0, none⟩) (fun k hk => by have := HN.out; show k ≠ p6; omega) _).far (p := ⟨p6, 1, none⟩) (fun k hk => by have := HN.out; show k ≠ p6; omega) _)
      have HTb2 := zaa.mk (show TmF ((w8.setCell ⟨p6, 0, none⟩ (.int .u8 (binC s'))).setCell ⟨p6, 1, none⟩ (.slice (some ⟨pb, 0, none⟩) 2 2)) (fun k => w4.heap.size ≤ k) (toS (tidyR t2 n false)) sb (.slice Ab nb cb2) from ((((HTb.out.below HAw6.out).below HBl.out).below HAw8.out).far (p := ⟨p6, 0, none⟩) (fun k hk => by have := HN.out; show k ≠ p6; omega) _).far (p := ⟨p6, 1, none⟩) (fun k hk => by have := HN.out; show k ≠ p6; omega) _)
      generalize (w8.setCell ⟨p6, 0, none⟩ (.int .u8 (binC s'))).setCell ⟨p6, 1, none⟩ (.slice (some ⟨pb, 0, none⟩) 2 2) = wz at *
      (try simp only [Exit.inBlock, Exit.then])
      refine bodyPost_ret (results_cell_row rfl _ _ p6 38 _ (0, 0) _ rfl x0 Try.underlying38 rfl (by kernel_rfl)) rfl ?_
      have hde := HDef.out
      rw [← HRt'.out] at hde
      rw [if_pos rfl] at hde
      rw [hde]
      exact ⟨binC s', _, 2, 2, rfl, HBs.out, TmF.two HKb.out (by have := HN.out; show w.heap.size ≤ pb; omega) (HTb2.out.mono (fun k hk => by have := HN.out; show w.heap.size ≤ k; omega)) (HTa2.out.mono (fun k hk => by have := HN.out; show w.heap.size ≤ k; omega))⟩
     | false =>
      go_wp2_with (first
       | ((with_reducible refine zbe (N := 87) rfl ?_); refine zbx ?hg (N := 87) ?hd (n := 2) (cs := #[.int .u8 sa, .slice Aa na ca, .int .u8 sb, .slice Ab nb cb2]) (t := 38) ?hr ?_; (case hd => rfl); (case hg => rfl); (case hr => first | (go_simp; done) | (go_simp; rfl)); intro pb hpb w8 hk hb; have Hpb := zaa.mk hpb; have HAw8 := zaa.mk hb; have HKpb := zaa.mk hk; have hk6 := (hb.block p6 (zau HK67.out)).trans HK67.out; have HK68 := zaa.mk hk6; clear x60 x61 f60 f61 hb hk hpb; have x60 : w8.cell? ⟨p6, 0, none⟩ = some (.int .u8 0) := (zag hk6 0).trans rfl; have x61 : w8.cell? ⟨p6, 1, none⟩ = some (.slice none 0 0) := (zag hk6 1).trans rfl; have f60 := zaj hk6 0; have f61 := zaj hk6 1; clear hk6))
      have x0 := zbj HK68.out (.int .u8 (binC s')) (.slice (some ⟨pb, 0, none⟩) 2 2)
      have HBs := zaa.mk (show Below w.heap.size w ((w8.setCell ⟨p6, 0, none⟩ (.int .u8 (binC s'))).setCell ⟨p6, 1, none⟩ (.slice (some ⟨pb, 0, none⟩) 2 2)) from zaf (zaf (zae (zae HB6.out HBl.out) HAw8.out) (by have := HP6.out; omega)) (by have := HP6.out; omega))
      have HN := zaa.mk (show p6 < w2.heap.size ∧ w2.heap.size ≤ w3.heap.size ∧ w3.heap.size ≤ w4.heap.size ∧ w4.heap.size ≤ w5.heap.size ∧ w5.heap.size ≤ w6.heap.size ∧ w6.heap.size ≤ wr.heap.size ∧ pb = wr.heap.size ∧ w.heap.size ≤ p6 ∧ w.heap.size ≤ w2.heap.size from ⟨zau HK6.out, HB3.out.size, HAw4.out.size, HB5.out.size, HAw6.out.size, HBl.out.size, Hpb.out, HP6.out, HB2.out.size⟩)
      have HKb := zaa.mk (show ((w8.setCell ⟨p6, 0, none⟩ (.int .u8 (binC s'))).setCell ⟨p6, 1, none⟩ (.slice (some ⟨pb, 0, none⟩) 2 2)).heap[pb]? = some (.cells #[.int .u8 sa, .slice Aa na ca, .int .u8 sb, .slice Ab nb cb2] 38 (0, 0)) from (Below.heap_setCell _ ⟨p6, 1, none⟩ _ pb (by have := HN.out; show pb ≠ p6; omega)).trans ((Below.heap_setCell w8 ⟨p6, 0, none⟩ _ pb (by have := HN.out; show pb ≠ p6; omega)).trans HKpb.out))
      have HTa2 := zaa.mk (show TmF ((w8.setCell ⟨p6, 0, none⟩ (.int .u8 (binC s'))).setCell ⟨p6, 1, none⟩ (.slice (some ⟨pb, 0, none⟩) 2 2)) (fun k => w2.heap.size ≤ k) (toS (tidyR t1 n false)) sa (.slice Aa na ca) from (((((HTa.out.below HAw4.out).below HB46.out).below HBl.out).below HAw8.out).far (p := ⟨p6, 0, none⟩) (fun k hk => by have := HN.out; show k ≠ p6; omega) _).far (p := ⟨p6, 1, none⟩) (fun k hk => by have := HN.out; show k ≠ p6; omega) _)
      have HTb2 := zaa.mk (show TmF ((w8.setCell ⟨p6, 0, none⟩ (.int .u8 (binC s'))).setCell ⟨p6, 1, none⟩ (.slice (some ⟨pb, 0, none⟩) 2 2)) (fun k => w4.heap.size ≤ k) (toS (tidyR t2 n false)) sb (.slice Ab nb cb2) from ((((HTb.out.below HAw6.out).below HBl.out).below HAw8.out).far (p := ⟨p6, 0, none⟩) (fun k hk => by have := HN.out; show k ≠ p6; omega) _).far (p := ⟨p6, 1, none⟩) (fun k hk => by have := HN.out; show k ≠ p6; omega) _)
      generalize (w8.setCell ⟨p6, 0, none⟩ (.int .u8 (binC s'))).setCell ⟨p6, 1, none⟩ (.slice (some ⟨pb, 0, none⟩) 2 2) = wz at *
      (try simp only [Exit.inBlock, Exit.then])
      refine bodyPost_ret (results_cell_row rfl _ _ p6 38 _ (0, 0) _ rfl x0 Try.underlying38 rfl (by kernel_rfl)) rfl ?_
      have hde := HDef.out
      rw [← HRt'.out] at hde
      rw [if_neg (by simp)] at hde
      rw [hde]
      exact ⟨binC s', _, 2, 2, rfl, HBs.out, TmF.two HKb.out (by have := HN.out; show w.heap.size ≤ pb; omega) (HTa2.out.mono (fun k hk => by have := HN.out; show w.heap.size ≤ k; omega)) (HTb2.out.mono (fun k hk => by have := HN.out; show w.heap.size ≤ k; omega))⟩
def zbg (l : List Int) (n : Nat) : List Int := l.map fun x => x + (n : Int)
def zbc : Tr → List Int
 | .o => [0]
 | .un _ t => zbc t
 | .bin true a b => zbc a ++ zbg (zbc b) (zbc a).length
 | .bin false a b => zbg (zbc b) (zbc a).length ++ zbc a
theorem zbd (l : List Int) (n : Nat) : (zbg l n).length = l.length := by simp [zbg]
theorem zbf : ∀ t : Tr, (zbc t).length ≤ t.nodes ∧ 1 ≤ (zbc t).length
 | .o => ⟨Nat.le_refl _, Nat.le_refl _⟩
 | .un _ t => by have := zbf t; simp only [zbc, Tr.nodes]; omega
 | .bin true a b => by have := zbf a; have := zbf b; simp only [zbc, Tr.nodes, List.length_append, zbd]; omega
 | .bin false a b => by have := zbf a; have := zbf b; simp only [zbc, Tr.nodes, List.length_append, zbd]; omega
theorem moreL_range {l : List Int} {n m : Nat} (h : ∀ x ∈ l, 0 ≤ x ∧ x < (m : Int)) : ∀ x ∈ zbg l n, (n : Int) ≤ x ∧ x < ((n + m : Nat) : Int) := by
 intro x hx
 obtain ⟨y, hy, rfl⟩ := List.mem_map.1 hx
 have := h y hy
 omega
theorem zbs : ∀ (t : Tr), ∀ x ∈ zbc t, 0 ≤ x ∧ x < ((zbc t).length : Int)
 | .o, x, hx => by simp only [zbc, List.mem_singleton] at hx; subst hx; simp [zbc]
 | .un _ t, x, hx => zbs t x hx
 | .bin true a b, x, hx => by
  simp only [zbc, List.length_append, zbd] at hx ⊢
  rcases List.mem_append.1 hx with h | h
  ·have := zbs a x h; omega
  ·have := moreL_range (zbs b) x h; omega
 | .bin false a b, x, hx => by
  simp only [zbc, List.length_append, zbd] at hx ⊢
  rcases List.mem_append.1 hx with h | h
  ·have := moreL_range (zbs b) x h; omega
  ·have := zbs a x h; omega
theorem moreT_l0 (l : List Int) (n : Nat) (hl : l.length ≤ 100000) (hn : n ≤ 100000) (hx : ∀ x ∈ l, 0 ≤ x ∧ x ≤ 100000) : ∀ m i, i + m = l.length → Evs (fun k => spec_l6More.l0 k l (n : Int) (zbg (l.take i) n) (i : Int)) (zbg l n) := by
 intro m
 induction m with
 | zero =>
  intro i hi
  rw [List.take_of_length_le (by omega)]
  refine Evs.step (h := fun _ => some (zbg l n)) (fun k => ?_) (Evs.const _)
  conv => lhs; unfold spec_l6More.l0
  rw [if_neg (by omega)]
 | succ m ih =>
  intro i hi
  have hget : l[i]? = some l[i] := List.getElem?_eq_getElem (by omega)
  have hr := hx l[i] (List.getElem_mem (by omega))
  have hnx := ih (i + 1) (by omega)
  have e : zbg (l.take (i + 1)) n = zbg (l.take i) n ++ [l[i] + (n : Int)] := by
   unfold zbg
   rw [List.take_add_one, hget, List.map_append]
   rfl
  rw [e] at hnx
  have e1 : rd l (i : Int) = l[i] := by unfold rd; rw [Int.toNat_natCast, List.getD_eq_getElem?_getD, hget]; rfl
  have e2 : wrap64 ((i : Int) + 1) = ((i + 1 : Nat) : Int) := by rw [wrapT (by omega) (by omega)]; omega
  have e3 : wrap64 (l[i] + (n : Int)) = l[i] + (n : Int) := wrapT (by omega) (by omega)
  have hlen : (zbg (l.take i) n).length ≤ 100000 := by rw [zbd, List.length_take]; omega
  refine Evs.step (h := fun k => spec_l6More.l0 k l (n : Int) (zbg (l.take i) n ++ [l[i] + (n : Int)]) ((i + 1 : Nat) : Int)) (fun k => ?_) hnx
  conv => lhs; unfold spec_l6More.l0
  rw [if_pos (by omega), if_pos (by omega), if_pos (by omega), e1, e2, e3]
theorem l6More_ev (l : List Int) (n : Nat) (hl : l.length ≤ 100000) (hn : n ≤ 100000) (hx : ∀ x ∈ l, 0 ≤ x ∧ x ≤ 100000) : Evs (fun k => spec_l6More.f k l (n : Int)) (zbg l n) := moreT_l0 l n hl hn hx l.length 0 (by omega)
theorem l11Perm_ev : ∀ t : Tr, t.tidy = true → t.nodes ≤ 10000 → Evs (fun k => spec_l11Perm.f k (toS t).f0 (toS t).f1) (zbc t)
 | .o, _, _ => by
  refine Evs.step (h := fun _ => some [0]) (fun k => ?_) (Evs.const _)
  conv => lhs; unfold spec_l11Perm.f
  exact if_pos rfl
 | .un _ t, h, _ => by cases h
 | .bin s a b, h, hn => by
  simp only [Tr.tidy, Bool.and_eq_true] at h
  simp only [Tr.nodes] at hn
  have ea := l11Perm_ev a h.1 (by omega)
  have eb := l11Perm_ev b h.2 (by omega)
  have la := zbf a
  have lb := zbf b
  have em := l6More_ev (zbc b) (zbc a).length (by omega) (by omega) (fun x hx => by have := zbs b x hx; omega)
  have hml := zbd (zbc b) (zbc a).length
  refine Evs.stepNeg (fun k => by conv => lhs; unfold spec_l11Perm.f) (by show ¬ binC s = 111; cases s <;> decide) ?_
  refine Evs.pos (by show (0 : Int) < ((2 : Nat) : Int); omega) (Evs.bind ea (Evs.pos (by show (1 : Int) < ((2 : Nat) : Int); omega) (Evs.bind eb ?_)))
  cases s with
  | true =>
   refine Evs.pos (by rfl) (Evs.bindS rfl (Evs.pos (by simp; omega) (Evs.bindS rfl (Evs.bind em (Evs.pos (by simp; omega) ?_)))))
   exact Evs.const _
  | false =>
   refine Evs.neg (by show ¬ binC false = 124; decide) (Evs.bind em (Evs.pos (by omega) ?_))
   exact Evs.const _
theorem rdR_nodes : ∀ (f : Nat) (s : ByteArray) (i : Nat) (t : Tr) (e : Nat), rdR f s i = some (t, e) → i + t.nodes ≤ e
 | 0, s, i, t, e, h => by cases h
 | f + 1, s, i, t, e, h => by
  unfold rdR at h
  split at h
  ·cases h
  ·split at h
   ·injection h with h; injection h with h1 h2; subst h1; simp only [Tr.nodes]; omega
   ·split at h
    ·split at h
     ·cases h
     ·rename_i t' e' hr
      injection h with h; injection h with h1 h2
      have := rdR_nodes f s _ _ _ hr
      subst h1
      simp only [Tr.nodes]
      omega
    ·split at h
     ·cases h
     ·split at h
      ·cases h
      ·rename_i a m hr
       have h3 := rdR_nodes f s _ _ _ hr
       split at h
       ·cases h
       ·split at h
        ·cases h
        ·rename_i b e' hr2
         have h4 := rdR_nodes f s _ _ _ hr2
         split at h
         ·cases h
         ·injection h with h; injection h with h1 h2; subst h1; simp only [Tr.nodes]; omega
theorem ofR_nodes {s : ByteArray} {t : Tr} (h : ofR s = some t) : t.nodes ≤ 60 := by
 unfold ofR at h
 split at h
 ·cases h
 ·rename_i hn
  split at h
  ·cases h
  ·rename_i t' e' hr
   split at h
   ·rename_i he
    injection h with h
    subst h
    have := rdR_nodes _ _ _ _ _ hr
    omega
   ·cases h
def zaz (s : ByteArray) : List Int × Bool := match ofR s with
 | none => ([], false)
 | some t => (zbc (tid t), true)
def spec_TermPerm.f (s : ByteArray) : Option (List Int × Bool) := if s.size ≤ 1048576 then some (zaz s) else none
def PermRes (w : World) (r : List Int × Bool) (e : Ending) (w' : World) : Prop :=
 ∃ v0_ : Value, e = .returned (.tuple #[v0_, .bool r.2]) ∧ Kd.R (Kd.int .i64) 3 w' w.heap.size (fun _ => True) v0_ r.1 ∧ Below w.heap.size w w'
set_option maxHeartbeats 400000 in
set_option maxRecDepth 100000 in
theorem specPerm_calls (s : ByteArray) (hs : s.size ≤ 1048576) (w : World) : Calls Try.prog 7 #[.string s] w (PermRes w (zaz s)) := by
 have HOf := zaa.mk (fun w => l11Of_calls s hs w)
 cases hof : ofR s with
 | none =>
  have HR := zaa.mk (show zaz s = ([], false) by unfold zaz; rw [hof])
  rw [hof] at HOf
  clear hof
  go_enter Try.func7, Try.ntmps7
  go_upto_region 3 with (first
   | (go_at_call 19; refine (HOf.out _).mono ?_; rintro e w2 ⟨sg, A, n, c, b, rfl, hb, hres⟩; replace hres : b = false := hres; subst hres; have HB2 := zaa.mk hb; clear hb))
  have hb := zac (Below.refl w2.heap.size w2) (.cells #[.int .u8 sg, .slice A n c] 38)
  generalize w2.alloc (.cells #[.int .u8 sg, .slice A n c] 38) = w3 at *
  have HB3 := zaa.mk (zae HB2.out hb)
  clear hb
  go_wp2_with (first
   | ((with_reducible refine zbe (N := 13) rfl ?_); refine Kd.R_lit (Kd.int .i64) _ 3 ?hg (N := 13) ?hd (xs := ([] : List Int)) (inner := []) (ok := fun _ => True) (okp := fun _ => True) ?hr ?hp (fun _ hk => hk) trivial (Below.refl _ _) (Nat.le_refl _) (by simp) ?_; (case hd => rfl); (case hg => rfl); (case hr => first | (go_simp; done) | (go_simp; rfl)); (case hp => exact (Reps.none _ _)); intro v7 w4 ho4 hb4 hg_ hnew_; clear hg_ hnew_; have HO4 := zaa.mk (Kd.R_lower ho4 HB3.out.size); have HB4 := zaa.mk (zae HB3.out hb4); clear hb4 ho4))
  go_ret2
  rw [HR.out]
  exact ⟨_, rfl, HO4.out, HB4.out⟩
 | some t =>
  have HR := zaa.mk (show zaz s = (zbc (tid t), true) by unfold zaz; rw [hof])
  obtain ⟨K, hK⟩ := l11Perm_ev (tid t) (zby t) (by have := ofR_nodes hof; have := tid_nodes t; omega)
  have HPe := zaa.mk (hK K (Nat.le_refl K))
  rw [hof] at HOf
  have hz := tidyR_zero t
  clear hof hK
  go_enter Try.func7, Try.ntmps7
  go_upto_region 4 with (first
   | (go_at_call 19; refine (HOf.out _).mono ?_; rintro e w2 ⟨sg, A, n, c, b, rfl, hb, hres⟩; replace hres : b = true ∧ TmF w2 (fun k => w.heap.size ≤ k) (toS t) sg (.slice A n c) := hres; obtain ⟨rfl, hT⟩ := hres; have HB2 := zaa.mk hb; have HT := zaa.mk hT; clear hb hT))
  have hb := zac (Below.refl w2.heap.size w2) (.cells #[.int .u8 sg, .slice A n c] 38)
  have hk := heap_alloc_new w2 (.cells #[.int .u8 sg, .slice A n c] 38)
  generalize w2.alloc (.cells #[.int .u8 sg, .slice A n c] 38) = w3 at *
  obtain ⟨p4, hp4⟩ : ∃ p4, p4 = w2.heap.size := ⟨_, rfl⟩
  rw [← hp4] at hk ⊢
  have x0 : w3.cell? ⟨p4, 0, none⟩ = some (.int .u8 sg) := (zag hk 0).trans rfl
  have x1 : w3.cell? ⟨p4, 1, none⟩ = some (.slice A n c) := (zag hk 1).trans rfl
  have HB3 := zaa.mk (zae HB2.out hb)
  have HT3 := zaa.mk (HT.out.below hb)
  have HTi := zaa.mk (l11Tidy_calls t 0 false w3 sg (.slice A n c) 0 rfl (by omega) HT3.out.now)
  rw [hz] at HTi
  clear hb hk hp4 hz
  go_wp2_with (first
   | (go_at_call 21; refine HTi.out.mono ?_; rintro e w5 ⟨sr, Ar, nr, cr, rfl, hb, hT⟩; obtain ⟨hsr, A', c', hv, hlc, hC⟩ := hT.now; injection hv with hv1 hv2 hv3; subst hv1 hv2 hv3 hsr; have HB5 := zaa.mk (zae HB3.out hb); have HC5 := zaa.mk hC; have HL5 := zaa.mk hlc; clear hb hT hC hlc)
   | (go_at_call 20; refine (spec_l11Perm.calls K _ _ _ _ _ _ HC5.out HL5.out HPe.out).mono ?_; rintro e w6 ⟨v6, rfl, hr, hb⟩; have HR6 := zaa.mk (Kd.R_lower hr HB5.out.size); have HB6 := zaa.mk (zae HB5.out hb); clear hb hr))
  go_ret2
  rw [HR.out]
  exact ⟨_, rfl, HR6.out, HB6.out⟩
theorem spec_TermPerm.calls (a0 : ByteArray) (r1 : List Int) (r2 : Bool) (w : World) (h : spec_TermPerm.f a0 = some (r1, r2)) :
  Calls Try.prog 7 #[.string a0] w fun e w' => ∃ v0_ : Value, e = .returned (.tuple #[v0_, .bool r2]) ∧ Kd.R (Kd.int .i64) 3 w' w.heap.size (fun _ => True) v0_ r1 ∧ Below w.heap.size w w' := by
 unfold spec_TermPerm.f at h
 split at h
 ·rename_i hs
  have e := Option.some.inj h
  have := specPerm_calls a0 hs w
  rw [e] at this
  exact this
 ·cases h
def restB (s : ByteArray) (i : Nat) : ByteArray := s.extract i s.size
theorem restB_size (s : ByteArray) {i : Nat} (h : i ≤ s.size) : (restB s i).size = s.size - i := by unfold restB; rw [ByteArray.size_extract]; omega
theorem restB_next (s : ByteArray) {i : Nat} (h : i < s.size) : (restB s i).extract 1 (restB s i).size = restB s (i + 1) := by
 rw [restB_size s (by omega)]
 unfold restB
 rw [ByteArray.extract_extract]
 congr 1
 omega
theorem restB_zero (s : ByteArray) : restB s 0 = s := by unfold restB; exact ByteArray.extract_zero_size
theorem restB_bt (s : ByteArray) {i : Nat} (h : i < s.size) : bt (restB s i) 0 = bt s (i : Int) := by
 have h1 : (0 : Nat) < (restB s i).size := by rw [restB_size s (by omega)]; omega
 rw [← bt_nat s i h]
 have := bt_nat (restB s i) 0 h1
 rw [show ((0 : Nat) : Int) = 0 from rfl] at this
 rw [← this]
 have e : (restB s i)[0]'h1 = s[i]'h := (ByteArray.getElem_extract (b := s) (start := i) (stop := s.size) (i := 0) h1).trans (by simp)
 rw [e]
theorem toList_nil {b : ByteArray} : b.toList = [] ↔ b.size = 0 := by
 rw [ByteArray.toList_eq]
 have : b.size = b.data.toList.length := rfl
 rw [this, List.length_eq_zero_iff]
def cAt (s : ByteArray) (i : Nat) : Int := if i < s.size then bt s (i : Int) else 0
def nxt (s : ByteArray) (i : Nat) : Nat := if i < s.size then i + 1 else i
theorem take_f (s : ByteArray) (i : Nat) (hi : i ≤ s.size) : impl_reader_take.f (restB s i) = some (cAt s i, restB s (nxt s i)) := by
 have hz := restB_size s hi
 unfold impl_reader_take.f cAt nxt
 by_cases h : i < s.size
 ·rw [if_neg (fun e => by have := toList_nil.1 e; omega), if_pos (by omega), if_pos (by omega), if_pos h, if_pos h, restB_bt s h, restB_next s h]
 ·rw [if_pos (toList_nil.2 (by omega)), if_neg h, if_neg h]
def PtAt (w : World) (ok : Nat → Prop) : Tr → Nat → Prop
 | .o, p => ok p ∧ w.heap[p]? = some (.cells #[.int .u8 111, .slice none 0 0] 64 (0, 0))
 | .un b t, p => ok p ∧ ∃ q k, w.heap[p]? = some (.cells #[.int .u8 (unC b), .slice (some ⟨q, 0, none⟩) 1 1] 64 (0, 0)) ∧ ok q ∧ w.heap[q]? = some (.cells #[.pointer (some ⟨k, 0, none⟩)] 43 (0, 0)) ∧ PtAt w ok t k
 | .bin b x y, p => ok p ∧ ∃ q k m, w.heap[p]? = some (.cells #[.int .u8 (binC b), .slice (some ⟨q, 0, none⟩) 2 2] 64 (0, 0)) ∧ ok q ∧ w.heap[q]? = some (.cells #[.pointer (some ⟨k, 0, none⟩), .pointer (some ⟨m, 0, none⟩)] 43 (0, 0)) ∧ PtAt w ok x k ∧ PtAt w ok y m
theorem PtAt.move {w w' : World} {ok ok' : Nat → Prop} (hm : ∀ k, ok k → k < w.heap.size → w'.heap[k]? = w.heap[k]?) (hk : ∀ k, ok k → ok' k) : ∀ (t : Tr) (p : Nat), PtAt w ok t p → PtAt w' ok' t p
 | .o, p, h => ⟨hk p h.1, (hm p h.1 (zau h.2)).trans h.2⟩
 | .un b t, p, h => by
  obtain ⟨h1, q, k, h2, h3, h4, h5⟩ := h
  exact ⟨hk p h1, q, k, (hm p h1 (zau h2)).trans h2, hk q h3, (hm q h3 (zau h4)).trans h4, PtAt.move hm hk t k h5⟩
 | .bin b x y, p, h => by
  obtain ⟨h1, q, k, m, h2, h3, h4, h5, h6⟩ := h
  exact ⟨hk p h1, q, k, m, (hm p h1 (zau h2)).trans h2, hk q h3, (hm q h3 (zau h4)).trans h4, PtAt.move hm hk x k h5, PtAt.move hm hk y m h6⟩
theorem PtAt.below {w w' : World} {ok : Nat → Prop} {t : Tr} {p : Nat} (h : PtAt w ok t p) (hb : Below w.heap.size w w') : PtAt w' ok t p := PtAt.move (fun k _ hk => hb.block k hk) (fun _ h => h) t p h
theorem PtAt.kept {w w' : World} {g : Nat} {t : Tr} {p : Nat} (h : PtAt w (fun k => k ≠ g) t p) (hk : zal w w' g none) : PtAt w' (fun k => k ≠ g) t p := PtAt.move (fun k ho hlt => hk.2 k hlt ho (by simp)) (fun _ h => h) t p h
def RdRes (w0 w : World) (g : Nat) (s : ByteArray) (i : Nat) (r : Option (Tr × Nat)) (e : Ending) (w' : World) : Prop :=
 ∃ (q : Option Addr) (j : Nat), e = .returned (.pointer q) ∧ i ≤ j ∧ j ≤ s.size ∧ zbp w0 w' g (restB s j) ∧ Below w0.heap.size w0 w' ∧ zal w w' g none ∧ match r with
  | none => q = none
  | some (t, e') => j = e' ∧ ∃ p, q = some ⟨p, 0, none⟩ ∧ PtAt w' (fun k => k ≠ g) t p
theorem take_at (s : ByteArray) (i : Nat) (hi : i ≤ s.size) (w0 w : World) (g : Nat) (hI : zbp w0 w g (restB s i)) (hB : Below w0.heap.size w0 w) :
  Calls Try.prog 49 #[.pointer (some ⟨g, 0, none⟩)] w fun e w' => e = .returned (.int .u8 (cAt s i)) ∧ zbp w0 w' g (restB s (nxt s i)) ∧ Below w0.heap.size w0 w' ∧ zal w w' g none :=
 impl_reader_take.calls g (restB s i) _ _ w0 w hI hB (take_f s i hi)
set_option maxHeartbeats 400000 in
set_option maxRecDepth 100000 in
theorem reader_calls (s : ByteArray) (w0 : World) (g : Nat) : ∀ (f i : Nat) (w : World), s.size < i + f → i ≤ s.size → zbp w0 w g (restB s i) → Below w0.heap.size w0 w →
  Calls Try.prog 38 #[.pointer (some ⟨g, 0, none⟩)] w (RdRes w0 w g s i (rdR f s i)) := by
 intro f
 induction f with
 | zero => intro i w h1 h2; omega
 | succ f ih =>
  intro i w h1 h2 hI hB
  have HIh := zaa.mk ih
  have HF := zaa.mk h1
  have HI := zaa.mk hI
  have HB := zaa.mk hB
  clear ih h1 hI hB
  by_cases hi : s.size ≤ i
  ·have hc : cAt s i = 0 := if_neg (by omega)
   have hn : nxt s i = i := if_neg (by omega)
   have HR := zaa.mk (show rdR (f + 1) s i = none by unfold rdR; rw [if_pos hi])
   have HTk := zaa.mk (take_at s i h2 w0 w g HI.out HB.out)
   rw [hc, hn] at HTk
   clear hc hn hi
   go_enter Try.func38, Try.ntmps38
   go_wp2_with (first
    | (go_at_call 49; refine HTk.out.mono ?_; rintro e w2 ⟨rfl, hI2, hB2, hK2⟩; have HI2 := zaa.mk hI2; have HB2 := zaa.mk hB2; have HK2 := zaa.mk hK2; clear hI2 hB2 hK2))
   go_ret
   rw [HR.out]
   exact ⟨none, i, rfl, Nat.le_refl _, h2, HI2.out, HB2.out, HK2.out, rfl⟩
  ·-- REST
   have hil : i < s.size := by omega
   obtain ⟨j, hj⟩ : ∃ j, j = i + 1 := ⟨_, rfl⟩
   have HJ := zaa.mk (show j = i + 1 ∧ i < s.size from ⟨hj, hil⟩)
   have hc : cAt s i = bt s (i : Int) := if_pos hil
   have hn : nxt s i = j := by rw [hj]; exact if_pos hil
   have HTk := zaa.mk (take_at s i h2 w0 w g HI.out HB.out)
   rw [hc, hn] at HTk
   have HUn := zaa.mk (show rdR (f + 1) s i = if bt s (i : Int) = 111 then some (.o, j) else
    if bt s (i : Int) = 62 ∨ bt s (i : Int) = 94 then match rdR f s j with
     | none => none
     | some (t, e) => some (.un (decide (bt s (i : Int) = 62)) t, e)
    else if bt s (i : Int) ≠ 40 then none else match rdR f s j with
     | none => none
     | some (a, m) => if s.size ≤ m ∨ (bt s (m : Int) ≠ 124 ∧ bt s (m : Int) ≠ 45) then none else match rdR f s (m + 1) with
      | none => none
      | some (b, e) => if s.size ≤ e ∨ bt s (e : Int) ≠ 41 then none else some (.bin (decide (bt s (m : Int) = 124)) a b, e + 1) by
    conv => lhs; unfold rdR
    rw [if_neg hi, hj]
    try rfl)
   clear hc hn hi hil hj HI HB
   generalize bt s (i : Int) = c at *
   rcases (show c = 111 ∨ c = 62 ∨ c = 94 ∨ c = 40 ∨ (c ≠ 111 ∧ c ≠ 62 ∧ c ≠ 94 ∧ c ≠ 40) by omega) with e3 | e3 | e3 | e3 | e3
   ·have d1 : (c == 111) = true := by rw [beq_iff_eq]; exact e3
    have HR0 := zaa.mk (show rdR (f + 1) s i = some (.o, j) by rw [HUn.out, if_pos e3])
    have HC := zaa.mk e3
    clear e3
    go_enter Try.func38, Try.ntmps38
    go_wp2_with (first
     | (go_at_call 49; refine HTk.out.mono ?_; rintro e w2 ⟨rfl, hI_, hB_, hK_⟩; have HI2 := zaa.mk hI_; have HB2 := zaa.mk hB_; have HK2 := zaa.mk hK_; clear hI_ hB_ hK_))
    have hb := zac (Below.refl w2.heap.size w2) (.cells #[.int .u8 111, .slice none 0 0] 64)
    have hk1 := heap_alloc_new w2 (.cells #[.int .u8 111, .slice none 0 0] 64)
    have hI5 := HI2.out.alloc (.cells #[.int .u8 111, .slice none 0 0] 64)
    have hgl : g < w2.heap.size := zau HI2.out.1
    have hc := HC.out
    first | subst hc | skip
    go_ret
    rw [HR0.out]
    exact ⟨_, j, rfl, by have := HJ.out; omega, by have := HJ.out; omega, hI5, zae HB2.out hb, HK2.out.trans (zal.of_below hb g none) (.inl rfl), rfl, _, rfl, by show w2.heap.size ≠ g; omega, hk1⟩
   ·have d1 : (c == 111) = false := by rw [beq_eq_false_iff_ne]; omega
    have d2 : (c == 62) = true := by rw [beq_iff_eq]; exact e3
    have hun := HUn.out
    rw [if_neg (by omega), if_pos (by omega)] at hun
    clear HUn
    have HUn := zaa.mk hun
    have HC := zaa.mk e3
    clear hun e3
    go_enter Try.func38, Try.ntmps38
    go_upto_region 8 with (first
     | (go_at_call 49; refine HTk.out.mono ?_; rintro e w2 ⟨rfl, hI_, hB_, hK_⟩; have HI2 := zaa.mk hI_; have HB2 := zaa.mk hB_; have HK2 := zaa.mk hK_; clear hI_ hB_ hK_)
     | (go_at_call 38; refine (HIh.out j _ (by have := HF.out; have := HJ.out; omega) (by have := HJ.out; omega) HI2.out HB2.out).mono ?_; rintro e w3 ⟨q3, j3, rfl, hle_, hls_, hI_, hB_, hK_, hres_⟩; have HL3 := zaa.mk (show j ≤ j3 ∧ j3 ≤ s.size from ⟨hle_, hls_⟩); have HI3 := zaa.mk hI_; have HB3 := zaa.mk hB_; have HK3 := zaa.mk hK_; have HR3 := zaa.mk hres_; clear hle_ hls_ hI_ hB_ hK_ hres_))
    have hres := HR3.out
    clear HR3
    cases hrd : rdR f s j with
    | none =>
     rw [hrd] at hres
     dsimp only at hres
     subst hres
     have HR0 := zaa.mk (show rdR (f + 1) s i = none by rw [HUn.out, hrd])
     clear hrd
     go_wp2
     go_ret
     rw [HR0.out]
     exact ⟨none, j3, rfl, by have := HJ.out; have := HL3.out; omega, by have := HJ.out; have := HL3.out; omega, HI3.out, HB3.out, HK2.out.trans HK3.out (.inl rfl), rfl⟩
    | some te =>
     obtain ⟨t, e⟩ := te
     rw [hrd] at hres
     dsimp only at hres
     obtain ⟨hj, p, rfl, hP⟩ := hres
     have hun := HUn.out
     rw [hrd] at hun
     dsimp only at hun
     have HR0 := zaa.mk hun
     have HP := zaa.mk hP
     have HJ3 := zaa.mk hj
     clear hrd hun hP hj
     go_wp2
     have hb := zac (zac (Below.refl w3.heap.size w3) (.cells #[.pointer (some ⟨p, 0, none⟩)] 43)) (.cells #[.int .u8 c, .slice (some ⟨w3.heap.size, 0, none⟩) 1 1] 64)
     have hk1 := heap_alloc2_old w3 (.cells #[.pointer (some ⟨p, 0, none⟩)] 43) (.cells #[.int .u8 c, .slice (some ⟨w3.heap.size, 0, none⟩) 1 1] 64)
     have hk2 := heap_alloc2_new w3 (.cells #[.pointer (some ⟨p, 0, none⟩)] 43) (.cells #[.int .u8 c, .slice (some ⟨w3.heap.size, 0, none⟩) 1 1] 64)
     have hI5 := (HI3.out.alloc (.cells #[.pointer (some ⟨p, 0, none⟩)] 43)).alloc (.cells #[.int .u8 c, .slice (some ⟨w3.heap.size, 0, none⟩) 1 1] 64)
     generalize (w3.alloc (.cells #[.pointer (some ⟨p, 0, none⟩)] 43)).alloc (.cells #[.int .u8 c, .slice (some ⟨w3.heap.size, 0, none⟩) 1 1] 64) = w5 at *
     have hgl : g < w3.heap.size := zau HI3.out.1
     have HP5 := zaa.mk (HP.out.below hb)
     go_ret
     rw [HR0.out]
     exact ⟨_, j3, rfl, by have := HJ.out; have := HL3.out; omega, HL3.out.2, hI5, zae HB3.out hb, (HK2.out.trans HK3.out (.inl rfl)).trans (zal.of_below hb g none) (.inl rfl), HJ3.out, _, rfl, by show w3.heap.size + 1 ≠ g; omega, w3.heap.size, p, by rw [hk2]; have := HC.out; subst this; rfl, by show w3.heap.size ≠ g; omega, hk1, HP5.out⟩
   ·have d1 : (c == 111) = false := by rw [beq_eq_false_iff_ne]; omega
    have d2 : (c == 62) = false := by rw [beq_eq_false_iff_ne]; omega
    have d3 : (c == 94) = true := by rw [beq_iff_eq]; exact e3
    have hun := HUn.out
    rw [if_neg (by omega), if_pos (by omega)] at hun
    clear HUn
    have HUn := zaa.mk hun
    have HC := zaa.mk e3
    clear hun e3
    go_enter Try.func38, Try.ntmps38
    go_upto_region 8 with (first
     | (go_at_call 49; refine HTk.out.mono ?_; rintro e w2 ⟨rfl, hI_, hB_, hK_⟩; have HI2 := zaa.mk hI_; have HB2 := zaa.mk hB_; have HK2 := zaa.mk hK_; clear hI_ hB_ hK_)
     | (go_at_call 38; refine (HIh.out j _ (by have := HF.out; have := HJ.out; omega) (by have := HJ.out; omega) HI2.out HB2.out).mono ?_; rintro e w3 ⟨q3, j3, rfl, hle_, hls_, hI_, hB_, hK_, hres_⟩; have HL3 := zaa.mk (show j ≤ j3 ∧ j3 ≤ s.size from ⟨hle_, hls_⟩); have HI3 := zaa.mk hI_; have HB3 := zaa.mk hB_; have HK3 := zaa.mk hK_; have HR3 := zaa.mk hres_; clear hle_ hls_ hI_ hB_ hK_ hres_))
    have hres := HR3.out
    clear HR3
    cases hrd : rdR f s j with
    | none =>
     rw [hrd] at hres
     dsimp only at hres
     subst hres
     have HR0 := zaa.mk (show rdR (f + 1) s i = none by rw [HUn.out, hrd])
     clear hrd
     go_wp2
     go_ret
     rw [HR0.out]
     exact ⟨none, j3, rfl, by have := HJ.out; have := HL3.out; omega, by have := HJ.out; have := HL3.out; omega, HI3.out, HB3.out, HK2.out.trans HK3.out (.inl rfl), rfl⟩
    | some te =>
     obtain ⟨t, e⟩ := te
     rw [hrd] at hres
     dsimp only at hres
     obtain ⟨hj, p, rfl, hP⟩ := hres
     have hun := HUn.out
     rw [hrd] at hun
     dsimp only at hun
     have HR0 := zaa.mk hun
     have HP := zaa.mk hP
     have HJ3 := zaa.mk hj
     clear hrd hun hP hj
     go_wp2
     have hb := zac (zac (Below.refl w3.heap.size w3) (.cells #[.pointer (some ⟨p, 0, none⟩)] 43)) (.cells #[.int .u8 c, .slice (some ⟨w3.heap.size, 0, none⟩) 1 1] 64)
     have hk1 := heap_alloc2_old w3 (.cells #[.pointer (some ⟨p, 0, none⟩)] 43) (.cells #[.int .u8 c, .slice (some ⟨w3.heap.size, 0, none⟩) 1 1] 64)
     have hk2 := heap_alloc2_new w3 (.cells #[.pointer (some ⟨p, 0, none⟩)] 43) (.cells #[.int .u8 c, .slice (some ⟨w3.heap.size, 0, none⟩) 1 1] 64)
     have hI5 := (HI3.out.alloc (.cells #[.pointer (some ⟨p, 0, none⟩)] 43)).alloc (.cells #[.int .u8 c, .slice (some ⟨w3.heap.size, 0, none⟩) 1 1] 64)
     generalize (w3.alloc (.cells #[.pointer (some ⟨p, 0, none⟩)] 43)).alloc (.cells #[.int .u8 c, .slice (some ⟨w3.heap.size, 0, none⟩) 1 1] 64) = w5 at *
     have hgl : g < w3.heap.size := zau HI3.out.1
     have HP5 := zaa.mk (HP.out.below hb)
     go_ret
     rw [HR0.out]
     exact ⟨_, j3, rfl, by have := HJ.out; have := HL3.out; omega, HL3.out.2, hI5, zae HB3.out hb, (HK2.out.trans HK3.out (.inl rfl)).trans (zal.of_below hb g none) (.inl rfl), HJ3.out, _, rfl, by show w3.heap.size + 1 ≠ g; omega, w3.heap.size, p, by rw [hk2]; have := HC.out; subst this; rfl, by show w3.heap.size ≠ g; omega, hk1, HP5.out⟩
   ·have d1 : (c == 111) = false := by rw [beq_eq_false_iff_ne]; omega
    have d2 : (c == 62) = false := by rw [beq_eq_false_iff_ne]; omega
    have d3 : (c == 94) = false := by rw [beq_eq_false_iff_ne]; omega
    have d4 : (c == 40) = true := by rw [beq_iff_eq]; exact e3
    have hun := HUn.out
    rw [if_neg (by omega), if_neg (by omega), if_neg (by omega)] at hun
    clear HUn
    have HUn := zaa.mk hun
    have HC := zaa.mk e3
    clear hun e3
    go_enter Try.func38, Try.ntmps38
    go_upto_region 14 with (first
     | (go_at_call 49; refine HTk.out.mono ?_; rintro e w2 ⟨rfl, hI_, hB_, hK_⟩; have HI2 := zaa.mk hI_; have HB2 := zaa.mk hB_; have HK2 := zaa.mk hK_; clear hI_ hB_ hK_)
     | (go_at_call 38; refine (HIh.out j _ (by have := HF.out; have := HJ.out; omega) (by have := HJ.out; omega) HI2.out HB2.out).mono ?_; rintro e w3 ⟨q3, j3, rfl, hle_, hls_, hI_, hB_, hK_, hres_⟩; have HL3 := zaa.mk (show j ≤ j3 ∧ j3 ≤ s.size from ⟨hle_, hls_⟩); have HI3 := zaa.mk hI_; have HB3 := zaa.mk hB_; have HK3 := zaa.mk hK_; have HR3 := zaa.mk hres_; clear hle_ hls_ hI_ hB_ hK_ hres_)
     | (have hnx_ := show j3 ≤ nxt s j3 ∧ nxt s j3 ≤ s.size from (by have := HL3.out; unfold nxt; split <;> omega); have HN4 := zaa.mk hnx_; clear hnx_; (go_at_call 49; refine (take_at s j3 HL3.out.2 w0 w3 g HI3.out HB3.out).mono ?_; rintro e w4 ⟨rfl, hI_, hB_, hK_⟩; have HI4 := zaa.mk hI_; have HB4 := zaa.mk hB_; have HK4 := zaa.mk hK_; clear hI_ hB_ hK_))
     | (go_at_call 38; refine (HIh.out (nxt s j3) _ (by have := HF.out; have := HJ.out; have := HL3.out; have := HN4.out; omega) HN4.out.2 HI4.out HB4.out).mono ?_; rintro e w5 ⟨q5, j5, rfl, hle_, hls_, hI_, hB_, hK_, hres_⟩; have HL5 := zaa.mk (show (nxt s j3) ≤ j5 ∧ j5 ≤ s.size from ⟨hle_, hls_⟩); have HI5 := zaa.mk hI_; have HB5 := zaa.mk hB_; have HK5 := zaa.mk hK_; have HR5 := zaa.mk hres_; clear hle_ hls_ hI_ hB_ hK_ hres_))
    have HK5' := zaa.mk ((HK2.out.trans HK3.out (.inl rfl)).trans (HK4.out.trans HK5.out (.inl rfl)) (.inl rfl))
    have hres := HR3.out
    have hres2 := HR5.out
    clear HR3 HR5
    cases hrd : rdR f s j with
    | none =>
     rw [hrd] at hres
     dsimp only at hres
     subst hres
     have HR0 := zaa.mk (show rdR (f + 1) s i = none by rw [HUn.out, hrd])
     clear hrd hres2
     go_wp2
     go_ret
     rw [HR0.out]
     exact ⟨none, j5, rfl, by have := HJ.out; have := HL3.out; have := HN4.out; have := HL5.out; omega, HL5.out.2, HI5.out, HB5.out, HK5'.out, rfl⟩
    | some am =>
     obtain ⟨a, md⟩ := am
     rw [hrd] at hres
     dsimp only at hres
     obtain ⟨hj, pa, rfl, hPa⟩ := hres
     subst hj
     have hun := HUn.out
     rw [hrd] at hun
     dsimp only at hun
     clear HUn hrd
     have HUn := zaa.mk hun
     have HPa := zaa.mk (PtAt.kept (PtAt.kept hPa HK4.out) HK5.out)
     clear hun hPa
     by_cases hbad : s.size ≤ j3 ∨ (bt s (j3 : Int) ≠ 124 ∧ bt s (j3 : Int) ≠ 45)
     ·have HR0 := zaa.mk (show rdR (f + 1) s i = none by rw [HUn.out, if_pos hbad])
      have d5 : (cAt s j3 == 124) = false := by rw [beq_eq_false_iff_ne]; unfold cAt; split <;> omega
      have d6 : (cAt s j3 == 45) = false := by rw [beq_eq_false_iff_ne]; unfold cAt; split <;> omega
      clear hbad
      generalize cAt s j3 = c4 at *
      rcases q5 with _ | q5
      ·go_wp2
       go_ret
       rw [HR0.out]
       exact ⟨none, j5, rfl, by have := HJ.out; have := HL3.out; have := HN4.out; have := HL5.out; omega, HL5.out.2, HI5.out, HB5.out, HK5'.out, rfl⟩
      ·go_wp2
       go_ret
       rw [HR0.out]
       exact ⟨none, j5, rfl, by have := HJ.out; have := HL3.out; have := HN4.out; have := HL5.out; omega, HL5.out.2, HI5.out, HB5.out, HK5'.out, rfl⟩
     ·have hun := HUn.out
      rw [if_neg hbad] at hun
      clear HUn
      have HUn := zaa.mk hun
      have hlt3 : j3 < s.size := by omega
      have hn3 : nxt s j3 = j3 + 1 := if_pos hlt3
      have hc3 : cAt s j3 = bt s (j3 : Int) := if_pos hlt3
      rw [hn3] at hres2
      rw [hc3]
      have hbs : bt s (j3 : Int) = 124 ∨ bt s (j3 : Int) = 45 := by omega
      clear hun hbad hc3
      generalize bt s (j3 : Int) = c4 at *
      have HBs := zaa.mk hbs
      cases hrd : rdR f s (j3 + 1) with
      | none =>
       rw [hrd] at hres2
       dsimp only at hres2
       subst hres2
       have HR0 := zaa.mk (show rdR (f + 1) s i = none by rw [HUn.out, hrd])
       clear hrd hbs hn3
       go_wp2
       go_ret
       rw [HR0.out]
       exact ⟨none, j5, rfl, by have := HJ.out; have := HL3.out; have := HN4.out; have := HL5.out; omega, HL5.out.2, HI5.out, HB5.out, HK5'.out, rfl⟩
      | some be =>
       obtain ⟨b, e⟩ := be
       rw [hrd] at hres2
       dsimp only at hres2
       obtain ⟨hj, pb, rfl, hPb⟩ := hres2
       subst hj
       have hun := HUn.out
       rw [hrd] at hun
       dsimp only at hun
       clear HUn hrd hn3
       have HUn := zaa.mk hun
       have HPb := zaa.mk hPb
       clear hun hPb
       have HTk6 := zaa.mk (take_at s j5 HL5.out.2 w0 w5 g HI5.out HB5.out)
       have HN6 := zaa.mk (show j5 ≤ nxt s j5 ∧ nxt s j5 ≤ s.size by have := HL5.out; unfold nxt; split <;> omega)
       rcases hbs with e8 | e8
       ·have d5 : (c4 == 124) = true := by rw [beq_iff_eq]; exact e8
        have HC4 := zaa.mk e8
        clear e8
        by_cases h41 : s.size ≤ j5 ∨ bt s (j5 : Int) ≠ 41
        ·have HR0 := zaa.mk (show rdR (f + 1) s i = none by rw [HUn.out, if_pos h41])
         have d7 : (cAt s j5 == 41) = false := by rw [beq_eq_false_iff_ne]; unfold cAt; split <;> omega
         clear h41
         generalize cAt s j5 = c6 at *
         go_wp2_with (first
          | (go_at_call 49; refine HTk6.out.mono ?_; rintro e w6 ⟨rfl, hI_, hB_, hK_⟩; have HI6 := zaa.mk hI_; have HB6 := zaa.mk hB_; have HK6 := zaa.mk hK_; clear hI_ hB_ hK_))
         go_ret
         rw [HR0.out]
         exact ⟨none, nxt s j5, rfl, by have := HJ.out; have := HL3.out; have := HN4.out; have := HL5.out; have := HN6.out; omega, HN6.out.2, HI6.out, HB6.out, HK5'.out.trans HK6.out (.inl rfl), rfl⟩
        ·have hun := HUn.out
         rw [if_neg h41] at hun
         have HR0 := zaa.mk hun
         have hlt5 : j5 < s.size := by omega
         have HX := zaa.mk (show nxt s j5 = j5 + 1 from if_pos hlt5)
         have d7 : (cAt s j5 == 41) = true := by rw [beq_iff_eq, show cAt s j5 = bt s (j5 : Int) from if_pos hlt5]; omega
         clear hun h41 HUn
         generalize cAt s j5 = c6 at *
         go_wp2_with (first
          | (go_at_call 49; refine HTk6.out.mono ?_; rintro e w6 ⟨rfl, hI_, hB_, hK_⟩; have HI6 := zaa.mk hI_; have HB6 := zaa.mk hB_; have HK6 := zaa.mk hK_; clear hI_ hB_ hK_))
         have hb := zac (zac (Below.refl w6.heap.size w6) (.cells #[.pointer (some ⟨pa, 0, none⟩), .pointer (some ⟨pb, 0, none⟩)] 43)) (.cells #[.int .u8 c4, .slice (some ⟨w6.heap.size, 0, none⟩) 2 2] 64)
         have hk1 := heap_alloc2_old w6 (.cells #[.pointer (some ⟨pa, 0, none⟩), .pointer (some ⟨pb, 0, none⟩)] 43) (.cells #[.int .u8 c4, .slice (some ⟨w6.heap.size, 0, none⟩) 2 2] 64)
         have hk2 := heap_alloc2_new w6 (.cells #[.pointer (some ⟨pa, 0, none⟩), .pointer (some ⟨pb, 0, none⟩)] 43) (.cells #[.int .u8 c4, .slice (some ⟨w6.heap.size, 0, none⟩) 2 2] 64)
         have hI7 := (HI6.out.alloc (.cells #[.pointer (some ⟨pa, 0, none⟩), .pointer (some ⟨pb, 0, none⟩)] 43)).alloc (.cells #[.int .u8 c4, .slice (some ⟨w6.heap.size, 0, none⟩) 2 2] 64)
         generalize (w6.alloc (.cells #[.pointer (some ⟨pa, 0, none⟩), .pointer (some ⟨pb, 0, none⟩)] 43)).alloc (.cells #[.int .u8 c4, .slice (some ⟨w6.heap.size, 0, none⟩) 2 2] 64) = w7 at *
         have hgl : g < w6.heap.size := zau HI6.out.1
         have HPa7 := zaa.mk (PtAt.below (PtAt.kept HPa.out HK6.out) hb)
         have HPb7 := zaa.mk (PtAt.below (PtAt.kept HPb.out HK6.out) hb)
         have hc4 := HC4.out
         go_ret
         rw [HR0.out]
         exact ⟨_, nxt s j5, rfl, by have := HJ.out; have := HL3.out; have := HN4.out; have := HL5.out; have := HN6.out; omega, HN6.out.2, hI7, zae HB6.out hb, (HK5'.out.trans HK6.out (.inl rfl)).trans (zal.of_below hb g none) (.inl rfl), HX.out, _, rfl, by show w6.heap.size + 1 ≠ g; omega, w6.heap.size, pa, pb, by rw [hk2, hc4]; rfl, by show w6.heap.size ≠ g; omega, hk1, HPa7.out, HPb7.out⟩
       ·have d5 : (c4 == 124) = false := by rw [beq_eq_false_iff_ne]; omega
        have d6 : (c4 == 45) = true := by rw [beq_iff_eq]; exact e8
        have HC4 := zaa.mk e8
        clear e8
        by_cases h41 : s.size ≤ j5 ∨ bt s (j5 : Int) ≠ 41
        ·have HR0 := zaa.mk (show rdR (f + 1) s i = none by rw [HUn.out, if_pos h41])
         have d7 : (cAt s j5 == 41) = false := by rw [beq_eq_false_iff_ne]; unfold cAt; split <;> omega
         clear h41
         generalize cAt s j5 = c6 at *
         go_wp2_with (first
          | (go_at_call 49; refine HTk6.out.mono ?_; rintro e w6 ⟨rfl, hI_, hB_, hK_⟩; have HI6 := zaa.mk hI_; have HB6 := zaa.mk hB_; have HK6 := zaa.mk hK_; clear hI_ hB_ hK_))
         go_ret
         rw [HR0.out]
         exact ⟨none, nxt s j5, rfl, by have := HJ.out; have := HL3.out; have := HN4.out; have := HL5.out; have := HN6.out; omega, HN6.out.2, HI6.out, HB6.out, HK5'.out.trans HK6.out (.inl rfl), rfl⟩
        ·have hun := HUn.out
         rw [if_neg h41] at hun
         have HR0 := zaa.mk hun
         have hlt5 : j5 < s.size := by omega
         have HX := zaa.mk (show nxt s j5 = j5 + 1 from if_pos hlt5)
         have d7 : (cAt s j5 == 41) = true := by rw [beq_iff_eq, show cAt s j5 = bt s (j5 : Int) from if_pos hlt5]; omega
         clear hun h41 HUn
         generalize cAt s j5 = c6 at *
         go_wp2_with (first
          | (go_at_call 49; refine HTk6.out.mono ?_; rintro e w6 ⟨rfl, hI_, hB_, hK_⟩; have HI6 := zaa.mk hI_; have HB6 := zaa.mk hB_; have HK6 := zaa.mk hK_; clear hI_ hB_ hK_))
         have hb := zac (zac (Below.refl w6.heap.size w6) (.cells #[.pointer (some ⟨pa, 0, none⟩), .pointer (some ⟨pb, 0, none⟩)] 43)) (.cells #[.int .u8 c4, .slice (some ⟨w6.heap.size, 0, none⟩) 2 2] 64)
         have hk1 := heap_alloc2_old w6 (.cells #[.pointer (some ⟨pa, 0, none⟩), .pointer (some ⟨pb, 0, none⟩)] 43) (.cells #[.int .u8 c4, .slice (some ⟨w6.heap.size, 0, none⟩) 2 2] 64)
         have hk2 := heap_alloc2_new w6 (.cells #[.pointer (some ⟨pa, 0, none⟩), .pointer (some ⟨pb, 0, none⟩)] 43) (.cells #[.int .u8 c4, .slice (some ⟨w6.heap.size, 0, none⟩) 2 2] 64)
         have hI7 := (HI6.out.alloc (.cells #[.pointer (some ⟨pa, 0, none⟩), .pointer (some ⟨pb, 0, none⟩)] 43)).alloc (.cells #[.int .u8 c4, .slice (some ⟨w6.heap.size, 0, none⟩) 2 2] 64)
         generalize (w6.alloc (.cells #[.pointer (some ⟨pa, 0, none⟩), .pointer (some ⟨pb, 0, none⟩)] 43)).alloc (.cells #[.int .u8 c4, .slice (some ⟨w6.heap.size, 0, none⟩) 2 2] 64) = w7 at *
         have hgl : g < w6.heap.size := zau HI6.out.1
         have HPa7 := zaa.mk (PtAt.below (PtAt.kept HPa.out HK6.out) hb)
         have HPb7 := zaa.mk (PtAt.below (PtAt.kept HPb.out HK6.out) hb)
         have hc4 := HC4.out
         go_ret
         rw [HR0.out]
         exact ⟨_, nxt s j5, rfl, by have := HJ.out; have := HL3.out; have := HN4.out; have := HL5.out; have := HN6.out; omega, HN6.out.2, hI7, zae HB6.out hb, (HK5'.out.trans HK6.out (.inl rfl)).trans (zal.of_below hb g none) (.inl rfl), HX.out, _, rfl, by show w6.heap.size + 1 ≠ g; omega, w6.heap.size, pa, pb, by rw [hk2, hc4]; rfl, by show w6.heap.size ≠ g; omega, hk1, HPa7.out, HPb7.out⟩
   ·have d1 : (c == 111) = false := by rw [beq_eq_false_iff_ne]; omega
    have d2 : (c == 62) = false := by rw [beq_eq_false_iff_ne]; omega
    have d3 : (c == 94) = false := by rw [beq_eq_false_iff_ne]; omega
    have d4 : (c == 40) = false := by rw [beq_eq_false_iff_ne]; omega
    have HR0 := zaa.mk (show rdR (f + 1) s i = none by rw [HUn.out, if_neg (by omega), if_neg (by omega), if_pos (by omega)])
    go_enter Try.func38, Try.ntmps38
    go_wp2_with (first
     | (go_at_call 49; refine HTk.out.mono ?_; rintro e w2 ⟨rfl, hI_, hB_, hK_⟩; have HI2 := zaa.mk hI_; have HB2 := zaa.mk hB_; have HK2 := zaa.mk hK_; clear hI_ hB_ hK_))
    go_ret
    rw [HR0.out]
    exact ⟨none, j, rfl, by have := HJ.out; omega, by have := HJ.out; omega, HI2.out, HB2.out, HK2.out, rfl⟩
set_option maxHeartbeats 1000000 in
set_option maxRecDepth 100000 in
theorem countO_calls (s : ByteArray) (w : World) : Calls Try.prog 37 #[.string s, .string ⟨#[111]⟩] w fun e w' => e = .returned (.int .i64 (Lib.countByte s.data.toList 111)) ∧ w' = w := by
 go_enter Try.func37, Try.ntmps37
 go_wp2
 rw [run_callFunc_extern Try.func47 (by kernel_rfl) (by kernel_rfl) (by kernel_rfl) (e := Extern.BytealgCount.count) (by kernel_rfl), Lib.run_countString]
 simp only [Result.andThen]
 rw [Oper.upon_value]
 go_wp2
 go_ret
 exact ⟨rfl, rfl⟩
theorem count_rooms (s : ByteArray) : ∀ n, n ≤ s.size → zcg s n = (s.data.toList.take n).count 111
 | 0, _ => rfl
 | n + 1, h => by
  have hl : n < s.data.toList.length := by rw [Array.length_toList]; exact h
  have hb : bt s (n : Int) = ((s.data.toList[n].toNat : Nat) : Int) := by
   rw [← bt_nat s n (by omega)]
   rfl
  rw [roomsS_succ, count_rooms s n (by omega), List.take_add_one, List.getElem?_eq_getElem hl, List.count_append, hb]
  congr 1
  by_cases e : s.data.toList[n] = 111
  ·rw [e]; rfl
  ·have : ¬ ((s.data.toList[n].toNat : Nat) : Int) = 111 := fun h2 => e (UInt8.toNat_inj.1 (by show _ = 111; omega))
   rw [if_neg this]
   symm
   show List.count 111 [s.data.toList[n]] = 0
   rw [List.count_eq_zero]
   intro hm
   rw [List.mem_singleton] at hm
   exact e hm.symm
theorem count_all (s : ByteArray) : Lib.countByte s.data.toList 111 = zcg s s.size := by
 rw [count_rooms s s.size (Nat.le_refl _)]
 unfold Lib.countByte
 rw [List.take_of_length_le (by rw [Array.length_toList]; exact Nat.le_refl _)]
def POfRes (w : World) (r : Option Tr) (e : Ending) (w' : World) : Prop :=
 ∃ q : Option Addr, e = .returned (.pointer q) ∧ Below w.heap.size w w' ∧ match r with
  | none => q = none
  | some t => ∃ p, q = some ⟨p, 0, none⟩ ∧ PtAt w' (fun _ => True) t p
set_option maxHeartbeats 400000 in
set_option maxRecDepth 100000 in
theorem termOf_calls (s : ByteArray) (hs : s.size ≤ 1048576) (w : World) : Calls Try.prog 22 #[.string s] w (POfRes w (ofR s)) := by
 have hrl := roomsS_le s s.size
 have HOf := zaa.mk (show ofR s = if 60 < s.size ∨ 7 < zcg s s.size then none else match rdR (s.size + 1) s 0 with
  | none => none
  | some (t, e) => if e = s.size then some t else none from rfl)
 have HCo := zaa.mk (fun w => countO_calls s w)
 rw [count_all] at HCo
 generalize zcg s s.size = rn at *
 by_cases hbig : 60 < s.size
 ·have d1 : (60 : Int) < (s.size : Int) := by omega
  have HR := zaa.mk (show ofR s = none by rw [HOf.out, if_pos (.inl hbig)])
  clear hbig
  go_enter Try.func22, Try.ntmps22
  go_wp2
  go_ret
  rw [HR.out]
  exact ⟨none, rfl, Below.refl _ _, rfl⟩
 ·have d1 : ¬ (60 : Int) < (s.size : Int) := by omega
  by_cases h7 : 7 < rn
  ·have d2 : (7 : Int) < (rn : Int) := by omega
   have HR := zaa.mk (show ofR s = none by rw [HOf.out, if_pos (.inr h7)])
   clear h7 hbig
   go_enter Try.func22, Try.ntmps22
   go_wp2_with (first
    | (go_at_call 37; refine (HCo.out _).mono ?_; rintro e w2 ⟨rfl, rfl⟩))
   go_ret
   rw [HR.out]
   exact ⟨none, rfl, Below.refl _ _, rfl⟩
  ·have d2 : ¬ (7 : Int) < (rn : Int) := by omega
   have hof := HOf.out
   rw [if_neg (fun h => h.elim hbig h7)] at hof
   clear HOf h7 hbig
   have HOf := zaa.mk hof
   clear hof
   go_enter Try.func22, Try.ntmps22
   go_upto_region 4 with (first
    | (go_at_call 37; refine (HCo.out _).mono ?_; rintro e w2 ⟨rfl, rfl⟩))
   have hI := zbp.new w2 w2 s (Below.refl _ _)
   have hB := zac (Below.refl w2.heap.size w2) (.cells #[.string s] 60)
   generalize w2.alloc (.cells #[.string s] 60) = w3 at *
   obtain ⟨g, hg⟩ : ∃ g, g = w2.heap.size := ⟨_, rfl⟩
   rw [← hg] at hI ⊢
   have hI' : zbp w2 w3 g (restB s 0) := by rw [restB_zero]; exact hI
   have HRd := zaa.mk (reader_calls s w2 g (s.size + 1) 0 w3 (by omega) (Nat.zero_le _) hI' hB)
   clear hI hB hg hI'
   go_upto_region 5 with (first
    | (go_at_call 38; refine HRd.out.mono ?_; rintro e w4 ⟨q, j, rfl, hle_, hls_, hI_, hB_, hK_, hres_⟩; have HLs := zaa.mk hls_; have HI4 := zaa.mk hI_; have HB4 := zaa.mk hB_; have HR4 := zaa.mk hres_; clear hle_ hls_ hI_ hB_ hK_ hres_))
   have x0 := cellS60_0 HI4.out.1
   have hz := restB_size s HLs.out
   have hres := HR4.out
   have hof := HOf.out
   clear HR4 HOf
   by_cases hj : j = s.size
   ·have t1 : ((restB s j).toList == ([] : List UInt8)) = true := by rw [beq_iff_eq, toList_nil]; omega
    have t2 : ((restB s j).toList != ([] : List UInt8)) = false := by rw [bne, t1]; rfl
    have HZ := zaa.mk hz
    clear hz
    generalize restB s j = rb at *
    go_wp2
    go_ret
    cases hrd : rdR (s.size + 1) s 0 with
    | none =>
     rw [hrd] at hres hof
     dsimp only at hres hof
     rw [hof]
     exact ⟨q, rfl, HB4.out, hres⟩
    | some te =>
     obtain ⟨t, e⟩ := te
     rw [hrd] at hres hof
     dsimp only at hres hof
     obtain ⟨hje, p, rfl, hP⟩ := hres
     rw [if_pos (by omega)] at hof
     rw [hof]
     exact ⟨_, rfl, HB4.out, p, rfl, PtAt.move (fun _ _ _ => rfl) (fun _ _ => trivial) t p hP⟩
   ·have t1 : ((restB s j).toList == ([] : List UInt8)) = false := by rw [beq_eq_false_iff_ne]; intro h; have := toList_nil.1 h; have := HLs.out; omega
    have t2 : ((restB s j).toList != ([] : List UInt8)) = true := by rw [bne, t1]; rfl
    have HZ := zaa.mk hz
    clear hz
    generalize restB s j = rb at *
    go_wp2
    go_ret
    have hn : ofR s = none := by
     rw [hof]
     cases hrd : rdR (s.size + 1) s 0 with
     | none => rfl
     | some te =>
      obtain ⟨t, e⟩ := te
      rw [hrd] at hres
      dsimp only at hres ⊢
      rw [if_neg (by omega)]
    rw [hn]
    exact ⟨none, rfl, HB4.out, rfl⟩
abbrev PtA (w : World) (t : Tr) (p : Nat) : Prop := PtAt w (fun _ => True) t p
theorem PtAt.drew {w : World} {ok : Nat → Prop} {t : Tr} {p : Nat} (h : PtAt w ok t p) : PtAt w.drew ok t p := PtAt.move (w := w) (w' := w.drew) (fun _ _ _ => rfl) (fun _ h => h) t p h
def PRes (w : World) (t : Tr) (e : Ending) (w' : World) : Prop := ∃ p, e = .returned (.pointer (some ⟨p, 0, none⟩)) ∧ Below w.heap.size w w' ∧ PtA w' t p
def sgC : Option Bool → Int
 | none => 0
 | some b => unC b
set_option maxHeartbeats 400000 in
set_option maxRecDepth 100000 in
theorem inward_calls : ∀ (n : Nat) (t : Tr), t.nodes ≤ n → ∀ (c : Option Bool) (sg : Int) (w : World) (p : Nat), sg = sgC c → PtA w t p →
  Calls Try.prog 39 #[.pointer (some ⟨p, 0, none⟩), .int .u8 sg] w (PRes w (inF c (tid t))) := by
 intro n
 induction n with
 | zero => intro t h; exact absurd h (by cases t <;> simp [Tr.nodes])
 | succ n ih =>
  intro t hn c sg w p hsg hP
  have HIh := zaa.mk ih
  clear ih
  cases t with
  | o =>
   obtain ⟨-, hk⟩ := hP
   have x0 : w.cell? ⟨p, 0, none⟩ = some (.int .u8 111) := (zag hk 0).trans rfl
   have HK := zaa.mk hk
   have HR := zaa.mk (show inF c (tid .o) = .o by cases c with
    | none => exact inF_none _
    | some d => cases d <;> rfl)
   clear hk hsg
   go_enter Try.func39, Try.ntmps39
   go_wp2
   go_ret
   rw [HR.out]
   exact ⟨p, rfl, Below.refl _ _, trivial, HK.out⟩
  | un b t =>
   obtain ⟨-, q, k, hk, -, hk2, hPk⟩ := hP
   simp only [Tr.nodes] at hn
   have HN := zaa.mk (show t.nodes ≤ n by omega)
   have HU := zaa.mk (show unC b = sgC (some b) from rfl)
   have u1 : (unC b == 111) = false := by cases b <;> rfl
   generalize unC b = u at *
   have x0 : w.cell? ⟨p, 0, none⟩ = some (.int .u8 u) := (zag hk 0).trans rfl
   have x1 : w.cell? ⟨p, 1, none⟩ = some (.slice (some ⟨q, 0, none⟩) 1 1) := (zag hk 1).trans rfl
   have x2 : w.cell? ⟨q, 0, none⟩ = some (.pointer (some ⟨k, 0, none⟩)) := (zag hk2 0).trans rfl
   have HPk := zaa.mk hPk
   clear hk hk2 hPk hn
   go_enter Try.func39, Try.ntmps39
   go_upto_region 4 with (fail)
   refine start_ (n := 12) (S := fun w' => (w'.cell? ⟨p, 0, none⟩ = some (.int .u8 u)) ∧ (w'.cell? ⟨p, 1, none⟩ = some (.slice (some ⟨q, 0, none⟩) 1 1)) ∧ (w'.cell? ⟨q, 0, none⟩ = some (.pointer (some ⟨k, 0, none⟩))) ∧ (PtA w' t k) ∧ (Below w.heap.size w w')) (ds := []) #[false, false, false, false, false, false, false, false, false, false, false, false] (by kernel_rfl) rfl rfl (⟨x0, x1, x2, HPk.out.drew, zbn (Below.refl _ _)⟩) (fun hHeld => ?_)
   clear x0 x1 x2
   refine zba (i := 0) (N := some 22) (v := ?_) (a' := ?_) #[true, false, false, false, false, false, false, false, false, false, false, false] rfl rfl (by kernel_rfl) (fun _ _ _ h => h) (Or.inl ⟨by rfl, ?_⟩) ?_ ?_
   rotate_left
   ·intro w'
    go_simp
    with_reducible rfl
   rotate_left
   ·simp only [Act.put, List.setIfInBounds_toArray, List.set_cons_zero, List.set_cons_succ, zaq, zar]
    rfl
   refine zba (i := 1) (N := some 23) (v := ?_) (a' := ?_) #[true, true, false, false, false, false, false, false, false, false, false, false] rfl rfl (by kernel_rfl) (fun _ _ _ h => h) (Or.inl ⟨by rfl, ?_⟩) ?_ ?_
   rotate_left
   ·intro w'
    go_simp
    with_reducible rfl
   rotate_left
   ·simp only [Act.put, List.setIfInBounds_toArray, List.set_cons_zero, List.set_cons_succ, zaq, zar]
    rfl
   refine zba (i := 2) (N := some 24) (v := ?_) (a' := ?_) #[true, true, true, false, false, false, false, false, false, false, false, false] rfl rfl (by kernel_rfl) (fun _ _ _ h => h) (Or.inl ⟨by rfl, ?_⟩) ?_ ?_
   rotate_left
   ·intro w'
    go_simp
    with_reducible rfl
   rotate_left
   ·simp only [Act.put, List.setIfInBounds_toArray, List.set_cons_zero, List.set_cons_succ, zaq, zar]
    rfl
   refine take_ (i := 3) (N := some 25) (v := ?_) (a' := ?_) #[true, true, true, true, false, false, false, false, false, false, false, false] rfl rfl (by kernel_rfl) (fun _ _ _ h => h) (Or.inl ⟨by rfl, ?_⟩) hHeld ?_ ?_
   rotate_left
   ·rintro w' ⟨s0, s1, s2, s3, s4⟩
    go_simp
    with_reducible rfl
   rotate_left
   ·simp only [Act.put, List.setIfInBounds_toArray, List.set_cons_zero, List.set_cons_succ, zaq, zar]
    rfl
   refine zba (i := 4) (N := some 26) (v := ?_) (a' := ?_) #[true, true, true, true, true, false, false, false, false, false, false, false] rfl rfl (by kernel_rfl) (fun _ _ _ h => h) (Or.inl ⟨by rfl, ?_⟩) ?_ ?_
   rotate_left
   ·intro w'
    go_simp
    with_reducible rfl
   rotate_left
   ·simp only [Act.put, List.setIfInBounds_toArray, List.set_cons_zero, List.set_cons_succ, zaq, zar]
    rfl
   refine take_ (i := 5) (N := some 27) (v := ?_) (a' := ?_) #[true, true, true, true, true, true, false, false, false, false, false, false] rfl rfl (by kernel_rfl) (fun _ _ _ h => h) (Or.inl ⟨by rfl, ?_⟩) hHeld ?_ ?_
   rotate_left
   ·rintro w' ⟨s0, s1, s2, s3, s4⟩
    go_simp
    with_reducible rfl
   rotate_left
   ·simp only [Act.put, List.setIfInBounds_toArray, List.set_cons_zero, List.set_cons_succ, zaq, zar]
    rfl
   refine zba (i := 6) (N := some 28) (v := ?_) (a' := ?_) #[true, true, true, true, true, true, true, false, false, false, false, false] rfl rfl (by kernel_rfl) (fun _ _ _ h => h) (Or.inl ⟨by rfl, ?_⟩) ?_ ?_
   rotate_left
   ·intro w'
    go_simp
    with_reducible rfl
   rotate_left
   ·simp only [Act.put, List.setIfInBounds_toArray, List.set_cons_zero, List.set_cons_succ, zaq, zar]
    rfl
   refine zba (i := 7) (N := some 29) (v := ?_) (a' := ?_) #[true, true, true, true, true, true, true, true, false, false, false, false] rfl rfl (by kernel_rfl) (fun _ _ _ h => h) (Or.inl ⟨by rfl, ?_⟩) ?_ ?_
   rotate_left
   ·intro w'
    go_simp
    with_reducible rfl
   rotate_left
   ·simp only [Act.put, List.setIfInBounds_toArray, List.set_cons_zero, List.set_cons_succ, zaq, zar]
    rfl
   refine zba (i := 8) (N := some 30) (v := ?_) (a' := ?_) #[true, true, true, true, true, true, true, true, true, false, false, false] rfl rfl (by kernel_rfl) (fun _ _ _ h => h) (Or.inl ⟨by rfl, ?_⟩) ?_ ?_
   rotate_left
   ·intro w'
    go_simp
    with_reducible rfl
   rotate_left
   ·simp only [Act.put, List.setIfInBounds_toArray, List.set_cons_zero, List.set_cons_succ, zaq, zar]
    rfl
   refine take_ (i := 9) (N := some 31) (v := ?_) (a' := ?_) #[true, true, true, true, true, true, true, true, true, true, false, false] rfl rfl (by kernel_rfl) (fun _ _ _ h => h) (Or.inl ⟨by rfl, ?_⟩) hHeld ?_ ?_
   rotate_left
   ·rintro w' ⟨s0, s1, s2, s3, s4⟩
    go_simp
    with_reducible rfl
   rotate_left
   ·simp only [Act.put, List.setIfInBounds_toArray, List.set_cons_zero, List.set_cons_succ, zaq, zar]
    rfl
   refine one_ (i := 10) (N := some 32) #[true, true, true, true, true, true, true, true, true, true, true, false] rfl rfl (by kernel_rfl) (by decide) (fun K hK => ?_)
   refine goes_ Try.func39 (by kernel_rfl) rfl #[.pointer (some ⟨k, 0, none⟩), .int .u8 u] (by rfl) rfl rfl (by (try simp only [List.map_toArray, List.map_cons, List.map_nil]); first | done | rfl) ?_
   have hs_ := hHeld
   obtain ⟨s0, s1, s2, s3, s4⟩ := hs_
   refine (HIh.out t HN.out (some b) u _ k HU.out s3).mono ?_
   rintro e w3 ⟨m, rfl, hb, hP⟩
   have HB3 := zaa.mk (zae s4 hb)
   have HP3 := zaa.mk hP
   clear hP
   refine ⟨_, rfl, ?_⟩
   refine hK.out _ _ ⟨zah hb s0, zah hb s1, zah hb s2, PtAt.below s3 hb, zae s4 hb⟩ (fun hHeld => ?_)
   clear hK K hb s0 s1 s2 s3 s4
   refine norm_ (a' := ?_) ?_ ?_
   rotate_left
   ·show Act.put _ (some 32) _ = _
    simp only [Act.put, List.setIfInBounds_toArray, List.set_cons_zero, List.set_cons_succ, zaq, zar]
    rfl
   refine zba (i := 11) (N := some 5) (v := ?_) (a' := ?_) #[true, true, true, true, true, true, true, true, true, true, true, true] rfl rfl (by kernel_rfl) (fun _ _ _ h => h) (Or.inl ⟨by rfl, ?_⟩) ?_ ?_
   rotate_left
   ·intro w'
    go_simp
    with_reducible rfl
   rotate_left
   ·simp only [Act.put, List.setIfInBounds_toArray, List.set_cons_zero, List.set_cons_succ, zaq, zar]
    rfl
   refine done_ (by kernel_rfl) ?_
   have HId := zaa.mk (show inF (some b) (tid t) = tid (.un b t) from rfl)
   cases c with
   | none =>
    have hsg0 : sg = 0 := hsg
    subst hsg0
    clear hsg
    go_wp2
    go_ret
    rw [inF_none]
    exact ⟨m, rfl, HB3.out, HP3.out⟩
   | some d =>
    have HS := zaa.mk hsg
    have v1 : (sg == 0) = false := by rw [hsg]; cases d <;> rfl
    clear hsg
    have HN2 := zaa.mk (show (inF (some b) (tid t)).nodes ≤ n by have h := HN.out; have := tid_nodes t; rw [zch]; omega)
    go_wp2_with (first
     | (go_at_call 39; refine (HIh.out _ HN2.out (some d) sg _ m HS.out HP3.out).mono ?_; rintro e w5 ⟨m2, rfl, hb, hP⟩; have HB5 := zaa.mk (zae HB3.out hb); have HP5 := zaa.mk hP; clear hb hP))
    go_ret
    have h := HP5.out
    rw [tid_self _ (inF_tidy _ _ (zby t))] at h
    exact ⟨m2, rfl, HB5.out, h⟩
  | bin b x y =>
   obtain ⟨-, q, k, l, hk, -, hk2, hPk, hPl⟩ := hP
   simp only [Tr.nodes] at hn
   have HN := zaa.mk (show x.nodes ≤ n ∧ y.nodes ≤ n by omega)
   have HS := zaa.mk hsg
   have HB := zaa.mk (show binC b = binC b from rfl)
   have u1 : (binC b == 111) = false := by cases b <;> rfl
   have HU := zaa.mk (show ∃ u, u = binC b from ⟨_, rfl⟩)
   obtain ⟨u, hu⟩ := HU.out
   rw [← hu] at hk u1
   have HUu := zaa.mk hu
   clear HU HB hu
   have x0 : w.cell? ⟨p, 0, none⟩ = some (.int .u8 u) := (zag hk 0).trans rfl
   have x1 : w.cell? ⟨p, 1, none⟩ = some (.slice (some ⟨q, 0, none⟩) 2 2) := (zag hk 1).trans rfl
   have x2 : w.cell? ⟨q, 0, none⟩ = some (.pointer (some ⟨k, 0, none⟩)) := (zag hk2 0).trans rfl
   have x3 : w.cell? ⟨q, 1, none⟩ = some (.pointer (some ⟨l, 0, none⟩)) := (zag hk2 1).trans rfl
   have HPk := zaa.mk hPk
   have HPl := zaa.mk hPl
   have HX0 := zaa.mk x0
   clear hk hk2 hPk hPl hn hsg
   go_enter Try.func39, Try.ntmps39
   go_upto_region 8 with (fail)
   refine start_ (n := 18) (S := fun w' => (w'.cell? ⟨p, 1, none⟩ = some (.slice (some ⟨q, 0, none⟩) 2 2)) ∧ (w'.cell? ⟨q, 0, none⟩ = some (.pointer (some ⟨k, 0, none⟩))) ∧ (w'.cell? ⟨q, 1, none⟩ = some (.pointer (some ⟨l, 0, none⟩))) ∧ (PtA w' x k) ∧ (PtA w' y l) ∧ (Below w.heap.size w w')) (ds := []) #[false, false, false, false, false, false, false, false, false, false, false, false, false, false, false, false, false, false] (by kernel_rfl) rfl rfl (⟨x1, x2, x3, HPk.out.drew, HPl.out.drew, zbn (Below.refl _ _)⟩) (fun hHeld => ?_)
   clear x0 x1 x2 x3
   refine zba (i := 0) (N := some 39) (v := ?_) (a' := ?_) #[true, false, false, false, false, false, false, false, false, false, false, false, false, false, false, false, false, false] rfl rfl (by kernel_rfl) (fun _ _ _ h => h) (Or.inl ⟨by rfl, ?_⟩) ?_ ?_
   rotate_left
   ·intro w'
    go_simp
    with_reducible rfl
   rotate_left
   ·simp only [Act.put, List.setIfInBounds_toArray, List.set_cons_zero, List.set_cons_succ, zaq, zar]
    rfl
   refine zba (i := 1) (N := some 40) (v := ?_) (a' := ?_) #[true, true, false, false, false, false, false, false, false, false, false, false, false, false, false, false, false, false] rfl rfl (by kernel_rfl) (fun _ _ _ h => h) (Or.inl ⟨by rfl, ?_⟩) ?_ ?_
   rotate_left
   ·intro w'
    go_simp
    with_reducible rfl
   rotate_left
   ·simp only [Act.put, List.setIfInBounds_toArray, List.set_cons_zero, List.set_cons_succ, zaq, zar]
    rfl
   refine zba (i := 2) (N := some 41) (v := ?_) (a' := ?_) #[true, true, true, false, false, false, false, false, false, false, false, false, false, false, false, false, false, false] rfl rfl (by kernel_rfl) (fun _ _ _ h => h) (Or.inl ⟨by rfl, ?_⟩) ?_ ?_
   rotate_left
   ·intro w'
    go_simp
    with_reducible rfl
   rotate_left
   ·simp only [Act.put, List.setIfInBounds_toArray, List.set_cons_zero, List.set_cons_succ, zaq, zar]
    rfl
   refine take_ (i := 3) (N := some 42) (v := ?_) (a' := ?_) #[true, true, true, true, false, false, false, false, false, false, false, false, false, false, false, false, false, false] rfl rfl (by kernel_rfl) (fun _ _ _ h => h) (Or.inl ⟨by rfl, ?_⟩) hHeld ?_ ?_
   rotate_left
   ·rintro w' ⟨s0, s1, s2, s3, s4, s5⟩
    go_simp
    with_reducible rfl
   rotate_left
   ·simp only [Act.put, List.setIfInBounds_toArray, List.set_cons_zero, List.set_cons_succ, zaq, zar]
    rfl
   refine zba (i := 4) (N := some 43) (v := ?_) (a' := ?_) #[true, true, true, true, true, false, false, false, false, false, false, false, false, false, false, false, false, false] rfl rfl (by kernel_rfl) (fun _ _ _ h => h) (Or.inl ⟨by rfl, ?_⟩) ?_ ?_
   rotate_left
   ·intro w'
    go_simp
    with_reducible rfl
   rotate_left
   ·simp only [Act.put, List.setIfInBounds_toArray, List.set_cons_zero, List.set_cons_succ, zaq, zar]
    rfl
   refine take_ (i := 5) (N := some 44) (v := ?_) (a' := ?_) #[true, true, true, true, true, true, false, false, false, false, false, false, false, false, false, false, false, false] rfl rfl (by kernel_rfl) (fun _ _ _ h => h) (Or.inl ⟨by rfl, ?_⟩) hHeld ?_ ?_
   rotate_left
   ·rintro w' ⟨s0, s1, s2, s3, s4, s5⟩
    go_simp
    with_reducible rfl
   rotate_left
   ·simp only [Act.put, List.setIfInBounds_toArray, List.set_cons_zero, List.set_cons_succ, zaq, zar]
    rfl
   refine zba (i := 6) (N := some 45) (v := ?_) (a' := ?_) #[true, true, true, true, true, true, true, false, false, false, false, false, false, false, false, false, false, false] rfl rfl (by kernel_rfl) (fun _ _ _ h => h) (Or.inl ⟨by rfl, ?_⟩) ?_ ?_
   rotate_left
   ·intro w'
    go_simp
    with_reducible rfl
   rotate_left
   ·simp only [Act.put, List.setIfInBounds_toArray, List.set_cons_zero, List.set_cons_succ, zaq, zar]
    rfl
   refine zba (i := 8) (N := some 47) (v := ?_) (a' := ?_) #[true, true, true, true, true, true, true, false, true, false, false, false, false, false, false, false, false, false] rfl rfl (by kernel_rfl) (fun _ _ _ h => h) (Or.inl ⟨by rfl, ?_⟩) ?_ ?_
   rotate_left
   ·intro w'
    go_simp
    with_reducible rfl
   rotate_left
   ·simp only [Act.put, List.setIfInBounds_toArray, List.set_cons_zero, List.set_cons_succ, zaq, zar]
    rfl
   refine zba (i := 9) (N := some 48) (v := ?_) (a' := ?_) #[true, true, true, true, true, true, true, false, true, true, false, false, false, false, false, false, false, false] rfl rfl (by kernel_rfl) (fun _ _ _ h => h) (Or.inl ⟨by rfl, ?_⟩) ?_ ?_
   rotate_left
   ·intro w'
    go_simp
    with_reducible rfl
   rotate_left
   ·simp only [Act.put, List.setIfInBounds_toArray, List.set_cons_zero, List.set_cons_succ, zaq, zar]
    rfl
   refine zba (i := 10) (N := some 49) (v := ?_) (a' := ?_) #[true, true, true, true, true, true, true, false, true, true, true, false, false, false, false, false, false, false] rfl rfl (by kernel_rfl) (fun _ _ _ h => h) (Or.inl ⟨by rfl, ?_⟩) ?_ ?_
   rotate_left
   ·intro w'
    go_simp
    with_reducible rfl
   rotate_left
   ·simp only [Act.put, List.setIfInBounds_toArray, List.set_cons_zero, List.set_cons_succ, zaq, zar]
    rfl
   refine take_ (i := 11) (N := some 50) (v := ?_) (a' := ?_) #[true, true, true, true, true, true, true, false, true, true, true, true, false, false, false, false, false, false] rfl rfl (by kernel_rfl) (fun _ _ _ h => h) (Or.inl ⟨by rfl, ?_⟩) hHeld ?_ ?_
   rotate_left
   ·rintro w' ⟨s0, s1, s2, s3, s4, s5⟩
    go_simp
    with_reducible rfl
   rotate_left
   ·simp only [Act.put, List.setIfInBounds_toArray, List.set_cons_zero, List.set_cons_succ, zaq, zar]
    rfl
   refine zba (i := 12) (N := some 51) (v := ?_) (a' := ?_) #[true, true, true, true, true, true, true, false, true, true, true, true, true, false, false, false, false, false] rfl rfl (by kernel_rfl) (fun _ _ _ h => h) (Or.inl ⟨by rfl, ?_⟩) ?_ ?_
   rotate_left
   ·intro w'
    go_simp
    with_reducible rfl
   rotate_left
   ·simp only [Act.put, List.setIfInBounds_toArray, List.set_cons_zero, List.set_cons_succ, zaq, zar]
    rfl
   refine take_ (i := 13) (N := some 52) (v := ?_) (a' := ?_) #[true, true, true, true, true, true, true, false, true, true, true, true, true, true, false, false, false, false] rfl rfl (by kernel_rfl) (fun _ _ _ h => h) (Or.inl ⟨by rfl, ?_⟩) hHeld ?_ ?_
   rotate_left
   ·rintro w' ⟨s0, s1, s2, s3, s4, s5⟩
    go_simp
    with_reducible rfl
   rotate_left
   ·simp only [Act.put, List.setIfInBounds_toArray, List.set_cons_zero, List.set_cons_succ, zaq, zar]
    rfl
   refine zba (i := 14) (N := some 53) (v := ?_) (a' := ?_) #[true, true, true, true, true, true, true, false, true, true, true, true, true, true, true, false, false, false] rfl rfl (by kernel_rfl) (fun _ _ _ h => h) (Or.inl ⟨by rfl, ?_⟩) ?_ ?_
   rotate_left
   ·intro w'
    go_simp
    with_reducible rfl
   rotate_left
   ·simp only [Act.put, List.setIfInBounds_toArray, List.set_cons_zero, List.set_cons_succ, zaq, zar]
    rfl
   refine one_ (i := 7) (N := some 46) #[true, true, true, true, true, true, true, true, true, true, true, true, true, true, true, false, false, false] rfl rfl (by kernel_rfl) (by decide) (fun K hK => ?_)
   refine goes_ Try.func39 (by kernel_rfl) rfl #[.pointer (some ⟨k, 0, none⟩), .int .u8 sg] (by rfl) rfl rfl (by (try simp only [List.map_toArray, List.map_cons, List.map_nil]); first | done | rfl) ?_
   have hs_ := hHeld
   obtain ⟨s0, s1, s2, s3, s4, s5⟩ := hs_
   refine (HIh.out x HN.out.1 c sg _ k HS.out s3).mono ?_
   rintro e w2 ⟨m1, rfl, hb, hP⟩
   have HQ1 := zaa.mk hP
   clear hP
   refine ⟨_, rfl, ?_⟩
   refine hK.out _ _ ⟨zah hb s0, zah hb s1, zah hb s2, PtAt.below s3 hb, PtAt.below s4 hb, zae s5 hb⟩ (fun hHeld => ?_)
   clear hK K hb s0 s1 s2 s3 s4 s5
   refine norm_ (a' := ?_) ?_ ?_
   rotate_left
   ·show Act.put _ (some 46) _ = _
    simp only [Act.put, List.setIfInBounds_toArray, List.set_cons_zero, List.set_cons_succ, zaq, zar]
    rfl
   refine one_ (i := 15) (N := some 54) #[true, true, true, true, true, true, true, true, true, true, true, true, true, true, true, true, false, false] rfl rfl (by kernel_rfl) (by decide) (fun K hK => ?_)
   refine goes_ Try.func39 (by kernel_rfl) rfl #[.pointer (some ⟨l, 0, none⟩), .int .u8 sg] (by rfl) rfl rfl (by (try simp only [List.map_toArray, List.map_cons, List.map_nil]); first | done | rfl) ?_
   have hs_ := hHeld
   obtain ⟨s0, s1, s2, s3, s4, s5⟩ := hs_
   refine (HIh.out y HN.out.2 c sg _ l HS.out s4).mono ?_
   rintro e w3 ⟨m2, rfl, hb, hP⟩
   have HP1 := zaa.mk (HQ1.out.below hb)
   have HP2 := zaa.mk hP
   have HB3 := zaa.mk (zae s5 hb)
   clear hP
   refine ⟨_, rfl, ?_⟩
   refine hK.out _ _ ⟨zah hb s0, zah hb s1, zah hb s2, PtAt.below s3 hb, PtAt.below s4 hb, zae s5 hb⟩ (fun hHeld => ?_)
   clear hK K hb s0 s1 s2 s3 s4 s5
   refine norm_ (a' := ?_) ?_ ?_
   rotate_left
   ·show Act.put _ (some 54) _ = _
    simp only [Act.put, List.setIfInBounds_toArray, List.set_cons_zero, List.set_cons_succ, zaq, zar]
    rfl
   refine zba (i := 16) (N := some 6) (v := ?_) (a' := ?_) #[true, true, true, true, true, true, true, true, true, true, true, true, true, true, true, true, true, false] rfl rfl (by kernel_rfl) (fun _ _ _ h => h) (Or.inl ⟨by rfl, ?_⟩) ?_ ?_
   rotate_left
   ·intro w'
    go_simp
    with_reducible rfl
   rotate_left
   ·simp only [Act.put, List.setIfInBounds_toArray, List.set_cons_zero, List.set_cons_succ, zaq, zar]
    rfl
   refine zba (i := 17) (N := some 7) (v := ?_) (a' := ?_) #[true, true, true, true, true, true, true, true, true, true, true, true, true, true, true, true, true, true] rfl rfl (by kernel_rfl) (fun _ _ _ h => h) (Or.inl ⟨by rfl, ?_⟩) ?_ ?_
   rotate_left
   ·intro w'
    go_simp
    with_reducible rfl
   rotate_left
   ·simp only [Act.put, List.setIfInBounds_toArray, List.set_cons_zero, List.set_cons_succ, zaq, zar]
    rfl
   refine done_ (by kernel_rfl) ?_
   have x0 := zah HB3.out HX0.out
   have hu := HUu.out
   have hsg := HS.out
   clear HUu HS
   cases b with
   | true =>
    replace hu : u = 124 := hu
    subst hu
    cases c with
    | none =>
     replace hsg : sg = 0 := hsg
     subst hsg
     go_wp2
     have hb := zac (zac (Below.refl w3.heap.size w3) (.cells #[.pointer (some ⟨m1, 0, none⟩), .pointer (some ⟨m2, 0, none⟩)] 43)) (.cells #[.int .u8 124, .slice (some ⟨w3.heap.size, 0, none⟩) 2 2] 64)
     have hk1 := heap_alloc2_old w3 (.cells #[.pointer (some ⟨m1, 0, none⟩), .pointer (some ⟨m2, 0, none⟩)] 43) (.cells #[.int .u8 124, .slice (some ⟨w3.heap.size, 0, none⟩) 2 2] 64)
     have hk2 := heap_alloc2_new w3 (.cells #[.pointer (some ⟨m1, 0, none⟩), .pointer (some ⟨m2, 0, none⟩)] 43) (.cells #[.int .u8 124, .slice (some ⟨w3.heap.size, 0, none⟩) 2 2] 64)
     generalize (w3.alloc (.cells #[.pointer (some ⟨m1, 0, none⟩), .pointer (some ⟨m2, 0, none⟩)] 43)).alloc (.cells #[.int .u8 124, .slice (some ⟨w3.heap.size, 0, none⟩) 2 2] 64) = wz at *
     have h1 := HP1.out.below hb
     have h2 := HP2.out.below hb
     rw [inF_none] at h1 h2
     go_ret
     exact ⟨_, rfl, zae HB3.out hb, trivial, w3.heap.size, m1, m2, hk2, trivial, hk1, h1, h2⟩
    | some d =>
     cases d with
     | true =>
      replace hsg : sg = 62 := hsg
      subst hsg
      go_wp2
      have hb := zac (zac (Below.refl w3.heap.size w3) (.cells #[.pointer (some ⟨m1, 0, none⟩), .pointer (some ⟨m2, 0, none⟩)] 43)) (.cells #[.int .u8 45, .slice (some ⟨w3.heap.size, 0, none⟩) 2 2] 64)
      have hk1 := heap_alloc2_old w3 (.cells #[.pointer (some ⟨m1, 0, none⟩), .pointer (some ⟨m2, 0, none⟩)] 43) (.cells #[.int .u8 45, .slice (some ⟨w3.heap.size, 0, none⟩) 2 2] 64)
      have hk2 := heap_alloc2_new w3 (.cells #[.pointer (some ⟨m1, 0, none⟩), .pointer (some ⟨m2, 0, none⟩)] 43) (.cells #[.int .u8 45, .slice (some ⟨w3.heap.size, 0, none⟩) 2 2] 64)
      generalize (w3.alloc (.cells #[.pointer (some ⟨m1, 0, none⟩), .pointer (some ⟨m2, 0, none⟩)] 43)).alloc (.cells #[.int .u8 45, .slice (some ⟨w3.heap.size, 0, none⟩) 2 2] 64) = wz at *
      have h1 := HP1.out.below hb
      have h2 := HP2.out.below hb
      go_ret
      exact ⟨_, rfl, zae HB3.out hb, trivial, w3.heap.size, m1, m2, hk2, trivial, hk1, h1, h2⟩
     | false =>
      replace hsg : sg = 94 := hsg
      subst hsg
      go_wp2
      have hb := zac (zac (Below.refl w3.heap.size w3) (.cells #[.pointer (some ⟨m2, 0, none⟩), .pointer (some ⟨m1, 0, none⟩)] 43)) (.cells #[.int .u8 124, .slice (some ⟨w3.heap.size, 0, none⟩) 2 2] 64)
      have hk1 := heap_alloc2_old w3 (.cells #[.pointer (some ⟨m2, 0, none⟩), .pointer (some ⟨m1, 0, none⟩)] 43) (.cells #[.int .u8 124, .slice (some ⟨w3.heap.size, 0, none⟩) 2 2] 64)
      have hk2 := heap_alloc2_new w3 (.cells #[.pointer (some ⟨m2, 0, none⟩), .pointer (some ⟨m1, 0, none⟩)] 43) (.cells #[.int .u8 124, .slice (some ⟨w3.heap.size, 0, none⟩) 2 2] 64)
      generalize (w3.alloc (.cells #[.pointer (some ⟨m2, 0, none⟩), .pointer (some ⟨m1, 0, none⟩)] 43)).alloc (.cells #[.int .u8 124, .slice (some ⟨w3.heap.size, 0, none⟩) 2 2] 64) = wz at *
      have h1 := HP2.out.below hb
      have h2 := HP1.out.below hb
      go_ret
      exact ⟨_, rfl, zae HB3.out hb, trivial, w3.heap.size, m2, m1, hk2, trivial, hk1, h1, h2⟩
   | false =>
    replace hu : u = 45 := hu
    subst hu
    cases c with
    | none =>
     replace hsg : sg = 0 := hsg
     subst hsg
     go_wp2
     have hb := zac (zac (Below.refl w3.heap.size w3) (.cells #[.pointer (some ⟨m1, 0, none⟩), .pointer (some ⟨m2, 0, none⟩)] 43)) (.cells #[.int .u8 45, .slice (some ⟨w3.heap.size, 0, none⟩) 2 2] 64)
     have hk1 := heap_alloc2_old w3 (.cells #[.pointer (some ⟨m1, 0, none⟩), .pointer (some ⟨m2, 0, none⟩)] 43) (.cells #[.int .u8 45, .slice (some ⟨w3.heap.size, 0, none⟩) 2 2] 64)
     have hk2 := heap_alloc2_new w3 (.cells #[.pointer (some ⟨m1, 0, none⟩), .pointer (some ⟨m2, 0, none⟩)] 43) (.cells #[.int .u8 45, .slice (some ⟨w3.heap.size, 0, none⟩) 2 2] 64)
     generalize (w3.alloc (.cells #[.pointer (some ⟨m1, 0, none⟩), .pointer (some ⟨m2, 0, none⟩)] 43)).alloc (.cells #[.int .u8 45, .slice (some ⟨w3.heap.size, 0, none⟩) 2 2] 64) = wz at *
     have h1 := HP1.out.below hb
     have h2 := HP2.out.below hb
     rw [inF_none] at h1 h2
     go_ret
     exact ⟨_, rfl, zae HB3.out hb, trivial, w3.heap.size, m1, m2, hk2, trivial, hk1, h1, h2⟩
    | some d =>
     cases d with
     | true =>
      replace hsg : sg = 62 := hsg
      subst hsg
      go_wp2
      have hb := zac (zac (Below.refl w3.heap.size w3) (.cells #[.pointer (some ⟨m2, 0, none⟩), .pointer (some ⟨m1, 0, none⟩)] 43)) (.cells #[.int .u8 124, .slice (some ⟨w3.heap.size, 0, none⟩) 2 2] 64)
      have hk1 := heap_alloc2_old w3 (.cells #[.pointer (some ⟨m2, 0, none⟩), .pointer (some ⟨m1, 0, none⟩)] 43) (.cells #[.int .u8 124, .slice (some ⟨w3.heap.size, 0, none⟩) 2 2] 64)
      have hk2 := heap_alloc2_new w3 (.cells #[.pointer (some ⟨m2, 0, none⟩), .pointer (some ⟨m1, 0, none⟩)] 43) (.cells #[.int .u8 124, .slice (some ⟨w3.heap.size, 0, none⟩) 2 2] 64)
      generalize (w3.alloc (.cells #[.pointer (some ⟨m2, 0, none⟩), .pointer (some ⟨m1, 0, none⟩)] 43)).alloc (.cells #[.int .u8 124, .slice (some ⟨w3.heap.size, 0, none⟩) 2 2] 64) = wz at *
      have h1 := HP2.out.below hb
      have h2 := HP1.out.below hb
      go_ret
      exact ⟨_, rfl, zae HB3.out hb, trivial, w3.heap.size, m2, m1, hk2, trivial, hk1, h1, h2⟩
     | false =>
      replace hsg : sg = 94 := hsg
      subst hsg
      go_wp2
      have hb := zac (zac (Below.refl w3.heap.size w3) (.cells #[.pointer (some ⟨m1, 0, none⟩), .pointer (some ⟨m2, 0, none⟩)] 43)) (.cells #[.int .u8 45, .slice (some ⟨w3.heap.size, 0, none⟩) 2 2] 64)
      have hk1 := heap_alloc2_old w3 (.cells #[.pointer (some ⟨m1, 0, none⟩), .pointer (some ⟨m2, 0, none⟩)] 43) (.cells #[.int .u8 45, .slice (some ⟨w3.heap.size, 0, none⟩) 2 2] 64)
      have hk2 := heap_alloc2_new w3 (.cells #[.pointer (some ⟨m1, 0, none⟩), .pointer (some ⟨m2, 0, none⟩)] 43) (.cells #[.int .u8 45, .slice (some ⟨w3.heap.size, 0, none⟩) 2 2] 64)
      generalize (w3.alloc (.cells #[.pointer (some ⟨m1, 0, none⟩), .pointer (some ⟨m2, 0, none⟩)] 43)).alloc (.cells #[.int .u8 45, .slice (some ⟨w3.heap.size, 0, none⟩) 2 2] 64) = wz at *
      have h1 := HP1.out.below hb
      have h2 := HP2.out.below hb
      go_ret
      exact ⟨_, rfl, zae HB3.out hb, trivial, w3.heap.size, m1, m2, hk2, trivial, hk1, h1, h2⟩
set_option maxHeartbeats 400000 in
set_option maxRecDepth 100000 in
theorem tidy_calls (t : Tr) (w : World) (p : Nat) (hP : PtA w t p) : Calls Try.prog 23 #[.pointer (some ⟨p, 0, none⟩)] w (PRes w (tid t)) := by
 have HI := zaa.mk (inward_calls t.nodes t (Nat.le_refl _) none 0 w p rfl hP)
 rw [inF_none] at HI
 clear hP
 go_enter Try.func23, Try.ntmps23
 go_wp2_with (first
  | (go_at_call 39; refine HI.out.mono ?_; rintro e w2 ⟨m, rfl, hb, hP⟩; have HB2 := zaa.mk hb; have HP2 := zaa.mk hP; clear hb hP))
 go_ret
 exact ⟨m, rfl, HB2.out, HP2.out⟩
theorem C_intT_cell {k : IntKind} {w : World} {A : Option Addr} {n : Nat} {l : List Int} (h : (Kd.int k).C w A n l) (i : Nat) (hi : i < n) : ∃ ad, A = some ad ∧ w.cell? (ad.add i) = some (.int k (rd l (i : Int))) := by
 obtain ⟨ad, c, e1, hc, hK, hx⟩ := Kd.C_get h (0 : Int) (i : Int) (by omega) (by omega)
 subst e1
 exact ⟨ad, rfl, by have := Kd.foot_int h (i : Int) (by omega) (by omega); simpa using this⟩
set_option maxHeartbeats 2000000 in
set_option maxRecDepth 100000 in
theorem cloneT_calls (A : Option Addr) (c : Nat) (xs : List Int) (w : World) (hC : (Kd.int .i64).C w A xs.length xs) (h0 : 0 < xs.length) (h6 : xs.length ≤ 1048576) :
  Calls Try.prog 51 #[.slice A xs.length c] w fun e w' => ∃ v', e = .returned v' ∧ Kd.R (Kd.int .i64) 3 w' w.heap.size (fun _ => True) v' xs ∧ Below w.heap.size w w' := by
 obtain ⟨ad, rfl, -⟩ := hC.2.2 h0
 have i3 : (Try.prog.info? 3).map (fun i => (i.zero, i.size, i.bytes)) = some (some (.int .i64 0), 1, 8) := by kernel_rfl
 obtain ⟨i0, hi, hzz⟩ := Option.map_eq_some_iff.1 i3
 simp only [Prod.mk.injEq] at hzz
 obtain ⟨hz0, hz1, hz2⟩ := hzz
 have HC := zaa.mk hC
 have H6 := zaa.mk h6
 have H0 := zaa.mk h0
 have HI := zaa.mk hi
 have HZ0 := zaa.mk hz0
 have HZ1 := zaa.mk hz1
 have HZ2 := zaa.mk hz2
 clear hC h6 h0 i3 hi hz0 hz1 hz2
 have q22 : ∀ (w : World) (a : Option Addr) (n c n' c' : Nat), (binOp .eql 22 (.slice a n c) (.slice none n' c')).run Try.prog w = .ok (.bool a.isNone) w := fun w a n c n' c' => Lib.run_eql_slice_nil w _ _ a n c n' c' Try.underlying22
 go_enter Try.func51, Try.ntmps51
 go_wp2_with (at_builtin; refine wpList_append_own _ rfl _ _ 22 rfl w.heap.size 3 i0 (.int .i64 0) 1 8 Try.underlying22 HI.out HZ0.out HZ1.out HZ2.out rfl (by decide) _ _ _ rfl (World.ownsRow_made w #[] 0 (Nat.le_refl _) (Nat.zero_le _) rfl) ad xs.length c (encs (Value.int .i64) xs) rfl ?qc1 ?qc2 ?qc3 ?qc4 ?qc5 ?qc6 ?_)
 case qc1 => rw [encs_length, Nat.mul_one]
 case qc2 =>
  intro j u hj
  have hjn : j < xs.length := by
   have := (List.getElem?_eq_some_iff.1 hj).1
   rwa [encs_length] at this
  obtain ⟨ad', e1, hx⟩ := C_intT_cell HC.out j hjn
  cases e1
  refine Lib.cell?_alloc_some _ ?_
  rw [hx]
  have e2 : (encs (Value.int .i64) xs)[j]? = some (Value.int .i64 (rd xs (j : Int))) := by
   unfold rd
   simp [encs, List.getD, hjn, List.getElem?_eq_getElem hjn]
  rw [e2] at hj
  exact hj
 case qc3 => intro u hu; obtain ⟨x, _, rfl⟩ := List.mem_map.1 hu; rfl
 case qc4 => have := H6.out; unfold maxLen; omega
 case qc5 => have := H6.out; omega
 case qc6 => simp
 intro v' w1 hown hgrow hnil
 have HO := zaa.mk hown
 have HG := zaa.mk hgrow
 clear hown hgrow hnil
 go_wp2
 go_ret
 refine ⟨v', rfl, Kd.R_of_own (by simpa using HO.out) (fun _ _ => trivial), ?_⟩
 exact ((Below.refl _ w).alloc (Nat.le_refl _) _).grown HG.out (by simp) (by intro k hk; simp [Value.ownBlock] at hk; omega)
def slices_Clone_int_int.f (l0 : List Int) : Option (List Int) := if 0 < l0.length ∧ l0.length ≤ 1048576 then some l0 else none
theorem slices_Clone_int_int.calls (A0 : Option Addr) (c0 : Nat) (l0 : List Int) (r : List Int) (w : World) (hr0 : Kd.C (Kd.int .i64) w A0 l0.length l0) (hc0 : l0.length ≤ c0) (h : slices_Clone_int_int.f l0 = some r) :
  Calls Try.prog 51 #[.slice A0 l0.length c0] w fun e w' => ∃ v0_ : Value, e = .returned (v0_) ∧ Kd.R (Kd.int .i64) 3 w' w.heap.size (fun _ => True) v0_ r ∧ Below w.heap.size w w' := by
 unfold slices_Clone_int_int.f at h
 split at h
 ·rename_i hs
  have e := Option.some.inj h
  rw [← e]
  exact cloneT_calls A0 c0 l0 w hr0 hs.1 hs.2
 ·cases h
set_option maxHeartbeats 2000000 in
set_option maxRecDepth 100000 in
theorem growT_calls (n : Nat) (h1 : 1 ≤ n) (hn : n ≤ 1000) (w : World) : Calls Try.prog 50 #[.slice none 0 0, .int .i64 (n : Int)] w fun e w' => ∃ v', e = .returned v' ∧ Kd.R (Kd.int .i64) 3 w' w.heap.size (fun _ => True) v' [] ∧ Below w.heap.size w w' := by
 have n0 : (0 : Int) < (n : Int) := by omega
 have n1 : ¬ (n : Int) < 0 := by omega
 have HN := zaa.mk hn
 go_enter Try.func50, Try.ntmps50
 go_wp2_with (first
  | ((with_reducible refine zci (b := .append) (xs := #[.tmp 20, .tmp 21]) rfl ?_); at_builtin; refine Kd.R_append_zeros (Kd.int .i64) (w0 := w) w.heap.size rfl (.tmp 20) (.tmp 21) 22 3 3 (.int .i64 0) 8 rfl Try.underlying22 Try.underlying3 (by kernel_rfl) rfl (by decide) (by decide) (.slice none 0 0) [] 0 (n : Int) (fun _ => True) rfl rfl (by rfl) (fun _ _ => trivial) (Kd.R_nil _ _ _ _ _) (by omega) (Below.refl _ _) (Nat.le_refl _) (by have := HN.out; simp; omega) ?_; intro v1 w1 hr hb hg hat; obtain ⟨A1, c1, e1⟩ := Kd.R_slice hr; subst e1; have HR1 := zaa.mk hr; have HB1 := zaa.mk hb; clear hr hb hg hat))
 go_ret
 exact ⟨_, rfl, by have h := Kd.R_take HR1.out (m := 0) (Nat.zero_le _); simpa using h, HB1.out⟩
end Go.Proofs.Ytgiidlebnjbgeaa.Hd
namespace Go.Proofs.Ytgiidlebnjbgeaa.TR
open Go.Proofs.Ytgiidlebnjbgeaa.PB Go.Proofs.Ytgiidlebnjbgeaa.Hd
open Go.RowKit Go.PW.PrintWords Go.PW.PrintLast Go.PW.PrintMore
attribute [local go_sem] zcc zca zcr zcq zbu zbt zcb zbz   -- for this text's walks alone
def errW : Option Int → Value
 | none => .nilIface
 | some c => .iface 0 (.int .i64 c)
theorem zan : errW none = .nilIface := rfl
theorem zam (c : Int) : errW (some c) = .iface 0 (.int .i64 c) := rfl
end Go.Proofs.Ytgiidlebnjbgeaa.TR
namespace Go.Proofs.Ytgiidlebnjbgeaa.TR
open Go.Proofs.Ytgiidlebnjbgeaa.PB Go.Proofs.Ytgiidlebnjbgeaa.Hd
open Go.RowKit Go.PW.PrintWords Go.PW.PrintLast Go.PW.PrintMore
attribute [local go_sem] zcc zca zcr zcq zbu zbt zcb zbz   -- for this text's walks alone
def impl_raised.l0 : Nat → Int → List Int → Int → Int → Option (List Int)
 | 0, _, _, _, _ => none
 | k + 1, x1, x5, x10, x11 => if x11 < x10 then (if 0 ≤ x11 then (if x11 < (x5.length : Int) then (impl_raised.l0 k x1 (x5.set (x11 : Int).toNat (wrap64 ((rd x5 x11) + x1))) x10 (wrap64 (x11 + 1))) else (none)) else (none)) else (some x5)
def impl_raised.f (k : Nat) (l0 : List Int) (a1 : Int) : Option (List Int) := (slices_Clone_int_int.f l0).bind fun t101 => (impl_raised.l0 k a1 t101 (t101.length : Int) 0)
set_option maxHeartbeats 8000000 in
set_option maxRecDepth 100000 in
theorem impl_raised.calls (k : Nat) (A0 : Option Addr) (c0 : Nat) (l0 : List Int) (a1 : Int) (r : List Int) (w : World) (hr0 : Kd.C (Kd.int .i64) w A0 l0.length l0) (hc0 : l0.length ≤ c0) (h : impl_raised.f k l0 a1 = some r) :
  Calls Try.prog 41 #[.slice A0 l0.length c0, .int .i64 a1] w fun e w' => ∃ v0_ : Value, e = .returned (v0_) ∧ Kd.R (Kd.int .i64) 3 w' w.heap.size (fun _ => True) v0_ r ∧ Below w.heap.size w w' := by
 have HR0 := zaa.mk hr0
 have HC0 := zaa.mk hc0
 clear hr0 hc0
 have HB := zaa.mk (Below.refl w.heap.size w)
 have H : ((slices_Clone_int_int.f l0).bind fun t101 => (impl_raised.l0 k a1 t101 (t101.length : Int) 0)) = some r := h
 clear h
 replace H := Option.bind_eq_some_iff.mp H
 obtain ⟨t101, A30, H⟩ := H
 replace H : (impl_raised.l0 k a1 t101 (t101.length : Int) 0) = some r := H
 have A3 := zaa.mk A30
 clear A30
 have H' := zaa.mk H
 clear H
 go_enter Try.func41, Try.ntmps41
 go_wp2_with (first | ((with_reducible refine zak (f := 51) rfl ?_); refine zbb (some 8) rfl rfl Try.func51 (by kernel_rfl) rfl #[.slice A0 l0.length c0] rfl (by (try simp only [List.map_toArray, List.map_cons, List.map_nil]); first | done | rfl | (simp only [List.length_drop, List.length_take]; rfl)) ?_; (with_reducible refine (slices_Clone_int_int.calls _ _ l0 t101 _ ?side1 ?side2 A3.out).mono ?_); (case side1 => repeat (first | exact HR0.out | (with_reducible refine Kd.C_alloc ?_ _) | (with_reducible refine Kd.C_drewN ?_ _) | (with_reducible refine Kd.C_drew ?_))); (case side2 => exact HC0.out); rintro e w4 ⟨v102, rfl, ho0, hb⟩; refine ⟨_, rfl, ?_⟩; have n0_ := zaa.mk (Kd.R_lower ho0 (zap (by repeat (first | (with_reducible first | exact HB.out | apply zac | apply zab | apply zad) | exact HB.out)))); have n1_ := zaa.mk (zae (by repeat (first | (with_reducible first | exact HB.out | apply zac | apply zab | apply zad) | exact HB.out)) hb); clear HB; have HO103 := n0_; have HB := n1_; clear n0_ n1_; (try clear hb); (try clear hb2); (try clear hk); (try clear hi); (try clear ho0); obtain ⟨Ao5, co5, eo5⟩ := Kd.R_slice HO103.out; subst eo5))
 go_loopg [11] k (fun kq v11 w' => ∃ (x5_1 : List Int) (x11_1 : Int), v11 = .int .i64 x11_1 ∧ zaa (impl_raised.l0 kq a1 x5_1 (t101.length : Int) x11_1 = some r) ∧ zaa (kq ≤ k) ∧ zaa (Kd.R (Kd.int .i64) 3 w' w.heap.size (fun _ => True) (.slice Ao5 t101.length co5) x5_1) ∧ zaa (Below w.heap.size w w'))
 case atStart => exact ⟨(t101), (0), (by first | rfl | (simp; done) | (simp [*]; done)), H', ⟨Nat.le_refl _⟩, ⟨by (with_reducible repeat (first | apply Kd.R_alloc | apply Kd.R_drewN | apply Kd.R_drew)); exact HO103.out⟩, ⟨by repeat (first | (with_reducible first | exact HB.out | apply zac | apply zab | apply zad) | exact HB.out)⟩⟩
 case round =>
  clear H'
  try clear p2
  try clear c4
  try clear c5
  obtain ⟨x5_1, x11_1, rfl, HA, HK1, HO_5, HB⟩ := hrel
  have hl5_1 := (Kd.R_reads' HO_5.out).1
  rw [hl5_1] at HO_5
  (try simp only [hl5_1])
  cases gk with
  | zero => exact absurd HA.out (by simp [impl_raised.l0])
  | succ k1 =>
   have H := HA.out
   clear HA
   simp only [impl_raised.l0] at H
   by_cases c6 : x11_1 < (t101.length : Int)
   ·rw [if_pos c6] at H
    have c6b0 : decide (x11_1 < (t101.length : Int)) = true := decide_eq_true c6
    clear c6
    by_cases c7 : 0 ≤ x11_1
    ·rw [if_pos c7] at H
     have c7b0 : decide (0 ≤ x11_1) = true := decide_eq_true c7
     clear c7
     by_cases c8 : x11_1 < (x5_1.length : Int)
     ·rw [if_pos c8] at H
      have c8b0 : decide (x11_1 < (x5_1.length : Int)) = true := decide_eq_true c8
      clear c8
      obtain ⟨y105, hy105⟩ : ∃ y_ : List Int, y_ = (x5_1.set (x11_1 : Int).toNat (wrap64 ((rd x5_1 x11_1) + a1))) := ⟨_, rfl⟩
      replace H : (impl_raised.l0 k1 a1 y105 (t101.length : Int) (wrap64 (x11_1 + 1))) = some r := by first | (rw [hy105]; with_reducible exact H) | (have H2_ := (Option.bind_some _ _).symm.trans H; rw [hy105]; with_reducible exact H2_) | (have H2_ := (Option.bind_some _ _).symm.trans H; with_reducible exact H2_) | with_reducible exact H | (rw [hy105]; exact H) | exact H
      have Ny105 := zaa.mk hy105
      clear hy105
      have H' := zaa.mk H
      clear H
      have p104 : 0 ≤ (x11_1 : Int) := of_decide_eq_true (by first | (with_reducible assumption) | assumption)
      have q104 : x11_1 < (x5_1.length : Int) := of_decide_eq_true (by first | (with_reducible assumption) | assumption)
      obtain ⟨ad104, e104, hx104_0⟩ := Kd.at_int (Kd.R_reads' HO_5.out).2.2 x11_1 p104 q104
      cases e104
      replace p104 := eq_true p104
      replace q104 := eq_true q104
      have p9 : 0 ≤ (x11_1 : Int) := of_decide_eq_true (by first | (with_reducible assumption) | assumption)
      have q9 : (x11_1 : Int) < ((x5_1.length : Int) : Int) := of_decide_eq_true (by first | (with_reducible assumption) | assumption)
      obtain ⟨go9, co9, eo9, gb9, gl9, cl9, HG9⟩ := Kd.R_form HO_5.out (by omega)
      (first | cases eo9 | (injection eo9 with ea_ en_ ec_; (first | subst ea_ | (injection ea_ with ea_; subst ea_)); subst ec_; clear en_))
      have GB9 := zaa.mk gb9
      have GG9 := zaa.mk HG9
      clear gb9 gl9 HG9
      (first | simp only [add_plain] at hx104_0 | skip)
      obtain ⟨hx9_0, hf9_0⟩ := Kd.R_celln 0 HO_5.out (x11_1 : Int) p9 q9
      replace p9 := eq_true p9
      replace q9 := eq_true q9
      have HP10 := Kd.R_putg HO_5.out (x11_1 : Int) (wrap64 ((rd x5_1 x11_1) + a1))
      go_wp2_with (first | ((with_reducible refine gate_store (t := 3) (p := 20) rfl ?_); refine store_event (t := 3) (p := 20) (v := ?vo_w11) (w1 := (wr.setCell ⟨go9, (x11_1 : Int).toNat, none⟩ (.int .i64 (wrap64 ((rd x5_1 x11_1) + a1))))) ?hg ?ho ?hn ?hr ?_; (case ho => rfl); (case hg => rfl); (case hn => rfl); (case hr => first | (go_simp; done) | (go_simp; rfl)); intro w11 hw; have hg : wr.grownBy w11 (some go9) := (by rw [hw]; exact HP10.2); have hp_ : Kd.R (Kd.int .i64) 3 w11 w.heap.size (fun _ => True) (.slice (some ⟨go9, 0, none⟩) x5_1.length co5) y105 := (by rw [hw, Ny105.out]; exact HP10.1); clear HP10; have n0_ := zaa.mk (hp_); have n1_ := zaa.mk ((by rw [hw]; exact zaf (HB.out) GB9.out : Below w.heap.size w w11)); clear HO_5; clear HB; have HO_5 := n0_; have HB := n1_; clear n0_ n1_; clear hg hw hp_))
      (try simp only [← hl5_1])
      go_roundg k1
      case measure => have := HK1.out; omega
      case rel => exact ⟨(y105), (wrap64 (x11_1 + 1)), (by first | rfl | (simp; done) | (simp [*]; done)), H', ⟨by have := HK1.out; omega⟩, ⟨by (try simp only [hl5_1]); (with_reducible repeat (first | apply Kd.R_alloc | apply Kd.R_drewN | apply Kd.R_drew)); exact HO_5.out⟩, ⟨by repeat (first | (with_reducible first | exact HB.out | apply zac | apply zab | apply zad) | exact HB.out)⟩⟩
     ·rw [if_neg c8] at H
      exact absurd H (by simp)
    ·rw [if_neg c7] at H
     exact absurd H (by simp)
   ·rw [if_neg c6] at H
    have c6b0 : decide (x11_1 < (t101.length : Int)) = false := decide_eq_false c6
    clear c6
    (try rw [hl5_1] at c6b0)
    obtain rfl := Option.some.inj H
    go_wp2
    go_ret
    exact ⟨_, by first | rfl | (simp [zan, zam] <;> rfl) | (simp [*, zan, zam] <;> rfl), by (with_reducible repeat (first | apply Kd.R_alloc | apply Kd.R_drewN | apply Kd.R_drew)); exact HO_5.out, by repeat (first | (with_reducible first | exact HB.out | apply zac | apply zab | apply zad) | exact HB.out)⟩
end Go.Proofs.Ytgiidlebnjbgeaa.TR
namespace Go.Proofs.Ytgiidlebnjbgeaa.Hd
open Go.RowKit Go.PW.PrintWords Go.PW.PrintLast Go.PW.PrintMore Go.Proofs.Ytgiidlebnjbgeaa.PB Go.Proofs.Ytgiidlebnjbgeaa.TR
theorem raised_l0 (l : List Int) (n : Nat) (hl : l.length ≤ 100000) (hn : n ≤ 100000) (hx : ∀ x ∈ l, 0 ≤ x ∧ x ≤ 100000) : ∀ m i, i + m = l.length → Evs (fun k => impl_raised.l0 k (n : Int) (zbg (l.take i) n ++ l.drop i) (l.length : Int) (i : Int)) (zbg l n) := by
 intro m
 induction m with
 | zero =>
  intro i hi
  rw [List.take_of_length_le (by omega), List.drop_eq_nil_of_le (by omega), List.append_nil]
  refine Evs.step (h := fun _ => some (zbg l n)) (fun k => ?_) (Evs.const _)
  conv => lhs; unfold impl_raised.l0
  rw [if_neg (by omega)]
 | succ m ih =>
  intro i hi
  have hget : l[i]? = some l[i] := List.getElem?_eq_getElem (by omega)
  have hr := hx l[i] (List.getElem_mem (by omega))
  have hnx := ih (i + 1) (by omega)
  have hli : (zbg (l.take i) n).length = i := by rw [zbd, List.length_take]; omega
  have hd : l.drop i = l[i] :: l.drop (i + 1) := List.drop_eq_getElem_cons (by omega)
  have e0 : (zbg (l.take i) n ++ l.drop i)[i]? = some l[i] := by rw [hd, List.getElem?_append_right (by omega), hli, Nat.sub_self]; rfl
  have e1 : rd (zbg (l.take i) n ++ l.drop i) (i : Int) = l[i] := by unfold rd; rw [Int.toNat_natCast, List.getD_eq_getElem?_getD, e0]; rfl
  have e2 : wrap64 ((i : Int) + 1) = ((i + 1 : Nat) : Int) := by rw [wrapT (by omega) (by omega)]; omega
  have e3 : wrap64 (l[i] + (n : Int)) = l[i] + (n : Int) := wrapT (by omega) (by omega)
  have es : (zbg (l.take i) n ++ l.drop i).set i (l[i] + (n : Int)) = zbg (l.take (i + 1)) n ++ l.drop (i + 1) := by
   rw [hd, List.set_append_right _ _ (by omega), hli, Nat.sub_self, List.set_cons_zero]
   unfold zbg
   rw [List.take_add_one, hget, List.map_append, List.append_assoc]
   rfl
  have hlen : (zbg (l.take i) n ++ l.drop i).length = l.length := by rw [List.length_append, hli, List.length_drop]; omega
  rw [← es] at hnx
  refine Evs.step (h := fun k => impl_raised.l0 k (n : Int) ((zbg (l.take i) n ++ l.drop i).set i (l[i] + (n : Int))) (l.length : Int) ((i + 1 : Nat) : Int)) (fun k => ?_) hnx
  conv => lhs; unfold impl_raised.l0
  rw [if_pos (by omega), if_pos (by omega), if_pos (by omega), e1, e2, e3, Int.toNat_natCast]
theorem raised_ev (l : List Int) (n : Nat) (h1 : 1 ≤ l.length) (hl : l.length ≤ 100000) (hn : n ≤ 100000) (hx : ∀ x ∈ l, 0 ≤ x ∧ x ≤ 100000) : Evs (fun k => impl_raised.f k l (n : Int)) (zbg l n) := by
 refine Evs.bindS (b := l) (by unfold slices_Clone_int_int.f; rw [if_pos (by omega)]) ?_
 exact raised_l0 l n hl hn hx l.length 0 (by omega)
def sz2 (a b : Nat) (i : Nat) : Nat := if i = 0 then 0 else if i = 1 then a else a + b
def cat2 (a b : List Int) (i : Nat) : List Int := if i = 0 then [] else if i = 1 then a else a ++ b
set_option maxHeartbeats 400000 in
set_option maxRecDepth 100000 in
theorem concat_calls (w : World) (g : Nat) (A1 A2 : Option Addr) (c1 c2 : Nat) (a b : List Int) (hk : w.heap[g]? = some (.cells #[.slice A1 a.length c1, .slice A2 b.length c2] 22 (0, 0))) (ha : (Kd.int .i64).C w A1 a.length a) (hb : (Kd.int .i64).C w A2 b.length b) (hl1 : a.length ≤ c1) (hl2 : b.length ≤ c2) (hs : a.length + b.length ≤ 1000) (h1 : 1 ≤ a.length) :
  Calls Try.prog 40 #[.slice (some ⟨g, 0, none⟩) 2 2] w fun e w' => ∃ v', e = .returned v' ∧ Kd.R (Kd.int .i64) 3 w' w.heap.size (fun _ => True) v' (a ++ b) ∧ Below w.heap.size w w' := by
 have x0 : w.cell? ⟨g, 0, none⟩ = some (.slice A1 a.length c1) := (zag hk 0).trans rfl
 have x1 : w.cell? ⟨g, 1, none⟩ = some (.slice A2 b.length c2) := (zag hk 1).trans rfl
 have HA := zaa.mk ha
 have HBb := zaa.mk hb
 have HS := zaa.mk hs
 have H1 := zaa.mk h1
 clear hk ha hb
 go_enter Try.func40, Try.ntmps40
 go_upto_region 3 with (fail)
 go_loopg [3, 11] 2 (fun kq v3 v11 w' => ∃ i : Nat, v3 = .int .i64 (sz2 a.length b.length i : Int) ∧ v11 = .int .i64 (i : Int) ∧ zaa (i + kq = 2) ∧ zaa (Below w.heap.size w w'))
 case atStart => exact ⟨0, rfl, rfl, ⟨rfl⟩, ⟨Below.refl _ _⟩⟩
 case round =>
  obtain ⟨i, rfl, rfl, HI, HBl⟩ := hrel
  have z0 := zah HBl.out x0
  have z1 := zah HBl.out x1
  rcases (show i = 0 ∨ i = 1 ∨ i = 2 by have := HI.out; omega) with rfl | rfl | rfl
  ·have e0 : sz2 a.length b.length 0 = 0 := rfl
   rw [e0]
   have y0 : ¬ (a.length : Int) < 0 := by omega
   go_wp2
   go_roundg (2 - 1)
   case measure => have := HI.out; omega
   case rel => exact ⟨1, by first | rfl | (simp [sz2]; done), by rfl, ⟨by have := HI.out; omega⟩, HBl⟩
  ·have e0 : sz2 a.length b.length 1 = a.length := rfl
   rw [e0]
   have y0 : ¬ (a.length : Int) + (b.length : Int) < 0 := by omega
   go_wp2
   go_roundg (2 - 2)
   case measure => have := HI.out; omega
   case rel => exact ⟨2, by first | rfl | (simp [sz2]; done), by rfl, ⟨by have := HI.out; omega⟩, HBl⟩
  ·have e0 : sz2 a.length b.length 2 = a.length + b.length := rfl
   rw [e0]
   obtain ⟨n, hn⟩ : ∃ n, n = a.length + b.length := ⟨_, rfl⟩
   rw [← hn]
   have HGr := zaa.mk (growT_calls n (by omega) (by omega) wr)
   clear hn
   go_upto_region 11 with (first
    | (go_at_call 50; refine HGr.out.mono ?_; rintro e w3 ⟨v3, rfl, hr, hb⟩; obtain ⟨A3, c3, e3⟩ := Kd.R_slice hr; subst e3; have HR3 := zaa.mk (Kd.R_lower hr HBl.out.size); have HB3 := zaa.mk (zae HBl.out hb); clear hr hb))
   go_loopg [6, 27] 2 (fun kq v6 v27 w' => ∃ (i : Nat) (A : Option Addr) (c : Nat), v6 = .slice A (cat2 a b i).length c ∧ v27 = .int .i64 (i : Int) ∧ zaa (i + kq = 2) ∧ zaa (Kd.R (Kd.int .i64) 3 w' w.heap.size (fun _ => True) (.slice A (cat2 a b i).length c) (cat2 a b i)) ∧ zaa (Below w.heap.size w w'))
   case atStart => exact ⟨0, A3, c3, rfl, rfl, ⟨rfl⟩, HR3, HB3⟩
   case round =>
    clear HR3 HB3 HI HBl z0 z1
    obtain ⟨i, Av, cv, rfl, rfl, HI, HR, HBl⟩ := hrel
    have z0 := zah HBl.out x0
    have z1 := zah HBl.out x1
    rcases (show i = 0 ∨ i = 1 ∨ i = 2 by have := HI.out; omega) with rfl | rfl | rfl
    ·have HRi := zaa.mk (show Kd.R (Kd.int .i64) 3 wr w.heap.size (fun _ => True) (.slice Av 0 cv) ([] : List Int) from HR.out)
     clear HR
     have ec : (cat2 a b 0).length = 0 := rfl
     rw [ec]
     go_wp2_with (first
      | ((with_reducible refine zci (b := .append) (xs := #[.tmp 31, .tmp 32]) rfl ?_); at_builtin; refine Kd.R_append_row (Value.int .i64) (0 : Int) (h1 := fun _ => rfl) (w0 := w) w.heap.size rfl (.tmp 31) (.tmp 32) 22 3 (.int .i64 0) 8 rfl Try.underlying22 info3 rfl (by decide) (.slice Av 0 cv) ([] : List Int) a A1 a.length c1 (fun _ => True) rfl rfl (fun _ _ => trivial) HRi.out (Kd.C_below HA.out HBl.out) HBl.out HBl.out.size (by have := HS.out; first | omega | (simp; omega)) ?_; intro v1 w1 ho hb hg hat; obtain ⟨Aw, cw, ew⟩ := Kd.R_slice ho; subst ew; have HR1 := zaa.mk ho; have HB1 := zaa.mk hb; clear ho hb hg hat))
     go_roundg (2 - 1)
     case measure => have := HI.out; omega
     case rel => exact ⟨1, Aw, cw, by first | rfl | (simp [cat2]; done), by rfl, ⟨by have := HI.out; omega⟩, ⟨by have h := HR1.out; first | exact h | (simpa [cat2] using h)⟩, HB1⟩
    ·have HRi := zaa.mk (show Kd.R (Kd.int .i64) 3 wr w.heap.size (fun _ => True) (.slice Av a.length cv) (a) from HR.out)
     clear HR
     have ec : (cat2 a b 1).length = a.length := rfl
     rw [ec]
     go_wp2_with (first
      | ((with_reducible refine zci (b := .append) (xs := #[.tmp 31, .tmp 32]) rfl ?_); at_builtin; refine Kd.R_append_row (Value.int .i64) (0 : Int) (h1 := fun _ => rfl) (w0 := w) w.heap.size rfl (.tmp 31) (.tmp 32) 22 3 (.int .i64 0) 8 rfl Try.underlying22 info3 rfl (by decide) (.slice Av a.length cv) (a) b A2 b.length c2 (fun _ => True) rfl rfl (fun _ _ => trivial) HRi.out (Kd.C_below HBb.out HBl.out) HBl.out HBl.out.size (by have := HS.out; first | omega | (simp; omega)) ?_; intro v1 w1 ho hb hg hat; obtain ⟨Aw, cw, ew⟩ := Kd.R_slice ho; subst ew; have HR1 := zaa.mk ho; have HB1 := zaa.mk hb; clear ho hb hg hat))
     go_roundg (2 - 2)
     case measure => have := HI.out; omega
     case rel => exact ⟨2, Aw, cw, by first | rfl | (simp [cat2]; done), by rfl, ⟨by have := HI.out; omega⟩, ⟨by have h := HR1.out; first | exact h | (simpa [cat2] using h)⟩, HB1⟩
    ·have HRi := zaa.mk (show Kd.R (Kd.int .i64) 3 wr w.heap.size (fun _ => True) (.slice Av (a ++ b).length cv) (a ++ b) from HR.out)
     clear HR
     have ec : (cat2 a b 2).length = (a ++ b).length := rfl
     rw [ec]
     go_wp2
     go_ret
     exact ⟨_, rfl, by have h := HRi.out; simpa using h, HBl.out⟩
def PermI (w : World) (t : Tr) (e : Ending) (w' : World) : Prop := ∃ v', e = .returned v' ∧ Kd.R (Kd.int .i64) 3 w' w.heap.size (fun _ => True) v' (zbc t) ∧ Below w.heap.size w w'
set_option maxHeartbeats 400000 in
set_option maxRecDepth 100000 in
theorem permI_calls : ∀ (t : Tr), t.tidy = true → t.nodes ≤ 100 → ∀ (w : World) (p : Nat), PtA w t p → Calls Try.prog 24 #[.pointer (some ⟨p, 0, none⟩)] w (PermI w t) := by
 intro t
 induction t with
 | un c t ih => intro h; cases h
 | o =>
  intro _ _ w p hP
  obtain ⟨-, hk⟩ := hP
  have x1 : w.cell? ⟨p, 1, none⟩ = some (.slice none 0 0) := (zag hk 1).trans rfl
  clear hk
  go_enter Try.func24, Try.ntmps24
  go_wp2_with (first
   | ((with_reducible refine zbe (N := 11) rfl ?_); refine Kd.R_lit (Kd.int .i64) _ 3 ?hg (N := 11) ?hd (xs := ([0] : List Int)) (inner := [.int .i64 0]) (ok := fun _ => True) (okp := fun _ => True) ?hr ?hp (fun _ hk => hk) trivial (Below.refl _ _) (Nat.le_refl _) (by simp) ?_; (case hd => rfl); (case hg => rfl); (case hr => first | (go_simp; done) | (go_simp; rfl)); (case hp => exact (Reps.one (show Kd.M (Kd.int .i64) _ _ _ 0 [.int .i64 0] from rfl) (Reps.none _ _))); intro v5 w5 ho hb hg_ hnew_; clear hg_ hnew_; have HR5 := zaa.mk ho; have HB5 := zaa.mk hb; clear ho hb))
  go_ret
  exact ⟨_, rfl, HR5.out, HB5.out⟩
 | bin s x y ihx ihy =>
  intro htd hn w p hP
  simp only [Tr.tidy, Bool.and_eq_true] at htd
  simp only [Tr.nodes] at hn
  obtain ⟨-, q, k, l, hk, -, hk2, hPk, hPl⟩ := hP
  have HX := zaa.mk (fun w p h => ihx htd.1 (by omega) w p h)
  have HY := zaa.mk (fun w p h => ihy htd.2 (by omega) w p h)
  have hla := zbf x
  have hlb := zbf y
  have HLen := zaa.mk (show (zbc x).length + (zbc y).length ≤ 200 ∧ 1 ≤ (zbc x).length ∧ 1 ≤ (zbc y).length by omega)
  obtain ⟨K, hK⟩ := raised_ev (zbc y) (zbc x).length (by omega) (by omega) (by omega) (fun z hz => by have := zbs y z hz; omega)
  have HRa := zaa.mk (hK K (Nat.le_refl K))
  have HDef := zaa.mk (show zbc (.bin s x y) = if s then zbc x ++ zbg (zbc y) (zbc x).length else zbg (zbc y) (zbc x).length ++ zbc x by cases s <;> rfl)
  have x0 : w.cell? ⟨p, 0, none⟩ = some (.int .u8 (binC s)) := (zag hk 0).trans rfl
  have x1 : w.cell? ⟨p, 1, none⟩ = some (.slice (some ⟨q, 0, none⟩) 2 2) := (zag hk 1).trans rfl
  have x2 : w.cell? ⟨q, 0, none⟩ = some (.pointer (some ⟨k, 0, none⟩)) := (zag hk2 0).trans rfl
  have x3 : w.cell? ⟨q, 1, none⟩ = some (.pointer (some ⟨l, 0, none⟩)) := (zag hk2 1).trans rfl
  have HPk := zaa.mk hPk
  have HPl := zaa.mk hPl
  have HX0 := zaa.mk x0
  clear hk hk2 hPk hPl hn ihx ihy htd hla hlb hK x0
  unfold PermI at HX HY
  unfold PermI
  obtain ⟨res, hres⟩ : ∃ res, res = zbc (.bin s x y) := ⟨_, rfl⟩
  rw [← hres]
  have HRes := zaa.mk (hres.trans HDef.out)
  clear HDef hres
  generalize zbc x = a at *
  generalize zbc y = b at *
  go_enter Try.func24, Try.ntmps24
  go_upto_region 3 with (fail)
  refine start_ (n := 16) (S := fun w' => (w'.cell? ⟨p, 1, none⟩ = some (.slice (some ⟨q, 0, none⟩) 2 2)) ∧ (w'.cell? ⟨q, 0, none⟩ = some (.pointer (some ⟨k, 0, none⟩))) ∧ (w'.cell? ⟨q, 1, none⟩ = some (.pointer (some ⟨l, 0, none⟩))) ∧ (PtA w' x k) ∧ (PtA w' y l) ∧ (Below w.heap.size w w')) (ds := []) #[false, false, false, false, false, false, false, false, false, false, false, false, false, false, false, false] (by kernel_rfl) rfl rfl (⟨x1, x2, x3, HPk.out.drew, HPl.out.drew, zbn (Below.refl _ _)⟩) (fun hHeld => ?_)
  clear x1 x2 x3
  refine zba (i := 0) (N := some 12) (v := ?_) (a' := ?_) #[true, false, false, false, false, false, false, false, false, false, false, false, false, false, false, false] rfl rfl (by kernel_rfl) (fun _ _ _ h => h) (Or.inl ⟨by rfl, ?_⟩) ?_ ?_
  rotate_left
  ·intro w'
   go_simp
   with_reducible rfl
  rotate_left
  ·simp only [Act.put, List.setIfInBounds_toArray, List.set_cons_zero, List.set_cons_succ, zaq, zar]
   rfl
  refine zba (i := 1) (N := some 13) (v := ?_) (a' := ?_) #[true, true, false, false, false, false, false, false, false, false, false, false, false, false, false, false] rfl rfl (by kernel_rfl) (fun _ _ _ h => h) (Or.inl ⟨by rfl, ?_⟩) ?_ ?_
  rotate_left
  ·intro w'
   go_simp
   with_reducible rfl
  rotate_left
  ·simp only [Act.put, List.setIfInBounds_toArray, List.set_cons_zero, List.set_cons_succ, zaq, zar]
   rfl
  refine zba (i := 2) (N := some 14) (v := ?_) (a' := ?_) #[true, true, true, false, false, false, false, false, false, false, false, false, false, false, false, false] rfl rfl (by kernel_rfl) (fun _ _ _ h => h) (Or.inl ⟨by rfl, ?_⟩) ?_ ?_
  rotate_left
  ·intro w'
   go_simp
   with_reducible rfl
  rotate_left
  ·simp only [Act.put, List.setIfInBounds_toArray, List.set_cons_zero, List.set_cons_succ, zaq, zar]
   rfl
  refine take_ (i := 3) (N := some 15) (v := ?_) (a' := ?_) #[true, true, true, true, false, false, false, false, false, false, false, false, false, false, false, false] rfl rfl (by kernel_rfl) (fun _ _ _ h => h) (Or.inl ⟨by rfl, ?_⟩) hHeld ?_ ?_
  rotate_left
  ·rintro w' ⟨s0, s1, s2, s3, s4, s5⟩
   go_simp
   with_reducible rfl
  rotate_left
  ·simp only [Act.put, List.setIfInBounds_toArray, List.set_cons_zero, List.set_cons_succ, zaq, zar]
   rfl
  refine zba (i := 4) (N := some 16) (v := ?_) (a' := ?_) #[true, true, true, true, true, false, false, false, false, false, false, false, false, false, false, false] rfl rfl (by kernel_rfl) (fun _ _ _ h => h) (Or.inl ⟨by rfl, ?_⟩) ?_ ?_
  rotate_left
  ·intro w'
   go_simp
   with_reducible rfl
  rotate_left
  ·simp only [Act.put, List.setIfInBounds_toArray, List.set_cons_zero, List.set_cons_succ, zaq, zar]
   rfl
  refine take_ (i := 5) (N := some 17) (v := ?_) (a' := ?_) #[true, true, true, true, true, true, false, false, false, false, false, false, false, false, false, false] rfl rfl (by kernel_rfl) (fun _ _ _ h => h) (Or.inl ⟨by rfl, ?_⟩) hHeld ?_ ?_
  rotate_left
  ·rintro w' ⟨s0, s1, s2, s3, s4, s5⟩
   go_simp
   with_reducible rfl
  rotate_left
  ·simp only [Act.put, List.setIfInBounds_toArray, List.set_cons_zero, List.set_cons_succ, zaq, zar]
   rfl
  refine zba (i := 7) (N := some 19) (v := ?_) (a' := ?_) #[true, true, true, true, true, true, false, true, false, false, false, false, false, false, false, false] rfl rfl (by kernel_rfl) (fun _ _ _ h => h) (Or.inl ⟨by rfl, ?_⟩) ?_ ?_
  rotate_left
  ·intro w'
   go_simp
   with_reducible rfl
  rotate_left
  ·simp only [Act.put, List.setIfInBounds_toArray, List.set_cons_zero, List.set_cons_succ, zaq, zar]
   rfl
  refine zba (i := 8) (N := some 20) (v := ?_) (a' := ?_) #[true, true, true, true, true, true, false, true, true, false, false, false, false, false, false, false] rfl rfl (by kernel_rfl) (fun _ _ _ h => h) (Or.inl ⟨by rfl, ?_⟩) ?_ ?_
  rotate_left
  ·intro w'
   go_simp
   with_reducible rfl
  rotate_left
  ·simp only [Act.put, List.setIfInBounds_toArray, List.set_cons_zero, List.set_cons_succ, zaq, zar]
   rfl
  refine zba (i := 9) (N := some 21) (v := ?_) (a' := ?_) #[true, true, true, true, true, true, false, true, true, true, false, false, false, false, false, false] rfl rfl (by kernel_rfl) (fun _ _ _ h => h) (Or.inl ⟨by rfl, ?_⟩) ?_ ?_
  rotate_left
  ·intro w'
   go_simp
   with_reducible rfl
  rotate_left
  ·simp only [Act.put, List.setIfInBounds_toArray, List.set_cons_zero, List.set_cons_succ, zaq, zar]
   rfl
  refine take_ (i := 10) (N := some 22) (v := ?_) (a' := ?_) #[true, true, true, true, true, true, false, true, true, true, true, false, false, false, false, false] rfl rfl (by kernel_rfl) (fun _ _ _ h => h) (Or.inl ⟨by rfl, ?_⟩) hHeld ?_ ?_
  rotate_left
  ·rintro w' ⟨s0, s1, s2, s3, s4, s5⟩
   go_simp
   with_reducible rfl
  rotate_left
  ·simp only [Act.put, List.setIfInBounds_toArray, List.set_cons_zero, List.set_cons_succ, zaq, zar]
   rfl
  refine zba (i := 11) (N := some 23) (v := ?_) (a' := ?_) #[true, true, true, true, true, true, false, true, true, true, true, true, false, false, false, false] rfl rfl (by kernel_rfl) (fun _ _ _ h => h) (Or.inl ⟨by rfl, ?_⟩) ?_ ?_
  rotate_left
  ·intro w'
   go_simp
   with_reducible rfl
  rotate_left
  ·simp only [Act.put, List.setIfInBounds_toArray, List.set_cons_zero, List.set_cons_succ, zaq, zar]
   rfl
  refine take_ (i := 12) (N := some 24) (v := ?_) (a' := ?_) #[true, true, true, true, true, true, false, true, true, true, true, true, true, false, false, false] rfl rfl (by kernel_rfl) (fun _ _ _ h => h) (Or.inl ⟨by rfl, ?_⟩) hHeld ?_ ?_
  rotate_left
  ·rintro w' ⟨s0, s1, s2, s3, s4, s5⟩
   go_simp
   with_reducible rfl
  rotate_left
  ·simp only [Act.put, List.setIfInBounds_toArray, List.set_cons_zero, List.set_cons_succ, zaq, zar]
   rfl
  refine one_ (i := 6) (N := some 18) #[true, true, true, true, true, true, true, true, true, true, true, true, true, false, false, false] rfl rfl (by kernel_rfl) (by decide) (fun K hK => ?_)
  refine goes_ Try.func24 (by kernel_rfl) rfl #[.pointer (some ⟨k, 0, none⟩)] (by rfl) rfl rfl (by (try simp only [List.map_toArray, List.map_cons, List.map_nil]); first | done | rfl) ?_
  have hs_ := hHeld
  obtain ⟨s0, s1, s2, s3, s4, s5⟩ := hs_
  refine (HX.out _ k s3).mono ?_
  rintro e w2 ⟨v1, rfl, hr1, hb⟩
  obtain ⟨A1, c1, e1, hl1, hC1⟩ := Kd.R_reads hr1
  subst e1
  have HC12 := zaa.mk hC1
  have HL1 := zaa.mk hl1
  clear hr1 hl1 hC1
  refine ⟨_, rfl, ?_⟩
  refine hK.out _ _ ⟨zah hb s0, zah hb s1, zah hb s2, PtAt.below s3 hb, PtAt.below s4 hb, zae s5 hb⟩ (fun hHeld => ?_)
  clear hK K hb s0 s1 s2 s3 s4 s5
  refine norm_ (a' := ?_) ?_ ?_
  rotate_left
  ·show Act.put _ (some 18) _ = _
   simp only [Act.put, List.setIfInBounds_toArray, List.set_cons_zero, List.set_cons_succ, zaq, zar]
   rfl
  refine one_ (i := 13) (N := some 25) #[true, true, true, true, true, true, true, true, true, true, true, true, true, true, false, false] rfl rfl (by kernel_rfl) (by decide) (fun K hK => ?_)
  refine goes_ Try.func24 (by kernel_rfl) rfl #[.pointer (some ⟨l, 0, none⟩)] (by rfl) rfl rfl (by (try simp only [List.map_toArray, List.map_cons, List.map_nil]); first | done | rfl) ?_
  have hs_ := hHeld
  obtain ⟨s0, s1, s2, s3, s4, s5⟩ := hs_
  refine (HY.out _ l s4).mono ?_
  rintro e w3 ⟨v2, rfl, hr2, hb⟩
  obtain ⟨A2, c2, e2, hl2, hC2⟩ := Kd.R_reads hr2
  subst e2
  have HC1 := zaa.mk (Kd.C_below HC12.out hb)
  have HC2 := zaa.mk hC2
  have HL2 := zaa.mk hl2
  have HB3 := zaa.mk (zae s5 hb)
  clear hr2 hl2 hC2
  refine ⟨_, rfl, ?_⟩
  refine hK.out _ _ ⟨zah hb s0, zah hb s1, zah hb s2, PtAt.below s3 hb, PtAt.below s4 hb, zae s5 hb⟩ (fun hHeld => ?_)
  clear hK K hb s0 s1 s2 s3 s4 s5
  refine norm_ (a' := ?_) ?_ ?_
  rotate_left
  ·show Act.put _ (some 25) _ = _
   simp only [Act.put, List.setIfInBounds_toArray, List.set_cons_zero, List.set_cons_succ, zaq, zar]
   rfl
  refine zba (i := 14) (N := some 3) (v := ?_) (a' := ?_) #[true, true, true, true, true, true, true, true, true, true, true, true, true, true, true, false] rfl rfl (by kernel_rfl) (fun _ _ _ h => h) (Or.inl ⟨by rfl, ?_⟩) ?_ ?_
  rotate_left
  ·intro w'
   go_simp
   with_reducible rfl
  rotate_left
  ·simp only [Act.put, List.setIfInBounds_toArray, List.set_cons_zero, List.set_cons_succ, zaq, zar]
   rfl
  refine zba (i := 15) (N := some 4) (v := ?_) (a' := ?_) #[true, true, true, true, true, true, true, true, true, true, true, true, true, true, true, true] rfl rfl (by kernel_rfl) (fun _ _ _ h => h) (Or.inl ⟨by rfl, ?_⟩) ?_ ?_
  rotate_left
  ·intro w'
   go_simp
   with_reducible rfl
  rotate_left
  ·simp only [Act.put, List.setIfInBounds_toArray, List.set_cons_zero, List.set_cons_succ, zaq, zar]
   rfl
  refine done_ (by kernel_rfl) ?_
  have hsgn := zah HB3.out HX0.out
  clear HX0
  obtain ⟨u, hu⟩ : ∃ u, u = binC s := ⟨_, rfl⟩
  rw [← hu] at hsgn
  have x0 := hsgn
  cases s with
  | true =>
   replace hu : u = 124 := hu
   subst hu
   clear hsgn
   go_wp2_with (first
    | (go_at_call 41; refine (impl_raised.calls K A2 c2 b (a.length : Int) (zbg b a.length) _ HC2.out HL2.out HRa.out).mono ?_; rintro e w4 ⟨v4, rfl, hr, hb⟩; obtain ⟨A4, c4, e4, hl4, hC4⟩ := Kd.R_reads hr; subst e4; have HB4 := zaa.mk (zae HB3.out hb); have HC4 := zaa.mk hC4; have HL4 := zaa.mk hl4; have HC14 := zaa.mk (Kd.C_below HC1.out hb); clear hr hb hl4 hC4)
    | ((with_reducible refine zbe (N := 36) rfl ?_); refine zbx ?hg (N := 36) ?hd (n := 2) (cs := #[.slice A1 a.length c1, .slice A4 (zbg b a.length).length c4]) (t := 22) ?hr ?_; (case hd => rfl); (case hg => rfl); (case hr => first | (go_simp; done) | (go_simp; rfl)); intro pb hpb w5 hk hb; have HKb := zaa.mk hk; have HB5 := zaa.mk (zae HB4.out hb); have HC15 := zaa.mk (Kd.C_below HC14.out hb); have HC45 := zaa.mk (Kd.C_below HC4.out hb); clear hk hb hpb)
    | (go_at_call 40; refine (concat_calls _ pb A1 A4 c1 c4 a (zbg b a.length) HKb.out HC15.out HC45.out HL1.out HL4.out (by have := HLen.out; rw [zbd]; omega) (by have := HLen.out; first | omega | (rw [zbd]; omega))).mono ?_; rintro e w6 ⟨v6, rfl, hr, hb⟩; have HR6 := zaa.mk (Kd.R_lower hr HB5.out.size); have HB6 := zaa.mk (zae HB5.out hb); clear hr hb))
   go_ret
   have hr : res = a ++ zbg b a.length := HRes.out
   rw [hr]
   exact ⟨_, rfl, HR6.out, HB6.out⟩
  | false =>
   replace hu : u = 45 := hu
   subst hu
   clear hsgn
   go_wp2_with (first
    | (go_at_call 41; refine (impl_raised.calls K A2 c2 b (a.length : Int) (zbg b a.length) _ HC2.out HL2.out HRa.out).mono ?_; rintro e w4 ⟨v4, rfl, hr, hb⟩; obtain ⟨A4, c4, e4, hl4, hC4⟩ := Kd.R_reads hr; subst e4; have HB4 := zaa.mk (zae HB3.out hb); have HC4 := zaa.mk hC4; have HL4 := zaa.mk hl4; have HC14 := zaa.mk (Kd.C_below HC1.out hb); clear hr hb hl4 hC4)
    | ((with_reducible refine zbe (N := 43) rfl ?_); refine zbx ?hg (N := 43) ?hd (n := 2) (cs := #[.slice A4 (zbg b a.length).length c4, .slice A1 a.length c1]) (t := 22) ?hr ?_; (case hd => rfl); (case hg => rfl); (case hr => first | (go_simp; done) | (go_simp; rfl)); intro pb hpb w5 hk hb; have HKb := zaa.mk hk; have HB5 := zaa.mk (zae HB4.out hb); have HC15 := zaa.mk (Kd.C_below HC14.out hb); have HC45 := zaa.mk (Kd.C_below HC4.out hb); clear hk hb hpb)
    | (go_at_call 40; refine (concat_calls _ pb A4 A1 c4 c1 (zbg b a.length) a HKb.out HC45.out HC15.out HL4.out HL1.out (by have := HLen.out; rw [zbd]; omega) (by have := HLen.out; first | omega | (rw [zbd]; omega))).mono ?_; rintro e w6 ⟨v6, rfl, hr, hb⟩; have HR6 := zaa.mk (Kd.R_lower hr HB5.out.size); have HB6 := zaa.mk (zae HB5.out hb); clear hr hb))
   go_ret
   have hr : res = zbg b a.length ++ a := HRes.out
   rw [hr]
   exact ⟨_, rfl, HR6.out, HB6.out⟩
def impl_TermPerm.f (s : ByteArray) : Option (List Int × Bool) := if s.size ≤ 1048576 then some (zaz s) else none
set_option maxHeartbeats 400000 in
set_option maxRecDepth 100000 in
theorem implPerm_calls (s : ByteArray) (hs : s.size ≤ 1048576) (w : World) : Calls Try.prog 8 #[.string s] w (PermRes w (zaz s)) := by
 have HOf := zaa.mk (termOf_calls s hs w)
 cases hof : ofR s with
 | none =>
  have HR := zaa.mk (show zaz s = ([], false) by unfold zaz; rw [hof])
  rw [hof] at HOf
  clear hof
  go_enter Try.func8, Try.ntmps8
  go_wp2_with (first
   | (go_at_call 22; refine HOf.out.mono ?_; rintro e w2 ⟨q, rfl, hb, hres⟩; replace hres : q = none := hres; subst hres; have HB2 := zaa.mk hb; clear hb))
  go_ret2
  rw [HR.out]
  exact ⟨_, rfl, Kd.R_nil _ _ _ _ _, HB2.out⟩
 | some t =>
  have HR := zaa.mk (show zaz s = (zbc (tid t), true) by unfold zaz; rw [hof])
  have HN := zaa.mk (show (tid t).nodes ≤ 100 by have := ofR_nodes hof; have := tid_nodes t; omega)
  rw [hof] at HOf
  clear hof
  go_enter Try.func8, Try.ntmps8
  go_wp2_with (first
   | (go_at_call 22; refine HOf.out.mono ?_; rintro e w2 ⟨q, rfl, hb, hres⟩; replace hres : ∃ p, q = some ⟨p, 0, none⟩ ∧ PtAt w2 (fun _ => True) t p := hres; obtain ⟨p, rfl, hP⟩ := hres; have HB2 := zaa.mk hb; have HP2 := zaa.mk hP; clear hb hP)
   | (go_at_call 23; refine (tidy_calls t _ p HP2.out).mono ?_; rintro e w3 ⟨m, rfl, hb, hP⟩; have HB3 := zaa.mk (zae HB2.out hb); have HP3 := zaa.mk hP; clear hb hP)
   | (go_at_call 24; refine (permI_calls (tid t) (zby t) HN.out _ m HP3.out).mono ?_; rintro e w4 ⟨v4, rfl, hr, hb⟩; have HR4 := zaa.mk (Kd.R_lower hr HB3.out.size); have HB4 := zaa.mk (zae HB3.out hb); clear hr hb))
  go_ret2
  rw [HR.out]
  exact ⟨_, rfl, HR4.out, HB4.out⟩
theorem impl_TermPerm.calls (a0 : ByteArray) (r1 : List Int) (r2 : Bool) (w : World) (h : impl_TermPerm.f a0 = some (r1, r2)) :
  Calls Try.prog 8 #[.string a0] w fun e w' => ∃ v0_ : Value, e = .returned (.tuple #[v0_, .bool r2]) ∧ Kd.R (Kd.int .i64) 3 w' w.heap.size (fun _ => True) v0_ r1 ∧ Below w.heap.size w w' := by
 unfold impl_TermPerm.f at h
 split at h
 ·rename_i hs
  have e := Option.some.inj h
  have := implPerm_calls a0 hs w
  rw [e] at this
  exact this
 ·cases h
end Go.Proofs.Ytgiidlebnjbgeaa.Hd
namespace Go.Proofs.Ytgiidlebnjbgeaa.Hd
open Go.RowKit Go.PW.PrintWords Go.PW.PrintLast Go.PW.PrintMore Go.Proofs.Ytgiidlebnjbgeaa.PB
def byteS (c : UInt8) : ByteArray := ⟨#[c]⟩
def zcn : Tr → ByteArray
 | .o => byteS 111
 | .un b t => byteS (if b then 62 else 94) ++ zcn t
 | .bin b x y => byteS 40 ++ zcn x ++ byteS (if b then 124 else 45) ++ zcn y ++ byteS 41
theorem zcm : ∀ t : Tr, (zcn t).size ≤ 4 * t.nodes
 | .o => by show (1 : Nat) ≤ 4 * 1; omega
 | .un b t => by
  have := zcm t
  simp only [zcn, Tr.nodes, ByteArray.size_append]
  have : ∀ c : UInt8, (byteS c).size = 1 := fun _ => rfl
  rw [this]
  omega
 | .bin b x y => by
  have := zcm x
  have := zcm y
  simp only [zcn, Tr.nodes, ByteArray.size_append]
  have : ∀ c : UInt8, (byteS c).size = 1 := fun _ => rfl
  rw [this, this, this]
  omega
set_option maxHeartbeats 400000 in
set_option maxRecDepth 100000 in
theorem textP_calls : ∀ (t : Tr), t.tidy = true → t.nodes ≤ 1000 → ∀ (w : World) (p : Nat), PtA w t p → Calls Try.prog 29 #[.pointer (some ⟨p, 0, none⟩)] w fun e w' => e = .returned (.string (zcn t)) ∧ Below w.heap.size w w' := by
 intro t
 induction t with
 | un c t ih => intro h; cases h
 | o =>
  intro _ _ w p hP
  obtain ⟨-, hk⟩ := hP
  have x0 : w.cell? ⟨p, 0, none⟩ = some (.int .u8 111) := (zag hk 0).trans rfl
  have x1 : w.cell? ⟨p, 1, none⟩ = some (.slice none 0 0) := (zag hk 1).trans rfl
  clear hk
  go_enter Try.func29, Try.ntmps29
  go_wp2
  go_ret
  have e : Utf8.encode 111 = zcn .o := by kernel_rfl
  exact ⟨by rw [← e]; rfl, Below.refl _ _⟩
 | bin s x y ihx ihy =>
  intro htd hn w p hP
  simp only [Tr.nodes] at hn
  simp only [Tr.tidy, Bool.and_eq_true] at htd
  obtain ⟨-, q, k, l, hk, -, hk2, hPk, hPl⟩ := hP
  have HX := zaa.mk (ihx htd.1 (by omega))
  have HY := zaa.mk (ihy htd.2 (by omega))
  obtain ⟨u, hu⟩ : ∃ u, u = binC s := ⟨_, rfl⟩
  rw [← hu] at hk
  have HE := zaa.mk (show Utf8.encode u = byteS (if s then 124 else 45) by rw [hu]; cases s <;> kernel_rfl)
  have HDef := zaa.mk (show zcn (.bin s x y) = byteS 40 ++ zcn x ++ byteS (if s then 124 else 45) ++ zcn y ++ byteS 41 from rfl)
  have w32 : wrap32 u = u := by rw [hu]; cases s <;> (unfold wrap32 binC; decide)
  have x0 : w.cell? ⟨p, 0, none⟩ = some (.int .u8 u) := (zag hk 0).trans rfl
  have x1 : w.cell? ⟨p, 1, none⟩ = some (.slice (some ⟨q, 0, none⟩) 2 2) := (zag hk 1).trans rfl
  have x2 : w.cell? ⟨q, 0, none⟩ = some (.pointer (some ⟨k, 0, none⟩)) := (zag hk2 0).trans rfl
  have x3 : w.cell? ⟨q, 1, none⟩ = some (.pointer (some ⟨l, 0, none⟩)) := (zag hk2 1).trans rfl
  have HPk := zaa.mk hPk
  have HPl := zaa.mk hPl
  clear hk hk2 hPk hPl ihx ihy htd hu
  rw [HDef.out]
  clear HDef
  obtain ⟨ta, hta⟩ : ∃ ta, ta = zcn x := ⟨_, rfl⟩
  obtain ⟨tb, htb⟩ : ∃ tb, tb = zcn y := ⟨_, rfl⟩
  have sa := zcm x
  have sb := zcm y
  obtain ⟨eu, heu⟩ : ∃ eu, eu = byteS (if s then 124 else 45) := ⟨_, rfl⟩
  have he : Utf8.encode u = eu := by rw [heu]; exact HE.out
  have se : eu.size = 1 := by rw [heu]; rfl
  rw [← hta, ← htb, ← heu]
  rw [← hta] at sa
  rw [← htb] at sb
  have z1 : ¬ 9223372036854775807 < 1 + ta.size := by omega
  have z2 : ¬ 9223372036854775807 < 1 + ta.size + eu.size := by omega
  have z3 : ¬ 9223372036854775807 < 1 + ta.size + eu.size + tb.size := by omega
  have z4 : ¬ 9223372036854775807 < 1 + ta.size + eu.size + tb.size + 1 := by omega
  clear sa sb se heu
  rw [← hta] at HX
  rw [← htb] at HY
  clear hta htb HE
  go_enter Try.func29, Try.ntmps29
  go_upto_region 6 with (fail)
  refine start_ (n := 25) (S := fun w' => (w'.cell? ⟨p, 0, none⟩ = some (.int .u8 u)) ∧ (w'.cell? ⟨p, 1, none⟩ = some (.slice (some ⟨q, 0, none⟩) 2 2)) ∧ (w'.cell? ⟨q, 0, none⟩ = some (.pointer (some ⟨k, 0, none⟩))) ∧ (w'.cell? ⟨q, 1, none⟩ = some (.pointer (some ⟨l, 0, none⟩))) ∧ (PtA w' x k) ∧ (PtA w' y l) ∧ (Below w.heap.size w w')) (ds := []) #[false, false, false, false, false, false, false, false, false, false, false, false, false, false, false, false, false, false, false, false, false, false, false, false, false] (by kernel_rfl) rfl rfl (⟨x0, x1, x2, x3, HPk.out.drew, HPl.out.drew, zbn (Below.refl _ _)⟩) (fun hHeld => ?_)
  clear x0 x1 x2 x3
  refine zba (i := 0) (N := some 32) (v := ?_) (a' := ?_) #[true, false, false, false, false, false, false, false, false, false, false, false, false, false, false, false, false, false, false, false, false, false, false, false, false] rfl rfl (by kernel_rfl) (fun _ _ _ h => h) (Or.inl ⟨by rfl, ?_⟩) ?_ ?_
  rotate_left
  ·intro w'
   go_simp
   with_reducible rfl
  rotate_left
  ·simp only [Act.put, List.setIfInBounds_toArray, List.set_cons_zero, List.set_cons_succ, zaq, zar]
   rfl
  refine zba (i := 1) (N := some 33) (v := ?_) (a' := ?_) #[true, true, false, false, false, false, false, false, false, false, false, false, false, false, false, false, false, false, false, false, false, false, false, false, false] rfl rfl (by kernel_rfl) (fun _ _ _ h => h) (Or.inl ⟨by rfl, ?_⟩) ?_ ?_
  rotate_left
  ·intro w'
   go_simp
   with_reducible rfl
  rotate_left
  ·simp only [Act.put, List.setIfInBounds_toArray, List.set_cons_zero, List.set_cons_succ, zaq, zar]
   rfl
  refine zba (i := 2) (N := some 34) (v := ?_) (a' := ?_) #[true, true, true, false, false, false, false, false, false, false, false, false, false, false, false, false, false, false, false, false, false, false, false, false, false] rfl rfl (by kernel_rfl) (fun _ _ _ h => h) (Or.inl ⟨by rfl, ?_⟩) ?_ ?_
  rotate_left
  ·intro w'
   go_simp
   with_reducible rfl
  rotate_left
  ·simp only [Act.put, List.setIfInBounds_toArray, List.set_cons_zero, List.set_cons_succ, zaq, zar]
   rfl
  refine take_ (i := 3) (N := some 35) (v := ?_) (a' := ?_) #[true, true, true, true, false, false, false, false, false, false, false, false, false, false, false, false, false, false, false, false, false, false, false, false, false] rfl rfl (by kernel_rfl) (fun _ _ _ h => h) (Or.inl ⟨by rfl, ?_⟩) hHeld ?_ ?_
  rotate_left
  ·rintro w' ⟨s0, s1, s2, s3, s4, s5, s6⟩
   go_simp
   with_reducible rfl
  rotate_left
  ·simp only [Act.put, List.setIfInBounds_toArray, List.set_cons_zero, List.set_cons_succ, zaq, zar]
   rfl
  refine zba (i := 4) (N := some 36) (v := ?_) (a' := ?_) #[true, true, true, true, true, false, false, false, false, false, false, false, false, false, false, false, false, false, false, false, false, false, false, false, false] rfl rfl (by kernel_rfl) (fun _ _ _ h => h) (Or.inl ⟨by rfl, ?_⟩) ?_ ?_
  rotate_left
  ·intro w'
   go_simp
   with_reducible rfl
  rotate_left
  ·simp only [Act.put, List.setIfInBounds_toArray, List.set_cons_zero, List.set_cons_succ, zaq, zar]
   rfl
  refine take_ (i := 5) (N := some 37) (v := ?_) (a' := ?_) #[true, true, true, true, true, true, false, false, false, false, false, false, false, false, false, false, false, false, false, false, false, false, false, false, false] rfl rfl (by kernel_rfl) (fun _ _ _ h => h) (Or.inl ⟨by rfl, ?_⟩) hHeld ?_ ?_
  rotate_left
  ·rintro w' ⟨s0, s1, s2, s3, s4, s5, s6⟩
   go_simp
   with_reducible rfl
  rotate_left
  ·simp only [Act.put, List.setIfInBounds_toArray, List.set_cons_zero, List.set_cons_succ, zaq, zar]
   rfl
  refine zba (i := 8) (N := some 40) (v := ?_) (a' := ?_) #[true, true, true, true, true, true, false, false, true, false, false, false, false, false, false, false, false, false, false, false, false, false, false, false, false] rfl rfl (by kernel_rfl) (fun _ _ _ h => h) (Or.inl ⟨by rfl, ?_⟩) ?_ ?_
  rotate_left
  ·intro w'
   go_simp
   with_reducible rfl
  rotate_left
  ·simp only [Act.put, List.setIfInBounds_toArray, List.set_cons_zero, List.set_cons_succ, zaq, zar]
   rfl
  refine zba (i := 9) (N := some 41) (v := ?_) (a' := ?_) #[true, true, true, true, true, true, false, false, true, true, false, false, false, false, false, false, false, false, false, false, false, false, false, false, false] rfl rfl (by kernel_rfl) (fun _ _ _ h => h) (Or.inl ⟨by rfl, ?_⟩) ?_ ?_
  rotate_left
  ·intro w'
   go_simp
   with_reducible rfl
  rotate_left
  ·simp only [Act.put, List.setIfInBounds_toArray, List.set_cons_zero, List.set_cons_succ, zaq, zar]
   rfl
  refine zba (i := 10) (N := some 42) (v := ?_) (a' := ?_) #[true, true, true, true, true, true, false, false, true, true, true, false, false, false, false, false, false, false, false, false, false, false, false, false, false] rfl rfl (by kernel_rfl) (fun _ _ _ h => h) (Or.inl ⟨by rfl, ?_⟩) ?_ ?_
  rotate_left
  ·intro w'
   go_simp
   with_reducible rfl
  rotate_left
  ·simp only [Act.put, List.setIfInBounds_toArray, List.set_cons_zero, List.set_cons_succ, zaq, zar]
   rfl
  refine take_ (i := 11) (N := some 43) (v := ?_) (a' := ?_) #[true, true, true, true, true, true, false, false, true, true, true, true, false, false, false, false, false, false, false, false, false, false, false, false, false] rfl rfl (by kernel_rfl) (fun _ _ _ h => h) (Or.inl ⟨by rfl, ?_⟩) hHeld ?_ ?_
  rotate_left
  ·rintro w' ⟨s0, s1, s2, s3, s4, s5, s6⟩
   go_simp
   with_reducible rfl
  rotate_left
  ·simp only [Act.put, List.setIfInBounds_toArray, List.set_cons_zero, List.set_cons_succ, zaq, zar]
   rfl
  refine zba (i := 12) (N := some 44) (v := ?_) (a' := ?_) #[true, true, true, true, true, true, false, false, true, true, true, true, true, false, false, false, false, false, false, false, false, false, false, false, false] rfl rfl (by kernel_rfl) (fun _ _ _ h => h) (Or.inl ⟨by rfl, ?_⟩) ?_ ?_
  rotate_left
  ·intro w'
   go_simp
   with_reducible rfl
  rotate_left
  ·simp only [Act.put, List.setIfInBounds_toArray, List.set_cons_zero, List.set_cons_succ, zaq, zar]
   rfl
  refine zba (i := 13) (N := some 45) (v := ?_) (a' := ?_) #[true, true, true, true, true, true, false, false, true, true, true, true, true, true, false, false, false, false, false, false, false, false, false, false, false] rfl rfl (by kernel_rfl) (fun _ _ _ h => h) (Or.inl ⟨by rfl, ?_⟩) ?_ ?_
  rotate_left
  ·intro w'
   go_simp
   with_reducible rfl
  rotate_left
  ·simp only [Act.put, List.setIfInBounds_toArray, List.set_cons_zero, List.set_cons_succ, zaq, zar]
   rfl
  refine zba (i := 15) (N := some 47) (v := ?_) (a' := ?_) #[true, true, true, true, true, true, false, false, true, true, true, true, true, true, false, true, false, false, false, false, false, false, false, false, false] rfl rfl (by kernel_rfl) (fun _ _ _ h => h) (Or.inl ⟨by rfl, ?_⟩) ?_ ?_
  rotate_left
  ·intro w'
   go_simp
   with_reducible rfl
  rotate_left
  ·simp only [Act.put, List.setIfInBounds_toArray, List.set_cons_zero, List.set_cons_succ, zaq, zar]
   rfl
  refine zba (i := 16) (N := some 48) (v := ?_) (a' := ?_) #[true, true, true, true, true, true, false, false, true, true, true, true, true, true, false, true, true, false, false, false, false, false, false, false, false] rfl rfl (by kernel_rfl) (fun _ _ _ h => h) (Or.inl ⟨by rfl, ?_⟩) ?_ ?_
  rotate_left
  ·intro w'
   go_simp
   with_reducible rfl
  rotate_left
  ·simp only [Act.put, List.setIfInBounds_toArray, List.set_cons_zero, List.set_cons_succ, zaq, zar]
   rfl
  refine zba (i := 17) (N := some 49) (v := ?_) (a' := ?_) #[true, true, true, true, true, true, false, false, true, true, true, true, true, true, false, true, true, true, false, false, false, false, false, false, false] rfl rfl (by kernel_rfl) (fun _ _ _ h => h) (Or.inl ⟨by rfl, ?_⟩) ?_ ?_
  rotate_left
  ·intro w'
   go_simp
   with_reducible rfl
  rotate_left
  ·simp only [Act.put, List.setIfInBounds_toArray, List.set_cons_zero, List.set_cons_succ, zaq, zar]
   rfl
  refine take_ (i := 18) (N := some 50) (v := ?_) (a' := ?_) #[true, true, true, true, true, true, false, false, true, true, true, true, true, true, false, true, true, true, true, false, false, false, false, false, false] rfl rfl (by kernel_rfl) (fun _ _ _ h => h) (Or.inl ⟨by rfl, ?_⟩) hHeld ?_ ?_
  rotate_left
  ·rintro w' ⟨s0, s1, s2, s3, s4, s5, s6⟩
   go_simp
   with_reducible rfl
  rotate_left
  ·simp only [Act.put, List.setIfInBounds_toArray, List.set_cons_zero, List.set_cons_succ, zaq, zar]
   rfl
  refine zba (i := 19) (N := some 51) (v := ?_) (a' := ?_) #[true, true, true, true, true, true, false, false, true, true, true, true, true, true, false, true, true, true, true, true, false, false, false, false, false] rfl rfl (by kernel_rfl) (fun _ _ _ h => h) (Or.inl ⟨by rfl, ?_⟩) ?_ ?_
  rotate_left
  ·intro w'
   go_simp
   with_reducible rfl
  rotate_left
  ·simp only [Act.put, List.setIfInBounds_toArray, List.set_cons_zero, List.set_cons_succ, zaq, zar]
   rfl
  refine take_ (i := 20) (N := some 52) (v := ?_) (a' := ?_) #[true, true, true, true, true, true, false, false, true, true, true, true, true, true, false, true, true, true, true, true, true, false, false, false, false] rfl rfl (by kernel_rfl) (fun _ _ _ h => h) (Or.inl ⟨by rfl, ?_⟩) hHeld ?_ ?_
  rotate_left
  ·rintro w' ⟨s0, s1, s2, s3, s4, s5, s6⟩
   go_simp
   with_reducible rfl
  rotate_left
  ·simp only [Act.put, List.setIfInBounds_toArray, List.set_cons_zero, List.set_cons_succ, zaq, zar]
   rfl
  refine one_ (i := 6) (N := some 38) #[true, true, true, true, true, true, true, false, true, true, true, true, true, true, false, true, true, true, true, true, true, false, false, false, false] rfl rfl (by kernel_rfl) (by decide) (fun K hK => ?_)
  refine goes_ Try.func29 (by kernel_rfl) rfl #[.pointer (some ⟨k, 0, none⟩)] (by rfl) rfl rfl (by (try simp only [List.map_toArray, List.map_cons, List.map_nil]); first | done | rfl) ?_
  have hs_ := hHeld
  obtain ⟨s0, s1, s2, s3, s4, s5, s6⟩ := hs_
  refine (HX.out _ k s4).mono ?_
  rintro e w2 ⟨rfl, hb⟩
  refine ⟨_, rfl, ?_⟩
  refine hK.out _ _ ⟨zah hb s0, zah hb s1, zah hb s2, zah hb s3, PtAt.below s4 hb, PtAt.below s5 hb, zae s6 hb⟩ (fun hHeld => ?_)
  clear hK K hb s0 s1 s2 s3 s4 s5 s6
  refine norm_ (a' := ?_) ?_ ?_
  rotate_left
  ·show Act.put _ (some 38) _ = _
   simp only [Act.put, List.setIfInBounds_toArray, List.set_cons_zero, List.set_cons_succ, zaq, zar]
   rfl
  refine zba (i := 7) (N := some 39) (v := ?_) (a' := ?_) #[true, true, true, true, true, true, true, true, true, true, true, true, true, true, false, true, true, true, true, true, true, false, false, false, false] rfl rfl (by kernel_rfl) (fun _ _ _ h => h) (Or.inl ⟨by rfl, ?_⟩) ?_ ?_
  rotate_left
  ·intro w'
   go_simp
   with_reducible rfl
  rotate_left
  ·simp only [Act.put, List.setIfInBounds_toArray, List.set_cons_zero, List.set_cons_succ, zaq, zar]
   rfl
  refine zba (i := 14) (N := some 46) (v := ?_) (a' := ?_) #[true, true, true, true, true, true, true, true, true, true, true, true, true, true, true, true, true, true, true, true, true, false, false, false, false] rfl rfl (by kernel_rfl) (fun _ _ _ h => h) (Or.inl ⟨by rfl, ?_⟩) ?_ ?_
  rotate_left
  ·intro w'
   go_simp
   with_reducible rfl
  rotate_left
  ·simp only [Act.put, List.setIfInBounds_toArray, List.set_cons_zero, List.set_cons_succ, zaq, zar]
   rfl
  refine one_ (i := 21) (N := some 53) #[true, true, true, true, true, true, true, true, true, true, true, true, true, true, true, true, true, true, true, true, true, true, false, false, false] rfl rfl (by kernel_rfl) (by decide) (fun K hK => ?_)
  refine goes_ Try.func29 (by kernel_rfl) rfl #[.pointer (some ⟨l, 0, none⟩)] (by rfl) rfl rfl (by (try simp only [List.map_toArray, List.map_cons, List.map_nil]); first | done | rfl) ?_
  have hs_ := hHeld
  obtain ⟨s0, s1, s2, s3, s4, s5, s6⟩ := hs_
  refine (HY.out _ l s5).mono ?_
  rintro e w3 ⟨rfl, hb⟩
  have HB3 := zaa.mk (zae s6 hb)
  refine ⟨_, rfl, ?_⟩
  refine hK.out _ _ ⟨zah hb s0, zah hb s1, zah hb s2, zah hb s3, PtAt.below s4 hb, PtAt.below s5 hb, zae s6 hb⟩ (fun hHeld => ?_)
  clear hK K hb s0 s1 s2 s3 s4 s5 s6
  refine norm_ (a' := ?_) ?_ ?_
  rotate_left
  ·show Act.put _ (some 53) _ = _
   simp only [Act.put, List.setIfInBounds_toArray, List.set_cons_zero, List.set_cons_succ, zaq, zar]
   rfl
  refine zba (i := 22) (N := some 54) (v := ?_) (a' := ?_) #[true, true, true, true, true, true, true, true, true, true, true, true, true, true, true, true, true, true, true, true, true, true, true, false, false] rfl rfl (by kernel_rfl) (fun _ _ _ h => h) (Or.inl ⟨by rfl, ?_⟩) ?_ ?_
  rotate_left
  ·intro w'
   go_simp
   with_reducible rfl
  rotate_left
  ·simp only [Act.put, List.setIfInBounds_toArray, List.set_cons_zero, List.set_cons_succ, zaq, zar]
   rfl
  refine zba (i := 23) (N := some 55) (v := ?_) (a' := ?_) #[true, true, true, true, true, true, true, true, true, true, true, true, true, true, true, true, true, true, true, true, true, true, true, true, false] rfl rfl (by kernel_rfl) (fun _ _ _ h => h) (Or.inl ⟨by rfl, ?_⟩) ?_ ?_
  rotate_left
  ·intro w'
   go_simp
   with_reducible rfl
  rotate_left
  ·simp only [Act.put, List.setIfInBounds_toArray, List.set_cons_zero, List.set_cons_succ, zaq, zar]
   rfl
  refine zba (i := 24) (N := some 2) (v := ?_) (a' := ?_) #[true, true, true, true, true, true, true, true, true, true, true, true, true, true, true, true, true, true, true, true, true, true, true, true, true] rfl rfl (by kernel_rfl) (fun _ _ _ h => h) (Or.inl ⟨by rfl, ?_⟩) ?_ ?_
  rotate_left
  ·intro w'
   go_simp
   with_reducible rfl
  rotate_left
  ·simp only [Act.put, List.setIfInBounds_toArray, List.set_cons_zero, List.set_cons_succ, zaq, zar]
   rfl
  refine done_ (by kernel_rfl) ?_
  go_wp2
  go_ret
  exact ⟨rfl, HB3.out⟩
def foldB (s : Bool) : List Tr → Tr
  | [] => .o
  | p :: ps => ps.foldl (fun out k => .bin s out k) p
def laR : Tr → Tr × List Tr × List Tr
  | .o => (.o, [.o], [.o])
  | .un c t => (.un c t, [.un c t], [.un c t])
  | .bin true x y => (foldB true ((laR x).2.1 ++ (laR y).2.1), (laR x).2.1 ++ (laR y).2.1, [foldB true ((laR x).2.1 ++ (laR y).2.1)])
  | .bin false x y => (foldB false ((laR x).2.2 ++ (laR y).2.2), [foldB false ((laR x).2.2 ++ (laR y).2.2)], (laR x).2.2 ++ (laR y).2.2)
def zbm (t : Tr) : Tr := (laR t).1
def zbl (s : Bool) (t : Tr) : List Tr := if s then (laR t).2.1 else (laR t).2.2
theorem zcf (b : Bool) (x y : Tr) : zbl b (.bin b x y) = zbl b x ++ zbl b y := by cases b <;> rfl
theorem alongR_other (b : Bool) (x y : Tr) : zbl (!b) (.bin b x y) = [zbm (.bin b x y)] := by cases b <;> rfl
theorem alongR_leaf (s : Bool) : zbl s .o = [zbm .o] := by cases s <;> rfl
theorem leftR_bin (b : Bool) (x y : Tr) : zbm (.bin b x y) = foldB b (zbl b (.bin b x y)) := by cases b <;> rfl
theorem zco (s : Bool) : ∀ t : Tr, 1 ≤ (zbl s t).length
  | .o => by cases s <;> exact Nat.le_refl _
  | .un c t => by cases s <;> exact Nat.le_refl _
  | .bin b x y => by
    by_cases h : s = b
    · subst h
      have := zco s x
      rw [zcf, List.length_append]
      omega
    · have : s = !b := by cases s <;> cases b <;> simp_all
      rw [this, alongR_other]
      exact Nat.le_refl _
theorem zck (s : Bool) : ∀ t : Tr, (zbl s t).length ≤ t.nodes
  | .o => by cases s <;> exact Nat.le_refl _
  | .un c t => by cases s <;> (show 1 ≤ _; simp [Tr.nodes])
  | .bin b x y => by
    by_cases h : s = b
    · subst h
      have := zck s x
      have := zck s y
      rw [zcf, List.length_append]
      simp only [Tr.nodes]
      omega
    · have : s = !b := by cases s <;> cases b <;> simp_all
      rw [this, alongR_other]
      show 1 ≤ _
      simp [Tr.nodes]
def kP : Kd Nat := Kd.scalar (fun p => Value.pointer (some ⟨p, 0, none⟩)) (fun _ => rfl)
def AllP (w : World) (ok : Nat → Prop) : List Tr → List Nat → Prop
  | [], [] => True
  | t :: ts, p :: ps => PtAt w ok t p ∧ AllP w ok ts ps
  | _, _ => False
theorem PtAt.bound {w : World} {ok : Nat → Prop} : ∀ {t : Tr} {p : Nat}, PtAt w ok t p → PtAt w (fun k => ok k ∧ k < w.heap.size) t p
  | .o, p, h => ⟨⟨h.1, zau h.2⟩, h.2⟩
  | .un b t, p, h => by
    obtain ⟨h1, q, k, h2, h3, h4, h5⟩ := h
    exact ⟨⟨h1, zau h2⟩, q, k, h2, ⟨h3, zau h4⟩, h4, PtAt.bound h5⟩
  | .bin b x y, p, h => by
    obtain ⟨h1, q, k, m, h2, h3, h4, h5, h6⟩ := h
    exact ⟨⟨h1, zau h2⟩, q, k, m, h2, ⟨h3, zau h4⟩, h4, PtAt.bound h5, PtAt.bound h6⟩
theorem PtAt.mono {w : World} {ok ok' : Nat → Prop} {t : Tr} {p : Nat} (h : PtAt w ok t p) (hk : ∀ k, ok k → k < w.heap.size → ok' k) : PtAt w ok' t p :=
  PtAt.move (fun _ _ _ => rfl) (fun k h => hk k h.1 h.2) t p h.bound
theorem AllP.move {w w' : World} {ok ok' : Nat → Prop} (hm : ∀ k, ok k → k < w.heap.size → w'.heap[k]? = w.heap[k]?) (hk : ∀ k, ok k → k < w.heap.size → ok' k) : ∀ {ts : List Tr} {ps : List Nat}, AllP w ok ts ps → AllP w' ok' ts ps
  | [], [], _ => trivial
  | t :: ts, p :: ps, h => ⟨PtAt.move (fun k h1 h2 => hm k h1.1 h2) (fun k h => hk k h.1 h.2) t p h.1.bound, AllP.move hm hk h.2⟩
  | [], _ :: _, h => h.elim
  | _ :: _, [], h => h.elim
theorem AllP.below {w w' : World} {ok : Nat → Prop} (hb : Below w.heap.size w w') {ts : List Tr} {ps : List Nat} (h : AllP w ok ts ps) : AllP w' ok ts ps := AllP.move (fun k _ hk => hb.block k hk) (fun _ h _ => h) h
theorem AllP.app {w : World} {ok : Nat → Prop} : ∀ {ts : List Tr} {ps : List Nat} {ts' : List Tr} {ps' : List Nat}, AllP w ok ts ps → AllP w ok ts' ps' → AllP w ok (ts ++ ts') (ps ++ ps')
  | [], [], _, _, _, h2 => h2
  | t :: ts, p :: ps, _, _, h, h2 => ⟨h.1, AllP.app h.2 h2⟩
  | [], _ :: _, _, _, h, _ => h.elim
  | _ :: _, [], _, _, h, _ => h.elim
theorem AllP.len {w : World} {ok : Nat → Prop} : ∀ {ts : List Tr} {ps : List Nat}, AllP w ok ts ps → ts.length = ps.length
  | [], [], _ => rfl
  | t :: ts, p :: ps, h => congrArg (· + 1) (AllP.len h.2)
  | [], _ :: _, h => h.elim
  | _ :: _, [], h => h.elim
theorem AllP.get {w : World} {ok : Nat → Prop} : ∀ {ts : List Tr} {ps : List Nat} (i : Nat) (p : Nat), AllP w ok ts ps → ps[i]? = some p → ∃ t, ts[i]? = some t ∧ PtAt w ok t p
  | [], [], i, p, _, h => by cases h
  | t :: ts, q :: ps, 0, p, h, hi => ⟨t, rfl, by have : q = p := by simpa using hi
                                                 subst this; exact h.1⟩
  | t :: ts, q :: ps, i + 1, p, h, hi => by
    obtain ⟨t', h1, h2⟩ := AllP.get i p h.2 (by simpa using hi)
    exact ⟨t', by simpa using h1, h2⟩
  | [], _ :: _, _, _, h, _ => h.elim
  | _ :: _, [], _, _, h, _ => h.elim
def AlRes (w : World) (P : Nat → Prop) (ts : List Tr) (e : Ending) (w' : World) : Prop := ∃ v ps, e = .returned v ∧ Kd.R kP 43 w' w.heap.size (fun _ => True) v ps ∧ Below w.heap.size w w' ∧ AllP w' (fun k => (P k ∨ w.heap.size ≤ k) ∧ some k ≠ v.ownBlock) ts ps
def LRes (w : World) (P : Nat → Prop) (t : Tr) (e : Ending) (w' : World) : Prop := ∃ p, e = .returned (.pointer (some ⟨p, 0, none⟩)) ∧ Below w.heap.size w w' ∧ PtAt w' (fun k => P k ∨ w.heap.size ≤ k) t p
def AlongC (t : Tr) (s : Bool) : Prop := ∀ (P : Nat → Prop) (w : World) (p : Nat) (u : Int), u = binC s → (∀ k, P k → k < w.heap.size) → PtAt w P t p → Calls Try.prog 42 #[.pointer (some ⟨p, 0, none⟩), .int .u8 u] w (AlRes w P (zbl s t))
def LeftC (t : Tr) : Prop := ∀ (P : Nat → Prop) (w : World) (p : Nat), (∀ k, P k → k < w.heap.size) → PtAt w P t p → Calls Try.prog 28 #[.pointer (some ⟨p, 0, none⟩)] w (LRes w P (zbm t))
def topC : Tr → Int
  | .o => 111
  | .un b _ => unC b
  | .bin b _ _ => binC b
theorem top_cell {w : World} {P : Nat → Prop} {t : Tr} {p : Nat} (h : PtAt w P t p) : w.cell? ⟨p, 0, none⟩ = some (.int .u8 (topC t)) := by
  cases t with
  | o => exact (zag h.2 0).trans rfl
  | un b t => obtain ⟨-, q, k, h2, -⟩ := h; exact (zag h2 0).trans rfl
  | bin b x y => obtain ⟨-, q, k, m, h2, -⟩ := h; exact (zag h2 0).trans rfl
set_option maxHeartbeats 400000 in
set_option maxRecDepth 100000 in
theorem along_other (t : Tr) (s : Bool) (hs : topC t ≠ binC s) (hr : zbl s t = [zbm t]) (hl : LeftC t) : AlongC t s := by
  intro P w p u hu hPl hP
  have x0 := top_cell hP
  have HL := zaa.mk (hl P w p hPl hP)
  have d1 : (topC t == u) = false := by rw [beq_eq_false_iff_ne, hu]; exact hs
  have d2 : (topC t != u) = true := by rw [bne, d1]; rfl
  have HR := zaa.mk hr
  clear hP hs hr hl hu hPl
  generalize topC t = c at *
  go_enter Try.func42, Try.ntmps42
  go_wp2_with (first
    | (go_at_call 28; refine HL.out.mono ?_; rintro e w2 ⟨m, rfl, hb, hP⟩; have HB2 := zaa.mk hb; have HP2 := zaa.mk hP; clear hb hP)
    | ((with_reducible refine zbe (N := 13) rfl ?_); refine Kd.R_lit kP _ 43 ?hg (N := 13) ?hd (xs := [m]) (inner := [.pointer (some ⟨m, 0, none⟩)]) (ok := fun _ => True) (okp := fun _ => True) ?hr ?hp (fun _ hk => hk) trivial (Below.refl _ _) (Nat.le_refl _) (by simp) ?_; (case hd => rfl); (case hg => rfl); (case hr => first | (go_simp; done) | (go_simp; rfl)); (case hp => exact (Reps.one (show Kd.M kP _ _ _ m [.pointer (some ⟨m, 0, none⟩)] from rfl) (Reps.none _ _))); intro v5 w5 ho hb hg_ hnew_; clear hg_ hnew_; have HRb := zaa.mk (Kd.R_base ho); have HR5 := zaa.mk (Kd.R_lower ho HB2.out.size); have HB5 := zaa.mk (zae HB2.out hb); have HP5 := zaa.mk (PtAt.below (PtAt.mono HP2.out (ok' := fun k => (P k ∨ w.heap.size ≤ k) ∧ some k ≠ v5.ownBlock) (fun k hk hlt => ⟨hk, fun he => by have := HRb.out k he.symm; omega⟩)) hb); clear ho hb))
  go_ret
  rw [HR.out]
  exact ⟨_, [m], rfl, HR5.out, HB5.out, HP5.out, trivial⟩
end Go.Proofs.Ytgiidlebnjbgeaa.Hd
