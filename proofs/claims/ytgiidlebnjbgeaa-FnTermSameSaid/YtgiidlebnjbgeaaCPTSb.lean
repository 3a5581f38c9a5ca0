/- Part 2 of the proof of FnTermSame: what the program's functions and the reference's compute. -/
import Derived.Below
import Derived.Deep.Draws
import Derived.Deep.AppendLies
import Derived.Maps.AppendAt
import Derived.OwnWalk
import Derived.Laws.BytesArg
import Derived.Laws.MakeOwn
import Derived.Laws.OwnMore
import Derived.Deep.OwnRows
import Derived.Tactics
import Derived.Lib.ConvBytes
import Derived.Laws.Slices
import Derived.WalkKit
import Derived.KernelRfl
import Derived.RowKit3
import Derived.Deep.LoopGhost
import Derived.Deep.QuietTactic
import Derived.BigQuiet
import Derived.WideLaws
import Derived.Deep.DeepCutAuto
import Derived.Deep.CutBlock
import Derived.Deep.RegionHeld3
import Derived.Laws.Rows
import Derived.Lib.AppendStr
import Derived.ArgAppend
import Derived.Laws.IdiomCopy
import Derived.RowKit
import Derived.OrdersHeld
import Derived.Laws.BitsLemmas
import Derived.Laws.StructEq
import Derived.SizedLaws
import Derived.ChangeSlices
import Derived.Test.YtgiidlebnjbgeaaProg
import Derived.Lib.Strings
import Derived.Lib.Bytealg
import Derived.Laws.Strings3
import Derived.Laws.AppendOwn
import Derived.Lib.SliceRun
import Derived.Lib.LazyBuf
import Derived.Test.YtgiidlebnjbgeaaRows
import Derived.ProofKit
import Derived.OpenShut
import Derived.ShutString
import Derived.ChangeOld
import Derived.Test.YtgiidlebnjbgeaaCPTSa
set_option linter.unusedSimpArgs false
set_option linter.unusedVariables false
namespace Go.Proofs.Ytgiidlebnjbgeaa.PB
open Go.RowKit Go.PW.PrintWords Go.PW.PrintLast Go.PW.PrintMore
attribute [local go_sem] zcc zca zcr zcq zbu zbt zcb zbz   -- for this text's walks alone
def errW : Option Int → Value
 | none => .nilIface
 | some c => .iface 0 (.int .i64 c)
theorem zan : errW none = .nilIface := rfl
theorem zam (c : Int) : errW (some c) = .iface 0 (.int .i64 c) := rfl
theorem info3 : (Try.prog.info? 3).map (fun i => (i.zero, i.size, i.bytes)) = some (some (.int .i64 0), 1, 8) := by kernel_rfl
theorem info5 : (Try.prog.info? 5).map (fun i => (i.zero, i.size, i.bytes)) = some (some (.int .u8 0), 1, 1) := by kernel_rfl
theorem info38 : (Try.prog.info? 38).map (fun i => (i.zero, i.size, i.bytes)) = some (some (.agg #[(.int .u8 0), (.slice none 0 0)]), 2, 32) := by kernel_rfl
structure S38 where
 f0 : Int
 f1 : (List S38)
def z38 : S38 := ⟨(0 : Int), ([] : List S38)⟩
def F38 (d : Kd S38) : Kd S38 := Kd.iso (Kd.pair (Kd.int .u8) (Kd.slice 38 d)) (fun x : S38 => (x.f0, x.f1))
theorem mono38 : Kd.Mono F38 := Kd.mono_iso _ (Kd.mono_pair (Kd.mono_const _) (Kd.mono_slice 38 Kd.mono_id))
theorem sub38 : Kd.Sub F38 [38] := Kd.sub_iso _ (Kd.sub_pair (Kd.sub_const _ (by decide)) (Kd.sub_slice 38 (by decide) Kd.sub_id))
theorem sz38 : ∀ n, (Kd.upto F38 2 [38] n).sz = 2 := Kd.upto_sz (fun _ => rfl)
def k38 : Kd S38 := Kd.fix F38 2 [38] sz38 (Kd.upto_E sub38)
theorem k38_open {w : World} {x : S38} {cs : List Value} (h : k38.K w x cs) : ∃ A1 c1, cs = [.int .u8 x.f0, .slice A1 x.f1.length c1] ∧ x.f1.length ≤ c1 ∧ k38.C w A1 x.f1.length x.f1 := by
 obtain ⟨n, h⟩ := h
 cases n with
 | zero => exact h.elim
 | succ n =>
  obtain ⟨_, _, rfl, rfl, ⟨A1, c1, rfl, l1, g1⟩⟩ := h
  exact ⟨A1, c1, rfl, l1, Kd.fix_C g1⟩
theorem k38_mk (w : World) (x : S38) {A1 : Option Addr} {c1 : Nat} (l1 : x.f1.length ≤ c1) (g1 : k38.C w A1 x.f1.length x.f1) : k38.K w x [.int .u8 x.f0, .slice A1 x.f1.length c1] := by
 obtain ⟨n1, q1⟩ := Kd.fix_C_back mono38 g1
 have r1 := Kd.upto_C_le mono38 sz38 (show n1 ≤ n1 by omega) q1
 exact ⟨n1 + 1, ⟨[.int .u8 x.f0], [.slice A1 x.f1.length c1], rfl, rfl, ⟨A1, c1, rfl, l1, r1⟩⟩⟩
theorem k38_openF {W : World} {ok : Nat → Prop} {x : S38} {cs : List Value} (h : Kd.FK k38 W ok x cs) : ∃ A1 c1, cs = [.int .u8 x.f0, .slice A1 x.f1.length c1] ∧ x.f1.length ≤ c1 ∧ Kd.F k38 W ok A1 x.f1.length x.f1 := by
 obtain ⟨A1, c1, rfl, l1, _⟩ := k38_open (Kd.FK_now h)
 exact ⟨A1, c1, rfl, l1, (fun W' hW => by obtain ⟨A1_, c1_, he, l1_, g1_⟩ := k38_open (h W' hW); injection (Option.some.inj (show some (Value.slice A1 x.f1.length c1) = some (Value.slice A1_ x.f1.length c1_) from congrArg (fun l => l[1]?) he)) with ha_ _ _; rw [ha_]; exact g1_)⟩
theorem k38_mkF (W : World) (ok : Nat → Prop) (x : S38) {A1 : Option Addr} {c1 : Nat} (l1 : x.f1.length ≤ c1) (g1 : Kd.F k38 W ok A1 x.f1.length x.f1) : Kd.FK k38 W ok x [.int .u8 x.f0, .slice A1 x.f1.length c1] := fun W2 hW => k38_mk W2 x l1 (g1 W2 hW)
def zay (xs : List S38) (i : Int) : S38 := xs.getD i.toNat z38
theorem at_T38 {w : World} {A : Option Addr} {n : Nat} {xs : List S38} (h : Kd.C k38 w A n xs) (i : Int) (h0 : 0 ≤ i) (h1 : i < n) : ∃ ad A1 c1, A = some ad ∧ w.cell? (ad.add (i.toNat * 2)) = some (.int .u8 (zay xs i).f0) ∧ w.cell? ⟨(ad.add (i.toNat * 2)).block, (ad.add (i.toNat * 2)).off + 1, none⟩ = some (.slice A1 (zay xs i).f1.length c1) ∧ (zay xs i).f1.length ≤ c1 ∧ k38.C w A1 (zay xs i).f1.length (zay xs i).f1 := by
 obtain ⟨ad, c, e, _, hK, hc0⟩ := Kd.C_get h z38 i h0 h1
 have hc : ∀ j u, c[j]? = some u → w.cell? (ad.add (i.toNat * 2 + j)) = some u := hc0
 obtain ⟨A1, c1, rfl, l1, g1⟩ := k38_open hK
 exact ⟨ad, A1, c1, e, hc 0 _ rfl, by rw [← add_field _ _ 1 (by omega)]; exact hc 1 _ rfl, l1, g1⟩
end Go.Proofs.Ytgiidlebnjbgeaa.PB
namespace Go.Proofs.Ytgiidlebnjbgeaa.PB
open Go.RowKit Go.PW.PrintWords Go.PW.PrintLast Go.PW.PrintMore
attribute [local go_sem] zcc zca zcr zcq zbu zbt zcb zbz   -- for this text's walks alone
def spec_l11Rooms.l0 : Nat → ByteArray → Int → Int → Option (Int)
 | 0, _, _, _ => none
 | k + 1, x0, x3, x4 => if x4 < (x0.size : Int) then (if 0 ≤ x4 then (if (bt x0 x4) = 111 then (spec_l11Rooms.l0 k x0 (wrap64 (x3 + 1)) (wrap64 (x4 + 1))) else (spec_l11Rooms.l0 k x0 x3 (wrap64 (x4 + 1)))) else (none)) else (some x3)
def spec_l11Rooms.f (k : Nat) (a0 : ByteArray) : Option (Int) := spec_l11Rooms.l0 k a0 0 0
set_option maxHeartbeats 8000000 in
set_option maxRecDepth 100000 in
theorem spec_l11Rooms.calls (k : Nat) (a0 : ByteArray) (r : Int) (w : World) (h : spec_l11Rooms.f k a0 = some r) :
  Calls Try.prog 34 #[.string a0] w fun e w' => e = .returned (.int .i64 r) ∧ zax w w' := by
 have H : (spec_l11Rooms.l0 k a0 0 0) = some r := h
 clear h
 have H' := zaa.mk H
 clear H
 go_enter Try.func34, Try.ntmps34
 go_wp2
 go_loopg [3, 4] k (fun kq v3 v4 w' => ∃ (x3_1 : Int) (x4_1 : Int), v3 = .int .i64 x3_1 ∧ v4 = .int .i64 x4_1 ∧ zaa (spec_l11Rooms.l0 kq a0 x3_1 x4_1 = some r) ∧ zaa (kq ≤ k) ∧ zax w w')
 case atStart => exact ⟨(0), (0), (by first | rfl | (simp; done) | (simp [*]; done)), (by first | rfl | (simp; done) | (simp [*]; done)), H', ⟨Nat.le_refl _⟩, by repeat (first | exact zax.refl _ | apply zax.step)⟩
 case round =>
  clear H'
  obtain ⟨x3_1, x4_1, rfl, rfl, HA, HK1, ⟨m1, rfl⟩⟩ := hrel
  cases gk with
  | zero => exact absurd HA.out (by simp [spec_l11Rooms.l0])
  | succ k1 =>
   have H := HA.out
   clear HA
   simp only [spec_l11Rooms.l0] at H
   by_cases c2 : x4_1 < (a0.size : Int)
   ·rw [if_pos c2] at H
    have c2b0 : decide (x4_1 < (a0.size : Int)) = true := decide_eq_true c2
    clear c2
    by_cases c3 : 0 ≤ x4_1
    ·rw [if_pos c3] at H
     have c3b0 : decide (0 ≤ x4_1) = true := decide_eq_true c3
     clear c3
     by_cases c5 : (bt a0 x4_1) = 111
     ·rw [if_pos c5] at H
      have c5b0 : ((bt a0 x4_1) == 111) = true := beq_iff_eq.mpr c5
      have c5b1 : ((bt a0 x4_1) != 111) = false := bne_eq_false_iff_eq.mpr c5
      clear c5
      have H' := zaa.mk H
      clear H
      have p4 : 0 ≤ (x4_1 : Int) := of_decide_eq_true (by first | (with_reducible assumption) | assumption)
      have q4 : x4_1 < (a0.size : Int) := of_decide_eq_true (by first | (with_reducible assumption) | assumption)
      have hx4 := bt_at a0 x4_1
      replace p4 := eq_true p4
      replace q4 := eq_true q4
      go_wp2
      go_roundg k1
      case measure => have := HK1.out; omega
      case rel => exact ⟨(wrap64 (x3_1 + 1)), (wrap64 (x4_1 + 1)), (by first | rfl | (simp; done) | (simp [*]; done)), (by first | rfl | (simp; done) | (simp [*]; done)), H', ⟨by have := HK1.out; omega⟩, by repeat (first | exact zax.refl _ | apply zax.step)⟩
     ·rw [if_neg c5] at H
      have c5b0 : ((bt a0 x4_1) == 111) = false := beq_eq_false_iff_ne.mpr c5
      have c5b1 : ((bt a0 x4_1) != 111) = true := bne_iff_ne.mpr c5
      have H' := zaa.mk H
      clear H
      have p4 : 0 ≤ (x4_1 : Int) := of_decide_eq_true (by first | (with_reducible assumption) | assumption)
      have q4 : x4_1 < (a0.size : Int) := of_decide_eq_true (by first | (with_reducible assumption) | assumption)
      have hx4 := bt_at a0 x4_1
      replace p4 := eq_true p4
      replace q4 := eq_true q4
      go_wp2
      go_roundg k1
      case measure => have := HK1.out; omega
      case rel => exact ⟨(x3_1), (wrap64 (x4_1 + 1)), (by first | rfl | (simp; done) | (simp [*]; done)), (by first | rfl | (simp; done) | (simp [*]; done)), H', ⟨by have := HK1.out; omega⟩, by repeat (first | exact zax.refl _ | apply zax.step)⟩
    ·rw [if_neg c3] at H
     exact absurd H (by simp)
   ·rw [if_neg c2] at H
    have c2b0 : decide (x4_1 < (a0.size : Int)) = false := decide_eq_false c2
    clear c2
    obtain rfl := Option.some.inj H
    go_wp2
    go_ret
    exact ⟨by first | rfl | (simp; done) | (simp [*]; done), by repeat (first | exact zax.refl _ | apply zax.step)⟩
def spec_l6More.l0 : Nat → List Int → Int → List Int → Int → Option (List Int)
 | 0, _, _, _, _ => none
 | k + 1, x0, x1, x5, x6 => if x6 < (x0.length : Int) then (if 0 ≤ x6 then (if x5.length < 17592186044416 then (spec_l6More.l0 k x0 x1 (x5 ++ [wrap64 ((rd x0 x6) + x1)]) (wrap64 (x6 + 1))) else (none)) else (none)) else (some x5)
def spec_l6More.f (k : Nat) (l0 : List Int) (a1 : Int) : Option (List Int) := spec_l6More.l0 k l0 a1 (([] : List Int)) 0
set_option maxHeartbeats 8000000 in
set_option maxRecDepth 100000 in
theorem spec_l6More.calls (k : Nat) (A0 : Option Addr) (c0 : Nat) (l0 : List Int) (a1 : Int) (r : List Int) (w : World) (hr0 : Kd.C (Kd.int .i64) w A0 l0.length l0) (hc0 : l0.length ≤ c0) (h : spec_l6More.f k l0 a1 = some r) :
  Calls Try.prog 36 #[.slice A0 l0.length c0, .int .i64 a1] w fun e w' => ∃ v0_ : Value, e = .returned (v0_) ∧ Kd.R (Kd.int .i64) 3 w' w.heap.size (fun _ => True) v0_ r ∧ Below w.heap.size w w' := by
 have HR0 := zaa.mk hr0
 have HC0 := zaa.mk hc0
 clear hr0 hc0
 have HB := zaa.mk (Below.refl w.heap.size w)
 have H : (spec_l6More.l0 k l0 a1 (([] : List Int)) 0) = some r := h
 clear h
 obtain ⟨y138, hy138⟩ : ∃ y_ : List Int, y_ = (([] : List Int)) := ⟨_, rfl⟩
 replace H : (spec_l6More.l0 k l0 a1 y138 0) = some r := by first | (rw [hy138]; with_reducible exact H) | (have H2_ := (Option.bind_some _ _).symm.trans H; rw [hy138]; with_reducible exact H2_) | (have H2_ := (Option.bind_some _ _).symm.trans H; with_reducible exact H2_) | with_reducible exact H | (rw [hy138]; exact H) | exact H
 have Ny138 := zaa.mk hy138
 clear hy138
 have H' := zaa.mk H
 clear H
 go_enter Try.func36, Try.ntmps36
 go_wp2_with (first | ((with_reducible refine zbe (N := 7) rfl ?_); refine Kd.R_lit (Kd.int .i64) _ 3 ?hg (N := 7) ?hd (xs := ([] : List Int)) (inner := []) (ok := fun _ => True) (okp := fun _ => True) ?hr ?hp (fun _ hk => hk) trivial (Below.refl _ _) (Nat.le_refl _) (by simp) ?_; (case hd => rfl); (case hg => rfl); (case hr => first | (go_simp; done) | (go_simp; rfl)); (case hp => exact (Reps.none _ _)); intro v139 w3 ho4 hb hg_ hnew_; clear hg_ hnew_; (first | rw [← Ny138.out] at ho4 | (simp only [Int.reduceToNat] at ho4; rw [← Ny138.out] at ho4)); have n0_ := zaa.mk (Kd.R_lower ho4 (zap (by repeat (first | (with_reducible first | exact HB.out | apply zac | apply zab | apply zad) | exact HB.out)))); have n1_ := zaa.mk (zae (by repeat (first | (with_reducible first | exact HB.out | apply zac | apply zab | apply zad) | exact HB.out)) hb); clear HB; have HO140 := n0_; have HB := n1_; clear n0_ n1_; clear hb ho4))
 go_loopg [5, 6] k (fun kq v5 v6 w' => ∃ (x5_1 : List Int) (x6_1 : Int), v6 = .int .i64 x6_1 ∧ zaa (spec_l6More.l0 kq l0 a1 x5_1 x6_1 = some r) ∧ zaa (kq ≤ k) ∧ zaa (Kd.R (Kd.int .i64) 3 w' w.heap.size (fun _ => True) v5 x5_1) ∧ zaa (Below w.heap.size w w'))
 case atStart => exact ⟨(y138), (0), (by first | rfl | (simp; done) | (simp [*]; done)), H', ⟨Nat.le_refl _⟩, ⟨by (with_reducible repeat (first | apply Kd.R_alloc | apply Kd.R_drewN | apply Kd.R_drew)); exact HO140.out⟩, ⟨by repeat (first | (with_reducible first | exact HB.out | apply zac | apply zab | apply zad) | exact HB.out)⟩⟩
 case round =>
  clear H'
  try clear p2
  try clear c3
  obtain ⟨x5_1, x6_1, rfl, HA, HK1, HO_5, HB⟩ := hrel
  cases gk with
  | zero => exact absurd HA.out (by simp [spec_l6More.l0])
  | succ k1 =>
   have H := HA.out
   clear HA
   simp only [spec_l6More.l0] at H
   by_cases c5 : x6_1 < (l0.length : Int)
   ·rw [if_pos c5] at H
    have c5b0 : decide (x6_1 < (l0.length : Int)) = true := decide_eq_true c5
    clear c5
    by_cases c6 : 0 ≤ x6_1
    ·rw [if_pos c6] at H
     have c6b0 : decide (0 ≤ x6_1) = true := decide_eq_true c6
     clear c6
     by_cases c7 : x5_1.length < 17592186044416
     ·rw [if_pos c7] at H
      have LMc7 := zaa.mk c7
      clear c7
      obtain ⟨y142, hy142⟩ : ∃ y_ : List Int, y_ = (x5_1 ++ [wrap64 ((rd l0 x6_1) + a1)]) := ⟨_, rfl⟩
      replace H : (spec_l6More.l0 k1 l0 a1 y142 (wrap64 (x6_1 + 1))) = some r := by first | (rw [hy142]; with_reducible exact H) | (have H2_ := (Option.bind_some _ _).symm.trans H; rw [hy142]; with_reducible exact H2_) | (have H2_ := (Option.bind_some _ _).symm.trans H; with_reducible exact H2_) | with_reducible exact H | (rw [hy142]; exact H) | exact H
      have Ny142 := zaa.mk hy142
      clear hy142
      have H' := zaa.mk H
      clear H
      have p141 : 0 ≤ (x6_1 : Int) := of_decide_eq_true (by first | (with_reducible assumption) | assumption)
      have q141 : x6_1 < (l0.length : Int) := of_decide_eq_true (by first | (with_reducible assumption) | assumption)
      obtain ⟨ad141, e141, hx141_0⟩ := Kd.at_int HR0.out x6_1 p141 q141
      cases e141
      replace hx141_0 := (HB.out.cell (World.block_lt_of_cell? w _ hx141_0)).trans hx141_0
      replace p141 := eq_true p141
      replace q141 := eq_true q141
      go_wp2_with (first | ((with_reducible refine zci (b := .append) (xs := #[.tmp 14, .tmp 21]) rfl ?_); at_builtin; refine Kd.R_append (Kd.int .i64) (w0 := w) w.heap.size rfl (.tmp 14) (.tmp 21) 22 3 (.int .i64 0) 8 rfl Try.underlying22 info3 rfl (by decide) (by omega) u5 x5_1 (wrap64 ((rd l0 x6_1) + a1)) [.int .i64 (wrap64 ((rd l0 x6_1) + a1))] (fun _ => True) (fun _ => False) rfl rfl ?aP (fun _ hk => hk.elim) ?aF ?aO ?aB ?aS ?aL ?_; (case aP => exact rfl); (case aB => exact (by repeat (first | (with_reducible first | exact HB.out | apply zac | apply zab | apply zad) | exact HB.out))); (case aF => exact (fun _ _ => trivial)); (case aO => exact (by (with_reducible repeat (first | apply Kd.R_alloc | apply Kd.R_drewN | apply Kd.R_drew)); exact HO_5.out)); (case aS => exact (zap (by repeat (first | (with_reducible first | exact HB.out | apply zac | apply zab | apply zad) | exact HB.out)))); (case aL => have := LMc7.out; omega); intro v143 w8 ho hb hg hat; rw [← Ny142.out] at ho; have n0_ := zaa.mk (hb); have n1_ := zaa.mk (ho); clear HB; clear HO_5; have HB := n0_; have HO144 := n1_; clear n0_ n1_; clear ho hb hg hat))
      go_roundg k1
      case measure => have := HK1.out; omega
      case rel => exact ⟨(y142), (wrap64 (x6_1 + 1)), (by first | rfl | (simp; done) | (simp [*]; done)), H', ⟨by have := HK1.out; omega⟩, ⟨by (with_reducible repeat (first | apply Kd.R_alloc | apply Kd.R_drewN | apply Kd.R_drew)); exact HO144.out⟩, ⟨by repeat (first | (with_reducible first | exact HB.out | apply zac | apply zab | apply zad) | exact HB.out)⟩⟩
     ·rw [if_neg c7] at H
      exact absurd H (by simp)
    ·rw [if_neg c6] at H
     exact absurd H (by simp)
   ·rw [if_neg c5] at H
    have c5b0 : decide (x6_1 < (l0.length : Int)) = false := decide_eq_false c5
    clear c5
    obtain rfl := Option.some.inj H
    go_wp2
    go_ret
    exact ⟨_, by first | rfl | (simp [zan, zam] <;> rfl) | (simp [*, zan, zam] <;> rfl), by (with_reducible repeat (first | apply Kd.R_alloc | apply Kd.R_drewN | apply Kd.R_drew)); exact HO_5.out, by repeat (first | (with_reducible first | exact HB.out | apply zac | apply zab | apply zad) | exact HB.out)⟩
def spec_l11Perm.f : Nat → Int → List (S38) → Option (List Int)
 | 0, _, _ => none
 | k + 1, a0_0, l0_1 => if a0_0 = 111 then (some (([0] : List Int))) else (if 0 < (l0_1.length : Int) then ((spec_l11Perm.f k ((zay l0_1 0).f0) ((zay l0_1 0).f1)).bind fun t150 => (if 1 < (l0_1.length : Int) then ((spec_l11Perm.f k ((zay l0_1 1).f0) ((zay l0_1 1).f1)).bind fun t154 => (if a0_0 = 124 then ((some (([] : List Int) : List Int)).bind fun y157 => (if y157.length + t150.length < 17592186044416 then ((some (y157 ++ t150 : List Int)).bind fun y160 => ((spec_l6More.f k t154 (t150.length : Int)).bind fun t163 => (if y160.length + t163.length < 17592186044416 then (some (y160 ++ t163)) else (none)))) else (none))) else ((spec_l6More.f k t154 (t150.length : Int)).bind fun t169 => (if t169.length + t150.length < 17592186044416 then (some (t169 ++ t150)) else (none))))) else (none))) else (none))
set_option maxHeartbeats 8000000 in
set_option maxRecDepth 100000 in
theorem spec_l11Perm.calls (k : Nat) : ∀ (a0_0 : Int) (A0_1 : Option Addr) (c0_1 : Nat) (l0_1 : List (S38)) (r : List Int) (w : World) (hr0_1 : Kd.C k38 w A0_1 l0_1.length l0_1) (hc0_1 : l0_1.length ≤ c0_1) (h : spec_l11Perm.f k a0_0 l0_1 = some r),
  Calls Try.prog 20 #[.agg #[.int .u8 a0_0, .slice A0_1 l0_1.length c0_1]] w fun e w' => ∃ v0_ : Value, e = .returned (v0_) ∧ Kd.R (Kd.int .i64) 3 w' w.heap.size (fun _ => True) v0_ r ∧ Below w.heap.size w w' := by
 induction k using Nat.strongRecOn with
 | _ k ih =>
 intro a0_0 A0_1 c0_1 l0_1 r w hr0_1 hc0_1 h
 cases k with
 | zero => exact absurd h (by simp [spec_l11Perm.f])
 | succ k =>
 simp only [spec_l11Perm.f] at h
 have hu38 := Try.underlying38
 have HR0_1 := zaa.mk hr0_1
 have HC0_1 := zaa.mk hc0_1
 clear hr0_1 hc0_1
 have HB := zaa.mk (Below.refl w.heap.size w)
 have H : (if a0_0 = 111 then (some (([0] : List Int))) else (if 0 < (l0_1.length : Int) then ((spec_l11Perm.f k ((zay l0_1 0).f0) ((zay l0_1 0).f1)).bind fun t150 => (if 1 < (l0_1.length : Int) then ((spec_l11Perm.f k ((zay l0_1 1).f0) ((zay l0_1 1).f1)).bind fun t154 => (if a0_0 = 124 then ((some (([] : List Int) : List Int)).bind fun y157 => (if y157.length + t150.length < 17592186044416 then ((some (y157 ++ t150 : List Int)).bind fun y160 => ((spec_l6More.f k t154 (t150.length : Int)).bind fun t163 => (if y160.length + t163.length < 17592186044416 then (some (y160 ++ t163)) else (none)))) else (none))) else ((spec_l6More.f k t154 (t150.length : Int)).bind fun t169 => (if t169.length + t150.length < 17592186044416 then (some (t169 ++ t150)) else (none))))) else (none))) else (none))) = some r := h
 clear h
 by_cases c2 : a0_0 = 111
 ·rw [if_pos c2] at H
  have c2b0 : (a0_0 == 111) = true := beq_iff_eq.mpr c2
  have c2b1 : (a0_0 != 111) = false := bne_eq_false_iff_eq.mpr c2
  clear c2
  obtain ⟨y146, hy146⟩ : ∃ y_ : List Int, y_ = (([0] : List Int)) := ⟨_, rfl⟩
  replace H : (some y146) = some r := by first | (rw [hy146]; with_reducible exact H) | (have H2_ := (Option.bind_some _ _).symm.trans H; rw [hy146]; with_reducible exact H2_) | (have H2_ := (Option.bind_some _ _).symm.trans H; with_reducible exact H2_) | with_reducible exact H | (rw [hy146]; exact H) | exact H
  have Ny146 := zaa.mk hy146
  clear hy146
  obtain rfl := Option.some.inj H
  go_enter Try.func20, Try.ntmps20
  go_wp2_with (first | ((with_reducible refine zbe (N := 1) rfl ?_); refine box_event ?hg (N := 1) ?hd (cs := #[.int .u8 a0_0, .slice A0_1 l0_1.length c0_1]) (t := 38) ?hr ?_; (case hd => rfl); (case hg => rfl); (case hr => first | (go_simp; done) | (go_simp; rfl)); intro gb145 hg w3 hbox hb; have n0_ := zaa.mk (zae (by repeat (first | (with_reducible first | exact HB.out | apply zac | apply zab | apply zad) | exact HB.out)) hb); have n1_ := zaa.mk (hbox); have n2_ := zaa.mk ((by rw [hg]; exact (zap (by repeat (first | (with_reducible first | exact HB.out | apply zac | apply zab | apply zad) | exact HB.out))) : w.heap.size ≤ gb145)); have n3_ := zaa.mk ((by rw [hg]; exact (zap (by repeat (first | (with_reducible first | exact HB.out | apply zac | apply zab | apply zad) | exact HB.out))) : w.heap.size ≤ gb145)); clear HB; have HB := n0_; have BK145 := n1_; have GW145 := n2_; have GE145 := n3_; clear n0_ n1_ n2_ n3_; clear hb hbox hg; have hcz4_0 : w3.cell? ⟨gb145, 0, none⟩ = some (.int .u8 a0_0) := (zag BK145.out 0).trans rfl; have hcz4_1 : w3.cell? ⟨gb145, 1, none⟩ = some (.slice A0_1 l0_1.length c0_1) := (zag BK145.out 1).trans rfl; have hfz4_0 := zaj BK145.out 0; have hfz4_1 := zaj BK145.out 1) | ((with_reducible refine zbe (N := 8) rfl ?_); refine Kd.R_lit (Kd.int .i64) _ 3 ?hg (N := 8) ?hd (xs := ([0] : List Int)) (inner := [.int .i64 0]) (ok := fun _ => True) (okp := fun _ => True) ?hr ?hp (fun _ hk => hk) trivial (Below.refl _ _) (Nat.le_refl _) (by simp) ?_; (case hd => rfl); (case hg => rfl); (case hr => first | (go_simp; done) | (go_simp; rfl)); (case hp => exact (Reps.one (show Kd.M (Kd.int .i64) _ _ _ 0 [.int .i64 0] from rfl) (Reps.none _ _))); intro v147 w5 ho6 hb hg_ hnew_; clear hg_ hnew_; (first | rw [← Ny146.out] at ho6 | (simp only [Int.reduceToNat] at ho6; rw [← Ny146.out] at ho6)); have n0_ := zaa.mk (Kd.R_lower ho6 (zap (by repeat (first | (with_reducible first | exact HB.out | apply zac | apply zab | apply zad | refine zaf ?_ GE145.out) | exact HB.out)))); have n1_ := zaa.mk (zcj (g := gb145) (o := .cells #[.int .u8 a0_0, .slice A0_1 l0_1.length c0_1] 38 (0, 0)) (by (with_reducible repeat (first | refine zbh ?_ _ | refine zbk ?_ | refine zbi ?_ _)); exact BK145.out) hb); have n2_ := zaa.mk (zae (by repeat (first | (with_reducible first | exact HB.out | apply zac | apply zab | apply zad | refine zaf ?_ GE145.out) | exact HB.out)) hb); clear BK145; clear HB; have HO148 := n0_; have BK145 := n1_; have HB := n2_; clear n0_ n1_ n2_; clear hb ho6))
  go_ret
  exact ⟨_, by first | rfl | (simp [zan, zam] <;> rfl) | (simp [*, zan, zam] <;> rfl), by (with_reducible repeat (first | apply Kd.R_alloc | apply Kd.R_drewN | apply Kd.R_drew)); exact HO148.out, by repeat (first | (with_reducible first | exact HB.out | apply zac | apply zab | apply zad | refine zaf ?_ GE145.out) | exact HB.out)⟩
 ·rw [if_neg c2] at H
  have c2b0 : (a0_0 == 111) = false := beq_eq_false_iff_ne.mpr c2
  have c2b1 : (a0_0 != 111) = true := bne_iff_ne.mpr c2
  by_cases c7 : 0 < (l0_1.length : Int)
  ·rw [if_pos c7] at H
   have c7b0 : decide (0 < (l0_1.length : Int)) = true := decide_eq_true c7
   have c7b1 : decide (0 < l0_1.length) = true := decide_eq_true (by omega)
   clear c7
   replace H := Option.bind_eq_some_iff.mp H
   obtain ⟨t150, A80, H⟩ := H
   replace H : (if 1 < (l0_1.length : Int) then ((spec_l11Perm.f k ((zay l0_1 1).f0) ((zay l0_1 1).f1)).bind fun t154 => (if a0_0 = 124 then ((some (([] : List Int) : List Int)).bind fun y157 => (if y157.length + t150.length < 17592186044416 then ((some (y157 ++ t150 : List Int)).bind fun y160 => ((spec_l6More.f k t154 (t150.length : Int)).bind fun t163 => (if y160.length + t163.length < 17592186044416 then (some (y160 ++ t163)) else (none)))) else (none))) else ((spec_l6More.f k t154 (t150.length : Int)).bind fun t169 => (if t169.length + t150.length < 17592186044416 then (some (t169 ++ t150)) else (none))))) else (none)) = some r := H
   have A8 := zaa.mk A80
   clear A80
   by_cases c9 : 1 < (l0_1.length : Int)
   ·rw [if_pos c9] at H
    have c9b0 : decide (1 < (l0_1.length : Int)) = true := decide_eq_true c9
    have c9b1 : decide (1 < l0_1.length) = true := decide_eq_true (by omega)
    clear c9
    replace H := Option.bind_eq_some_iff.mp H
    obtain ⟨t154, A100, H⟩ := H
    replace H : (if a0_0 = 124 then ((some (([] : List Int) : List Int)).bind fun y157 => (if y157.length + t150.length < 17592186044416 then ((some (y157 ++ t150 : List Int)).bind fun y160 => ((spec_l6More.f k t154 (t150.length : Int)).bind fun t163 => (if y160.length + t163.length < 17592186044416 then (some (y160 ++ t163)) else (none)))) else (none))) else ((spec_l6More.f k t154 (t150.length : Int)).bind fun t169 => (if t169.length + t150.length < 17592186044416 then (some (t169 ++ t150)) else (none)))) = some r := H
    have A10 := zaa.mk A100
    clear A100
    by_cases c11 : a0_0 = 124
    ·rw [if_pos c11] at H
     have c11b0 : (a0_0 == 124) = true := beq_iff_eq.mpr c11
     have c11b1 : (a0_0 != 124) = false := bne_eq_false_iff_eq.mpr c11
     clear c11
     obtain ⟨y157, hy157⟩ : ∃ y_ : List Int, y_ = (([] : List Int)) := ⟨_, rfl⟩
     replace H : (if y157.length + t150.length < 17592186044416 then ((some (y157 ++ t150 : List Int)).bind fun y160 => ((spec_l6More.f k t154 (t150.length : Int)).bind fun t163 => (if y160.length + t163.length < 17592186044416 then (some (y160 ++ t163)) else (none)))) else (none)) = some r := by first | (rw [hy157]; with_reducible exact H) | (have H2_ := (Option.bind_some _ _).symm.trans H; rw [hy157]; with_reducible exact H2_) | (have H2_ := (Option.bind_some _ _).symm.trans H; with_reducible exact H2_) | with_reducible exact H | (rw [hy157]; exact H) | exact H
     have Ny157 := zaa.mk hy157
     clear hy157
     by_cases c12 : y157.length + t150.length < 17592186044416
     ·rw [if_pos c12] at H
      have LMc12 := zaa.mk c12
      clear c12
      obtain ⟨y160, hy160⟩ : ∃ y_ : List Int, y_ = (y157 ++ t150) := ⟨_, rfl⟩
      replace H : ((spec_l6More.f k t154 (t150.length : Int)).bind fun t163 => (if y160.length + t163.length < 17592186044416 then (some (y160 ++ t163)) else (none))) = some r := by first | (rw [hy160]; with_reducible exact H) | (have H2_ := (Option.bind_some _ _).symm.trans H; rw [hy160]; with_reducible exact H2_) | (have H2_ := (Option.bind_some _ _).symm.trans H; with_reducible exact H2_) | with_reducible exact H | (rw [hy160]; exact H) | exact H
      have Ny160 := zaa.mk hy160
      clear hy160
      replace H := Option.bind_eq_some_iff.mp H
      obtain ⟨t163, A130, H⟩ := H
      replace H : (if y160.length + t163.length < 17592186044416 then (some (y160 ++ t163)) else (none)) = some r := H
      have A13 := zaa.mk A130
      clear A130
      by_cases c14 : y160.length + t163.length < 17592186044416
      ·rw [if_pos c14] at H
       have LMc14 := zaa.mk c14
       clear c14
       obtain ⟨y166, hy166⟩ : ∃ y_ : List Int, y_ = (y160 ++ t163) := ⟨_, rfl⟩
       replace H : (some y166) = some r := by first | (rw [hy166]; with_reducible exact H) | (have H2_ := (Option.bind_some _ _).symm.trans H; rw [hy166]; with_reducible exact H2_) | (have H2_ := (Option.bind_some _ _).symm.trans H; with_reducible exact H2_) | with_reducible exact H | (rw [hy166]; exact H) | exact H
       have Ny166 := zaa.mk hy166
       clear hy166
       obtain rfl := Option.some.inj H
       go_enter Try.func20, Try.ntmps20
       go_wp2_with (first | ((with_reducible refine zbe (N := 1) rfl ?_); refine box_event ?hg (N := 1) ?hd (cs := #[.int .u8 a0_0, .slice A0_1 l0_1.length c0_1]) (t := 38) ?hr ?_; (case hd => rfl); (case hg => rfl); (case hr => first | (go_simp; done) | (go_simp; rfl)); intro gb145 hg w15 hbox hb; have n0_ := zaa.mk (zae (by repeat (first | (with_reducible first | exact HB.out | apply zac | apply zab | apply zad) | exact HB.out)) hb); have n1_ := zaa.mk (hbox); have n2_ := zaa.mk ((by rw [hg]; exact (zap (by repeat (first | (with_reducible first | exact HB.out | apply zac | apply zab | apply zad) | exact HB.out))) : w.heap.size ≤ gb145)); have n3_ := zaa.mk ((by rw [hg]; exact (zap (by repeat (first | (with_reducible first | exact HB.out | apply zac | apply zab | apply zad) | exact HB.out))) : w.heap.size ≤ gb145)); clear HB; have HB := n0_; have BK145 := n1_; have GW145 := n2_; have GE145 := n3_; clear n0_ n1_ n2_ n3_; clear hb hbox hg; have hcz16_0 : w15.cell? ⟨gb145, 0, none⟩ = some (.int .u8 a0_0) := (zag BK145.out 0).trans rfl; have hcz16_1 : w15.cell? ⟨gb145, 1, none⟩ = some (.slice A0_1 l0_1.length c0_1) := (zag BK145.out 1).trans rfl; have hfz16_0 := zaj BK145.out 0; have hfz16_1 := zaj BK145.out 1; have p149 : 0 ≤ (0 : Int) := (by omega); have q149 : 0 < (l0_1.length : Int) := of_decide_eq_true (by first | (with_reducible assumption) | assumption); obtain ⟨ad149, A149_1, c149_1, e149, hx149_0, hx149_1, hl149_1, hi149_1⟩ := at_T38 HR0_1.out 0 p149 q149; cases e149; have qi149 : (0 < l0_1.length) = True := eq_true (by omega); (try rw [show ((0 : Int)).toNat = 0 from rfl] at hx149_0); (try rw [show 0 * 2 = 0 from rfl] at hx149_0); (try rw [Addr.add_zero'] at hx149_0); (try rw [show ((0 : Int)).toNat = 0 from rfl] at hx149_1); (try rw [show 0 * 2 = 0 from rfl] at hx149_1); (try rw [Addr.add_zero'] at hx149_1); replace hx149_0 := (HB.out.cell (World.block_lt_of_cell? w _ hx149_0)).trans hx149_0; replace hx149_1 := (HB.out.cell (World.block_lt_of_cell? w _ hx149_1)).trans hx149_1; have HR149_1 := zaa.mk hi149_1; have HC149_1 := zaa.mk hl149_1; clear hi149_1 hl149_1; replace p149 := eq_true p149; replace q149 := eq_true q149) | ((with_reducible refine zak (f := 20) rfl ?_); refine zbb (some 13) rfl rfl Try.func20 (by kernel_rfl) rfl #[.agg #[.int .u8 ((zay l0_1 0).f0), .slice A149_1 ((zay l0_1 0).f1).length c149_1]] rfl (by (try simp only [List.map_toArray, List.map_cons, List.map_nil]); first | done | rfl | (simp only [List.length_drop, List.length_take]; rfl)) ?_; (with_reducible refine (ih k (by omega) ((zay l0_1 0).f0) _ _ ((zay l0_1 0).f1) t150 _ ?side1 ?side2 A8.out).mono ?_); (case side1 => repeat (first | exact (Kd.C_below HR149_1.out HB.out) | (with_reducible refine Kd.C_alloc ?_ _) | (with_reducible refine Kd.C_drewN ?_ _) | (with_reducible refine Kd.C_drew ?_))); (case side2 => exact HC149_1.out); rintro e w17 ⟨v151, rfl, ho0, hb⟩; refine ⟨_, rfl, ?_⟩; have n0_ := zaa.mk (Kd.R_lower ho0 (zap (by repeat (first | (with_reducible first | exact HB.out | apply zac | apply zab | apply zad | refine zaf ?_ GE145.out) | exact HB.out)))); have n1_ := zaa.mk (zcj (g := gb145) (o := .cells #[.int .u8 a0_0, .slice (some ad149) l0_1.length c0_1] 38 (0, 0)) (by (with_reducible repeat (first | refine zbh ?_ _ | refine zbk ?_ | refine zbi ?_ _)); exact BK145.out) hb); have n2_ := zaa.mk (zae (by repeat (first | (with_reducible first | exact HB.out | apply zac | apply zab | apply zad | refine zaf ?_ GE145.out) | exact HB.out)) hb); clear BK145; clear HB; have HO152 := n0_; have BK145 := n1_; have HB := n2_; clear n0_ n1_ n2_; (try clear hb); (try clear hb2); (try clear hk); (try clear hi); (try clear ho0); have hcz18_0 : w17.cell? ⟨gb145, 0, none⟩ = some (.int .u8 a0_0) := (zag BK145.out 0).trans rfl; have hcz18_1 : w17.cell? ⟨gb145, 1, none⟩ = some (.slice (some ad149) l0_1.length c0_1) := (zag BK145.out 1).trans rfl; have hfz18_0 := zaj BK145.out 0; have hfz18_1 := zaj BK145.out 1; have p153 : 0 ≤ (1 : Int) := (by omega); have q153 : 1 < (l0_1.length : Int) := of_decide_eq_true (by first | (with_reducible assumption) | assumption); obtain ⟨ad153, A153_1, c153_1, e153, hx153_0, hx153_1, hl153_1, hi153_1⟩ := at_T38 HR0_1.out 1 p153 q153; obtain rfl : ad149 = ad153 := (by injection e153); (try simp only [show (1 : Int).toNat = 1 from rfl, Nat.reduceMul, Nat.reduceEqDiff, Go.Addr.add, ↓reduceIte] at hx153_0); (try simp only [show (1 : Int).toNat = 1 from rfl, Nat.reduceMul, Nat.reduceEqDiff, Go.Addr.add, ↓reduceIte] at hx153_1); have qi153 : (1 < l0_1.length) = True := eq_true (by omega); (try rw [show ((1 : Int)).toNat = 1 from rfl] at hx153_0); (try rw [show 1 * 2 = 2 from rfl] at hx153_0); (try rw [show ((1 : Int)).toNat = 1 from rfl] at hx153_1); (try rw [show 1 * 2 = 2 from rfl] at hx153_1); replace hx153_0 := (HB.out.cell (World.block_lt_of_cell? w _ hx153_0)).trans hx153_0; replace hx153_1 := (HB.out.cell (World.block_lt_of_cell? w _ hx153_1)).trans hx153_1; have HR153_1 := zaa.mk hi153_1; have HC153_1 := zaa.mk hl153_1; clear hi153_1 hl153_1; replace p153 := eq_true p153; replace q153 := eq_true q153) | ((with_reducible refine zak (f := 20) rfl ?_); refine zbb (some 18) rfl rfl Try.func20 (by kernel_rfl) rfl #[.agg #[.int .u8 ((zay l0_1 1).f0), .slice A153_1 ((zay l0_1 1).f1).length c153_1]] rfl (by (try simp only [List.map_toArray, List.map_cons, List.map_nil]); first | done | rfl | (simp only [List.length_drop, List.length_take]; rfl)) ?_; (with_reducible refine (ih k (by omega) ((zay l0_1 1).f0) _ _ ((zay l0_1 1).f1) t154 _ ?side1 ?side2 A10.out).mono ?_); (case side1 => repeat (first | exact (Kd.C_below HR153_1.out HB.out) | (with_reducible refine Kd.C_alloc ?_ _) | (with_reducible refine Kd.C_drewN ?_ _) | (with_reducible refine Kd.C_drew ?_))); (case side2 => exact HC153_1.out); rintro e w19 ⟨v155, rfl, ho0, hb⟩; refine ⟨_, rfl, ?_⟩; have n0_ := zaa.mk (Kd.R_elder' (by (with_reducible repeat (first | apply Kd.R_alloc | apply Kd.R_drewN | apply Kd.R_drew)); exact HO152.out) (Kd.R_base ho0) hb); have n1_ := zaa.mk (Kd.R_lower (Kd.R_new' ho0 (Kd.R_lt (by (with_reducible repeat (first | apply Kd.R_alloc | apply Kd.R_drewN | apply Kd.R_drew)); exact HO152.out))) (zap (by repeat (first | (with_reducible first | exact HB.out | apply zac | apply zab | apply zad | refine zaf ?_ GE145.out) | exact HB.out)))); have n2_ := zaa.mk (zcj (g := gb145) (o := .cells #[.int .u8 a0_0, .slice (some ad149) l0_1.length c0_1] 38 (0, 0)) (by (with_reducible repeat (first | refine zbh ?_ _ | refine zbk ?_ | refine zbi ?_ _)); exact BK145.out) hb); have n3_ := zaa.mk (zae (by repeat (first | (with_reducible first | exact HB.out | apply zac | apply zab | apply zad | refine zaf ?_ GE145.out) | exact HB.out)) hb); clear HO152; clear BK145; clear HB; have HO152 := n0_; have HO156 := n1_; have BK145 := n2_; have HB := n3_; clear n0_ n1_ n2_ n3_; (try clear hb); (try clear hb2); (try clear hk); (try clear hi); (try clear ho0); have hcz20_0 : w19.cell? ⟨gb145, 0, none⟩ = some (.int .u8 a0_0) := (zag BK145.out 0).trans rfl; have hcz20_1 : w19.cell? ⟨gb145, 1, none⟩ = some (.slice (some ad149) l0_1.length c0_1) := (zag BK145.out 1).trans rfl; have hfz20_0 := zaj BK145.out 0; have hfz20_1 := zaj BK145.out 1) | ((with_reducible refine zbe (N := 22) rfl ?_); refine Kd.R_lit (Kd.int .i64) _ 3 ?hg (N := 22) ?hd (xs := ([] : List Int)) (inner := []) (ok := fun _ => True) (okp := fun _ => True) ?hr ?hp (fun _ hk => hk) trivial (Below.refl _ _) (Nat.le_refl _) (by simp) ?_; (case hd => rfl); (case hg => rfl); (case hr => first | (go_simp; done) | (go_simp; rfl)); (case hp => exact (Reps.none _ _)); intro v158 w21 ho22 hb hg_ hnew_; clear hg_ hnew_; (first | rw [← Ny157.out] at ho22 | (simp only [Int.reduceToNat] at ho22; rw [← Ny157.out] at ho22)); have n0_ := zaa.mk (Kd.R_elder' (by (with_reducible repeat (first | apply Kd.R_alloc | apply Kd.R_drewN | apply Kd.R_drew)); exact HO152.out) (Kd.R_base ho22) hb); have n1_ := zaa.mk (Kd.R_elder' (by (with_reducible repeat (first | apply Kd.R_alloc | apply Kd.R_drewN | apply Kd.R_drew)); exact HO156.out) (Kd.R_base ho22) hb); have n2_ := zaa.mk (Kd.R_lower (Kd.R_new' (Kd.R_new' ho22 (Kd.R_lt (by (with_reducible repeat (first | apply Kd.R_alloc | apply Kd.R_drewN | apply Kd.R_drew)); exact HO152.out))) (Kd.R_lt (by (with_reducible repeat (first | apply Kd.R_alloc | apply Kd.R_drewN | apply Kd.R_drew)); exact HO156.out))) (zap (by repeat (first | (with_reducible first | exact HB.out | apply zac | apply zab | apply zad | refine zaf ?_ GE145.out) | exact HB.out)))); have n3_ := zaa.mk (zcj (g := gb145) (o := .cells #[.int .u8 a0_0, .slice (some ad149) l0_1.length c0_1] 38 (0, 0)) (by (with_reducible repeat (first | refine zbh ?_ _ | refine zbk ?_ | refine zbi ?_ _)); exact BK145.out) hb); have n4_ := zaa.mk (zae (by repeat (first | (with_reducible first | exact HB.out | apply zac | apply zab | apply zad | refine zaf ?_ GE145.out) | exact HB.out)) hb); clear HO152; clear HO156; clear BK145; clear HB; have HO152 := n0_; have HO156 := n1_; have HO159 := n2_; have BK145 := n3_; have HB := n4_; clear n0_ n1_ n2_ n3_ n4_; clear hb ho22; obtain ⟨Ao24, co24, eo24⟩ := Kd.R_slice HO152.out; subst eo24) | ((with_reducible refine zci (b := .append) (xs := #[.tmp 22, .tmp 23]) rfl ?_); at_builtin; refine Kd.R_append_rows (Kd.int .i64) (w0 := w) w.heap.size rfl (.tmp 22) (.tmp 23) 22 3 (.int .i64 0) 8 rfl Try.underlying22 info3 rfl (by decide) (by omega) v158 y157 t150 _ _ _ (fun k_ => some k_ ≠ (.slice Ao24 t150.length co24 : Value).ownBlock ∧ some k_ ≠ (v155 : Value).ownBlock) (fun _ => False) rfl rfl ?aO ?aR (fun _ _ h => h) (fun _ h => h.elim) ?aF ?aB ?aS ?aL ?_; (case aR => repeat (first | exact (Kd.R_reads' HO152.out).2.2 | (with_reducible refine Kd.C_alloc ?_ _) | (with_reducible refine Kd.C_drewN ?_ _) | (with_reducible refine Kd.C_drew ?_))); (case aB => exact (by repeat (first | (with_reducible first | exact HB.out | apply zac | apply zab | apply zad | refine zaf ?_ GE145.out) | exact HB.out))); (case aF => exact (fun k_ hk => ⟨Kd.fresh' (Kd.R_lt (by (with_reducible repeat (first | apply Kd.R_alloc | apply Kd.R_drewN | apply Kd.R_drew)); exact HO152.out)) k_ hk, Kd.fresh' (Kd.R_lt (by (with_reducible repeat (first | apply Kd.R_alloc | apply Kd.R_drewN | apply Kd.R_drew)); exact HO156.out)) k_ hk⟩)); (case aO => exact (by (with_reducible repeat (first | apply Kd.R_alloc | apply Kd.R_drewN | apply Kd.R_drew)); exact Kd.R_mono HO159.out (fun _ hk => ⟨hk.1.2, hk.2⟩))); (case aS => exact (zap (by repeat (first | (with_reducible first | exact HB.out | apply zac | apply zab | apply zad | refine zaf ?_ GE145.out) | exact HB.out)))); (case aL => have := LMc12.out; omega); intro v161 w23 ho hb hg hat; rw [← Ny160.out] at ho; have n0_ := zaa.mk (blk_grown (g := gb145) (o := .cells #[.int .u8 a0_0, .slice (some ad149) l0_1.length c0_1] 38 (0, 0)) (by (with_reducible repeat (first | refine zbh ?_ _ | refine zbk ?_ | refine zbi ?_ _)); exact BK145.out) hg (Kd.R_ne HO159.out BK145.out (by decide))); have n1_ := zaa.mk (Kd.R_after (ok := (fun k_ => some k_ ≠ (v155 : Value).ownBlock)) (by (with_reducible repeat (first | apply Kd.R_alloc | apply Kd.R_drewN | apply Kd.R_drew)); exact Kd.R_mono HO152.out (fun _ hk => ⟨hk.1.2, hk.2⟩)) hg hat); have n2_ := zaa.mk (Kd.R_after (ok := (fun k_ => some k_ ≠ (.slice Ao24 t150.length co24 : Value).ownBlock)) (by (with_reducible repeat (first | apply Kd.R_alloc | apply Kd.R_drewN | apply Kd.R_drew)); exact Kd.R_mono HO156.out (fun _ hk => ⟨hk.1.2, hk.2⟩)) hg hat); have n3_ := zaa.mk (hb); have n4_ := zaa.mk (ho); clear BK145; clear HO152; clear HO156; clear HB; clear HO159; have BK145 := n0_; have HO152 := n1_; have HO156 := n2_; have HB := n3_; have HO162 := n4_; clear n0_ n1_ n2_ n3_ n4_; clear ho hb hg hat; obtain ⟨Ao25, co25, eo25⟩ := Kd.R_slice HO156.out; subst eo25) | ((with_reducible refine zak (f := 36) rfl ?_); refine zbb (some 28) rfl rfl Try.func36 (by kernel_rfl) rfl #[.slice Ao25 t154.length co25, .int .i64 (t150.length : Int)] rfl (by (try simp only [List.map_toArray, List.map_cons, List.map_nil]); first | done | rfl | (simp only [List.length_drop, List.length_take]; rfl)) ?_; (with_reducible refine (spec_l6More.calls k _ _ t154 (t150.length : Int) t163 _ ?side1 ?side2 A13.out).mono ?_); (case side1 => repeat (first | exact (Kd.R_reads' HO156.out).2.2 | (with_reducible refine Kd.C_alloc ?_ _) | (with_reducible refine Kd.C_drewN ?_ _) | (with_reducible refine Kd.C_drew ?_))); (case side2 => exact (Kd.R_reads' HO156.out).2.1); rintro e w26 ⟨v164, rfl, ho0, hb⟩; refine ⟨_, rfl, ?_⟩; have n0_ := zaa.mk (Kd.R_elder' (by (with_reducible repeat (first | apply Kd.R_alloc | apply Kd.R_drewN | apply Kd.R_drew)); exact HO152.out) (Kd.R_base ho0) hb); have n1_ := zaa.mk (Kd.R_elder' (by (with_reducible repeat (first | apply Kd.R_alloc | apply Kd.R_drewN | apply Kd.R_drew)); exact HO156.out) (Kd.R_base ho0) hb); have n2_ := zaa.mk (Kd.R_elder' (by (with_reducible repeat (first | apply Kd.R_alloc | apply Kd.R_drewN | apply Kd.R_drew)); exact HO162.out) (Kd.R_base ho0) hb); have n3_ := zaa.mk (Kd.R_lower (Kd.R_new' (Kd.R_new' (Kd.R_new' ho0 (Kd.R_lt (by (with_reducible repeat (first | apply Kd.R_alloc | apply Kd.R_drewN | apply Kd.R_drew)); exact HO152.out))) (Kd.R_lt (by (with_reducible repeat (first | apply Kd.R_alloc | apply Kd.R_drewN | apply Kd.R_drew)); exact HO156.out))) (Kd.R_lt (by (with_reducible repeat (first | apply Kd.R_alloc | apply Kd.R_drewN | apply Kd.R_drew)); exact HO162.out))) (zap (by repeat (first | (with_reducible first | exact HB.out | apply zac | apply zab | apply zad | refine zaf ?_ GE145.out) | exact HB.out)))); have n4_ := zaa.mk (zcj (g := gb145) (o := .cells #[.int .u8 a0_0, .slice (some ad149) l0_1.length c0_1] 38 (0, 0)) (by (with_reducible repeat (first | refine zbh ?_ _ | refine zbk ?_ | refine zbi ?_ _)); exact BK145.out) hb); have n5_ := zaa.mk (zae (by repeat (first | (with_reducible first | exact HB.out | apply zac | apply zab | apply zad | refine zaf ?_ GE145.out) | exact HB.out)) hb); clear HO152; clear HO156; clear HO162; clear BK145; clear HB; have HO152 := n0_; have HO156 := n1_; have HO162 := n2_; have HO165 := n3_; have BK145 := n4_; have HB := n5_; clear n0_ n1_ n2_ n3_ n4_ n5_; (try clear hb); (try clear hb2); (try clear hk); (try clear hi); (try clear ho0); obtain ⟨Ao28, co28, eo28⟩ := Kd.R_slice HO165.out; subst eo28) | ((with_reducible refine zci (b := .append) (xs := #[.tmp 24, .tmp 28]) rfl ?_); at_builtin; refine Kd.R_append_rows (Kd.int .i64) (w0 := w) w.heap.size rfl (.tmp 24) (.tmp 28) 22 3 (.int .i64 0) 8 rfl Try.underlying22 info3 rfl (by decide) (by omega) v161 y160 t163 _ _ _ (fun k_ => some k_ ≠ (.slice Ao24 t150.length co24 : Value).ownBlock ∧ some k_ ≠ (.slice Ao25 t154.length co25 : Value).ownBlock ∧ some k_ ≠ (.slice Ao28 t163.length co28 : Value).ownBlock) (fun _ => False) rfl rfl ?aO ?aR (fun _ _ h => h) (fun _ h => h.elim) ?aF ?aB ?aS ?aL ?_; (case aR => repeat (first | exact (Kd.R_reads' HO165.out).2.2 | (with_reducible refine Kd.C_alloc ?_ _) | (with_reducible refine Kd.C_drewN ?_ _) | (with_reducible refine Kd.C_drew ?_))); (case aB => exact (by repeat (first | (with_reducible first | exact HB.out | apply zac | apply zab | apply zad | refine zaf ?_ GE145.out) | exact HB.out))); (case aF => exact (fun k_ hk => ⟨Kd.fresh' (Kd.R_lt (by (with_reducible repeat (first | apply Kd.R_alloc | apply Kd.R_drewN | apply Kd.R_drew)); exact HO152.out)) k_ hk, Kd.fresh' (Kd.R_lt (by (with_reducible repeat (first | apply Kd.R_alloc | apply Kd.R_drewN | apply Kd.R_drew)); exact HO156.out)) k_ hk, Kd.fresh' (Kd.R_lt (by (with_reducible repeat (first | apply Kd.R_alloc | apply Kd.R_drewN | apply Kd.R_drew)); exact HO165.out)) k_ hk⟩)); (case aO => exact (by (with_reducible repeat (first | apply Kd.R_alloc | apply Kd.R_drewN | apply Kd.R_drew)); exact Kd.R_mono HO162.out (fun _ hk => ⟨hk.1.1, ⟨hk.1.2, hk.2⟩⟩))); (case aS => exact (zap (by repeat (first | (with_reducible first | exact HB.out | apply zac | apply zab | apply zad | refine zaf ?_ GE145.out) | exact HB.out)))); (case aL => have := LMc14.out; omega); intro v167 w27 ho hb hg hat; rw [← Ny166.out] at ho; have n0_ := zaa.mk (blk_grown (g := gb145) (o := .cells #[.int .u8 a0_0, .slice (some ad149) l0_1.length c0_1] 38 (0, 0)) (by (with_reducible repeat (first | refine zbh ?_ _ | refine zbk ?_ | refine zbi ?_ _)); exact BK145.out) hg (Kd.R_ne HO162.out BK145.out (by decide))); have n1_ := zaa.mk (Kd.R_after (ok := (fun k_ => some k_ ≠ (.slice Ao25 t154.length co25 : Value).ownBlock ∧ some k_ ≠ (.slice Ao28 t163.length co28 : Value).ownBlock)) (by (with_reducible repeat (first | apply Kd.R_alloc | apply Kd.R_drewN | apply Kd.R_drew)); exact Kd.R_mono HO152.out (fun _ hk => ⟨⟨hk.1.1, hk.2⟩, hk.1.2⟩)) hg hat); have n2_ := zaa.mk (Kd.R_after (ok := (fun k_ => some k_ ≠ (.slice Ao24 t150.length co24 : Value).ownBlock ∧ some k_ ≠ (.slice Ao28 t163.length co28 : Value).ownBlock)) (by (with_reducible repeat (first | apply Kd.R_alloc | apply Kd.R_drewN | apply Kd.R_drew)); exact Kd.R_mono HO156.out (fun _ hk => ⟨⟨hk.1.1, hk.2⟩, hk.1.2⟩)) hg hat); have n3_ := zaa.mk (Kd.R_after (ok := (fun k_ => some k_ ≠ (.slice Ao24 t150.length co24 : Value).ownBlock ∧ some k_ ≠ (.slice Ao25 t154.length co25 : Value).ownBlock)) (by (with_reducible repeat (first | apply Kd.R_alloc | apply Kd.R_drewN | apply Kd.R_drew)); exact Kd.R_mono HO165.out (fun _ hk => ⟨⟨hk.1.1.2, hk.1.2⟩, hk.2⟩)) hg hat); have n4_ := zaa.mk (hb); have n5_ := zaa.mk (ho); clear BK145; clear HO152; clear HO156; clear HO165; clear HB; clear HO162; have BK145 := n0_; have HO152 := n1_; have HO156 := n2_; have HO165 := n3_; have HB := n4_; have HO168 := n5_; clear n0_ n1_ n2_ n3_ n4_ n5_; clear ho hb hg hat))
       go_ret
       exact ⟨_, by first | rfl | (simp [zan, zam] <;> rfl) | (simp [*, zan, zam] <;> rfl), by (with_reducible repeat (first | apply Kd.R_alloc | apply Kd.R_drewN | apply Kd.R_drew)); exact Kd.R_mono HO168.out (fun _ hk => trivial), by repeat (first | (with_reducible first | exact HB.out | apply zac | apply zab | apply zad | refine zaf ?_ GE145.out) | exact HB.out)⟩
      ·rw [if_neg c14] at H
       exact absurd H (by simp)
     ·rw [if_neg c12] at H
      exact absurd H (by simp)
    ·rw [if_neg c11] at H
     have c11b0 : (a0_0 == 124) = false := beq_eq_false_iff_ne.mpr c11
     have c11b1 : (a0_0 != 124) = true := bne_iff_ne.mpr c11
     replace H := Option.bind_eq_some_iff.mp H
     obtain ⟨t169, A290, H⟩ := H
     replace H : (if t169.length + t150.length < 17592186044416 then (some (t169 ++ t150)) else (none)) = some r := H
     have A29 := zaa.mk A290
     clear A290
     by_cases c30 : t169.length + t150.length < 17592186044416
     ·rw [if_pos c30] at H
      have LMc30 := zaa.mk c30
      clear c30
      obtain ⟨y172, hy172⟩ : ∃ y_ : List Int, y_ = (t169 ++ t150) := ⟨_, rfl⟩
      replace H : (some y172) = some r := by first | (rw [hy172]; with_reducible exact H) | (have H2_ := (Option.bind_some _ _).symm.trans H; rw [hy172]; with_reducible exact H2_) | (have H2_ := (Option.bind_some _ _).symm.trans H; with_reducible exact H2_) | with_reducible exact H | (rw [hy172]; exact H) | exact H
      have Ny172 := zaa.mk hy172
      clear hy172
      obtain rfl := Option.some.inj H
      go_enter Try.func20, Try.ntmps20
      go_wp2_with (first | ((with_reducible refine zbe (N := 1) rfl ?_); refine box_event ?hg (N := 1) ?hd (cs := #[.int .u8 a0_0, .slice A0_1 l0_1.length c0_1]) (t := 38) ?hr ?_; (case hd => rfl); (case hg => rfl); (case hr => first | (go_simp; done) | (go_simp; rfl)); intro gb145 hg w31 hbox hb; have n0_ := zaa.mk (zae (by repeat (first | (with_reducible first | exact HB.out | apply zac | apply zab | apply zad) | exact HB.out)) hb); have n1_ := zaa.mk (hbox); have n2_ := zaa.mk ((by rw [hg]; exact (zap (by repeat (first | (with_reducible first | exact HB.out | apply zac | apply zab | apply zad) | exact HB.out))) : w.heap.size ≤ gb145)); have n3_ := zaa.mk ((by rw [hg]; exact (zap (by repeat (first | (with_reducible first | exact HB.out | apply zac | apply zab | apply zad) | exact HB.out))) : w.heap.size ≤ gb145)); clear HB; have HB := n0_; have BK145 := n1_; have GW145 := n2_; have GE145 := n3_; clear n0_ n1_ n2_ n3_; clear hb hbox hg; have hcz32_0 : w31.cell? ⟨gb145, 0, none⟩ = some (.int .u8 a0_0) := (zag BK145.out 0).trans rfl; have hcz32_1 : w31.cell? ⟨gb145, 1, none⟩ = some (.slice A0_1 l0_1.length c0_1) := (zag BK145.out 1).trans rfl; have hfz32_0 := zaj BK145.out 0; have hfz32_1 := zaj BK145.out 1; have p149 : 0 ≤ (0 : Int) := (by omega); have q149 : 0 < (l0_1.length : Int) := of_decide_eq_true (by first | (with_reducible assumption) | assumption); obtain ⟨ad149, A149_1, c149_1, e149, hx149_0, hx149_1, hl149_1, hi149_1⟩ := at_T38 HR0_1.out 0 p149 q149; cases e149; have qi149 : (0 < l0_1.length) = True := eq_true (by omega); (try rw [show ((0 : Int)).toNat = 0 from rfl] at hx149_0); (try rw [show 0 * 2 = 0 from rfl] at hx149_0); (try rw [Addr.add_zero'] at hx149_0); (try rw [show ((0 : Int)).toNat = 0 from rfl] at hx149_1); (try rw [show 0 * 2 = 0 from rfl] at hx149_1); (try rw [Addr.add_zero'] at hx149_1); replace hx149_0 := (HB.out.cell (World.block_lt_of_cell? w _ hx149_0)).trans hx149_0; replace hx149_1 := (HB.out.cell (World.block_lt_of_cell? w _ hx149_1)).trans hx149_1; have HR149_1 := zaa.mk hi149_1; have HC149_1 := zaa.mk hl149_1; clear hi149_1 hl149_1; replace p149 := eq_true p149; replace q149 := eq_true q149) | ((with_reducible refine zak (f := 20) rfl ?_); refine zbb (some 13) rfl rfl Try.func20 (by kernel_rfl) rfl #[.agg #[.int .u8 ((zay l0_1 0).f0), .slice A149_1 ((zay l0_1 0).f1).length c149_1]] rfl (by (try simp only [List.map_toArray, List.map_cons, List.map_nil]); first | done | rfl | (simp only [List.length_drop, List.length_take]; rfl)) ?_; (with_reducible refine (ih k (by omega) ((zay l0_1 0).f0) _ _ ((zay l0_1 0).f1) t150 _ ?side1 ?side2 A8.out).mono ?_); (case side1 => repeat (first | exact (Kd.C_below HR149_1.out HB.out) | (with_reducible refine Kd.C_alloc ?_ _) | (with_reducible refine Kd.C_drewN ?_ _) | (with_reducible refine Kd.C_drew ?_))); (case side2 => exact HC149_1.out); rintro e w33 ⟨v151, rfl, ho0, hb⟩; refine ⟨_, rfl, ?_⟩; have n0_ := zaa.mk (Kd.R_lower ho0 (zap (by repeat (first | (with_reducible first | exact HB.out | apply zac | apply zab | apply zad | refine zaf ?_ GE145.out) | exact HB.out)))); have n1_ := zaa.mk (zcj (g := gb145) (o := .cells #[.int .u8 a0_0, .slice (some ad149) l0_1.length c0_1] 38 (0, 0)) (by (with_reducible repeat (first | refine zbh ?_ _ | refine zbk ?_ | refine zbi ?_ _)); exact BK145.out) hb); have n2_ := zaa.mk (zae (by repeat (first | (with_reducible first | exact HB.out | apply zac | apply zab | apply zad | refine zaf ?_ GE145.out) | exact HB.out)) hb); clear BK145; clear HB; have HO152 := n0_; have BK145 := n1_; have HB := n2_; clear n0_ n1_ n2_; (try clear hb); (try clear hb2); (try clear hk); (try clear hi); (try clear ho0); have hcz34_0 : w33.cell? ⟨gb145, 0, none⟩ = some (.int .u8 a0_0) := (zag BK145.out 0).trans rfl; have hcz34_1 : w33.cell? ⟨gb145, 1, none⟩ = some (.slice (some ad149) l0_1.length c0_1) := (zag BK145.out 1).trans rfl; have hfz34_0 := zaj BK145.out 0; have hfz34_1 := zaj BK145.out 1; have p153 : 0 ≤ (1 : Int) := (by omega); have q153 : 1 < (l0_1.length : Int) := of_decide_eq_true (by first | (with_reducible assumption) | assumption); obtain ⟨ad153, A153_1, c153_1, e153, hx153_0, hx153_1, hl153_1, hi153_1⟩ := at_T38 HR0_1.out 1 p153 q153; obtain rfl : ad149 = ad153 := (by injection e153); (try simp only [show (1 : Int).toNat = 1 from rfl, Nat.reduceMul, Nat.reduceEqDiff, Go.Addr.add, ↓reduceIte] at hx153_0); (try simp only [show (1 : Int).toNat = 1 from rfl, Nat.reduceMul, Nat.reduceEqDiff, Go.Addr.add, ↓reduceIte] at hx153_1); have qi153 : (1 < l0_1.length) = True := eq_true (by omega); (try rw [show ((1 : Int)).toNat = 1 from rfl] at hx153_0); (try rw [show 1 * 2 = 2 from rfl] at hx153_0); (try rw [show ((1 : Int)).toNat = 1 from rfl] at hx153_1); (try rw [show 1 * 2 = 2 from rfl] at hx153_1); replace hx153_0 := (HB.out.cell (World.block_lt_of_cell? w _ hx153_0)).trans hx153_0; replace hx153_1 := (HB.out.cell (World.block_lt_of_cell? w _ hx153_1)).trans hx153_1; have HR153_1 := zaa.mk hi153_1; have HC153_1 := zaa.mk hl153_1; clear hi153_1 hl153_1; replace p153 := eq_true p153; replace q153 := eq_true q153) | ((with_reducible refine zak (f := 20) rfl ?_); refine zbb (some 18) rfl rfl Try.func20 (by kernel_rfl) rfl #[.agg #[.int .u8 ((zay l0_1 1).f0), .slice A153_1 ((zay l0_1 1).f1).length c153_1]] rfl (by (try simp only [List.map_toArray, List.map_cons, List.map_nil]); first | done | rfl | (simp only [List.length_drop, List.length_take]; rfl)) ?_; (with_reducible refine (ih k (by omega) ((zay l0_1 1).f0) _ _ ((zay l0_1 1).f1) t154 _ ?side1 ?side2 A10.out).mono ?_); (case side1 => repeat (first | exact (Kd.C_below HR153_1.out HB.out) | (with_reducible refine Kd.C_alloc ?_ _) | (with_reducible refine Kd.C_drewN ?_ _) | (with_reducible refine Kd.C_drew ?_))); (case side2 => exact HC153_1.out); rintro e w35 ⟨v155, rfl, ho0, hb⟩; refine ⟨_, rfl, ?_⟩; have n0_ := zaa.mk (Kd.R_elder' (by (with_reducible repeat (first | apply Kd.R_alloc | apply Kd.R_drewN | apply Kd.R_drew)); exact HO152.out) (Kd.R_base ho0) hb); have n1_ := zaa.mk (Kd.R_lower (Kd.R_new' ho0 (Kd.R_lt (by (with_reducible repeat (first | apply Kd.R_alloc | apply Kd.R_drewN | apply Kd.R_drew)); exact HO152.out))) (zap (by repeat (first | (with_reducible first | exact HB.out | apply zac | apply zab | apply zad | refine zaf ?_ GE145.out) | exact HB.out)))); have n2_ := zaa.mk (zcj (g := gb145) (o := .cells #[.int .u8 a0_0, .slice (some ad149) l0_1.length c0_1] 38 (0, 0)) (by (with_reducible repeat (first | refine zbh ?_ _ | refine zbk ?_ | refine zbi ?_ _)); exact BK145.out) hb); have n3_ := zaa.mk (zae (by repeat (first | (with_reducible first | exact HB.out | apply zac | apply zab | apply zad | refine zaf ?_ GE145.out) | exact HB.out)) hb); clear HO152; clear BK145; clear HB; have HO152 := n0_; have HO156 := n1_; have BK145 := n2_; have HB := n3_; clear n0_ n1_ n2_ n3_; (try clear hb); (try clear hb2); (try clear hk); (try clear hi); (try clear ho0); have hcz36_0 : w35.cell? ⟨gb145, 0, none⟩ = some (.int .u8 a0_0) := (zag BK145.out 0).trans rfl; have hcz36_1 : w35.cell? ⟨gb145, 1, none⟩ = some (.slice (some ad149) l0_1.length c0_1) := (zag BK145.out 1).trans rfl; have hfz36_0 := zaj BK145.out 0; have hfz36_1 := zaj BK145.out 1; obtain ⟨Ao37, co37, eo37⟩ := Kd.R_slice HO152.out; subst eo37; obtain ⟨Ao38, co38, eo38⟩ := Kd.R_slice HO156.out; subst eo38) | ((with_reducible refine zak (f := 36) rfl ?_); refine zbb (some 33) rfl rfl Try.func36 (by kernel_rfl) rfl #[.slice Ao38 t154.length co38, .int .i64 (t150.length : Int)] rfl (by (try simp only [List.map_toArray, List.map_cons, List.map_nil]); first | done | rfl | (simp only [List.length_drop, List.length_take]; rfl)) ?_; (with_reducible refine (spec_l6More.calls k _ _ t154 (t150.length : Int) t169 _ ?side1 ?side2 A29.out).mono ?_); (case side1 => repeat (first | exact (Kd.R_reads' HO156.out).2.2 | (with_reducible refine Kd.C_alloc ?_ _) | (with_reducible refine Kd.C_drewN ?_ _) | (with_reducible refine Kd.C_drew ?_))); (case side2 => exact (Kd.R_reads' HO156.out).2.1); rintro e w39 ⟨v170, rfl, ho0, hb⟩; refine ⟨_, rfl, ?_⟩; have n0_ := zaa.mk (Kd.R_elder' (by (with_reducible repeat (first | apply Kd.R_alloc | apply Kd.R_drewN | apply Kd.R_drew)); exact HO152.out) (Kd.R_base ho0) hb); have n1_ := zaa.mk (Kd.R_elder' (by (with_reducible repeat (first | apply Kd.R_alloc | apply Kd.R_drewN | apply Kd.R_drew)); exact HO156.out) (Kd.R_base ho0) hb); have n2_ := zaa.mk (Kd.R_lower (Kd.R_new' (Kd.R_new' ho0 (Kd.R_lt (by (with_reducible repeat (first | apply Kd.R_alloc | apply Kd.R_drewN | apply Kd.R_drew)); exact HO152.out))) (Kd.R_lt (by (with_reducible repeat (first | apply Kd.R_alloc | apply Kd.R_drewN | apply Kd.R_drew)); exact HO156.out))) (zap (by repeat (first | (with_reducible first | exact HB.out | apply zac | apply zab | apply zad | refine zaf ?_ GE145.out) | exact HB.out)))); have n3_ := zaa.mk (zcj (g := gb145) (o := .cells #[.int .u8 a0_0, .slice (some ad149) l0_1.length c0_1] 38 (0, 0)) (by (with_reducible repeat (first | refine zbh ?_ _ | refine zbk ?_ | refine zbi ?_ _)); exact BK145.out) hb); have n4_ := zaa.mk (zae (by repeat (first | (with_reducible first | exact HB.out | apply zac | apply zab | apply zad | refine zaf ?_ GE145.out) | exact HB.out)) hb); clear HO152; clear HO156; clear BK145; clear HB; have HO152 := n0_; have HO156 := n1_; have HO171 := n2_; have BK145 := n3_; have HB := n4_; clear n0_ n1_ n2_ n3_ n4_; (try clear hb); (try clear hb2); (try clear hk); (try clear hi); (try clear ho0)) | ((with_reducible refine zci (b := .append) (xs := #[.tmp 33, .tmp 34]) rfl ?_); at_builtin; refine Kd.R_append_rows (Kd.int .i64) (w0 := w) w.heap.size rfl (.tmp 33) (.tmp 34) 22 3 (.int .i64 0) 8 rfl Try.underlying22 info3 rfl (by decide) (by omega) v170 t169 t150 _ _ _ (fun k_ => some k_ ≠ (.slice Ao37 t150.length co37 : Value).ownBlock ∧ some k_ ≠ (.slice Ao38 t154.length co38 : Value).ownBlock) (fun _ => False) rfl rfl ?aO ?aR (fun _ _ h => h) (fun _ h => h.elim) ?aF ?aB ?aS ?aL ?_; (case aR => repeat (first | exact (Kd.R_reads' HO152.out).2.2 | (with_reducible refine Kd.C_alloc ?_ _) | (with_reducible refine Kd.C_drewN ?_ _) | (with_reducible refine Kd.C_drew ?_))); (case aB => exact (by repeat (first | (with_reducible first | exact HB.out | apply zac | apply zab | apply zad | refine zaf ?_ GE145.out) | exact HB.out))); (case aF => exact (fun k_ hk => ⟨Kd.fresh' (Kd.R_lt (by (with_reducible repeat (first | apply Kd.R_alloc | apply Kd.R_drewN | apply Kd.R_drew)); exact HO152.out)) k_ hk, Kd.fresh' (Kd.R_lt (by (with_reducible repeat (first | apply Kd.R_alloc | apply Kd.R_drewN | apply Kd.R_drew)); exact HO156.out)) k_ hk⟩)); (case aO => exact (by (with_reducible repeat (first | apply Kd.R_alloc | apply Kd.R_drewN | apply Kd.R_drew)); exact Kd.R_mono HO171.out (fun _ hk => ⟨hk.1.2, hk.2⟩))); (case aS => exact (zap (by repeat (first | (with_reducible first | exact HB.out | apply zac | apply zab | apply zad | refine zaf ?_ GE145.out) | exact HB.out)))); (case aL => have := LMc30.out; omega); intro v173 w40 ho hb hg hat; rw [← Ny172.out] at ho; have n0_ := zaa.mk (blk_grown (g := gb145) (o := .cells #[.int .u8 a0_0, .slice (some ad149) l0_1.length c0_1] 38 (0, 0)) (by (with_reducible repeat (first | refine zbh ?_ _ | refine zbk ?_ | refine zbi ?_ _)); exact BK145.out) hg (Kd.R_ne HO171.out BK145.out (by decide))); have n1_ := zaa.mk (Kd.R_after (ok := (fun k_ => some k_ ≠ (.slice Ao38 t154.length co38 : Value).ownBlock)) (by (with_reducible repeat (first | apply Kd.R_alloc | apply Kd.R_drewN | apply Kd.R_drew)); exact Kd.R_mono HO152.out (fun _ hk => ⟨hk.1.2, hk.2⟩)) hg hat); have n2_ := zaa.mk (Kd.R_after (ok := (fun k_ => some k_ ≠ (.slice Ao37 t150.length co37 : Value).ownBlock)) (by (with_reducible repeat (first | apply Kd.R_alloc | apply Kd.R_drewN | apply Kd.R_drew)); exact Kd.R_mono HO156.out (fun _ hk => ⟨hk.1.2, hk.2⟩)) hg hat); have n3_ := zaa.mk (hb); have n4_ := zaa.mk (ho); clear BK145; clear HO152; clear HO156; clear HB; clear HO171; have BK145 := n0_; have HO152 := n1_; have HO156 := n2_; have HB := n3_; have HO174 := n4_; clear n0_ n1_ n2_ n3_ n4_; clear ho hb hg hat))
      go_ret
      exact ⟨_, by first | rfl | (simp [zan, zam] <;> rfl) | (simp [*, zan, zam] <;> rfl), by (with_reducible repeat (first | apply Kd.R_alloc | apply Kd.R_drewN | apply Kd.R_drew)); exact Kd.R_mono HO174.out (fun _ hk => trivial), by repeat (first | (with_reducible first | exact HB.out | apply zac | apply zab | apply zad | refine zaf ?_ GE145.out) | exact HB.out)⟩
     ·rw [if_neg c30] at H
      exact absurd H (by simp)
   ·rw [if_neg c9] at H
    exact absurd H (by simp)
  ·rw [if_neg c7] at H
   exact absurd H (by simp)
def bytealg_Cutover.f (a0 : Int) : Option (Int) := some (wrap64 (Int.tdiv (wrap64 (a0 + 16)) 8))
set_option maxHeartbeats 8000000 in
set_option maxRecDepth 100000 in
theorem bytealg_Cutover.calls (a0 : Int) (r : Int) (w : World) (h : bytealg_Cutover.f a0 = some r) :
  Calls Try.prog 55 #[.int .i64 a0] w fun e w' => e = .returned (.int .i64 r) ∧ zax w w' := by
 have H : (some (wrap64 (Int.tdiv (wrap64 (a0 + 16)) 8))) = some r := h
 clear h
 obtain rfl := Option.some.inj H
 go_enter Try.func55, Try.ntmps55
 go_wp2
 go_ret
 exact ⟨by first | rfl | (simp; done) | (simp [*]; done), by repeat (first | exact zax.refl _ | apply zax.step)⟩
end Go.Proofs.Ytgiidlebnjbgeaa.PB
namespace Go.Proofs.Ytgiidlebnjbgeaa.PB
open Go.RowKit Go.PW.PrintWords Go.PW.PrintLast Go.PW.PrintMore
attribute [local go_sem] zcc zca zcr zcq zbu zbt zcb zbz   -- for this text's walks alone
def spec_l11Parts.f : Nat → Int → List (S38) → Int → Option ((List (S38)))
 | 0, _, _, _ => none
 | k + 1, a0_0, l0_1, a1 => if a0_0 = a1 then (if 0 < (l0_1.length : Int) then ((spec_l11Parts.f k ((zay l0_1 0).f0) ((zay l0_1 0).f1) a1).bind fun t272 => (if 1 < (l0_1.length : Int) then ((spec_l11Parts.f k ((zay l0_1 1).f0) ((zay l0_1 1).f1) a1).bind fun t276 => (if t272.length + t276.length < 4398046511104 then (some (t272 ++ t276)) else (none))) else (none))) else (none)) else (some (([(⟨a0_0, l0_1⟩ : S38)] : List (S38))))
def spec_l11Parts.T3 : Bool × List (List Nat × List Nat) := (true, [([], []), ([0], [0]), ([1], [1]), ([2], [2]), ([], []), ([3, 4], [3, 4]), ([], []), ([6], [6]), ([7], [7]), ([8], [8]), ([], []), ([9, 10, 5], [9, 10]), ([5, 11, 11], [5, 11]), ([12, 12, 0, 1, 2, 3, 4, 5, 6, 7, 8, 9, 10, 11, 12], [12])])
def spec_l11Parts.B3 : List Nat := [0, 1, 3, 7, 0, 31, 0, 64, 192, 448, 0, 2047, 4095, 8191]
theorem spec_l11Parts.tab3 : rtab .any (opsOf Try.f43 3) = spec_l11Parts.T3 := by kernel_rfl
theorem spec_l11Parts.bits3 : waitsOk spec_l11Parts.T3.2 spec_l11Parts.B3 = true := by kernel_rfl
set_option maxHeartbeats 8000000 in
set_option maxRecDepth 100000 in
theorem spec_l11Parts.calls (k : Nat) : ∀ (a0_0 : Int) (P0_1_ : Nat → Prop) (A0_1 : Option Addr) (c0_1 : Nat) (l0_1 : List (S38)) (a1 : Int) (r : List (S38)) (w : World) (hs0_1 : Kd.V k38 38 w w.heap.size (fun k_ => P0_1_ k_) (.slice A0_1 l0_1.length c0_1) l0_1) (h : spec_l11Parts.f k a0_0 l0_1 a1 = some r),
  Calls Try.prog 43 #[.agg #[.int .u8 a0_0, .slice A0_1 l0_1.length c0_1], .int .u8 a1] w fun e w' => ∃ v0_ : Value, e = .returned (v0_) ∧ Kd.N k38 38 w' w.heap.size (fun k_ => (P0_1_ k_ ∨ w.heap.size ≤ k_)) v0_ r ∧ Below w.heap.size w w' := by
 induction k using Nat.strongRecOn with
 | _ k ih =>
 intro a0_0 P0_1_ A0_1 c0_1 l0_1 a1 r w hs0_1 h
 cases k with
 | zero => exact absurd h (by simp [spec_l11Parts.f])
 | succ k =>
 simp only [spec_l11Parts.f] at h
 have hu38 := Try.underlying38
 have HO0_1 := zaa.mk (show Kd.V k38 38 w w.heap.size (fun k_ => (P0_1_ k_ ∨ w.heap.size ≤ k_)) (.slice A0_1 l0_1.length c0_1) l0_1 from Kd.V_mono hs0_1 (fun k_ hk => .inl hk))
 have HB := zaa.mk (Below.refl w.heap.size w)
 have H : (if a0_0 = a1 then (if 0 < (l0_1.length : Int) then ((spec_l11Parts.f k ((zay l0_1 0).f0) ((zay l0_1 0).f1) a1).bind fun t272 => (if 1 < (l0_1.length : Int) then ((spec_l11Parts.f k ((zay l0_1 1).f0) ((zay l0_1 1).f1) a1).bind fun t276 => (if t272.length + t276.length < 4398046511104 then (some (t272 ++ t276)) else (none))) else (none))) else (none)) else (some (([(⟨a0_0, l0_1⟩ : S38)] : List (S38))))) = some r := h
 clear h
 by_cases c3 : a0_0 = a1
 ·rw [if_pos c3] at H
  have c3b0 : (a0_0 == a1) = true := beq_iff_eq.mpr c3
  have c3b1 : (a0_0 != a1) = false := bne_eq_false_iff_eq.mpr c3
  clear c3
  by_cases c4 : 0 < (l0_1.length : Int)
  ·rw [if_pos c4] at H
   have c4b0 : decide (0 < (l0_1.length : Int)) = true := decide_eq_true c4
   have c4b1 : decide (0 < l0_1.length) = true := decide_eq_true (by omega)
   clear c4
   replace H := Option.bind_eq_some_iff.mp H
   obtain ⟨t272, A50, H⟩ := H
   replace H : (if 1 < (l0_1.length : Int) then ((spec_l11Parts.f k ((zay l0_1 1).f0) ((zay l0_1 1).f1) a1).bind fun t276 => (if t272.length + t276.length < 4398046511104 then (some (t272 ++ t276)) else (none))) else (none)) = some r := H
   have A5 := zaa.mk A50
   clear A50
   by_cases c6 : 1 < (l0_1.length : Int)
   ·rw [if_pos c6] at H
    have c6b0 : decide (1 < (l0_1.length : Int)) = true := decide_eq_true c6
    have c6b1 : decide (1 < l0_1.length) = true := decide_eq_true (by omega)
    clear c6
    replace H := Option.bind_eq_some_iff.mp H
    obtain ⟨t276, A70, H⟩ := H
    replace H : (if t272.length + t276.length < 4398046511104 then (some (t272 ++ t276)) else (none)) = some r := H
    have A7 := zaa.mk A70
    clear A70
    by_cases c8 : t272.length + t276.length < 4398046511104
    ·rw [if_pos c8] at H
     have LMc8 := zaa.mk c8
     clear c8
     obtain ⟨y279, hy279⟩ : ∃ y_ : List (S38), y_ = (t272 ++ t276) := ⟨_, rfl⟩
     replace H : (some y279) = some r := by first | (rw [hy279]; with_reducible exact H) | (have H2_ := (Option.bind_some _ _).symm.trans H; rw [hy279]; with_reducible exact H2_) | (have H2_ := (Option.bind_some _ _).symm.trans H; with_reducible exact H2_) | with_reducible exact H | (rw [hy279]; exact H) | exact H
     have Ny279 := zaa.mk hy279
     clear hy279
     obtain rfl := Option.some.inj H
     go_enter Try.func43, Try.ntmps43
     try go_wp2_with (first | ((with_reducible refine zbe (N := 2) rfl ?_); refine box_event ?hg (N := 2) ?hd (cs := #[.int .u8 a0_0, .slice A0_1 l0_1.length c0_1]) (t := 38) ?hr ?_; (case hd => rfl); (case hg => rfl); (case hr => first | (go_simp; done) | (go_simp; rfl)); intro gb270 hg w9 hbox hb; have n0_ := zaa.mk (Kd.V_below (Kd.V_elderB (by (with_reducible repeat (first | apply Kd.V_alloc | apply Kd.V_drewN | apply Kd.V_drew)); exact HO0_1.out) gb270 (Nat.le_of_eq hg.symm)) hb); have n1_ := zaa.mk (zae (by repeat (first | (with_reducible first | exact HB.out | apply zac | apply zab | apply zad) | exact HB.out)) hb); have n2_ := zaa.mk (hbox); have n3_ := zaa.mk ((by rw [hg]; exact (zap (by repeat (first | (with_reducible first | exact HB.out | apply zac | apply zab | apply zad) | exact HB.out))) : w.heap.size ≤ gb270)); have n4_ := zaa.mk ((by rw [hg]; exact (zap (by repeat (first | (with_reducible first | exact HB.out | apply zac | apply zab | apply zad) | exact HB.out))) : w.heap.size ≤ gb270)); clear HO0_1; clear HB; have HO0_1 := n0_; have HB := n1_; have BK270 := n2_; have GW270 := n3_; have GE270 := n4_; clear n0_ n1_ n2_ n3_ n4_; clear hb hbox hg; have hcz10_0 : w9.cell? ⟨gb270, 0, none⟩ = some (.int .u8 a0_0) := (zag BK270.out 0).trans rfl; have hcz10_1 : w9.cell? ⟨gb270, 1, none⟩ = some (.slice A0_1 l0_1.length c0_1) := (zag BK270.out 1).trans rfl; have hfz10_0 := zaj BK270.out 0; have hfz10_1 := zaj BK270.out 1))
     have n0_ := zaa.mk (Kd.V_drew HO0_1.out)
     have n1_ := zaa.mk (zbk BK270.out)
     have n2_ := zaa.mk (zad HB.out)
     clear HO0_1
     clear BK270
     clear HB
     have HO0_1 := n0_
     have BK270 := n1_
     have HB := n2_
     clear n0_ n1_ n2_
     have p271 : 0 ≤ (0 : Int) := (by omega)
     have q271 : 0 < (l0_1.length : Int) := of_decide_eq_true (by first | (with_reducible assumption) | assumption)
     obtain ⟨ad271, A271_1, c271_1, e271, hx271_0, hx271_1, hl271_1, hi271_1⟩ := at_T38 (Kd.V_reads' HO0_1.out).2.2 0 p271 q271
     cases e271
     obtain ⟨ce271, hce271, hMe271, hcc271⟩ := Kd.V_get HO0_1.out z38 0 p271 (by first | exact q271 | exact of_decide_eq_true (by first | (with_reducible assumption) | assumption) | (have e_ := (Kd.V_reads' HO0_1.out).1; omega))
     obtain ⟨ua271_1, uc271_1, rfl, ul271_1, ge271_1⟩ := k38_openF hMe271
     have hv271_1 := hcc271 1 _ rfl
     rw [add_field _ _ 1 (by omega)] at hv271_1
     replace hv271_1 := Option.some.inj (hv271_1.symm.trans hx271_1)
     injection hv271_1 with hva_ hvn_ hvc_
     rw [hva_] at ge271_1
     rw [hvc_] at ul271_1
     have HL271_1 := zaa.mk (show Kd.V k38 38 _ w.heap.size _ _ ((zay l0_1 0).f1) from Kd.V_mk ul271_1 ge271_1)
     clear hva_ hvn_ hvc_ ge271_1 ul271_1
     clear hcc271 hce271
     have qi271 : (0 < l0_1.length) = True := eq_true (by omega)
     (try rw [show ((0 : Int)).toNat = 0 from rfl] at hx271_0)
     (try rw [show 0 * 2 = 0 from rfl] at hx271_0)
     (try rw [Addr.add_zero'] at hx271_0)
     (try rw [show ((0 : Int)).toNat = 0 from rfl] at hx271_1)
     (try rw [show 0 * 2 = 0 from rfl] at hx271_1)
     (try rw [Addr.add_zero'] at hx271_1)
     have HR271_1 := zaa.mk hi271_1
     have HC271_1 := zaa.mk hl271_1
     clear hi271_1 hl271_1
     replace p271 := eq_true p271
     replace q271 := eq_true q271
     have p275 : 0 ≤ (1 : Int) := (by omega)
     have q275 : 1 < (l0_1.length : Int) := of_decide_eq_true (by first | (with_reducible assumption) | assumption)
     obtain ⟨ad275, A275_1, c275_1, e275, hx275_0, hx275_1, hl275_1, hi275_1⟩ := at_T38 (Kd.V_reads' HO0_1.out).2.2 1 p275 q275
     obtain rfl : ad271 = ad275 := (by injection e275)
     obtain ⟨ce275, hce275, hMe275, hcc275⟩ := Kd.V_get HO0_1.out z38 1 p275 (by first | exact q275 | exact of_decide_eq_true (by first | (with_reducible assumption) | assumption) | (have e_ := (Kd.V_reads' HO0_1.out).1; omega))
     obtain ⟨ua275_1, uc275_1, rfl, ul275_1, ge275_1⟩ := k38_openF hMe275
     have hv275_1 := hcc275 1 _ rfl
     rw [add_field _ _ 1 (by omega)] at hv275_1
     replace hv275_1 := Option.some.inj (hv275_1.symm.trans hx275_1)
     injection hv275_1 with hva_ hvn_ hvc_
     rw [hva_] at ge275_1
     rw [hvc_] at ul275_1
     have HL275_1 := zaa.mk (show Kd.V k38 38 _ w.heap.size _ _ ((zay l0_1 1).f1) from Kd.V_mk ul275_1 ge275_1)
     clear hva_ hvn_ hvc_ ge275_1 ul275_1
     clear hcc275 hce275
     (try simp only [show (1 : Int).toNat = 1 from rfl, Nat.reduceMul, Nat.reduceEqDiff, Go.Addr.add, ↓reduceIte] at hx275_0)
     (try simp only [show (1 : Int).toNat = 1 from rfl, Nat.reduceMul, Nat.reduceEqDiff, Go.Addr.add, ↓reduceIte] at hx275_1)
     have qi275 : (1 < l0_1.length) = True := eq_true (by omega)
     (try rw [show ((1 : Int)).toNat = 1 from rfl] at hx275_0)
     (try rw [show 1 * 2 = 2 from rfl] at hx275_0)
     (try rw [show ((1 : Int)).toNat = 1 from rfl] at hx275_1)
     (try rw [show 1 * 2 = 2 from rfl] at hx275_1)
     have HR275_1 := zaa.mk hi275_1
     have HC275_1 := zaa.mk hl275_1
     clear hi275_1 hl275_1
     replace p275 := eq_true p275
     replace q275 := eq_true q275
     refine start_ (n := 14) (S := fun w' => w'.cell? ⟨gb270, 0, none⟩ = some (.int .u8 a0_0) ∧ w'.cell? ⟨gb270, 1, none⟩ = some (.slice (some ad271) l0_1.length c0_1) ∧ w'.cell? ad271 = some (.int .u8 ((zay l0_1 0).f0)) ∧ w'.cell? ⟨ad271.block, ad271.off + 1, none⟩ = some (.slice A271_1 ((zay l0_1 0).f1).length c271_1) ∧ w'.cell? ⟨ad271.block, ad271.off + 2, none⟩ = some (.int .u8 ((zay l0_1 1).f0)) ∧ w'.cell? ⟨ad271.block, ad271.off + 2 + 1, none⟩ = some (.slice A275_1 ((zay l0_1 1).f1).length c275_1)) (ds := [12]) #[false, false, false, false, false, false, false, false, false, false, false, false, false, false] (by kernel_rfl) rfl rfl ⟨(zag BK270.out 0).trans rfl, (zag BK270.out 1).trans rfl, hx271_0, hx271_1, hx275_0, hx275_1⟩ (fun hHeld => ?_); refine with_tabW spec_l11Parts.tab3 spec_l11Parts.bits3 (fun HT_ HW_ => ?_)
     generalize w9.drew = w11 at HO0_1 BK270 HB HL271_1 HL275_1 HR271_1 HR275_1 hx271_0 hx271_1 hx275_0 hx275_1 hHeld ⊢
     refine zba (i := 0) (N := some 11) (v := ?_) (a' := ?_) #[true, false, false, false, false, false, false, false, false, false, false, false, false, false] rfl rfl (any_of HT_.out (by kernel_rfl)) (fun _ _ _ h => h) (Or.inl ⟨by rfl, ?_⟩) ?_ ?_
     rotate_left
     ·intro w'
      go_simp
      with_reducible rfl
     rotate_left
     ·simp only [Act.put, List.setIfInBounds_toArray, List.set_cons_zero, List.set_cons_succ, zaq, zar]
      rfl
     refine zba (i := 4) (N := some 15) (v := ?_) (a' := ?_) #[true, false, false, false, true, false, false, false, false, false, false, false, false, false] rfl rfl (any_of HT_.out (by kernel_rfl)) (fun _ _ _ h => h) (Or.inl ⟨by rfl, ?_⟩) ?_ ?_
     rotate_left
     ·intro w'
      go_simp
      with_reducible rfl
     rotate_left
     ·simp only [Act.put, List.setIfInBounds_toArray, List.set_cons_zero, List.set_cons_succ, zaq, zar]
      rfl
     refine zba (i := 6) (N := some 17) (v := ?_) (a' := ?_) #[true, false, false, false, true, false, true, false, false, false, false, false, false, false] rfl rfl (any_of HT_.out (by kernel_rfl)) (fun _ _ _ h => h) (Or.inl ⟨by rfl, ?_⟩) ?_ ?_
     rotate_left
     ·intro w'
      go_simp
      with_reducible rfl
     rotate_left
     ·simp only [Act.put, List.setIfInBounds_toArray, List.set_cons_zero, List.set_cons_succ, zaq, zar]
      rfl
     refine zba (i := 10) (N := some 21) (v := ?_) (a' := ?_) #[true, false, false, false, true, false, true, false, false, false, true, false, false, false] rfl rfl (any_of HT_.out (by kernel_rfl)) (fun _ _ _ h => h) (Or.inl ⟨by rfl, ?_⟩) ?_ ?_
     rotate_left
     ·intro w'
      go_simp
      with_reducible rfl
     rotate_left
     ·simp only [Act.put, List.setIfInBounds_toArray, List.set_cons_zero, List.set_cons_succ, zaq, zar]
      rfl
     refine take_ (i := 1) (N := some 12) (v := ?_) (a' := ?_) #[true, true, false, false, true, false, true, false, false, false, true, false, false, false] rfl rfl (take_ofW HT_.out HW_.out (by kernel_rfl)) (fun _ _ _ h => h) (Or.inl ⟨by rfl, ?_⟩) hHeld ?_ ?_
     rotate_left
     ·rintro w' ⟨s0, s1, s2, s3, s4, s5⟩
      go_simp
      with_reducible rfl
     rotate_left
     ·simp only [Act.put, List.setIfInBounds_toArray, List.set_cons_zero, List.set_cons_succ, zaq, zar]
      rfl
     refine zba (i := 2) (N := some 13) (v := ?_) (a' := ?_) #[true, true, true, false, true, false, true, false, false, false, true, false, false, false] rfl rfl (any_of HT_.out (by kernel_rfl)) (fun _ _ _ h => h) (Or.inl ⟨by rfl, ?_⟩) ?_ ?_
     rotate_left
     ·intro w'
      go_simp
      with_reducible rfl
     rotate_left
     ·simp only [Act.put, List.setIfInBounds_toArray, List.set_cons_zero, List.set_cons_succ, zaq, zar]
      rfl
     refine take_ (i := 3) (N := some 14) (v := ?_) (a' := ?_) #[true, true, true, true, true, false, true, false, false, false, true, false, false, false] rfl rfl (take_ofW HT_.out HW_.out (by kernel_rfl)) (fun _ _ _ h => h) (Or.inl ⟨by rfl, ?_⟩) hHeld ?_ ?_
     rotate_left
     ·rintro w' ⟨s0, s1, s2, s3, s4, s5⟩
      go_simp
      with_reducible rfl
     rotate_left
     ·simp only [Act.put, List.setIfInBounds_toArray, List.set_cons_zero, List.set_cons_succ, zaq, zar]
      rfl
     refine take_ (i := 7) (N := some 18) (v := ?_) (a' := ?_) #[true, true, true, true, true, false, true, true, false, false, true, false, false, false] rfl rfl (take_ofW HT_.out HW_.out (by kernel_rfl)) (fun _ _ _ h => h) (Or.inl ⟨by rfl, ?_⟩) hHeld ?_ ?_
     rotate_left
     ·rintro w' ⟨s0, s1, s2, s3, s4, s5⟩
      go_simp
      with_reducible rfl
     rotate_left
     ·simp only [Act.put, List.setIfInBounds_toArray, List.set_cons_zero, List.set_cons_succ, zaq, zar]
      rfl
     refine zba (i := 8) (N := some 19) (v := ?_) (a' := ?_) #[true, true, true, true, true, false, true, true, true, false, true, false, false, false] rfl rfl (any_of HT_.out (by kernel_rfl)) (fun _ _ _ h => h) (Or.inl ⟨by rfl, ?_⟩) ?_ ?_
     rotate_left
     ·intro w'
      go_simp
      with_reducible rfl
     rotate_left
     ·simp only [Act.put, List.setIfInBounds_toArray, List.set_cons_zero, List.set_cons_succ, zaq, zar]
      rfl
     refine take_ (i := 9) (N := some 20) (v := ?_) (a' := ?_) #[true, true, true, true, true, false, true, true, true, true, true, false, false, false] rfl rfl (take_ofW HT_.out HW_.out (by kernel_rfl)) (fun _ _ _ h => h) (Or.inl ⟨by rfl, ?_⟩) hHeld ?_ ?_
     rotate_left
     ·rintro w' ⟨s0, s1, s2, s3, s4, s5⟩
      go_simp
      with_reducible rfl
     rotate_left
     ·simp only [Act.put, List.setIfInBounds_toArray, List.set_cons_zero, List.set_cons_succ, zaq, zar]
      rfl
     refine one_ (i := 5) (N := some 16) #[true, true, true, true, true, true, true, true, true, true, true, false, false, false] rfl rfl (one_of HT_.out (by kernel_rfl)) (by decide) (fun K hK => ?_)
     refine goes_ Try.func43 (by kernel_rfl) rfl #[.agg #[.int .u8 ((zay l0_1 0).f0), .slice A271_1 ((zay l0_1 0).f1).length c271_1], .int .u8 a1] (by rfl) rfl rfl (by (try simp only [List.map_toArray, List.map_cons, List.map_nil]); first | done | rfl | (simp only [List.length_drop, List.length_take]; rfl)) ?_
     with_reducible refine (ih k (by omega) ((zay l0_1 0).f0) (fun k_ => ((P0_1_ k_ ∨ w.heap.size ≤ k_) ∧ k_ ≠ gb270)) _ _ ((zay l0_1 0).f1) a1 t272 _ ?side1 A5.out).mono ?_
     (case side1 => exact HL271_1.out)
     rintro e w12 ⟨v273, rfl, ho0, hb⟩
     have HS2_ := (hb.cell (World.block_lt_of_cell? _ _ (hHeld.2.2.1))).trans (hHeld.2.2.1)
     have HS3_ := (hb.cell (World.block_lt_of_cell? _ _ (hHeld.2.2.2.1))).trans (hHeld.2.2.2.1)
     have HS4_ := (hb.cell (World.block_lt_of_cell? _ _ (hHeld.2.2.2.2.1))).trans (hHeld.2.2.2.2.1)
     have HS5_ := (hb.cell (World.block_lt_of_cell? _ _ (hHeld.2.2.2.2.2))).trans (hHeld.2.2.2.2.2)
     refine ⟨_, rfl, ?_⟩
     have n0_ := zaa.mk (Kd.V_elder' (by (with_reducible repeat (first | apply Kd.V_alloc | apply Kd.V_drewN | apply Kd.V_drew)); exact HO0_1.out) (Kd.N_base ho0) hb)
     have n1_ := zaa.mk (Kd.V_elder' (by (with_reducible repeat (first | apply Kd.V_alloc | apply Kd.V_drewN | apply Kd.V_drew)); exact HL271_1.out) (Kd.N_base ho0) hb)
     have n2_ := zaa.mk (Kd.V_elder' (by (with_reducible repeat (first | apply Kd.V_alloc | apply Kd.V_drewN | apply Kd.V_drew)); exact HL275_1.out) (Kd.N_base ho0) hb)
     have n3_ := zaa.mk (Kd.N_lower (Kd.N_mono (ok' := fun k_ => (P0_1_ k_ ∨ w.heap.size ≤ k_) ∧ k_ ≠ gb270) ho0 (fun k_ hk_ => ⟨Or.elim hk_ (fun hs_ => hs_.1) (fun hn_ => (.inr (Nat.le_trans (zap (by repeat (first | (with_reducible first | exact HB.out | apply zac | apply zab | apply zad | refine zaf ?_ GE270.out) | exact HB.out))) hn_))), Or.elim hk_ (fun hs_ => hs_.2) (fun hn_ => (Kd.freshB (g := gb270) (o := .cells #[.int .u8 a0_0, .slice (some ad271) l0_1.length c0_1] 38 (0, 0)) (by (with_reducible repeat (first | refine zbh ?_ _ | refine zbk ?_ | refine zbi ?_ _)); exact BK270.out) k_ hn_))⟩)) (zap (by repeat (first | (with_reducible first | exact HB.out | apply zac | apply zab | apply zad | refine zaf ?_ GE270.out) | exact HB.out))))
     have n4_ := zaa.mk (zcj (g := gb270) (o := .cells #[.int .u8 a0_0, .slice (some ad271) l0_1.length c0_1] 38 (0, 0)) (by (with_reducible repeat (first | refine zbh ?_ _ | refine zbk ?_ | refine zbi ?_ _)); exact BK270.out) hb)
     have n5_ := zaa.mk (Kd.C_below (by repeat (first | (with_reducible exact HR271_1.out) | (with_reducible refine Kd.C_alloc ?_ _) | (with_reducible refine Kd.C_drewN ?_ _) | (with_reducible refine Kd.C_drew ?_) | exact HR271_1.out)) hb)
     have n6_ := zaa.mk (Kd.C_below (by repeat (first | (with_reducible exact HR275_1.out) | (with_reducible refine Kd.C_alloc ?_ _) | (with_reducible refine Kd.C_drewN ?_ _) | (with_reducible refine Kd.C_drew ?_) | exact HR275_1.out)) hb)
     have n7_ := zaa.mk (zae (by repeat (first | (with_reducible first | exact HB.out | apply zac | apply zab | apply zad | refine zaf ?_ GE270.out) | exact HB.out)) hb)
     clear HO0_1
     clear HL271_1
     clear HL275_1
     clear BK270
     clear HR271_1
     clear HR275_1
     clear HB
     have HO0_1 := n0_
     have HL271_1 := n1_
     have HL275_1 := n2_
     have HO274 := n3_
     have BK270 := n4_
     have HR271_1 := n5_
     have HR275_1 := n6_
     have HB := n7_
     clear n0_ n1_ n2_ n3_ n4_ n5_ n6_ n7_
     (try clear hb)
     (try clear hb2)
     (try clear hk)
     (try clear hi)
     (try clear ho0)
     refine hK.out _ _ ⟨(zag BK270.out 0).trans rfl, (zag BK270.out 1).trans rfl, HS2_, HS3_, HS4_, HS5_⟩ (fun hHeld => ?_)
     clear hK K
     refine norm_ (a' := ?_) ?_ ?_
     rotate_left
     ·show Act.put _ (some 16) _ = _
      simp only [Act.put, List.setIfInBounds_toArray, List.set_cons_zero, List.set_cons_succ, zaq, zar]
      rfl
     refine one_ (i := 11) (N := some 22) #[true, true, true, true, true, true, true, true, true, true, true, true, false, false] rfl rfl (one_of HT_.out (by kernel_rfl)) (by decide) (fun K hK => ?_)
     refine goes_ Try.func43 (by kernel_rfl) rfl #[.agg #[.int .u8 ((zay l0_1 1).f0), .slice A275_1 ((zay l0_1 1).f1).length c275_1], .int .u8 a1] (by rfl) rfl rfl (by (try simp only [List.map_toArray, List.map_cons, List.map_nil]); first | done | rfl | (simp only [List.length_drop, List.length_take]; rfl)) ?_
     with_reducible refine (ih k (by omega) ((zay l0_1 1).f0) (fun k_ => (((P0_1_ k_ ∨ w.heap.size ≤ k_) ∧ k_ ≠ gb270) ∧ some k_ ≠ (v273 : Value).ownBlock)) _ _ ((zay l0_1 1).f1) a1 t276 _ ?side1 A7.out).mono ?_
     (case side1 => exact HL275_1.out)
     rintro e w13 ⟨v277, rfl, ho0, hb⟩
     have HS2_ := (hb.cell (World.block_lt_of_cell? _ _ (hHeld.2.2.1))).trans (hHeld.2.2.1)
     have HS3_ := (hb.cell (World.block_lt_of_cell? _ _ (hHeld.2.2.2.1))).trans (hHeld.2.2.2.1)
     have HS4_ := (hb.cell (World.block_lt_of_cell? _ _ (hHeld.2.2.2.2.1))).trans (hHeld.2.2.2.2.1)
     have HS5_ := (hb.cell (World.block_lt_of_cell? _ _ (hHeld.2.2.2.2.2))).trans (hHeld.2.2.2.2.2)
     refine ⟨_, rfl, ?_⟩
     have n0_ := zaa.mk (Kd.V_elder' (by (with_reducible repeat (first | apply Kd.V_alloc | apply Kd.V_drewN | apply Kd.V_drew)); exact HO0_1.out) (Kd.N_base ho0) hb)
     have n1_ := zaa.mk (Kd.V_elder' (by (with_reducible repeat (first | apply Kd.V_alloc | apply Kd.V_drewN | apply Kd.V_drew)); exact HL271_1.out) (Kd.N_base ho0) hb)
     have n2_ := zaa.mk (Kd.V_elder' (by (with_reducible repeat (first | apply Kd.V_alloc | apply Kd.V_drewN | apply Kd.V_drew)); exact HL275_1.out) (Kd.N_base ho0) hb)
     have n3_ := zaa.mk (Kd.N_elder' (by (with_reducible repeat (first | apply Kd.N_alloc | apply Kd.N_drewN | apply Kd.N_drew)); exact HO274.out) (Kd.N_base ho0) hb)
     have n4_ := zaa.mk (Kd.N_lower (Kd.N_mono (ok' := fun k_ => (P0_1_ k_ ∨ w.heap.size ≤ k_) ∧ some k_ ≠ (v273 : Value).ownBlock ∧ k_ ≠ gb270) ho0 (fun k_ hk_ => ⟨Or.elim hk_ (fun hs_ => hs_.1.1) (fun hn_ => (.inr (Nat.le_trans (zap (by repeat (first | (with_reducible first | exact HB.out | apply zac | apply zab | apply zad | refine zaf ?_ GE270.out) | exact HB.out))) hn_))), Or.elim hk_ (fun hs_ => hs_.2) (fun hn_ => (Kd.fresh' (Kd.N_lt (by (with_reducible repeat (first | apply Kd.N_alloc | apply Kd.N_drewN | apply Kd.N_drew)); exact HO274.out)) k_ hn_)), Or.elim hk_ (fun hs_ => hs_.1.2) (fun hn_ => (Kd.freshB (g := gb270) (o := .cells #[.int .u8 a0_0, .slice (some ad271) l0_1.length c0_1] 38 (0, 0)) (by (with_reducible repeat (first | refine zbh ?_ _ | refine zbk ?_ | refine zbi ?_ _)); exact BK270.out) k_ hn_))⟩)) (zap (by repeat (first | (with_reducible first | exact HB.out | apply zac | apply zab | apply zad | refine zaf ?_ GE270.out) | exact HB.out))))
     have n5_ := zaa.mk (zcj (g := gb270) (o := .cells #[.int .u8 a0_0, .slice (some ad271) l0_1.length c0_1] 38 (0, 0)) (by (with_reducible repeat (first | refine zbh ?_ _ | refine zbk ?_ | refine zbi ?_ _)); exact BK270.out) hb)
     have n6_ := zaa.mk (Kd.C_below (by repeat (first | (with_reducible exact HR271_1.out) | (with_reducible refine Kd.C_alloc ?_ _) | (with_reducible refine Kd.C_drewN ?_ _) | (with_reducible refine Kd.C_drew ?_) | exact HR271_1.out)) hb)
     have n7_ := zaa.mk (Kd.C_below (by repeat (first | (with_reducible exact HR275_1.out) | (with_reducible refine Kd.C_alloc ?_ _) | (with_reducible refine Kd.C_drewN ?_ _) | (with_reducible refine Kd.C_drew ?_) | exact HR275_1.out)) hb)
     have n8_ := zaa.mk (zae (by repeat (first | (with_reducible first | exact HB.out | apply zac | apply zab | apply zad | refine zaf ?_ GE270.out) | exact HB.out)) hb)
     clear HO0_1
     clear HL271_1
     clear HL275_1
     clear HO274
     clear BK270
     clear HR271_1
     clear HR275_1
     clear HB
     have HO0_1 := n0_
     have HL271_1 := n1_
     have HL275_1 := n2_
     have HO274 := n3_
     have HO278 := n4_
     have BK270 := n5_
     have HR271_1 := n6_
     have HR275_1 := n7_
     have HB := n8_
     clear n0_ n1_ n2_ n3_ n4_ n5_ n6_ n7_ n8_
     (try clear hb)
     (try clear hb2)
     (try clear hk)
     (try clear hi)
     (try clear ho0)
     obtain ⟨Ao15, co15, eo15⟩ := Kd.N_slice HO278.out
     (first | subst eo15 | (injection eo15 with f1_ f2_ f3_; have f4_ := f1_.symm; have f5_ := f3_.symm; clear f1_ f2_ f3_; subst f4_; subst f5_))
     refine hK.out _ _ ⟨(zag BK270.out 0).trans rfl, (zag BK270.out 1).trans rfl, HS2_, HS3_, HS4_, HS5_⟩ (fun hHeld => ?_)
     clear hK K
     refine norm_ (a' := ?_) ?_ ?_
     rotate_left
     ·show Act.put _ (some 22) _ = _
      simp only [Act.put, List.setIfInBounds_toArray, List.set_cons_zero, List.set_cons_succ, zaq, zar]
      rfl
     refine last_ (i := 12) (N := some 23) #[true, true, true, true, true, true, true, true, true, true, true, true, true, false] rfl rfl (one_of HT_.out (by kernel_rfl)) (by decide) (fun K hK => ?_)
     refine Kd.N_append_rows_step k38 (w0 := w) w.heap.size (by rfl) (.tmp 16) (.tmp 22) 36 38 (.agg #[(.int .u8 0), (.slice none 0 0)]) 32 rfl Try.underlying36 info38 rfl (by decide) (by omega) v273 t272 t276 _ _ _ (fun k_ => (P0_1_ k_ ∨ w.heap.size ≤ k_) ∧ k_ ≠ gb270) (fun k_ => ((fun k_ => (P0_1_ k_ ∨ w.heap.size ≤ k_) ∧ k_ ≠ gb270)) k_ ∧ some k_ ≠ (v273 : Value).ownBlock) rfl rfl ?aO ?aR (fun _ hk => hk) ?aF ?aB ?aS ?aL ?_
     (case aR => exact (by skip; exact Kd.N_F (Kd.N_mono (ok' := (fun k_ => ((fun k_ => (P0_1_ k_ ∨ w.heap.size ≤ k_) ∧ k_ ≠ gb270)) k_ ∧ some k_ ≠ (v273 : Value).ownBlock)) (HO278.out) (fun k_ hk => ⟨⟨hk.1, hk.2.2⟩, hk.2.1⟩))))
     (case aB => exact (by repeat (first | (with_reducible first | exact HB.out | apply zac | apply zab | apply zad | refine zaf ?_ GE270.out) | exact HB.out)))
     (case aF => exact (fun k_ hk => ⟨(.inr (Nat.le_trans (zap (by repeat (first | (with_reducible first | exact HB.out | apply zac | apply zab | apply zad | refine zaf ?_ GE270.out) | exact HB.out))) hk)), Kd.freshB (g := gb270) (o := .cells #[.int .u8 a0_0, .slice (some ad271) l0_1.length c0_1] 38 (0, 0)) (by (with_reducible repeat (first | refine zbh ?_ _ | refine zbk ?_ | refine zbi ?_ _)); exact BK270.out) k_ hk⟩))
     (case aO => exact (by (with_reducible repeat (first | apply Kd.N_alloc | apply Kd.N_drewN | apply Kd.N_drew)); exact Kd.N_mono HO274.out (fun _ hk => ⟨hk.1.1, hk.1.2⟩)))
     (case aS => exact (zap (by repeat (first | (with_reducible first | exact HB.out | apply zac | apply zab | apply zad | refine zaf ?_ GE270.out) | exact HB.out))))
     (case aL => have := LMc8.out; omega)
     intro v280 w14 ho hb hg hat
     rw [← Ny279.out] at ho
     have n0_ := zaa.mk (Kd.V_afterv (ok := (fun k_ => (P0_1_ k_ ∨ w.heap.size ≤ k_) ∧ some k_ ≠ (.slice Ao15 t276.length co15 : Value).ownBlock ∧ k_ ≠ gb270)) (by (with_reducible repeat (first | apply Kd.V_alloc | apply Kd.V_drewN | apply Kd.V_drew)); exact Kd.V_mono HO0_1.out (fun _ hk => ⟨⟨hk.1.1.1, ⟨hk.2, hk.1.1.2⟩⟩, hk.1.2⟩)) hg hat)
     have n1_ := zaa.mk (blk_grown (g := gb270) (o := .cells #[.int .u8 a0_0, .slice (some ad271) l0_1.length c0_1] 38 (0, 0)) (by (with_reducible repeat (first | refine zbh ?_ _ | refine zbk ?_ | refine zbi ?_ _)); exact BK270.out) hg (Kd.N_away HO274.out (fun _ hk => hk.1.2)))
     have n2_ := zaa.mk (Kd.V_afterv (ok := (fun k_ => (P0_1_ k_ ∨ w.heap.size ≤ k_) ∧ some k_ ≠ (.slice Ao15 t276.length co15 : Value).ownBlock ∧ k_ ≠ gb270)) (by (with_reducible repeat (first | apply Kd.V_alloc | apply Kd.V_drewN | apply Kd.V_drew)); exact Kd.V_mono HL271_1.out (fun _ hk => ⟨⟨hk.1.1.1, ⟨hk.2, hk.1.1.2⟩⟩, hk.1.2⟩)) hg hat)
     have n3_ := zaa.mk (Kd.V_afterv (ok := (fun k_ => (P0_1_ k_ ∨ w.heap.size ≤ k_) ∧ some k_ ≠ (.slice Ao15 t276.length co15 : Value).ownBlock ∧ k_ ≠ gb270)) (by (with_reducible repeat (first | apply Kd.V_alloc | apply Kd.V_drewN | apply Kd.V_drew)); exact Kd.V_mono HL275_1.out (fun _ hk => ⟨⟨hk.1.1.1, ⟨hk.2, hk.1.1.2⟩⟩, hk.1.2⟩)) hg hat)
     have n4_ := zaa.mk (Kd.N_afterv (ok := (fun k_ => (P0_1_ k_ ∨ w.heap.size ≤ k_) ∧ k_ ≠ gb270)) (by (with_reducible repeat (first | apply Kd.N_alloc | apply Kd.N_drewN | apply Kd.N_drew)); exact Kd.N_mono HO278.out (fun _ hk => ⟨⟨hk.1, hk.2.2⟩, hk.2.1⟩)) hg hat)
     have n5_ := zaa.mk (hb)
     have n6_ := zaa.mk (ho)
     clear HO0_1
     clear BK270
     clear HL271_1
     clear HL275_1
     clear HO278
     clear HB
     clear HO274
     have HO0_1 := n0_
     have BK270 := n1_
     have HL271_1 := n2_
     have HL275_1 := n3_
     have HO278 := n4_
     have HB := n5_
     have HO281 := n6_
     clear n0_ n1_ n2_ n3_ n4_ n5_ n6_
     clear ho hb hg hat
     refine hK.out _ _ ?_
     clear hK K
     refine norm_ (a' := ?_) ?_ ?_
     rotate_left
     ·show Act.put _ (some 23) _ = _
      simp only [Act.put, List.setIfInBounds_toArray, List.set_cons_zero, List.set_cons_succ, zaq, zar]
      rfl
     refine zba (i := 13) (N := some 4) (v := ?_) (a' := ?_) #[true, true, true, true, true, true, true, true, true, true, true, true, true, true] rfl rfl (any_of HT_.out (by kernel_rfl)) (fun _ _ _ h => h) (Or.inl ⟨by rfl, ?_⟩) ?_ ?_
     rotate_left
     ·intro w'
      go_simp
      with_reducible rfl
     rotate_left
     ·simp only [Act.put, List.setIfInBounds_toArray, List.set_cons_zero, List.set_cons_succ, zaq, zar]
      rfl
     refine done_ (done_of HT_.out (by kernel_rfl)) ?_
     try go_wp2
     go_ret
     exact ⟨_, by first | rfl | (simp [zan, zam] <;> rfl) | (simp [*, zan, zam] <;> rfl), by (with_reducible repeat (first | apply Kd.N_alloc | apply Kd.N_drewN | apply Kd.N_drew)); exact Kd.N_mono HO281.out (fun _ hk => hk.1), by repeat (first | (with_reducible first | exact HB.out | apply zac | apply zab | apply zad | refine zaf ?_ GE270.out) | exact HB.out)⟩
    ·rw [if_neg c8] at H
     exact absurd H (by simp)
   ·rw [if_neg c6] at H
    exact absurd H (by simp)
  ·rw [if_neg c4] at H
   exact absurd H (by simp)
 ·rw [if_neg c3] at H
  have c3b0 : (a0_0 == a1) = false := beq_eq_false_iff_ne.mpr c3
  have c3b1 : (a0_0 != a1) = true := bne_iff_ne.mpr c3
  obtain ⟨y282, hy282⟩ : ∃ y_ : List (S38), y_ = (([(⟨a0_0, l0_1⟩ : S38)] : List (S38))) := ⟨_, rfl⟩
  replace H : (some y282) = some r := by first | (rw [hy282]; with_reducible exact H) | (have H2_ := (Option.bind_some _ _).symm.trans H; rw [hy282]; with_reducible exact H2_) | (have H2_ := (Option.bind_some _ _).symm.trans H; with_reducible exact H2_) | with_reducible exact H | (rw [hy282]; exact H) | exact H
  have Ny282 := zaa.mk hy282
  clear hy282
  obtain rfl := Option.some.inj H
  go_enter Try.func43, Try.ntmps43
  go_wp2_with (first | ((with_reducible refine zbe (N := 2) rfl ?_); refine box_event ?hg (N := 2) ?hd (cs := #[.int .u8 a0_0, .slice A0_1 l0_1.length c0_1]) (t := 38) ?hr ?_; (case hd => rfl); (case hg => rfl); (case hr => first | (go_simp; done) | (go_simp; rfl)); intro gb270 hg w16 hbox hb; have n0_ := zaa.mk (Kd.V_below (Kd.V_elderB (by (with_reducible repeat (first | apply Kd.V_alloc | apply Kd.V_drewN | apply Kd.V_drew)); exact HO0_1.out) gb270 (Nat.le_of_eq hg.symm)) hb); have n1_ := zaa.mk (zae (by repeat (first | (with_reducible first | exact HB.out | apply zac | apply zab | apply zad) | exact HB.out)) hb); have n2_ := zaa.mk (hbox); have n3_ := zaa.mk ((by rw [hg]; exact (zap (by repeat (first | (with_reducible first | exact HB.out | apply zac | apply zab | apply zad) | exact HB.out))) : w.heap.size ≤ gb270)); have n4_ := zaa.mk ((by rw [hg]; exact (zap (by repeat (first | (with_reducible first | exact HB.out | apply zac | apply zab | apply zad) | exact HB.out))) : w.heap.size ≤ gb270)); clear HO0_1; clear HB; have HO0_1 := n0_; have HB := n1_; have BK270 := n2_; have GW270 := n3_; have GE270 := n4_; clear n0_ n1_ n2_ n3_ n4_; clear hb hbox hg; have hcz17_0 : w16.cell? ⟨gb270, 0, none⟩ = some (.int .u8 a0_0) := (zag BK270.out 0).trans rfl; have hcz17_1 : w16.cell? ⟨gb270, 1, none⟩ = some (.slice A0_1 l0_1.length c0_1) := (zag BK270.out 1).trans rfl; have hfz17_0 := zaj BK270.out 0; have hfz17_1 := zaj BK270.out 1) | ((with_reducible refine zbe (N := 10) rfl ?_); refine Kd.N_lit k38 _ 38 ?hg (N' := 10) ?hd (xs := ([(⟨a0_0, l0_1⟩ : S38)] : List (S38))) (inner := [.int .u8 a0_0, .slice A0_1 l0_1.length c0_1]) (ok := (fun k_ => (P0_1_ k_ ∨ w.heap.size ≤ k_) ∧ k_ ≠ gb270)) (okp := (fun k_ => (P0_1_ k_ ∨ w.heap.size ≤ k_) ∧ k_ ≠ gb270)) ?hr ?hp (fun _ hk => hk) ((show ∀ k_, w16.heap.size ≤ k_ → (fun k_ => (P0_1_ k_ ∨ w.heap.size ≤ k_) ∧ k_ ≠ gb270) k_ from fun k_ hk => ⟨(.inr (Nat.le_trans (zap (by repeat (first | (with_reducible first | exact HB.out | apply zac | apply zab | apply zad | refine zaf ?_ GE270.out) | exact HB.out))) hk)), Kd.freshB (g := gb270) (o := .cells #[.int .u8 a0_0, .slice A0_1 l0_1.length c0_1] 38 (0, 0)) (by (with_reducible repeat (first | refine zbh ?_ _ | refine zbk ?_ | refine zbi ?_ _)); exact BK270.out) k_ hk⟩) _ (Nat.le_refl _)) (Below.refl _ _) (Nat.le_refl _) (by simp) ?_; (case hd => rfl); (case hg => rfl); (case hr => first | (go_simp; done) | (go_simp; rfl)); (case hp => exact (Reps.c2 (show Kd.FK k38 _ _ (⟨a0_0, l0_1⟩ : S38) [.int .u8 a0_0, .slice A0_1 l0_1.length c0_1] from (k38_mkF _ _ (⟨a0_0, l0_1⟩ : S38) (Kd.V_reads' (Kd.V_mono (ok' := (fun k_ => (P0_1_ k_ ∨ w.heap.size ≤ k_) ∧ k_ ≠ gb270)) (HO0_1.out) (fun k_ hk => ⟨hk.1, hk.2⟩))).2.1 (Kd.V_F (Kd.V_mono (ok' := (fun k_ => (P0_1_ k_ ∨ w.heap.size ≤ k_) ∧ k_ ≠ gb270)) (HO0_1.out) (fun k_ hk => ⟨hk.1, hk.2⟩))))) (Reps.none _ _))); intro v283 w18 ho19 hb hg_ hnew_; clear hg_ hnew_; (first | rw [← Ny282.out] at ho19 | (simp only [Int.reduceToNat] at ho19; rw [← Ny282.out] at ho19)); have n0_ := zaa.mk (Kd.V_elder' (by (with_reducible repeat (first | apply Kd.V_alloc | apply Kd.V_drewN | apply Kd.V_drew)); exact HO0_1.out) (Kd.N_base ho19) hb); have n1_ := zaa.mk (Kd.N_lower ho19 (zap (by repeat (first | (with_reducible first | exact HB.out | apply zac | apply zab | apply zad | refine zaf ?_ GE270.out) | exact HB.out)))); have n2_ := zaa.mk (zcj (g := gb270) (o := .cells #[.int .u8 a0_0, .slice A0_1 l0_1.length c0_1] 38 (0, 0)) (by (with_reducible repeat (first | refine zbh ?_ _ | refine zbk ?_ | refine zbi ?_ _)); exact BK270.out) hb); have n3_ := zaa.mk (zae (by repeat (first | (with_reducible first | exact HB.out | apply zac | apply zab | apply zad | refine zaf ?_ GE270.out) | exact HB.out)) hb); clear HO0_1; clear BK270; clear HB; have HO0_1 := n0_; have HO284 := n1_; have BK270 := n2_; have HB := n3_; clear n0_ n1_ n2_ n3_; clear hb ho19))
  go_ret
  exact ⟨_, by first | rfl | (simp [zan, zam] <;> rfl) | (simp [*, zan, zam] <;> rfl), by (with_reducible repeat (first | apply Kd.N_alloc | apply Kd.N_drewN | apply Kd.N_drew)); exact Kd.N_mono HO284.out (fun _ hk => hk.1), by repeat (first | (with_reducible first | exact HB.out | apply zac | apply zab | apply zad | refine zaf ?_ GE270.out) | exact HB.out)⟩
end Go.Proofs.Ytgiidlebnjbgeaa.PB
namespace Go.Proofs.Ytgiidlebnjbgeaa.PB
open Go.RowKit Go.PW.PrintWords Go.PW.PrintLast Go.PW.PrintMore
attribute [local go_sem] zcc zca zcr zcq zbu zbt zcb zbz   -- for this text's walks alone
mutual
def bytealg_hashStr_string.l0 : Nat → ByteArray → Int → Int → Option (Int × Int)
 | 0, _, _, _ => none
 | k + 1, x0, x4, x5 => if x5 < (x0.size : Int) then (if 0 ≤ x5 then (bytealg_hashStr_string.l0 k x0 ((((x4 * 16777619) % 4294967296) + ((bt x0 x5) % 4294967296)) % 4294967296) (wrap64 (x5 + 1))) else (none)) else (bytealg_hashStr_string.l1 k x4 1 16777619 (x0.size : Int))
def bytealg_hashStr_string.l1 : Nat → Int → Int → Int → Int → Option (Int × Int)
 | 0, _, _, _, _ => none
 | k + 1, x4, x6, x7, x8 => if x8 > 0 then (if (Go.bits .and .i64 x8 1) = 0 then (bytealg_hashStr_string.l1 k x4 x6 ((x7 * x7) % 4294967296) (x8 / 2)) else (bytealg_hashStr_string.l1 k x4 ((x6 * x7) % 4294967296) ((x7 * x7) % 4294967296) (x8 / 2))) else (some (x4, x6))
end
def bytealg_hashStr_string.f (k : Nat) (a0 : ByteArray) : Option (Int × Int) := bytealg_hashStr_string.l0 k a0 0 0
theorem bytealg_hashStr_string.mono_l : ∀ k, (∀ y0 y1 y2, LeO (bytealg_hashStr_string.l0 k y0 y1 y2) (bytealg_hashStr_string.l0 (k + 1) y0 y1 y2)) ∧ (∀ y0 y1 y2 y3, LeO (bytealg_hashStr_string.l1 k y0 y1 y2 y3) (bytealg_hashStr_string.l1 (k + 1) y0 y1 y2 y3))
 | 0 => ⟨fun _ _ _ r h => by simp [bytealg_hashStr_string.l0] at h, fun _ _ _ _ r h => by simp [bytealg_hashStr_string.l1] at h⟩
 | k + 1 => by
  obtain ⟨ih0, ih1⟩ := bytealg_hashStr_string.mono_l k
  refine ⟨?_, ?_⟩
  ·intro y0 y1 y2
   unfold bytealg_hashStr_string.l0
   repeat' first
   | (with_reducible exact ih0 _ _ _)
   | (with_reducible exact ih1 _ _ _ _)
   | (with_reducible exact LeO.refl _)
   | (with_reducible exact LeO.none _)
   | (with_reducible refine LeO.ite ?_ ?_)
   | (with_reducible refine LeO.bind ?_ (fun _ => ?_))
   | exact ih0 _ _ _
   | exact ih1 _ _ _ _
   | exact LeO.none _
   | refine LeO.ite ?_ ?_
   | refine LeO.bind ?_ (fun _ => ?_)
  ·intro y0 y1 y2 y3
   unfold bytealg_hashStr_string.l1
   repeat' first
   | (with_reducible exact ih0 _ _ _)
   | (with_reducible exact ih1 _ _ _ _)
   | (with_reducible exact LeO.refl _)
   | (with_reducible exact LeO.none _)
   | (with_reducible refine LeO.ite ?_ ?_)
   | (with_reducible refine LeO.bind ?_ (fun _ => ?_))
   | exact ih0 _ _ _
   | exact ih1 _ _ _ _
   | exact LeO.none _
   | refine LeO.ite ?_ ?_
   | refine LeO.bind ?_ (fun _ => ?_)
theorem bytealg_hashStr_string.mono : ∀ a0 k, LeO (bytealg_hashStr_string.f k a0) (bytealg_hashStr_string.f (k + 1) a0) := by
 intro a0 k
 obtain ⟨ih0, ih1⟩ := bytealg_hashStr_string.mono_l k
 unfold bytealg_hashStr_string.f
 repeat' first
   | (with_reducible exact ih0 _ _ _)
   | (with_reducible exact ih1 _ _ _ _)
   | (with_reducible exact LeO.refl _)
   | (with_reducible exact LeO.none _)
   | (with_reducible refine LeO.ite ?_ ?_)
   | (with_reducible refine LeO.bind ?_ (fun _ => ?_))
   | exact ih0 _ _ _
   | exact ih1 _ _ _ _
   | exact LeO.none _
   | refine LeO.ite ?_ ?_
   | refine LeO.bind ?_ (fun _ => ?_)
set_option maxHeartbeats 8000000 in
set_option maxRecDepth 100000 in
theorem bytealg_hashStr_string.calls (k : Nat) (a0 : ByteArray) (r1 : Int) (r2 : Int) (w : World) (h : bytealg_hashStr_string.f k a0 = some (r1, r2)) :
  Calls Try.prog 58 #[.string a0] w fun e w' => e = .returned (.tuple #[.int .u32 r1, .int .u32 r2]) ∧ zax w w' := by
 have H : (bytealg_hashStr_string.l0 k a0 0 0) = some (r1, r2) := h
 clear h
 have H' := zaa.mk H
 clear H
 go_enter Try.func58, Try.ntmps58
 go_wp2
 go_loopg [4, 5] k (fun kq v4 v5 w' => ∃ (x4_1 : Int) (x5_1 : Int), v4 = .int .u32 x4_1 ∧ v5 = .int .i64 x5_1 ∧ zaa (bytealg_hashStr_string.l0 kq a0 x4_1 x5_1 = some (r1, r2)) ∧ zaa (kq ≤ k) ∧ zax w w')
 case atStart => exact ⟨(0), (0), (by first | rfl | (simp; done) | (simp [*]; done)), (by first | rfl | (simp; done) | (simp [*]; done)), H', ⟨Nat.le_refl _⟩, by repeat (first | exact zax.refl _ | apply zax.step)⟩
 case round =>
  clear H'
  obtain ⟨x4_1, x5_1, rfl, rfl, HA, HK1, ⟨m1, rfl⟩⟩ := hrel
  cases gk with
  | zero => exact absurd HA.out (by simp [bytealg_hashStr_string.l0])
  | succ k1 =>
   have H := HA.out
   clear HA
   simp only [bytealg_hashStr_string.l0] at H
   by_cases c2 : x5_1 < (a0.size : Int)
   ·rw [if_pos c2] at H
    have c2b0 : decide (x5_1 < (a0.size : Int)) = true := decide_eq_true c2
    clear c2
    by_cases c3 : 0 ≤ x5_1
    ·rw [if_pos c3] at H
     have c3b0 : decide (0 ≤ x5_1) = true := decide_eq_true c3
     clear c3
     have H' := zaa.mk H
     clear H
     have p4 : 0 ≤ (x5_1 : Int) := of_decide_eq_true (by first | (with_reducible assumption) | assumption)
     have q4 : x5_1 < (a0.size : Int) := of_decide_eq_true (by first | (with_reducible assumption) | assumption)
     have hx4 := bt_at a0 x5_1
     replace p4 := eq_true p4
     replace q4 := eq_true q4
     go_wp2
     go_roundg k1
     case measure => have := HK1.out; omega
     case rel => exact ⟨((((x4_1 * 16777619) % 4294967296) + ((bt a0 x5_1) % 4294967296)) % 4294967296), (wrap64 (x5_1 + 1)), (by first | rfl | (simp; done) | (simp [*]; done)), (by first | rfl | (simp; done) | (simp [*]; done)), H', ⟨by have := HK1.out; omega⟩, by repeat (first | exact zax.refl _ | apply zax.step)⟩
    ·rw [if_neg c3] at H
     exact absurd H (by simp)
   ·rw [if_neg c2] at H
    have c2b0 : decide (x5_1 < (a0.size : Int)) = false := decide_eq_false c2
    clear c2
    have H' := zaa.mk H
    clear H
    go_wp2
    go_loopg [6, 7, 8] k1 (fun kq v6 v7 v8 w' => ∃ (x6_2 : Int) (x7_2 : Int) (x8_2 : Int), v6 = .int .u32 x6_2 ∧ v7 = .int .u32 x7_2 ∧ v8 = .int .i64 x8_2 ∧ zaa (bytealg_hashStr_string.l1 kq x4_1 x6_2 x7_2 x8_2 = some (r1, r2)) ∧ zaa (kq ≤ k1) ∧ zax w w')
    case atStart => exact ⟨(1), (16777619), ((a0.size : Int)), (by first | rfl | (simp; done) | (simp [*]; done)), (by first | rfl | (simp; done) | (simp [*]; done)), (by first | rfl | (simp; done) | (simp [*]; done)), H', ⟨Nat.le_refl _⟩, by repeat (first | exact zax.refl _ | apply zax.step)⟩
    case round =>
     clear H'
     try clear c2
     try clear c2b0
     try clear p2
     try clear c3
     try clear c3b0
     try clear p4
     try clear q4
     try clear hx4
     try clear p4
     try clear q4
     obtain ⟨x6_2, x7_2, x8_2, rfl, rfl, rfl, HA, HK2, ⟨m2, rfl⟩⟩ := hrel
     cases gk with
     | zero => exact absurd HA.out (by simp [bytealg_hashStr_string.l1])
     | succ k2 =>
      have H := HA.out
      clear HA
      simp only [bytealg_hashStr_string.l1] at H
      by_cases c5 : x8_2 > 0
      ·rw [if_pos c5] at H
       have c5b0 : decide (0 < x8_2) = true := decide_eq_true c5
       clear c5
       by_cases c6 : (Go.bits .and .i64 x8_2 1) = 0
       ·rw [if_pos c6] at H
        have c6b0 : ((Go.bits .and .i64 x8_2 1) == 0) = true := beq_iff_eq.mpr c6
        have c6b1 : ((Go.bits .and .i64 x8_2 1) != 0) = false := bne_eq_false_iff_eq.mpr c6
        clear c6
        have H' := zaa.mk H
        clear H
        go_wp2
        go_roundg k2
        case measure => have := HK1.out; have := HK2.out; omega
        case rel => exact ⟨(x6_2), ((x7_2 * x7_2) % 4294967296), (x8_2 / 2), (by first | rfl | (simp; done) | (simp [*]; done)), (by first | rfl | (simp; done) | (simp [*]; done)), (by first | rfl | (simp; done) | (simp [*]; done)), H', ⟨by have := HK1.out; have := HK2.out; omega⟩, by repeat (first | exact zax.refl _ | apply zax.step)⟩
       ·rw [if_neg c6] at H
        have c6b0 : ((Go.bits .and .i64 x8_2 1) == 0) = false := beq_eq_false_iff_ne.mpr c6
        have c6b1 : ((Go.bits .and .i64 x8_2 1) != 0) = true := bne_iff_ne.mpr c6
        have H' := zaa.mk H
        clear H
        go_wp2
        go_roundg k2
        case measure => have := HK1.out; have := HK2.out; omega
        case rel => exact ⟨((x6_2 * x7_2) % 4294967296), ((x7_2 * x7_2) % 4294967296), (x8_2 / 2), (by first | rfl | (simp; done) | (simp [*]; done)), (by first | rfl | (simp; done) | (simp [*]; done)), (by first | rfl | (simp; done) | (simp [*]; done)), H', ⟨by have := HK1.out; have := HK2.out; omega⟩, by repeat (first | exact zax.refl _ | apply zax.step)⟩
      ·rw [if_neg c5] at H
       have c5b0 : decide (0 < x8_2) = false := decide_eq_false c5
       clear c5
       simp only [Option.some.injEq, Prod.mk.injEq] at H
       obtain ⟨rfl, rfl⟩ := H
       go_wp2
       go_ret2
       exact ⟨by first | rfl | (simp; done) | (simp [*]; done), by repeat (first | exact zax.refl _ | apply zax.step)⟩
end Go.Proofs.Ytgiidlebnjbgeaa.PB
namespace Go.Proofs.Ytgiidlebnjbgeaa.PB
open Go.RowKit Go.PW.PrintWords Go.PW.PrintLast Go.PW.PrintMore
attribute [local go_sem] zcc zca zcr zcq zbu zbt zcb zbz   -- for this text's walks alone
def zbp (w0 W : World) (g : Nat) (f0 : ByteArray) : Prop := W.heap[g]? = some (.cells #[.string f0] 60 (0, 0)) ∧ w0.heap.size ≤ g
theorem zbp.grown {w0 W : World} {g : Nat} {f0 : ByteArray} {W1 : World} {row : Option Nat} (h : zbp w0 W g f0) (hw : W.grownBy W1 row) (hne : some g ≠ row) : zbp w0 W1 g f0 := by
 obtain ⟨hb, hg⟩ := h
 exact ⟨blk_grown hb hw hne, hg⟩
theorem zbp.kept {w0 W : World} {g : Nat} {f0 : ByteArray} {W1 : World} {S : Nat → Prop} (h : zbp w0 W g f0) (hk : Kept W W1 S) (hne : ¬ S g) : zbp w0 W1 g f0 := by
 obtain ⟨hb, hg⟩ := h
 exact ⟨blk_kept hb hk hne, hg⟩
theorem zbp.below {w0 W : World} {g : Nat} {f0 : ByteArray} {W1 : World} (h : zbp w0 W g f0) (hw : Below W.heap.size W W1) : zbp w0 W1 g f0 := h.grown (grown_of_below hw none) (by simp)
theorem zbp.alloc {w0 W : World} {g : Nat} {f0 : ByteArray} (h : zbp w0 W g f0) (o : Obj) : zbp w0 (W.alloc o) g f0 := h.below (zac (Below.refl _ _) o)
theorem zbp.drewN {w0 W : World} {g : Nat} {f0 : ByteArray} (h : zbp w0 W g f0) (m : Nat) : zbp w0 (W.drewN m) g f0 := h
theorem zbp.drew {w0 W : World} {g : Nat} {f0 : ByteArray} (h : zbp w0 W g f0) : zbp w0 W.drew g f0 := h
theorem zbp.at_ {w0 W : World} {g : Nat} {f0 : ByteArray} {w' : World} {m : Nat} (hq : W.drewN m = w') (h : zbp w0 W g f0) : zbp w0 w' g f0 := by subst hq; exact zbp.drewN h m
theorem zbp.apart {w0 W : World} {g : Nat} {f0 : ByteArray} {α : Type} {d : Kd α} {e : Nat} {base : Nat} {ok : Nat → Prop} {v : Value} {xs : List α} (h : zbp w0 W g f0) (ho : d.R e W base ok v xs) (ht : ∀ q, q ∈ e :: d.E → q ≠ 60) : d.R e W base (fun k => ok k ∧ k ≠ g) v xs := by
 obtain ⟨hb, hg⟩ := h
 exact Kd.R_types ho hb ht
theorem zbp.own_ne {w0 W : World} {g : Nat} {f0 : ByteArray} {α : Type} {d : Kd α} {e : Nat} {base : Nat} {ok : Nat → Prop} {v : Value} {xs : List α} (h : zbp w0 W g f0) (ho : d.R e W base ok v xs) (ht : e ≠ 60) : some g ≠ v.ownBlock := by
 obtain ⟨hb, hg⟩ := h
 exact Kd.R_ne ho hb ht
theorem zbp.ge {w0 W : World} {g : Nat} {f0 : ByteArray} (h : zbp w0 W g f0) : w0.heap.size ≤ g := by
 obtain ⟨hb, hg⟩ := h
 exact hg
theorem zbp.far {w0 W : World} {g : Nat} {f0 : ByteArray} {p : Addr} (h : zbp w0 W g f0) (hne : g ≠ p.block) (u : Value) : zbp w0 (W.setCell p u) g f0 := by
 obtain ⟨hb, hg⟩ := h
 exact ⟨blk_far hb hne u, hg⟩
theorem cellS60_0 {W : World} {g : Nat} {f0 : ByteArray} (h : W.heap[g]? = some (.cells #[.string f0] 60 (0, 0))) : W.cell? ⟨g, 0, none⟩ = some (.string f0) := (zag h 0).trans rfl
theorem zbp.set_0 {w0 W : World} {g : Nat} {f0 : ByteArray} (h : zbp w0 W g f0) (x : ByteArray) : zbp w0 (W.setCell ⟨g, 0, none⟩ (.string x)) g x := by
 obtain ⟨hb, hg⟩ := h
 exact ⟨by simpa using blk_set hb 0 (.string x), hg⟩
theorem zbp.new (w0 W : World) (f0 : ByteArray) (hB : Below w0.heap.size w0 W) : zbp w0 (W.alloc (.cells #[.string f0] 60)) W.heap.size f0 := ⟨by simpa using heap_alloc_new W _, hB.size⟩
def impl_reader_take.f (s0_0 : ByteArray) : Option (Int × ByteArray) := if s0_0.toList = ([] : List UInt8) then (some (0, s0_0)) else (if 0 < (s0_0.size : Int) then (if 1 ≤ (s0_0.size : Int) then (some (bt s0_0 0, s0_0.extract 1 s0_0.size)) else (none)) else (none))
set_option maxHeartbeats 8000000 in
set_option maxRecDepth 100000 in
theorem impl_reader_take.calls (g : Nat) (s0_0 : ByteArray) (r1 : Int) (r2 : ByteArray) (w0 w : World) (hI : zbp w0 w g s0_0) (hB : Below w0.heap.size w0 w) (h : impl_reader_take.f s0_0 = some (r1, r2)) :
  Calls Try.prog 49 #[.pointer (some ⟨g, 0, none⟩)] w fun e w' => e = .returned (.int .u8 r1) ∧ zbp w0 w' g r2 ∧ Below w0.heap.size w0 w' ∧ zal w w' g none := by
 have HI0 := zaa.mk hI
 have HK := zaa.mk (zal.refl w g none)
 have HL := zaa.mk hB.size
 clear hI
 have HW0 := zaa.mk hB.size
 have HB := zaa.mk hB
 clear hB
 have H : (if s0_0.toList = ([] : List UInt8) then (some (0, s0_0)) else (if 0 < (s0_0.size : Int) then (if 1 ≤ (s0_0.size : Int) then (some (bt s0_0 0, s0_0.extract 1 s0_0.size)) else (none)) else (none))) = some (r1, r2) := h
 clear h
 by_cases c2 : s0_0.toList = ([] : List UInt8)
 ·rw [if_pos c2] at H
  have c2b0 : (s0_0.toList == ([] : List UInt8)) = true := beq_iff_eq.mpr c2
  have c2b1 : (s0_0.toList != ([] : List UInt8)) = false := bne_eq_false_iff_eq.mpr c2
  clear c2
  simp only [Option.some.injEq, Prod.mk.injEq] at H
  obtain ⟨rfl, rfl⟩ := H
  obtain ⟨HGz3, hgz3⟩ := HI0.out
  have hcz3_0 := cellS60_0 HGz3
  have hfz3_0 := zaj HGz3 0
  clear HGz3 hgz3
  go_enter Try.func49, Try.ntmps49
  go_wp2
  go_ret
  exact ⟨by first | rfl | (simp [zan, zam] <;> rfl) | (simp [*, zan, zam] <;> rfl), by repeat (first | (with_reducible first | exact HI0.out | apply zbp.alloc | apply zbp.drewN | apply zbp.drew | apply zbp.set_0) | exact HI0.out), by repeat (first | (with_reducible first | exact HB.out | apply zac | apply zab | apply zad | refine zaf ?_ (zbp.ge HI0.out)) | exact HB.out), by repeat (first | (with_reducible first | exact HK.out | apply zal.set_ | apply zas | apply zav | apply zat) | exact HK.out)⟩
 ·rw [if_neg c2] at H
  have c2b0 : (s0_0.toList == ([] : List UInt8)) = false := beq_eq_false_iff_ne.mpr c2
  have c2b1 : (s0_0.toList != ([] : List UInt8)) = true := bne_iff_ne.mpr c2
  by_cases c4 : 0 < (s0_0.size : Int)
  ·rw [if_pos c4] at H
   have c4b0 : decide (0 < (s0_0.size : Int)) = true := decide_eq_true c4
   have c4b1 : decide (0 < s0_0.size) = true := decide_eq_true (by omega)
   clear c4
   by_cases c6 : 1 ≤ (s0_0.size : Int)
   ·rw [if_pos c6] at H
    have c6b0 := eq_true c6
    have c6b1 : decide (1 ≤ (s0_0.size : Int)) = true := decide_eq_true c6
    clear c6
    simp only [Option.some.injEq, Prod.mk.injEq] at H
    obtain ⟨rfl, rfl⟩ := H
    obtain ⟨HGz7, hgz7⟩ := HI0.out
    have hcz7_0 := cellS60_0 HGz7
    have hfz7_0 := zaj HGz7 0
    clear HGz7 hgz7
    have p5 : 0 ≤ (0 : Int) := (by omega)
    have q5 : 0 < s0_0.size := (by have : (0 : Int) < (s0_0.size : Int) := of_decide_eq_true (by first | (with_reducible assumption) | assumption); omega)
    have hx5 : ∀ h : 0 < s0_0.size, ((s0_0[0]'h).toNat : Int) = bt s0_0 0 := bt_at s0_0 0
    clear p5
    have qi5 : (0 < (s0_0.size : Int)) = True := eq_true (of_decide_eq_true (by first | (with_reducible assumption) | assumption))
    replace q5 := eq_true q5
    go_enter Try.func49, Try.ntmps49
    go_wp2
    go_ret
    exact ⟨by first | rfl | (simp [zan, zam] <;> rfl) | (simp [*, zan, zam] <;> rfl), by repeat (first | (with_reducible first | exact HI0.out | apply zbp.alloc | apply zbp.drewN | apply zbp.drew | apply zbp.set_0) | exact HI0.out), by repeat (first | (with_reducible first | exact HB.out | apply zac | apply zab | apply zad | refine zaf ?_ (zbp.ge HI0.out)) | exact HB.out), by repeat (first | (with_reducible first | exact HK.out | apply zal.set_ | apply zas | apply zav | apply zat) | exact HK.out)⟩
   ·rw [if_neg c6] at H
    exact absurd H (by simp)
  ·rw [if_neg c4] at H
   exact absurd H (by simp)
end Go.Proofs.Ytgiidlebnjbgeaa.PB
namespace Go.Proofs.Ytgiidlebnjbgeaa.PB
open Go.RowKit Go.PW.PrintWords Go.PW.PrintLast Go.PW.PrintMore
attribute [local go_sem] zcc zca zcr zcq zbu zbt zcb zbz   -- for this text's walks alone
def spec_l5Equal.l0 : Nat → List Int → List Int → Int → Option (Bool)
 | 0, _, _, _ => none
 | k + 1, x0, x1, x5 => if x5 < (x0.length : Int) then (if 0 ≤ x5 then (if x5 < (x1.length : Int) then (if (rd x0 x5) = (rd x1 x5) then (spec_l5Equal.l0 k x0 x1 (wrap64 (x5 + 1))) else (some false)) else (none)) else (none)) else (some true)
def spec_l5Equal.f (k : Nat) (l0 : List Int) (l1 : List Int) : Option (Bool) := if (l0.length : Int) = (l1.length : Int) then (spec_l5Equal.l0 k l0 l1 0) else (some false)
set_option maxHeartbeats 8000000 in
set_option maxRecDepth 100000 in
theorem spec_l5Equal.calls (k : Nat) (A0 : Option Addr) (c0 : Nat) (l0 : List Int) (A1 : Option Addr) (c1 : Nat) (l1 : List Int) (r : Bool) (w : World) (hr0 : Kd.C (Kd.int .i64) w A0 l0.length l0) (hc0 : l0.length ≤ c0) (hr1 : Kd.C (Kd.int .i64) w A1 l1.length l1) (hc1 : l1.length ≤ c1) (h : spec_l5Equal.f k l0 l1 = some r) :
  Calls Try.prog 25 #[.slice A0 l0.length c0, .slice A1 l1.length c1] w fun e w' => e = .returned (.bool r) ∧ zax w w' := by
 have HR0 := zaa.mk hr0
 have HC0 := zaa.mk hc0
 clear hr0 hc0
 have HR1 := zaa.mk hr1
 have HC1 := zaa.mk hc1
 clear hr1 hc1
 have H : (if (l0.length : Int) = (l1.length : Int) then (spec_l5Equal.l0 k l0 l1 0) else (some false)) = some r := h
 clear h
 by_cases c3 : (l0.length : Int) = (l1.length : Int)
 ·rw [if_pos c3] at H
  have c3b0 : ((l0.length : Int) == (l1.length : Int)) = true := beq_iff_eq.mpr c3
  have c3b1 : ((l0.length : Int) != (l1.length : Int)) = false := bne_eq_false_iff_eq.mpr c3
  have c3b2 : (l0.length == l1.length) = true := by first | simpa using c3 | (simp at c3 ⊢; omega)
  clear c3
  have H' := zaa.mk H
  clear H
  go_enter Try.func25, Try.ntmps25
  go_wp2
  repeat (go_quiet (fail); try go_wp2)
  go_loopg [5] k (fun kq v5 w' => ∃ (x5_1 : Int), v5 = .int .i64 x5_1 ∧ zaa (spec_l5Equal.l0 kq l0 l1 x5_1 = some r) ∧ zaa (kq ≤ k) ∧ zax w w')
  case atStart => exact ⟨(0), (by first | rfl | (simp; done) | (simp [*]; done)), H', ⟨Nat.le_refl _⟩, by repeat (first | exact zax.refl _ | apply zax.step)⟩
  case round =>
   clear H'
   try clear c1
   try clear c2
   try clear p2
   try clear c3
   try clear c3b0
   try clear c3b1
   try clear c3b2
   obtain ⟨x5_1, rfl, HA, HK1, ⟨m1, rfl⟩⟩ := hrel
   cases gk with
   | zero => exact absurd HA.out (by simp [spec_l5Equal.l0])
   | succ k1 =>
    have H := HA.out
    clear HA
    simp only [spec_l5Equal.l0] at H
    by_cases c4 : x5_1 < (l0.length : Int)
    ·rw [if_pos c4] at H
     have c4b0 : decide (x5_1 < (l0.length : Int)) = true := decide_eq_true c4
     clear c4
     by_cases c5 : 0 ≤ x5_1
     ·rw [if_pos c5] at H
      have c5b0 : decide (0 ≤ x5_1) = true := decide_eq_true c5
      clear c5
      by_cases c6 : x5_1 < (l1.length : Int)
      ·rw [if_pos c6] at H
       have c6b0 : decide (x5_1 < (l1.length : Int)) = true := decide_eq_true c6
       clear c6
       by_cases c7 : (rd l0 x5_1) = (rd l1 x5_1)
       ·rw [if_pos c7] at H
        have c7b0 : ((rd l0 x5_1) == (rd l1 x5_1)) = true := beq_iff_eq.mpr c7
        have c7b1 : ((rd l0 x5_1) != (rd l1 x5_1)) = false := bne_eq_false_iff_eq.mpr c7
        clear c7
        have H' := zaa.mk H
        clear H
        have p217 : 0 ≤ (x5_1 : Int) := of_decide_eq_true (by first | (with_reducible assumption) | assumption)
        have q217 : x5_1 < (l0.length : Int) := of_decide_eq_true (by first | (with_reducible assumption) | assumption)
        obtain ⟨ad217, e217, hx217_0⟩ := Kd.at_int HR0.out x5_1 p217 q217
        cases e217
        replace p217 := eq_true p217
        replace q217 := eq_true q217
        have p218 : 0 ≤ (x5_1 : Int) := of_decide_eq_true (by first | (with_reducible assumption) | assumption)
        have q218 : x5_1 < (l1.length : Int) := of_decide_eq_true (by first | (with_reducible assumption) | assumption)
        obtain ⟨ad218, e218, hx218_0⟩ := Kd.at_int HR1.out x5_1 p218 q218
        cases e218
        replace p218 := eq_true p218
        replace q218 := eq_true q218
        go_wp2
        repeat (go_quiet (fail); try go_wp2)
        go_roundg k1
        case measure => have := HK1.out; omega
        case rel => exact ⟨(wrap64 (x5_1 + 1)), (by first | rfl | (simp; done) | (simp [*]; done)), H', ⟨by have := HK1.out; omega⟩, by repeat (first | exact zax.refl _ | apply zax.step)⟩
       ·rw [if_neg c7] at H
        have c7b0 : ((rd l0 x5_1) == (rd l1 x5_1)) = false := beq_eq_false_iff_ne.mpr c7
        have c7b1 : ((rd l0 x5_1) != (rd l1 x5_1)) = true := bne_iff_ne.mpr c7
        obtain rfl := Option.some.inj H
        have p217 : 0 ≤ (x5_1 : Int) := of_decide_eq_true (by first | (with_reducible assumption) | assumption)
        have q217 : x5_1 < (l0.length : Int) := of_decide_eq_true (by first | (with_reducible assumption) | assumption)
        obtain ⟨ad217, e217, hx217_0⟩ := Kd.at_int HR0.out x5_1 p217 q217
        cases e217
        replace p217 := eq_true p217
        replace q217 := eq_true q217
        have p218 : 0 ≤ (x5_1 : Int) := of_decide_eq_true (by first | (with_reducible assumption) | assumption)
        have q218 : x5_1 < (l1.length : Int) := of_decide_eq_true (by first | (with_reducible assumption) | assumption)
        obtain ⟨ad218, e218, hx218_0⟩ := Kd.at_int HR1.out x5_1 p218 q218
        cases e218
        replace p218 := eq_true p218
        replace q218 := eq_true q218
        go_wp2
        repeat (go_quiet (fail); try go_wp2)
        go_ret
        exact ⟨by first | rfl | (simp; done) | (simp [*]; done), by repeat (first | exact zax.refl _ | apply zax.step)⟩
      ·rw [if_neg c6] at H
       exact absurd H (by simp)
     ·rw [if_neg c5] at H
      exact absurd H (by simp)
    ·rw [if_neg c4] at H
     have c4b0 : decide (x5_1 < (l0.length : Int)) = false := decide_eq_false c4
     clear c4
     obtain rfl := Option.some.inj H
     go_wp2
     repeat (go_quiet (fail); try go_wp2)
     go_ret
     exact ⟨by first | rfl | (simp; done) | (simp [*]; done), by repeat (first | exact zax.refl _ | apply zax.step)⟩
 ·rw [if_neg c3] at H
  have c3b0 : ((l0.length : Int) == (l1.length : Int)) = false := beq_eq_false_iff_ne.mpr c3
  have c3b1 : ((l0.length : Int) != (l1.length : Int)) = true := bne_iff_ne.mpr c3
  have c3b2 : (l0.length == l1.length) = false := by first | simpa using c3 | (simp at c3 ⊢; omega)
  obtain rfl := Option.some.inj H
  go_enter Try.func25, Try.ntmps25
  go_wp2
  repeat (go_quiet (fail); try go_wp2)
  go_ret
  exact ⟨by first | rfl | (simp; done) | (simp [*]; done), by repeat (first | exact zax.refl _ | apply zax.step)⟩
end Go.Proofs.Ytgiidlebnjbgeaa.PB
namespace Go.Proofs.Ytgiidlebnjbgeaa.PB
open Go.RowKit Go.PW.PrintWords Go.PW.PrintLast Go.PW.PrintMore
attribute [local go_sem] zcc zca zcr zcq zbu zbt zcb zbz   -- for this text's walks alone
def slices_Equal_int_int.l0 : Nat → List Int → List Int → Int → Int → Option (Bool)
 | 0, _, _, _, _ => none
 | k + 1, x0, x1, x12, x13 => if x13 < x12 then (if 0 ≤ x13 then (if x13 < (x0.length : Int) then (if x13 < (x1.length : Int) then (if (rd x0 x13) = (rd x1 x13) then (slices_Equal_int_int.l0 k x0 x1 x12 (wrap64 (x13 + 1))) else (some false)) else (none)) else (none)) else (none)) else (some true)
def slices_Equal_int_int.f (k : Nat) (l0 : List Int) (l1 : List Int) : Option (Bool) := if (l0.length : Int) = (l1.length : Int) then (slices_Equal_int_int.l0 k l0 l1 (l0.length : Int) 0) else (some false)
set_option maxHeartbeats 8000000 in
set_option maxRecDepth 100000 in
theorem slices_Equal_int_int.calls (k : Nat) (A0 : Option Addr) (c0 : Nat) (l0 : List Int) (A1 : Option Addr) (c1 : Nat) (l1 : List Int) (r : Bool) (w : World) (hr0 : Kd.C (Kd.int .i64) w A0 l0.length l0) (hc0 : l0.length ≤ c0) (hr1 : Kd.C (Kd.int .i64) w A1 l1.length l1) (hc1 : l1.length ≤ c1) (h : slices_Equal_int_int.f k l0 l1 = some r) :
  Calls Try.prog 26 #[.slice A0 l0.length c0, .slice A1 l1.length c1] w fun e w' => e = .returned (.bool r) ∧ zax w w' := by
 have HR0 := zaa.mk hr0
 have HC0 := zaa.mk hc0
 clear hr0 hc0
 have HR1 := zaa.mk hr1
 have HC1 := zaa.mk hc1
 clear hr1 hc1
 have H : (if (l0.length : Int) = (l1.length : Int) then (slices_Equal_int_int.l0 k l0 l1 (l0.length : Int) 0) else (some false)) = some r := h
 clear h
 by_cases c3 : (l0.length : Int) = (l1.length : Int)
 ·rw [if_pos c3] at H
  have c3b0 : ((l0.length : Int) == (l1.length : Int)) = true := beq_iff_eq.mpr c3
  have c3b1 : ((l0.length : Int) != (l1.length : Int)) = false := bne_eq_false_iff_eq.mpr c3
  have c3b2 : (l0.length == l1.length) = true := by first | simpa using c3 | (simp at c3 ⊢; omega)
  clear c3
  have H' := zaa.mk H
  clear H
  go_enter Try.func26, Try.ntmps26
  go_wp2
  repeat (go_quiet (fail); try go_wp2)
  go_loopg [13] k (fun kq v13 w' => ∃ (x13_1 : Int), v13 = .int .i64 x13_1 ∧ zaa (slices_Equal_int_int.l0 kq l0 l1 (l0.length : Int) x13_1 = some r) ∧ zaa (kq ≤ k) ∧ zax w w')
  case atStart => exact ⟨(0), (by first | rfl | (simp; done) | (simp [*]; done)), H', ⟨Nat.le_refl _⟩, by repeat (first | exact zax.refl _ | apply zax.step)⟩
  case round =>
   clear H'
   try clear c1
   try clear c2
   try clear p2
   try clear c3
   try clear c3b0
   try clear c3b1
   try clear c3b2
   obtain ⟨x13_1, rfl, HA, HK1, ⟨m1, rfl⟩⟩ := hrel
   cases gk with
   | zero => exact absurd HA.out (by simp [slices_Equal_int_int.l0])
   | succ k1 =>
    have H := HA.out
    clear HA
    simp only [slices_Equal_int_int.l0] at H
    by_cases c4 : x13_1 < (l0.length : Int)
    ·rw [if_pos c4] at H
     have c4b0 : decide (x13_1 < (l0.length : Int)) = true := decide_eq_true c4
     clear c4
     by_cases c5 : 0 ≤ x13_1
     ·rw [if_pos c5] at H
      have c5b0 : decide (0 ≤ x13_1) = true := decide_eq_true c5
      clear c5
      by_cases c6 : x13_1 < (l0.length : Int)
      ·rw [if_pos c6] at H
       have c6b0 : decide (x13_1 < (l0.length : Int)) = true := decide_eq_true c6
       clear c6
       by_cases c7 : x13_1 < (l1.length : Int)
       ·rw [if_pos c7] at H
        have c7b0 : decide (x13_1 < (l1.length : Int)) = true := decide_eq_true c7
        clear c7
        by_cases c8 : (rd l0 x13_1) = (rd l1 x13_1)
        ·rw [if_pos c8] at H
         have c8b0 : ((rd l0 x13_1) == (rd l1 x13_1)) = true := beq_iff_eq.mpr c8
         have c8b1 : ((rd l0 x13_1) != (rd l1 x13_1)) = false := bne_eq_false_iff_eq.mpr c8
         clear c8
         have H' := zaa.mk H
         clear H
         have p219 : 0 ≤ (x13_1 : Int) := of_decide_eq_true (by first | (with_reducible assumption) | assumption)
         have q219 : x13_1 < (l0.length : Int) := of_decide_eq_true (by first | (with_reducible assumption) | assumption)
         obtain ⟨ad219, e219, hx219_0⟩ := Kd.at_int HR0.out x13_1 p219 q219
         cases e219
         replace p219 := eq_true p219
         replace q219 := eq_true q219
         have p220 : 0 ≤ (x13_1 : Int) := of_decide_eq_true (by first | (with_reducible assumption) | assumption)
         have q220 : x13_1 < (l1.length : Int) := of_decide_eq_true (by first | (with_reducible assumption) | assumption)
         obtain ⟨ad220, e220, hx220_0⟩ := Kd.at_int HR1.out x13_1 p220 q220
         cases e220
         replace p220 := eq_true p220
         replace q220 := eq_true q220
         go_wp2
         repeat (go_quiet (fail); try go_wp2)
         go_roundg k1
         case measure => have := HK1.out; omega
         case rel => exact ⟨(wrap64 (x13_1 + 1)), (by first | rfl | (simp; done) | (simp [*]; done)), H', ⟨by have := HK1.out; omega⟩, by repeat (first | exact zax.refl _ | apply zax.step)⟩
        ·rw [if_neg c8] at H
         have c8b0 : ((rd l0 x13_1) == (rd l1 x13_1)) = false := beq_eq_false_iff_ne.mpr c8
         have c8b1 : ((rd l0 x13_1) != (rd l1 x13_1)) = true := bne_iff_ne.mpr c8
         obtain rfl := Option.some.inj H
         have p219 : 0 ≤ (x13_1 : Int) := of_decide_eq_true (by first | (with_reducible assumption) | assumption)
         have q219 : x13_1 < (l0.length : Int) := of_decide_eq_true (by first | (with_reducible assumption) | assumption)
         obtain ⟨ad219, e219, hx219_0⟩ := Kd.at_int HR0.out x13_1 p219 q219
         cases e219
         replace p219 := eq_true p219
         replace q219 := eq_true q219
         have p220 : 0 ≤ (x13_1 : Int) := of_decide_eq_true (by first | (with_reducible assumption) | assumption)
         have q220 : x13_1 < (l1.length : Int) := of_decide_eq_true (by first | (with_reducible assumption) | assumption)
         obtain ⟨ad220, e220, hx220_0⟩ := Kd.at_int HR1.out x13_1 p220 q220
         cases e220
         replace p220 := eq_true p220
         replace q220 := eq_true q220
         go_wp2
         repeat (go_quiet (fail); try go_wp2)
         go_ret
         exact ⟨by first | rfl | (simp; done) | (simp [*]; done), by repeat (first | exact zax.refl _ | apply zax.step)⟩
       ·rw [if_neg c7] at H
        exact absurd H (by simp)
      ·rw [if_neg c6] at H
       exact absurd H (by simp)
     ·rw [if_neg c5] at H
      exact absurd H (by simp)
    ·rw [if_neg c4] at H
     have c4b0 : decide (x13_1 < (l0.length : Int)) = false := decide_eq_false c4
     clear c4
     obtain rfl := Option.some.inj H
     go_wp2
     repeat (go_quiet (fail); try go_wp2)
     go_ret
     exact ⟨by first | rfl | (simp; done) | (simp [*]; done), by repeat (first | exact zax.refl _ | apply zax.step)⟩
 ·rw [if_neg c3] at H
  have c3b0 : ((l0.length : Int) == (l1.length : Int)) = false := beq_eq_false_iff_ne.mpr c3
  have c3b1 : ((l0.length : Int) != (l1.length : Int)) = true := bne_iff_ne.mpr c3
  have c3b2 : (l0.length == l1.length) = false := by first | simpa using c3 | (simp at c3 ⊢; omega)
  obtain rfl := Option.some.inj H
  go_enter Try.func26, Try.ntmps26
  go_wp2
  repeat (go_quiet (fail); try go_wp2)
  go_ret
  exact ⟨by first | rfl | (simp; done) | (simp [*]; done), by repeat (first | exact zax.refl _ | apply zax.step)⟩
def zai (w0 W : World) (g : Nat) (f0 : List Int) (f1 : Int) : Prop := ∃ A0 c0, W.heap[g]? = some (.cells #[.slice A0 f0.length c0, .int .i64 f1] 69 (0, 0)) ∧ w0.heap.size ≤ g ∧ Kd.C (Kd.int .u8) w0 A0 f0.length f0
theorem zai.grown {w0 W : World} {g : Nat} {f0 : List Int} {f1 : Int} {W1 : World} {row : Option Nat} (h : zai w0 W g f0 f1) (hw : W.grownBy W1 row) (hne : some g ≠ row) : zai w0 W1 g f0 f1 := by
 obtain ⟨A0, c0, hb, hg, hr0⟩ := h
 exact ⟨A0, c0, blk_grown hb hw hne, hg, hr0⟩
theorem zai.kept {w0 W : World} {g : Nat} {f0 : List Int} {f1 : Int} {W1 : World} {S : Nat → Prop} (h : zai w0 W g f0 f1) (hk : Kept W W1 S) (hne : ¬ S g) : zai w0 W1 g f0 f1 := by
 obtain ⟨A0, c0, hb, hg, hr0⟩ := h
 exact ⟨A0, c0, blk_kept hb hk hne, hg, hr0⟩
theorem zai.below {w0 W : World} {g : Nat} {f0 : List Int} {f1 : Int} {W1 : World} (h : zai w0 W g f0 f1) (hw : Below W.heap.size W W1) : zai w0 W1 g f0 f1 := h.grown (grown_of_below hw none) (by simp)
theorem zai.alloc {w0 W : World} {g : Nat} {f0 : List Int} {f1 : Int} (h : zai w0 W g f0 f1) (o : Obj) : zai w0 (W.alloc o) g f0 f1 := h.below (zac (Below.refl _ _) o)
theorem zai.drewN {w0 W : World} {g : Nat} {f0 : List Int} {f1 : Int} (h : zai w0 W g f0 f1) (m : Nat) : zai w0 (W.drewN m) g f0 f1 := h
theorem zai.drew {w0 W : World} {g : Nat} {f0 : List Int} {f1 : Int} (h : zai w0 W g f0 f1) : zai w0 W.drew g f0 f1 := h
theorem zai.at_ {w0 W : World} {g : Nat} {f0 : List Int} {f1 : Int} {w' : World} {m : Nat} (hq : W.drewN m = w') (h : zai w0 W g f0 f1) : zai w0 w' g f0 f1 := by subst hq; exact zai.drewN h m
theorem zai.apart {w0 W : World} {g : Nat} {f0 : List Int} {f1 : Int} {α : Type} {d : Kd α} {e : Nat} {base : Nat} {ok : Nat → Prop} {v : Value} {xs : List α} (h : zai w0 W g f0 f1) (ho : d.R e W base ok v xs) (ht : ∀ q, q ∈ e :: d.E → q ≠ 69) : d.R e W base (fun k => ok k ∧ k ≠ g) v xs := by
 obtain ⟨A0, c0, hb, hg, hr0⟩ := h
 exact Kd.R_types ho hb ht
theorem zai.own_ne {w0 W : World} {g : Nat} {f0 : List Int} {f1 : Int} {α : Type} {d : Kd α} {e : Nat} {base : Nat} {ok : Nat → Prop} {v : Value} {xs : List α} (h : zai w0 W g f0 f1) (ho : d.R e W base ok v xs) (ht : e ≠ 69) : some g ≠ v.ownBlock := by
 obtain ⟨A0, c0, hb, hg, hr0⟩ := h
 exact Kd.R_ne ho hb ht
theorem zai.ge {w0 W : World} {g : Nat} {f0 : List Int} {f1 : Int} (h : zai w0 W g f0 f1) : w0.heap.size ≤ g := by
 obtain ⟨A0, c0, hb, hg, hr0⟩ := h
 exact hg
theorem zai.far {w0 W : World} {g : Nat} {f0 : List Int} {f1 : Int} {p : Addr} (h : zai w0 W g f0 f1) (hne : g ≠ p.block) (u : Value) : zai w0 (W.setCell p u) g f0 f1 := by
 obtain ⟨A0, c0, hb, hg, hr0⟩ := h
 exact ⟨A0, c0, blk_far hb hne u, hg, hr0⟩
theorem cellS69_0 {W : World} {g : Nat} {A0 : Option Addr} {c0 : Nat} {f0 : List Int} {f1 : Int} (h : W.heap[g]? = some (.cells #[.slice A0 f0.length c0, .int .i64 f1] 69 (0, 0))) : W.cell? ⟨g, 0, none⟩ = some (.slice A0 f0.length c0) := (zag h 0).trans rfl
theorem cellS69_1 {W : World} {g : Nat} {A0 : Option Addr} {c0 : Nat} {f0 : List Int} {f1 : Int} (h : W.heap[g]? = some (.cells #[.slice A0 f0.length c0, .int .i64 f1] 69 (0, 0))) : W.cell? ⟨g, 1, none⟩ = some (.int .i64 f1) := (zag h 1).trans rfl
theorem zai.set_1 {w0 W : World} {g : Nat} {f0 : List Int} {f1 : Int} (h : zai w0 W g f0 f1) (x : Int) : zai w0 (W.setCell ⟨g, 1, none⟩ (.int .i64 x)) g f0 x := by
 obtain ⟨A0, c0, hb, hg, hr0⟩ := h
 exact ⟨A0, c0, by simpa using blk_set hb 1 (.int .i64 x), hg, hr0⟩
theorem zai.new (w0 W : World) (A0 : Option Addr) (c0 : Nat) (f0 : List Int) (f1 : Int) (hB : Below w0.heap.size w0 W) (hr0 : Kd.C (Kd.int .u8) w0 A0 f0.length f0) : zai w0 (W.alloc (.cells #[.slice A0 f0.length c0, .int .i64 f1] 69)) W.heap.size f0 f1 := ⟨A0, c0, by simpa using heap_alloc_new W _, hB.size, hr0⟩
def spec_l6Open.f (l0 : List Int) : Option (List Int × Int) := if (l0.length : Int) > 2000 then (if 2000 ≤ (l0.length : Int) then (some (l0.take 2000, 0)) else (none)) else (some (l0, 0))
set_option maxHeartbeats 8000000 in
set_option maxRecDepth 100000 in
theorem spec_l6Open.calls (A0 : Option Addr) (c0 : Nat) (l0 : List Int) (r1 : List Int) (r2 : Int) (w0 w : World) (hB : Below w0.heap.size w0 w) (hr0 : Kd.C (Kd.int .u8) w0 A0 l0.length l0) (hc0 : l0.length ≤ c0) (h : spec_l6Open.f l0 = some (r1, r2)) :
  Calls Try.prog 31 #[.slice A0 l0.length c0] w fun e w' => ∃ g_ : Nat, e = .returned (.pointer (some ⟨g_, 0, none⟩)) ∧ zai w0 w' g_ r1 r2 ∧ Below w0.heap.size w0 w' ∧ Below w.heap.size w w' := by
 have hu69 := Try.underlying69
 have HR0 := zaa.mk hr0
 have HC0 := zaa.mk hc0
 clear hr0 hc0
 have HBW := zaa.mk (Below.refl w.heap.size w)
 have HW0 := zaa.mk hB.size
 have HB := zaa.mk hB
 clear hB
 have H : (if (l0.length : Int) > 2000 then (if 2000 ≤ (l0.length : Int) then (some (l0.take 2000, 0)) else (none)) else (some (l0, 0))) = some (r1, r2) := h
 clear h
 by_cases c2 : (l0.length : Int) > 2000
 ·rw [if_pos c2] at H
  have c2b0 : decide (2000 < (l0.length : Int)) = true := decide_eq_true c2
  have c2b1 : decide (2000 < l0.length) = true := decide_eq_true (by omega)
  clear c2
  by_cases c3 : 2000 ≤ (l0.length : Int)
  ·rw [if_pos c3] at H
   have c3b0 := eq_true c3
   have c3b1 : decide (2000 ≤ (l0.length : Int)) = true := decide_eq_true c3
   clear c3
   simp only [Option.some.injEq, Prod.mk.injEq] at H
   obtain ⟨rfl, rfl⟩ := H
   obtain ⟨i04, hi04, _, hsz4, _⟩ := info_parts info5
   obtain ⟨hcut4, hA4, hC4⟩ := print_take_of (P := Try.prog) (Value.int .u8) 0 29 5 .i64 Try.underlying29 hi04 hsz4 A0 c0 l0 2000 (by omega) (of_decide_eq_true (by first | (with_reducible assumption) | assumption)) HC0.out
   have HR221 := zaa.mk (Kd.C_of_reads (h1 := fun _ => rfl) (hA4 _ (Kd.reads_of_C HR0.out)))
   have HC221 := zaa.mk hC4
   clear hA4 hC4 hi04 hsz4
   go_enter Try.func31, Try.ntmps31
   go_wp2_with (first | ((with_reducible refine zbe (N := 10) rfl ?_); refine box_event ?hg (N := 10) ?hd (cs := #[.slice A0 (l0.take 2000).length c0, .int .i64 0]) (t := 69) ?hr ?_; (case hd => rfl); (case hg => rfl); (case hr => first | (go_simp; done) | (go_simp; rfl)); intro gb222 hg w5 hbox hb; have n0_ := zaa.mk (zae HBW.out hb); have n1_ := zaa.mk (zae (by repeat (first | (with_reducible first | exact HB.out | apply zac | apply zab | apply zad) | exact HB.out)) hb); have n2_ := zaa.mk (hbox); have n3_ := zaa.mk ((by rw [hg]; exact (zap (by repeat (first | (with_reducible first | exact HBW.out | apply zac | apply zab | apply zad) | exact HBW.out))) : w.heap.size ≤ gb222)); have n4_ := zaa.mk ((Nat.le_trans HW0.out (by rw [hg]; exact (zap (by repeat (first | (with_reducible first | exact HBW.out | apply zac | apply zab | apply zad) | exact HBW.out))) : w.heap.size ≤ gb222) : w0.heap.size ≤ gb222)); clear HBW; clear HB; have HBW := n0_; have HB := n1_; have BK222 := n2_; have GW222 := n3_; have GE222 := n4_; clear n0_ n1_ n2_ n3_ n4_; clear hb hbox hg))
   go_ret
   exact ⟨_, rfl, (show zai w0 _ gb222 (l0.take 2000) 0 from ⟨_, _, by (with_reducible repeat (first | refine zbh ?_ _ | refine zbk ?_ | refine zbi ?_ _)); exact BK222.out, GE222.out, HR221.out⟩), by repeat (first | (with_reducible first | exact HB.out | apply zac | apply zab | apply zad | refine zaf ?_ GE222.out) | exact HB.out), by repeat (first | (with_reducible first | exact HBW.out | apply zac | apply zab | apply zad | refine zaf ?_ GW222.out) | exact HBW.out)⟩
  ·rw [if_neg c3] at H
   exact absurd H (by simp)
 ·rw [if_neg c2] at H
  have c2b0 : decide (2000 < (l0.length : Int)) = false := decide_eq_false c2
  have c2b1 : decide (2000 < l0.length) = false := decide_eq_false (by omega)
  clear c2
  simp only [Option.some.injEq, Prod.mk.injEq] at H
  obtain ⟨rfl, rfl⟩ := H
  go_enter Try.func31, Try.ntmps31
  go_wp2_with (first | ((with_reducible refine zbe (N := 10) rfl ?_); refine box_event ?hg (N := 10) ?hd (cs := #[.slice A0 l0.length c0, .int .i64 0]) (t := 69) ?hr ?_; (case hd => rfl); (case hg => rfl); (case hr => first | (go_simp; done) | (go_simp; rfl)); intro gb223 hg w6 hbox hb; have n0_ := zaa.mk (zae HBW.out hb); have n1_ := zaa.mk (zae (by repeat (first | (with_reducible first | exact HB.out | apply zac | apply zab | apply zad) | exact HB.out)) hb); have n2_ := zaa.mk (hbox); have n3_ := zaa.mk ((by rw [hg]; exact (zap (by repeat (first | (with_reducible first | exact HBW.out | apply zac | apply zab | apply zad) | exact HBW.out))) : w.heap.size ≤ gb223)); have n4_ := zaa.mk ((Nat.le_trans HW0.out (by rw [hg]; exact (zap (by repeat (first | (with_reducible first | exact HBW.out | apply zac | apply zab | apply zad) | exact HBW.out))) : w.heap.size ≤ gb223) : w0.heap.size ≤ gb223)); clear HBW; clear HB; have HBW := n0_; have HB := n1_; have BK223 := n2_; have GW223 := n3_; have GE223 := n4_; clear n0_ n1_ n2_ n3_ n4_; clear hb hbox hg))
  go_ret
  exact ⟨_, rfl, (show zai w0 _ gb223 l0 0 from ⟨_, _, by (with_reducible repeat (first | refine zbh ?_ _ | refine zbk ?_ | refine zbi ?_ _)); exact BK223.out, GE223.out, HR0.out⟩), by repeat (first | (with_reducible first | exact HB.out | apply zac | apply zab | apply zad | refine zaf ?_ GE223.out) | exact HB.out), by repeat (first | (with_reducible first | exact HBW.out | apply zac | apply zab | apply zad | refine zaf ?_ GW223.out) | exact HBW.out)⟩
end Go.Proofs.Ytgiidlebnjbgeaa.PB
namespace Go.Proofs.Ytgiidlebnjbgeaa.PB
open Go.RowKit Go.PW.PrintWords Go.PW.PrintLast Go.PW.PrintMore
attribute [local go_sem] zcc zca zcr zcq zbu zbt zcb zbz   -- for this text's walks alone
def spec_l6Rd_pick.j0 : Nat → Int → Bool → List Int → Int → Option (Int × Int)
 | 0, _, _, _, _ => none
 | k + 1, x1, x24, x1000, x1001 => if x24 = true then (some (0, x1001)) else (if (wrap64 (x1001 - 1)) < (x1000.length : Int) then (if 0 ≤ (wrap64 (x1001 - 1)) then (if x1 = 0 then (none) else (some (Int.tmod (wrap64 (rd x1000 (wrap64 (x1001 - 1)))) x1, x1001))) else (none)) else (if (x1000.length : Int) = 0 then (none) else (if 0 ≤ (Int.tmod (wrap64 (x1001 - 1)) (x1000.length : Int)) then (if (Int.tmod (wrap64 (x1001 - 1)) (x1000.length : Int)) < (x1000.length : Int) then (if 0 ≤ (Int.tmod (wrap64 ((wrap64 ((wrap64 (x1001 - 1)) * 7)) + 3)) (x1000.length : Int)) then (if (Int.tmod (wrap64 ((wrap64 ((wrap64 (x1001 - 1)) * 7)) + 3)) (x1000.length : Int)) < (x1000.length : Int) then (if x1 = 0 then (none) else (some (Int.tmod (Go.bits .xor .i64 (wrap64 ((wrap64 ((wrap64 ((wrap64 ((wrap64 (rd x1000 (Int.tmod (wrap64 (x1001 - 1)) (x1000.length : Int)))) * 131)) + (wrap64 ((wrap64 (rd x1000 (Int.tmod (wrap64 ((wrap64 ((wrap64 (x1001 - 1)) * 7)) + 3)) (x1000.length : Int)))) * 1117)))) + (wrap64 ((wrap64 (x1001 - 1)) * 29)))) + (wrap64 ((wrap64 (Int.tdiv (wrap64 (x1001 - 1)) (x1000.length : Int))) * 53)))) (wrap64 (Int.tdiv (wrap64 ((wrap64 ((wrap64 ((wrap64 ((wrap64 (rd x1000 (Int.tmod (wrap64 (x1001 - 1)) (x1000.length : Int)))) * 131)) + (wrap64 ((wrap64 (rd x1000 (Int.tmod (wrap64 ((wrap64 ((wrap64 (x1001 - 1)) * 7)) + 3)) (x1000.length : Int)))) * 1117)))) + (wrap64 ((wrap64 (x1001 - 1)) * 29)))) + (wrap64 ((wrap64 (Int.tdiv (wrap64 (x1001 - 1)) (x1000.length : Int))) * 53)))) 64))) x1, x1001))) else (none)) else (none)) else (none)) else (none))))
def spec_l6Rd_pick.f (k : Nat) (s0_0 : List Int) (s0_1 : Int) (a1 : Int) : Option (Int × Int) := if a1 < 1 then (spec_l6Rd_pick.j0 k a1 true s0_0 (wrap64 (s0_1 + 1))) else (spec_l6Rd_pick.j0 k a1 ((s0_0.length : Int) == 0) s0_0 (wrap64 (s0_1 + 1)))
set_option maxHeartbeats 8000000 in
set_option maxRecDepth 100000 in
theorem spec_l6Rd_pick.calls (k : Nat) (g : Nat) (s0_0 : List Int) (s0_1 : Int) (a1 : Int) (r1 : Int) (r2 : Int) (w0 w : World) (hI : zai w0 w g s0_0 s0_1) (hB : Below w0.heap.size w0 w) (h : spec_l6Rd_pick.f k s0_0 s0_1 a1 = some (r1, r2)) :
  Calls Try.prog 33 #[.pointer (some ⟨g, 0, none⟩), .int .i64 a1] w fun e w' => e = .returned (.int .i64 r1) ∧ zai w0 w' g s0_0 r2 ∧ Below w0.heap.size w0 w' ∧ zal w w' g none := by
 have HI0 := zaa.mk hI
 have HK := zaa.mk (zal.refl w g none)
 have HL := zaa.mk hB.size
 clear hI
 have HW0 := zaa.mk hB.size
 have HB := zaa.mk hB
 clear hB
 have H : (if a1 < 1 then (spec_l6Rd_pick.j0 k a1 true s0_0 (wrap64 (s0_1 + 1))) else (spec_l6Rd_pick.j0 k a1 ((s0_0.length : Int) == 0) s0_0 (wrap64 (s0_1 + 1)))) = some (r1, r2) := h
 clear h
 have HC3 := zaa.mk H
 clear H
 obtain ⟨ASz4_0, cSz4_0, HGz4, hgz4, HSz4_0⟩ := HI0.out
 have hcz4_0 := cellS69_0 HGz4
 have hcz4_1 := cellS69_1 HGz4
 have hfz4_1 := zaj HGz4 1
 clear HGz4 hgz4
 go_enter Try.func33, Try.ntmps33
 go_upto_region 2 with (fail)
 repeat (go_quiet (fail); go_upto_region 2 with (fail))
 go_cut [24] (fun v24 wc => ∃ (kq : Nat) (x24_2 : Bool), v24 = .bool x24_2 ∧ zaa (spec_l6Rd_pick.j0 kq a1 x24_2 s0_0 (wrap64 (s0_1 + 1)) = some (r1, r2)) ∧ zaa (kq ≤ k) ∧ zaa (zai w0 wc g s0_0 (wrap64 (s0_1 + 1))) ∧ zaa (zal w wc g none) ∧ zaa (Below w0.heap.size w0 wc))
 case first =>
  have H := HC3.out
  clear HC3
  by_cases c5 : a1 < 1
  ·rw [if_pos c5] at H
   have c5b0 : decide (a1 < 1) = true := decide_eq_true c5
   clear c5
   (first | rw [c5b0] | (simp only [zaq, zar]; rw [c5b0]) | skip)
   have H' := zaa.mk H
   clear H
   go_wp2
   repeat (go_quiet (fail); try go_wp2)
   go_meet
   case rel => exact ⟨_, (true), (by first | rfl | (simp; done) | (simp [*]; done)), H', ⟨by first | omega | exact Nat.le_refl _⟩, ⟨by repeat (first | (with_reducible first | exact HI0.out | apply zai.alloc | apply zai.drewN | apply zai.drew | apply zai.set_1) | exact HI0.out)⟩, ⟨by repeat (first | (with_reducible first | exact HK.out | apply zal.set_ | apply zas | apply zav | apply zat) | exact HK.out)⟩, ⟨by repeat (first | (with_reducible first | exact HB.out | apply zac | apply zab | apply zad | refine zaf ?_ (zai.ge HI0.out)) | exact HB.out)⟩⟩
  ·rw [if_neg c5] at H
   have c5b0 : decide (a1 < 1) = false := decide_eq_false c5
   clear c5
   (first | rw [c5b0] | (simp only [zaq, zar]; rw [c5b0]) | skip)
   have H' := zaa.mk H
   clear H
   obtain ⟨ASz6_0, cSz6_0, HGz6, hgz6, HSz6_0⟩ := HI0.out
   have hcz6_0 := cellS69_0 HGz6
   have hcz6_1 := cellS69_1 HGz6
   have hfz6_1 := zaj HGz6 1
   clear HGz6 hgz6
   go_wp2
   repeat (go_quiet (fail); try go_wp2)
   go_meet
   case rel => exact ⟨_, (((s0_0.length : Int) == 0)), (by first | rfl | (simp; done) | (simp [*]; done)), H', ⟨by first | omega | exact Nat.le_refl _⟩, ⟨by repeat (first | (with_reducible first | exact HI0.out | apply zai.alloc | apply zai.drewN | apply zai.drew | apply zai.set_1) | exact HI0.out)⟩, ⟨by repeat (first | (with_reducible first | exact HK.out | apply zal.set_ | apply zas | apply zav | apply zat) | exact HK.out)⟩, ⟨by repeat (first | (with_reducible first | exact HB.out | apply zac | apply zab | apply zad | refine zaf ?_ (zai.ge HI0.out)) | exact HB.out)⟩⟩
 case rest =>
  clear HC3
  try clear p2
  try clear c3
  try clear c5
  try clear c5b0
  try clear p6
  try clear hcz4_0
  try clear hcz4_1
  try clear hcz6_0
  try clear hcz6_1
  try clear hfz4_1
  try clear hfz6_1
  obtain ⟨kq, x24_2, rfl, HA, HJ2, HI0, HK, HB⟩ := hcut
  cases kq with
  | zero => exact absurd HA.out (by simp [spec_l6Rd_pick.j0])
  | succ kj2 =>
   have H := HA.out
   clear HA
   simp only [spec_l6Rd_pick.j0] at H
   by_cases c7 : x24_2 = true
   ·subst c7
    have H1 : (some (0, (wrap64 (s0_1 + 1)))) = some (r1, r2) := by rw [if_pos rfl] at H; exact H
    clear H
    have H := H1
    clear H1
    simp only [Option.some.injEq, Prod.mk.injEq] at H
    obtain ⟨rfl, rfl⟩ := H
    go_wp2
    repeat (go_quiet (fail); try go_wp2)
    go_ret
    exact ⟨by first | rfl | (simp [zan, zam] <;> rfl) | (simp [*, zan, zam] <;> rfl), by repeat (first | (with_reducible first | exact HI0.out | apply zai.alloc | apply zai.drewN | apply zai.drew | apply zai.set_1) | exact HI0.out), by repeat (first | (with_reducible first | exact HB.out | apply zac | apply zab | apply zad | refine zaf ?_ (zai.ge HI0.out)) | exact HB.out), by repeat (first | (with_reducible first | exact HK.out | apply zal.set_ | apply zas | apply zav | apply zat) | exact HK.out)⟩
   ·replace c7 := Bool.eq_false_iff.mpr c7
    subst c7
    have H1 : (if (wrap64 ((wrap64 (s0_1 + 1)) - 1)) < (s0_0.length : Int) then (if 0 ≤ (wrap64 ((wrap64 (s0_1 + 1)) - 1)) then (if a1 = 0 then (none) else (some (Int.tmod (wrap64 (rd s0_0 (wrap64 ((wrap64 (s0_1 + 1)) - 1)))) a1, (wrap64 (s0_1 + 1))))) else (none)) else (if (s0_0.length : Int) = 0 then (none) else (if 0 ≤ (Int.tmod (wrap64 ((wrap64 (s0_1 + 1)) - 1)) (s0_0.length : Int)) then (if (Int.tmod (wrap64 ((wrap64 (s0_1 + 1)) - 1)) (s0_0.length : Int)) < (s0_0.length : Int) then (if 0 ≤ (Int.tmod (wrap64 ((wrap64 ((wrap64 ((wrap64 (s0_1 + 1)) - 1)) * 7)) + 3)) (s0_0.length : Int)) then (if (Int.tmod (wrap64 ((wrap64 ((wrap64 ((wrap64 (s0_1 + 1)) - 1)) * 7)) + 3)) (s0_0.length : Int)) < (s0_0.length : Int) then (if a1 = 0 then (none) else (some (Int.tmod (Go.bits .xor .i64 (wrap64 ((wrap64 ((wrap64 ((wrap64 ((wrap64 (rd s0_0 (Int.tmod (wrap64 ((wrap64 (s0_1 + 1)) - 1)) (s0_0.length : Int)))) * 131)) + (wrap64 ((wrap64 (rd s0_0 (Int.tmod (wrap64 ((wrap64 ((wrap64 ((wrap64 (s0_1 + 1)) - 1)) * 7)) + 3)) (s0_0.length : Int)))) * 1117)))) + (wrap64 ((wrap64 ((wrap64 (s0_1 + 1)) - 1)) * 29)))) + (wrap64 ((wrap64 (Int.tdiv (wrap64 ((wrap64 (s0_1 + 1)) - 1)) (s0_0.length : Int))) * 53)))) (wrap64 (Int.tdiv (wrap64 ((wrap64 ((wrap64 ((wrap64 ((wrap64 (rd s0_0 (Int.tmod (wrap64 ((wrap64 (s0_1 + 1)) - 1)) (s0_0.length : Int)))) * 131)) + (wrap64 ((wrap64 (rd s0_0 (Int.tmod (wrap64 ((wrap64 ((wrap64 ((wrap64 (s0_1 + 1)) - 1)) * 7)) + 3)) (s0_0.length : Int)))) * 1117)))) + (wrap64 ((wrap64 ((wrap64 (s0_1 + 1)) - 1)) * 29)))) + (wrap64 ((wrap64 (Int.tdiv (wrap64 ((wrap64 (s0_1 + 1)) - 1)) (s0_0.length : Int))) * 53)))) 64))) a1, (wrap64 (s0_1 + 1))))) else (none)) else (none)) else (none)) else (none)))) = some (r1, r2) := by rw [if_neg (show ¬ (false = true) by decide)] at H; exact H
    clear H
    have H := H1
    clear H1
    by_cases c8 : (wrap64 ((wrap64 (s0_1 + 1)) - 1)) < (s0_0.length : Int)
    ·rw [if_pos c8] at H
     have c8b0 : decide ((wrap64 ((wrap64 (s0_1 + 1)) - 1)) < (s0_0.length : Int)) = true := decide_eq_true c8
     clear c8
     obtain ⟨ji9, hji9⟩ : ∃ j_ : Int, (wrap64 ((wrap64 (s0_1 + 1)) - 1)) = j_ := ⟨_, rfl⟩
     replace H : (if 0 ≤ (ji9) then (if a1 = 0 then (none) else (some (Int.tmod (wrap64 (rd s0_0 (ji9))) a1, (wrap64 (s0_1 + 1))))) else (none)) = some (r1, r2) := by first | (rw [hji9] at H; exact H) | (simp only [hji9] at H ⊢; exact H)
     (try rw [hji9] at c8b0)
     have hji9w : (IntKind.i64.wrap ((wrap64 (s0_1 + 1)) - 1)) = ji9 := (zaq _).trans hji9
     by_cases c10 : 0 ≤ (ji9)
     ·rw [if_pos c10] at H
      have c10b0 : decide (0 ≤ (ji9)) = true := decide_eq_true c10
      clear c10
      by_cases c11 : a1 = 0
      ·rw [if_pos c11] at H
       exact absurd H (by simp)
      ·rw [if_neg c11] at H
       have c11b0 : (a1 == 0) = false := beq_eq_false_iff_ne.mpr c11
       have c11b1 : (a1 != 0) = true := bne_iff_ne.mpr c11
       simp only [Option.some.injEq, Prod.mk.injEq] at H
       obtain ⟨rfl, rfl⟩ := H
       obtain ⟨ASz12_0, cSz12_0, HGz12, hgz12, HSz12_0⟩ := HI0.out
       have hcz12_0 := cellS69_0 HGz12
       have hcz12_1 := cellS69_1 HGz12
       have hfz12_1 := zaj HGz12 1
       clear HGz12 hgz12
       have p224 : 0 ≤ ((ji9) : Int) := of_decide_eq_true (by first | (with_reducible assumption) | assumption)
       have q224 : (ji9) < (s0_0.length : Int) := of_decide_eq_true (by first | (with_reducible assumption) | assumption)
       obtain ⟨ad224, e224, hx224_0⟩ := Kd.at_int HSz12_0 (ji9) p224 q224
       cases e224
       replace hx224_0 := zah HB.out hx224_0
       replace p224 := eq_true p224
       replace q224 := eq_true q224
       go_wp2
       repeat (go_quiet (fail); try go_wp2)
       go_ret
       exact ⟨by first | rfl | (simp [zan, zam] <;> rfl) | (simp only [← hji9]; first | rfl | (simp [zan, zam] <;> rfl)) | (simp [*, zan, zam] <;> rfl), by repeat (first | (with_reducible first | exact HI0.out | apply zai.alloc | apply zai.drewN | apply zai.drew | apply zai.set_1) | exact HI0.out), by repeat (first | (with_reducible first | exact HB.out | apply zac | apply zab | apply zad | refine zaf ?_ (zai.ge HI0.out)) | exact HB.out), by repeat (first | (with_reducible first | exact HK.out | apply zal.set_ | apply zas | apply zav | apply zat) | exact HK.out)⟩
     ·rw [if_neg c10] at H
      exact absurd H (by simp)
    ·rw [if_neg c8] at H
     have c8b0 : decide ((wrap64 ((wrap64 (s0_1 + 1)) - 1)) < (s0_0.length : Int)) = false := decide_eq_false c8
     clear c8
     by_cases c13 : (s0_0.length : Int) = 0
     ·rw [if_pos c13] at H
      exact absurd H (by simp)
     ·rw [if_neg c13] at H
      have c13b0 : ((s0_0.length : Int) == 0) = false := beq_eq_false_iff_ne.mpr c13
      have c13b1 : ((s0_0.length : Int) != 0) = true := bne_iff_ne.mpr c13
      have c13b2 : ¬ (s0_0 = []) := fun h_ => c13 (by rw [h_]; rfl)
      obtain ⟨ji14, hji14⟩ : ∃ j_ : Int, (Int.tmod (wrap64 ((wrap64 (s0_1 + 1)) - 1)) (s0_0.length : Int)) = j_ := ⟨_, rfl⟩
      replace H : (if 0 ≤ (ji14) then (if (ji14) < (s0_0.length : Int) then (if 0 ≤ (Int.tmod (wrap64 ((wrap64 ((wrap64 ((wrap64 (s0_1 + 1)) - 1)) * 7)) + 3)) (s0_0.length : Int)) then (if (Int.tmod (wrap64 ((wrap64 ((wrap64 ((wrap64 (s0_1 + 1)) - 1)) * 7)) + 3)) (s0_0.length : Int)) < (s0_0.length : Int) then (if a1 = 0 then (none) else (some (Int.tmod (Go.bits .xor .i64 (wrap64 ((wrap64 ((wrap64 ((wrap64 ((wrap64 (rd s0_0 (ji14))) * 131)) + (wrap64 ((wrap64 (rd s0_0 (Int.tmod (wrap64 ((wrap64 ((wrap64 ((wrap64 (s0_1 + 1)) - 1)) * 7)) + 3)) (s0_0.length : Int)))) * 1117)))) + (wrap64 ((wrap64 ((wrap64 (s0_1 + 1)) - 1)) * 29)))) + (wrap64 ((wrap64 (Int.tdiv (wrap64 ((wrap64 (s0_1 + 1)) - 1)) (s0_0.length : Int))) * 53)))) (wrap64 (Int.tdiv (wrap64 ((wrap64 ((wrap64 ((wrap64 ((wrap64 (rd s0_0 (ji14))) * 131)) + (wrap64 ((wrap64 (rd s0_0 (Int.tmod (wrap64 ((wrap64 ((wrap64 ((wrap64 (s0_1 + 1)) - 1)) * 7)) + 3)) (s0_0.length : Int)))) * 1117)))) + (wrap64 ((wrap64 ((wrap64 (s0_1 + 1)) - 1)) * 29)))) + (wrap64 ((wrap64 (Int.tdiv (wrap64 ((wrap64 (s0_1 + 1)) - 1)) (s0_0.length : Int))) * 53)))) 64))) a1, (wrap64 (s0_1 + 1))))) else (none)) else (none)) else (none)) else (none)) = some (r1, r2) := by first | (rw [hji14] at H; exact H) | (simp only [hji14] at H ⊢; exact H)
      by_cases c15 : 0 ≤ (ji14)
      ·rw [if_pos c15] at H
       have c15b0 : decide (0 ≤ (ji14)) = true := decide_eq_true c15
       clear c15
       by_cases c16 : (ji14) < (s0_0.length : Int)
       ·rw [if_pos c16] at H
        have c16b0 : decide ((ji14) < (s0_0.length : Int)) = true := decide_eq_true c16
        clear c16
        obtain ⟨ji17, hji17⟩ : ∃ j_ : Int, (Int.tmod (wrap64 ((wrap64 ((wrap64 ((wrap64 (s0_1 + 1)) - 1)) * 7)) + 3)) (s0_0.length : Int)) = j_ := ⟨_, rfl⟩
        replace H : (if 0 ≤ (ji17) then (if (ji17) < (s0_0.length : Int) then (if a1 = 0 then (none) else (some (Int.tmod (Go.bits .xor .i64 (wrap64 ((wrap64 ((wrap64 ((wrap64 ((wrap64 (rd s0_0 (ji14))) * 131)) + (wrap64 ((wrap64 (rd s0_0 (ji17))) * 1117)))) + (wrap64 ((wrap64 ((wrap64 (s0_1 + 1)) - 1)) * 29)))) + (wrap64 ((wrap64 (Int.tdiv (wrap64 ((wrap64 (s0_1 + 1)) - 1)) (s0_0.length : Int))) * 53)))) (wrap64 (Int.tdiv (wrap64 ((wrap64 ((wrap64 ((wrap64 ((wrap64 (rd s0_0 (ji14))) * 131)) + (wrap64 ((wrap64 (rd s0_0 (ji17))) * 1117)))) + (wrap64 ((wrap64 ((wrap64 (s0_1 + 1)) - 1)) * 29)))) + (wrap64 ((wrap64 (Int.tdiv (wrap64 ((wrap64 (s0_1 + 1)) - 1)) (s0_0.length : Int))) * 53)))) 64))) a1, (wrap64 (s0_1 + 1))))) else (none)) else (none)) = some (r1, r2) := by first | (rw [hji17] at H; exact H) | (simp only [hji17] at H ⊢; exact H)
        by_cases c18 : 0 ≤ (ji17)
        ·rw [if_pos c18] at H
         have c18b0 : decide (0 ≤ (ji17)) = true := decide_eq_true c18
         clear c18
         by_cases c19 : (ji17) < (s0_0.length : Int)
         ·rw [if_pos c19] at H
          have c19b0 : decide ((ji17) < (s0_0.length : Int)) = true := decide_eq_true c19
          clear c19
          by_cases c20 : a1 = 0
          ·rw [if_pos c20] at H
           exact absurd H (by simp)
          ·rw [if_neg c20] at H
           have c20b0 : (a1 == 0) = false := beq_eq_false_iff_ne.mpr c20
           have c20b1 : (a1 != 0) = true := bne_iff_ne.mpr c20
           simp only [Option.some.injEq, Prod.mk.injEq] at H
           obtain ⟨rfl, rfl⟩ := H
           obtain ⟨ASz21_0, cSz21_0, HGz21, hgz21, HSz21_0⟩ := HI0.out
           have hcz21_0 := cellS69_0 HGz21
           have hcz21_1 := cellS69_1 HGz21
           have hfz21_1 := zaj HGz21 1
           clear HGz21 hgz21
           have p225 : 0 ≤ ((ji14) : Int) := of_decide_eq_true (by first | (with_reducible assumption) | assumption)
           have q225 : (ji14) < (s0_0.length : Int) := of_decide_eq_true (by first | (with_reducible assumption) | assumption)
           obtain ⟨ad225, e225, hx225_0⟩ := Kd.at_int HSz21_0 (ji14) p225 q225
           cases e225
           replace hx225_0 := zah HB.out hx225_0
           replace p225 := eq_true p225
           replace q225 := eq_true q225
           have p226 : 0 ≤ ((ji17) : Int) := of_decide_eq_true (by first | (with_reducible assumption) | assumption)
           have q226 : (ji17) < (s0_0.length : Int) := of_decide_eq_true (by first | (with_reducible assumption) | assumption)
           obtain ⟨ad226, e226, hx226_0⟩ := Kd.at_int HSz21_0 (ji17) p226 q226
           obtain rfl : ad225 = ad226 := (by injection e226)
           replace hx226_0 := zah HB.out hx226_0
           replace p226 := eq_true p226
           replace q226 := eq_true q226
           go_wp2
           repeat (go_quiet (fail); try go_wp2)
           go_ret
           exact ⟨by first | rfl | (simp [zan, zam] <;> rfl) | (simp only [← hji14, ← hji17]; first | rfl | (simp [zan, zam] <;> rfl)) | (simp [*, zan, zam] <;> rfl), by repeat (first | (with_reducible first | exact HI0.out | apply zai.alloc | apply zai.drewN | apply zai.drew | apply zai.set_1) | exact HI0.out), by repeat (first | (with_reducible first | exact HB.out | apply zac | apply zab | apply zad | refine zaf ?_ (zai.ge HI0.out)) | exact HB.out), by repeat (first | (with_reducible first | exact HK.out | apply zal.set_ | apply zas | apply zav | apply zat) | exact HK.out)⟩
         ·rw [if_neg c19] at H
          exact absurd H (by simp)
        ·rw [if_neg c18] at H
         exact absurd H (by simp)
       ·rw [if_neg c16] at H
        exact absurd H (by simp)
      ·rw [if_neg c15] at H
       exact absurd H (by simp)
def spec_l6Rd_of.f (k : Nat) (s0_0 : List Int) (s0_1 : Int) (l1 : List ByteArray) : Option (ByteArray × Int) := (spec_l6Rd_pick.f k s0_0 s0_1 (l1.length : Int)).bind fun bt227 => (if 0 ≤ bt227.1 then (if bt227.1 < (l1.length : Int) then (some (rdOf ByteArray.empty l1 bt227.1, bt227.2)) else (none)) else (none))
set_option maxHeartbeats 8000000 in
set_option maxRecDepth 100000 in
theorem spec_l6Rd_of.calls (k : Nat) (g : Nat) (s0_0 : List Int) (s0_1 : Int) (A1 : Option Addr) (c1 : Nat) (l1 : List ByteArray) (r1 : ByteArray) (r2 : Int) (w0 w : World) (hI : zai w0 w g s0_0 s0_1) (hB : Below w0.heap.size w0 w) (hr1 : Kd.C Kd.string w A1 l1.length l1) (hc1 : l1.length ≤ c1) (hf1 : ∀ ad, A1 = some ad → 0 < l1.length → ad.block ≠ g) (h : spec_l6Rd_of.f k s0_0 s0_1 l1 = some (r1, r2)) :
  Calls Try.prog 45 #[.pointer (some ⟨g, 0, none⟩), .slice A1 l1.length c1] w fun e w' => e = .returned (.string r1) ∧ zai w0 w' g s0_0 r2 ∧ Below w0.heap.size w0 w' ∧ zal w w' g none := by
 have HR1 := zaa.mk hr1
 have HC1 := zaa.mk hc1
 clear hr1 hc1
 have HI0 := zaa.mk hI
 have HK := zaa.mk (zal.refl w g none)
 have HL := zaa.mk hB.size
 clear hI
 have HW0 := zaa.mk hB.size
 have HB := zaa.mk hB
 clear hB
 have H : ((spec_l6Rd_pick.f k s0_0 s0_1 (l1.length : Int)).bind fun bt227 => (if 0 ≤ bt227.1 then (if bt227.1 < (l1.length : Int) then (some (rdOf ByteArray.empty l1 bt227.1, bt227.2)) else (none)) else (none))) = some (r1, r2) := h
 clear h
 replace H := Option.bind_eq_some_iff.mp H
 obtain ⟨⟨t227, t228⟩, A30, H⟩ := H
 replace H : (if 0 ≤ t227 then (if t227 < (l1.length : Int) then (some (rdOf ByteArray.empty l1 t227, t228)) else (none)) else (none)) = some (r1, r2) := H
 have A3 := zaa.mk A30
 clear A30
 by_cases c4 : 0 ≤ t227
 ·rw [if_pos c4] at H
  have c4b0 : decide (0 ≤ t227) = true := decide_eq_true c4
  clear c4
  by_cases c5 : t227 < (l1.length : Int)
  ·rw [if_pos c5] at H
   have c5b0 : decide (t227 < (l1.length : Int)) = true := decide_eq_true c5
   clear c5
   simp only [Option.some.injEq, Prod.mk.injEq] at H
   obtain ⟨rfl, rfl⟩ := H
   go_enter Try.func45, Try.ntmps45
   go_wp2_with (first | ((with_reducible refine zak (f := 33) rfl ?_); refine zbb (some 9) rfl rfl Try.func33 (by kernel_rfl) rfl #[.pointer (some ⟨g, 0, none⟩), .int .i64 (l1.length : Int)] rfl (by (try simp only [List.map_toArray, List.map_cons, List.map_nil]); first | done | rfl | (simp only [List.length_drop, List.length_take]; rfl)) ?_; (with_reducible refine (spec_l6Rd_pick.calls k g s0_0 s0_1 (l1.length : Int) t227 t228 w0 _ ?side1 ?side2 A3.out).mono ?_); (case side1 => repeat (first | (with_reducible first | exact HI0.out | apply zai.alloc | apply zai.drewN | apply zai.drew | apply zai.set_1) | exact HI0.out)); (case side2 => repeat (first | (with_reducible first | exact HB.out | apply zac | apply zab | apply zad | refine zaf ?_ (zai.ge HI0.out)) | exact HB.out)); rintro e w6 ⟨rfl, hi, hb, hk⟩; refine ⟨_, rfl, ?_⟩; have n0_ := zaa.mk (zal.trans (by repeat (first | (with_reducible first | exact HK.out | apply zal.set_ | apply zas | apply zav | apply zat) | exact HK.out)) hk (.inl rfl)); have n1_ := zaa.mk (hb); have n2_ := zaa.mk (hi); clear HK; clear HB; clear HI0; have HK := n0_; have HB := n1_; have HI0 := n2_; clear n0_ n1_ n2_; (try clear hb); (try clear hb2); (try clear hk); (try clear hi); have p229 : 0 ≤ (t227 : Int) := of_decide_eq_true (by first | (with_reducible assumption) | assumption); have q229 : t227 < (l1.length : Int) := of_decide_eq_true (by first | (with_reducible assumption) | assumption); obtain ⟨ad229, e229, hx229_0⟩ := Kd.at_string HR1.out t227 p229 q229; cases e229; first | (replace hx229_0 := zah HB.out hx229_0) | (replace hx229_0 := keep_cell HK.out hx229_0 (by first | (rw [add_block]; exact hf1 _ rfl (by omega)) | exact hf1 _ rfl (by omega) | exact hf1 ad229 rfl (by omega))); replace p229 := eq_true p229; replace q229 := eq_true q229))
   go_ret
   exact ⟨by first | rfl | (simp [zan, zam] <;> rfl) | (simp [*, zan, zam] <;> rfl), by repeat (first | (with_reducible first | exact HI0.out | apply zai.alloc | apply zai.drewN | apply zai.drew | apply zai.set_1) | exact HI0.out), by repeat (first | (with_reducible first | exact HB.out | apply zac | apply zab | apply zad | refine zaf ?_ (zai.ge HI0.out)) | exact HB.out), by repeat (first | (with_reducible first | exact HK.out | apply zal.set_ | apply zas | apply zav | apply zat) | exact HK.out)⟩
  ·rw [if_neg c5] at H
   exact absurd H (by simp)
 ·rw [if_neg c4] at H
  exact absurd H (by simp)
end Go.Proofs.Ytgiidlebnjbgeaa.PB
namespace Go.Proofs.Ytgiidlebnjbgeaa.PB
open Go.RowKit Go.PW.PrintWords Go.PW.PrintLast Go.PW.PrintMore
attribute [local go_sem] zcc zca zcr zcq zbu zbt zcb zbz   -- for this text's walks alone
mutual
def spec_l92Term.j0 : Nat → ByteArray → List Int → Int → Option (ByteArray × Int)
 | 0, _, _, _ => none
 | k + 1, x5, x1000, x1001 => (spec_l6Rd_pick.f k x1000 x1001 6).bind fun bt241 => (if bt241.1 = 0 then ((spec_l6Rd_of.f k x1000 bt241.2 (([(⟨#[62]⟩ : ByteArray), (⟨#[94]⟩ : ByteArray), (⟨#[62, 62]⟩ : ByteArray), (⟨#[94, 62]⟩ : ByteArray)] : List ByteArray))).bind fun bt246 => (if bt246.1.size + x5.size ≤ 9223372036854775807 then (some (bt246.1 ++ x5, bt246.2)) else (none))) else (some (x5, bt241.2)))
def spec_l92Term.f : Nat → List Int → Int → Int → Option (ByteArray × Int)
 | 0, _, _, _ => none
 | k + 1, s0_0, s0_1, a1 => if a1 > 1 then ((spec_l6Rd_pick.f k s0_0 s0_1 (wrap64 (a1 - 1))).bind fun bt230 => ((spec_l92Term.f k s0_0 bt230.2 (wrap64 (1 + bt230.1))).bind fun bt232 => (if 1 + bt232.1.size ≤ 9223372036854775807 then ((spec_l6Rd_of.f k s0_0 bt232.2 (([(⟨#[124]⟩ : ByteArray), (⟨#[45]⟩ : ByteArray)] : List ByteArray))).bind fun bt237 => (if ((⟨#[40]⟩ : ByteArray) ++ bt232.1).size + bt237.1.size ≤ 9223372036854775807 then ((spec_l92Term.f k s0_0 bt237.2 (wrap64 (a1 - (wrap64 (1 + bt230.1))))).bind fun bt239 => (if (((⟨#[40]⟩ : ByteArray) ++ bt232.1) ++ bt237.1).size + bt239.1.size ≤ 9223372036854775807 then (if ((((⟨#[40]⟩ : ByteArray) ++ bt232.1) ++ bt237.1) ++ bt239.1).size + 1 ≤ 9223372036854775807 then (spec_l92Term.j0 k (((((⟨#[40]⟩ : ByteArray) ++ bt232.1) ++ bt237.1) ++ bt239.1) ++ (⟨#[41]⟩ : ByteArray)) s0_0 bt239.2) else (none)) else (none))) else (none))) else (none)))) else (spec_l92Term.j0 k (⟨#[111]⟩ : ByteArray) s0_0 s0_1)
end
set_option maxHeartbeats 8000000 in
set_option maxRecDepth 100000 in
theorem spec_l92Term.calls (k : Nat) : ∀ (g : Nat) (s0_0 : List Int) (s0_1 : Int) (a1 : Int) (r1 : ByteArray) (r2 : Int) (w0 w : World) (hI : zai w0 w g s0_0 s0_1) (hB : Below w0.heap.size w0 w) (h : spec_l92Term.f k s0_0 s0_1 a1 = some (r1, r2)),
  Calls Try.prog 44 #[.pointer (some ⟨g, 0, none⟩), .int .i64 a1] w fun e w' => e = .returned (.string r1) ∧ zai w0 w' g s0_0 r2 ∧ Below w0.heap.size w0 w' ∧ zal w w' g none := by
 induction k using Nat.strongRecOn with
 | _ k ih =>
 intro g s0_0 s0_1 a1 r1 r2 w0 w hI hB h
 cases k with
 | zero => exact absurd h (by simp [spec_l92Term.f])
 | succ k =>
 simp only [spec_l92Term.f] at h
 have HI0 := zaa.mk hI
 have HK := zaa.mk (zal.refl w g none)
 have HL := zaa.mk hB.size
 clear hI
 have HW0 := zaa.mk hB.size
 have HB := zaa.mk hB
 clear hB
 have H : (if a1 > 1 then ((spec_l6Rd_pick.f k s0_0 s0_1 (wrap64 (a1 - 1))).bind fun bt230 => ((spec_l92Term.f k s0_0 bt230.2 (wrap64 (1 + bt230.1))).bind fun bt232 => (if 1 + bt232.1.size ≤ 9223372036854775807 then ((spec_l6Rd_of.f k s0_0 bt232.2 (([(⟨#[124]⟩ : ByteArray), (⟨#[45]⟩ : ByteArray)] : List ByteArray))).bind fun bt237 => (if ((⟨#[40]⟩ : ByteArray) ++ bt232.1).size + bt237.1.size ≤ 9223372036854775807 then ((spec_l92Term.f k s0_0 bt237.2 (wrap64 (a1 - (wrap64 (1 + bt230.1))))).bind fun bt239 => (if (((⟨#[40]⟩ : ByteArray) ++ bt232.1) ++ bt237.1).size + bt239.1.size ≤ 9223372036854775807 then (if ((((⟨#[40]⟩ : ByteArray) ++ bt232.1) ++ bt237.1) ++ bt239.1).size + 1 ≤ 9223372036854775807 then (spec_l92Term.j0 k (((((⟨#[40]⟩ : ByteArray) ++ bt232.1) ++ bt237.1) ++ bt239.1) ++ (⟨#[41]⟩ : ByteArray)) s0_0 bt239.2) else (none)) else (none))) else (none))) else (none)))) else (spec_l92Term.j0 k (⟨#[111]⟩ : ByteArray) s0_0 s0_1)) = some (r1, r2) := h
 clear h
 have HC3 := zaa.mk H
 clear H
 go_enter Try.func44, Try.ntmps44
 go_upto_if 8 with (fail)
 go_cut [5] (fun v5 wc => ∃ (kq : Nat) (x5_2 : ByteArray) (x1001_2 : Int), v5 = .string x5_2 ∧ zaa (spec_l92Term.j0 kq x5_2 s0_0 x1001_2 = some (r1, r2)) ∧ zaa (kq ≤ k) ∧ zaa (zai w0 wc g s0_0 x1001_2) ∧ zaa (zal w wc g none) ∧ zaa (Below w0.heap.size w0 wc))
 case first =>
  have H := HC3.out
  clear HC3
  by_cases c4 : a1 > 1
  ·rw [if_pos c4] at H
   have c4b0 : decide (1 < a1) = true := decide_eq_true c4
   clear c4
   (first | rw [c4b0] | (simp only [zaq, zar]; rw [c4b0]) | skip)
   replace H := Option.bind_eq_some_iff.mp H
   obtain ⟨⟨t230, t231⟩, A50, H⟩ := H
   replace H : ((spec_l92Term.f k s0_0 t231 (wrap64 (1 + t230))).bind fun bt232 => (if 1 + bt232.1.size ≤ 9223372036854775807 then ((spec_l6Rd_of.f k s0_0 bt232.2 (([(⟨#[124]⟩ : ByteArray), (⟨#[45]⟩ : ByteArray)] : List ByteArray))).bind fun bt237 => (if ((⟨#[40]⟩ : ByteArray) ++ bt232.1).size + bt237.1.size ≤ 9223372036854775807 then ((spec_l92Term.f k s0_0 bt237.2 (wrap64 (a1 - (wrap64 (1 + t230))))).bind fun bt239 => (if (((⟨#[40]⟩ : ByteArray) ++ bt232.1) ++ bt237.1).size + bt239.1.size ≤ 9223372036854775807 then (if ((((⟨#[40]⟩ : ByteArray) ++ bt232.1) ++ bt237.1) ++ bt239.1).size + 1 ≤ 9223372036854775807 then (spec_l92Term.j0 k (((((⟨#[40]⟩ : ByteArray) ++ bt232.1) ++ bt237.1) ++ bt239.1) ++ (⟨#[41]⟩ : ByteArray)) s0_0 bt239.2) else (none)) else (none))) else (none))) else (none))) = some (r1, r2) := H
   have A5 := zaa.mk A50
   clear A50
   replace H := Option.bind_eq_some_iff.mp H
   obtain ⟨⟨t232, t233⟩, A60, H⟩ := H
   replace H : (if 1 + t232.size ≤ 9223372036854775807 then ((spec_l6Rd_of.f k s0_0 t233 (([(⟨#[124]⟩ : ByteArray), (⟨#[45]⟩ : ByteArray)] : List ByteArray))).bind fun bt237 => (if ((⟨#[40]⟩ : ByteArray) ++ t232).size + bt237.1.size ≤ 9223372036854775807 then ((spec_l92Term.f k s0_0 bt237.2 (wrap64 (a1 - (wrap64 (1 + t230))))).bind fun bt239 => (if (((⟨#[40]⟩ : ByteArray) ++ t232) ++ bt237.1).size + bt239.1.size ≤ 9223372036854775807 then (if ((((⟨#[40]⟩ : ByteArray) ++ t232) ++ bt237.1) ++ bt239.1).size + 1 ≤ 9223372036854775807 then (spec_l92Term.j0 k (((((⟨#[40]⟩ : ByteArray) ++ t232) ++ bt237.1) ++ bt239.1) ++ (⟨#[41]⟩ : ByteArray)) s0_0 bt239.2) else (none)) else (none))) else (none))) else (none)) = some (r1, r2) := H
   have A6 := zaa.mk A60
   clear A60
   by_cases c7 : 1 + t232.size ≤ 9223372036854775807
   ·rw [if_pos c7] at H
    have c7b0 := eq_true c7
    have c7b1 : decide (1 + t232.size ≤ 9223372036854775807) = true := decide_eq_true c7
    try have c7b2 : (9223372036854775807 < 1 + t232.size) = False := eq_false (Nat.not_lt.2 c7)
    try have c7b3 := c7b2
    try simp only [ByteArray.size_append, show (⟨#[40]⟩ : ByteArray).size = 1 from rfl] at c7b3
    obtain ⟨y234, hy234⟩ : ∃ y_ : List ByteArray, y_ = (([(⟨#[124]⟩ : ByteArray), (⟨#[45]⟩ : ByteArray)] : List ByteArray)) := ⟨_, rfl⟩
    replace H : ((spec_l6Rd_of.f k s0_0 t233 y234).bind fun bt237 => (if ((⟨#[40]⟩ : ByteArray) ++ t232).size + bt237.1.size ≤ 9223372036854775807 then ((spec_l92Term.f k s0_0 bt237.2 (wrap64 (a1 - (wrap64 (1 + t230))))).bind fun bt239 => (if (((⟨#[40]⟩ : ByteArray) ++ t232) ++ bt237.1).size + bt239.1.size ≤ 9223372036854775807 then (if ((((⟨#[40]⟩ : ByteArray) ++ t232) ++ bt237.1) ++ bt239.1).size + 1 ≤ 9223372036854775807 then (spec_l92Term.j0 k (((((⟨#[40]⟩ : ByteArray) ++ t232) ++ bt237.1) ++ bt239.1) ++ (⟨#[41]⟩ : ByteArray)) s0_0 bt239.2) else (none)) else (none))) else (none))) = some (r1, r2) := by first | (rw [hy234]; with_reducible exact H) | (have H2_ := (Option.bind_some _ _).symm.trans H; rw [hy234]; with_reducible exact H2_) | (have H2_ := (Option.bind_some _ _).symm.trans H; with_reducible exact H2_) | with_reducible exact H | (rw [hy234]; exact H) | exact H
    have Ny234 := zaa.mk hy234
    clear hy234
    replace H := Option.bind_eq_some_iff.mp H
    obtain ⟨⟨t237, t238⟩, A80, H⟩ := H
    replace H : (if ((⟨#[40]⟩ : ByteArray) ++ t232).size + t237.size ≤ 9223372036854775807 then ((spec_l92Term.f k s0_0 t238 (wrap64 (a1 - (wrap64 (1 + t230))))).bind fun bt239 => (if (((⟨#[40]⟩ : ByteArray) ++ t232) ++ t237).size + bt239.1.size ≤ 9223372036854775807 then (if ((((⟨#[40]⟩ : ByteArray) ++ t232) ++ t237) ++ bt239.1).size + 1 ≤ 9223372036854775807 then (spec_l92Term.j0 k (((((⟨#[40]⟩ : ByteArray) ++ t232) ++ t237) ++ bt239.1) ++ (⟨#[41]⟩ : ByteArray)) s0_0 bt239.2) else (none)) else (none))) else (none)) = some (r1, r2) := H
    have A8 := zaa.mk A80
    clear A80
    by_cases c9 : ((⟨#[40]⟩ : ByteArray) ++ t232).size + t237.size ≤ 9223372036854775807
    ·rw [if_pos c9] at H
     have c9b0 := eq_true c9
     have c9b1 : decide (((⟨#[40]⟩ : ByteArray) ++ t232).size + t237.size ≤ 9223372036854775807) = true := decide_eq_true c9
     try have c9b2 : (9223372036854775807 < ((⟨#[40]⟩ : ByteArray) ++ t232).size + t237.size) = False := eq_false (Nat.not_lt.2 c9)
     try have c9b3 := c9b2
     try simp only [ByteArray.size_append, show (⟨#[40]⟩ : ByteArray).size = 1 from rfl] at c9b3
     replace H := Option.bind_eq_some_iff.mp H
     obtain ⟨⟨t239, t240⟩, A100, H⟩ := H
     replace H : (if (((⟨#[40]⟩ : ByteArray) ++ t232) ++ t237).size + t239.size ≤ 9223372036854775807 then (if ((((⟨#[40]⟩ : ByteArray) ++ t232) ++ t237) ++ t239).size + 1 ≤ 9223372036854775807 then (spec_l92Term.j0 k (((((⟨#[40]⟩ : ByteArray) ++ t232) ++ t237) ++ t239) ++ (⟨#[41]⟩ : ByteArray)) s0_0 t240) else (none)) else (none)) = some (r1, r2) := H
     have A10 := zaa.mk A100
     clear A100
     by_cases c11 : (((⟨#[40]⟩ : ByteArray) ++ t232) ++ t237).size + t239.size ≤ 9223372036854775807
     ·rw [if_pos c11] at H
      have c11b0 := eq_true c11
      have c11b1 : decide ((((⟨#[40]⟩ : ByteArray) ++ t232) ++ t237).size + t239.size ≤ 9223372036854775807) = true := decide_eq_true c11
      try have c11b2 : (9223372036854775807 < (((⟨#[40]⟩ : ByteArray) ++ t232) ++ t237).size + t239.size) = False := eq_false (Nat.not_lt.2 c11)
      try have c11b3 := c11b2
      try simp only [ByteArray.size_append, show (⟨#[40]⟩ : ByteArray).size = 1 from rfl] at c11b3
      by_cases c12 : ((((⟨#[40]⟩ : ByteArray) ++ t232) ++ t237) ++ t239).size + 1 ≤ 9223372036854775807
      ·rw [if_pos c12] at H
       have c12b0 := eq_true c12
       have c12b1 : decide (((((⟨#[40]⟩ : ByteArray) ++ t232) ++ t237) ++ t239).size + 1 ≤ 9223372036854775807) = true := decide_eq_true c12
       try have c12b2 : (9223372036854775807 < ((((⟨#[40]⟩ : ByteArray) ++ t232) ++ t237) ++ t239).size + 1) = False := eq_false (Nat.not_lt.2 c12)
       try have c12b3 := c12b2
       try simp only [ByteArray.size_append, show (⟨#[40]⟩ : ByteArray).size = 1 from rfl] at c12b3
       have H' := zaa.mk H
       clear H
       go_wp2_with (first | ((with_reducible refine zak (f := 33) rfl ?_); refine zbb (some 12) rfl rfl Try.func33 (by kernel_rfl) rfl #[.pointer (some ⟨g, 0, none⟩), .int .i64 (wrap64 (a1 - 1))] rfl (by (try simp only [List.map_toArray, List.map_cons, List.map_nil]); first | done | rfl | (simp only [List.length_drop, List.length_take]; rfl)) ?_; (with_reducible refine (spec_l6Rd_pick.calls k g s0_0 s0_1 (wrap64 (a1 - 1)) t230 t231 w0 _ ?side1 ?side2 A5.out).mono ?_); (case side1 => repeat (first | (with_reducible first | exact HI0.out | apply zai.alloc | apply zai.drewN | apply zai.drew | apply zai.set_1) | exact HI0.out)); (case side2 => repeat (first | (with_reducible first | exact HB.out | apply zac | apply zab | apply zad | refine zaf ?_ (zai.ge HI0.out)) | exact HB.out)); rintro e w13 ⟨rfl, hi, hb, hk⟩; refine ⟨_, rfl, ?_⟩; have n0_ := zaa.mk (zal.trans (by repeat (first | (with_reducible first | exact HK.out | apply zal.set_ | apply zas | apply zav | apply zat) | exact HK.out)) hk (.inl rfl)); have n1_ := zaa.mk (hb); have n2_ := zaa.mk (hi); clear HK; clear HB; clear HI0; have HK := n0_; have HB := n1_; have HI0 := n2_; clear n0_ n1_ n2_; (try clear hb); (try clear hb2); (try clear hk); (try clear hi)) | ((with_reducible refine zak (f := 44) rfl ?_); refine zbb (some 16) rfl rfl Try.func44 (by kernel_rfl) rfl #[.pointer (some ⟨g, 0, none⟩), .int .i64 (wrap64 (1 + t230))] rfl (by (try simp only [List.map_toArray, List.map_cons, List.map_nil]); first | done | rfl | (simp only [List.length_drop, List.length_take]; rfl)) ?_; (with_reducible refine (ih k (by omega) g s0_0 t231 (wrap64 (1 + t230)) t232 t233 w0 _ ?side1 ?side2 A6.out).mono ?_); (case side1 => repeat (first | (with_reducible first | exact HI0.out | apply zai.alloc | apply zai.drewN | apply zai.drew | apply zai.set_1) | exact HI0.out)); (case side2 => repeat (first | (with_reducible first | exact HB.out | apply zac | apply zab | apply zad | refine zaf ?_ (zai.ge HI0.out)) | exact HB.out)); rintro e w14 ⟨rfl, hi, hb, hk⟩; refine ⟨_, rfl, ?_⟩; have n0_ := zaa.mk (zal.trans (by repeat (first | (with_reducible first | exact HK.out | apply zal.set_ | apply zas | apply zav | apply zat) | exact HK.out)) hk (.inl rfl)); have n1_ := zaa.mk (hb); have n2_ := zaa.mk (hi); clear HK; clear HB; clear HI0; have HK := n0_; have HB := n1_; have HI0 := n2_; clear n0_ n1_ n2_; (try clear hb); (try clear hb2); (try clear hk); (try clear hi)) | ((with_reducible refine zbe (N := 19) rfl ?_); refine Kd.R_lit Kd.string _ 9 ?hg (N := 19) ?hd (xs := ([(⟨#[124]⟩ : ByteArray), (⟨#[45]⟩ : ByteArray)] : List ByteArray)) (inner := [.string (⟨#[124]⟩ : ByteArray), .string (⟨#[45]⟩ : ByteArray)]) (ok := fun _ => True) (okp := fun _ => True) ?hr ?hp (fun _ hk => hk) trivial (Below.refl _ _) (Nat.le_refl _) (by simp) ?_; (case hd => rfl); (case hg => rfl); (case hr => first | (go_simp; done) | (go_simp; rfl)); (case hp => exact (Reps.one (show Kd.M Kd.string _ _ _ (⟨#[124]⟩ : ByteArray) [.string (⟨#[124]⟩ : ByteArray)] from rfl) (Reps.one (show Kd.M Kd.string _ _ _ (⟨#[45]⟩ : ByteArray) [.string (⟨#[45]⟩ : ByteArray)] from rfl) (Reps.none _ _)))); intro v235 w15 ho16 hb hg_ hnew_; clear hg_ hnew_; (first | rw [← Ny234.out] at ho16 | (simp only [Int.reduceToNat] at ho16; rw [← Ny234.out] at ho16)); have n0_ := zaa.mk (Kd.R_lower ho16 (keep_size (w := w) (g := g) (row := none) (by repeat (first | (with_reducible first | exact HK.out | apply zal.set_ | apply zas | apply zav | apply zat) | exact HK.out)))); have n1_ := zaa.mk (zai.below (by repeat (first | (with_reducible first | exact HI0.out | apply zai.alloc | apply zai.drewN | apply zai.drew | apply zai.set_1) | exact HI0.out)) hb); have n2_ := zaa.mk (zal.trans (by repeat (first | (with_reducible first | exact HK.out | apply zal.set_ | apply zas | apply zav | apply zat) | exact HK.out)) (zal.of_below hb g none) (.inl rfl)); have n3_ := zaa.mk (zae (by repeat (first | (with_reducible first | exact HB.out | apply zac | apply zab | apply zad | refine zaf ?_ (zai.ge HI0.out)) | exact HB.out)) hb); clear HI0; clear HK; clear HB; have HO236 := n0_; have HI0 := n1_; have HK := n2_; have HB := n3_; clear n0_ n1_ n2_ n3_; clear hb ho16; obtain ⟨Ao17, co17, eo17⟩ := Kd.R_slice HO236.out; subst eo17) | ((with_reducible refine zak (f := 45) rfl ?_); refine zbb (some 20) rfl rfl Try.func45 (by kernel_rfl) rfl #[.pointer (some ⟨g, 0, none⟩), .slice Ao17 y234.length co17] rfl (by (try simp only [List.map_toArray, List.map_cons, List.map_nil]); first | done | rfl | (simp only [List.length_drop, List.length_take]; rfl)) ?_; (with_reducible refine (spec_l6Rd_of.calls k g s0_0 t233 _ _ y234 t237 t238 w0 _ ?side1 ?side2 ?side3 ?side4 ?side5 A8.out).mono ?_); (case side1 => repeat (first | (with_reducible first | exact HI0.out | apply zai.alloc | apply zai.drewN | apply zai.drew | apply zai.set_1) | exact HI0.out)); (case side2 => repeat (first | (with_reducible first | exact HB.out | apply zac | apply zab | apply zad | refine zaf ?_ (zai.ge HI0.out)) | exact HB.out)); (case side3 => repeat (first | exact (Kd.R_reads' HO236.out).2.2 | (with_reducible refine Kd.C_alloc ?_ _) | (with_reducible refine Kd.C_drewN ?_ _) | (with_reducible refine Kd.C_drew ?_))); (case side4 => exact (Kd.R_reads' HO236.out).2.1); (case side5 => exact far_slice (zai.own_ne HI0.out HO236.out (by decide))); rintro e w18 ⟨rfl, hi, hb, hk⟩; refine ⟨_, rfl, ?_⟩; have n0_ := zaa.mk (Kd.R_mono (Kd.R_keep (zai.apart (show zai w0 _ g s0_0 t233 from by repeat (first | (with_reducible first | exact HI0.out | apply zai.alloc | apply zai.drewN | apply zai.drew | apply zai.set_1) | exact HI0.out)) (by (with_reducible repeat (first | apply Kd.R_alloc | apply Kd.R_drewN | apply Kd.R_drew)); exact HO236.out) (by decide)) hk (fun _ h => h.2)) (fun _ h => h.1)); have n1_ := zaa.mk (zal.trans (by repeat (first | (with_reducible first | exact HK.out | apply zal.set_ | apply zas | apply zav | apply zat) | exact HK.out)) hk (.inl rfl)); have n2_ := zaa.mk (hb); have n3_ := zaa.mk (hi); clear HO236; clear HK; clear HB; clear HI0; have HO236 := n0_; have HK := n1_; have HB := n2_; have HI0 := n3_; clear n0_ n1_ n2_ n3_; (try clear hb); (try clear hb2); (try clear hk); (try clear hi)) | ((with_reducible refine zak (f := 44) rfl ?_); refine zbb (some 26) rfl rfl Try.func44 (by kernel_rfl) rfl #[.pointer (some ⟨g, 0, none⟩), .int .i64 (wrap64 (a1 - (wrap64 (1 + t230))))] rfl (by (try simp only [List.map_toArray, List.map_cons, List.map_nil]); first | done | rfl | (simp only [List.length_drop, List.length_take]; rfl)) ?_; (with_reducible refine (ih k (by omega) g s0_0 t238 (wrap64 (a1 - (wrap64 (1 + t230)))) t239 t240 w0 _ ?side1 ?side2 A10.out).mono ?_); (case side1 => repeat (first | (with_reducible first | exact HI0.out | apply zai.alloc | apply zai.drewN | apply zai.drew | apply zai.set_1) | exact HI0.out)); (case side2 => repeat (first | (with_reducible first | exact HB.out | apply zac | apply zab | apply zad | refine zaf ?_ (zai.ge HI0.out)) | exact HB.out)); rintro e w19 ⟨rfl, hi, hb, hk⟩; refine ⟨_, rfl, ?_⟩; have n0_ := zaa.mk (Kd.R_mono (Kd.R_keep (zai.apart (show zai w0 _ g s0_0 t238 from by repeat (first | (with_reducible first | exact HI0.out | apply zai.alloc | apply zai.drewN | apply zai.drew | apply zai.set_1) | exact HI0.out)) (by (with_reducible repeat (first | apply Kd.R_alloc | apply Kd.R_drewN | apply Kd.R_drew)); exact HO236.out) (by decide)) hk (fun _ h => h.2)) (fun _ h => h.1)); have n1_ := zaa.mk (zal.trans (by repeat (first | (with_reducible first | exact HK.out | apply zal.set_ | apply zas | apply zav | apply zat) | exact HK.out)) hk (.inl rfl)); have n2_ := zaa.mk (hb); have n3_ := zaa.mk (hi); clear HO236; clear HK; clear HB; clear HI0; have HO236 := n0_; have HK := n1_; have HB := n2_; have HI0 := n3_; clear n0_ n1_ n2_ n3_; (try clear hb); (try clear hb2); (try clear hk); (try clear hi)))
       go_meet
       case rel => exact ⟨_, (((((⟨#[40]⟩ : ByteArray) ++ t232) ++ t237) ++ t239) ++ (⟨#[41]⟩ : ByteArray)), (t240), (by first | rfl | (simp; done) | (simp [*]; done)), H', ⟨by first | omega | exact Nat.le_refl _⟩, ⟨by repeat (first | (with_reducible first | exact HI0.out | apply zai.alloc | apply zai.drewN | apply zai.drew | apply zai.set_1) | exact HI0.out)⟩, ⟨by repeat (first | (with_reducible first | exact HK.out | apply zal.set_ | apply zas | apply zav | apply zat) | exact HK.out)⟩, ⟨by repeat (first | (with_reducible first | exact HB.out | apply zac | apply zab | apply zad | refine zaf ?_ (zai.ge HI0.out)) | exact HB.out)⟩⟩
      ·rw [if_neg c12] at H
       exact absurd H (by simp)
     ·rw [if_neg c11] at H
      exact absurd H (by simp)
    ·rw [if_neg c9] at H
     exact absurd H (by simp)
   ·rw [if_neg c7] at H
    exact absurd H (by simp)
  ·rw [if_neg c4] at H
   have c4b0 : decide (1 < a1) = false := decide_eq_false c4
   clear c4
   (first | rw [c4b0] | (simp only [zaq, zar]; rw [c4b0]) | skip)
   have H' := zaa.mk H
   clear H
   go_wp2
   go_meet
   case rel => exact ⟨_, ((⟨#[111]⟩ : ByteArray)), (s0_1), (by first | rfl | (simp; done) | (simp [*]; done)), H', ⟨by first | omega | exact Nat.le_refl _⟩, ⟨by repeat (first | (with_reducible first | exact HI0.out | apply zai.alloc | apply zai.drewN | apply zai.drew | apply zai.set_1) | exact HI0.out)⟩, ⟨by repeat (first | (with_reducible first | exact HK.out | apply zal.set_ | apply zas | apply zav | apply zat) | exact HK.out)⟩, ⟨by repeat (first | (with_reducible first | exact HB.out | apply zac | apply zab | apply zad | refine zaf ?_ (zai.ge HI0.out)) | exact HB.out)⟩⟩
 case rest =>
  clear HC3
  try clear c1
  try clear p2
  try clear c3
  try clear c4
  try clear c4b0
  try clear p6
  try clear c7
  try clear c7b0
  try clear c7b1
  try clear c7b2
  try clear c9
  try clear c9b0
  try clear c9b1
  try clear c9b2
  try clear c11
  try clear c11b0
  try clear c11b1
  try clear c11b2
  try clear c12
  try clear c12b0
  try clear c12b1
  try clear c12b2
  obtain ⟨kq, x5_2, x1001_2, rfl, HA, HJ2, HI0, HK, HB⟩ := hcut
  cases kq with
  | zero => exact absurd HA.out (by simp [spec_l92Term.j0])
  | succ kj2 =>
   have H := HA.out
   clear HA
   simp only [spec_l92Term.j0] at H
   replace H := Option.bind_eq_some_iff.mp H
   obtain ⟨⟨t241, t242⟩, A200, H⟩ := H
   replace H : (if t241 = 0 then ((spec_l6Rd_of.f kj2 s0_0 t242 (([(⟨#[62]⟩ : ByteArray), (⟨#[94]⟩ : ByteArray), (⟨#[62, 62]⟩ : ByteArray), (⟨#[94, 62]⟩ : ByteArray)] : List ByteArray))).bind fun bt246 => (if bt246.1.size + x5_2.size ≤ 9223372036854775807 then (some (bt246.1 ++ x5_2, bt246.2)) else (none))) else (some (x5_2, t242))) = some (r1, r2) := H
   have A20 := zaa.mk A200
   clear A200
   by_cases c21 : t241 = 0
   ·rw [if_pos c21] at H
    have c21b0 : (t241 == 0) = true := beq_iff_eq.mpr c21
    have c21b1 : (t241 != 0) = false := bne_eq_false_iff_eq.mpr c21
    clear c21
    obtain ⟨y243, hy243⟩ : ∃ y_ : List ByteArray, y_ = (([(⟨#[62]⟩ : ByteArray), (⟨#[94]⟩ : ByteArray), (⟨#[62, 62]⟩ : ByteArray), (⟨#[94, 62]⟩ : ByteArray)] : List ByteArray)) := ⟨_, rfl⟩
    replace H : ((spec_l6Rd_of.f kj2 s0_0 t242 y243).bind fun bt246 => (if bt246.1.size + x5_2.size ≤ 9223372036854775807 then (some (bt246.1 ++ x5_2, bt246.2)) else (none))) = some (r1, r2) := by first | (rw [hy243]; with_reducible exact H) | (have H2_ := (Option.bind_some _ _).symm.trans H; rw [hy243]; with_reducible exact H2_) | (have H2_ := (Option.bind_some _ _).symm.trans H; with_reducible exact H2_) | with_reducible exact H | (rw [hy243]; exact H) | exact H
    have Ny243 := zaa.mk hy243
    clear hy243
    replace H := Option.bind_eq_some_iff.mp H
    obtain ⟨⟨t246, t247⟩, A220, H⟩ := H
    replace H : (if t246.size + x5_2.size ≤ 9223372036854775807 then (some (t246 ++ x5_2, t247)) else (none)) = some (r1, r2) := H
    have A22 := zaa.mk A220
    clear A220
    by_cases c23 : t246.size + x5_2.size ≤ 9223372036854775807
    ·rw [if_pos c23] at H
     have c23b0 := eq_true c23
     have c23b1 : decide (t246.size + x5_2.size ≤ 9223372036854775807) = true := decide_eq_true c23
     try have c23b2 : (9223372036854775807 < t246.size + x5_2.size) = False := eq_false (Nat.not_lt.2 c23)
     try have c23b3 := c23b2
     try simp only [ByteArray.size_append, show (⟨#[40]⟩ : ByteArray).size = 1 from rfl] at c23b3
     simp only [Option.some.injEq, Prod.mk.injEq] at H
     obtain ⟨rfl, rfl⟩ := H
     go_wp2_with (first | ((with_reducible refine zak (f := 33) rfl ?_); refine zbb (some 30) rfl rfl Try.func33 (by kernel_rfl) rfl #[.pointer (some ⟨g, 0, none⟩), .int .i64 6] rfl (by (try simp only [List.map_toArray, List.map_cons, List.map_nil]); first | done | rfl | (simp only [List.length_drop, List.length_take]; rfl)) ?_; (with_reducible refine (spec_l6Rd_pick.calls kj2 g s0_0 x1001_2 6 t241 t242 w0 _ ?side1 ?side2 A20.out).mono ?_); (case side1 => repeat (first | (with_reducible first | exact HI0.out | apply zai.alloc | apply zai.drewN | apply zai.drew | apply zai.set_1) | exact HI0.out)); (case side2 => repeat (first | (with_reducible first | exact HB.out | apply zac | apply zab | apply zad | refine zaf ?_ (zai.ge HI0.out)) | exact HB.out)); rintro e w24 ⟨rfl, hi, hb, hk⟩; refine ⟨_, rfl, ?_⟩; have n0_ := zaa.mk (zal.trans (by repeat (first | (with_reducible first | exact HK.out | apply zal.set_ | apply zas | apply zav | apply zat) | exact HK.out)) hk (.inl rfl)); have n1_ := zaa.mk (hb); have n2_ := zaa.mk (hi); clear HK; clear HB; clear HI0; have HK := n0_; have HB := n1_; have HI0 := n2_; clear n0_ n1_ n2_; (try clear hb); (try clear hb2); (try clear hk); (try clear hi)) | ((with_reducible refine zbe (N := 33) rfl ?_); refine Kd.R_lit Kd.string _ 9 ?hg (N := 33) ?hd (xs := ([(⟨#[62]⟩ : ByteArray), (⟨#[94]⟩ : ByteArray), (⟨#[62, 62]⟩ : ByteArray), (⟨#[94, 62]⟩ : ByteArray)] : List ByteArray)) (inner := [.string (⟨#[62]⟩ : ByteArray), .string (⟨#[94]⟩ : ByteArray), .string (⟨#[62, 62]⟩ : ByteArray), .string (⟨#[94, 62]⟩ : ByteArray)]) (ok := fun _ => True) (okp := fun _ => True) ?hr ?hp (fun _ hk => hk) trivial (Below.refl _ _) (Nat.le_refl _) (by simp) ?_; (case hd => rfl); (case hg => rfl); (case hr => first | (go_simp; done) | (go_simp; rfl)); (case hp => exact (Reps.one (show Kd.M Kd.string _ _ _ (⟨#[62]⟩ : ByteArray) [.string (⟨#[62]⟩ : ByteArray)] from rfl) (Reps.one (show Kd.M Kd.string _ _ _ (⟨#[94]⟩ : ByteArray) [.string (⟨#[94]⟩ : ByteArray)] from rfl) (Reps.one (show Kd.M Kd.string _ _ _ (⟨#[62, 62]⟩ : ByteArray) [.string (⟨#[62, 62]⟩ : ByteArray)] from rfl) (Reps.one (show Kd.M Kd.string _ _ _ (⟨#[94, 62]⟩ : ByteArray) [.string (⟨#[94, 62]⟩ : ByteArray)] from rfl) (Reps.none _ _)))))); intro v244 w25 ho26 hb hg_ hnew_; clear hg_ hnew_; (first | rw [← Ny243.out] at ho26 | (simp only [Int.reduceToNat] at ho26; rw [← Ny243.out] at ho26)); have n0_ := zaa.mk (Kd.R_lower ho26 (keep_size (w := w) (g := g) (row := none) (by repeat (first | (with_reducible first | exact HK.out | apply zal.set_ | apply zas | apply zav | apply zat) | exact HK.out)))); have n1_ := zaa.mk (zai.below (by repeat (first | (with_reducible first | exact HI0.out | apply zai.alloc | apply zai.drewN | apply zai.drew | apply zai.set_1) | exact HI0.out)) hb); have n2_ := zaa.mk (zal.trans (by repeat (first | (with_reducible first | exact HK.out | apply zal.set_ | apply zas | apply zav | apply zat) | exact HK.out)) (zal.of_below hb g none) (.inl rfl)); have n3_ := zaa.mk (zae (by repeat (first | (with_reducible first | exact HB.out | apply zac | apply zab | apply zad | refine zaf ?_ (zai.ge HI0.out)) | exact HB.out)) hb); clear HI0; clear HK; clear HB; have HO245 := n0_; have HI0 := n1_; have HK := n2_; have HB := n3_; clear n0_ n1_ n2_ n3_; clear hb ho26; obtain ⟨Ao27, co27, eo27⟩ := Kd.R_slice HO245.out; subst eo27) | ((with_reducible refine zak (f := 45) rfl ?_); refine zbb (some 34) rfl rfl Try.func45 (by kernel_rfl) rfl #[.pointer (some ⟨g, 0, none⟩), .slice Ao27 y243.length co27] rfl (by (try simp only [List.map_toArray, List.map_cons, List.map_nil]); first | done | rfl | (simp only [List.length_drop, List.length_take]; rfl)) ?_; (with_reducible refine (spec_l6Rd_of.calls kj2 g s0_0 t242 _ _ y243 t246 t247 w0 _ ?side1 ?side2 ?side3 ?side4 ?side5 A22.out).mono ?_); (case side1 => repeat (first | (with_reducible first | exact HI0.out | apply zai.alloc | apply zai.drewN | apply zai.drew | apply zai.set_1) | exact HI0.out)); (case side2 => repeat (first | (with_reducible first | exact HB.out | apply zac | apply zab | apply zad | refine zaf ?_ (zai.ge HI0.out)) | exact HB.out)); (case side3 => repeat (first | exact (Kd.R_reads' HO245.out).2.2 | (with_reducible refine Kd.C_alloc ?_ _) | (with_reducible refine Kd.C_drewN ?_ _) | (with_reducible refine Kd.C_drew ?_))); (case side4 => exact (Kd.R_reads' HO245.out).2.1); (case side5 => exact far_slice (zai.own_ne HI0.out HO245.out (by decide))); rintro e w28 ⟨rfl, hi, hb, hk⟩; refine ⟨_, rfl, ?_⟩; have n0_ := zaa.mk (Kd.R_mono (Kd.R_keep (zai.apart (show zai w0 _ g s0_0 t242 from by repeat (first | (with_reducible first | exact HI0.out | apply zai.alloc | apply zai.drewN | apply zai.drew | apply zai.set_1) | exact HI0.out)) (by (with_reducible repeat (first | apply Kd.R_alloc | apply Kd.R_drewN | apply Kd.R_drew)); exact HO245.out) (by decide)) hk (fun _ h => h.2)) (fun _ h => h.1)); have n1_ := zaa.mk (zal.trans (by repeat (first | (with_reducible first | exact HK.out | apply zal.set_ | apply zas | apply zav | apply zat) | exact HK.out)) hk (.inl rfl)); have n2_ := zaa.mk (hb); have n3_ := zaa.mk (hi); clear HO245; clear HK; clear HB; clear HI0; have HO245 := n0_; have HK := n1_; have HB := n2_; have HI0 := n3_; clear n0_ n1_ n2_ n3_; (try clear hb); (try clear hb2); (try clear hk); (try clear hi)))
     go_ret
     exact ⟨by first | rfl | (simp [zan, zam] <;> rfl) | (simp [*, zan, zam] <;> rfl), by repeat (first | (with_reducible first | exact HI0.out | apply zai.alloc | apply zai.drewN | apply zai.drew | apply zai.set_1) | exact HI0.out), by repeat (first | (with_reducible first | exact HB.out | apply zac | apply zab | apply zad | refine zaf ?_ (zai.ge HI0.out)) | exact HB.out), by repeat (first | (with_reducible first | exact HK.out | apply zal.set_ | apply zas | apply zav | apply zat) | exact HK.out)⟩
    ·rw [if_neg c23] at H
     exact absurd H (by simp)
   ·rw [if_neg c21] at H
    have c21b0 : (t241 == 0) = false := beq_eq_false_iff_ne.mpr c21
    have c21b1 : (t241 != 0) = true := bne_iff_ne.mpr c21
    simp only [Option.some.injEq, Prod.mk.injEq] at H
    obtain ⟨rfl, rfl⟩ := H
    go_wp2_with (first | ((with_reducible refine zak (f := 33) rfl ?_); refine zbb (some 30) rfl rfl Try.func33 (by kernel_rfl) rfl #[.pointer (some ⟨g, 0, none⟩), .int .i64 6] rfl (by (try simp only [List.map_toArray, List.map_cons, List.map_nil]); first | done | rfl | (simp only [List.length_drop, List.length_take]; rfl)) ?_; (with_reducible refine (spec_l6Rd_pick.calls kj2 g s0_0 x1001_2 6 t241 t242 w0 _ ?side1 ?side2 A20.out).mono ?_); (case side1 => repeat (first | (with_reducible first | exact HI0.out | apply zai.alloc | apply zai.drewN | apply zai.drew | apply zai.set_1) | exact HI0.out)); (case side2 => repeat (first | (with_reducible first | exact HB.out | apply zac | apply zab | apply zad | refine zaf ?_ (zai.ge HI0.out)) | exact HB.out)); rintro e w29 ⟨rfl, hi, hb, hk⟩; refine ⟨_, rfl, ?_⟩; have n0_ := zaa.mk (zal.trans (by repeat (first | (with_reducible first | exact HK.out | apply zal.set_ | apply zas | apply zav | apply zat) | exact HK.out)) hk (.inl rfl)); have n1_ := zaa.mk (hb); have n2_ := zaa.mk (hi); clear HK; clear HB; clear HI0; have HK := n0_; have HB := n1_; have HI0 := n2_; clear n0_ n1_ n2_; (try clear hb); (try clear hb2); (try clear hk); (try clear hi)))
    go_ret
    exact ⟨by first | rfl | (simp [zan, zam] <;> rfl) | (simp [*, zan, zam] <;> rfl), by repeat (first | (with_reducible first | exact HI0.out | apply zai.alloc | apply zai.drewN | apply zai.drew | apply zai.set_1) | exact HI0.out), by repeat (first | (with_reducible first | exact HB.out | apply zac | apply zab | apply zad | refine zaf ?_ (zai.ge HI0.out)) | exact HB.out), by repeat (first | (with_reducible first | exact HK.out | apply zal.set_ | apply zas | apply zav | apply zat) | exact HK.out)⟩
def spec_l92Text.f (k : Nat) (s0_0 : List Int) (s0_1 : Int) : Option (ByteArray × Int) := (spec_l6Rd_pick.f k s0_0 s0_1 6).bind fun bt248 => ((spec_l92Term.f k s0_0 bt248.2 (wrap64 (1 + bt248.1))).bind fun bt250 => ((spec_l6Rd_pick.f k s0_0 bt250.2 24).bind fun bt252 => (if bt252.1 = 0 then ((spec_l6Rd_of.f k s0_0 bt252.2 (([(⟨#[41]⟩ : ByteArray), (⟨#[111]⟩ : ByteArray), (⟨#[124]⟩ : ByteArray)] : List ByteArray))).bind fun bt257 => (if bt250.1.size + bt257.1.size ≤ 9223372036854775807 then (some (bt250.1 ++ bt257.1, bt257.2)) else (none))) else (if bt252.1 = 1 then ((spec_l6Rd_of.f k s0_0 bt252.2 (([(⟨#[]⟩ : ByteArray), (⟨#[120]⟩ : ByteArray), (⟨#[40, 111, 41]⟩ : ByteArray), (⟨#[40, 111, 124, 111]⟩ : ByteArray), (⟨#[62]⟩ : ByteArray), (⟨#[40, 111, 124, 40, 111, 124, 40, 111, 124, 40, 111, 124, 40, 111, 124, 40, 111, 124, 40, 111, 124, 111, 41, 41, 41, 41, 41, 41, 41]⟩ : ByteArray), (⟨#[40, 40, 111, 124, 111, 41, 124, 40, 111, 124, 111, 41, 41]⟩ : ByteArray)] : List ByteArray))).bind fun bt262 => (some (bt262.1, bt262.2))) else (some (bt250.1, bt252.2))))))
set_option maxHeartbeats 8000000 in
set_option maxRecDepth 100000 in
theorem spec_l92Text.calls (k : Nat) (g : Nat) (s0_0 : List Int) (s0_1 : Int) (r1 : ByteArray) (r2 : Int) (w0 w : World) (hI : zai w0 w g s0_0 s0_1) (hB : Below w0.heap.size w0 w) (h : spec_l92Text.f k s0_0 s0_1 = some (r1, r2)) :
  Calls Try.prog 32 #[.pointer (some ⟨g, 0, none⟩)] w fun e w' => e = .returned (.string r1) ∧ zai w0 w' g s0_0 r2 ∧ Below w0.heap.size w0 w' ∧ zal w w' g none := by
 have HI0 := zaa.mk hI
 have HK := zaa.mk (zal.refl w g none)
 have HL := zaa.mk hB.size
 clear hI
 have HW0 := zaa.mk hB.size
 have HB := zaa.mk hB
 clear hB
 have H : ((spec_l6Rd_pick.f k s0_0 s0_1 6).bind fun bt248 => ((spec_l92Term.f k s0_0 bt248.2 (wrap64 (1 + bt248.1))).bind fun bt250 => ((spec_l6Rd_pick.f k s0_0 bt250.2 24).bind fun bt252 => (if bt252.1 = 0 then ((spec_l6Rd_of.f k s0_0 bt252.2 (([(⟨#[41]⟩ : ByteArray), (⟨#[111]⟩ : ByteArray), (⟨#[124]⟩ : ByteArray)] : List ByteArray))).bind fun bt257 => (if bt250.1.size + bt257.1.size ≤ 9223372036854775807 then (some (bt250.1 ++ bt257.1, bt257.2)) else (none))) else (if bt252.1 = 1 then ((spec_l6Rd_of.f k s0_0 bt252.2 (([(⟨#[]⟩ : ByteArray), (⟨#[120]⟩ : ByteArray), (⟨#[40, 111, 41]⟩ : ByteArray), (⟨#[40, 111, 124, 111]⟩ : ByteArray), (⟨#[62]⟩ : ByteArray), (⟨#[40, 111, 124, 40, 111, 124, 40, 111, 124, 40, 111, 124, 40, 111, 124, 40, 111, 124, 40, 111, 124, 111, 41, 41, 41, 41, 41, 41, 41]⟩ : ByteArray), (⟨#[40, 40, 111, 124, 111, 41, 124, 40, 111, 124, 111, 41, 41]⟩ : ByteArray)] : List ByteArray))).bind fun bt262 => (some (bt262.1, bt262.2))) else (some (bt250.1, bt252.2))))))) = some (r1, r2) := h
 clear h
 replace H := Option.bind_eq_some_iff.mp H
 obtain ⟨⟨t248, t249⟩, A20, H⟩ := H
 replace H : ((spec_l92Term.f k s0_0 t249 (wrap64 (1 + t248))).bind fun bt250 => ((spec_l6Rd_pick.f k s0_0 bt250.2 24).bind fun bt252 => (if bt252.1 = 0 then ((spec_l6Rd_of.f k s0_0 bt252.2 (([(⟨#[41]⟩ : ByteArray), (⟨#[111]⟩ : ByteArray), (⟨#[124]⟩ : ByteArray)] : List ByteArray))).bind fun bt257 => (if bt250.1.size + bt257.1.size ≤ 9223372036854775807 then (some (bt250.1 ++ bt257.1, bt257.2)) else (none))) else (if bt252.1 = 1 then ((spec_l6Rd_of.f k s0_0 bt252.2 (([(⟨#[]⟩ : ByteArray), (⟨#[120]⟩ : ByteArray), (⟨#[40, 111, 41]⟩ : ByteArray), (⟨#[40, 111, 124, 111]⟩ : ByteArray), (⟨#[62]⟩ : ByteArray), (⟨#[40, 111, 124, 40, 111, 124, 40, 111, 124, 40, 111, 124, 40, 111, 124, 40, 111, 124, 40, 111, 124, 111, 41, 41, 41, 41, 41, 41, 41]⟩ : ByteArray), (⟨#[40, 40, 111, 124, 111, 41, 124, 40, 111, 124, 111, 41, 41]⟩ : ByteArray)] : List ByteArray))).bind fun bt262 => (some (bt262.1, bt262.2))) else (some (bt250.1, bt252.2)))))) = some (r1, r2) := H
 have A2 := zaa.mk A20
 clear A20
 replace H := Option.bind_eq_some_iff.mp H
 obtain ⟨⟨t250, t251⟩, A30, H⟩ := H
 replace H : ((spec_l6Rd_pick.f k s0_0 t251 24).bind fun bt252 => (if bt252.1 = 0 then ((spec_l6Rd_of.f k s0_0 bt252.2 (([(⟨#[41]⟩ : ByteArray), (⟨#[111]⟩ : ByteArray), (⟨#[124]⟩ : ByteArray)] : List ByteArray))).bind fun bt257 => (if t250.size + bt257.1.size ≤ 9223372036854775807 then (some (t250 ++ bt257.1, bt257.2)) else (none))) else (if bt252.1 = 1 then ((spec_l6Rd_of.f k s0_0 bt252.2 (([(⟨#[]⟩ : ByteArray), (⟨#[120]⟩ : ByteArray), (⟨#[40, 111, 41]⟩ : ByteArray), (⟨#[40, 111, 124, 111]⟩ : ByteArray), (⟨#[62]⟩ : ByteArray), (⟨#[40, 111, 124, 40, 111, 124, 40, 111, 124, 40, 111, 124, 40, 111, 124, 40, 111, 124, 40, 111, 124, 111, 41, 41, 41, 41, 41, 41, 41]⟩ : ByteArray), (⟨#[40, 40, 111, 124, 111, 41, 124, 40, 111, 124, 111, 41, 41]⟩ : ByteArray)] : List ByteArray))).bind fun bt262 => (some (bt262.1, bt262.2))) else (some (t250, bt252.2))))) = some (r1, r2) := H
 have A3 := zaa.mk A30
 clear A30
 replace H := Option.bind_eq_some_iff.mp H
 obtain ⟨⟨t252, t253⟩, A40, H⟩ := H
 replace H : (if t252 = 0 then ((spec_l6Rd_of.f k s0_0 t253 (([(⟨#[41]⟩ : ByteArray), (⟨#[111]⟩ : ByteArray), (⟨#[124]⟩ : ByteArray)] : List ByteArray))).bind fun bt257 => (if t250.size + bt257.1.size ≤ 9223372036854775807 then (some (t250 ++ bt257.1, bt257.2)) else (none))) else (if t252 = 1 then ((spec_l6Rd_of.f k s0_0 t253 (([(⟨#[]⟩ : ByteArray), (⟨#[120]⟩ : ByteArray), (⟨#[40, 111, 41]⟩ : ByteArray), (⟨#[40, 111, 124, 111]⟩ : ByteArray), (⟨#[62]⟩ : ByteArray), (⟨#[40, 111, 124, 40, 111, 124, 40, 111, 124, 40, 111, 124, 40, 111, 124, 40, 111, 124, 40, 111, 124, 111, 41, 41, 41, 41, 41, 41, 41]⟩ : ByteArray), (⟨#[40, 40, 111, 124, 111, 41, 124, 40, 111, 124, 111, 41, 41]⟩ : ByteArray)] : List ByteArray))).bind fun bt262 => (some (bt262.1, bt262.2))) else (some (t250, t253)))) = some (r1, r2) := H
 have A4 := zaa.mk A40
 clear A40
 by_cases c5 : t252 = 0
 ·rw [if_pos c5] at H
  have c5b0 : (t252 == 0) = true := beq_iff_eq.mpr c5
  have c5b1 : (t252 != 0) = false := bne_eq_false_iff_eq.mpr c5
  clear c5
  obtain ⟨y254, hy254⟩ : ∃ y_ : List ByteArray, y_ = (([(⟨#[41]⟩ : ByteArray), (⟨#[111]⟩ : ByteArray), (⟨#[124]⟩ : ByteArray)] : List ByteArray)) := ⟨_, rfl⟩
  replace H : ((spec_l6Rd_of.f k s0_0 t253 y254).bind fun bt257 => (if t250.size + bt257.1.size ≤ 9223372036854775807 then (some (t250 ++ bt257.1, bt257.2)) else (none))) = some (r1, r2) := by first | (rw [hy254]; with_reducible exact H) | (have H2_ := (Option.bind_some _ _).symm.trans H; rw [hy254]; with_reducible exact H2_) | (have H2_ := (Option.bind_some _ _).symm.trans H; with_reducible exact H2_) | with_reducible exact H | (rw [hy254]; exact H) | exact H
  have Ny254 := zaa.mk hy254
  clear hy254
  replace H := Option.bind_eq_some_iff.mp H
  obtain ⟨⟨t257, t258⟩, A60, H⟩ := H
  replace H : (if t250.size + t257.size ≤ 9223372036854775807 then (some (t250 ++ t257, t258)) else (none)) = some (r1, r2) := H
  have A6 := zaa.mk A60
  clear A60
  by_cases c7 : t250.size + t257.size ≤ 9223372036854775807
  ·rw [if_pos c7] at H
   have c7b0 := eq_true c7
   have c7b1 : decide (t250.size + t257.size ≤ 9223372036854775807) = true := decide_eq_true c7
   try have c7b2 : (9223372036854775807 < t250.size + t257.size) = False := eq_false (Nat.not_lt.2 c7)
   try have c7b3 := c7b2
   try simp only [ByteArray.size_append, show (⟨#[40]⟩ : ByteArray).size = 1 from rfl] at c7b3
   simp only [Option.some.injEq, Prod.mk.injEq] at H
   obtain ⟨rfl, rfl⟩ := H
   go_enter Try.func32, Try.ntmps32
   go_wp2_with (first | ((with_reducible refine zak (f := 33) rfl ?_); refine zbb (some 6) rfl rfl Try.func33 (by kernel_rfl) rfl #[.pointer (some ⟨g, 0, none⟩), .int .i64 6] rfl (by (try simp only [List.map_toArray, List.map_cons, List.map_nil]); first | done | rfl | (simp only [List.length_drop, List.length_take]; rfl)) ?_; (with_reducible refine (spec_l6Rd_pick.calls k g s0_0 s0_1 6 t248 t249 w0 _ ?side1 ?side2 A2.out).mono ?_); (case side1 => repeat (first | (with_reducible first | exact HI0.out | apply zai.alloc | apply zai.drewN | apply zai.drew | apply zai.set_1) | exact HI0.out)); (case side2 => repeat (first | (with_reducible first | exact HB.out | apply zac | apply zab | apply zad | refine zaf ?_ (zai.ge HI0.out)) | exact HB.out)); rintro e w8 ⟨rfl, hi, hb, hk⟩; refine ⟨_, rfl, ?_⟩; have n0_ := zaa.mk (zal.trans (by repeat (first | (with_reducible first | exact HK.out | apply zal.set_ | apply zas | apply zav | apply zat) | exact HK.out)) hk (.inl rfl)); have n1_ := zaa.mk (hb); have n2_ := zaa.mk (hi); clear HK; clear HB; clear HI0; have HK := n0_; have HB := n1_; have HI0 := n2_; clear n0_ n1_ n2_; (try clear hb); (try clear hb2); (try clear hk); (try clear hi)) | ((with_reducible refine zak (f := 44) rfl ?_); refine zbb (some 8) rfl rfl Try.func44 (by kernel_rfl) rfl #[.pointer (some ⟨g, 0, none⟩), .int .i64 (wrap64 (1 + t248))] rfl (by (try simp only [List.map_toArray, List.map_cons, List.map_nil]); first | done | rfl | (simp only [List.length_drop, List.length_take]; rfl)) ?_; (with_reducible refine (spec_l92Term.calls k g s0_0 t249 (wrap64 (1 + t248)) t250 t251 w0 _ ?side1 ?side2 A3.out).mono ?_); (case side1 => repeat (first | (with_reducible first | exact HI0.out | apply zai.alloc | apply zai.drewN | apply zai.drew | apply zai.set_1) | exact HI0.out)); (case side2 => repeat (first | (with_reducible first | exact HB.out | apply zac | apply zab | apply zad | refine zaf ?_ (zai.ge HI0.out)) | exact HB.out)); rintro e w9 ⟨rfl, hi, hb, hk⟩; refine ⟨_, rfl, ?_⟩; have n0_ := zaa.mk (zal.trans (by repeat (first | (with_reducible first | exact HK.out | apply zal.set_ | apply zas | apply zav | apply zat) | exact HK.out)) hk (.inl rfl)); have n1_ := zaa.mk (hb); have n2_ := zaa.mk (hi); clear HK; clear HB; clear HI0; have HK := n0_; have HB := n1_; have HI0 := n2_; clear n0_ n1_ n2_; (try clear hb); (try clear hb2); (try clear hk); (try clear hi)) | ((with_reducible refine zak (f := 33) rfl ?_); refine zbb (some 10) rfl rfl Try.func33 (by kernel_rfl) rfl #[.pointer (some ⟨g, 0, none⟩), .int .i64 24] rfl (by (try simp only [List.map_toArray, List.map_cons, List.map_nil]); first | done | rfl | (simp only [List.length_drop, List.length_take]; rfl)) ?_; (with_reducible refine (spec_l6Rd_pick.calls k g s0_0 t251 24 t252 t253 w0 _ ?side1 ?side2 A4.out).mono ?_); (case side1 => repeat (first | (with_reducible first | exact HI0.out | apply zai.alloc | apply zai.drewN | apply zai.drew | apply zai.set_1) | exact HI0.out)); (case side2 => repeat (first | (with_reducible first | exact HB.out | apply zac | apply zab | apply zad | refine zaf ?_ (zai.ge HI0.out)) | exact HB.out)); rintro e w10 ⟨rfl, hi, hb, hk⟩; refine ⟨_, rfl, ?_⟩; have n0_ := zaa.mk (zal.trans (by repeat (first | (with_reducible first | exact HK.out | apply zal.set_ | apply zas | apply zav | apply zat) | exact HK.out)) hk (.inl rfl)); have n1_ := zaa.mk (hb); have n2_ := zaa.mk (hi); clear HK; clear HB; clear HI0; have HK := n0_; have HB := n1_; have HI0 := n2_; clear n0_ n1_ n2_; (try clear hb); (try clear hb2); (try clear hk); (try clear hi)) | ((with_reducible refine zbe (N := 15) rfl ?_); refine Kd.R_lit Kd.string _ 9 ?hg (N := 15) ?hd (xs := ([(⟨#[41]⟩ : ByteArray), (⟨#[111]⟩ : ByteArray), (⟨#[124]⟩ : ByteArray)] : List ByteArray)) (inner := [.string (⟨#[41]⟩ : ByteArray), .string (⟨#[111]⟩ : ByteArray), .string (⟨#[124]⟩ : ByteArray)]) (ok := fun _ => True) (okp := fun _ => True) ?hr ?hp (fun _ hk => hk) trivial (Below.refl _ _) (Nat.le_refl _) (by simp) ?_; (case hd => rfl); (case hg => rfl); (case hr => first | (go_simp; done) | (go_simp; rfl)); (case hp => exact (Reps.one (show Kd.M Kd.string _ _ _ (⟨#[41]⟩ : ByteArray) [.string (⟨#[41]⟩ : ByteArray)] from rfl) (Reps.one (show Kd.M Kd.string _ _ _ (⟨#[111]⟩ : ByteArray) [.string (⟨#[111]⟩ : ByteArray)] from rfl) (Reps.one (show Kd.M Kd.string _ _ _ (⟨#[124]⟩ : ByteArray) [.string (⟨#[124]⟩ : ByteArray)] from rfl) (Reps.none _ _))))); intro v255 w11 ho12 hb hg_ hnew_; clear hg_ hnew_; (first | rw [← Ny254.out] at ho12 | (simp only [Int.reduceToNat] at ho12; rw [← Ny254.out] at ho12)); have n0_ := zaa.mk (Kd.R_lower ho12 (keep_size (w := w) (g := g) (row := none) (by repeat (first | (with_reducible first | exact HK.out | apply zal.set_ | apply zas | apply zav | apply zat) | exact HK.out)))); have n1_ := zaa.mk (zai.below (by repeat (first | (with_reducible first | exact HI0.out | apply zai.alloc | apply zai.drewN | apply zai.drew | apply zai.set_1) | exact HI0.out)) hb); have n2_ := zaa.mk (zal.trans (by repeat (first | (with_reducible first | exact HK.out | apply zal.set_ | apply zas | apply zav | apply zat) | exact HK.out)) (zal.of_below hb g none) (.inl rfl)); have n3_ := zaa.mk (zae (by repeat (first | (with_reducible first | exact HB.out | apply zac | apply zab | apply zad | refine zaf ?_ (zai.ge HI0.out)) | exact HB.out)) hb); clear HI0; clear HK; clear HB; have HO256 := n0_; have HI0 := n1_; have HK := n2_; have HB := n3_; clear n0_ n1_ n2_ n3_; clear hb ho12; obtain ⟨Ao13, co13, eo13⟩ := Kd.R_slice HO256.out; subst eo13) | ((with_reducible refine zak (f := 45) rfl ?_); refine zbb (some 16) rfl rfl Try.func45 (by kernel_rfl) rfl #[.pointer (some ⟨g, 0, none⟩), .slice Ao13 y254.length co13] rfl (by (try simp only [List.map_toArray, List.map_cons, List.map_nil]); first | done | rfl | (simp only [List.length_drop, List.length_take]; rfl)) ?_; (with_reducible refine (spec_l6Rd_of.calls k g s0_0 t253 _ _ y254 t257 t258 w0 _ ?side1 ?side2 ?side3 ?side4 ?side5 A6.out).mono ?_); (case side1 => repeat (first | (with_reducible first | exact HI0.out | apply zai.alloc | apply zai.drewN | apply zai.drew | apply zai.set_1) | exact HI0.out)); (case side2 => repeat (first | (with_reducible first | exact HB.out | apply zac | apply zab | apply zad | refine zaf ?_ (zai.ge HI0.out)) | exact HB.out)); (case side3 => repeat (first | exact (Kd.R_reads' HO256.out).2.2 | (with_reducible refine Kd.C_alloc ?_ _) | (with_reducible refine Kd.C_drewN ?_ _) | (with_reducible refine Kd.C_drew ?_))); (case side4 => exact (Kd.R_reads' HO256.out).2.1); (case side5 => exact far_slice (zai.own_ne HI0.out HO256.out (by decide))); rintro e w14 ⟨rfl, hi, hb, hk⟩; refine ⟨_, rfl, ?_⟩; have n0_ := zaa.mk (Kd.R_mono (Kd.R_keep (zai.apart (show zai w0 _ g s0_0 t253 from by repeat (first | (with_reducible first | exact HI0.out | apply zai.alloc | apply zai.drewN | apply zai.drew | apply zai.set_1) | exact HI0.out)) (by (with_reducible repeat (first | apply Kd.R_alloc | apply Kd.R_drewN | apply Kd.R_drew)); exact HO256.out) (by decide)) hk (fun _ h => h.2)) (fun _ h => h.1)); have n1_ := zaa.mk (zal.trans (by repeat (first | (with_reducible first | exact HK.out | apply zal.set_ | apply zas | apply zav | apply zat) | exact HK.out)) hk (.inl rfl)); have n2_ := zaa.mk (hb); have n3_ := zaa.mk (hi); clear HO256; clear HK; clear HB; clear HI0; have HO256 := n0_; have HK := n1_; have HB := n2_; have HI0 := n3_; clear n0_ n1_ n2_ n3_; (try clear hb); (try clear hb2); (try clear hk); (try clear hi)))
   go_ret
   exact ⟨by first | rfl | (simp [zan, zam] <;> rfl) | (simp [*, zan, zam] <;> rfl), by repeat (first | (with_reducible first | exact HI0.out | apply zai.alloc | apply zai.drewN | apply zai.drew | apply zai.set_1) | exact HI0.out), by repeat (first | (with_reducible first | exact HB.out | apply zac | apply zab | apply zad | refine zaf ?_ (zai.ge HI0.out)) | exact HB.out), by repeat (first | (with_reducible first | exact HK.out | apply zal.set_ | apply zas | apply zav | apply zat) | exact HK.out)⟩
  ·rw [if_neg c7] at H
   exact absurd H (by simp)
 ·rw [if_neg c5] at H
  have c5b0 : (t252 == 0) = false := beq_eq_false_iff_ne.mpr c5
  have c5b1 : (t252 != 0) = true := bne_iff_ne.mpr c5
  by_cases c15 : t252 = 1
  ·rw [if_pos c15] at H
   have c15b0 : (t252 == 1) = true := beq_iff_eq.mpr c15
   have c15b1 : (t252 != 1) = false := bne_eq_false_iff_eq.mpr c15
   clear c15
   obtain ⟨y259, hy259⟩ : ∃ y_ : List ByteArray, y_ = (([(⟨#[]⟩ : ByteArray), (⟨#[120]⟩ : ByteArray), (⟨#[40, 111, 41]⟩ : ByteArray), (⟨#[40, 111, 124, 111]⟩ : ByteArray), (⟨#[62]⟩ : ByteArray), (⟨#[40, 111, 124, 40, 111, 124, 40, 111, 124, 40, 111, 124, 40, 111, 124, 40, 111, 124, 40, 111, 124, 111, 41, 41, 41, 41, 41, 41, 41]⟩ : ByteArray), (⟨#[40, 40, 111, 124, 111, 41, 124, 40, 111, 124, 111, 41, 41]⟩ : ByteArray)] : List ByteArray)) := ⟨_, rfl⟩
   replace H : ((spec_l6Rd_of.f k s0_0 t253 y259).bind fun bt262 => (some (bt262.1, bt262.2))) = some (r1, r2) := by first | (rw [hy259]; with_reducible exact H) | (have H2_ := (Option.bind_some _ _).symm.trans H; rw [hy259]; with_reducible exact H2_) | (have H2_ := (Option.bind_some _ _).symm.trans H; with_reducible exact H2_) | with_reducible exact H | (rw [hy259]; exact H) | exact H
   have Ny259 := zaa.mk hy259
   clear hy259
   replace H := Option.bind_eq_some_iff.mp H
   obtain ⟨⟨t262, t263⟩, A160, H⟩ := H
   replace H : (some (t262, t263)) = some (r1, r2) := H
   have A16 := zaa.mk A160
   clear A160
   simp only [Option.some.injEq, Prod.mk.injEq] at H
   obtain ⟨rfl, rfl⟩ := H
   go_enter Try.func32, Try.ntmps32
   go_wp2_with (first | ((with_reducible refine zak (f := 33) rfl ?_); refine zbb (some 6) rfl rfl Try.func33 (by kernel_rfl) rfl #[.pointer (some ⟨g, 0, none⟩), .int .i64 6] rfl (by (try simp only [List.map_toArray, List.map_cons, List.map_nil]); first | done | rfl | (simp only [List.length_drop, List.length_take]; rfl)) ?_; (with_reducible refine (spec_l6Rd_pick.calls k g s0_0 s0_1 6 t248 t249 w0 _ ?side1 ?side2 A2.out).mono ?_); (case side1 => repeat (first | (with_reducible first | exact HI0.out | apply zai.alloc | apply zai.drewN | apply zai.drew | apply zai.set_1) | exact HI0.out)); (case side2 => repeat (first | (with_reducible first | exact HB.out | apply zac | apply zab | apply zad | refine zaf ?_ (zai.ge HI0.out)) | exact HB.out)); rintro e w17 ⟨rfl, hi, hb, hk⟩; refine ⟨_, rfl, ?_⟩; have n0_ := zaa.mk (zal.trans (by repeat (first | (with_reducible first | exact HK.out | apply zal.set_ | apply zas | apply zav | apply zat) | exact HK.out)) hk (.inl rfl)); have n1_ := zaa.mk (hb); have n2_ := zaa.mk (hi); clear HK; clear HB; clear HI0; have HK := n0_; have HB := n1_; have HI0 := n2_; clear n0_ n1_ n2_; (try clear hb); (try clear hb2); (try clear hk); (try clear hi)) | ((with_reducible refine zak (f := 44) rfl ?_); refine zbb (some 8) rfl rfl Try.func44 (by kernel_rfl) rfl #[.pointer (some ⟨g, 0, none⟩), .int .i64 (wrap64 (1 + t248))] rfl (by (try simp only [List.map_toArray, List.map_cons, List.map_nil]); first | done | rfl | (simp only [List.length_drop, List.length_take]; rfl)) ?_; (with_reducible refine (spec_l92Term.calls k g s0_0 t249 (wrap64 (1 + t248)) t250 t251 w0 _ ?side1 ?side2 A3.out).mono ?_); (case side1 => repeat (first | (with_reducible first | exact HI0.out | apply zai.alloc | apply zai.drewN | apply zai.drew | apply zai.set_1) | exact HI0.out)); (case side2 => repeat (first | (with_reducible first | exact HB.out | apply zac | apply zab | apply zad | refine zaf ?_ (zai.ge HI0.out)) | exact HB.out)); rintro e w18 ⟨rfl, hi, hb, hk⟩; refine ⟨_, rfl, ?_⟩; have n0_ := zaa.mk (zal.trans (by repeat (first | (with_reducible first | exact HK.out | apply zal.set_ | apply zas | apply zav | apply zat) | exact HK.out)) hk (.inl rfl)); have n1_ := zaa.mk (hb); have n2_ := zaa.mk (hi); clear HK; clear HB; clear HI0; have HK := n0_; have HB := n1_; have HI0 := n2_; clear n0_ n1_ n2_; (try clear hb); (try clear hb2); (try clear hk); (try clear hi)) | ((with_reducible refine zak (f := 33) rfl ?_); refine zbb (some 10) rfl rfl Try.func33 (by kernel_rfl) rfl #[.pointer (some ⟨g, 0, none⟩), .int .i64 24] rfl (by (try simp only [List.map_toArray, List.map_cons, List.map_nil]); first | done | rfl | (simp only [List.length_drop, List.length_take]; rfl)) ?_; (with_reducible refine (spec_l6Rd_pick.calls k g s0_0 t251 24 t252 t253 w0 _ ?side1 ?side2 A4.out).mono ?_); (case side1 => repeat (first | (with_reducible first | exact HI0.out | apply zai.alloc | apply zai.drewN | apply zai.drew | apply zai.set_1) | exact HI0.out)); (case side2 => repeat (first | (with_reducible first | exact HB.out | apply zac | apply zab | apply zad | refine zaf ?_ (zai.ge HI0.out)) | exact HB.out)); rintro e w19 ⟨rfl, hi, hb, hk⟩; refine ⟨_, rfl, ?_⟩; have n0_ := zaa.mk (zal.trans (by repeat (first | (with_reducible first | exact HK.out | apply zal.set_ | apply zas | apply zav | apply zat) | exact HK.out)) hk (.inl rfl)); have n1_ := zaa.mk (hb); have n2_ := zaa.mk (hi); clear HK; clear HB; clear HI0; have HK := n0_; have HB := n1_; have HI0 := n2_; clear n0_ n1_ n2_; (try clear hb); (try clear hb2); (try clear hk); (try clear hi)) | ((with_reducible refine zbe (N := 21) rfl ?_); refine Kd.R_lit Kd.string _ 9 ?hg (N := 21) ?hd (xs := ([(⟨#[]⟩ : ByteArray), (⟨#[120]⟩ : ByteArray), (⟨#[40, 111, 41]⟩ : ByteArray), (⟨#[40, 111, 124, 111]⟩ : ByteArray), (⟨#[62]⟩ : ByteArray), (⟨#[40, 111, 124, 40, 111, 124, 40, 111, 124, 40, 111, 124, 40, 111, 124, 40, 111, 124, 40, 111, 124, 111, 41, 41, 41, 41, 41, 41, 41]⟩ : ByteArray), (⟨#[40, 40, 111, 124, 111, 41, 124, 40, 111, 124, 111, 41, 41]⟩ : ByteArray)] : List ByteArray)) (inner := [.string (⟨#[]⟩ : ByteArray), .string (⟨#[120]⟩ : ByteArray), .string (⟨#[40, 111, 41]⟩ : ByteArray), .string (⟨#[40, 111, 124, 111]⟩ : ByteArray), .string (⟨#[62]⟩ : ByteArray), .string (⟨#[40, 111, 124, 40, 111, 124, 40, 111, 124, 40, 111, 124, 40, 111, 124, 40, 111, 124, 40, 111, 124, 111, 41, 41, 41, 41, 41, 41, 41]⟩ : ByteArray), .string (⟨#[40, 40, 111, 124, 111, 41, 124, 40, 111, 124, 111, 41, 41]⟩ : ByteArray)]) (ok := fun _ => True) (okp := fun _ => True) ?hr ?hp (fun _ hk => hk) trivial (Below.refl _ _) (Nat.le_refl _) (by simp) ?_; (case hd => rfl); (case hg => rfl); (case hr => first | (go_simp; done) | (go_simp; rfl)); (case hp => exact (Reps.one (show Kd.M Kd.string _ _ _ (⟨#[]⟩ : ByteArray) [.string (⟨#[]⟩ : ByteArray)] from rfl) (Reps.one (show Kd.M Kd.string _ _ _ (⟨#[120]⟩ : ByteArray) [.string (⟨#[120]⟩ : ByteArray)] from rfl) (Reps.one (show Kd.M Kd.string _ _ _ (⟨#[40, 111, 41]⟩ : ByteArray) [.string (⟨#[40, 111, 41]⟩ : ByteArray)] from rfl) (Reps.one (show Kd.M Kd.string _ _ _ (⟨#[40, 111, 124, 111]⟩ : ByteArray) [.string (⟨#[40, 111, 124, 111]⟩ : ByteArray)] from rfl) (Reps.one (show Kd.M Kd.string _ _ _ (⟨#[62]⟩ : ByteArray) [.string (⟨#[62]⟩ : ByteArray)] from rfl) (Reps.one (show Kd.M Kd.string _ _ _ (⟨#[40, 111, 124, 40, 111, 124, 40, 111, 124, 40, 111, 124, 40, 111, 124, 40, 111, 124, 40, 111, 124, 111, 41, 41, 41, 41, 41, 41, 41]⟩ : ByteArray) [.string (⟨#[40, 111, 124, 40, 111, 124, 40, 111, 124, 40, 111, 124, 40, 111, 124, 40, 111, 124, 40, 111, 124, 111, 41, 41, 41, 41, 41, 41, 41]⟩ : ByteArray)] from rfl) (Reps.one (show Kd.M Kd.string _ _ _ (⟨#[40, 40, 111, 124, 111, 41, 124, 40, 111, 124, 111, 41, 41]⟩ : ByteArray) [.string (⟨#[40, 40, 111, 124, 111, 41, 124, 40, 111, 124, 111, 41, 41]⟩ : ByteArray)] from rfl) (Reps.none _ _))))))))); intro v260 w20 ho21 hb hg_ hnew_; clear hg_ hnew_; (first | rw [← Ny259.out] at ho21 | (simp only [Int.reduceToNat] at ho21; rw [← Ny259.out] at ho21)); have n0_ := zaa.mk (Kd.R_lower ho21 (keep_size (w := w) (g := g) (row := none) (by repeat (first | (with_reducible first | exact HK.out | apply zal.set_ | apply zas | apply zav | apply zat) | exact HK.out)))); have n1_ := zaa.mk (zai.below (by repeat (first | (with_reducible first | exact HI0.out | apply zai.alloc | apply zai.drewN | apply zai.drew | apply zai.set_1) | exact HI0.out)) hb); have n2_ := zaa.mk (zal.trans (by repeat (first | (with_reducible first | exact HK.out | apply zal.set_ | apply zas | apply zav | apply zat) | exact HK.out)) (zal.of_below hb g none) (.inl rfl)); have n3_ := zaa.mk (zae (by repeat (first | (with_reducible first | exact HB.out | apply zac | apply zab | apply zad | refine zaf ?_ (zai.ge HI0.out)) | exact HB.out)) hb); clear HI0; clear HK; clear HB; have HO261 := n0_; have HI0 := n1_; have HK := n2_; have HB := n3_; clear n0_ n1_ n2_ n3_; clear hb ho21; obtain ⟨Ao22, co22, eo22⟩ := Kd.R_slice HO261.out; subst eo22) | ((with_reducible refine zak (f := 45) rfl ?_); refine zbb (some 22) rfl rfl Try.func45 (by kernel_rfl) rfl #[.pointer (some ⟨g, 0, none⟩), .slice Ao22 y259.length co22] rfl (by (try simp only [List.map_toArray, List.map_cons, List.map_nil]); first | done | rfl | (simp only [List.length_drop, List.length_take]; rfl)) ?_; (with_reducible refine (spec_l6Rd_of.calls k g s0_0 t253 _ _ y259 t262 t263 w0 _ ?side1 ?side2 ?side3 ?side4 ?side5 A16.out).mono ?_); (case side1 => repeat (first | (with_reducible first | exact HI0.out | apply zai.alloc | apply zai.drewN | apply zai.drew | apply zai.set_1) | exact HI0.out)); (case side2 => repeat (first | (with_reducible first | exact HB.out | apply zac | apply zab | apply zad | refine zaf ?_ (zai.ge HI0.out)) | exact HB.out)); (case side3 => repeat (first | exact (Kd.R_reads' HO261.out).2.2 | (with_reducible refine Kd.C_alloc ?_ _) | (with_reducible refine Kd.C_drewN ?_ _) | (with_reducible refine Kd.C_drew ?_))); (case side4 => exact (Kd.R_reads' HO261.out).2.1); (case side5 => exact far_slice (zai.own_ne HI0.out HO261.out (by decide))); rintro e w23 ⟨rfl, hi, hb, hk⟩; refine ⟨_, rfl, ?_⟩; have n0_ := zaa.mk (Kd.R_mono (Kd.R_keep (zai.apart (show zai w0 _ g s0_0 t253 from by repeat (first | (with_reducible first | exact HI0.out | apply zai.alloc | apply zai.drewN | apply zai.drew | apply zai.set_1) | exact HI0.out)) (by (with_reducible repeat (first | apply Kd.R_alloc | apply Kd.R_drewN | apply Kd.R_drew)); exact HO261.out) (by decide)) hk (fun _ h => h.2)) (fun _ h => h.1)); have n1_ := zaa.mk (zal.trans (by repeat (first | (with_reducible first | exact HK.out | apply zal.set_ | apply zas | apply zav | apply zat) | exact HK.out)) hk (.inl rfl)); have n2_ := zaa.mk (hb); have n3_ := zaa.mk (hi); clear HO261; clear HK; clear HB; clear HI0; have HO261 := n0_; have HK := n1_; have HB := n2_; have HI0 := n3_; clear n0_ n1_ n2_ n3_; (try clear hb); (try clear hb2); (try clear hk); (try clear hi)))
   go_ret
   exact ⟨by first | rfl | (simp [zan, zam] <;> rfl) | (simp [*, zan, zam] <;> rfl), by repeat (first | (with_reducible first | exact HI0.out | apply zai.alloc | apply zai.drewN | apply zai.drew | apply zai.set_1) | exact HI0.out), by repeat (first | (with_reducible first | exact HB.out | apply zac | apply zab | apply zad | refine zaf ?_ (zai.ge HI0.out)) | exact HB.out), by repeat (first | (with_reducible first | exact HK.out | apply zal.set_ | apply zas | apply zav | apply zat) | exact HK.out)⟩
  ·rw [if_neg c15] at H
   have c15b0 : (t252 == 1) = false := beq_eq_false_iff_ne.mpr c15
   have c15b1 : (t252 != 1) = true := bne_iff_ne.mpr c15
   simp only [Option.some.injEq, Prod.mk.injEq] at H
   obtain ⟨rfl, rfl⟩ := H
   go_enter Try.func32, Try.ntmps32
   go_wp2_with (first | ((with_reducible refine zak (f := 33) rfl ?_); refine zbb (some 6) rfl rfl Try.func33 (by kernel_rfl) rfl #[.pointer (some ⟨g, 0, none⟩), .int .i64 6] rfl (by (try simp only [List.map_toArray, List.map_cons, List.map_nil]); first | done | rfl | (simp only [List.length_drop, List.length_take]; rfl)) ?_; (with_reducible refine (spec_l6Rd_pick.calls k g s0_0 s0_1 6 t248 t249 w0 _ ?side1 ?side2 A2.out).mono ?_); (case side1 => repeat (first | (with_reducible first | exact HI0.out | apply zai.alloc | apply zai.drewN | apply zai.drew | apply zai.set_1) | exact HI0.out)); (case side2 => repeat (first | (with_reducible first | exact HB.out | apply zac | apply zab | apply zad | refine zaf ?_ (zai.ge HI0.out)) | exact HB.out)); rintro e w24 ⟨rfl, hi, hb, hk⟩; refine ⟨_, rfl, ?_⟩; have n0_ := zaa.mk (zal.trans (by repeat (first | (with_reducible first | exact HK.out | apply zal.set_ | apply zas | apply zav | apply zat) | exact HK.out)) hk (.inl rfl)); have n1_ := zaa.mk (hb); have n2_ := zaa.mk (hi); clear HK; clear HB; clear HI0; have HK := n0_; have HB := n1_; have HI0 := n2_; clear n0_ n1_ n2_; (try clear hb); (try clear hb2); (try clear hk); (try clear hi)) | ((with_reducible refine zak (f := 44) rfl ?_); refine zbb (some 8) rfl rfl Try.func44 (by kernel_rfl) rfl #[.pointer (some ⟨g, 0, none⟩), .int .i64 (wrap64 (1 + t248))] rfl (by (try simp only [List.map_toArray, List.map_cons, List.map_nil]); first | done | rfl | (simp only [List.length_drop, List.length_take]; rfl)) ?_; (with_reducible refine (spec_l92Term.calls k g s0_0 t249 (wrap64 (1 + t248)) t250 t251 w0 _ ?side1 ?side2 A3.out).mono ?_); (case side1 => repeat (first | (with_reducible first | exact HI0.out | apply zai.alloc | apply zai.drewN | apply zai.drew | apply zai.set_1) | exact HI0.out)); (case side2 => repeat (first | (with_reducible first | exact HB.out | apply zac | apply zab | apply zad | refine zaf ?_ (zai.ge HI0.out)) | exact HB.out)); rintro e w25 ⟨rfl, hi, hb, hk⟩; refine ⟨_, rfl, ?_⟩; have n0_ := zaa.mk (zal.trans (by repeat (first | (with_reducible first | exact HK.out | apply zal.set_ | apply zas | apply zav | apply zat) | exact HK.out)) hk (.inl rfl)); have n1_ := zaa.mk (hb); have n2_ := zaa.mk (hi); clear HK; clear HB; clear HI0; have HK := n0_; have HB := n1_; have HI0 := n2_; clear n0_ n1_ n2_; (try clear hb); (try clear hb2); (try clear hk); (try clear hi)) | ((with_reducible refine zak (f := 33) rfl ?_); refine zbb (some 10) rfl rfl Try.func33 (by kernel_rfl) rfl #[.pointer (some ⟨g, 0, none⟩), .int .i64 24] rfl (by (try simp only [List.map_toArray, List.map_cons, List.map_nil]); first | done | rfl | (simp only [List.length_drop, List.length_take]; rfl)) ?_; (with_reducible refine (spec_l6Rd_pick.calls k g s0_0 t251 24 t252 t253 w0 _ ?side1 ?side2 A4.out).mono ?_); (case side1 => repeat (first | (with_reducible first | exact HI0.out | apply zai.alloc | apply zai.drewN | apply zai.drew | apply zai.set_1) | exact HI0.out)); (case side2 => repeat (first | (with_reducible first | exact HB.out | apply zac | apply zab | apply zad | refine zaf ?_ (zai.ge HI0.out)) | exact HB.out)); rintro e w26 ⟨rfl, hi, hb, hk⟩; refine ⟨_, rfl, ?_⟩; have n0_ := zaa.mk (zal.trans (by repeat (first | (with_reducible first | exact HK.out | apply zal.set_ | apply zas | apply zav | apply zat) | exact HK.out)) hk (.inl rfl)); have n1_ := zaa.mk (hb); have n2_ := zaa.mk (hi); clear HK; clear HB; clear HI0; have HK := n0_; have HB := n1_; have HI0 := n2_; clear n0_ n1_ n2_; (try clear hb); (try clear hb2); (try clear hk); (try clear hi)))
   go_ret
   exact ⟨by first | rfl | (simp [zan, zam] <;> rfl) | (simp [*, zan, zam] <;> rfl), by repeat (first | (with_reducible first | exact HI0.out | apply zai.alloc | apply zai.drewN | apply zai.drew | apply zai.set_1) | exact HI0.out), by repeat (first | (with_reducible first | exact HB.out | apply zac | apply zab | apply zad | refine zaf ?_ (zai.ge HI0.out)) | exact HB.out), by repeat (first | (with_reducible first | exact HK.out | apply zal.set_ | apply zas | apply zav | apply zat) | exact HK.out)⟩
end Go.Proofs.Ytgiidlebnjbgeaa.PB
namespace Go.Proofs.Ytgiidlebnjbgeaa.PC
open Go.RowKit Go.PW.PrintWords Go.PW.PrintLast Go.PW.PrintMore
attribute [local go_sem] zcc zca zcr zcq zbu zbt zcb zbz   -- for this text's walks alone
def errW : Option Int → Value
 | none => .nilIface
 | some c => .iface 0 (.int .i64 c)
theorem zan : errW none = .nilIface := rfl
theorem zam (c : Int) : errW (some c) = .iface 0 (.int .i64 c) := rfl
end Go.Proofs.Ytgiidlebnjbgeaa.PC
namespace Go.Proofs.Ytgiidlebnjbgeaa.PC
open Go.RowKit Go.PW.PrintWords Go.PW.PrintLast Go.PW.PrintMore
attribute [local go_sem] zcc zca zcr zcq zbu zbt zcb zbz   -- for this text's walks alone
def slices_Equal_int_int.l0 : Nat → List Int → List Int → Int → Int → Option (Bool)
 | 0, _, _, _, _ => none
 | k + 1, x0, x1, x12, x13 => if x13 < x12 then (if 0 ≤ x13 then (if x13 < (x0.length : Int) then (if x13 < (x1.length : Int) then (if (rd x0 x13) = (rd x1 x13) then (slices_Equal_int_int.l0 k x0 x1 x12 (wrap64 (x13 + 1))) else (some false)) else (none)) else (none)) else (none)) else (some true)
def slices_Equal_int_int.f (k : Nat) (l0 : List Int) (l1 : List Int) : Option (Bool) := if (l0.length : Int) = (l1.length : Int) then (slices_Equal_int_int.l0 k l0 l1 (l0.length : Int) 0) else (some false)
set_option maxHeartbeats 8000000 in
set_option maxRecDepth 100000 in
theorem slices_Equal_int_int.calls (k : Nat) (A0 : Option Addr) (c0 : Nat) (l0 : List Int) (A1 : Option Addr) (c1 : Nat) (l1 : List Int) (r : Bool) (w : World) (hr0 : Kd.C (Kd.int .i64) w A0 l0.length l0) (hc0 : l0.length ≤ c0) (hr1 : Kd.C (Kd.int .i64) w A1 l1.length l1) (hc1 : l1.length ≤ c1) (h : slices_Equal_int_int.f k l0 l1 = some r) :
  Calls Try.prog 26 #[.slice A0 l0.length c0, .slice A1 l1.length c1] w fun e w' => e = .returned (.bool r) ∧ zax w w' := by
 have HR0 := zaa.mk hr0
 have HC0 := zaa.mk hc0
 clear hr0 hc0
 have HR1 := zaa.mk hr1
 have HC1 := zaa.mk hc1
 clear hr1 hc1
 have H : (if (l0.length : Int) = (l1.length : Int) then (slices_Equal_int_int.l0 k l0 l1 (l0.length : Int) 0) else (some false)) = some r := h
 clear h
 by_cases c3 : (l0.length : Int) = (l1.length : Int)
 ·rw [if_pos c3] at H
  have c3b0 : ((l0.length : Int) == (l1.length : Int)) = true := beq_iff_eq.mpr c3
  have c3b1 : ((l0.length : Int) != (l1.length : Int)) = false := bne_eq_false_iff_eq.mpr c3
  have c3b2 : (l0.length == l1.length) = true := by first | simpa using c3 | (simp at c3 ⊢; omega)
  clear c3
  have H' := zaa.mk H
  clear H
  go_enter Try.func26, Try.ntmps26
  go_wp2
  repeat (go_quiet (fail); try go_wp2)
  go_loopg [13] k (fun kq v13 w' => ∃ (x13_1 : Int), v13 = .int .i64 x13_1 ∧ zaa (slices_Equal_int_int.l0 kq l0 l1 (l0.length : Int) x13_1 = some r) ∧ zaa (kq ≤ k) ∧ zax w w')
  case atStart => exact ⟨(0), (by first | rfl | (simp; done) | (simp [*]; done)), H', ⟨Nat.le_refl _⟩, by repeat (first | exact zax.refl _ | apply zax.step)⟩
  case round =>
   clear H'
   try clear c1
   try clear c2
   try clear p2
   try clear c3
   try clear c3b0
   try clear c3b1
   try clear c3b2
   obtain ⟨x13_1, rfl, HA, HK1, ⟨m1, rfl⟩⟩ := hrel
   cases gk with
   | zero => exact absurd HA.out (by simp [slices_Equal_int_int.l0])
   | succ k1 =>
    have H := HA.out
    clear HA
    simp only [slices_Equal_int_int.l0] at H
    by_cases c4 : x13_1 < (l0.length : Int)
    ·rw [if_pos c4] at H
     have c4b0 : decide (x13_1 < (l0.length : Int)) = true := decide_eq_true c4
     clear c4
     by_cases c5 : 0 ≤ x13_1
     ·rw [if_pos c5] at H
      have c5b0 : decide (0 ≤ x13_1) = true := decide_eq_true c5
      clear c5
      by_cases c6 : x13_1 < (l0.length : Int)
      ·rw [if_pos c6] at H
       have c6b0 : decide (x13_1 < (l0.length : Int)) = true := decide_eq_true c6
       clear c6
       by_cases c7 : x13_1 < (l1.length : Int)
       ·rw [if_pos c7] at H
        have c7b0 : decide (x13_1 < (l1.length : Int)) = true := decide_eq_true c7
        clear c7
        by_cases c8 : (rd l0 x13_1) = (rd l1 x13_1)
        ·rw [if_pos c8] at H
         have c8b0 : ((rd l0 x13_1) == (rd l1 x13_1)) = true := beq_iff_eq.mpr c8
         have c8b1 : ((rd l0 x13_1) != (rd l1 x13_1)) = false := bne_eq_false_iff_eq.mpr c8
         clear c8
         have H' := zaa.mk H
         clear H
         have p101 : 0 ≤ (x13_1 : Int) := of_decide_eq_true (by first | (with_reducible assumption) | assumption)
         have q101 : x13_1 < (l0.length : Int) := of_decide_eq_true (by first | (with_reducible assumption) | assumption)
         obtain ⟨ad101, e101, hx101_0⟩ := Kd.at_int HR0.out x13_1 p101 q101
         cases e101
         replace p101 := eq_true p101
         replace q101 := eq_true q101
         have p102 : 0 ≤ (x13_1 : Int) := of_decide_eq_true (by first | (with_reducible assumption) | assumption)
         have q102 : x13_1 < (l1.length : Int) := of_decide_eq_true (by first | (with_reducible assumption) | assumption)
         obtain ⟨ad102, e102, hx102_0⟩ := Kd.at_int HR1.out x13_1 p102 q102
         cases e102
         replace p102 := eq_true p102
         replace q102 := eq_true q102
         go_wp2
         repeat (go_quiet (fail); try go_wp2)
         go_roundg k1
         case measure => have := HK1.out; omega
         case rel => exact ⟨(wrap64 (x13_1 + 1)), (by first | rfl | (simp; done) | (simp [*]; done)), H', ⟨by have := HK1.out; omega⟩, by repeat (first | exact zax.refl _ | apply zax.step)⟩
        ·rw [if_neg c8] at H
         have c8b0 : ((rd l0 x13_1) == (rd l1 x13_1)) = false := beq_eq_false_iff_ne.mpr c8
         have c8b1 : ((rd l0 x13_1) != (rd l1 x13_1)) = true := bne_iff_ne.mpr c8
         obtain rfl := Option.some.inj H
         have p101 : 0 ≤ (x13_1 : Int) := of_decide_eq_true (by first | (with_reducible assumption) | assumption)
         have q101 : x13_1 < (l0.length : Int) := of_decide_eq_true (by first | (with_reducible assumption) | assumption)
         obtain ⟨ad101, e101, hx101_0⟩ := Kd.at_int HR0.out x13_1 p101 q101
         cases e101
         replace p101 := eq_true p101
         replace q101 := eq_true q101
         have p102 : 0 ≤ (x13_1 : Int) := of_decide_eq_true (by first | (with_reducible assumption) | assumption)
         have q102 : x13_1 < (l1.length : Int) := of_decide_eq_true (by first | (with_reducible assumption) | assumption)
         obtain ⟨ad102, e102, hx102_0⟩ := Kd.at_int HR1.out x13_1 p102 q102
         cases e102
         replace p102 := eq_true p102
         replace q102 := eq_true q102
         go_wp2
         repeat (go_quiet (fail); try go_wp2)
         go_ret
         exact ⟨by first | rfl | (simp; done) | (simp [*]; done), by repeat (first | exact zax.refl _ | apply zax.step)⟩
       ·rw [if_neg c7] at H
        exact absurd H (by simp)
      ·rw [if_neg c6] at H
       exact absurd H (by simp)
     ·rw [if_neg c5] at H
      exact absurd H (by simp)
    ·rw [if_neg c4] at H
     have c4b0 : decide (x13_1 < (l0.length : Int)) = false := decide_eq_false c4
     clear c4
     obtain rfl := Option.some.inj H
     go_wp2
     repeat (go_quiet (fail); try go_wp2)
     go_ret
     exact ⟨by first | rfl | (simp; done) | (simp [*]; done), by repeat (first | exact zax.refl _ | apply zax.step)⟩
 ·rw [if_neg c3] at H
  have c3b0 : ((l0.length : Int) == (l1.length : Int)) = false := beq_eq_false_iff_ne.mpr c3
  have c3b1 : ((l0.length : Int) != (l1.length : Int)) = true := bne_iff_ne.mpr c3
  have c3b2 : (l0.length == l1.length) = false := by first | simpa using c3 | (simp at c3 ⊢; omega)
  obtain rfl := Option.some.inj H
  go_enter Try.func26, Try.ntmps26
  go_wp2
  repeat (go_quiet (fail); try go_wp2)
  go_ret
  exact ⟨by first | rfl | (simp; done) | (simp [*]; done), by repeat (first | exact zax.refl _ | apply zax.step)⟩
end Go.Proofs.Ytgiidlebnjbgeaa.PC
namespace Go.Proofs.Ytgiidlebnjbgeaa.Hd
open Go.RowKit Go.PW.PrintWords Go.PW.PrintLast Go.PW.PrintMore
def BRow (W : World) (base : Nat) (g : Nat) (cap : Nat) (e : TypeId) (xs : List Int) : Prop :=
 ∃ (cur : Array Value), base ≤ g ∧ W.heap[g]? = some (.cells cur e (cur.size, cur.size + 1)) ∧ xs.length ≤ cur.size ∧ cur.toList.take xs.length = nums .u8 xs
section
variable {W : World} {base g cap : Nat} {e : TypeId} {xs : List Int}
theorem BRow.cell (h : BRow W base g cap e xs) (i : Nat) (hi : i < xs.length) : W.cell? ⟨g, i, none⟩ = some (.int .u8 (xs.getD i 0)) ∧ W.frozen? ⟨g, i, none⟩ = false := by
 obtain ⟨cur, hb, hg, hl, ht⟩ := h
 have h1 : cur.toList[i]? = some (.int .u8 (xs.getD i 0)) := by
  have h2 : (cur.toList.take xs.length)[i]? = some (.int .u8 (xs.getD i 0)) := by
   rw [ht]; simp [nums, List.getD_eq_getElem?_getD, hi]
  rw [List.getElem?_take] at h2
  simpa [hi] using h2
 constructor
 ·simp only [World.cell?, hg]
  simpa using h1
 ·have : ¬ cur.size ≤ i := by omega
  simp [World.frozen?, hg, this]
theorem BRow.set (h : BRow W base g cap e xs) (i : Nat) (x : Int) : BRow (W.setCell ⟨g, i, none⟩ (.int .u8 x)) base g cap e (xs.set i x) := by
 obtain ⟨cur, hb, hg, hl, ht⟩ := h
 refine ⟨cur.setIfInBounds i (.int .u8 x), hb, ?_, ?_, ?_⟩
 ·simp [World.setCell, Array.getElem?_modify, hg]
 ·simpa using hl
 ·rw [Array.toList_setIfInBounds, List.length_set, List.take_set, ht]
  simp [nums]
theorem BRow.move (h : BRow W base g cap e xs) {W1 : World} (hm : W1.heap[g]? = W.heap[g]?) : BRow W1 base g cap e xs := by
 obtain ⟨cur, hb, hg, hl, ht⟩ := h
 exact ⟨cur, hb, hm.trans hg, hl, ht⟩
theorem BRow.reads (h : BRow W base g cap e xs) (hm : xs.length ≤ 9223372036854775807) : (Kd.int .u8).C W (some ⟨g, 0, none⟩) xs.length xs := by
 refine ⟨rfl, hm, fun _ => ⟨_, rfl, fun j p hj => ?_⟩⟩
 have hjl := (List.getElem?_eq_some_iff.1 hj).1
 refine ⟨[.int .u8 p], rfl, rfl, fun i u hu => ?_⟩
 have hi : i = 0 := by
  rcases Nat.eq_zero_or_pos i with h0 | h0
  ·exact h0
  ·rw [List.getElem?_eq_none (by simp; omega)] at hu; cases hu
 subst hi
 have hu' : Value.int .u8 p = u := by simpa using hu
 subst hu'
 have h1 := (h.cell j hjl).1
 rw [List.getD_eq_getElem?_getD, hj] at h1
 show W.cell? ((⟨g, 0, none⟩ : Addr).add (j * 1 + 0)) = _
 rw [Nat.mul_one, Nat.add_zero, add_plain]
 exact h1
end
section
variable {P : Program} {ops : Array Oper} {rest : List Oper} {o : Oper} {a : Act} {Q : Exit → Act → World → Prop}
end
end Go.Proofs.Ytgiidlebnjbgeaa.Hd
namespace Go.Proofs.Ytgiidlebnjbgeaa.SM
open Go.Proofs.Ytgiidlebnjbgeaa.PB Go.Proofs.Ytgiidlebnjbgeaa.Hd
open Go.RowKit Go.PW.PrintWords Go.PW.PrintLast Go.PW.PrintMore
attribute [local go_sem] zcc zca zcr zcq zbu zbt zcb zbz   -- for this text's walks alone
def errW : Option Int → Value
 | none => .nilIface
 | some c => .iface 0 (.int .i64 c)
theorem zan : errW none = .nilIface := rfl
theorem zam (c : Int) : errW (some c) = .iface 0 (.int .i64 c) := rfl
theorem info5 : (Try.prog.info? 5).map (fun i => (i.zero, i.size, i.bytes)) = some (some (.int .u8 0), 1, 1) := by kernel_rfl
theorem info38 : (Try.prog.info? 38).map (fun i => (i.zero, i.size, i.bytes)) = some (some (.agg #[(.int .u8 0), (.slice none 0 0)]), 2, 32) := by kernel_rfl
structure S38 where
 f0 : Int
 f1 : (List S38)
def z38 : S38 := ⟨(0 : Int), ([] : List S38)⟩
def F38 (d : Kd S38) : Kd S38 := Kd.iso (Kd.pair (Kd.int .u8) (Kd.slice 38 d)) (fun x : S38 => (x.f0, x.f1))
theorem mono38 : Kd.Mono F38 := Kd.mono_iso _ (Kd.mono_pair (Kd.mono_const _) (Kd.mono_slice 38 Kd.mono_id))
theorem sub38 : Kd.Sub F38 [38] := Kd.sub_iso _ (Kd.sub_pair (Kd.sub_const _ (by decide)) (Kd.sub_slice 38 (by decide) Kd.sub_id))
theorem sz38 : ∀ n, (Kd.upto F38 2 [38] n).sz = 2 := Kd.upto_sz (fun _ => rfl)
def k38 : Kd S38 := Kd.fix F38 2 [38] sz38 (Kd.upto_E sub38)
theorem k38_open {w : World} {x : S38} {cs : List Value} (h : k38.K w x cs) : ∃ A1 c1, cs = [.int .u8 x.f0, .slice A1 x.f1.length c1] ∧ x.f1.length ≤ c1 ∧ k38.C w A1 x.f1.length x.f1 := by
 obtain ⟨n, h⟩ := h
 cases n with
 | zero => exact h.elim
 | succ n =>
  obtain ⟨_, _, rfl, rfl, ⟨A1, c1, rfl, l1, g1⟩⟩ := h
  exact ⟨A1, c1, rfl, l1, Kd.fix_C g1⟩
theorem k38_mk (w : World) (x : S38) {A1 : Option Addr} {c1 : Nat} (l1 : x.f1.length ≤ c1) (g1 : k38.C w A1 x.f1.length x.f1) : k38.K w x [.int .u8 x.f0, .slice A1 x.f1.length c1] := by
 obtain ⟨n1, q1⟩ := Kd.fix_C_back mono38 g1
 have r1 := Kd.upto_C_le mono38 sz38 (show n1 ≤ n1 by omega) q1
 exact ⟨n1 + 1, ⟨[.int .u8 x.f0], [.slice A1 x.f1.length c1], rfl, rfl, ⟨A1, c1, rfl, l1, r1⟩⟩⟩
theorem k38_openF {W : World} {ok : Nat → Prop} {x : S38} {cs : List Value} (h : Kd.FK k38 W ok x cs) : ∃ A1 c1, cs = [.int .u8 x.f0, .slice A1 x.f1.length c1] ∧ x.f1.length ≤ c1 ∧ Kd.F k38 W ok A1 x.f1.length x.f1 := by
 obtain ⟨A1, c1, rfl, l1, _⟩ := k38_open (Kd.FK_now h)
 exact ⟨A1, c1, rfl, l1, (fun W' hW => by obtain ⟨A1_, c1_, he, l1_, g1_⟩ := k38_open (h W' hW); injection (Option.some.inj (show some (Value.slice A1 x.f1.length c1) = some (Value.slice A1_ x.f1.length c1_) from congrArg (fun l => l[1]?) he)) with ha_ _ _; rw [ha_]; exact g1_)⟩
theorem k38_mkF (W : World) (ok : Nat → Prop) (x : S38) {A1 : Option Addr} {c1 : Nat} (l1 : x.f1.length ≤ c1) (g1 : Kd.F k38 W ok A1 x.f1.length x.f1) : Kd.FK k38 W ok x [.int .u8 x.f0, .slice A1 x.f1.length c1] := fun W2 hW => k38_mk W2 x l1 (g1 W2 hW)
def zay (xs : List S38) (i : Int) : S38 := xs.getD i.toNat z38
theorem at_T38 {w : World} {A : Option Addr} {n : Nat} {xs : List S38} (h : Kd.C k38 w A n xs) (i : Int) (h0 : 0 ≤ i) (h1 : i < n) : ∃ ad A1 c1, A = some ad ∧ w.cell? (ad.add (i.toNat * 2)) = some (.int .u8 (zay xs i).f0) ∧ w.cell? ⟨(ad.add (i.toNat * 2)).block, (ad.add (i.toNat * 2)).off + 1, none⟩ = some (.slice A1 (zay xs i).f1.length c1) ∧ (zay xs i).f1.length ≤ c1 ∧ k38.C w A1 (zay xs i).f1.length (zay xs i).f1 := by
 obtain ⟨ad, c, e, _, hK, hc0⟩ := Kd.C_get h z38 i h0 h1
 have hc : ∀ j u, c[j]? = some u → w.cell? (ad.add (i.toNat * 2 + j)) = some u := hc0
 obtain ⟨A1, c1, rfl, l1, g1⟩ := k38_open hK
 exact ⟨ad, A1, c1, e, hc 0 _ rfl, by rw [← add_field _ _ 1 (by omega)]; exact hc 1 _ rfl, l1, g1⟩
end Go.Proofs.Ytgiidlebnjbgeaa.SM
