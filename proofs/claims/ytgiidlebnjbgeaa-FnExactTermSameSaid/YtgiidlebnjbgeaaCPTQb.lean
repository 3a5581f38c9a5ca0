/- Part 2 of the proof of FnExactTermSame: what the program's functions and the reference's compute. -/
import Derived.Below
import Derived.Deep.Draws
import Derived.Deep.AppendLies
import Derived.Maps.AppendAt
import Derived.OwnWalk
import Derived.Laws.BytesArg
import Derived.Laws.MakeOwn
import Derived.Laws.OwnMore
import Derived.Deep.OwnRows
import Derived.Tactics
import Derived.Lib.ConvBytes
import Derived.Laws.Slices
import Derived.WalkKit
import Derived.KernelRfl
import Derived.RowKit3
import Derived.Deep.LoopGhost
import Derived.Deep.QuietTactic
import Derived.BigQuiet
import Derived.WideLaws
import Derived.Deep.DeepCutAuto
import Derived.Deep.CutBlock
import Derived.Deep.RegionHeld3
import Derived.Laws.Rows
import Derived.Lib.AppendStr
import Derived.ArgAppend
import Derived.Laws.IdiomCopy
import Derived.RowKit
import Derived.OrdersHeld
import Derived.Laws.BitsLemmas
import Derived.Laws.StructEq
import Derived.SizedLaws
import Derived.ChangeSlices
import Derived.Test.YtgiidlebnjbgeaaProg
import Derived.Lib.Strings
import Derived.Lib.Bytealg
import Derived.Laws.Strings3
import Derived.Laws.AppendOwn
import Derived.Lib.SliceRun
import Derived.Lib.LazyBuf
import Derived.Test.YtgiidlebnjbgeaaRows
import Derived.ProofKit
import Derived.OpenShut
import Derived.ShutString
import Derived.ChangeOld
import Derived.Test.YtgiidlebnjbgeaaCPTQa
set_option linter.unusedSimpArgs false
set_option linter.unusedVariables false
namespace Go.Proofs.Ytgiidlebnjbgeaa.PB
open Go.RowKit Go.PW.PrintWords Go.PW.PrintLast Go.PW.PrintMore
attribute [local go_sem] zbu zbs zcc zcb zbf zbe zbt zbr   -- for this text's walks alone
def errW : Option Int → Value
 | none => .nilIface
 | some c => .iface 0 (.int .i64 c)
theorem zam : errW none = .nilIface := rfl
theorem zal (c : Int) : errW (some c) = .iface 0 (.int .i64 c) := rfl
theorem info3 : (Try.prog.info? 3).map (fun i => (i.zero, i.size, i.bytes)) = some (some (.int .i64 0), 1, 8) := by kernel_rfl
structure S38 where
 f0 : Int
 f1 : (List S38)
def z38 : S38 := ⟨(0 : Int), ([] : List S38)⟩
def F38 (d : Kd S38) : Kd S38 := Kd.iso (Kd.pair (Kd.int .u8) (Kd.slice 38 d)) (fun x : S38 => (x.f0, x.f1))
theorem mono38 : Kd.Mono F38 := Kd.mono_iso _ (Kd.mono_pair (Kd.mono_const _) (Kd.mono_slice 38 Kd.mono_id))
theorem sub38 : Kd.Sub F38 [38] := Kd.sub_iso _ (Kd.sub_pair (Kd.sub_const _ (by decide)) (Kd.sub_slice 38 (by decide) Kd.sub_id))
theorem sz38 : ∀ n, (Kd.upto F38 2 [38] n).sz = 2 := Kd.upto_sz (fun _ => rfl)
def k38 : Kd S38 := Kd.fix F38 2 [38] sz38 (Kd.upto_E sub38)
theorem k38_open {w : World} {x : S38} {cs : List Value} (h : k38.K w x cs) : ∃ A1 c1, cs = [.int .u8 x.f0, .slice A1 x.f1.length c1] ∧ x.f1.length ≤ c1 ∧ k38.C w A1 x.f1.length x.f1 := by
 obtain ⟨n, h⟩ := h
 cases n with
 | zero => exact h.elim
 | succ n =>
  obtain ⟨_, _, rfl, rfl, ⟨A1, c1, rfl, l1, g1⟩⟩ := h
  exact ⟨A1, c1, rfl, l1, Kd.fix_C g1⟩
theorem k38_mk (w : World) (x : S38) {A1 : Option Addr} {c1 : Nat} (l1 : x.f1.length ≤ c1) (g1 : k38.C w A1 x.f1.length x.f1) : k38.K w x [.int .u8 x.f0, .slice A1 x.f1.length c1] := by
 obtain ⟨n1, q1⟩ := Kd.fix_C_back mono38 g1
 have r1 := Kd.upto_C_le mono38 sz38 (show n1 ≤ n1 by omega) q1
 exact ⟨n1 + 1, ⟨[.int .u8 x.f0], [.slice A1 x.f1.length c1], rfl, rfl, ⟨A1, c1, rfl, l1, r1⟩⟩⟩
def zas (xs : List S38) (i : Int) : S38 := xs.getD i.toNat z38
theorem at_T38 {w : World} {A : Option Addr} {n : Nat} {xs : List S38} (h : Kd.C k38 w A n xs) (i : Int) (h0 : 0 ≤ i) (h1 : i < n) : ∃ ad A1 c1, A = some ad ∧ w.cell? (ad.add (i.toNat * 2)) = some (.int .u8 (zas xs i).f0) ∧ w.cell? ⟨(ad.add (i.toNat * 2)).block, (ad.add (i.toNat * 2)).off + 1, none⟩ = some (.slice A1 (zas xs i).f1.length c1) ∧ (zas xs i).f1.length ≤ c1 ∧ k38.C w A1 (zas xs i).f1.length (zas xs i).f1 := by
 obtain ⟨ad, c, e, _, hK, hc0⟩ := Kd.C_get h z38 i h0 h1
 have hc : ∀ j u, c[j]? = some u → w.cell? (ad.add (i.toNat * 2 + j)) = some u := hc0
 obtain ⟨A1, c1, rfl, l1, g1⟩ := k38_open hK
 exact ⟨ad, A1, c1, e, hc 0 _ rfl, by rw [← add_field _ _ 1 (by omega)]; exact hc 1 _ rfl, l1, g1⟩
end Go.Proofs.Ytgiidlebnjbgeaa.PB
namespace Go.Proofs.Ytgiidlebnjbgeaa.PB
open Go.RowKit Go.PW.PrintWords Go.PW.PrintLast Go.PW.PrintMore
attribute [local go_sem] zbu zbs zcc zcb zbf zbe zbt zbr   -- for this text's walks alone
def spec_l11Rooms.l0 : Nat → ByteArray → Int → Int → Option (Int)
 | 0, _, _, _ => none
 | k + 1, x0, x3, x4 => if x4 < (x0.size : Int) then (if 0 ≤ x4 then (if (bt x0 x4) = 111 then (spec_l11Rooms.l0 k x0 (wrap64 (x3 + 1)) (wrap64 (x4 + 1))) else (spec_l11Rooms.l0 k x0 x3 (wrap64 (x4 + 1)))) else (none)) else (some x3)
def spec_l11Rooms.f (k : Nat) (a0 : ByteArray) : Option (Int) := spec_l11Rooms.l0 k a0 0 0
set_option maxHeartbeats 8000000 in
set_option maxRecDepth 100000 in
theorem spec_l11Rooms.calls (k : Nat) (a0 : ByteArray) (r : Int) (w : World) (h : spec_l11Rooms.f k a0 = some r) :
  Calls Try.prog 34 #[.string a0] w fun e w' => e = .returned (.int .i64 r) ∧ zao w w' := by
 have H : (spec_l11Rooms.l0 k a0 0 0) = some r := h
 clear h
 have H' := zaa.mk H
 clear H
 go_enter Try.func34, Try.ntmps34
 go_wp2
 go_loopg [3, 4] k (fun kq v3 v4 w' => ∃ (x3_1 : Int) (x4_1 : Int), v3 = .int .i64 x3_1 ∧ v4 = .int .i64 x4_1 ∧ zaa (spec_l11Rooms.l0 kq a0 x3_1 x4_1 = some r) ∧ zaa (kq ≤ k) ∧ zao w w')
 case atStart => exact ⟨(0), (0), (by first | rfl | (simp; done) | (simp [*]; done)), (by first | rfl | (simp; done) | (simp [*]; done)), H', ⟨Nat.le_refl _⟩, by repeat (first | exact zao.refl _ | apply zao.step)⟩
 case round =>
  clear H'
  obtain ⟨x3_1, x4_1, rfl, rfl, HA, HK1, ⟨m1, rfl⟩⟩ := hrel
  cases gk with
  | zero => exact absurd HA.out (by simp [spec_l11Rooms.l0])
  | succ k1 =>
   have H := HA.out
   clear HA
   simp only [spec_l11Rooms.l0] at H
   by_cases c2 : x4_1 < (a0.size : Int)
   ·rw [if_pos c2] at H
    have c2b0 : decide (x4_1 < (a0.size : Int)) = true := decide_eq_true c2
    clear c2
    by_cases c3 : 0 ≤ x4_1
    ·rw [if_pos c3] at H
     have c3b0 : decide (0 ≤ x4_1) = true := decide_eq_true c3
     clear c3
     by_cases c5 : (bt a0 x4_1) = 111
     ·rw [if_pos c5] at H
      have c5b0 : ((bt a0 x4_1) == 111) = true := beq_iff_eq.mpr c5
      have c5b1 : ((bt a0 x4_1) != 111) = false := bne_eq_false_iff_eq.mpr c5
      clear c5
      have H' := zaa.mk H
      clear H
      have p4 : 0 ≤ (x4_1 : Int) := of_decide_eq_true (by first | (with_reducible assumption) | assumption)
      have q4 : x4_1 < (a0.size : Int) := of_decide_eq_true (by first | (with_reducible assumption) | assumption)
      have hx4 := bt_at a0 x4_1
      replace p4 := eq_true p4
      replace q4 := eq_true q4
      go_wp2
      go_roundg k1
      case measure => have := HK1.out; omega
      case rel => exact ⟨(wrap64 (x3_1 + 1)), (wrap64 (x4_1 + 1)), (by first | rfl | (simp; done) | (simp [*]; done)), (by first | rfl | (simp; done) | (simp [*]; done)), H', ⟨by have := HK1.out; omega⟩, by repeat (first | exact zao.refl _ | apply zao.step)⟩
     ·rw [if_neg c5] at H
      have c5b0 : ((bt a0 x4_1) == 111) = false := beq_eq_false_iff_ne.mpr c5
      have c5b1 : ((bt a0 x4_1) != 111) = true := bne_iff_ne.mpr c5
      have H' := zaa.mk H
      clear H
      have p4 : 0 ≤ (x4_1 : Int) := of_decide_eq_true (by first | (with_reducible assumption) | assumption)
      have q4 : x4_1 < (a0.size : Int) := of_decide_eq_true (by first | (with_reducible assumption) | assumption)
      have hx4 := bt_at a0 x4_1
      replace p4 := eq_true p4
      replace q4 := eq_true q4
      go_wp2
      go_roundg k1
      case measure => have := HK1.out; omega
      case rel => exact ⟨(x3_1), (wrap64 (x4_1 + 1)), (by first | rfl | (simp; done) | (simp [*]; done)), (by first | rfl | (simp; done) | (simp [*]; done)), H', ⟨by have := HK1.out; omega⟩, by repeat (first | exact zao.refl _ | apply zao.step)⟩
    ·rw [if_neg c3] at H
     exact absurd H (by simp)
   ·rw [if_neg c2] at H
    have c2b0 : decide (x4_1 < (a0.size : Int)) = false := decide_eq_false c2
    clear c2
    obtain rfl := Option.some.inj H
    go_wp2
    go_ret
    exact ⟨by first | rfl | (simp; done) | (simp [*]; done), by repeat (first | exact zao.refl _ | apply zao.step)⟩
def spec_l6More.l0 : Nat → List Int → Int → List Int → Int → Option (List Int)
 | 0, _, _, _, _ => none
 | k + 1, x0, x1, x5, x6 => if x6 < (x0.length : Int) then (if 0 ≤ x6 then (if x5.length < 17592186044416 then (spec_l6More.l0 k x0 x1 (x5 ++ [wrap64 ((rd x0 x6) + x1)]) (wrap64 (x6 + 1))) else (none)) else (none)) else (some x5)
def spec_l6More.f (k : Nat) (l0 : List Int) (a1 : Int) : Option (List Int) := spec_l6More.l0 k l0 a1 (([] : List Int)) 0
set_option maxHeartbeats 8000000 in
set_option maxRecDepth 100000 in
theorem spec_l6More.calls (k : Nat) (A0 : Option Addr) (c0 : Nat) (l0 : List Int) (a1 : Int) (r : List Int) (w : World) (hr0 : Kd.C (Kd.int .i64) w A0 l0.length l0) (hc0 : l0.length ≤ c0) (h : spec_l6More.f k l0 a1 = some r) :
  Calls Try.prog 36 #[.slice A0 l0.length c0, .int .i64 a1] w fun e w' => ∃ v0_ : Value, e = .returned (v0_) ∧ Kd.R (Kd.int .i64) 3 w' w.heap.size (fun _ => True) v0_ r ∧ Below w.heap.size w w' := by
 have HR0 := zaa.mk hr0
 have HC0 := zaa.mk hc0
 clear hr0 hc0
 have HB := zaa.mk (Below.refl w.heap.size w)
 have H : (spec_l6More.l0 k l0 a1 (([] : List Int)) 0) = some r := h
 clear h
 obtain ⟨y138, hy138⟩ : ∃ y_ : List Int, y_ = (([] : List Int)) := ⟨_, rfl⟩
 replace H : (spec_l6More.l0 k l0 a1 y138 0) = some r := by first | (rw [hy138]; with_reducible exact H) | (have H2_ := (Option.bind_some _ _).symm.trans H; rw [hy138]; with_reducible exact H2_) | (have H2_ := (Option.bind_some _ _).symm.trans H; with_reducible exact H2_) | with_reducible exact H | (rw [hy138]; exact H) | exact H
 have Ny138 := zaa.mk hy138
 clear hy138
 have H' := zaa.mk H
 clear H
 go_enter Try.func36, Try.ntmps36
 go_wp2_with (first | ((with_reducible refine zba (N := 7) rfl ?_); refine Kd.R_lit (Kd.int .i64) _ 3 ?hg (N := 7) ?hd (xs := ([] : List Int)) (inner := []) (ok := fun _ => True) (okp := fun _ => True) ?hr ?hp (fun _ hk => hk) trivial (Below.refl _ _) (Nat.le_refl _) (by simp) ?_; (case hd => rfl); (case hg => rfl); (case hr => first | (go_simp; done) | (go_simp; rfl)); (case hp => exact (Reps.none _ _)); intro v139 w3 ho4 hb hg_ hnew_; clear hg_ hnew_; (first | rw [← Ny138.out] at ho4 | (simp only [Int.reduceToNat] at ho4; rw [← Ny138.out] at ho4)); have n0_ := zaa.mk (Kd.R_lower ho4 (zan (by repeat (first | (with_reducible first | exact HB.out | apply zab | apply zac | apply zaf) | exact HB.out)))); have n1_ := zaa.mk (zae (by repeat (first | (with_reducible first | exact HB.out | apply zab | apply zac | apply zaf) | exact HB.out)) hb); clear HB; have HO140 := n0_; have HB := n1_; clear n0_ n1_; clear hb ho4))
 go_loopg [5, 6] k (fun kq v5 v6 w' => ∃ (x5_1 : List Int) (x6_1 : Int), v6 = .int .i64 x6_1 ∧ zaa (spec_l6More.l0 kq l0 a1 x5_1 x6_1 = some r) ∧ zaa (kq ≤ k) ∧ zaa (Kd.R (Kd.int .i64) 3 w' w.heap.size (fun _ => True) v5 x5_1) ∧ zaa (Below w.heap.size w w'))
 case atStart => exact ⟨(y138), (0), (by first | rfl | (simp; done) | (simp [*]; done)), H', ⟨Nat.le_refl _⟩, ⟨by (with_reducible repeat (first | apply Kd.R_alloc | apply Kd.R_drewN | apply Kd.R_drew)); exact HO140.out⟩, ⟨by repeat (first | (with_reducible first | exact HB.out | apply zab | apply zac | apply zaf) | exact HB.out)⟩⟩
 case round =>
  clear H'
  try clear p2
  try clear c3
  obtain ⟨x5_1, x6_1, rfl, HA, HK1, HO_5, HB⟩ := hrel
  cases gk with
  | zero => exact absurd HA.out (by simp [spec_l6More.l0])
  | succ k1 =>
   have H := HA.out
   clear HA
   simp only [spec_l6More.l0] at H
   by_cases c5 : x6_1 < (l0.length : Int)
   ·rw [if_pos c5] at H
    have c5b0 : decide (x6_1 < (l0.length : Int)) = true := decide_eq_true c5
    clear c5
    by_cases c6 : 0 ≤ x6_1
    ·rw [if_pos c6] at H
     have c6b0 : decide (0 ≤ x6_1) = true := decide_eq_true c6
     clear c6
     by_cases c7 : x5_1.length < 17592186044416
     ·rw [if_pos c7] at H
      have LMc7 := zaa.mk c7
      clear c7
      obtain ⟨y142, hy142⟩ : ∃ y_ : List Int, y_ = (x5_1 ++ [wrap64 ((rd l0 x6_1) + a1)]) := ⟨_, rfl⟩
      replace H : (spec_l6More.l0 k1 l0 a1 y142 (wrap64 (x6_1 + 1))) = some r := by first | (rw [hy142]; with_reducible exact H) | (have H2_ := (Option.bind_some _ _).symm.trans H; rw [hy142]; with_reducible exact H2_) | (have H2_ := (Option.bind_some _ _).symm.trans H; with_reducible exact H2_) | with_reducible exact H | (rw [hy142]; exact H) | exact H
      have Ny142 := zaa.mk hy142
      clear hy142
      have H' := zaa.mk H
      clear H
      have p141 : 0 ≤ (x6_1 : Int) := of_decide_eq_true (by first | (with_reducible assumption) | assumption)
      have q141 : x6_1 < (l0.length : Int) := of_decide_eq_true (by first | (with_reducible assumption) | assumption)
      obtain ⟨ad141, e141, hx141_0⟩ := Kd.at_int HR0.out x6_1 p141 q141
      cases e141
      replace hx141_0 := (HB.out.cell (World.block_lt_of_cell? w _ hx141_0)).trans hx141_0
      replace p141 := eq_true p141
      replace q141 := eq_true q141
      go_wp2_with (first | ((with_reducible refine zbn (b := .append) (xs := #[.tmp 14, .tmp 21]) rfl ?_); at_builtin; refine Kd.R_append (Kd.int .i64) (w0 := w) w.heap.size rfl (.tmp 14) (.tmp 21) 22 3 (.int .i64 0) 8 rfl Try.underlying22 info3 rfl (by decide) (by omega) u5 x5_1 (wrap64 ((rd l0 x6_1) + a1)) [.int .i64 (wrap64 ((rd l0 x6_1) + a1))] (fun _ => True) (fun _ => False) rfl rfl ?aP (fun _ hk => hk.elim) ?aF ?aO ?aB ?aS ?aL ?_; (case aP => exact rfl); (case aB => exact (by repeat (first | (with_reducible first | exact HB.out | apply zab | apply zac | apply zaf) | exact HB.out))); (case aF => exact (fun _ _ => trivial)); (case aO => exact (by (with_reducible repeat (first | apply Kd.R_alloc | apply Kd.R_drewN | apply Kd.R_drew)); exact HO_5.out)); (case aS => exact (zan (by repeat (first | (with_reducible first | exact HB.out | apply zab | apply zac | apply zaf) | exact HB.out)))); (case aL => have := LMc7.out; omega); intro v143 w8 ho hb hg hat; rw [← Ny142.out] at ho; have n0_ := zaa.mk (hb); have n1_ := zaa.mk (ho); clear HB; clear HO_5; have HB := n0_; have HO144 := n1_; clear n0_ n1_; clear ho hb hg hat))
      go_roundg k1
      case measure => have := HK1.out; omega
      case rel => exact ⟨(y142), (wrap64 (x6_1 + 1)), (by first | rfl | (simp; done) | (simp [*]; done)), H', ⟨by have := HK1.out; omega⟩, ⟨by (with_reducible repeat (first | apply Kd.R_alloc | apply Kd.R_drewN | apply Kd.R_drew)); exact HO144.out⟩, ⟨by repeat (first | (with_reducible first | exact HB.out | apply zab | apply zac | apply zaf) | exact HB.out)⟩⟩
     ·rw [if_neg c7] at H
      exact absurd H (by simp)
    ·rw [if_neg c6] at H
     exact absurd H (by simp)
   ·rw [if_neg c5] at H
    have c5b0 : decide (x6_1 < (l0.length : Int)) = false := decide_eq_false c5
    clear c5
    obtain rfl := Option.some.inj H
    go_wp2
    go_ret
    exact ⟨_, by first | rfl | (simp [zam, zal] <;> rfl) | (simp [*, zam, zal] <;> rfl), by (with_reducible repeat (first | apply Kd.R_alloc | apply Kd.R_drewN | apply Kd.R_drew)); exact HO_5.out, by repeat (first | (with_reducible first | exact HB.out | apply zab | apply zac | apply zaf) | exact HB.out)⟩
def spec_l11Perm.f : Nat → Int → List (S38) → Option (List Int)
 | 0, _, _ => none
 | k + 1, a0_0, l0_1 => if a0_0 = 111 then (some (([0] : List Int))) else (if 0 < (l0_1.length : Int) then ((spec_l11Perm.f k ((zas l0_1 0).f0) ((zas l0_1 0).f1)).bind fun t150 => (if 1 < (l0_1.length : Int) then ((spec_l11Perm.f k ((zas l0_1 1).f0) ((zas l0_1 1).f1)).bind fun t154 => (if a0_0 = 124 then ((some (([] : List Int) : List Int)).bind fun y157 => (if y157.length + t150.length < 17592186044416 then ((some (y157 ++ t150 : List Int)).bind fun y160 => ((spec_l6More.f k t154 (t150.length : Int)).bind fun t163 => (if y160.length + t163.length < 17592186044416 then (some (y160 ++ t163)) else (none)))) else (none))) else ((spec_l6More.f k t154 (t150.length : Int)).bind fun t169 => (if t169.length + t150.length < 17592186044416 then (some (t169 ++ t150)) else (none))))) else (none))) else (none))
set_option maxHeartbeats 8000000 in
set_option maxRecDepth 100000 in
theorem spec_l11Perm.calls (k : Nat) : ∀ (a0_0 : Int) (A0_1 : Option Addr) (c0_1 : Nat) (l0_1 : List (S38)) (r : List Int) (w : World) (hr0_1 : Kd.C k38 w A0_1 l0_1.length l0_1) (hc0_1 : l0_1.length ≤ c0_1) (h : spec_l11Perm.f k a0_0 l0_1 = some r),
  Calls Try.prog 20 #[.agg #[.int .u8 a0_0, .slice A0_1 l0_1.length c0_1]] w fun e w' => ∃ v0_ : Value, e = .returned (v0_) ∧ Kd.R (Kd.int .i64) 3 w' w.heap.size (fun _ => True) v0_ r ∧ Below w.heap.size w w' := by
 induction k using Nat.strongRecOn with
 | _ k ih =>
 intro a0_0 A0_1 c0_1 l0_1 r w hr0_1 hc0_1 h
 cases k with
 | zero => exact absurd h (by simp [spec_l11Perm.f])
 | succ k =>
 simp only [spec_l11Perm.f] at h
 have hu38 := Try.underlying38
 have HR0_1 := zaa.mk hr0_1
 have HC0_1 := zaa.mk hc0_1
 clear hr0_1 hc0_1
 have HB := zaa.mk (Below.refl w.heap.size w)
 have H : (if a0_0 = 111 then (some (([0] : List Int))) else (if 0 < (l0_1.length : Int) then ((spec_l11Perm.f k ((zas l0_1 0).f0) ((zas l0_1 0).f1)).bind fun t150 => (if 1 < (l0_1.length : Int) then ((spec_l11Perm.f k ((zas l0_1 1).f0) ((zas l0_1 1).f1)).bind fun t154 => (if a0_0 = 124 then ((some (([] : List Int) : List Int)).bind fun y157 => (if y157.length + t150.length < 17592186044416 then ((some (y157 ++ t150 : List Int)).bind fun y160 => ((spec_l6More.f k t154 (t150.length : Int)).bind fun t163 => (if y160.length + t163.length < 17592186044416 then (some (y160 ++ t163)) else (none)))) else (none))) else ((spec_l6More.f k t154 (t150.length : Int)).bind fun t169 => (if t169.length + t150.length < 17592186044416 then (some (t169 ++ t150)) else (none))))) else (none))) else (none))) = some r := h
 clear h
 by_cases c2 : a0_0 = 111
 ·rw [if_pos c2] at H
  have c2b0 : (a0_0 == 111) = true := beq_iff_eq.mpr c2
  have c2b1 : (a0_0 != 111) = false := bne_eq_false_iff_eq.mpr c2
  clear c2
  obtain ⟨y146, hy146⟩ : ∃ y_ : List Int, y_ = (([0] : List Int)) := ⟨_, rfl⟩
  replace H : (some y146) = some r := by first | (rw [hy146]; with_reducible exact H) | (have H2_ := (Option.bind_some _ _).symm.trans H; rw [hy146]; with_reducible exact H2_) | (have H2_ := (Option.bind_some _ _).symm.trans H; with_reducible exact H2_) | with_reducible exact H | (rw [hy146]; exact H) | exact H
  have Ny146 := zaa.mk hy146
  clear hy146
  obtain rfl := Option.some.inj H
  go_enter Try.func20, Try.ntmps20
  go_wp2_with (first | ((with_reducible refine zba (N := 1) rfl ?_); refine box_event ?hg (N := 1) ?hd (cs := #[.int .u8 a0_0, .slice A0_1 l0_1.length c0_1]) (t := 38) ?hr ?_; (case hd => rfl); (case hg => rfl); (case hr => first | (go_simp; done) | (go_simp; rfl)); intro gb145 hg w3 hbox hb; have n0_ := zaa.mk (zae (by repeat (first | (with_reducible first | exact HB.out | apply zab | apply zac | apply zaf) | exact HB.out)) hb); have n1_ := zaa.mk (hbox); have n2_ := zaa.mk ((by rw [hg]; exact (zan (by repeat (first | (with_reducible first | exact HB.out | apply zab | apply zac | apply zaf) | exact HB.out))) : w.heap.size ≤ gb145)); have n3_ := zaa.mk ((by rw [hg]; exact (zan (by repeat (first | (with_reducible first | exact HB.out | apply zab | apply zac | apply zaf) | exact HB.out))) : w.heap.size ≤ gb145)); clear HB; have HB := n0_; have BK145 := n1_; have GW145 := n2_; have GE145 := n3_; clear n0_ n1_ n2_ n3_; clear hb hbox hg; have hcz4_0 : w3.cell? ⟨gb145, 0, none⟩ = some (.int .u8 a0_0) := (zad BK145.out 0).trans rfl; have hcz4_1 : w3.cell? ⟨gb145, 1, none⟩ = some (.slice A0_1 l0_1.length c0_1) := (zad BK145.out 1).trans rfl; have hfz4_0 := zag BK145.out 0; have hfz4_1 := zag BK145.out 1) | ((with_reducible refine zba (N := 8) rfl ?_); refine Kd.R_lit (Kd.int .i64) _ 3 ?hg (N := 8) ?hd (xs := ([0] : List Int)) (inner := [.int .i64 0]) (ok := fun _ => True) (okp := fun _ => True) ?hr ?hp (fun _ hk => hk) trivial (Below.refl _ _) (Nat.le_refl _) (by simp) ?_; (case hd => rfl); (case hg => rfl); (case hr => first | (go_simp; done) | (go_simp; rfl)); (case hp => exact (Reps.one (show Kd.M (Kd.int .i64) _ _ _ 0 [.int .i64 0] from rfl) (Reps.none _ _))); intro v147 w5 ho6 hb hg_ hnew_; clear hg_ hnew_; (first | rw [← Ny146.out] at ho6 | (simp only [Int.reduceToNat] at ho6; rw [← Ny146.out] at ho6)); have n0_ := zaa.mk (Kd.R_lower ho6 (zan (by repeat (first | (with_reducible first | exact HB.out | apply zab | apply zac | apply zaf | refine zah ?_ GE145.out) | exact HB.out)))); have n1_ := zaa.mk (zci (g := gb145) (o := .cells #[.int .u8 a0_0, .slice A0_1 l0_1.length c0_1] 38 (0, 0)) (by (with_reducible repeat (first | refine zbo ?_ _ | refine zca ?_ | refine zbp ?_ _)); exact BK145.out) hb); have n2_ := zaa.mk (zae (by repeat (first | (with_reducible first | exact HB.out | apply zab | apply zac | apply zaf | refine zah ?_ GE145.out) | exact HB.out)) hb); clear BK145; clear HB; have HO148 := n0_; have BK145 := n1_; have HB := n2_; clear n0_ n1_ n2_; clear hb ho6))
  go_ret
  exact ⟨_, by first | rfl | (simp [zam, zal] <;> rfl) | (simp [*, zam, zal] <;> rfl), by (with_reducible repeat (first | apply Kd.R_alloc | apply Kd.R_drewN | apply Kd.R_drew)); exact HO148.out, by repeat (first | (with_reducible first | exact HB.out | apply zab | apply zac | apply zaf | refine zah ?_ GE145.out) | exact HB.out)⟩
 ·rw [if_neg c2] at H
  have c2b0 : (a0_0 == 111) = false := beq_eq_false_iff_ne.mpr c2
  have c2b1 : (a0_0 != 111) = true := bne_iff_ne.mpr c2
  by_cases c7 : 0 < (l0_1.length : Int)
  ·rw [if_pos c7] at H
   have c7b0 : decide (0 < (l0_1.length : Int)) = true := decide_eq_true c7
   have c7b1 : decide (0 < l0_1.length) = true := decide_eq_true (by omega)
   clear c7
   replace H := Option.bind_eq_some_iff.mp H
   obtain ⟨t150, A80, H⟩ := H
   replace H : (if 1 < (l0_1.length : Int) then ((spec_l11Perm.f k ((zas l0_1 1).f0) ((zas l0_1 1).f1)).bind fun t154 => (if a0_0 = 124 then ((some (([] : List Int) : List Int)).bind fun y157 => (if y157.length + t150.length < 17592186044416 then ((some (y157 ++ t150 : List Int)).bind fun y160 => ((spec_l6More.f k t154 (t150.length : Int)).bind fun t163 => (if y160.length + t163.length < 17592186044416 then (some (y160 ++ t163)) else (none)))) else (none))) else ((spec_l6More.f k t154 (t150.length : Int)).bind fun t169 => (if t169.length + t150.length < 17592186044416 then (some (t169 ++ t150)) else (none))))) else (none)) = some r := H
   have A8 := zaa.mk A80
   clear A80
   by_cases c9 : 1 < (l0_1.length : Int)
   ·rw [if_pos c9] at H
    have c9b0 : decide (1 < (l0_1.length : Int)) = true := decide_eq_true c9
    have c9b1 : decide (1 < l0_1.length) = true := decide_eq_true (by omega)
    clear c9
    replace H := Option.bind_eq_some_iff.mp H
    obtain ⟨t154, A100, H⟩ := H
    replace H : (if a0_0 = 124 then ((some (([] : List Int) : List Int)).bind fun y157 => (if y157.length + t150.length < 17592186044416 then ((some (y157 ++ t150 : List Int)).bind fun y160 => ((spec_l6More.f k t154 (t150.length : Int)).bind fun t163 => (if y160.length + t163.length < 17592186044416 then (some (y160 ++ t163)) else (none)))) else (none))) else ((spec_l6More.f k t154 (t150.length : Int)).bind fun t169 => (if t169.length + t150.length < 17592186044416 then (some (t169 ++ t150)) else (none)))) = some r := H
    have A10 := zaa.mk A100
    clear A100
    by_cases c11 : a0_0 = 124
    ·rw [if_pos c11] at H
     have c11b0 : (a0_0 == 124) = true := beq_iff_eq.mpr c11
     have c11b1 : (a0_0 != 124) = false := bne_eq_false_iff_eq.mpr c11
     clear c11
     obtain ⟨y157, hy157⟩ : ∃ y_ : List Int, y_ = (([] : List Int)) := ⟨_, rfl⟩
     replace H : (if y157.length + t150.length < 17592186044416 then ((some (y157 ++ t150 : List Int)).bind fun y160 => ((spec_l6More.f k t154 (t150.length : Int)).bind fun t163 => (if y160.length + t163.length < 17592186044416 then (some (y160 ++ t163)) else (none)))) else (none)) = some r := by first | (rw [hy157]; with_reducible exact H) | (have H2_ := (Option.bind_some _ _).symm.trans H; rw [hy157]; with_reducible exact H2_) | (have H2_ := (Option.bind_some _ _).symm.trans H; with_reducible exact H2_) | with_reducible exact H | (rw [hy157]; exact H) | exact H
     have Ny157 := zaa.mk hy157
     clear hy157
     by_cases c12 : y157.length + t150.length < 17592186044416
     ·rw [if_pos c12] at H
      have LMc12 := zaa.mk c12
      clear c12
      obtain ⟨y160, hy160⟩ : ∃ y_ : List Int, y_ = (y157 ++ t150) := ⟨_, rfl⟩
      replace H : ((spec_l6More.f k t154 (t150.length : Int)).bind fun t163 => (if y160.length + t163.length < 17592186044416 then (some (y160 ++ t163)) else (none))) = some r := by first | (rw [hy160]; with_reducible exact H) | (have H2_ := (Option.bind_some _ _).symm.trans H; rw [hy160]; with_reducible exact H2_) | (have H2_ := (Option.bind_some _ _).symm.trans H; with_reducible exact H2_) | with_reducible exact H | (rw [hy160]; exact H) | exact H
      have Ny160 := zaa.mk hy160
      clear hy160
      replace H := Option.bind_eq_some_iff.mp H
      obtain ⟨t163, A130, H⟩ := H
      replace H : (if y160.length + t163.length < 17592186044416 then (some (y160 ++ t163)) else (none)) = some r := H
      have A13 := zaa.mk A130
      clear A130
      by_cases c14 : y160.length + t163.length < 17592186044416
      ·rw [if_pos c14] at H
       have LMc14 := zaa.mk c14
       clear c14
       obtain ⟨y166, hy166⟩ : ∃ y_ : List Int, y_ = (y160 ++ t163) := ⟨_, rfl⟩
       replace H : (some y166) = some r := by first | (rw [hy166]; with_reducible exact H) | (have H2_ := (Option.bind_some _ _).symm.trans H; rw [hy166]; with_reducible exact H2_) | (have H2_ := (Option.bind_some _ _).symm.trans H; with_reducible exact H2_) | with_reducible exact H | (rw [hy166]; exact H) | exact H
       have Ny166 := zaa.mk hy166
       clear hy166
       obtain rfl := Option.some.inj H
       go_enter Try.func20, Try.ntmps20
       go_wp2_with (first | ((with_reducible refine zba (N := 1) rfl ?_); refine box_event ?hg (N := 1) ?hd (cs := #[.int .u8 a0_0, .slice A0_1 l0_1.length c0_1]) (t := 38) ?hr ?_; (case hd => rfl); (case hg => rfl); (case hr => first | (go_simp; done) | (go_simp; rfl)); intro gb145 hg w15 hbox hb; have n0_ := zaa.mk (zae (by repeat (first | (with_reducible first | exact HB.out | apply zab | apply zac | apply zaf) | exact HB.out)) hb); have n1_ := zaa.mk (hbox); have n2_ := zaa.mk ((by rw [hg]; exact (zan (by repeat (first | (with_reducible first | exact HB.out | apply zab | apply zac | apply zaf) | exact HB.out))) : w.heap.size ≤ gb145)); have n3_ := zaa.mk ((by rw [hg]; exact (zan (by repeat (first | (with_reducible first | exact HB.out | apply zab | apply zac | apply zaf) | exact HB.out))) : w.heap.size ≤ gb145)); clear HB; have HB := n0_; have BK145 := n1_; have GW145 := n2_; have GE145 := n3_; clear n0_ n1_ n2_ n3_; clear hb hbox hg; have hcz16_0 : w15.cell? ⟨gb145, 0, none⟩ = some (.int .u8 a0_0) := (zad BK145.out 0).trans rfl; have hcz16_1 : w15.cell? ⟨gb145, 1, none⟩ = some (.slice A0_1 l0_1.length c0_1) := (zad BK145.out 1).trans rfl; have hfz16_0 := zag BK145.out 0; have hfz16_1 := zag BK145.out 1; have p149 : 0 ≤ (0 : Int) := (by omega); have q149 : 0 < (l0_1.length : Int) := of_decide_eq_true (by first | (with_reducible assumption) | assumption); obtain ⟨ad149, A149_1, c149_1, e149, hx149_0, hx149_1, hl149_1, hi149_1⟩ := at_T38 HR0_1.out 0 p149 q149; cases e149; have qi149 : (0 < l0_1.length) = True := eq_true (by omega); (try rw [show ((0 : Int)).toNat = 0 from rfl] at hx149_0); (try rw [show 0 * 2 = 0 from rfl] at hx149_0); (try rw [Addr.add_zero'] at hx149_0); (try rw [show ((0 : Int)).toNat = 0 from rfl] at hx149_1); (try rw [show 0 * 2 = 0 from rfl] at hx149_1); (try rw [Addr.add_zero'] at hx149_1); replace hx149_0 := (HB.out.cell (World.block_lt_of_cell? w _ hx149_0)).trans hx149_0; replace hx149_1 := (HB.out.cell (World.block_lt_of_cell? w _ hx149_1)).trans hx149_1; have HR149_1 := zaa.mk hi149_1; have HC149_1 := zaa.mk hl149_1; clear hi149_1 hl149_1; replace p149 := eq_true p149; replace q149 := eq_true q149) | ((with_reducible refine zap (f := 20) rfl ?_); refine zbm (some 13) rfl rfl Try.func20 (by kernel_rfl) rfl #[.agg #[.int .u8 ((zas l0_1 0).f0), .slice A149_1 ((zas l0_1 0).f1).length c149_1]] rfl (by (try simp only [List.map_toArray, List.map_cons, List.map_nil]); first | done | rfl | (simp only [List.length_drop, List.length_take]; rfl)) ?_; (with_reducible refine (ih k (by omega) ((zas l0_1 0).f0) _ _ ((zas l0_1 0).f1) t150 _ ?side1 ?side2 A8.out).mono ?_); (case side1 => repeat (first | exact (Kd.C_below HR149_1.out HB.out) | (with_reducible refine Kd.C_alloc ?_ _) | (with_reducible refine Kd.C_drewN ?_ _) | (with_reducible refine Kd.C_drew ?_))); (case side2 => exact HC149_1.out); rintro e w17 ⟨v151, rfl, ho0, hb⟩; refine ⟨_, rfl, ?_⟩; have n0_ := zaa.mk (Kd.R_lower ho0 (zan (by repeat (first | (with_reducible first | exact HB.out | apply zab | apply zac | apply zaf | refine zah ?_ GE145.out) | exact HB.out)))); have n1_ := zaa.mk (zci (g := gb145) (o := .cells #[.int .u8 a0_0, .slice (some ad149) l0_1.length c0_1] 38 (0, 0)) (by (with_reducible repeat (first | refine zbo ?_ _ | refine zca ?_ | refine zbp ?_ _)); exact BK145.out) hb); have n2_ := zaa.mk (zae (by repeat (first | (with_reducible first | exact HB.out | apply zab | apply zac | apply zaf | refine zah ?_ GE145.out) | exact HB.out)) hb); clear BK145; clear HB; have HO152 := n0_; have BK145 := n1_; have HB := n2_; clear n0_ n1_ n2_; (try clear hb); (try clear hb2); (try clear hk); (try clear hi); (try clear ho0); have hcz18_0 : w17.cell? ⟨gb145, 0, none⟩ = some (.int .u8 a0_0) := (zad BK145.out 0).trans rfl; have hcz18_1 : w17.cell? ⟨gb145, 1, none⟩ = some (.slice (some ad149) l0_1.length c0_1) := (zad BK145.out 1).trans rfl; have hfz18_0 := zag BK145.out 0; have hfz18_1 := zag BK145.out 1; have p153 : 0 ≤ (1 : Int) := (by omega); have q153 : 1 < (l0_1.length : Int) := of_decide_eq_true (by first | (with_reducible assumption) | assumption); obtain ⟨ad153, A153_1, c153_1, e153, hx153_0, hx153_1, hl153_1, hi153_1⟩ := at_T38 HR0_1.out 1 p153 q153; obtain rfl : ad149 = ad153 := (by injection e153); (try simp only [show (1 : Int).toNat = 1 from rfl, Nat.reduceMul, Nat.reduceEqDiff, Go.Addr.add, ↓reduceIte] at hx153_0); (try simp only [show (1 : Int).toNat = 1 from rfl, Nat.reduceMul, Nat.reduceEqDiff, Go.Addr.add, ↓reduceIte] at hx153_1); have qi153 : (1 < l0_1.length) = True := eq_true (by omega); (try rw [show ((1 : Int)).toNat = 1 from rfl] at hx153_0); (try rw [show 1 * 2 = 2 from rfl] at hx153_0); (try rw [show ((1 : Int)).toNat = 1 from rfl] at hx153_1); (try rw [show 1 * 2 = 2 from rfl] at hx153_1); replace hx153_0 := (HB.out.cell (World.block_lt_of_cell? w _ hx153_0)).trans hx153_0; replace hx153_1 := (HB.out.cell (World.block_lt_of_cell? w _ hx153_1)).trans hx153_1; have HR153_1 := zaa.mk hi153_1; have HC153_1 := zaa.mk hl153_1; clear hi153_1 hl153_1; replace p153 := eq_true p153; replace q153 := eq_true q153) | ((with_reducible refine zap (f := 20) rfl ?_); refine zbm (some 18) rfl rfl Try.func20 (by kernel_rfl) rfl #[.agg #[.int .u8 ((zas l0_1 1).f0), .slice A153_1 ((zas l0_1 1).f1).length c153_1]] rfl (by (try simp only [List.map_toArray, List.map_cons, List.map_nil]); first | done | rfl | (simp only [List.length_drop, List.length_take]; rfl)) ?_; (with_reducible refine (ih k (by omega) ((zas l0_1 1).f0) _ _ ((zas l0_1 1).f1) t154 _ ?side1 ?side2 A10.out).mono ?_); (case side1 => repeat (first | exact (Kd.C_below HR153_1.out HB.out) | (with_reducible refine Kd.C_alloc ?_ _) | (with_reducible refine Kd.C_drewN ?_ _) | (with_reducible refine Kd.C_drew ?_))); (case side2 => exact HC153_1.out); rintro e w19 ⟨v155, rfl, ho0, hb⟩; refine ⟨_, rfl, ?_⟩; have n0_ := zaa.mk (Kd.R_elder' (by (with_reducible repeat (first | apply Kd.R_alloc | apply Kd.R_drewN | apply Kd.R_drew)); exact HO152.out) (Kd.R_base ho0) hb); have n1_ := zaa.mk (Kd.R_lower (Kd.R_new' ho0 (Kd.R_lt (by (with_reducible repeat (first | apply Kd.R_alloc | apply Kd.R_drewN | apply Kd.R_drew)); exact HO152.out))) (zan (by repeat (first | (with_reducible first | exact HB.out | apply zab | apply zac | apply zaf | refine zah ?_ GE145.out) | exact HB.out)))); have n2_ := zaa.mk (zci (g := gb145) (o := .cells #[.int .u8 a0_0, .slice (some ad149) l0_1.length c0_1] 38 (0, 0)) (by (with_reducible repeat (first | refine zbo ?_ _ | refine zca ?_ | refine zbp ?_ _)); exact BK145.out) hb); have n3_ := zaa.mk (zae (by repeat (first | (with_reducible first | exact HB.out | apply zab | apply zac | apply zaf | refine zah ?_ GE145.out) | exact HB.out)) hb); clear HO152; clear BK145; clear HB; have HO152 := n0_; have HO156 := n1_; have BK145 := n2_; have HB := n3_; clear n0_ n1_ n2_ n3_; (try clear hb); (try clear hb2); (try clear hk); (try clear hi); (try clear ho0); have hcz20_0 : w19.cell? ⟨gb145, 0, none⟩ = some (.int .u8 a0_0) := (zad BK145.out 0).trans rfl; have hcz20_1 : w19.cell? ⟨gb145, 1, none⟩ = some (.slice (some ad149) l0_1.length c0_1) := (zad BK145.out 1).trans rfl; have hfz20_0 := zag BK145.out 0; have hfz20_1 := zag BK145.out 1) | ((with_reducible refine zba (N := 22) rfl ?_); refine Kd.R_lit (Kd.int .i64) _ 3 ?hg (N := 22) ?hd (xs := ([] : List Int)) (inner := []) (ok := fun _ => True) (okp := fun _ => True) ?hr ?hp (fun _ hk => hk) trivial (Below.refl _ _) (Nat.le_refl _) (by simp) ?_; (case hd => rfl); (case hg => rfl); (case hr => first | (go_simp; done) | (go_simp; rfl)); (case hp => exact (Reps.none _ _)); intro v158 w21 ho22 hb hg_ hnew_; clear hg_ hnew_; (first | rw [← Ny157.out] at ho22 | (simp only [Int.reduceToNat] at ho22; rw [← Ny157.out] at ho22)); have n0_ := zaa.mk (Kd.R_elder' (by (with_reducible repeat (first | apply Kd.R_alloc | apply Kd.R_drewN | apply Kd.R_drew)); exact HO152.out) (Kd.R_base ho22) hb); have n1_ := zaa.mk (Kd.R_elder' (by (with_reducible repeat (first | apply Kd.R_alloc | apply Kd.R_drewN | apply Kd.R_drew)); exact HO156.out) (Kd.R_base ho22) hb); have n2_ := zaa.mk (Kd.R_lower (Kd.R_new' (Kd.R_new' ho22 (Kd.R_lt (by (with_reducible repeat (first | apply Kd.R_alloc | apply Kd.R_drewN | apply Kd.R_drew)); exact HO152.out))) (Kd.R_lt (by (with_reducible repeat (first | apply Kd.R_alloc | apply Kd.R_drewN | apply Kd.R_drew)); exact HO156.out))) (zan (by repeat (first | (with_reducible first | exact HB.out | apply zab | apply zac | apply zaf | refine zah ?_ GE145.out) | exact HB.out)))); have n3_ := zaa.mk (zci (g := gb145) (o := .cells #[.int .u8 a0_0, .slice (some ad149) l0_1.length c0_1] 38 (0, 0)) (by (with_reducible repeat (first | refine zbo ?_ _ | refine zca ?_ | refine zbp ?_ _)); exact BK145.out) hb); have n4_ := zaa.mk (zae (by repeat (first | (with_reducible first | exact HB.out | apply zab | apply zac | apply zaf | refine zah ?_ GE145.out) | exact HB.out)) hb); clear HO152; clear HO156; clear BK145; clear HB; have HO152 := n0_; have HO156 := n1_; have HO159 := n2_; have BK145 := n3_; have HB := n4_; clear n0_ n1_ n2_ n3_ n4_; clear hb ho22; obtain ⟨Ao24, co24, eo24⟩ := Kd.R_slice HO152.out; subst eo24) | ((with_reducible refine zbn (b := .append) (xs := #[.tmp 22, .tmp 23]) rfl ?_); at_builtin; refine Kd.R_append_rows (Kd.int .i64) (w0 := w) w.heap.size rfl (.tmp 22) (.tmp 23) 22 3 (.int .i64 0) 8 rfl Try.underlying22 info3 rfl (by decide) (by omega) v158 y157 t150 _ _ _ (fun k_ => some k_ ≠ (.slice Ao24 t150.length co24 : Value).ownBlock ∧ some k_ ≠ (v155 : Value).ownBlock) (fun _ => False) rfl rfl ?aO ?aR (fun _ _ h => h) (fun _ h => h.elim) ?aF ?aB ?aS ?aL ?_; (case aR => repeat (first | exact (Kd.R_reads' HO152.out).2.2 | (with_reducible refine Kd.C_alloc ?_ _) | (with_reducible refine Kd.C_drewN ?_ _) | (with_reducible refine Kd.C_drew ?_))); (case aB => exact (by repeat (first | (with_reducible first | exact HB.out | apply zab | apply zac | apply zaf | refine zah ?_ GE145.out) | exact HB.out))); (case aF => exact (fun k_ hk => ⟨Kd.fresh' (Kd.R_lt (by (with_reducible repeat (first | apply Kd.R_alloc | apply Kd.R_drewN | apply Kd.R_drew)); exact HO152.out)) k_ hk, Kd.fresh' (Kd.R_lt (by (with_reducible repeat (first | apply Kd.R_alloc | apply Kd.R_drewN | apply Kd.R_drew)); exact HO156.out)) k_ hk⟩)); (case aO => exact (by (with_reducible repeat (first | apply Kd.R_alloc | apply Kd.R_drewN | apply Kd.R_drew)); exact Kd.R_mono HO159.out (fun _ hk => ⟨hk.1.2, hk.2⟩))); (case aS => exact (zan (by repeat (first | (with_reducible first | exact HB.out | apply zab | apply zac | apply zaf | refine zah ?_ GE145.out) | exact HB.out)))); (case aL => have := LMc12.out; omega); intro v161 w23 ho hb hg hat; rw [← Ny160.out] at ho; have n0_ := zaa.mk (zcr (g := gb145) (o := .cells #[.int .u8 a0_0, .slice (some ad149) l0_1.length c0_1] 38 (0, 0)) (by (with_reducible repeat (first | refine zbo ?_ _ | refine zca ?_ | refine zbp ?_ _)); exact BK145.out) hg (Kd.R_ne HO159.out BK145.out (by decide))); have n1_ := zaa.mk (Kd.R_after (ok := (fun k_ => some k_ ≠ (v155 : Value).ownBlock)) (by (with_reducible repeat (first | apply Kd.R_alloc | apply Kd.R_drewN | apply Kd.R_drew)); exact Kd.R_mono HO152.out (fun _ hk => ⟨hk.1.2, hk.2⟩)) hg hat); have n2_ := zaa.mk (Kd.R_after (ok := (fun k_ => some k_ ≠ (.slice Ao24 t150.length co24 : Value).ownBlock)) (by (with_reducible repeat (first | apply Kd.R_alloc | apply Kd.R_drewN | apply Kd.R_drew)); exact Kd.R_mono HO156.out (fun _ hk => ⟨hk.1.2, hk.2⟩)) hg hat); have n3_ := zaa.mk (hb); have n4_ := zaa.mk (ho); clear BK145; clear HO152; clear HO156; clear HB; clear HO159; have BK145 := n0_; have HO152 := n1_; have HO156 := n2_; have HB := n3_; have HO162 := n4_; clear n0_ n1_ n2_ n3_ n4_; clear ho hb hg hat; obtain ⟨Ao25, co25, eo25⟩ := Kd.R_slice HO156.out; subst eo25) | ((with_reducible refine zap (f := 36) rfl ?_); refine zbm (some 28) rfl rfl Try.func36 (by kernel_rfl) rfl #[.slice Ao25 t154.length co25, .int .i64 (t150.length : Int)] rfl (by (try simp only [List.map_toArray, List.map_cons, List.map_nil]); first | done | rfl | (simp only [List.length_drop, List.length_take]; rfl)) ?_; (with_reducible refine (spec_l6More.calls k _ _ t154 (t150.length : Int) t163 _ ?side1 ?side2 A13.out).mono ?_); (case side1 => repeat (first | exact (Kd.R_reads' HO156.out).2.2 | (with_reducible refine Kd.C_alloc ?_ _) | (with_reducible refine Kd.C_drewN ?_ _) | (with_reducible refine Kd.C_drew ?_))); (case side2 => exact (Kd.R_reads' HO156.out).2.1); rintro e w26 ⟨v164, rfl, ho0, hb⟩; refine ⟨_, rfl, ?_⟩; have n0_ := zaa.mk (Kd.R_elder' (by (with_reducible repeat (first | apply Kd.R_alloc | apply Kd.R_drewN | apply Kd.R_drew)); exact HO152.out) (Kd.R_base ho0) hb); have n1_ := zaa.mk (Kd.R_elder' (by (with_reducible repeat (first | apply Kd.R_alloc | apply Kd.R_drewN | apply Kd.R_drew)); exact HO156.out) (Kd.R_base ho0) hb); have n2_ := zaa.mk (Kd.R_elder' (by (with_reducible repeat (first | apply Kd.R_alloc | apply Kd.R_drewN | apply Kd.R_drew)); exact HO162.out) (Kd.R_base ho0) hb); have n3_ := zaa.mk (Kd.R_lower (Kd.R_new' (Kd.R_new' (Kd.R_new' ho0 (Kd.R_lt (by (with_reducible repeat (first | apply Kd.R_alloc | apply Kd.R_drewN | apply Kd.R_drew)); exact HO152.out))) (Kd.R_lt (by (with_reducible repeat (first | apply Kd.R_alloc | apply Kd.R_drewN | apply Kd.R_drew)); exact HO156.out))) (Kd.R_lt (by (with_reducible repeat (first | apply Kd.R_alloc | apply Kd.R_drewN | apply Kd.R_drew)); exact HO162.out))) (zan (by repeat (first | (with_reducible first | exact HB.out | apply zab | apply zac | apply zaf | refine zah ?_ GE145.out) | exact HB.out)))); have n4_ := zaa.mk (zci (g := gb145) (o := .cells #[.int .u8 a0_0, .slice (some ad149) l0_1.length c0_1] 38 (0, 0)) (by (with_reducible repeat (first | refine zbo ?_ _ | refine zca ?_ | refine zbp ?_ _)); exact BK145.out) hb); have n5_ := zaa.mk (zae (by repeat (first | (with_reducible first | exact HB.out | apply zab | apply zac | apply zaf | refine zah ?_ GE145.out) | exact HB.out)) hb); clear HO152; clear HO156; clear HO162; clear BK145; clear HB; have HO152 := n0_; have HO156 := n1_; have HO162 := n2_; have HO165 := n3_; have BK145 := n4_; have HB := n5_; clear n0_ n1_ n2_ n3_ n4_ n5_; (try clear hb); (try clear hb2); (try clear hk); (try clear hi); (try clear ho0); obtain ⟨Ao28, co28, eo28⟩ := Kd.R_slice HO165.out; subst eo28) | ((with_reducible refine zbn (b := .append) (xs := #[.tmp 24, .tmp 28]) rfl ?_); at_builtin; refine Kd.R_append_rows (Kd.int .i64) (w0 := w) w.heap.size rfl (.tmp 24) (.tmp 28) 22 3 (.int .i64 0) 8 rfl Try.underlying22 info3 rfl (by decide) (by omega) v161 y160 t163 _ _ _ (fun k_ => some k_ ≠ (.slice Ao24 t150.length co24 : Value).ownBlock ∧ some k_ ≠ (.slice Ao25 t154.length co25 : Value).ownBlock ∧ some k_ ≠ (.slice Ao28 t163.length co28 : Value).ownBlock) (fun _ => False) rfl rfl ?aO ?aR (fun _ _ h => h) (fun _ h => h.elim) ?aF ?aB ?aS ?aL ?_; (case aR => repeat (first | exact (Kd.R_reads' HO165.out).2.2 | (with_reducible refine Kd.C_alloc ?_ _) | (with_reducible refine Kd.C_drewN ?_ _) | (with_reducible refine Kd.C_drew ?_))); (case aB => exact (by repeat (first | (with_reducible first | exact HB.out | apply zab | apply zac | apply zaf | refine zah ?_ GE145.out) | exact HB.out))); (case aF => exact (fun k_ hk => ⟨Kd.fresh' (Kd.R_lt (by (with_reducible repeat (first | apply Kd.R_alloc | apply Kd.R_drewN | apply Kd.R_drew)); exact HO152.out)) k_ hk, Kd.fresh' (Kd.R_lt (by (with_reducible repeat (first | apply Kd.R_alloc | apply Kd.R_drewN | apply Kd.R_drew)); exact HO156.out)) k_ hk, Kd.fresh' (Kd.R_lt (by (with_reducible repeat (first | apply Kd.R_alloc | apply Kd.R_drewN | apply Kd.R_drew)); exact HO165.out)) k_ hk⟩)); (case aO => exact (by (with_reducible repeat (first | apply Kd.R_alloc | apply Kd.R_drewN | apply Kd.R_drew)); exact Kd.R_mono HO162.out (fun _ hk => ⟨hk.1.1, ⟨hk.1.2, hk.2⟩⟩))); (case aS => exact (zan (by repeat (first | (with_reducible first | exact HB.out | apply zab | apply zac | apply zaf | refine zah ?_ GE145.out) | exact HB.out)))); (case aL => have := LMc14.out; omega); intro v167 w27 ho hb hg hat; rw [← Ny166.out] at ho; have n0_ := zaa.mk (zcr (g := gb145) (o := .cells #[.int .u8 a0_0, .slice (some ad149) l0_1.length c0_1] 38 (0, 0)) (by (with_reducible repeat (first | refine zbo ?_ _ | refine zca ?_ | refine zbp ?_ _)); exact BK145.out) hg (Kd.R_ne HO162.out BK145.out (by decide))); have n1_ := zaa.mk (Kd.R_after (ok := (fun k_ => some k_ ≠ (.slice Ao25 t154.length co25 : Value).ownBlock ∧ some k_ ≠ (.slice Ao28 t163.length co28 : Value).ownBlock)) (by (with_reducible repeat (first | apply Kd.R_alloc | apply Kd.R_drewN | apply Kd.R_drew)); exact Kd.R_mono HO152.out (fun _ hk => ⟨⟨hk.1.1, hk.2⟩, hk.1.2⟩)) hg hat); have n2_ := zaa.mk (Kd.R_after (ok := (fun k_ => some k_ ≠ (.slice Ao24 t150.length co24 : Value).ownBlock ∧ some k_ ≠ (.slice Ao28 t163.length co28 : Value).ownBlock)) (by (with_reducible repeat (first | apply Kd.R_alloc | apply Kd.R_drewN | apply Kd.R_drew)); exact Kd.R_mono HO156.out (fun _ hk => ⟨⟨hk.1.1, hk.2⟩, hk.1.2⟩)) hg hat); have n3_ := zaa.mk (Kd.R_after (ok := (fun k_ => some k_ ≠ (.slice Ao24 t150.length co24 : Value).ownBlock ∧ some k_ ≠ (.slice Ao25 t154.length co25 : Value).ownBlock)) (by (with_reducible repeat (first | apply Kd.R_alloc | apply Kd.R_drewN | apply Kd.R_drew)); exact Kd.R_mono HO165.out (fun _ hk => ⟨⟨hk.1.1.2, hk.1.2⟩, hk.2⟩)) hg hat); have n4_ := zaa.mk (hb); have n5_ := zaa.mk (ho); clear BK145; clear HO152; clear HO156; clear HO165; clear HB; clear HO162; have BK145 := n0_; have HO152 := n1_; have HO156 := n2_; have HO165 := n3_; have HB := n4_; have HO168 := n5_; clear n0_ n1_ n2_ n3_ n4_ n5_; clear ho hb hg hat))
       go_ret
       exact ⟨_, by first | rfl | (simp [zam, zal] <;> rfl) | (simp [*, zam, zal] <;> rfl), by (with_reducible repeat (first | apply Kd.R_alloc | apply Kd.R_drewN | apply Kd.R_drew)); exact Kd.R_mono HO168.out (fun _ hk => trivial), by repeat (first | (with_reducible first | exact HB.out | apply zab | apply zac | apply zaf | refine zah ?_ GE145.out) | exact HB.out)⟩
      ·rw [if_neg c14] at H
       exact absurd H (by simp)
     ·rw [if_neg c12] at H
      exact absurd H (by simp)
    ·rw [if_neg c11] at H
     have c11b0 : (a0_0 == 124) = false := beq_eq_false_iff_ne.mpr c11
     have c11b1 : (a0_0 != 124) = true := bne_iff_ne.mpr c11
     replace H := Option.bind_eq_some_iff.mp H
     obtain ⟨t169, A290, H⟩ := H
     replace H : (if t169.length + t150.length < 17592186044416 then (some (t169 ++ t150)) else (none)) = some r := H
     have A29 := zaa.mk A290
     clear A290
     by_cases c30 : t169.length + t150.length < 17592186044416
     ·rw [if_pos c30] at H
      have LMc30 := zaa.mk c30
      clear c30
      obtain ⟨y172, hy172⟩ : ∃ y_ : List Int, y_ = (t169 ++ t150) := ⟨_, rfl⟩
      replace H : (some y172) = some r := by first | (rw [hy172]; with_reducible exact H) | (have H2_ := (Option.bind_some _ _).symm.trans H; rw [hy172]; with_reducible exact H2_) | (have H2_ := (Option.bind_some _ _).symm.trans H; with_reducible exact H2_) | with_reducible exact H | (rw [hy172]; exact H) | exact H
      have Ny172 := zaa.mk hy172
      clear hy172
      obtain rfl := Option.some.inj H
      go_enter Try.func20, Try.ntmps20
      go_wp2_with (first | ((with_reducible refine zba (N := 1) rfl ?_); refine box_event ?hg (N := 1) ?hd (cs := #[.int .u8 a0_0, .slice A0_1 l0_1.length c0_1]) (t := 38) ?hr ?_; (case hd => rfl); (case hg => rfl); (case hr => first | (go_simp; done) | (go_simp; rfl)); intro gb145 hg w31 hbox hb; have n0_ := zaa.mk (zae (by repeat (first | (with_reducible first | exact HB.out | apply zab | apply zac | apply zaf) | exact HB.out)) hb); have n1_ := zaa.mk (hbox); have n2_ := zaa.mk ((by rw [hg]; exact (zan (by repeat (first | (with_reducible first | exact HB.out | apply zab | apply zac | apply zaf) | exact HB.out))) : w.heap.size ≤ gb145)); have n3_ := zaa.mk ((by rw [hg]; exact (zan (by repeat (first | (with_reducible first | exact HB.out | apply zab | apply zac | apply zaf) | exact HB.out))) : w.heap.size ≤ gb145)); clear HB; have HB := n0_; have BK145 := n1_; have GW145 := n2_; have GE145 := n3_; clear n0_ n1_ n2_ n3_; clear hb hbox hg; have hcz32_0 : w31.cell? ⟨gb145, 0, none⟩ = some (.int .u8 a0_0) := (zad BK145.out 0).trans rfl; have hcz32_1 : w31.cell? ⟨gb145, 1, none⟩ = some (.slice A0_1 l0_1.length c0_1) := (zad BK145.out 1).trans rfl; have hfz32_0 := zag BK145.out 0; have hfz32_1 := zag BK145.out 1; have p149 : 0 ≤ (0 : Int) := (by omega); have q149 : 0 < (l0_1.length : Int) := of_decide_eq_true (by first | (with_reducible assumption) | assumption); obtain ⟨ad149, A149_1, c149_1, e149, hx149_0, hx149_1, hl149_1, hi149_1⟩ := at_T38 HR0_1.out 0 p149 q149; cases e149; have qi149 : (0 < l0_1.length) = True := eq_true (by omega); (try rw [show ((0 : Int)).toNat = 0 from rfl] at hx149_0); (try rw [show 0 * 2 = 0 from rfl] at hx149_0); (try rw [Addr.add_zero'] at hx149_0); (try rw [show ((0 : Int)).toNat = 0 from rfl] at hx149_1); (try rw [show 0 * 2 = 0 from rfl] at hx149_1); (try rw [Addr.add_zero'] at hx149_1); replace hx149_0 := (HB.out.cell (World.block_lt_of_cell? w _ hx149_0)).trans hx149_0; replace hx149_1 := (HB.out.cell (World.block_lt_of_cell? w _ hx149_1)).trans hx149_1; have HR149_1 := zaa.mk hi149_1; have HC149_1 := zaa.mk hl149_1; clear hi149_1 hl149_1; replace p149 := eq_true p149; replace q149 := eq_true q149) | ((with_reducible refine zap (f := 20) rfl ?_); refine zbm (some 13) rfl rfl Try.func20 (by kernel_rfl) rfl #[.agg #[.int .u8 ((zas l0_1 0).f0), .slice A149_1 ((zas l0_1 0).f1).length c149_1]] rfl (by (try simp only [List.map_toArray, List.map_cons, List.map_nil]); first | done | rfl | (simp only [List.length_drop, List.length_take]; rfl)) ?_; (with_reducible refine (ih k (by omega) ((zas l0_1 0).f0) _ _ ((zas l0_1 0).f1) t150 _ ?side1 ?side2 A8.out).mono ?_); (case side1 => repeat (first | exact (Kd.C_below HR149_1.out HB.out) | (with_reducible refine Kd.C_alloc ?_ _) | (with_reducible refine Kd.C_drewN ?_ _) | (with_reducible refine Kd.C_drew ?_))); (case side2 => exact HC149_1.out); rintro e w33 ⟨v151, rfl, ho0, hb⟩; refine ⟨_, rfl, ?_⟩; have n0_ := zaa.mk (Kd.R_lower ho0 (zan (by repeat (first | (with_reducible first | exact HB.out | apply zab | apply zac | apply zaf | refine zah ?_ GE145.out) | exact HB.out)))); have n1_ := zaa.mk (zci (g := gb145) (o := .cells #[.int .u8 a0_0, .slice (some ad149) l0_1.length c0_1] 38 (0, 0)) (by (with_reducible repeat (first | refine zbo ?_ _ | refine zca ?_ | refine zbp ?_ _)); exact BK145.out) hb); have n2_ := zaa.mk (zae (by repeat (first | (with_reducible first | exact HB.out | apply zab | apply zac | apply zaf | refine zah ?_ GE145.out) | exact HB.out)) hb); clear BK145; clear HB; have HO152 := n0_; have BK145 := n1_; have HB := n2_; clear n0_ n1_ n2_; (try clear hb); (try clear hb2); (try clear hk); (try clear hi); (try clear ho0); have hcz34_0 : w33.cell? ⟨gb145, 0, none⟩ = some (.int .u8 a0_0) := (zad BK145.out 0).trans rfl; have hcz34_1 : w33.cell? ⟨gb145, 1, none⟩ = some (.slice (some ad149) l0_1.length c0_1) := (zad BK145.out 1).trans rfl; have hfz34_0 := zag BK145.out 0; have hfz34_1 := zag BK145.out 1; have p153 : 0 ≤ (1 : Int) := (by omega); have q153 : 1 < (l0_1.length : Int) := of_decide_eq_true (by first | (with_reducible assumption) | assumption); obtain ⟨ad153, A153_1, c153_1, e153, hx153_0, hx153_1, hl153_1, hi153_1⟩ := at_T38 HR0_1.out 1 p153 q153; obtain rfl : ad149 = ad153 := (by injection e153); (try simp only [show (1 : Int).toNat = 1 from rfl, Nat.reduceMul, Nat.reduceEqDiff, Go.Addr.add, ↓reduceIte] at hx153_0); (try simp only [show (1 : Int).toNat = 1 from rfl, Nat.reduceMul, Nat.reduceEqDiff, Go.Addr.add, ↓reduceIte] at hx153_1); have qi153 : (1 < l0_1.length) = True := eq_true (by omega); (try rw [show ((1 : Int)).toNat = 1 from rfl] at hx153_0); (try rw [show 1 * 2 = 2 from rfl] at hx153_0); (try rw [show ((1 : Int)).toNat = 1 from rfl] at hx153_1); (try rw [show 1 * 2 = 2 from rfl] at hx153_1); replace hx153_0 := (HB.out.cell (World.block_lt_of_cell? w _ hx153_0)).trans hx153_0; replace hx153_1 := (HB.out.cell (World.block_lt_of_cell? w _ hx153_1)).trans hx153_1; have HR153_1 := zaa.mk hi153_1; have HC153_1 := zaa.mk hl153_1; clear hi153_1 hl153_1; replace p153 := eq_true p153; replace q153 := eq_true q153) | ((with_reducible refine zap (f := 20) rfl ?_); refine zbm (some 18) rfl rfl Try.func20 (by kernel_rfl) rfl #[.agg #[.int .u8 ((zas l0_1 1).f0), .slice A153_1 ((zas l0_1 1).f1).length c153_1]] rfl (by (try simp only [List.map_toArray, List.map_cons, List.map_nil]); first | done | rfl | (simp only [List.length_drop, List.length_take]; rfl)) ?_; (with_reducible refine (ih k (by omega) ((zas l0_1 1).f0) _ _ ((zas l0_1 1).f1) t154 _ ?side1 ?side2 A10.out).mono ?_); (case side1 => repeat (first | exact (Kd.C_below HR153_1.out HB.out) | (with_reducible refine Kd.C_alloc ?_ _) | (with_reducible refine Kd.C_drewN ?_ _) | (with_reducible refine Kd.C_drew ?_))); (case side2 => exact HC153_1.out); rintro e w35 ⟨v155, rfl, ho0, hb⟩; refine ⟨_, rfl, ?_⟩; have n0_ := zaa.mk (Kd.R_elder' (by (with_reducible repeat (first | apply Kd.R_alloc | apply Kd.R_drewN | apply Kd.R_drew)); exact HO152.out) (Kd.R_base ho0) hb); have n1_ := zaa.mk (Kd.R_lower (Kd.R_new' ho0 (Kd.R_lt (by (with_reducible repeat (first | apply Kd.R_alloc | apply Kd.R_drewN | apply Kd.R_drew)); exact HO152.out))) (zan (by repeat (first | (with_reducible first | exact HB.out | apply zab | apply zac | apply zaf | refine zah ?_ GE145.out) | exact HB.out)))); have n2_ := zaa.mk (zci (g := gb145) (o := .cells #[.int .u8 a0_0, .slice (some ad149) l0_1.length c0_1] 38 (0, 0)) (by (with_reducible repeat (first | refine zbo ?_ _ | refine zca ?_ | refine zbp ?_ _)); exact BK145.out) hb); have n3_ := zaa.mk (zae (by repeat (first | (with_reducible first | exact HB.out | apply zab | apply zac | apply zaf | refine zah ?_ GE145.out) | exact HB.out)) hb); clear HO152; clear BK145; clear HB; have HO152 := n0_; have HO156 := n1_; have BK145 := n2_; have HB := n3_; clear n0_ n1_ n2_ n3_; (try clear hb); (try clear hb2); (try clear hk); (try clear hi); (try clear ho0); have hcz36_0 : w35.cell? ⟨gb145, 0, none⟩ = some (.int .u8 a0_0) := (zad BK145.out 0).trans rfl; have hcz36_1 : w35.cell? ⟨gb145, 1, none⟩ = some (.slice (some ad149) l0_1.length c0_1) := (zad BK145.out 1).trans rfl; have hfz36_0 := zag BK145.out 0; have hfz36_1 := zag BK145.out 1; obtain ⟨Ao37, co37, eo37⟩ := Kd.R_slice HO152.out; subst eo37; obtain ⟨Ao38, co38, eo38⟩ := Kd.R_slice HO156.out; subst eo38) | ((with_reducible refine zap (f := 36) rfl ?_); refine zbm (some 33) rfl rfl Try.func36 (by kernel_rfl) rfl #[.slice Ao38 t154.length co38, .int .i64 (t150.length : Int)] rfl (by (try simp only [List.map_toArray, List.map_cons, List.map_nil]); first | done | rfl | (simp only [List.length_drop, List.length_take]; rfl)) ?_; (with_reducible refine (spec_l6More.calls k _ _ t154 (t150.length : Int) t169 _ ?side1 ?side2 A29.out).mono ?_); (case side1 => repeat (first | exact (Kd.R_reads' HO156.out).2.2 | (with_reducible refine Kd.C_alloc ?_ _) | (with_reducible refine Kd.C_drewN ?_ _) | (with_reducible refine Kd.C_drew ?_))); (case side2 => exact (Kd.R_reads' HO156.out).2.1); rintro e w39 ⟨v170, rfl, ho0, hb⟩; refine ⟨_, rfl, ?_⟩; have n0_ := zaa.mk (Kd.R_elder' (by (with_reducible repeat (first | apply Kd.R_alloc | apply Kd.R_drewN | apply Kd.R_drew)); exact HO152.out) (Kd.R_base ho0) hb); have n1_ := zaa.mk (Kd.R_elder' (by (with_reducible repeat (first | apply Kd.R_alloc | apply Kd.R_drewN | apply Kd.R_drew)); exact HO156.out) (Kd.R_base ho0) hb); have n2_ := zaa.mk (Kd.R_lower (Kd.R_new' (Kd.R_new' ho0 (Kd.R_lt (by (with_reducible repeat (first | apply Kd.R_alloc | apply Kd.R_drewN | apply Kd.R_drew)); exact HO152.out))) (Kd.R_lt (by (with_reducible repeat (first | apply Kd.R_alloc | apply Kd.R_drewN | apply Kd.R_drew)); exact HO156.out))) (zan (by repeat (first | (with_reducible first | exact HB.out | apply zab | apply zac | apply zaf | refine zah ?_ GE145.out) | exact HB.out)))); have n3_ := zaa.mk (zci (g := gb145) (o := .cells #[.int .u8 a0_0, .slice (some ad149) l0_1.length c0_1] 38 (0, 0)) (by (with_reducible repeat (first | refine zbo ?_ _ | refine zca ?_ | refine zbp ?_ _)); exact BK145.out) hb); have n4_ := zaa.mk (zae (by repeat (first | (with_reducible first | exact HB.out | apply zab | apply zac | apply zaf | refine zah ?_ GE145.out) | exact HB.out)) hb); clear HO152; clear HO156; clear BK145; clear HB; have HO152 := n0_; have HO156 := n1_; have HO171 := n2_; have BK145 := n3_; have HB := n4_; clear n0_ n1_ n2_ n3_ n4_; (try clear hb); (try clear hb2); (try clear hk); (try clear hi); (try clear ho0)) | ((with_reducible refine zbn (b := .append) (xs := #[.tmp 33, .tmp 34]) rfl ?_); at_builtin; refine Kd.R_append_rows (Kd.int .i64) (w0 := w) w.heap.size rfl (.tmp 33) (.tmp 34) 22 3 (.int .i64 0) 8 rfl Try.underlying22 info3 rfl (by decide) (by omega) v170 t169 t150 _ _ _ (fun k_ => some k_ ≠ (.slice Ao37 t150.length co37 : Value).ownBlock ∧ some k_ ≠ (.slice Ao38 t154.length co38 : Value).ownBlock) (fun _ => False) rfl rfl ?aO ?aR (fun _ _ h => h) (fun _ h => h.elim) ?aF ?aB ?aS ?aL ?_; (case aR => repeat (first | exact (Kd.R_reads' HO152.out).2.2 | (with_reducible refine Kd.C_alloc ?_ _) | (with_reducible refine Kd.C_drewN ?_ _) | (with_reducible refine Kd.C_drew ?_))); (case aB => exact (by repeat (first | (with_reducible first | exact HB.out | apply zab | apply zac | apply zaf | refine zah ?_ GE145.out) | exact HB.out))); (case aF => exact (fun k_ hk => ⟨Kd.fresh' (Kd.R_lt (by (with_reducible repeat (first | apply Kd.R_alloc | apply Kd.R_drewN | apply Kd.R_drew)); exact HO152.out)) k_ hk, Kd.fresh' (Kd.R_lt (by (with_reducible repeat (first | apply Kd.R_alloc | apply Kd.R_drewN | apply Kd.R_drew)); exact HO156.out)) k_ hk⟩)); (case aO => exact (by (with_reducible repeat (first | apply Kd.R_alloc | apply Kd.R_drewN | apply Kd.R_drew)); exact Kd.R_mono HO171.out (fun _ hk => ⟨hk.1.2, hk.2⟩))); (case aS => exact (zan (by repeat (first | (with_reducible first | exact HB.out | apply zab | apply zac | apply zaf | refine zah ?_ GE145.out) | exact HB.out)))); (case aL => have := LMc30.out; omega); intro v173 w40 ho hb hg hat; rw [← Ny172.out] at ho; have n0_ := zaa.mk (zcr (g := gb145) (o := .cells #[.int .u8 a0_0, .slice (some ad149) l0_1.length c0_1] 38 (0, 0)) (by (with_reducible repeat (first | refine zbo ?_ _ | refine zca ?_ | refine zbp ?_ _)); exact BK145.out) hg (Kd.R_ne HO171.out BK145.out (by decide))); have n1_ := zaa.mk (Kd.R_after (ok := (fun k_ => some k_ ≠ (.slice Ao38 t154.length co38 : Value).ownBlock)) (by (with_reducible repeat (first | apply Kd.R_alloc | apply Kd.R_drewN | apply Kd.R_drew)); exact Kd.R_mono HO152.out (fun _ hk => ⟨hk.1.2, hk.2⟩)) hg hat); have n2_ := zaa.mk (Kd.R_after (ok := (fun k_ => some k_ ≠ (.slice Ao37 t150.length co37 : Value).ownBlock)) (by (with_reducible repeat (first | apply Kd.R_alloc | apply Kd.R_drewN | apply Kd.R_drew)); exact Kd.R_mono HO156.out (fun _ hk => ⟨hk.1.2, hk.2⟩)) hg hat); have n3_ := zaa.mk (hb); have n4_ := zaa.mk (ho); clear BK145; clear HO152; clear HO156; clear HB; clear HO171; have BK145 := n0_; have HO152 := n1_; have HO156 := n2_; have HB := n3_; have HO174 := n4_; clear n0_ n1_ n2_ n3_ n4_; clear ho hb hg hat))
      go_ret
      exact ⟨_, by first | rfl | (simp [zam, zal] <;> rfl) | (simp [*, zam, zal] <;> rfl), by (with_reducible repeat (first | apply Kd.R_alloc | apply Kd.R_drewN | apply Kd.R_drew)); exact Kd.R_mono HO174.out (fun _ hk => trivial), by repeat (first | (with_reducible first | exact HB.out | apply zab | apply zac | apply zaf | refine zah ?_ GE145.out) | exact HB.out)⟩
     ·rw [if_neg c30] at H
      exact absurd H (by simp)
   ·rw [if_neg c9] at H
    exact absurd H (by simp)
  ·rw [if_neg c7] at H
   exact absurd H (by simp)
def bytealg_Cutover.f (a0 : Int) : Option (Int) := some (wrap64 (Int.tdiv (wrap64 (a0 + 16)) 8))
set_option maxHeartbeats 8000000 in
set_option maxRecDepth 100000 in
theorem bytealg_Cutover.calls (a0 : Int) (r : Int) (w : World) (h : bytealg_Cutover.f a0 = some r) :
  Calls Try.prog 55 #[.int .i64 a0] w fun e w' => e = .returned (.int .i64 r) ∧ zao w w' := by
 have H : (some (wrap64 (Int.tdiv (wrap64 (a0 + 16)) 8))) = some r := h
 clear h
 obtain rfl := Option.some.inj H
 go_enter Try.func55, Try.ntmps55
 go_wp2
 go_ret
 exact ⟨by first | rfl | (simp; done) | (simp [*]; done), by repeat (first | exact zao.refl _ | apply zao.step)⟩
end Go.Proofs.Ytgiidlebnjbgeaa.PB
namespace Go.Proofs.Ytgiidlebnjbgeaa.PB
open Go.RowKit Go.PW.PrintWords Go.PW.PrintLast Go.PW.PrintMore
attribute [local go_sem] zbu zbs zcc zcb zbf zbe zbt zbr   -- for this text's walks alone
mutual
def bytealg_hashStr_string.l0 : Nat → ByteArray → Int → Int → Option (Int × Int)
 | 0, _, _, _ => none
 | k + 1, x0, x4, x5 => if x5 < (x0.size : Int) then (if 0 ≤ x5 then (bytealg_hashStr_string.l0 k x0 ((((x4 * 16777619) % 4294967296) + ((bt x0 x5) % 4294967296)) % 4294967296) (wrap64 (x5 + 1))) else (none)) else (bytealg_hashStr_string.l1 k x4 1 16777619 (x0.size : Int))
def bytealg_hashStr_string.l1 : Nat → Int → Int → Int → Int → Option (Int × Int)
 | 0, _, _, _, _ => none
 | k + 1, x4, x6, x7, x8 => if x8 > 0 then (if (Go.bits .and .i64 x8 1) = 0 then (bytealg_hashStr_string.l1 k x4 x6 ((x7 * x7) % 4294967296) (x8 / 2)) else (bytealg_hashStr_string.l1 k x4 ((x6 * x7) % 4294967296) ((x7 * x7) % 4294967296) (x8 / 2))) else (some (x4, x6))
end
def bytealg_hashStr_string.f (k : Nat) (a0 : ByteArray) : Option (Int × Int) := bytealg_hashStr_string.l0 k a0 0 0
theorem bytealg_hashStr_string.mono_l : ∀ k, (∀ y0 y1 y2, LeO (bytealg_hashStr_string.l0 k y0 y1 y2) (bytealg_hashStr_string.l0 (k + 1) y0 y1 y2)) ∧ (∀ y0 y1 y2 y3, LeO (bytealg_hashStr_string.l1 k y0 y1 y2 y3) (bytealg_hashStr_string.l1 (k + 1) y0 y1 y2 y3))
 | 0 => ⟨fun _ _ _ r h => by simp [bytealg_hashStr_string.l0] at h, fun _ _ _ _ r h => by simp [bytealg_hashStr_string.l1] at h⟩
 | k + 1 => by
  obtain ⟨ih0, ih1⟩ := bytealg_hashStr_string.mono_l k
  refine ⟨?_, ?_⟩
  ·intro y0 y1 y2
   unfold bytealg_hashStr_string.l0
   repeat' first
   | (with_reducible exact ih0 _ _ _)
   | (with_reducible exact ih1 _ _ _ _)
   | (with_reducible exact LeO.refl _)
   | (with_reducible exact LeO.none _)
   | (with_reducible refine LeO.ite ?_ ?_)
   | (with_reducible refine LeO.bind ?_ (fun _ => ?_))
   | exact ih0 _ _ _
   | exact ih1 _ _ _ _
   | exact LeO.none _
   | refine LeO.ite ?_ ?_
   | refine LeO.bind ?_ (fun _ => ?_)
  ·intro y0 y1 y2 y3
   unfold bytealg_hashStr_string.l1
   repeat' first
   | (with_reducible exact ih0 _ _ _)
   | (with_reducible exact ih1 _ _ _ _)
   | (with_reducible exact LeO.refl _)
   | (with_reducible exact LeO.none _)
   | (with_reducible refine LeO.ite ?_ ?_)
   | (with_reducible refine LeO.bind ?_ (fun _ => ?_))
   | exact ih0 _ _ _
   | exact ih1 _ _ _ _
   | exact LeO.none _
   | refine LeO.ite ?_ ?_
   | refine LeO.bind ?_ (fun _ => ?_)
theorem bytealg_hashStr_string.mono : ∀ a0 k, LeO (bytealg_hashStr_string.f k a0) (bytealg_hashStr_string.f (k + 1) a0) := by
 intro a0 k
 obtain ⟨ih0, ih1⟩ := bytealg_hashStr_string.mono_l k
 unfold bytealg_hashStr_string.f
 repeat' first
   | (with_reducible exact ih0 _ _ _)
   | (with_reducible exact ih1 _ _ _ _)
   | (with_reducible exact LeO.refl _)
   | (with_reducible exact LeO.none _)
   | (with_reducible refine LeO.ite ?_ ?_)
   | (with_reducible refine LeO.bind ?_ (fun _ => ?_))
   | exact ih0 _ _ _
   | exact ih1 _ _ _ _
   | exact LeO.none _
   | refine LeO.ite ?_ ?_
   | refine LeO.bind ?_ (fun _ => ?_)
set_option maxHeartbeats 8000000 in
set_option maxRecDepth 100000 in
theorem bytealg_hashStr_string.calls (k : Nat) (a0 : ByteArray) (r1 : Int) (r2 : Int) (w : World) (h : bytealg_hashStr_string.f k a0 = some (r1, r2)) :
  Calls Try.prog 58 #[.string a0] w fun e w' => e = .returned (.tuple #[.int .u32 r1, .int .u32 r2]) ∧ zao w w' := by
 have H : (bytealg_hashStr_string.l0 k a0 0 0) = some (r1, r2) := h
 clear h
 have H' := zaa.mk H
 clear H
 go_enter Try.func58, Try.ntmps58
 go_wp2
 go_loopg [4, 5] k (fun kq v4 v5 w' => ∃ (x4_1 : Int) (x5_1 : Int), v4 = .int .u32 x4_1 ∧ v5 = .int .i64 x5_1 ∧ zaa (bytealg_hashStr_string.l0 kq a0 x4_1 x5_1 = some (r1, r2)) ∧ zaa (kq ≤ k) ∧ zao w w')
 case atStart => exact ⟨(0), (0), (by first | rfl | (simp; done) | (simp [*]; done)), (by first | rfl | (simp; done) | (simp [*]; done)), H', ⟨Nat.le_refl _⟩, by repeat (first | exact zao.refl _ | apply zao.step)⟩
 case round =>
  clear H'
  obtain ⟨x4_1, x5_1, rfl, rfl, HA, HK1, ⟨m1, rfl⟩⟩ := hrel
  cases gk with
  | zero => exact absurd HA.out (by simp [bytealg_hashStr_string.l0])
  | succ k1 =>
   have H := HA.out
   clear HA
   simp only [bytealg_hashStr_string.l0] at H
   by_cases c2 : x5_1 < (a0.size : Int)
   ·rw [if_pos c2] at H
    have c2b0 : decide (x5_1 < (a0.size : Int)) = true := decide_eq_true c2
    clear c2
    by_cases c3 : 0 ≤ x5_1
    ·rw [if_pos c3] at H
     have c3b0 : decide (0 ≤ x5_1) = true := decide_eq_true c3
     clear c3
     have H' := zaa.mk H
     clear H
     have p4 : 0 ≤ (x5_1 : Int) := of_decide_eq_true (by first | (with_reducible assumption) | assumption)
     have q4 : x5_1 < (a0.size : Int) := of_decide_eq_true (by first | (with_reducible assumption) | assumption)
     have hx4 := bt_at a0 x5_1
     replace p4 := eq_true p4
     replace q4 := eq_true q4
     go_wp2
     go_roundg k1
     case measure => have := HK1.out; omega
     case rel => exact ⟨((((x4_1 * 16777619) % 4294967296) + ((bt a0 x5_1) % 4294967296)) % 4294967296), (wrap64 (x5_1 + 1)), (by first | rfl | (simp; done) | (simp [*]; done)), (by first | rfl | (simp; done) | (simp [*]; done)), H', ⟨by have := HK1.out; omega⟩, by repeat (first | exact zao.refl _ | apply zao.step)⟩
    ·rw [if_neg c3] at H
     exact absurd H (by simp)
   ·rw [if_neg c2] at H
    have c2b0 : decide (x5_1 < (a0.size : Int)) = false := decide_eq_false c2
    clear c2
    have H' := zaa.mk H
    clear H
    go_wp2
    go_loopg [6, 7, 8] k1 (fun kq v6 v7 v8 w' => ∃ (x6_2 : Int) (x7_2 : Int) (x8_2 : Int), v6 = .int .u32 x6_2 ∧ v7 = .int .u32 x7_2 ∧ v8 = .int .i64 x8_2 ∧ zaa (bytealg_hashStr_string.l1 kq x4_1 x6_2 x7_2 x8_2 = some (r1, r2)) ∧ zaa (kq ≤ k1) ∧ zao w w')
    case atStart => exact ⟨(1), (16777619), ((a0.size : Int)), (by first | rfl | (simp; done) | (simp [*]; done)), (by first | rfl | (simp; done) | (simp [*]; done)), (by first | rfl | (simp; done) | (simp [*]; done)), H', ⟨Nat.le_refl _⟩, by repeat (first | exact zao.refl _ | apply zao.step)⟩
    case round =>
     clear H'
     try clear c2
     try clear c2b0
     try clear p2
     try clear c3
     try clear c3b0
     try clear p4
     try clear q4
     try clear hx4
     try clear p4
     try clear q4
     obtain ⟨x6_2, x7_2, x8_2, rfl, rfl, rfl, HA, HK2, ⟨m2, rfl⟩⟩ := hrel
     cases gk with
     | zero => exact absurd HA.out (by simp [bytealg_hashStr_string.l1])
     | succ k2 =>
      have H := HA.out
      clear HA
      simp only [bytealg_hashStr_string.l1] at H
      by_cases c5 : x8_2 > 0
      ·rw [if_pos c5] at H
       have c5b0 : decide (0 < x8_2) = true := decide_eq_true c5
       clear c5
       by_cases c6 : (Go.bits .and .i64 x8_2 1) = 0
       ·rw [if_pos c6] at H
        have c6b0 : ((Go.bits .and .i64 x8_2 1) == 0) = true := beq_iff_eq.mpr c6
        have c6b1 : ((Go.bits .and .i64 x8_2 1) != 0) = false := bne_eq_false_iff_eq.mpr c6
        clear c6
        have H' := zaa.mk H
        clear H
        go_wp2
        go_roundg k2
        case measure => have := HK1.out; have := HK2.out; omega
        case rel => exact ⟨(x6_2), ((x7_2 * x7_2) % 4294967296), (x8_2 / 2), (by first | rfl | (simp; done) | (simp [*]; done)), (by first | rfl | (simp; done) | (simp [*]; done)), (by first | rfl | (simp; done) | (simp [*]; done)), H', ⟨by have := HK1.out; have := HK2.out; omega⟩, by repeat (first | exact zao.refl _ | apply zao.step)⟩
       ·rw [if_neg c6] at H
        have c6b0 : ((Go.bits .and .i64 x8_2 1) == 0) = false := beq_eq_false_iff_ne.mpr c6
        have c6b1 : ((Go.bits .and .i64 x8_2 1) != 0) = true := bne_iff_ne.mpr c6
        have H' := zaa.mk H
        clear H
        go_wp2
        go_roundg k2
        case measure => have := HK1.out; have := HK2.out; omega
        case rel => exact ⟨((x6_2 * x7_2) % 4294967296), ((x7_2 * x7_2) % 4294967296), (x8_2 / 2), (by first | rfl | (simp; done) | (simp [*]; done)), (by first | rfl | (simp; done) | (simp [*]; done)), (by first | rfl | (simp; done) | (simp [*]; done)), H', ⟨by have := HK1.out; have := HK2.out; omega⟩, by repeat (first | exact zao.refl _ | apply zao.step)⟩
      ·rw [if_neg c5] at H
       have c5b0 : decide (0 < x8_2) = false := decide_eq_false c5
       clear c5
       simp only [Option.some.injEq, Prod.mk.injEq] at H
       obtain ⟨rfl, rfl⟩ := H
       go_wp2
       go_ret2
       exact ⟨by first | rfl | (simp; done) | (simp [*]; done), by repeat (first | exact zao.refl _ | apply zao.step)⟩
end Go.Proofs.Ytgiidlebnjbgeaa.PB
namespace Go.Proofs.Ytgiidlebnjbgeaa.PB
open Go.RowKit Go.PW.PrintWords Go.PW.PrintLast Go.PW.PrintMore
attribute [local go_sem] zbu zbs zcc zcb zbf zbe zbt zbr   -- for this text's walks alone
def zay (w0 W : World) (g : Nat) (f0 : ByteArray) : Prop := W.heap[g]? = some (.cells #[.string f0] 60 (0, 0)) ∧ w0.heap.size ≤ g
theorem zay.grown {w0 W : World} {g : Nat} {f0 : ByteArray} {W1 : World} {row : Option Nat} (h : zay w0 W g f0) (hw : W.grownBy W1 row) (hne : some g ≠ row) : zay w0 W1 g f0 := by
 obtain ⟨hb, hg⟩ := h
 exact ⟨zcr hb hw hne, hg⟩
theorem zay.kept {w0 W : World} {g : Nat} {f0 : ByteArray} {W1 : World} {S : Nat → Prop} (h : zay w0 W g f0) (hk : Kept W W1 S) (hne : ¬ S g) : zay w0 W1 g f0 := by
 obtain ⟨hb, hg⟩ := h
 exact ⟨blk_kept hb hk hne, hg⟩
theorem zay.below {w0 W : World} {g : Nat} {f0 : ByteArray} {W1 : World} (h : zay w0 W g f0) (hw : Below W.heap.size W W1) : zay w0 W1 g f0 := h.grown (zcm hw none) (by simp)
theorem zay.alloc {w0 W : World} {g : Nat} {f0 : ByteArray} (h : zay w0 W g f0) (o : Obj) : zay w0 (W.alloc o) g f0 := h.below (zab (Below.refl _ _) o)
theorem zay.drewN {w0 W : World} {g : Nat} {f0 : ByteArray} (h : zay w0 W g f0) (m : Nat) : zay w0 (W.drewN m) g f0 := h
theorem zay.drew {w0 W : World} {g : Nat} {f0 : ByteArray} (h : zay w0 W g f0) : zay w0 W.drew g f0 := h
theorem zay.at_ {w0 W : World} {g : Nat} {f0 : ByteArray} {w' : World} {m : Nat} (hq : W.drewN m = w') (h : zay w0 W g f0) : zay w0 w' g f0 := by subst hq; exact zay.drewN h m
theorem zay.apart {w0 W : World} {g : Nat} {f0 : ByteArray} {α : Type} {d : Kd α} {e : Nat} {base : Nat} {ok : Nat → Prop} {v : Value} {xs : List α} (h : zay w0 W g f0) (ho : d.R e W base ok v xs) (ht : ∀ q, q ∈ e :: d.E → q ≠ 60) : d.R e W base (fun k => ok k ∧ k ≠ g) v xs := by
 obtain ⟨hb, hg⟩ := h
 exact Kd.R_types ho hb ht
theorem zay.ge {w0 W : World} {g : Nat} {f0 : ByteArray} (h : zay w0 W g f0) : w0.heap.size ≤ g := by
 obtain ⟨hb, hg⟩ := h
 exact hg
theorem zay.far {w0 W : World} {g : Nat} {f0 : ByteArray} {p : Addr} (h : zay w0 W g f0) (hne : g ≠ p.block) (u : Value) : zay w0 (W.setCell p u) g f0 := by
 obtain ⟨hb, hg⟩ := h
 exact ⟨blk_far hb hne u, hg⟩
theorem cellS60_0 {W : World} {g : Nat} {f0 : ByteArray} (h : W.heap[g]? = some (.cells #[.string f0] 60 (0, 0))) : W.cell? ⟨g, 0, none⟩ = some (.string f0) := (zad h 0).trans rfl
theorem zay.set_0 {w0 W : World} {g : Nat} {f0 : ByteArray} (h : zay w0 W g f0) (x : ByteArray) : zay w0 (W.setCell ⟨g, 0, none⟩ (.string x)) g x := by
 obtain ⟨hb, hg⟩ := h
 exact ⟨by simpa using blk_set hb 0 (.string x), hg⟩
theorem zay.new (w0 W : World) (f0 : ByteArray) (hB : Below w0.heap.size w0 W) : zay w0 (W.alloc (.cells #[.string f0] 60)) W.heap.size f0 := ⟨by simpa using heap_alloc_new W _, hB.size⟩
def impl_reader_take.f (s0_0 : ByteArray) : Option (Int × ByteArray) := if s0_0.toList = ([] : List UInt8) then (some (0, s0_0)) else (if 0 < (s0_0.size : Int) then (if 1 ≤ (s0_0.size : Int) then (some (bt s0_0 0, s0_0.extract 1 s0_0.size)) else (none)) else (none))
set_option maxHeartbeats 8000000 in
set_option maxRecDepth 100000 in
theorem impl_reader_take.calls (g : Nat) (s0_0 : ByteArray) (r1 : Int) (r2 : ByteArray) (w0 w : World) (hI : zay w0 w g s0_0) (hB : Below w0.heap.size w0 w) (h : impl_reader_take.f s0_0 = some (r1, r2)) :
  Calls Try.prog 49 #[.pointer (some ⟨g, 0, none⟩)] w fun e w' => e = .returned (.int .u8 r1) ∧ zay w0 w' g r2 ∧ Below w0.heap.size w0 w' ∧ zav w w' g none := by
 have HI0 := zaa.mk hI
 have HK := zaa.mk (zav.refl w g none)
 have HL := zaa.mk hB.size
 clear hI
 have HW0 := zaa.mk hB.size
 have HB := zaa.mk hB
 clear hB
 have H : (if s0_0.toList = ([] : List UInt8) then (some (0, s0_0)) else (if 0 < (s0_0.size : Int) then (if 1 ≤ (s0_0.size : Int) then (some (bt s0_0 0, s0_0.extract 1 s0_0.size)) else (none)) else (none))) = some (r1, r2) := h
 clear h
 by_cases c2 : s0_0.toList = ([] : List UInt8)
 ·rw [if_pos c2] at H
  have c2b0 : (s0_0.toList == ([] : List UInt8)) = true := beq_iff_eq.mpr c2
  have c2b1 : (s0_0.toList != ([] : List UInt8)) = false := bne_eq_false_iff_eq.mpr c2
  clear c2
  simp only [Option.some.injEq, Prod.mk.injEq] at H
  obtain ⟨rfl, rfl⟩ := H
  obtain ⟨HGz3, hgz3⟩ := HI0.out
  have hcz3_0 := cellS60_0 HGz3
  have hfz3_0 := zag HGz3 0
  clear HGz3 hgz3
  go_enter Try.func49, Try.ntmps49
  go_wp2
  go_ret
  exact ⟨by first | rfl | (simp [zam, zal] <;> rfl) | (simp [*, zam, zal] <;> rfl), by repeat (first | (with_reducible first | exact HI0.out | apply zay.alloc | apply zay.drewN | apply zay.drew | apply zay.set_0) | exact HI0.out), by repeat (first | (with_reducible first | exact HB.out | apply zab | apply zac | apply zaf | refine zah ?_ (zay.ge HI0.out)) | exact HB.out), by repeat (first | (with_reducible first | exact HK.out | apply zav.set_ | apply keep_drewN | apply keep_drew | apply keep_alloc) | exact HK.out)⟩
 ·rw [if_neg c2] at H
  have c2b0 : (s0_0.toList == ([] : List UInt8)) = false := beq_eq_false_iff_ne.mpr c2
  have c2b1 : (s0_0.toList != ([] : List UInt8)) = true := bne_iff_ne.mpr c2
  by_cases c4 : 0 < (s0_0.size : Int)
  ·rw [if_pos c4] at H
   have c4b0 : decide (0 < (s0_0.size : Int)) = true := decide_eq_true c4
   have c4b1 : decide (0 < s0_0.size) = true := decide_eq_true (by omega)
   clear c4
   by_cases c6 : 1 ≤ (s0_0.size : Int)
   ·rw [if_pos c6] at H
    have c6b0 := eq_true c6
    have c6b1 : decide (1 ≤ (s0_0.size : Int)) = true := decide_eq_true c6
    clear c6
    simp only [Option.some.injEq, Prod.mk.injEq] at H
    obtain ⟨rfl, rfl⟩ := H
    obtain ⟨HGz7, hgz7⟩ := HI0.out
    have hcz7_0 := cellS60_0 HGz7
    have hfz7_0 := zag HGz7 0
    clear HGz7 hgz7
    have p5 : 0 ≤ (0 : Int) := (by omega)
    have q5 : 0 < s0_0.size := (by have : (0 : Int) < (s0_0.size : Int) := of_decide_eq_true (by first | (with_reducible assumption) | assumption); omega)
    have hx5 : ∀ h : 0 < s0_0.size, ((s0_0[0]'h).toNat : Int) = bt s0_0 0 := bt_at s0_0 0
    clear p5
    have qi5 : (0 < (s0_0.size : Int)) = True := eq_true (of_decide_eq_true (by first | (with_reducible assumption) | assumption))
    replace q5 := eq_true q5
    go_enter Try.func49, Try.ntmps49
    go_wp2
    go_ret
    exact ⟨by first | rfl | (simp [zam, zal] <;> rfl) | (simp [*, zam, zal] <;> rfl), by repeat (first | (with_reducible first | exact HI0.out | apply zay.alloc | apply zay.drewN | apply zay.drew | apply zay.set_0) | exact HI0.out), by repeat (first | (with_reducible first | exact HB.out | apply zab | apply zac | apply zaf | refine zah ?_ (zay.ge HI0.out)) | exact HB.out), by repeat (first | (with_reducible first | exact HK.out | apply zav.set_ | apply keep_drewN | apply keep_drew | apply keep_alloc) | exact HK.out)⟩
   ·rw [if_neg c6] at H
    exact absurd H (by simp)
  ·rw [if_neg c4] at H
   exact absurd H (by simp)
end Go.Proofs.Ytgiidlebnjbgeaa.PB
namespace Go.Proofs.Ytgiidlebnjbgeaa.PB
open Go.RowKit Go.PW.PrintWords Go.PW.PrintLast Go.PW.PrintMore
attribute [local go_sem] zbu zbs zcc zcb zbf zbe zbt zbr   -- for this text's walks alone
def spec_l5Equal.l0 : Nat → List Int → List Int → Int → Option (Bool)
 | 0, _, _, _ => none
 | k + 1, x0, x1, x5 => if x5 < (x0.length : Int) then (if 0 ≤ x5 then (if x5 < (x1.length : Int) then (if (rd x0 x5) = (rd x1 x5) then (spec_l5Equal.l0 k x0 x1 (wrap64 (x5 + 1))) else (some false)) else (none)) else (none)) else (some true)
def spec_l5Equal.f (k : Nat) (l0 : List Int) (l1 : List Int) : Option (Bool) := if (l0.length : Int) = (l1.length : Int) then (spec_l5Equal.l0 k l0 l1 0) else (some false)
set_option maxHeartbeats 8000000 in
set_option maxRecDepth 100000 in
theorem spec_l5Equal.calls (k : Nat) (A0 : Option Addr) (c0 : Nat) (l0 : List Int) (A1 : Option Addr) (c1 : Nat) (l1 : List Int) (r : Bool) (w : World) (hr0 : Kd.C (Kd.int .i64) w A0 l0.length l0) (hc0 : l0.length ≤ c0) (hr1 : Kd.C (Kd.int .i64) w A1 l1.length l1) (hc1 : l1.length ≤ c1) (h : spec_l5Equal.f k l0 l1 = some r) :
  Calls Try.prog 25 #[.slice A0 l0.length c0, .slice A1 l1.length c1] w fun e w' => e = .returned (.bool r) ∧ zao w w' := by
 have HR0 := zaa.mk hr0
 have HC0 := zaa.mk hc0
 clear hr0 hc0
 have HR1 := zaa.mk hr1
 have HC1 := zaa.mk hc1
 clear hr1 hc1
 have H : (if (l0.length : Int) = (l1.length : Int) then (spec_l5Equal.l0 k l0 l1 0) else (some false)) = some r := h
 clear h
 by_cases c3 : (l0.length : Int) = (l1.length : Int)
 ·rw [if_pos c3] at H
  have c3b0 : ((l0.length : Int) == (l1.length : Int)) = true := beq_iff_eq.mpr c3
  have c3b1 : ((l0.length : Int) != (l1.length : Int)) = false := bne_eq_false_iff_eq.mpr c3
  have c3b2 : (l0.length == l1.length) = true := by first | simpa using c3 | (simp at c3 ⊢; omega)
  clear c3
  have H' := zaa.mk H
  clear H
  go_enter Try.func25, Try.ntmps25
  go_wp2
  repeat (go_quiet (fail); try go_wp2)
  go_loopg [5] k (fun kq v5 w' => ∃ (x5_1 : Int), v5 = .int .i64 x5_1 ∧ zaa (spec_l5Equal.l0 kq l0 l1 x5_1 = some r) ∧ zaa (kq ≤ k) ∧ zao w w')
  case atStart => exact ⟨(0), (by first | rfl | (simp; done) | (simp [*]; done)), H', ⟨Nat.le_refl _⟩, by repeat (first | exact zao.refl _ | apply zao.step)⟩
  case round =>
   clear H'
   try clear c1
   try clear c2
   try clear p2
   try clear c3
   try clear c3b0
   try clear c3b1
   try clear c3b2
   obtain ⟨x5_1, rfl, HA, HK1, ⟨m1, rfl⟩⟩ := hrel
   cases gk with
   | zero => exact absurd HA.out (by simp [spec_l5Equal.l0])
   | succ k1 =>
    have H := HA.out
    clear HA
    simp only [spec_l5Equal.l0] at H
    by_cases c4 : x5_1 < (l0.length : Int)
    ·rw [if_pos c4] at H
     have c4b0 : decide (x5_1 < (l0.length : Int)) = true := decide_eq_true c4
     clear c4
     by_cases c5 : 0 ≤ x5_1
     ·rw [if_pos c5] at H
      have c5b0 : decide (0 ≤ x5_1) = true := decide_eq_true c5
      clear c5
      by_cases c6 : x5_1 < (l1.length : Int)
      ·rw [if_pos c6] at H
       have c6b0 : decide (x5_1 < (l1.length : Int)) = true := decide_eq_true c6
       clear c6
       by_cases c7 : (rd l0 x5_1) = (rd l1 x5_1)
       ·rw [if_pos c7] at H
        have c7b0 : ((rd l0 x5_1) == (rd l1 x5_1)) = true := beq_iff_eq.mpr c7
        have c7b1 : ((rd l0 x5_1) != (rd l1 x5_1)) = false := bne_eq_false_iff_eq.mpr c7
        clear c7
        have H' := zaa.mk H
        clear H
        have p217 : 0 ≤ (x5_1 : Int) := of_decide_eq_true (by first | (with_reducible assumption) | assumption)
        have q217 : x5_1 < (l0.length : Int) := of_decide_eq_true (by first | (with_reducible assumption) | assumption)
        obtain ⟨ad217, e217, hx217_0⟩ := Kd.at_int HR0.out x5_1 p217 q217
        cases e217
        replace p217 := eq_true p217
        replace q217 := eq_true q217
        have p218 : 0 ≤ (x5_1 : Int) := of_decide_eq_true (by first | (with_reducible assumption) | assumption)
        have q218 : x5_1 < (l1.length : Int) := of_decide_eq_true (by first | (with_reducible assumption) | assumption)
        obtain ⟨ad218, e218, hx218_0⟩ := Kd.at_int HR1.out x5_1 p218 q218
        cases e218
        replace p218 := eq_true p218
        replace q218 := eq_true q218
        go_wp2
        repeat (go_quiet (fail); try go_wp2)
        go_roundg k1
        case measure => have := HK1.out; omega
        case rel => exact ⟨(wrap64 (x5_1 + 1)), (by first | rfl | (simp; done) | (simp [*]; done)), H', ⟨by have := HK1.out; omega⟩, by repeat (first | exact zao.refl _ | apply zao.step)⟩
       ·rw [if_neg c7] at H
        have c7b0 : ((rd l0 x5_1) == (rd l1 x5_1)) = false := beq_eq_false_iff_ne.mpr c7
        have c7b1 : ((rd l0 x5_1) != (rd l1 x5_1)) = true := bne_iff_ne.mpr c7
        obtain rfl := Option.some.inj H
        have p217 : 0 ≤ (x5_1 : Int) := of_decide_eq_true (by first | (with_reducible assumption) | assumption)
        have q217 : x5_1 < (l0.length : Int) := of_decide_eq_true (by first | (with_reducible assumption) | assumption)
        obtain ⟨ad217, e217, hx217_0⟩ := Kd.at_int HR0.out x5_1 p217 q217
        cases e217
        replace p217 := eq_true p217
        replace q217 := eq_true q217
        have p218 : 0 ≤ (x5_1 : Int) := of_decide_eq_true (by first | (with_reducible assumption) | assumption)
        have q218 : x5_1 < (l1.length : Int) := of_decide_eq_true (by first | (with_reducible assumption) | assumption)
        obtain ⟨ad218, e218, hx218_0⟩ := Kd.at_int HR1.out x5_1 p218 q218
        cases e218
        replace p218 := eq_true p218
        replace q218 := eq_true q218
        go_wp2
        repeat (go_quiet (fail); try go_wp2)
        go_ret
        exact ⟨by first | rfl | (simp; done) | (simp [*]; done), by repeat (first | exact zao.refl _ | apply zao.step)⟩
      ·rw [if_neg c6] at H
       exact absurd H (by simp)
     ·rw [if_neg c5] at H
      exact absurd H (by simp)
    ·rw [if_neg c4] at H
     have c4b0 : decide (x5_1 < (l0.length : Int)) = false := decide_eq_false c4
     clear c4
     obtain rfl := Option.some.inj H
     go_wp2
     repeat (go_quiet (fail); try go_wp2)
     go_ret
     exact ⟨by first | rfl | (simp; done) | (simp [*]; done), by repeat (first | exact zao.refl _ | apply zao.step)⟩
 ·rw [if_neg c3] at H
  have c3b0 : ((l0.length : Int) == (l1.length : Int)) = false := beq_eq_false_iff_ne.mpr c3
  have c3b1 : ((l0.length : Int) != (l1.length : Int)) = true := bne_iff_ne.mpr c3
  have c3b2 : (l0.length == l1.length) = false := by first | simpa using c3 | (simp at c3 ⊢; omega)
  obtain rfl := Option.some.inj H
  go_enter Try.func25, Try.ntmps25
  go_wp2
  repeat (go_quiet (fail); try go_wp2)
  go_ret
  exact ⟨by first | rfl | (simp; done) | (simp [*]; done), by repeat (first | exact zao.refl _ | apply zao.step)⟩
end Go.Proofs.Ytgiidlebnjbgeaa.PB
namespace Go.Proofs.Ytgiidlebnjbgeaa.PB
open Go.RowKit Go.PW.PrintWords Go.PW.PrintLast Go.PW.PrintMore
attribute [local go_sem] zbu zbs zcc zcb zbf zbe zbt zbr   -- for this text's walks alone
def slices_Equal_int_int.l0 : Nat → List Int → List Int → Int → Int → Option (Bool)
 | 0, _, _, _, _ => none
 | k + 1, x0, x1, x12, x13 => if x13 < x12 then (if 0 ≤ x13 then (if x13 < (x0.length : Int) then (if x13 < (x1.length : Int) then (if (rd x0 x13) = (rd x1 x13) then (slices_Equal_int_int.l0 k x0 x1 x12 (wrap64 (x13 + 1))) else (some false)) else (none)) else (none)) else (none)) else (some true)
def slices_Equal_int_int.f (k : Nat) (l0 : List Int) (l1 : List Int) : Option (Bool) := if (l0.length : Int) = (l1.length : Int) then (slices_Equal_int_int.l0 k l0 l1 (l0.length : Int) 0) else (some false)
set_option maxHeartbeats 8000000 in
set_option maxRecDepth 100000 in
theorem slices_Equal_int_int.calls (k : Nat) (A0 : Option Addr) (c0 : Nat) (l0 : List Int) (A1 : Option Addr) (c1 : Nat) (l1 : List Int) (r : Bool) (w : World) (hr0 : Kd.C (Kd.int .i64) w A0 l0.length l0) (hc0 : l0.length ≤ c0) (hr1 : Kd.C (Kd.int .i64) w A1 l1.length l1) (hc1 : l1.length ≤ c1) (h : slices_Equal_int_int.f k l0 l1 = some r) :
  Calls Try.prog 26 #[.slice A0 l0.length c0, .slice A1 l1.length c1] w fun e w' => e = .returned (.bool r) ∧ zao w w' := by
 have HR0 := zaa.mk hr0
 have HC0 := zaa.mk hc0
 clear hr0 hc0
 have HR1 := zaa.mk hr1
 have HC1 := zaa.mk hc1
 clear hr1 hc1
 have H : (if (l0.length : Int) = (l1.length : Int) then (slices_Equal_int_int.l0 k l0 l1 (l0.length : Int) 0) else (some false)) = some r := h
 clear h
 by_cases c3 : (l0.length : Int) = (l1.length : Int)
 ·rw [if_pos c3] at H
  have c3b0 : ((l0.length : Int) == (l1.length : Int)) = true := beq_iff_eq.mpr c3
  have c3b1 : ((l0.length : Int) != (l1.length : Int)) = false := bne_eq_false_iff_eq.mpr c3
  have c3b2 : (l0.length == l1.length) = true := by first | simpa using c3 | (simp at c3 ⊢; omega)
  clear c3
  have H' := zaa.mk H
  clear H
  go_enter Try.func26, Try.ntmps26
  go_wp2
  repeat (go_quiet (fail); try go_wp2)
  go_loopg [13] k (fun kq v13 w' => ∃ (x13_1 : Int), v13 = .int .i64 x13_1 ∧ zaa (slices_Equal_int_int.l0 kq l0 l1 (l0.length : Int) x13_1 = some r) ∧ zaa (kq ≤ k) ∧ zao w w')
  case atStart => exact ⟨(0), (by first | rfl | (simp; done) | (simp [*]; done)), H', ⟨Nat.le_refl _⟩, by repeat (first | exact zao.refl _ | apply zao.step)⟩
  case round =>
   clear H'
   try clear c1
   try clear c2
   try clear p2
   try clear c3
   try clear c3b0
   try clear c3b1
   try clear c3b2
   obtain ⟨x13_1, rfl, HA, HK1, ⟨m1, rfl⟩⟩ := hrel
   cases gk with
   | zero => exact absurd HA.out (by simp [slices_Equal_int_int.l0])
   | succ k1 =>
    have H := HA.out
    clear HA
    simp only [slices_Equal_int_int.l0] at H
    by_cases c4 : x13_1 < (l0.length : Int)
    ·rw [if_pos c4] at H
     have c4b0 : decide (x13_1 < (l0.length : Int)) = true := decide_eq_true c4
     clear c4
     by_cases c5 : 0 ≤ x13_1
     ·rw [if_pos c5] at H
      have c5b0 : decide (0 ≤ x13_1) = true := decide_eq_true c5
      clear c5
      by_cases c6 : x13_1 < (l0.length : Int)
      ·rw [if_pos c6] at H
       have c6b0 : decide (x13_1 < (l0.length : Int)) = true := decide_eq_true c6
       clear c6
       by_cases c7 : x13_1 < (l1.length : Int)
       ·rw [if_pos c7] at H
        have c7b0 : decide (x13_1 < (l1.length : Int)) = true := decide_eq_true c7
        clear c7
        by_cases c8 : (rd l0 x13_1) = (rd l1 x13_1)
        ·rw [if_pos c8] at H
         have c8b0 : ((rd l0 x13_1) == (rd l1 x13_1)) = true := beq_iff_eq.mpr c8
         have c8b1 : ((rd l0 x13_1) != (rd l1 x13_1)) = false := bne_eq_false_iff_eq.mpr c8
         clear c8
         have H' := zaa.mk H
         clear H
         have p219 : 0 ≤ (x13_1 : Int) := of_decide_eq_true (by first | (with_reducible assumption) | assumption)
         have q219 : x13_1 < (l0.length : Int) := of_decide_eq_true (by first | (with_reducible assumption) | assumption)
         obtain ⟨ad219, e219, hx219_0⟩ := Kd.at_int HR0.out x13_1 p219 q219
         cases e219
         replace p219 := eq_true p219
         replace q219 := eq_true q219
         have p220 : 0 ≤ (x13_1 : Int) := of_decide_eq_true (by first | (with_reducible assumption) | assumption)
         have q220 : x13_1 < (l1.length : Int) := of_decide_eq_true (by first | (with_reducible assumption) | assumption)
         obtain ⟨ad220, e220, hx220_0⟩ := Kd.at_int HR1.out x13_1 p220 q220
         cases e220
         replace p220 := eq_true p220
         replace q220 := eq_true q220
         go_wp2
         repeat (go_quiet (fail); try go_wp2)
         go_roundg k1
         case measure => have := HK1.out; omega
         case rel => exact ⟨(wrap64 (x13_1 + 1)), (by first | rfl | (simp; done) | (simp [*]; done)), H', ⟨by have := HK1.out; omega⟩, by repeat (first | exact zao.refl _ | apply zao.step)⟩
        ·rw [if_neg c8] at H
         have c8b0 : ((rd l0 x13_1) == (rd l1 x13_1)) = false := beq_eq_false_iff_ne.mpr c8
         have c8b1 : ((rd l0 x13_1) != (rd l1 x13_1)) = true := bne_iff_ne.mpr c8
         obtain rfl := Option.some.inj H
         have p219 : 0 ≤ (x13_1 : Int) := of_decide_eq_true (by first | (with_reducible assumption) | assumption)
         have q219 : x13_1 < (l0.length : Int) := of_decide_eq_true (by first | (with_reducible assumption) | assumption)
         obtain ⟨ad219, e219, hx219_0⟩ := Kd.at_int HR0.out x13_1 p219 q219
         cases e219
         replace p219 := eq_true p219
         replace q219 := eq_true q219
         have p220 : 0 ≤ (x13_1 : Int) := of_decide_eq_true (by first | (with_reducible assumption) | assumption)
         have q220 : x13_1 < (l1.length : Int) := of_decide_eq_true (by first | (with_reducible assumption) | assumption)
         obtain ⟨ad220, e220, hx220_0⟩ := Kd.at_int HR1.out x13_1 p220 q220
         cases e220
         replace p220 := eq_true p220
         replace q220 := eq_true q220
         go_wp2
         repeat (go_quiet (fail); try go_wp2)
         go_ret
         exact ⟨by first | rfl | (simp; done) | (simp [*]; done), by repeat (first | exact zao.refl _ | apply zao.step)⟩
       ·rw [if_neg c7] at H
        exact absurd H (by simp)
      ·rw [if_neg c6] at H
       exact absurd H (by simp)
     ·rw [if_neg c5] at H
      exact absurd H (by simp)
    ·rw [if_neg c4] at H
     have c4b0 : decide (x13_1 < (l0.length : Int)) = false := decide_eq_false c4
     clear c4
     obtain rfl := Option.some.inj H
     go_wp2
     repeat (go_quiet (fail); try go_wp2)
     go_ret
     exact ⟨by first | rfl | (simp; done) | (simp [*]; done), by repeat (first | exact zao.refl _ | apply zao.step)⟩
 ·rw [if_neg c3] at H
  have c3b0 : ((l0.length : Int) == (l1.length : Int)) = false := beq_eq_false_iff_ne.mpr c3
  have c3b1 : ((l0.length : Int) != (l1.length : Int)) = true := bne_iff_ne.mpr c3
  have c3b2 : (l0.length == l1.length) = false := by first | simpa using c3 | (simp at c3 ⊢; omega)
  obtain rfl := Option.some.inj H
  go_enter Try.func26, Try.ntmps26
  go_wp2
  repeat (go_quiet (fail); try go_wp2)
  go_ret
  exact ⟨by first | rfl | (simp; done) | (simp [*]; done), by repeat (first | exact zao.refl _ | apply zao.step)⟩
def zbx (w0 W : World) (g : Nat) (f0 : List Int) (f1 : Int) : Prop := ∃ A0 c0, W.heap[g]? = some (.cells #[.slice A0 f0.length c0, .int .i64 f1] 69 (0, 0)) ∧ w0.heap.size ≤ g ∧ Kd.C (Kd.int .u8) w0 A0 f0.length f0
theorem zbx.grown {w0 W : World} {g : Nat} {f0 : List Int} {f1 : Int} {W1 : World} {row : Option Nat} (h : zbx w0 W g f0 f1) (hw : W.grownBy W1 row) (hne : some g ≠ row) : zbx w0 W1 g f0 f1 := by
 obtain ⟨A0, c0, hb, hg, hr0⟩ := h
 exact ⟨A0, c0, zcr hb hw hne, hg, hr0⟩
theorem zbx.kept {w0 W : World} {g : Nat} {f0 : List Int} {f1 : Int} {W1 : World} {S : Nat → Prop} (h : zbx w0 W g f0 f1) (hk : Kept W W1 S) (hne : ¬ S g) : zbx w0 W1 g f0 f1 := by
 obtain ⟨A0, c0, hb, hg, hr0⟩ := h
 exact ⟨A0, c0, blk_kept hb hk hne, hg, hr0⟩
theorem zbx.below {w0 W : World} {g : Nat} {f0 : List Int} {f1 : Int} {W1 : World} (h : zbx w0 W g f0 f1) (hw : Below W.heap.size W W1) : zbx w0 W1 g f0 f1 := h.grown (zcm hw none) (by simp)
theorem zbx.alloc {w0 W : World} {g : Nat} {f0 : List Int} {f1 : Int} (h : zbx w0 W g f0 f1) (o : Obj) : zbx w0 (W.alloc o) g f0 f1 := h.below (zab (Below.refl _ _) o)
theorem zbx.drewN {w0 W : World} {g : Nat} {f0 : List Int} {f1 : Int} (h : zbx w0 W g f0 f1) (m : Nat) : zbx w0 (W.drewN m) g f0 f1 := h
theorem zbx.drew {w0 W : World} {g : Nat} {f0 : List Int} {f1 : Int} (h : zbx w0 W g f0 f1) : zbx w0 W.drew g f0 f1 := h
theorem zbx.at_ {w0 W : World} {g : Nat} {f0 : List Int} {f1 : Int} {w' : World} {m : Nat} (hq : W.drewN m = w') (h : zbx w0 W g f0 f1) : zbx w0 w' g f0 f1 := by subst hq; exact zbx.drewN h m
theorem zbx.apart {w0 W : World} {g : Nat} {f0 : List Int} {f1 : Int} {α : Type} {d : Kd α} {e : Nat} {base : Nat} {ok : Nat → Prop} {v : Value} {xs : List α} (h : zbx w0 W g f0 f1) (ho : d.R e W base ok v xs) (ht : ∀ q, q ∈ e :: d.E → q ≠ 69) : d.R e W base (fun k => ok k ∧ k ≠ g) v xs := by
 obtain ⟨A0, c0, hb, hg, hr0⟩ := h
 exact Kd.R_types ho hb ht
theorem zbx.ge {w0 W : World} {g : Nat} {f0 : List Int} {f1 : Int} (h : zbx w0 W g f0 f1) : w0.heap.size ≤ g := by
 obtain ⟨A0, c0, hb, hg, hr0⟩ := h
 exact hg
theorem zbx.far {w0 W : World} {g : Nat} {f0 : List Int} {f1 : Int} {p : Addr} (h : zbx w0 W g f0 f1) (hne : g ≠ p.block) (u : Value) : zbx w0 (W.setCell p u) g f0 f1 := by
 obtain ⟨A0, c0, hb, hg, hr0⟩ := h
 exact ⟨A0, c0, blk_far hb hne u, hg, hr0⟩
theorem zbx.new (w0 W : World) (A0 : Option Addr) (c0 : Nat) (f0 : List Int) (f1 : Int) (hB : Below w0.heap.size w0 W) (hr0 : Kd.C (Kd.int .u8) w0 A0 f0.length f0) : zbx w0 (W.alloc (.cells #[.slice A0 f0.length c0, .int .i64 f1] 69)) W.heap.size f0 f1 := ⟨A0, c0, by simpa using heap_alloc_new W _, hB.size, hr0⟩
end Go.Proofs.Ytgiidlebnjbgeaa.PB
namespace Go.Proofs.Ytgiidlebnjbgeaa.PC
open Go.RowKit Go.PW.PrintWords Go.PW.PrintLast Go.PW.PrintMore
attribute [local go_sem] zbu zbs zcc zcb zbf zbe zbt zbr   -- for this text's walks alone
def errW : Option Int → Value
 | none => .nilIface
 | some c => .iface 0 (.int .i64 c)
theorem zam : errW none = .nilIface := rfl
theorem zal (c : Int) : errW (some c) = .iface 0 (.int .i64 c) := rfl
end Go.Proofs.Ytgiidlebnjbgeaa.PC
namespace Go.Proofs.Ytgiidlebnjbgeaa.PC
open Go.RowKit Go.PW.PrintWords Go.PW.PrintLast Go.PW.PrintMore
attribute [local go_sem] zbu zbs zcc zcb zbf zbe zbt zbr   -- for this text's walks alone
def slices_Equal_int_int.l0 : Nat → List Int → List Int → Int → Int → Option (Bool)
 | 0, _, _, _, _ => none
 | k + 1, x0, x1, x12, x13 => if x13 < x12 then (if 0 ≤ x13 then (if x13 < (x0.length : Int) then (if x13 < (x1.length : Int) then (if (rd x0 x13) = (rd x1 x13) then (slices_Equal_int_int.l0 k x0 x1 x12 (wrap64 (x13 + 1))) else (some false)) else (none)) else (none)) else (none)) else (some true)
def slices_Equal_int_int.f (k : Nat) (l0 : List Int) (l1 : List Int) : Option (Bool) := if (l0.length : Int) = (l1.length : Int) then (slices_Equal_int_int.l0 k l0 l1 (l0.length : Int) 0) else (some false)
set_option maxHeartbeats 8000000 in
set_option maxRecDepth 100000 in
theorem slices_Equal_int_int.calls (k : Nat) (A0 : Option Addr) (c0 : Nat) (l0 : List Int) (A1 : Option Addr) (c1 : Nat) (l1 : List Int) (r : Bool) (w : World) (hr0 : Kd.C (Kd.int .i64) w A0 l0.length l0) (hc0 : l0.length ≤ c0) (hr1 : Kd.C (Kd.int .i64) w A1 l1.length l1) (hc1 : l1.length ≤ c1) (h : slices_Equal_int_int.f k l0 l1 = some r) :
  Calls Try.prog 26 #[.slice A0 l0.length c0, .slice A1 l1.length c1] w fun e w' => e = .returned (.bool r) ∧ zao w w' := by
 have HR0 := zaa.mk hr0
 have HC0 := zaa.mk hc0
 clear hr0 hc0
 have HR1 := zaa.mk hr1
 have HC1 := zaa.mk hc1
 clear hr1 hc1
 have H : (if (l0.length : Int) = (l1.length : Int) then (slices_Equal_int_int.l0 k l0 l1 (l0.length : Int) 0) else (some false)) = some r := h
 clear h
 by_cases c3 : (l0.length : Int) = (l1.length : Int)
 ·rw [if_pos c3] at H
  have c3b0 : ((l0.length : Int) == (l1.length : Int)) = true := beq_iff_eq.mpr c3
  have c3b1 : ((l0.length : Int) != (l1.length : Int)) = false := bne_eq_false_iff_eq.mpr c3
  have c3b2 : (l0.length == l1.length) = true := by first | simpa using c3 | (simp at c3 ⊢; omega)
  clear c3
  have H' := zaa.mk H
  clear H
  go_enter Try.func26, Try.ntmps26
  go_wp2
  repeat (go_quiet (fail); try go_wp2)
  go_loopg [13] k (fun kq v13 w' => ∃ (x13_1 : Int), v13 = .int .i64 x13_1 ∧ zaa (slices_Equal_int_int.l0 kq l0 l1 (l0.length : Int) x13_1 = some r) ∧ zaa (kq ≤ k) ∧ zao w w')
  case atStart => exact ⟨(0), (by first | rfl | (simp; done) | (simp [*]; done)), H', ⟨Nat.le_refl _⟩, by repeat (first | exact zao.refl _ | apply zao.step)⟩
  case round =>
   clear H'
   try clear c1
   try clear c2
   try clear p2
   try clear c3
   try clear c3b0
   try clear c3b1
   try clear c3b2
   obtain ⟨x13_1, rfl, HA, HK1, ⟨m1, rfl⟩⟩ := hrel
   cases gk with
   | zero => exact absurd HA.out (by simp [slices_Equal_int_int.l0])
   | succ k1 =>
    have H := HA.out
    clear HA
    simp only [slices_Equal_int_int.l0] at H
    by_cases c4 : x13_1 < (l0.length : Int)
    ·rw [if_pos c4] at H
     have c4b0 : decide (x13_1 < (l0.length : Int)) = true := decide_eq_true c4
     clear c4
     by_cases c5 : 0 ≤ x13_1
     ·rw [if_pos c5] at H
      have c5b0 : decide (0 ≤ x13_1) = true := decide_eq_true c5
      clear c5
      by_cases c6 : x13_1 < (l0.length : Int)
      ·rw [if_pos c6] at H
       have c6b0 : decide (x13_1 < (l0.length : Int)) = true := decide_eq_true c6
       clear c6
       by_cases c7 : x13_1 < (l1.length : Int)
       ·rw [if_pos c7] at H
        have c7b0 : decide (x13_1 < (l1.length : Int)) = true := decide_eq_true c7
        clear c7
        by_cases c8 : (rd l0 x13_1) = (rd l1 x13_1)
        ·rw [if_pos c8] at H
         have c8b0 : ((rd l0 x13_1) == (rd l1 x13_1)) = true := beq_iff_eq.mpr c8
         have c8b1 : ((rd l0 x13_1) != (rd l1 x13_1)) = false := bne_eq_false_iff_eq.mpr c8
         clear c8
         have H' := zaa.mk H
         clear H
         have p101 : 0 ≤ (x13_1 : Int) := of_decide_eq_true (by first | (with_reducible assumption) | assumption)
         have q101 : x13_1 < (l0.length : Int) := of_decide_eq_true (by first | (with_reducible assumption) | assumption)
         obtain ⟨ad101, e101, hx101_0⟩ := Kd.at_int HR0.out x13_1 p101 q101
         cases e101
         replace p101 := eq_true p101
         replace q101 := eq_true q101
         have p102 : 0 ≤ (x13_1 : Int) := of_decide_eq_true (by first | (with_reducible assumption) | assumption)
         have q102 : x13_1 < (l1.length : Int) := of_decide_eq_true (by first | (with_reducible assumption) | assumption)
         obtain ⟨ad102, e102, hx102_0⟩ := Kd.at_int HR1.out x13_1 p102 q102
         cases e102
         replace p102 := eq_true p102
         replace q102 := eq_true q102
         go_wp2
         repeat (go_quiet (fail); try go_wp2)
         go_roundg k1
         case measure => have := HK1.out; omega
         case rel => exact ⟨(wrap64 (x13_1 + 1)), (by first | rfl | (simp; done) | (simp [*]; done)), H', ⟨by have := HK1.out; omega⟩, by repeat (first | exact zao.refl _ | apply zao.step)⟩
        ·rw [if_neg c8] at H
         have c8b0 : ((rd l0 x13_1) == (rd l1 x13_1)) = false := beq_eq_false_iff_ne.mpr c8
         have c8b1 : ((rd l0 x13_1) != (rd l1 x13_1)) = true := bne_iff_ne.mpr c8
         obtain rfl := Option.some.inj H
         have p101 : 0 ≤ (x13_1 : Int) := of_decide_eq_true (by first | (with_reducible assumption) | assumption)
         have q101 : x13_1 < (l0.length : Int) := of_decide_eq_true (by first | (with_reducible assumption) | assumption)
         obtain ⟨ad101, e101, hx101_0⟩ := Kd.at_int HR0.out x13_1 p101 q101
         cases e101
         replace p101 := eq_true p101
         replace q101 := eq_true q101
         have p102 : 0 ≤ (x13_1 : Int) := of_decide_eq_true (by first | (with_reducible assumption) | assumption)
         have q102 : x13_1 < (l1.length : Int) := of_decide_eq_true (by first | (with_reducible assumption) | assumption)
         obtain ⟨ad102, e102, hx102_0⟩ := Kd.at_int HR1.out x13_1 p102 q102
         cases e102
         replace p102 := eq_true p102
         replace q102 := eq_true q102
         go_wp2
         repeat (go_quiet (fail); try go_wp2)
         go_ret
         exact ⟨by first | rfl | (simp; done) | (simp [*]; done), by repeat (first | exact zao.refl _ | apply zao.step)⟩
       ·rw [if_neg c7] at H
        exact absurd H (by simp)
      ·rw [if_neg c6] at H
       exact absurd H (by simp)
     ·rw [if_neg c5] at H
      exact absurd H (by simp)
    ·rw [if_neg c4] at H
     have c4b0 : decide (x13_1 < (l0.length : Int)) = false := decide_eq_false c4
     clear c4
     obtain rfl := Option.some.inj H
     go_wp2
     repeat (go_quiet (fail); try go_wp2)
     go_ret
     exact ⟨by first | rfl | (simp; done) | (simp [*]; done), by repeat (first | exact zao.refl _ | apply zao.step)⟩
 ·rw [if_neg c3] at H
  have c3b0 : ((l0.length : Int) == (l1.length : Int)) = false := beq_eq_false_iff_ne.mpr c3
  have c3b1 : ((l0.length : Int) != (l1.length : Int)) = true := bne_iff_ne.mpr c3
  have c3b2 : (l0.length == l1.length) = false := by first | simpa using c3 | (simp at c3 ⊢; omega)
  obtain rfl := Option.some.inj H
  go_enter Try.func26, Try.ntmps26
  go_wp2
  repeat (go_quiet (fail); try go_wp2)
  go_ret
  exact ⟨by first | rfl | (simp; done) | (simp [*]; done), by repeat (first | exact zao.refl _ | apply zao.step)⟩
end Go.Proofs.Ytgiidlebnjbgeaa.PC
namespace Go.Proofs.Ytgiidlebnjbgeaa.Hd
open Go.RowKit Go.PW.PrintWords Go.PW.PrintLast Go.PW.PrintMore
def BRow (W : World) (base : Nat) (g : Nat) (cap : Nat) (e : TypeId) (xs : List Int) : Prop :=
 ∃ (cur : Array Value), base ≤ g ∧ W.heap[g]? = some (.cells cur e (cur.size, cur.size + 1)) ∧ xs.length ≤ cur.size ∧ cur.toList.take xs.length = nums .u8 xs
section
variable {W : World} {base g cap : Nat} {e : TypeId} {xs : List Int}
theorem BRow.cell (h : BRow W base g cap e xs) (i : Nat) (hi : i < xs.length) : W.cell? ⟨g, i, none⟩ = some (.int .u8 (xs.getD i 0)) ∧ W.frozen? ⟨g, i, none⟩ = false := by
 obtain ⟨cur, hb, hg, hl, ht⟩ := h
 have h1 : cur.toList[i]? = some (.int .u8 (xs.getD i 0)) := by
  have h2 : (cur.toList.take xs.length)[i]? = some (.int .u8 (xs.getD i 0)) := by
   rw [ht]; simp [nums, List.getD_eq_getElem?_getD, hi]
  rw [List.getElem?_take] at h2
  simpa [hi] using h2
 constructor
 ·simp only [World.cell?, hg]
  simpa using h1
 ·have : ¬ cur.size ≤ i := by omega
  simp [World.frozen?, hg, this]
theorem BRow.set (h : BRow W base g cap e xs) (i : Nat) (x : Int) : BRow (W.setCell ⟨g, i, none⟩ (.int .u8 x)) base g cap e (xs.set i x) := by
 obtain ⟨cur, hb, hg, hl, ht⟩ := h
 refine ⟨cur.setIfInBounds i (.int .u8 x), hb, ?_, ?_, ?_⟩
 ·simp [World.setCell, Array.getElem?_modify, hg]
 ·simpa using hl
 ·rw [Array.toList_setIfInBounds, List.length_set, List.take_set, ht]
  simp [nums]
theorem BRow.move (h : BRow W base g cap e xs) {W1 : World} (hm : W1.heap[g]? = W.heap[g]?) : BRow W1 base g cap e xs := by
 obtain ⟨cur, hb, hg, hl, ht⟩ := h
 exact ⟨cur, hb, hm.trans hg, hl, ht⟩
theorem BRow.reads (h : BRow W base g cap e xs) (hm : xs.length ≤ 9223372036854775807) : (Kd.int .u8).C W (some ⟨g, 0, none⟩) xs.length xs := by
 refine ⟨rfl, hm, fun _ => ⟨_, rfl, fun j p hj => ?_⟩⟩
 have hjl := (List.getElem?_eq_some_iff.1 hj).1
 refine ⟨[.int .u8 p], rfl, rfl, fun i u hu => ?_⟩
 have hi : i = 0 := by
  rcases Nat.eq_zero_or_pos i with h0 | h0
  ·exact h0
  ·rw [List.getElem?_eq_none (by simp; omega)] at hu; cases hu
 subst hi
 have hu' : Value.int .u8 p = u := by simpa using hu
 subst hu'
 have h1 := (h.cell j hjl).1
 rw [List.getD_eq_getElem?_getD, hj] at h1
 show W.cell? ((⟨g, 0, none⟩ : Addr).add (j * 1 + 0)) = _
 rw [Nat.mul_one, Nat.add_zero, zcj]
 exact h1
end
section
variable {P : Program} {ops : Array Oper} {rest : List Oper} {o : Oper} {a : Act} {Q : Exit → Act → World → Prop}
end
end Go.Proofs.Ytgiidlebnjbgeaa.Hd
namespace Go.Proofs.Ytgiidlebnjbgeaa.SM
open Go.Proofs.Ytgiidlebnjbgeaa.PB Go.Proofs.Ytgiidlebnjbgeaa.Hd
open Go.RowKit Go.PW.PrintWords Go.PW.PrintLast Go.PW.PrintMore
attribute [local go_sem] zbu zbs zcc zcb zbf zbe zbt zbr   -- for this text's walks alone
def errW : Option Int → Value
 | none => .nilIface
 | some c => .iface 0 (.int .i64 c)
theorem zam : errW none = .nilIface := rfl
theorem zal (c : Int) : errW (some c) = .iface 0 (.int .i64 c) := rfl
structure S38 where
 f0 : Int
 f1 : (List S38)
def z38 : S38 := ⟨(0 : Int), ([] : List S38)⟩
def F38 (d : Kd S38) : Kd S38 := Kd.iso (Kd.pair (Kd.int .u8) (Kd.slice 38 d)) (fun x : S38 => (x.f0, x.f1))
theorem mono38 : Kd.Mono F38 := Kd.mono_iso _ (Kd.mono_pair (Kd.mono_const _) (Kd.mono_slice 38 Kd.mono_id))
theorem sub38 : Kd.Sub F38 [38] := Kd.sub_iso _ (Kd.sub_pair (Kd.sub_const _ (by decide)) (Kd.sub_slice 38 (by decide) Kd.sub_id))
theorem sz38 : ∀ n, (Kd.upto F38 2 [38] n).sz = 2 := Kd.upto_sz (fun _ => rfl)
def k38 : Kd S38 := Kd.fix F38 2 [38] sz38 (Kd.upto_E sub38)
theorem k38_open {w : World} {x : S38} {cs : List Value} (h : k38.K w x cs) : ∃ A1 c1, cs = [.int .u8 x.f0, .slice A1 x.f1.length c1] ∧ x.f1.length ≤ c1 ∧ k38.C w A1 x.f1.length x.f1 := by
 obtain ⟨n, h⟩ := h
 cases n with
 | zero => exact h.elim
 | succ n =>
  obtain ⟨_, _, rfl, rfl, ⟨A1, c1, rfl, l1, g1⟩⟩ := h
  exact ⟨A1, c1, rfl, l1, Kd.fix_C g1⟩
theorem k38_mk (w : World) (x : S38) {A1 : Option Addr} {c1 : Nat} (l1 : x.f1.length ≤ c1) (g1 : k38.C w A1 x.f1.length x.f1) : k38.K w x [.int .u8 x.f0, .slice A1 x.f1.length c1] := by
 obtain ⟨n1, q1⟩ := Kd.fix_C_back mono38 g1
 have r1 := Kd.upto_C_le mono38 sz38 (show n1 ≤ n1 by omega) q1
 exact ⟨n1 + 1, ⟨[.int .u8 x.f0], [.slice A1 x.f1.length c1], rfl, rfl, ⟨A1, c1, rfl, l1, r1⟩⟩⟩
def zas (xs : List S38) (i : Int) : S38 := xs.getD i.toNat z38
theorem at_T38 {w : World} {A : Option Addr} {n : Nat} {xs : List S38} (h : Kd.C k38 w A n xs) (i : Int) (h0 : 0 ≤ i) (h1 : i < n) : ∃ ad A1 c1, A = some ad ∧ w.cell? (ad.add (i.toNat * 2)) = some (.int .u8 (zas xs i).f0) ∧ w.cell? ⟨(ad.add (i.toNat * 2)).block, (ad.add (i.toNat * 2)).off + 1, none⟩ = some (.slice A1 (zas xs i).f1.length c1) ∧ (zas xs i).f1.length ≤ c1 ∧ k38.C w A1 (zas xs i).f1.length (zas xs i).f1 := by
 obtain ⟨ad, c, e, _, hK, hc0⟩ := Kd.C_get h z38 i h0 h1
 have hc : ∀ j u, c[j]? = some u → w.cell? (ad.add (i.toNat * 2 + j)) = some u := hc0
 obtain ⟨A1, c1, rfl, l1, g1⟩ := k38_open hK
 exact ⟨ad, A1, c1, e, hc 0 _ rfl, by rw [← add_field _ _ 1 (by omega)]; exact hc 1 _ rfl, l1, g1⟩
end Go.Proofs.Ytgiidlebnjbgeaa.SM
namespace Go.Proofs.Ytgiidlebnjbgeaa.Hd
open Go.RowKit Go.PW.PrintWords Go.PW.PrintLast Go.PW.PrintMore Go.Proofs.Ytgiidlebnjbgeaa.PB
theorem wrapT {x : Int} (h0 : -9223372036854775808 ≤ x) (h1 : x ≤ 9223372036854775807) : wrap64 x = x := by unfold wrap64; omega
theorem bt_nat (s : ByteArray) (i : Nat) (h : i < s.size) : ((s[i]'h).toNat : Int) = bt s (i : Int) := by
 have := bt_at s (i : Int) (by simpa using h)
 simpa using this
abbrev Tm : Type := S38
abbrev kT : Kd Tm := k38
def rdT : Nat → ByteArray → Nat → Option (Tm × Nat)
 | 0, _, _ => none
 | f + 1, s, i => if s.size ≤ i then none else if bt s (i : Int) = 111 then some (⟨111, []⟩, i + 1) else
  if bt s (i : Int) = 62 ∨ bt s (i : Int) = 94 then match rdT f s (i + 1) with
   | none => none
   | some (t, e) => some (⟨bt s (i : Int), [t]⟩, e)
  else if bt s (i : Int) ≠ 40 then none else match rdT f s (i + 1) with
   | none => none
   | some (a, m) => if s.size ≤ m ∨ (bt s (m : Int) ≠ 124 ∧ bt s (m : Int) ≠ 45) then none else match rdT f s (m + 1) with
    | none => none
    | some (b, e) => if s.size ≤ e ∨ bt s (e : Int) ≠ 41 then none else some (⟨bt s (m : Int), [a, b]⟩, e + 1)
theorem rdT_end : ∀ (f : Nat) (s : ByteArray) (i : Nat) (t : Tm) (e : Nat), rdT f s i = some (t, e) → i < e ∧ e ≤ s.size
 | 0, s, i, t, e, h => by cases h
 | f + 1, s, i, t, e, h => by
  unfold rdT at h
  split at h
  ·cases h
  ·split at h
   ·injection h with h; injection h with h1 h2; omega
   ·split at h
    ·split at h
     ·cases h
     ·rename_i t' e' hr
      injection h with h; injection h with h1 h2
      have := rdT_end f s _ _ _ hr
      omega
    ·split at h
     ·cases h
     ·split at h
      ·cases h
      ·rename_i a m hr
       have h3 := rdT_end f s _ _ _ hr
       split at h
       ·cases h
       ·split at h
        ·cases h
        ·rename_i b e' hr2
         have h4 := rdT_end f s _ _ _ hr2
         split at h
         ·cases h
         ·injection h with h; injection h with h1 h2; omega
theorem zaw {w : World} {b : Nat} {t : TypeId} {x y : Value} (h : w.heap[b]? = some (.cells #[x, y] t (0, 0))) (u v : Value) : ((w.setCell ⟨b, 0, none⟩ u).setCell ⟨b, 1, none⟩ v).heap[b]? = some (.cells #[u, v] t (0, 0)) := by
 have h1 : (w.setCell ⟨b, 0, none⟩ u).heap[b]? = some (.cells #[u, y] t (0, 0)) := by simpa using blk_set h 0 u
 simpa using blk_set h1 1 v
theorem zaj {P : Program} {fn : Func} {p u : Tmp} {ty : TypeId} (h : fn.results = #[.cell p ty, .tmp u]) (tmps : Array Value) (w : World) (g : Nat) (t : TypeId) (cs : Array Value) (fr : Nat × Nat) (d : TypeDesc)
  (hp : tmps.getD p undef = .pointer (some ⟨g, 0, none⟩)) (hg : w.heap[g]? = some (.cells cs t fr))
  (hu : P.underlying ty = some d) (hd : (match d with | .struct _ | .array _ _ => true | _ => false) = true) (hi : (P.info? ty).map (·.size) = some cs.size) :
  (results fn tmps).run P w = .ok (.tuple #[.agg cs, tmps.getD u undef]) w := by
 have hp' : tmps[p]?.getD undef = .pointer (some ⟨g, 0, none⟩) := by simpa using hp
 rw [results_cell_tmp h]
 simp [hp', asAddr, run_loadVar_row w g t ty cs fr d hg hu hd hi, Result.andThen]
theorem skipT_step {P : Program} {ops : Array Oper} {o : Oper} {a : Act} {Q : Exit → Act → World → Prop} {Kc : Act → World → Prop} {N : Option Tmp} {W w1 : World} (hw : Region.wanted o (yielded ops a.tmps) = true) (hN : o.dst = none) (hrun : (execOp a.eval o).run P W = .ok .skip w1) (h : Kc a w1) : if Region.wanted o (yielded ops a.tmps) = true then Oper.wp P o a W Kc Q else Kc (a.put N undef) W := by
 rw [if_pos hw]
 unfold Oper.wp
 rw [hrun, Oper.upon_skip, hN]
 exact h
theorem zbd {P : Program} {ops : Array Oper} {o : Oper} {rest : List Oper} {a : Act} {Q : Exit → Act → World → Prop} {W : World} (hgd : o.guard = none) {N : Tmp} (_hd : o.dst = some N) {cs : Array Value} {t : TypeId} {n : Nat}
  (hrun : (execOp a.eval o).run P W = .ok (.value (.slice (some ⟨W.heap.size, 0, none⟩) n n)) (W.alloc (.cells cs t (0, 0))))
  (h : ∀ g, g = W.heap.size → ∀ w1, w1.heap[g]? = some (.cells cs t (0, 0)) → Below W.heap.size W w1 → wpList P ops Q rest (a.put o.dst (.slice (some ⟨g, 0, none⟩) n n)) w1) : wpList P ops Q (o :: rest) a W :=
 Kd.event_run hgd hrun (h _ rfl _ (blk_new W _) (zab (Below.refl _ _) _))
def TmV (w : World) (t : Tm) (sg : Int) (v : Value) : Prop := sg = t.f0 ∧ ∃ A c, v = .slice A t.f1.length c ∧ t.f1.length ≤ c ∧ kT.C w A t.f1.length t.f1
theorem TmV.below {w w' : World} {t : Tm} {sg : Int} {v : Value} (h : TmV w t sg v) (hb : Below w.heap.size w w') : TmV w' t sg v := by
 obtain ⟨a, A, c, e, l, hC⟩ := h
 exact ⟨a, A, c, e, l, Kd.C_below hC hb⟩
theorem kT_one {W : World} {g : Nat} {ty : TypeId} {sg : Int} {v : Value} {a : Tm} (h : W.heap[g]? = some (.cells #[.int .u8 sg, v] ty (0, 0))) (hv : TmV W a sg v) : kT.C W (some ⟨g, 0, none⟩) 1 [a] := by
 obtain ⟨rfl, A, c, rfl, l, hC⟩ := hv
 refine ⟨rfl, by omega, fun _ => ⟨_, rfl, fun j p hj => ?_⟩⟩
 have hj0 : j = 0 := by
  rcases Nat.eq_zero_or_pos j with h0 | h0
  ·exact h0
  ·rw [List.getElem?_eq_none (by simp; omega)] at hj; cases hj
 subst hj0
 have hp : a = p := by simpa using hj
 subst hp
 refine ⟨[.int .u8 a.f0, .slice A a.f1.length c], rfl, k38_mk W a l hC, fun i u hu => ?_⟩
 show W.cell? ((⟨g, 0, none⟩ : Addr).add (0 * 2 + i)) = _
 rw [Nat.zero_mul, Nat.zero_add, zcj, zad h, ← hu]
 simp
theorem kT_two {W : World} {g : Nat} {ty : TypeId} {sg sg2 : Int} {v v2 : Value} {a b : Tm} (h : W.heap[g]? = some (.cells #[.int .u8 sg, v, .int .u8 sg2, v2] ty (0, 0))) (hv : TmV W a sg v) (hv2 : TmV W b sg2 v2) : kT.C W (some ⟨g, 0, none⟩) 2 [a, b] := by
 obtain ⟨rfl, A, c, rfl, l, hC⟩ := hv
 obtain ⟨rfl, A2, c2, rfl, l2, hC2⟩ := hv2
 refine ⟨rfl, by omega, fun _ => ⟨_, rfl, fun j p hj => ?_⟩⟩
 have hj2 : j < 2 := by
  rcases Nat.lt_or_ge j 2 with h0 | h0
  ·exact h0
  ·rw [List.getElem?_eq_none (by simp; omega)] at hj; cases hj
 rcases (show j = 0 ∨ j = 1 by omega) with rfl | rfl
 ·have hp : a = p := by simpa using hj
  subst hp
  refine ⟨[.int .u8 a.f0, .slice A a.f1.length c], rfl, k38_mk W a l hC, fun i u hu => ?_⟩
  show W.cell? ((⟨g, 0, none⟩ : Addr).add (0 * 2 + i)) = _
  have hi : i < 2 := (List.getElem?_eq_some_iff.1 hu).1
  rw [Nat.zero_mul, Nat.zero_add, zcj, zad h, ← hu]
  rcases (show i = 0 ∨ i = 1 by omega) with rfl | rfl <;> rfl
 ·have hp : b = p := by simpa using hj
  subst hp
  refine ⟨[.int .u8 b.f0, .slice A2 b.f1.length c2], rfl, k38_mk W b l2 hC2, fun i u hu => ?_⟩
  show W.cell? ((⟨g, 0, none⟩ : Addr).add (1 * 2 + i)) = _
  have hi : i < 2 := (List.getElem?_eq_some_iff.1 hu).1
  rw [zcj, zad h, ← hu]
  rcases (show i = 0 ∨ i = 1 by omega) with rfl | rfl <;> rfl
def TmF (w : World) (ok : Nat → Prop) (t : Tm) (sg : Int) (v : Value) : Prop := sg = t.f0 ∧ ∃ A c, v = .slice A t.f1.length c ∧ t.f1.length ≤ c ∧ Kd.F kT w ok A t.f1.length t.f1
section
variable {w w' : World} {ok ok' : Nat → Prop} {t a b : Tm} {sg sg2 : Int} {v v2 : Value}
theorem TmF.seen (h : TmF w ok t sg v) (hW : ∀ k, ok k → k < w.heap.size → w'.heap[k]? = w.heap[k]?) : TmV w' t sg v := by
 obtain ⟨e, A, c, e2, l, hF⟩ := h
 exact ⟨e, A, c, e2, l, hF w' hW⟩
theorem TmF.now (h : TmF w ok t sg v) : TmV w t sg v := h.seen (fun _ _ _ => rfl)
theorem TmF.below (h : TmF w ok t sg v) (hb : Below w.heap.size w w') : TmF w' ok t sg v := by
 obtain ⟨e, A, c, e2, l, hF⟩ := h
 exact ⟨e, A, c, e2, l, Kd.F_below hF hb⟩
theorem TmF.far (h : TmF w ok t sg v) {p : Addr} (hok : ∀ k, ok k → k ≠ p.block) (u : Value) : TmF (w.setCell p u) ok t sg v := by
 obtain ⟨e, A, c, e2, l, hF⟩ := h
 exact ⟨e, A, c, e2, l, Kd.F_far hF hok u⟩
theorem TmF.mono (h : TmF w ok t sg v) (hok : ∀ k, ok k → ok' k) : TmF w ok' t sg v := by
 obtain ⟨e, A, c, e2, l, hF⟩ := h
 exact ⟨e, A, c, e2, l, Kd.F_mono hF hok⟩
theorem TmF.leaf (w : World) (ok : Nat → Prop) (x : Int) (A : Option Addr) (c : Nat) : TmF w ok ⟨x, []⟩ x (.slice A 0 c) := ⟨rfl, A, c, rfl, Nat.zero_le _, fun _ _ => ⟨rfl, Nat.zero_le _, fun h => absurd h (Nat.lt_irrefl _)⟩⟩
theorem TmF.one {g : Nat} {ty : TypeId} {x : Int} (h : w.heap[g]? = some (.cells #[.int .u8 sg, v] ty (0, 0))) (hg : ok g) (hv : TmF w ok a sg v) : TmF w ok ⟨x, [a]⟩ x (.slice (some ⟨g, 0, none⟩) 1 1) :=
 ⟨rfl, _, _, rfl, Nat.le_refl _, fun w' hW => kT_one ((hW g hg (zak h)).trans h) (hv.seen hW)⟩
theorem TmF.two {g : Nat} {ty : TypeId} {x : Int} (h : w.heap[g]? = some (.cells #[.int .u8 sg, v, .int .u8 sg2, v2] ty (0, 0))) (hg : ok g) (hv : TmF w ok a sg v) (hv2 : TmF w ok b sg2 v2) : TmF w ok ⟨x, [a, b]⟩ x (.slice (some ⟨g, 0, none⟩) 2 2) :=
 ⟨rfl, _, _, rfl, Nat.le_refl _, fun w' hW => kT_two ((hW g hg (zak h)).trans h) (hv.seen hW) (hv2.seen hW)⟩
end
def ReadRes (w : World) (r : Option (Tm × Nat)) (e : Ending) (w' : World) : Prop :=
 ∃ (sg : Int) (A : Option Addr) (n c : Nat) (m : Int), e = .returned (.tuple #[.agg #[.int .u8 sg, .slice A n c], .int .i64 m]) ∧ Below w.heap.size w w' ∧ match r with
  | none => m = 0
  | some (t, i) => m = (i : Int) ∧ TmF w' (fun k => w.heap.size ≤ k) t sg (.slice A n c)
set_option maxHeartbeats 400000 in
set_option maxRecDepth 100000 in
theorem l11Read_calls (s : ByteArray) (hs : s.size ≤ 1048576) : ∀ (f i : Nat) (w : World) (x : Int), x = (i : Int) → s.size < i + f → i ≤ s.size →
  Calls Try.prog 35 #[.string s, .int .i64 x] w (ReadRes w (rdT f s i)) := by
 intro f
 induction f with
 | zero => intro i w x hx h1 h2; omega
 | succ f ih =>
  intro i w x hx h1 h2
  subst hx
  have HIh := zaa.mk ih
  have HF := zaa.mk h1
  clear ih h1
  go_enter Try.func35, Try.ntmps35
  go_upto_region 1 with (fail)
  have hb := zab (Below.refl w.heap.size w) (.cells #[.int .u8 0, .slice none 0 0] 38)
  have hk := heap_alloc_new w (.cells #[.int .u8 0, .slice none 0 0] 38)
  generalize w.alloc (.cells #[.int .u8 0, .slice none 0 0] 38) = w1 at *
  obtain ⟨p4, hp4⟩ : ∃ p4, p4 = w.heap.size := ⟨_, rfl⟩
  rw [← hp4] at hk ⊢
  have HP4 := zaa.mk hp4
  have HB1 := zaa.mk hb
  have HK1 := zaa.mk hk
  clear hb hk hp4
  go_upto_region 2 with (fail)
  have hb2 := zab (zab (Below.refl w1.heap.size w1) (.cells #[] 38)) (.cells #[.int .u8 111, .slice (some ⟨w1.heap.size, 0, none⟩) 0 0] 38)
  have hk6 := heap_alloc_new (w1.alloc (.cells #[] 38)) (.cells #[.int .u8 111, .slice (some ⟨w1.heap.size, 0, none⟩) 0 0] 38)
  rw [World.size_alloc] at hk6
  generalize (w1.alloc (.cells #[] 38)).alloc (.cells #[.int .u8 111, .slice (some ⟨w1.heap.size, 0, none⟩) 0 0] 38) = w2 at *
  obtain ⟨p6, hp6⟩ : ∃ p6, p6 = w1.heap.size + 1 := ⟨_, rfl⟩
  rw [← hp6] at hk6 ⊢
  obtain ⟨pe, hpe⟩ : ∃ pe, pe = w1.heap.size := ⟨_, rfl⟩
  rw [← hpe] at hk6 ⊢
  have hp46 : p4 < p6 := by have := zak HK1.out; omega
  have hk4 := (hb2.block p4 (zak HK1.out)).trans HK1.out
  have HB2 := zaa.mk (zae HB1.out hb2)
  have HK4 := zaa.mk hk4
  have HK6 := zaa.mk hk6
  have x40 : w2.cell? ⟨p4, 0, none⟩ = some (.int .u8 0) := (zad hk4 0).trans rfl
  have x41 : w2.cell? ⟨p4, 1, none⟩ = some (.slice none 0 0) := (zad hk4 1).trans rfl
  have f40 := zag hk4 0
  have f41 := zag hk4 1
  have x60 : w2.cell? ⟨p6, 0, none⟩ = some (.int .u8 111) := (zad hk6 0).trans rfl
  have x61 : w2.cell? ⟨p6, 1, none⟩ = some (.slice (some ⟨pe, 0, none⟩) 0 0) := (zad hk6 1).trans rfl
  clear hb2 hk4 hk6 hp6 hpe HB1 HK1
  by_cases hi : s.size ≤ i
  ·have hii : (s.size : Int) ≤ (i : Int) := by omega
   have hr : rdT (f + 1) s i = none := by unfold rdT; rw [if_pos hi]
   go_wp2
   have x0 := zaw HK4.out (.int .u8 111) (.slice (some ⟨pe, 0, none⟩) 0 0)
   have HBs := zaa.mk (show Below w.heap.size w ((w2.setCell ⟨p4, 0, none⟩ (.int .u8 111)).setCell ⟨p4, 1, none⟩ (.slice (some ⟨pe, 0, none⟩) 0 0)) from zah (zah HB2.out (by have := HP4.out; omega)) (by have := HP4.out; omega))
   generalize (w2.setCell ⟨p4, 0, none⟩ (.int .u8 111)).setCell ⟨p4, 1, none⟩ (.slice (some ⟨pe, 0, none⟩) 0 0) = w3 at *
   (try simp only [Exit.inBlock, Exit.then])
   refine bodyPost_ret (zaj rfl _ _ p4 38 _ (0, 0) _ rfl x0 Try.underlying38 rfl (by kernel_rfl)) rfl ?_
   rw [hr]
   exact ⟨111, _, 0, 0, 0, rfl, HBs.out, rfl⟩
  ·have hlt : ¬ (s.size : Int) ≤ (i : Int) := by omega
   have c0 : (0 : Int) ≤ (i : Int) := by omega
   have c1 : (i : Int) < (s.size : Int) := by omega
   obtain ⟨j, hj⟩ : ∃ j, j = i + 1 := ⟨_, rfl⟩
   have HJ := zaa.mk hj
   clear hj
   have hun : rdT (f + 1) s i = if bt s (i : Int) = 111 then some (⟨111, []⟩, j) else
     if bt s (i : Int) = 62 ∨ bt s (i : Int) = 94 then match rdT f s j with
      | none => none
      | some (t, e) => some (⟨bt s (i : Int), [t]⟩, e)
     else if bt s (i : Int) ≠ 40 then none else match rdT f s j with
      | none => none
      | some (a, m) => if s.size ≤ m ∨ (bt s (m : Int) ≠ 124 ∧ bt s (m : Int) ≠ 45) then none else match rdT f s (m + 1) with
       | none => none
       | some (b, e) => if s.size ≤ e ∨ bt s (e : Int) ≠ 41 then none else some (⟨bt s (m : Int), [a, b]⟩, e + 1) := by
    conv => lhs; unfold rdT
    rw [if_neg hi, HJ.out]
   have HUn := zaa.mk hun
   have hil : i < s.size := by omega
   clear hun hi
   have hbt := bt_nat s i hil
   generalize bt s (i : Int) = c at *
   by_cases e1 : c = 111
   ·have hr : rdT (f + 1) s i = some (⟨111, []⟩, j) := by rw [HUn.out, if_pos e1]
    have d1 : (c == 111) = true := by rw [beq_iff_eq]; exact e1
    have HR := zaa.mk hr
    clear hr e1
    go_wp2
    have x0 := zaw HK4.out (.int .u8 111) (.slice (some ⟨pe, 0, none⟩) 0 0)
    have HBs := zaa.mk (show Below w.heap.size w ((w2.setCell ⟨p4, 0, none⟩ (.int .u8 111)).setCell ⟨p4, 1, none⟩ (.slice (some ⟨pe, 0, none⟩) 0 0)) from zah (zah HB2.out (by have := HP4.out; omega)) (by have := HP4.out; omega))
    generalize (w2.setCell ⟨p4, 0, none⟩ (.int .u8 111)).setCell ⟨p4, 1, none⟩ (.slice (some ⟨pe, 0, none⟩) 0 0) = w3 at *
    (try simp only [Exit.inBlock, Exit.then])
    refine bodyPost_ret (zaj rfl _ _ p4 38 _ (0, 0) _ rfl x0 Try.underlying38 rfl (by kernel_rfl)) rfl ?_
    rw [HR.out]
    exact ⟨111, _, 0, 0, _, rfl, HBs.out, by have := HJ.out; omega, TmF.leaf _ _ _ _ _⟩
   ·have d1 : (c == 111) = false := by rw [beq_eq_false_iff_ne]; exact e1
    have hun := HUn.out
    rw [if_neg e1] at hun
    clear HUn
    have HUn := zaa.mk hun
    clear hun e1
    rcases (show c = 62 ∨ c = 94 ∨ (c ≠ 62 ∧ c ≠ 94) by omega) with e3 | e3 | ⟨e3, e4⟩
    ·have e2 : c = 62 ∨ c = 94 := by omega
     have d2 : (c == 62) = true := by rw [beq_iff_eq]; exact e3
     have hun := HUn.out
     rw [if_pos e2] at hun
     clear HUn
     have HUn := zaa.mk hun
     have HC := zaa.mk e3
     clear hun e2 e3
     go_upto_region 9 with (first
      | (go_at_call 35; refine (HIh.out j _ _ (by have := HJ.out; omega) (by have := HF.out; have := HJ.out; omega) (by have := HJ.out; omega)).mono ?_; rintro e w3 ⟨sg, A, n, cp, m, rfl, hb, hres⟩; have HB3 := zaa.mk hb; have HRes := zaa.mk hres; clear hb hres))
     have hb := zab (Below.refl w3.heap.size w3) (.cells #[.int .u8 sg, .slice A n cp] 38)
     have hk := heap_alloc_new w3 (.cells #[.int .u8 sg, .slice A n cp] 38)
     generalize w3.alloc (.cells #[.int .u8 sg, .slice A n cp] 38) = w4 at *
     obtain ⟨p8, hp⟩ : ∃ p8, p8 = w3.heap.size := ⟨_, rfl⟩
     rw [← hp] at hk ⊢
     have Hp8 := zaa.mk hp
     have HAw4 := zaa.mk hb
     have HKp8 := zaa.mk hk
     clear hb hk hp
     have hk4 := (HAw4.out.block p4 (by have := HB3.out.size; have := zak HK4.out; omega)).trans ((HB3.out.block p4 (zak HK4.out)).trans HK4.out)
     have HB4 := zaa.mk (zae (zae HB2.out HB3.out) HAw4.out)
     have HK4' := zaa.mk hk4
     clear x40 x41 f40 f41 x60 x61
     have x40 : w4.cell? ⟨p4, 0, none⟩ = some (.int .u8 0) := (zad hk4 0).trans rfl
     have x41 : w4.cell? ⟨p4, 1, none⟩ = some (.slice none 0 0) := (zad hk4 1).trans rfl
     have f40 := zag hk4 0
     have f41 := zag hk4 1
     have x80 : w4.cell? ⟨p8, 0, none⟩ = some (.int .u8 sg) := (zad HKp8.out 0).trans rfl
     have x81 : w4.cell? ⟨p8, 1, none⟩ = some (.slice A n cp) := (zad HKp8.out 1).trans rfl
     clear hk4
     go_wp2_with (first
      | ((with_reducible refine zba (N := 44) rfl ?_); refine zbd ?hg (N := 44) ?hd (n := 1) (cs := #[.int .u8 sg, .slice A n cp]) (t := 38) ?hr ?_; (case hd => rfl); (case hg => rfl); (case hr => first | (go_simp; done) | (go_simp; rfl)); intro pb hpb w5 hk hb; have Hpb := zaa.mk hpb; have HAw5 := zaa.mk hb; have HKpb := zaa.mk hk; have hk4 := (hb.block p4 (zak HK4'.out)).trans HK4'.out; clear x40 x41 f40 f41 x80 x81 hb hk hpb; have x40 : w5.cell? ⟨p4, 0, none⟩ = some (.int .u8 0) := (zad hk4 0).trans rfl; have x41 : w5.cell? ⟨p4, 1, none⟩ = some (.slice none 0 0) := (zad hk4 1).trans rfl; have f40 := zag hk4 0; have f41 := zag hk4 1; clear hk4))
     have HN := zaa.mk (show p4 < w2.heap.size ∧ w2.heap.size ≤ w3.heap.size ∧ w3.heap.size ≤ w4.heap.size ∧ pb = w4.heap.size ∧ w.heap.size ≤ p4 ∧ w.heap.size ≤ w2.heap.size from ⟨zak HK4.out, HB3.out.size, HAw4.out.size, Hpb.out, by have := HP4.out; omega, HB2.out.size⟩)
     have hk4 := (HAw5.out.block p4 (zak HK4'.out)).trans HK4'.out
     have x0 := zaw hk4 (.int .u8 c) (.slice (some ⟨pb, 0, none⟩) 1 1)
     have HBs := zaa.mk (show Below w.heap.size w ((w5.setCell ⟨p4, 0, none⟩ (.int .u8 c)).setCell ⟨p4, 1, none⟩ (.slice (some ⟨pb, 0, none⟩) 1 1)) from zah (zah (zae HB4.out HAw5.out) (by have := HP4.out; omega)) (by have := HP4.out; omega))
     have HKb := zaa.mk (show ((w5.setCell ⟨p4, 0, none⟩ (.int .u8 c)).setCell ⟨p4, 1, none⟩ (.slice (some ⟨pb, 0, none⟩) 1 1)).heap[pb]? = some (.cells #[.int .u8 sg, .slice A n cp] 38 (0, 0)) from (Below.heap_setCell _ ⟨p4, 1, none⟩ _ pb (by have := HN.out; show pb ≠ p4; omega)).trans ((Below.heap_setCell w5 ⟨p4, 0, none⟩ _ pb (by have := HN.out; show pb ≠ p4; omega)).trans HKpb.out))
     have HT := zaa.mk (show ∀ t : Tm, TmF w3 (fun k => w2.heap.size ≤ k) t sg (.slice A n cp) → TmF ((w5.setCell ⟨p4, 0, none⟩ (.int .u8 c)).setCell ⟨p4, 1, none⟩ (.slice (some ⟨pb, 0, none⟩) 1 1)) (fun k => w2.heap.size ≤ k) t sg (.slice A n cp) from fun t h => (((h.below HAw4.out).below HAw5.out).far (p := ⟨p4, 0, none⟩) (fun k hk => by have := HN.out; show k ≠ p4; omega) _).far (p := ⟨p4, 1, none⟩) (fun k hk => by have := HN.out; show k ≠ p4; omega) _)
     generalize (w5.setCell ⟨p4, 0, none⟩ (.int .u8 c)).setCell ⟨p4, 1, none⟩ (.slice (some ⟨pb, 0, none⟩) 1 1) = w6 at *
     (try simp only [Exit.inBlock, Exit.then])
     refine bodyPost_ret (zaj rfl _ _ p4 38 _ (0, 0) _ rfl x0 Try.underlying38 rfl (by kernel_rfl)) rfl ?_
     rw [HUn.out]
     have hres := HRes.out
     cases hrd : rdT f s j with
     | none =>
      rw [hrd] at hres
      dsimp only at hres ⊢
      exact ⟨c, _, 1, 1, m, rfl, HBs.out, hres⟩
     | some te =>
      obtain ⟨t, e⟩ := te
      rw [hrd] at hres
      dsimp only at hres ⊢
      exact ⟨c, _, 1, 1, m, rfl, HBs.out, hres.1, TmF.one HKb.out (by have := HN.out; show w.heap.size ≤ pb; omega) ((HT.out t hres.2).mono (fun k hk => by have := HN.out; show w.heap.size ≤ k; omega))⟩
    ·have e2 : c = 62 ∨ c = 94 := by omega
     have d2 : (c == 62) = false := by rw [beq_eq_false_iff_ne]; omega
     have d3 : (c == 94) = true := by rw [beq_iff_eq]; exact e3
     have hun := HUn.out
     rw [if_pos e2] at hun
     clear HUn
     have HUn := zaa.mk hun
     have HC := zaa.mk e3
     clear hun e2 e3
     go_upto_region 9 with (first
      | (go_at_call 35; refine (HIh.out j _ _ (by have := HJ.out; omega) (by have := HF.out; have := HJ.out; omega) (by have := HJ.out; omega)).mono ?_; rintro e w3 ⟨sg, A, n, cp, m, rfl, hb, hres⟩; have HB3 := zaa.mk hb; have HRes := zaa.mk hres; clear hb hres))
     have hb := zab (Below.refl w3.heap.size w3) (.cells #[.int .u8 sg, .slice A n cp] 38)
     have hk := heap_alloc_new w3 (.cells #[.int .u8 sg, .slice A n cp] 38)
     generalize w3.alloc (.cells #[.int .u8 sg, .slice A n cp] 38) = w4 at *
     obtain ⟨p8, hp⟩ : ∃ p8, p8 = w3.heap.size := ⟨_, rfl⟩
     rw [← hp] at hk ⊢
     have Hp8 := zaa.mk hp
     have HAw4 := zaa.mk hb
     have HKp8 := zaa.mk hk
     clear hb hk hp
     have hk4 := (HAw4.out.block p4 (by have := HB3.out.size; have := zak HK4.out; omega)).trans ((HB3.out.block p4 (zak HK4.out)).trans HK4.out)
     have HB4 := zaa.mk (zae (zae HB2.out HB3.out) HAw4.out)
     have HK4' := zaa.mk hk4
     clear x40 x41 f40 f41 x60 x61
     have x40 : w4.cell? ⟨p4, 0, none⟩ = some (.int .u8 0) := (zad hk4 0).trans rfl
     have x41 : w4.cell? ⟨p4, 1, none⟩ = some (.slice none 0 0) := (zad hk4 1).trans rfl
     have f40 := zag hk4 0
     have f41 := zag hk4 1
     have x80 : w4.cell? ⟨p8, 0, none⟩ = some (.int .u8 sg) := (zad HKp8.out 0).trans rfl
     have x81 : w4.cell? ⟨p8, 1, none⟩ = some (.slice A n cp) := (zad HKp8.out 1).trans rfl
     clear hk4
     go_wp2_with (first
      | ((with_reducible refine zba (N := 44) rfl ?_); refine zbd ?hg (N := 44) ?hd (n := 1) (cs := #[.int .u8 sg, .slice A n cp]) (t := 38) ?hr ?_; (case hd => rfl); (case hg => rfl); (case hr => first | (go_simp; done) | (go_simp; rfl)); intro pb hpb w5 hk hb; have Hpb := zaa.mk hpb; have HAw5 := zaa.mk hb; have HKpb := zaa.mk hk; have hk4 := (hb.block p4 (zak HK4'.out)).trans HK4'.out; clear x40 x41 f40 f41 x80 x81 hb hk hpb; have x40 : w5.cell? ⟨p4, 0, none⟩ = some (.int .u8 0) := (zad hk4 0).trans rfl; have x41 : w5.cell? ⟨p4, 1, none⟩ = some (.slice none 0 0) := (zad hk4 1).trans rfl; have f40 := zag hk4 0; have f41 := zag hk4 1; clear hk4))
     have HN := zaa.mk (show p4 < w2.heap.size ∧ w2.heap.size ≤ w3.heap.size ∧ w3.heap.size ≤ w4.heap.size ∧ pb = w4.heap.size ∧ w.heap.size ≤ p4 ∧ w.heap.size ≤ w2.heap.size from ⟨zak HK4.out, HB3.out.size, HAw4.out.size, Hpb.out, by have := HP4.out; omega, HB2.out.size⟩)
     have hk4 := (HAw5.out.block p4 (zak HK4'.out)).trans HK4'.out
     have x0 := zaw hk4 (.int .u8 c) (.slice (some ⟨pb, 0, none⟩) 1 1)
     have HBs := zaa.mk (show Below w.heap.size w ((w5.setCell ⟨p4, 0, none⟩ (.int .u8 c)).setCell ⟨p4, 1, none⟩ (.slice (some ⟨pb, 0, none⟩) 1 1)) from zah (zah (zae HB4.out HAw5.out) (by have := HP4.out; omega)) (by have := HP4.out; omega))
     have HKb := zaa.mk (show ((w5.setCell ⟨p4, 0, none⟩ (.int .u8 c)).setCell ⟨p4, 1, none⟩ (.slice (some ⟨pb, 0, none⟩) 1 1)).heap[pb]? = some (.cells #[.int .u8 sg, .slice A n cp] 38 (0, 0)) from (Below.heap_setCell _ ⟨p4, 1, none⟩ _ pb (by have := HN.out; show pb ≠ p4; omega)).trans ((Below.heap_setCell w5 ⟨p4, 0, none⟩ _ pb (by have := HN.out; show pb ≠ p4; omega)).trans HKpb.out))
     have HT := zaa.mk (show ∀ t : Tm, TmF w3 (fun k => w2.heap.size ≤ k) t sg (.slice A n cp) → TmF ((w5.setCell ⟨p4, 0, none⟩ (.int .u8 c)).setCell ⟨p4, 1, none⟩ (.slice (some ⟨pb, 0, none⟩) 1 1)) (fun k => w2.heap.size ≤ k) t sg (.slice A n cp) from fun t h => (((h.below HAw4.out).below HAw5.out).far (p := ⟨p4, 0, none⟩) (fun k hk => by have := HN.out; show k ≠ p4; omega) _).far (p := ⟨p4, 1, none⟩) (fun k hk => by have := HN.out; show k ≠ p4; omega) _)
     generalize (w5.setCell ⟨p4, 0, none⟩ (.int .u8 c)).setCell ⟨p4, 1, none⟩ (.slice (some ⟨pb, 0, none⟩) 1 1) = w6 at *
     (try simp only [Exit.inBlock, Exit.then])
     refine bodyPost_ret (zaj rfl _ _ p4 38 _ (0, 0) _ rfl x0 Try.underlying38 rfl (by kernel_rfl)) rfl ?_
     rw [HUn.out]
     have hres := HRes.out
     cases hrd : rdT f s j with
     | none =>
      rw [hrd] at hres
      dsimp only at hres ⊢
      exact ⟨c, _, 1, 1, m, rfl, HBs.out, hres⟩
     | some te =>
      obtain ⟨t, e⟩ := te
      rw [hrd] at hres
      dsimp only at hres ⊢
      exact ⟨c, _, 1, 1, m, rfl, HBs.out, hres.1, TmF.one HKb.out (by have := HN.out; show w.heap.size ≤ pb; omega) ((HT.out t hres.2).mono (fun k hk => by have := HN.out; show w.heap.size ≤ k; omega))⟩
    ·have d2 : (c == 62) = false := by rw [beq_eq_false_iff_ne]; exact e3
     have d3 : (c == 94) = false := by rw [beq_eq_false_iff_ne]; exact e4
     have hun := HUn.out
     rw [if_neg (by omega)] at hun
     clear HUn
     have HUn := zaa.mk hun
     clear hun e3 e4
     by_cases e5 : c = 40
     ·have d4 : (c == 40) = true := by rw [beq_iff_eq]; exact e5
      have hun := HUn.out
      rw [if_neg (fun h => h e5)] at hun
      clear HUn e5
      have HUn := zaa.mk hun
      clear hun
      go_upto_region 13 with (first
       | (go_at_call 35; refine (HIh.out j _ _ (by have := HJ.out; omega) (by have := HF.out; have := HJ.out; omega) (by have := HJ.out; omega)).mono ?_; rintro e w3 ⟨sgA, AA, nA, cA, mA, rfl, hb, hres⟩; have HB3 := zaa.mk hb; have HResA := zaa.mk hres; clear hb hres))
      have hb := zab (Below.refl w3.heap.size w3) (.cells #[.int .u8 sgA, .slice AA nA cA] 38)
      have hk := heap_alloc_new w3 (.cells #[.int .u8 sgA, .slice AA nA cA] 38)
      generalize w3.alloc (.cells #[.int .u8 sgA, .slice AA nA cA] 38) = w4 at *
      obtain ⟨p10, hp⟩ : ∃ p10, p10 = w3.heap.size := ⟨_, rfl⟩
      rw [← hp] at hk ⊢
      have Hp10 := zaa.mk hp
      have HAw4 := zaa.mk hb
      have HKp10 := zaa.mk hk
      clear hb hk hp
      have hk4 := (HAw4.out.block p4 (by have := HB3.out.size; have := zak HK4.out; omega)).trans ((HB3.out.block p4 (zak HK4.out)).trans HK4.out)
      have hk6 := (HAw4.out.block p6 (by have := HB3.out.size; have := zak HK6.out; omega)).trans ((HB3.out.block p6 (zak HK6.out)).trans HK6.out)
      have HB4 := zaa.mk (zae (zae HB2.out HB3.out) HAw4.out)
      have HK44 := zaa.mk hk4
      have HK64 := zaa.mk hk6
      clear x40 x41 f40 f41 x60 x61
      have x40 : w4.cell? ⟨p4, 0, none⟩ = some (.int .u8 0) := (zad hk4 0).trans rfl
      have f40 := zag hk4 0
      have x41 : w4.cell? ⟨p4, 1, none⟩ = some (.slice none 0 0) := (zad hk4 1).trans rfl
      have f41 := zag hk4 1
      have x60 : w4.cell? ⟨p6, 0, none⟩ = some (.int .u8 111) := (zad hk6 0).trans rfl
      have x61 : w4.cell? ⟨p6, 1, none⟩ = some (.slice (some ⟨pe, 0, none⟩) 0 0) := (zad hk6 1).trans rfl
      clear hk4 hk6
      have hres := HResA.out
      clear HResA
      cases hrd : rdT f s j with
      | none =>
       rw [hrd] at hres
       dsimp only at hres
       subst hres
       have hr : rdT (f + 1) s i = none := by rw [HUn.out, hrd]
       clear hrd
       have HRn := zaa.mk hr
       clear hr
       go_wp2
       have x0 := zaw HK44.out (.int .u8 111) (.slice (some ⟨pe, 0, none⟩) 0 0)
       have HBs := zaa.mk (show Below w.heap.size w ((w4.setCell ⟨p4, 0, none⟩ (.int .u8 111)).setCell ⟨p4, 1, none⟩ (.slice (some ⟨pe, 0, none⟩) 0 0)) from zah (zah HB4.out (by have := HP4.out; omega)) (by have := HP4.out; omega))
       generalize (w4.setCell ⟨p4, 0, none⟩ (.int .u8 111)).setCell ⟨p4, 1, none⟩ (.slice (some ⟨pe, 0, none⟩) 0 0) = wz at *
       (try simp only [Exit.inBlock, Exit.then])
       refine bodyPost_ret (zaj rfl _ _ p4 38 _ (0, 0) _ rfl x0 Try.underlying38 rfl (by kernel_rfl)) rfl ?_
       rw [HRn.out]
       exact ⟨111, _, 0, 0, 0, rfl, HBs.out, rfl⟩
      | some am =>
       obtain ⟨a, md⟩ := am
       rw [hrd] at hres
       dsimp only at hres
       obtain ⟨hm, hTa⟩ := hres
       subst hm
       have hend := rdT_end f s j a md hrd
       have hun := HUn.out
       rw [hrd] at hun
       dsimp only at hun
       clear HUn hrd
       have HUn := zaa.mk hun
       have HTA := zaa.mk hTa
       have HEa := zaa.mk (show j < md ∧ md ≤ s.size ∧ 1 ≤ md from ⟨hend.1, hend.2, by omega⟩)
       have d5 : ((md : Int) == 0) = false := by rw [beq_eq_false_iff_ne]; omega
       clear hun hTa hend
       by_cases hsm : s.size ≤ md
       ·have d6 : (s.size : Int) ≤ (md : Int) := by omega
        have hr : rdT (f + 1) s i = none := by rw [HUn.out, if_pos (.inl hsm)]
        clear hsm
        have HRn := zaa.mk hr
        clear hr
        go_wp2
        have x0 := zaw HK44.out (.int .u8 111) (.slice (some ⟨pe, 0, none⟩) 0 0)
        have HBs := zaa.mk (show Below w.heap.size w ((w4.setCell ⟨p4, 0, none⟩ (.int .u8 111)).setCell ⟨p4, 1, none⟩ (.slice (some ⟨pe, 0, none⟩) 0 0)) from zah (zah HB4.out (by have := HP4.out; omega)) (by have := HP4.out; omega))
        generalize (w4.setCell ⟨p4, 0, none⟩ (.int .u8 111)).setCell ⟨p4, 1, none⟩ (.slice (some ⟨pe, 0, none⟩) 0 0) = wz at *
        (try simp only [Exit.inBlock, Exit.then])
        refine bodyPost_ret (zaj rfl _ _ p4 38 _ (0, 0) _ rfl x0 Try.underlying38 rfl (by kernel_rfl)) rfl ?_
        rw [HRn.out]
        exact ⟨111, _, 0, 0, 0, rfl, HBs.out, rfl⟩
       ·have d6 : ¬ (s.size : Int) ≤ (md : Int) := by omega
        have k2 : (0 : Int) ≤ (md : Int) := by omega
        have k3 : (md : Int) < (s.size : Int) := by omega
        have hml : md < s.size := by omega
        have hbm := bt_nat s md hml
        clear hsm
        generalize bt s (md : Int) = c2 at *
        obtain ⟨j2, hj2⟩ : ∃ j2, j2 = md + 1 := ⟨_, rfl⟩
        rw [← hj2] at HUn
        have HJ2 := zaa.mk hj2
        clear hj2
        rcases (show c2 = 124 ∨ c2 = 45 ∨ (c2 ≠ 124 ∧ c2 ≠ 45) by omega) with e8 | e8 | ⟨e8, e9⟩
        ·have d7 : (c2 == 124) = true := by rw [beq_iff_eq]; exact e8
         have d7b : (c2 != 124) = false := by rw [bne, d7]; rfl
         have HC2 := zaa.mk e8
         have hun := HUn.out
         rw [if_neg (by have := HC2.out; omega)] at hun
         clear HUn e8
         have HUn := zaa.mk hun
         clear hun
         go_upto_region 16 with (first
          | (go_at_call 35; refine (HIh.out j2 _ _ (by have := HJ2.out; omega) (by have := HF.out; have := HJ.out; have := HJ2.out; have := HEa.out; omega) (by have := HJ2.out; have := HEa.out; omega)).mono ?_; rintro e w5 ⟨sgB, AB, nB, cB, mB, rfl, hb, hres⟩; have HB5 := zaa.mk hb; have HResB := zaa.mk hres; clear hb hres))
         have hb := zab (Below.refl w5.heap.size w5) (.cells #[.int .u8 sgB, .slice AB nB cB] 38)
         have hk := heap_alloc_new w5 (.cells #[.int .u8 sgB, .slice AB nB cB] 38)
         generalize w5.alloc (.cells #[.int .u8 sgB, .slice AB nB cB] 38) = w6 at *
         obtain ⟨p12, hp⟩ : ∃ p12, p12 = w5.heap.size := ⟨_, rfl⟩
         rw [← hp] at hk ⊢
         have Hp12 := zaa.mk hp
         have HAw6 := zaa.mk hb
         have HKp12 := zaa.mk hk
         clear hb hk hp
         have hk4 := ((HAw6.out.block p4 (by have := HB5.out.size; have := zak HK44.out; omega)).trans (HB5.out.block p4 (zak HK44.out))).trans HK44.out
         have hk6 := ((HAw6.out.block p6 (by have := HB5.out.size; have := zak HK64.out; omega)).trans (HB5.out.block p6 (zak HK64.out))).trans HK64.out
         have hk10 := ((HAw6.out.block p10 (by have := HB5.out.size; have := zak HKp10.out; omega)).trans (HB5.out.block p10 (zak HKp10.out))).trans HKp10.out
         have HB6 := zaa.mk (zae (zae HB4.out HB5.out) HAw6.out)
         have HK46 := zaa.mk hk4
         clear x40 x41 f40 f41 x60 x61
         have x40 : w6.cell? ⟨p4, 0, none⟩ = some (.int .u8 0) := (zad hk4 0).trans rfl
         have f40 := zag hk4 0
         have x41 : w6.cell? ⟨p4, 1, none⟩ = some (.slice none 0 0) := (zad hk4 1).trans rfl
         have f41 := zag hk4 1
         have x60 : w6.cell? ⟨p6, 0, none⟩ = some (.int .u8 111) := (zad hk6 0).trans rfl
         have x61 : w6.cell? ⟨p6, 1, none⟩ = some (.slice (some ⟨pe, 0, none⟩) 0 0) := (zad hk6 1).trans rfl
         have x100 : w6.cell? ⟨p10, 0, none⟩ = some (.int .u8 sgA) := (zad hk10 0).trans rfl
         have x101 : w6.cell? ⟨p10, 1, none⟩ = some (.slice AA nA cA) := (zad hk10 1).trans rfl
         have x120 : w6.cell? ⟨p12, 0, none⟩ = some (.int .u8 sgB) := (zad HKp12.out 0).trans rfl
         have x121 : w6.cell? ⟨p12, 1, none⟩ = some (.slice AB nB cB) := (zad HKp12.out 1).trans rfl
         clear hk4 hk6 hk10
         have hres := HResB.out
         clear HResB
         cases hrd : rdT f s j2 with
         | none =>
          rw [hrd] at hres
          dsimp only at hres
          subst hres
          have hr : rdT (f + 1) s i = none := by rw [HUn.out, hrd]
          clear hrd
          have HRn := zaa.mk hr
          clear hr
          go_wp2
          have x0 := zaw HK46.out (.int .u8 111) (.slice (some ⟨pe, 0, none⟩) 0 0)
          have HBs := zaa.mk (show Below w.heap.size w ((w6.setCell ⟨p4, 0, none⟩ (.int .u8 111)).setCell ⟨p4, 1, none⟩ (.slice (some ⟨pe, 0, none⟩) 0 0)) from zah (zah HB6.out (by have := HP4.out; omega)) (by have := HP4.out; omega))
          generalize (w6.setCell ⟨p4, 0, none⟩ (.int .u8 111)).setCell ⟨p4, 1, none⟩ (.slice (some ⟨pe, 0, none⟩) 0 0) = wz at *
          (try simp only [Exit.inBlock, Exit.then])
          refine bodyPost_ret (zaj rfl _ _ p4 38 _ (0, 0) _ rfl x0 Try.underlying38 rfl (by kernel_rfl)) rfl ?_
          rw [HRn.out]
          exact ⟨111, _, 0, 0, 0, rfl, HBs.out, rfl⟩
         | some be =>
          obtain ⟨b, e⟩ := be
          rw [hrd] at hres
          dsimp only at hres
          obtain ⟨hm, hTb⟩ := hres
          subst hm
          have hend := rdT_end f s j2 b e hrd
          have hun := HUn.out
          rw [hrd] at hun
          dsimp only at hun
          clear HUn hrd
          have HUn := zaa.mk hun
          have HTB := zaa.mk hTb
          have g0 : ((e : Int) == 0) = false := by rw [beq_eq_false_iff_ne]; omega
          have HEb := zaa.mk hend
          clear hun hTb hend
          by_cases hse : s.size ≤ e
          ·have g1 : (s.size : Int) ≤ (e : Int) := by omega
           have hr : rdT (f + 1) s i = none := by rw [HUn.out, if_pos (.inl hse)]
           clear hse
           have HRn := zaa.mk hr
           clear hr
           go_wp2
           have x0 := zaw HK46.out (.int .u8 111) (.slice (some ⟨pe, 0, none⟩) 0 0)
           have HBs := zaa.mk (show Below w.heap.size w ((w6.setCell ⟨p4, 0, none⟩ (.int .u8 111)).setCell ⟨p4, 1, none⟩ (.slice (some ⟨pe, 0, none⟩) 0 0)) from zah (zah HB6.out (by have := HP4.out; omega)) (by have := HP4.out; omega))
           generalize (w6.setCell ⟨p4, 0, none⟩ (.int .u8 111)).setCell ⟨p4, 1, none⟩ (.slice (some ⟨pe, 0, none⟩) 0 0) = wz at *
           (try simp only [Exit.inBlock, Exit.then])
           refine bodyPost_ret (zaj rfl _ _ p4 38 _ (0, 0) _ rfl x0 Try.underlying38 rfl (by kernel_rfl)) rfl ?_
           rw [HRn.out]
           exact ⟨111, _, 0, 0, 0, rfl, HBs.out, rfl⟩
          ·have g1 : ¬ (s.size : Int) ≤ (e : Int) := by omega
           have g2 : (0 : Int) ≤ (e : Int) := by omega
           have g3 : (e : Int) < (s.size : Int) := by omega
           have hel : e < s.size := by omega
           have hbe := bt_nat s e hel
           have HNe := zaa.mk hse
           clear hse
           generalize bt s (e : Int) = c3 at *
           obtain ⟨je, hje⟩ : ∃ je, je = e + 1 := ⟨_, rfl⟩
           have HJe := zaa.mk hje
           by_cases e9 : c3 = 41
           ·have g4 : (c3 == 41) = true := by rw [beq_iff_eq]; exact e9
            have g4b : (c3 != 41) = false := by rw [bne, g4]; rfl
            have HRs := zaa.mk (show rdT (f + 1) s i = some (⟨c2, [a, b]⟩, je) by rw [HUn.out, if_neg (by have := HNe.out; omega), hje])
            clear hje e9
            go_upto_region 18 with (fail)
            refine start_ (n := 11) (S := fun w' => w'.cell? ⟨p10, 0, none⟩ = some (.int .u8 sgA) ∧ w'.cell? ⟨p10, 1, none⟩ = some (.slice AA nA cA) ∧ w'.cell? ⟨p12, 0, none⟩ = some (.int .u8 sgB) ∧ w'.cell? ⟨p12, 1, none⟩ = some (.slice AB nB cB)) (ds := [9]) #[false, false, false, false, false, false, false, false, false, false, false] (by kernel_rfl) rfl rfl (⟨x100, x101, x120, x121⟩) (fun hHeld => ?_)
            clear x40 x41 f40 f41 x60 x61 x100 x101 x120 x121
            refine zbb (i := 0) (N := some 100) (v := ?_) (a' := ?_) #[true, false, false, false, false, false, false, false, false, false, false] rfl rfl (by kernel_rfl) (fun _ _ _ h => h) (Or.inl ⟨by rfl, ?_⟩) ?_ ?_
            rotate_left
            ·intro w'
             go_simp
             with_reducible rfl
            rotate_left
            ·simp only [Act.put, List.setIfInBounds_toArray, List.set_cons_zero, List.set_cons_succ, zat, zau]
             rfl
            refine zbb (i := 1) (N := some 101) (v := ?_) (a' := ?_) #[true, true, false, false, false, false, false, false, false, false, false] rfl rfl (by kernel_rfl) (fun _ _ _ h => h) (Or.inl ⟨by rfl, ?_⟩) ?_ ?_
            rotate_left
            ·intro w'
             go_simp
             with_reducible rfl
            rotate_left
            ·simp only [Act.put, List.setIfInBounds_toArray, List.set_cons_zero, List.set_cons_succ, zat, zau]
             rfl
            refine zbb (i := 2) (N := some 102) (v := ?_) (a' := ?_) #[true, true, true, false, false, false, false, false, false, false, false] rfl rfl (by kernel_rfl) (fun _ _ _ h => h) (Or.inl ⟨by rfl, ?_⟩) ?_ ?_
            rotate_left
            ·intro w'
             go_simp
             with_reducible rfl
            rotate_left
            ·simp only [Act.put, List.setIfInBounds_toArray, List.set_cons_zero, List.set_cons_succ, zat, zau]
             rfl
            refine take_ (i := 3) (N := some 103) (v := ?_) (a' := ?_) #[true, true, true, true, false, false, false, false, false, false, false] rfl rfl (by kernel_rfl) (fun _ _ _ h => h) (Or.inl ⟨by rfl, ?_⟩) hHeld ?_ ?_
            rotate_left
            ·rintro w' ⟨s0, s1, s2, s3⟩
             go_simp
             with_reducible rfl
            rotate_left
            ·simp only [Act.put, List.setIfInBounds_toArray, List.set_cons_zero, List.set_cons_succ, zat, zau]
             rfl
            refine take_ (i := 4) (N := some 104) (v := ?_) (a' := ?_) #[true, true, true, true, true, false, false, false, false, false, false] rfl rfl (by kernel_rfl) (fun _ _ _ h => h) (Or.inl ⟨by rfl, ?_⟩) hHeld ?_ ?_
            rotate_left
            ·rintro w' ⟨s0, s1, s2, s3⟩
             go_simp
             with_reducible rfl
            rotate_left
            ·simp only [Act.put, List.setIfInBounds_toArray, List.set_cons_zero, List.set_cons_succ, zat, zau]
             rfl
            refine zbb (i := 7) (N := some 107) (v := ?_) (a' := ?_) #[true, true, true, true, true, false, false, true, false, false, false] rfl rfl (by kernel_rfl) (fun _ _ _ h => h) (Or.inl ⟨by rfl, ?_⟩) ?_ ?_
            rotate_left
            ·intro w'
             go_simp
             with_reducible rfl
            rotate_left
            ·simp only [Act.put, List.setIfInBounds_toArray, List.set_cons_zero, List.set_cons_succ, zat, zau]
             rfl
            refine zbb (i := 8) (N := some 108) (v := ?_) (a' := ?_) #[true, true, true, true, true, false, false, true, true, false, false] rfl rfl (by kernel_rfl) (fun _ _ _ h => h) (Or.inl ⟨by rfl, ?_⟩) ?_ ?_
            rotate_left
            ·intro w'
             go_simp
             with_reducible rfl
            rotate_left
            ·simp only [Act.put, List.setIfInBounds_toArray, List.set_cons_zero, List.set_cons_succ, zat, zau]
             rfl
            refine one_ (i := 5) (N := some 105) #[true, true, true, true, true, true, false, true, true, false, false] rfl rfl (by kernel_rfl) (by decide) (fun K hK => ?_)
            refine event_step (by rfl) (v := .slice (some ⟨w6.drew.heap.size, 0, none⟩) 2 2) (w1 := w6.drew.alloc (.cells #[.int .u8 sgA, .slice AA nA cA, .int .u8 sgB, .slice AB nB cB] 38)) (by first | (go_simp; done) | (go_simp; rfl)) ?_
            have hb := zab (zcd (Below.refl w6.heap.size w6)) (.cells #[.int .u8 sgA, .slice AA nA cA, .int .u8 sgB, .slice AB nB cB] 38)
            have hk := heap_alloc_new w6.drew (.cells #[.int .u8 sgA, .slice AA nA cA, .int .u8 sgB, .slice AB nB cB] 38)
            have hc := zab (Below.refl w6.drew.heap.size w6.drew) (.cells #[.int .u8 sgA, .slice AA nA cA, .int .u8 sgB, .slice AB nB cB] 38)
            generalize w6.drew.alloc (.cells #[.int .u8 sgA, .slice AA nA cA, .int .u8 sgB, .slice AB nB cB] 38) = w8 at *
            obtain ⟨pb, hpb⟩ : ∃ pb, pb = w6.drew.heap.size := ⟨_, rfl⟩
            rw [← hpb] at hk ⊢
            have Hpb := zaa.mk (show pb = w6.heap.size from hpb)
            have HKpb := zaa.mk hk
            have HA8 := zaa.mk hb
            refine hK.out _ _ ⟨zai hc hHeld.1, zai hc hHeld.2.1, zai hc hHeld.2.2.1, zai hc hHeld.2.2.2⟩ (fun hHeld => ?_)
            clear hK K hc hb hk hpb
            refine norm_ (a' := ?_) ?_ ?_
            rotate_left
            ·show Act.put _ (some 105) _ = _
             simp only [Act.put, List.setIfInBounds_toArray, List.set_cons_zero, List.set_cons_succ, zat, zau]
             rfl
            refine zbb (i := 6) (N := some 106) (v := ?_) (a' := ?_) #[true, true, true, true, true, true, true, true, true, false, false] rfl rfl (by kernel_rfl) (fun _ _ _ h => h) (Or.inl ⟨by rfl, ?_⟩) ?_ ?_
            rotate_left
            ·intro w'
             go_simp
             with_reducible rfl
            rotate_left
            ·simp only [Act.put, List.setIfInBounds_toArray, List.set_cons_zero, List.set_cons_succ, zat, zau]
             rfl
            have hk4 := (HA8.out.block p4 (zak HK46.out)).trans HK46.out
            have HK48 := zaa.mk hk4
            have x40 : w8.cell? ⟨p4, 0, none⟩ = some (.int .u8 0) := (zad hk4 0).trans rfl
            have f40 := zag hk4 0
            have x41 : w8.cell? ⟨p4, 1, none⟩ = some (.slice none 0 0) := (zad hk4 1).trans rfl
            have f41 := zag hk4 1
            clear hk4
            refine last_ (i := 9) (N := none) #[true, true, true, true, true, true, true, true, true, true, false] rfl rfl (by kernel_rfl) (by decide) (fun K hK => ?_)
            refine skipT_step (by rfl) rfl (w1 := (w8.setCell ⟨p4, 0, none⟩ (.int .u8 c2)).setCell ⟨p4, 1, none⟩ (.slice (some ⟨pb, 0, none⟩) 2 2)) (by first | (go_simp; done) | (go_simp; rfl)) ?_
            refine hK.out _ _ ?_
            clear hK K hHeld x40 x41 f40 f41
            refine zbb (i := 10) (N := some 5) (v := ?_) (a' := ?_) #[true, true, true, true, true, true, true, true, true, true, true] rfl rfl (by kernel_rfl) (fun _ _ _ h => h) (Or.inl ⟨by rfl, ?_⟩) ?_ ?_
            rotate_left
            ·intro w'
             go_simp
             with_reducible rfl
            rotate_left
            ·simp only [Act.put, List.setIfInBounds_toArray, List.set_cons_zero, List.set_cons_succ, zat, zau]
             rfl
            refine done_ (by kernel_rfl) ?_
            go_wp2
            have x0 := zaw HK48.out (.int .u8 c2) (.slice (some ⟨pb, 0, none⟩) 2 2)
            have HBs := zaa.mk (show Below w.heap.size w ((w8.setCell ⟨p4, 0, none⟩ (.int .u8 c2)).setCell ⟨p4, 1, none⟩ (.slice (some ⟨pb, 0, none⟩) 2 2)) from zah (zah (zae HB6.out HA8.out) (by have := HP4.out; omega)) (by have := HP4.out; omega))
            have HN := zaa.mk (show p4 < w2.heap.size ∧ w2.heap.size ≤ w3.heap.size ∧ w3.heap.size ≤ w4.heap.size ∧ w4.heap.size ≤ w5.heap.size ∧ w5.heap.size ≤ w6.heap.size ∧ pb = w6.heap.size ∧ w.heap.size ≤ p4 ∧ w.heap.size ≤ w2.heap.size from ⟨zak HK4.out, HB3.out.size, HAw4.out.size, HB5.out.size, HAw6.out.size, Hpb.out, by have := HP4.out; omega, HB2.out.size⟩)
            have HKb := zaa.mk (show ((w8.setCell ⟨p4, 0, none⟩ (.int .u8 c2)).setCell ⟨p4, 1, none⟩ (.slice (some ⟨pb, 0, none⟩) 2 2)).heap[pb]? = some (.cells #[.int .u8 sgA, .slice AA nA cA, .int .u8 sgB, .slice AB nB cB] 38 (0, 0)) from (Below.heap_setCell _ ⟨p4, 1, none⟩ _ pb (by have := HN.out; show pb ≠ p4; omega)).trans ((Below.heap_setCell w8 ⟨p4, 0, none⟩ _ pb (by have := HN.out; show pb ≠ p4; omega)).trans HKpb.out))
            have HTa := zaa.mk (show TmF ((w8.setCell ⟨p4, 0, none⟩ (.int .u8 c2)).setCell ⟨p4, 1, none⟩ (.slice (some ⟨pb, 0, none⟩) 2 2)) (fun k => w2.heap.size ≤ k) a sgA (.slice AA nA cA) from (((((HTA.out.below HAw4.out).below HB5.out).below HAw6.out).below HA8.out).far (p := ⟨p4, 0, none⟩) (fun k hk => by have := HN.out; show k ≠ p4; omega) _).far (p := ⟨p4, 1, none⟩) (fun k hk => by have := HN.out; show k ≠ p4; omega) _)
            have HTb := zaa.mk (show TmF ((w8.setCell ⟨p4, 0, none⟩ (.int .u8 c2)).setCell ⟨p4, 1, none⟩ (.slice (some ⟨pb, 0, none⟩) 2 2)) (fun k => w4.heap.size ≤ k) b sgB (.slice AB nB cB) from (((HTB.out.below HAw6.out).below HA8.out).far (p := ⟨p4, 0, none⟩) (fun k hk => by have := HN.out; show k ≠ p4; omega) _).far (p := ⟨p4, 1, none⟩) (fun k hk => by have := HN.out; show k ≠ p4; omega) _)
            generalize (w8.setCell ⟨p4, 0, none⟩ (.int .u8 c2)).setCell ⟨p4, 1, none⟩ (.slice (some ⟨pb, 0, none⟩) 2 2) = wz at *
            (try simp only [Exit.inBlock, Exit.then])
            refine bodyPost_ret (zaj rfl _ _ p4 38 _ (0, 0) _ rfl x0 Try.underlying38 rfl (by kernel_rfl)) rfl ?_
            rw [HRs.out]
            exact ⟨c2, _, 2, 2, _, rfl, HBs.out, by have h := HJe.out; rw [wrapT (by omega) (by omega)]; omega, TmF.two HKb.out (by have := HN.out; show w.heap.size ≤ pb; omega) (HTa.out.mono (fun k hk => by have := HN.out; show w.heap.size ≤ k; omega)) (HTb.out.mono (fun k hk => by have := HN.out; show w.heap.size ≤ k; omega))⟩
           ·have g4 : (c3 == 41) = false := by rw [beq_eq_false_iff_ne]; exact e9
            have g4b : (c3 != 41) = true := by rw [bne, g4]; rfl
            have hr : rdT (f + 1) s i = none := by rw [HUn.out, if_pos (.inr e9)]
            clear hje e9
            have HRn := zaa.mk hr
            clear hr
            go_wp2
            have x0 := zaw HK46.out (.int .u8 111) (.slice (some ⟨pe, 0, none⟩) 0 0)
            have HBs := zaa.mk (show Below w.heap.size w ((w6.setCell ⟨p4, 0, none⟩ (.int .u8 111)).setCell ⟨p4, 1, none⟩ (.slice (some ⟨pe, 0, none⟩) 0 0)) from zah (zah HB6.out (by have := HP4.out; omega)) (by have := HP4.out; omega))
            generalize (w6.setCell ⟨p4, 0, none⟩ (.int .u8 111)).setCell ⟨p4, 1, none⟩ (.slice (some ⟨pe, 0, none⟩) 0 0) = wz at *
            (try simp only [Exit.inBlock, Exit.then])
            refine bodyPost_ret (zaj rfl _ _ p4 38 _ (0, 0) _ rfl x0 Try.underlying38 rfl (by kernel_rfl)) rfl ?_
            rw [HRn.out]
            exact ⟨111, _, 0, 0, 0, rfl, HBs.out, rfl⟩
        ·have d7 : (c2 == 124) = false := by rw [beq_eq_false_iff_ne]; omega
         have d7b : (c2 != 124) = true := by rw [bne, d7]; rfl
         have d8 : (c2 == 45) = true := by rw [beq_iff_eq]; exact e8
         have d8b : (c2 != 45) = false := by rw [bne, d8]; rfl
         have HC2 := zaa.mk e8
         have hun := HUn.out
         rw [if_neg (by have := HC2.out; omega)] at hun
         clear HUn e8
         have HUn := zaa.mk hun
         clear hun
         go_upto_region 16 with (first
          | (go_at_call 35; refine (HIh.out j2 _ _ (by have := HJ2.out; omega) (by have := HF.out; have := HJ.out; have := HJ2.out; have := HEa.out; omega) (by have := HJ2.out; have := HEa.out; omega)).mono ?_; rintro e w5 ⟨sgB, AB, nB, cB, mB, rfl, hb, hres⟩; have HB5 := zaa.mk hb; have HResB := zaa.mk hres; clear hb hres))
         have hb := zab (Below.refl w5.heap.size w5) (.cells #[.int .u8 sgB, .slice AB nB cB] 38)
         have hk := heap_alloc_new w5 (.cells #[.int .u8 sgB, .slice AB nB cB] 38)
         generalize w5.alloc (.cells #[.int .u8 sgB, .slice AB nB cB] 38) = w6 at *
         obtain ⟨p12, hp⟩ : ∃ p12, p12 = w5.heap.size := ⟨_, rfl⟩
         rw [← hp] at hk ⊢
         have Hp12 := zaa.mk hp
         have HAw6 := zaa.mk hb
         have HKp12 := zaa.mk hk
         clear hb hk hp
         have hk4 := ((HAw6.out.block p4 (by have := HB5.out.size; have := zak HK44.out; omega)).trans (HB5.out.block p4 (zak HK44.out))).trans HK44.out
         have hk6 := ((HAw6.out.block p6 (by have := HB5.out.size; have := zak HK64.out; omega)).trans (HB5.out.block p6 (zak HK64.out))).trans HK64.out
         have hk10 := ((HAw6.out.block p10 (by have := HB5.out.size; have := zak HKp10.out; omega)).trans (HB5.out.block p10 (zak HKp10.out))).trans HKp10.out
         have HB6 := zaa.mk (zae (zae HB4.out HB5.out) HAw6.out)
         have HK46 := zaa.mk hk4
         clear x40 x41 f40 f41 x60 x61
         have x40 : w6.cell? ⟨p4, 0, none⟩ = some (.int .u8 0) := (zad hk4 0).trans rfl
         have f40 := zag hk4 0
         have x41 : w6.cell? ⟨p4, 1, none⟩ = some (.slice none 0 0) := (zad hk4 1).trans rfl
         have f41 := zag hk4 1
         have x60 : w6.cell? ⟨p6, 0, none⟩ = some (.int .u8 111) := (zad hk6 0).trans rfl
         have x61 : w6.cell? ⟨p6, 1, none⟩ = some (.slice (some ⟨pe, 0, none⟩) 0 0) := (zad hk6 1).trans rfl
         have x100 : w6.cell? ⟨p10, 0, none⟩ = some (.int .u8 sgA) := (zad hk10 0).trans rfl
         have x101 : w6.cell? ⟨p10, 1, none⟩ = some (.slice AA nA cA) := (zad hk10 1).trans rfl
         have x120 : w6.cell? ⟨p12, 0, none⟩ = some (.int .u8 sgB) := (zad HKp12.out 0).trans rfl
         have x121 : w6.cell? ⟨p12, 1, none⟩ = some (.slice AB nB cB) := (zad HKp12.out 1).trans rfl
         clear hk4 hk6 hk10
         have hres := HResB.out
         clear HResB
         cases hrd : rdT f s j2 with
         | none =>
          rw [hrd] at hres
          dsimp only at hres
          subst hres
          have hr : rdT (f + 1) s i = none := by rw [HUn.out, hrd]
          clear hrd
          have HRn := zaa.mk hr
          clear hr
          go_wp2
          have x0 := zaw HK46.out (.int .u8 111) (.slice (some ⟨pe, 0, none⟩) 0 0)
          have HBs := zaa.mk (show Below w.heap.size w ((w6.setCell ⟨p4, 0, none⟩ (.int .u8 111)).setCell ⟨p4, 1, none⟩ (.slice (some ⟨pe, 0, none⟩) 0 0)) from zah (zah HB6.out (by have := HP4.out; omega)) (by have := HP4.out; omega))
          generalize (w6.setCell ⟨p4, 0, none⟩ (.int .u8 111)).setCell ⟨p4, 1, none⟩ (.slice (some ⟨pe, 0, none⟩) 0 0) = wz at *
          (try simp only [Exit.inBlock, Exit.then])
          refine bodyPost_ret (zaj rfl _ _ p4 38 _ (0, 0) _ rfl x0 Try.underlying38 rfl (by kernel_rfl)) rfl ?_
          rw [HRn.out]
          exact ⟨111, _, 0, 0, 0, rfl, HBs.out, rfl⟩
         | some be =>
          obtain ⟨b, e⟩ := be
          rw [hrd] at hres
          dsimp only at hres
          obtain ⟨hm, hTb⟩ := hres
          subst hm
          have hend := rdT_end f s j2 b e hrd
          have hun := HUn.out
          rw [hrd] at hun
          dsimp only at hun
          clear HUn hrd
          have HUn := zaa.mk hun
          have HTB := zaa.mk hTb
          have g0 : ((e : Int) == 0) = false := by rw [beq_eq_false_iff_ne]; omega
          have HEb := zaa.mk hend
          clear hun hTb hend
          by_cases hse : s.size ≤ e
          ·have g1 : (s.size : Int) ≤ (e : Int) := by omega
           have hr : rdT (f + 1) s i = none := by rw [HUn.out, if_pos (.inl hse)]
           clear hse
           have HRn := zaa.mk hr
           clear hr
           go_wp2
           have x0 := zaw HK46.out (.int .u8 111) (.slice (some ⟨pe, 0, none⟩) 0 0)
           have HBs := zaa.mk (show Below w.heap.size w ((w6.setCell ⟨p4, 0, none⟩ (.int .u8 111)).setCell ⟨p4, 1, none⟩ (.slice (some ⟨pe, 0, none⟩) 0 0)) from zah (zah HB6.out (by have := HP4.out; omega)) (by have := HP4.out; omega))
           generalize (w6.setCell ⟨p4, 0, none⟩ (.int .u8 111)).setCell ⟨p4, 1, none⟩ (.slice (some ⟨pe, 0, none⟩) 0 0) = wz at *
           (try simp only [Exit.inBlock, Exit.then])
           refine bodyPost_ret (zaj rfl _ _ p4 38 _ (0, 0) _ rfl x0 Try.underlying38 rfl (by kernel_rfl)) rfl ?_
           rw [HRn.out]
           exact ⟨111, _, 0, 0, 0, rfl, HBs.out, rfl⟩
          ·have g1 : ¬ (s.size : Int) ≤ (e : Int) := by omega
           have g2 : (0 : Int) ≤ (e : Int) := by omega
           have g3 : (e : Int) < (s.size : Int) := by omega
           have hel : e < s.size := by omega
           have hbe := bt_nat s e hel
           have HNe := zaa.mk hse
           clear hse
           generalize bt s (e : Int) = c3 at *
           obtain ⟨je, hje⟩ : ∃ je, je = e + 1 := ⟨_, rfl⟩
           have HJe := zaa.mk hje
           by_cases e9 : c3 = 41
           ·have g4 : (c3 == 41) = true := by rw [beq_iff_eq]; exact e9
            have g4b : (c3 != 41) = false := by rw [bne, g4]; rfl
            have HRs := zaa.mk (show rdT (f + 1) s i = some (⟨c2, [a, b]⟩, je) by rw [HUn.out, if_neg (by have := HNe.out; omega), hje])
            clear hje e9
            go_upto_region 18 with (fail)
            refine start_ (n := 11) (S := fun w' => w'.cell? ⟨p10, 0, none⟩ = some (.int .u8 sgA) ∧ w'.cell? ⟨p10, 1, none⟩ = some (.slice AA nA cA) ∧ w'.cell? ⟨p12, 0, none⟩ = some (.int .u8 sgB) ∧ w'.cell? ⟨p12, 1, none⟩ = some (.slice AB nB cB)) (ds := [9]) #[false, false, false, false, false, false, false, false, false, false, false] (by kernel_rfl) rfl rfl (⟨x100, x101, x120, x121⟩) (fun hHeld => ?_)
            clear x40 x41 f40 f41 x60 x61 x100 x101 x120 x121
            refine zbb (i := 0) (N := some 100) (v := ?_) (a' := ?_) #[true, false, false, false, false, false, false, false, false, false, false] rfl rfl (by kernel_rfl) (fun _ _ _ h => h) (Or.inl ⟨by rfl, ?_⟩) ?_ ?_
            rotate_left
            ·intro w'
             go_simp
             with_reducible rfl
            rotate_left
            ·simp only [Act.put, List.setIfInBounds_toArray, List.set_cons_zero, List.set_cons_succ, zat, zau]
             rfl
            refine zbb (i := 1) (N := some 101) (v := ?_) (a' := ?_) #[true, true, false, false, false, false, false, false, false, false, false] rfl rfl (by kernel_rfl) (fun _ _ _ h => h) (Or.inl ⟨by rfl, ?_⟩) ?_ ?_
            rotate_left
            ·intro w'
             go_simp
             with_reducible rfl
            rotate_left
            ·simp only [Act.put, List.setIfInBounds_toArray, List.set_cons_zero, List.set_cons_succ, zat, zau]
             rfl
            refine zbb (i := 2) (N := some 102) (v := ?_) (a' := ?_) #[true, true, true, false, false, false, false, false, false, false, false] rfl rfl (by kernel_rfl) (fun _ _ _ h => h) (Or.inl ⟨by rfl, ?_⟩) ?_ ?_
            rotate_left
            ·intro w'
             go_simp
             with_reducible rfl
            rotate_left
            ·simp only [Act.put, List.setIfInBounds_toArray, List.set_cons_zero, List.set_cons_succ, zat, zau]
             rfl
            refine take_ (i := 3) (N := some 103) (v := ?_) (a' := ?_) #[true, true, true, true, false, false, false, false, false, false, false] rfl rfl (by kernel_rfl) (fun _ _ _ h => h) (Or.inl ⟨by rfl, ?_⟩) hHeld ?_ ?_
            rotate_left
            ·rintro w' ⟨s0, s1, s2, s3⟩
             go_simp
             with_reducible rfl
            rotate_left
            ·simp only [Act.put, List.setIfInBounds_toArray, List.set_cons_zero, List.set_cons_succ, zat, zau]
             rfl
            refine take_ (i := 4) (N := some 104) (v := ?_) (a' := ?_) #[true, true, true, true, true, false, false, false, false, false, false] rfl rfl (by kernel_rfl) (fun _ _ _ h => h) (Or.inl ⟨by rfl, ?_⟩) hHeld ?_ ?_
            rotate_left
            ·rintro w' ⟨s0, s1, s2, s3⟩
             go_simp
             with_reducible rfl
            rotate_left
            ·simp only [Act.put, List.setIfInBounds_toArray, List.set_cons_zero, List.set_cons_succ, zat, zau]
             rfl
            refine zbb (i := 7) (N := some 107) (v := ?_) (a' := ?_) #[true, true, true, true, true, false, false, true, false, false, false] rfl rfl (by kernel_rfl) (fun _ _ _ h => h) (Or.inl ⟨by rfl, ?_⟩) ?_ ?_
            rotate_left
            ·intro w'
             go_simp
             with_reducible rfl
            rotate_left
            ·simp only [Act.put, List.setIfInBounds_toArray, List.set_cons_zero, List.set_cons_succ, zat, zau]
             rfl
            refine zbb (i := 8) (N := some 108) (v := ?_) (a' := ?_) #[true, true, true, true, true, false, false, true, true, false, false] rfl rfl (by kernel_rfl) (fun _ _ _ h => h) (Or.inl ⟨by rfl, ?_⟩) ?_ ?_
            rotate_left
            ·intro w'
             go_simp
             with_reducible rfl
            rotate_left
            ·simp only [Act.put, List.setIfInBounds_toArray, List.set_cons_zero, List.set_cons_succ, zat, zau]
             rfl
            refine one_ (i := 5) (N := some 105) #[true, true, true, true, true, true, false, true, true, false, false] rfl rfl (by kernel_rfl) (by decide) (fun K hK => ?_)
            refine event_step (by rfl) (v := .slice (some ⟨w6.drew.heap.size, 0, none⟩) 2 2) (w1 := w6.drew.alloc (.cells #[.int .u8 sgA, .slice AA nA cA, .int .u8 sgB, .slice AB nB cB] 38)) (by first | (go_simp; done) | (go_simp; rfl)) ?_
            have hb := zab (zcd (Below.refl w6.heap.size w6)) (.cells #[.int .u8 sgA, .slice AA nA cA, .int .u8 sgB, .slice AB nB cB] 38)
            have hk := heap_alloc_new w6.drew (.cells #[.int .u8 sgA, .slice AA nA cA, .int .u8 sgB, .slice AB nB cB] 38)
            have hc := zab (Below.refl w6.drew.heap.size w6.drew) (.cells #[.int .u8 sgA, .slice AA nA cA, .int .u8 sgB, .slice AB nB cB] 38)
            generalize w6.drew.alloc (.cells #[.int .u8 sgA, .slice AA nA cA, .int .u8 sgB, .slice AB nB cB] 38) = w8 at *
            obtain ⟨pb, hpb⟩ : ∃ pb, pb = w6.drew.heap.size := ⟨_, rfl⟩
            rw [← hpb] at hk ⊢
            have Hpb := zaa.mk (show pb = w6.heap.size from hpb)
            have HKpb := zaa.mk hk
            have HA8 := zaa.mk hb
            refine hK.out _ _ ⟨zai hc hHeld.1, zai hc hHeld.2.1, zai hc hHeld.2.2.1, zai hc hHeld.2.2.2⟩ (fun hHeld => ?_)
            clear hK K hc hb hk hpb
            refine norm_ (a' := ?_) ?_ ?_
            rotate_left
            ·show Act.put _ (some 105) _ = _
             simp only [Act.put, List.setIfInBounds_toArray, List.set_cons_zero, List.set_cons_succ, zat, zau]
             rfl
            refine zbb (i := 6) (N := some 106) (v := ?_) (a' := ?_) #[true, true, true, true, true, true, true, true, true, false, false] rfl rfl (by kernel_rfl) (fun _ _ _ h => h) (Or.inl ⟨by rfl, ?_⟩) ?_ ?_
            rotate_left
            ·intro w'
             go_simp
             with_reducible rfl
            rotate_left
            ·simp only [Act.put, List.setIfInBounds_toArray, List.set_cons_zero, List.set_cons_succ, zat, zau]
             rfl
            have hk4 := (HA8.out.block p4 (zak HK46.out)).trans HK46.out
            have HK48 := zaa.mk hk4
            have x40 : w8.cell? ⟨p4, 0, none⟩ = some (.int .u8 0) := (zad hk4 0).trans rfl
            have f40 := zag hk4 0
            have x41 : w8.cell? ⟨p4, 1, none⟩ = some (.slice none 0 0) := (zad hk4 1).trans rfl
            have f41 := zag hk4 1
            clear hk4
            refine last_ (i := 9) (N := none) #[true, true, true, true, true, true, true, true, true, true, false] rfl rfl (by kernel_rfl) (by decide) (fun K hK => ?_)
            refine skipT_step (by rfl) rfl (w1 := (w8.setCell ⟨p4, 0, none⟩ (.int .u8 c2)).setCell ⟨p4, 1, none⟩ (.slice (some ⟨pb, 0, none⟩) 2 2)) (by first | (go_simp; done) | (go_simp; rfl)) ?_
            refine hK.out _ _ ?_
            clear hK K hHeld x40 x41 f40 f41
            refine zbb (i := 10) (N := some 5) (v := ?_) (a' := ?_) #[true, true, true, true, true, true, true, true, true, true, true] rfl rfl (by kernel_rfl) (fun _ _ _ h => h) (Or.inl ⟨by rfl, ?_⟩) ?_ ?_
            rotate_left
            ·intro w'
             go_simp
             with_reducible rfl
            rotate_left
            ·simp only [Act.put, List.setIfInBounds_toArray, List.set_cons_zero, List.set_cons_succ, zat, zau]
             rfl
            refine done_ (by kernel_rfl) ?_
            go_wp2
            have x0 := zaw HK48.out (.int .u8 c2) (.slice (some ⟨pb, 0, none⟩) 2 2)
            have HBs := zaa.mk (show Below w.heap.size w ((w8.setCell ⟨p4, 0, none⟩ (.int .u8 c2)).setCell ⟨p4, 1, none⟩ (.slice (some ⟨pb, 0, none⟩) 2 2)) from zah (zah (zae HB6.out HA8.out) (by have := HP4.out; omega)) (by have := HP4.out; omega))
            have HN := zaa.mk (show p4 < w2.heap.size ∧ w2.heap.size ≤ w3.heap.size ∧ w3.heap.size ≤ w4.heap.size ∧ w4.heap.size ≤ w5.heap.size ∧ w5.heap.size ≤ w6.heap.size ∧ pb = w6.heap.size ∧ w.heap.size ≤ p4 ∧ w.heap.size ≤ w2.heap.size from ⟨zak HK4.out, HB3.out.size, HAw4.out.size, HB5.out.size, HAw6.out.size, Hpb.out, by have := HP4.out; omega, HB2.out.size⟩)
            have HKb := zaa.mk (show ((w8.setCell ⟨p4, 0, none⟩ (.int .u8 c2)).setCell ⟨p4, 1, none⟩ (.slice (some ⟨pb, 0, none⟩) 2 2)).heap[pb]? = some (.cells #[.int .u8 sgA, .slice AA nA cA, .int .u8 sgB, .slice AB nB cB] 38 (0, 0)) from (Below.heap_setCell _ ⟨p4, 1, none⟩ _ pb (by have := HN.out; show pb ≠ p4; omega)).trans ((Below.heap_setCell w8 ⟨p4, 0, none⟩ _ pb (by have := HN.out; show pb ≠ p4; omega)).trans HKpb.out))
            have HTa := zaa.mk (show TmF ((w8.setCell ⟨p4, 0, none⟩ (.int .u8 c2)).setCell ⟨p4, 1, none⟩ (.slice (some ⟨pb, 0, none⟩) 2 2)) (fun k => w2.heap.size ≤ k) a sgA (.slice AA nA cA) from (((((HTA.out.below HAw4.out).below HB5.out).below HAw6.out).below HA8.out).far (p := ⟨p4, 0, none⟩) (fun k hk => by have := HN.out; show k ≠ p4; omega) _).far (p := ⟨p4, 1, none⟩) (fun k hk => by have := HN.out; show k ≠ p4; omega) _)
            have HTb := zaa.mk (show TmF ((w8.setCell ⟨p4, 0, none⟩ (.int .u8 c2)).setCell ⟨p4, 1, none⟩ (.slice (some ⟨pb, 0, none⟩) 2 2)) (fun k => w4.heap.size ≤ k) b sgB (.slice AB nB cB) from (((HTB.out.below HAw6.out).below HA8.out).far (p := ⟨p4, 0, none⟩) (fun k hk => by have := HN.out; show k ≠ p4; omega) _).far (p := ⟨p4, 1, none⟩) (fun k hk => by have := HN.out; show k ≠ p4; omega) _)
            generalize (w8.setCell ⟨p4, 0, none⟩ (.int .u8 c2)).setCell ⟨p4, 1, none⟩ (.slice (some ⟨pb, 0, none⟩) 2 2) = wz at *
            (try simp only [Exit.inBlock, Exit.then])
            refine bodyPost_ret (zaj rfl _ _ p4 38 _ (0, 0) _ rfl x0 Try.underlying38 rfl (by kernel_rfl)) rfl ?_
            rw [HRs.out]
            exact ⟨c2, _, 2, 2, _, rfl, HBs.out, by have h := HJe.out; rw [wrapT (by omega) (by omega)]; omega, TmF.two HKb.out (by have := HN.out; show w.heap.size ≤ pb; omega) (HTa.out.mono (fun k hk => by have := HN.out; show w.heap.size ≤ k; omega)) (HTb.out.mono (fun k hk => by have := HN.out; show w.heap.size ≤ k; omega))⟩
           ·have g4 : (c3 == 41) = false := by rw [beq_eq_false_iff_ne]; exact e9
            have g4b : (c3 != 41) = true := by rw [bne, g4]; rfl
            have hr : rdT (f + 1) s i = none := by rw [HUn.out, if_pos (.inr e9)]
            clear hje e9
            have HRn := zaa.mk hr
            clear hr
            go_wp2
            have x0 := zaw HK46.out (.int .u8 111) (.slice (some ⟨pe, 0, none⟩) 0 0)
            have HBs := zaa.mk (show Below w.heap.size w ((w6.setCell ⟨p4, 0, none⟩ (.int .u8 111)).setCell ⟨p4, 1, none⟩ (.slice (some ⟨pe, 0, none⟩) 0 0)) from zah (zah HB6.out (by have := HP4.out; omega)) (by have := HP4.out; omega))
            generalize (w6.setCell ⟨p4, 0, none⟩ (.int .u8 111)).setCell ⟨p4, 1, none⟩ (.slice (some ⟨pe, 0, none⟩) 0 0) = wz at *
            (try simp only [Exit.inBlock, Exit.then])
            refine bodyPost_ret (zaj rfl _ _ p4 38 _ (0, 0) _ rfl x0 Try.underlying38 rfl (by kernel_rfl)) rfl ?_
            rw [HRn.out]
            exact ⟨111, _, 0, 0, 0, rfl, HBs.out, rfl⟩
        ·have d7 : (c2 == 124) = false := by rw [beq_eq_false_iff_ne]; exact e8
         have d7b : (c2 != 124) = true := by rw [bne, d7]; rfl
         have d8 : (c2 == 45) = false := by rw [beq_eq_false_iff_ne]; exact e9
         have d8b : (c2 != 45) = true := by rw [bne, d8]; rfl
         have hr : rdT (f + 1) s i = none := by rw [HUn.out, if_pos (.inr ⟨e8, e9⟩)]
         clear e8 e9
         have HRn := zaa.mk hr
         clear hr
         go_wp2
         have x0 := zaw HK44.out (.int .u8 111) (.slice (some ⟨pe, 0, none⟩) 0 0)
         have HBs := zaa.mk (show Below w.heap.size w ((w4.setCell ⟨p4, 0, none⟩ (.int .u8 111)).setCell ⟨p4, 1, none⟩ (.slice (some ⟨pe, 0, none⟩) 0 0)) from zah (zah HB4.out (by have := HP4.out; omega)) (by have := HP4.out; omega))
         generalize (w4.setCell ⟨p4, 0, none⟩ (.int .u8 111)).setCell ⟨p4, 1, none⟩ (.slice (some ⟨pe, 0, none⟩) 0 0) = wz at *
         (try simp only [Exit.inBlock, Exit.then])
         refine bodyPost_ret (zaj rfl _ _ p4 38 _ (0, 0) _ rfl x0 Try.underlying38 rfl (by kernel_rfl)) rfl ?_
         rw [HRn.out]
         exact ⟨111, _, 0, 0, 0, rfl, HBs.out, rfl⟩
     ·have d4 : (c == 40) = false := by rw [beq_eq_false_iff_ne]; exact e5
      have hr : rdT (f + 1) s i = none := by rw [HUn.out, if_pos e5]
      clear e5
      have HRn := zaa.mk hr
      clear hr
      go_wp2
      have x0 := zaw HK4.out (.int .u8 111) (.slice (some ⟨pe, 0, none⟩) 0 0)
      have HBs := zaa.mk (show Below w.heap.size w ((w2.setCell ⟨p4, 0, none⟩ (.int .u8 111)).setCell ⟨p4, 1, none⟩ (.slice (some ⟨pe, 0, none⟩) 0 0)) from zah (zah HB2.out (by have := HP4.out; omega)) (by have := HP4.out; omega))
      generalize (w2.setCell ⟨p4, 0, none⟩ (.int .u8 111)).setCell ⟨p4, 1, none⟩ (.slice (some ⟨pe, 0, none⟩) 0 0) = wz at *
      (try simp only [Exit.inBlock, Exit.then])
      refine bodyPost_ret (zaj rfl _ _ p4 38 _ (0, 0) _ rfl x0 Try.underlying38 rfl (by kernel_rfl)) rfl ?_
      rw [HRn.out]
      exact ⟨111, _, 0, 0, 0, rfl, HBs.out, rfl⟩
end Go.Proofs.Ytgiidlebnjbgeaa.Hd
namespace Go.Proofs.Ytgiidlebnjbgeaa.Hd
open Go.RowKit Go.PW.PrintWords Go.PW.PrintLast Go.PW.PrintMore Go.Proofs.Ytgiidlebnjbgeaa.PB
def Evs {α : Type} (g : Nat → Option α) (r : α) : Prop := ∃ K, ∀ k, K ≤ k → g k = some r
section
variable {α β : Type} {g h : Nat → Option α} {r : α} {c : Prop} {inst : Decidable c}
theorem Evs.const (r : α) : Evs (fun _ => some r) r := ⟨0, fun _ _ => rfl⟩
theorem Evs.step (e : ∀ k, g (k + 1) = h k) (hh : Evs h r) : Evs g r := by
 obtain ⟨K, hK⟩ := hh
 refine ⟨K + 1, fun k hk => ?_⟩
 obtain ⟨j, rfl⟩ : ∃ j, k = j + 1 := ⟨k - 1, by omega⟩
 rw [e]
 exact hK j (by omega)
theorem Evs.congr (e : ∀ k, g k = h k) (hh : Evs h r) : Evs g r := by
 obtain ⟨K, hK⟩ := hh
 exact ⟨K, fun k hk => by rw [e]; exact hK k hk⟩
theorem Evs.bind {g : Nat → Option β} {F : Nat → β → Option α} {b : β} (hg : Evs g b) (hF : Evs (fun k => F k b) r) : Evs (fun k => (g k).bind (F k)) r := by
 obtain ⟨K, hK⟩ := hg
 obtain ⟨L, hL⟩ := hF
 refine ⟨K + L, fun k hk => ?_⟩
 show (g k).bind (F k) = some r
 rw [hK k (by omega)]
 exact hL k (by omega)
theorem Evs.bindS {x : Option β} {F : Nat → β → Option α} {b : β} (hg : x = some b) (hF : Evs (fun k => F k b) r) : Evs (fun k => x.bind (F k)) r := by
 subst hg
 exact hF
theorem Evs.pos (hc : c) (hg : Evs g r) : Evs (fun k => @ite _ c inst (g k) (h k)) r := Evs.congr (fun k => if_pos hc) hg
theorem Evs.neg (hc : ¬ c) (hh : Evs h r) : Evs (fun k => @ite _ c inst (g k) (h k)) r := Evs.congr (fun k => if_neg hc) hh
theorem Evs.stepNeg {a : Nat → Option α} (e : ∀ k, g (k + 1) = @ite _ c inst (a k) (h k)) (hc : ¬ c) (hh : Evs h r) : Evs g r := Evs.step (fun k => (e k).trans (if_neg hc)) hh
theorem Evs.stepPos {a : Nat → Option α} (e : ∀ k, g (k + 1) = @ite _ c inst (a k) (h k)) (hc : c) (hh : Evs a r) : Evs g r := Evs.step (fun k => (e k).trans (if_pos hc)) hh
theorem Evs.ex (h : Evs g r) : ∃ k, g k = some r := by
 obtain ⟨K, hK⟩ := h
 exact ⟨K, hK K (Nat.le_refl _)⟩
end
inductive Tr where
 | o : Tr
 | un : Bool → Tr → Tr
 | bin : Bool → Tr → Tr → Tr
deriving DecidableEq
def unC (b : Bool) : Int := if b then 62 else 94
def binC (b : Bool) : Int := if b then 124 else 45
def toS : Tr → Tm
 | .o => ⟨111, []⟩
 | .un b t => ⟨unC b, [toS t]⟩
 | .bin b x y => ⟨binC b, [toS x, toS y]⟩
def rdR : Nat → ByteArray → Nat → Option (Tr × Nat)
 | 0, _, _ => none
 | f + 1, s, i => if s.size ≤ i then none else if bt s (i : Int) = 111 then some (.o, i + 1) else
  if bt s (i : Int) = 62 ∨ bt s (i : Int) = 94 then match rdR f s (i + 1) with
   | none => none
   | some (t, e) => some (.un (decide (bt s (i : Int) = 62)) t, e)
  else if bt s (i : Int) ≠ 40 then none else match rdR f s (i + 1) with
   | none => none
   | some (a, m) => if s.size ≤ m ∨ (bt s (m : Int) ≠ 124 ∧ bt s (m : Int) ≠ 45) then none else match rdR f s (m + 1) with
    | none => none
    | some (b, e) => if s.size ≤ e ∨ bt s (e : Int) ≠ 41 then none else some (.bin (decide (bt s (m : Int) = 124)) a b, e + 1)
theorem rdT_tr : ∀ (f : Nat) (s : ByteArray) (i : Nat), rdT f s i = (rdR f s i).map fun te => (toS te.1, te.2)
 | 0, s, i => rfl
 | f + 1, s, i => by
  unfold rdT rdR
  rw [rdT_tr f s (i + 1)]
  split
  ·rfl
  ·split
   ·rfl
   ·split
    ·rename_i h
     cases rdR f s (i + 1) with
     | none => rfl
     | some te =>
      obtain ⟨t, e⟩ := te
      simp only [Option.map_some, toS]
      rcases h with h | h <;> simp [h, unC]
    ·split
     ·rfl
     ·cases rdR f s (i + 1) with
      | none => rfl
      | some am =>
       obtain ⟨a, m⟩ := am
       simp only [Option.map_some]
       split
       ·rfl
       ·rename_i hm
        rw [rdT_tr f s (m + 1)]
        cases rdR f s (m + 1) with
        | none => rfl
        | some be =>
         obtain ⟨b, e⟩ := be
         simp only [Option.map_some]
         split
         ·rfl
         ·simp only [Option.map_some, toS]
          have : bt s (m : Int) = 124 ∨ bt s (m : Int) = 45 := by omega
          rcases this with h | h <;> simp [h, binC]
def Tr.tidy : Tr → Bool
 | .o => true
 | .un _ _ => false
 | .bin _ a b => a.tidy && b.tidy
def Tr.nodes : Tr → Nat
 | .o => 1
 | .un _ t => t.nodes + 1
 | .bin _ a b => a.nodes + b.nodes + 1
def inF : Option Bool → Tr → Tr
 | none, t => t
 | some true, .bin true a b => .bin false (inF (some true) a) (inF (some true) b)
 | some true, .bin false a b => .bin true (inF (some true) b) (inF (some true) a)
 | some false, .bin true a b => .bin true (inF (some false) b) (inF (some false) a)
 | some false, .bin false a b => .bin false (inF (some false) a) (inF (some false) b)
 | some _, .o => .o
 | some c, .un d t => .un d (inF (some c) t)
def tid : Tr → Tr
 | .o => .o
 | .un c t => inF (some c) (tid t)
 | .bin s a b => .bin s (tid a) (tid b)
theorem zco (t : Tr) : inF none t = t := by unfold inF; rfl
theorem zbz : ∀ (c : Option Bool) (t : Tr), t.tidy = true → (inF c t).tidy = true
 | none, t, h => by rw [zco]; exact h
 | some true, .o, _ => rfl
 | some false, .o, _ => rfl
 | some c, .un d t, h => by cases h
 | some true, .bin true a b, h => by
  simp only [Tr.tidy, Bool.and_eq_true] at h
  simp only [inF, Tr.tidy, Bool.and_eq_true]
  exact ⟨zbz _ a h.1, zbz _ b h.2⟩
 | some true, .bin false a b, h => by
  simp only [Tr.tidy, Bool.and_eq_true] at h
  simp only [inF, Tr.tidy, Bool.and_eq_true]
  exact ⟨zbz _ b h.2, zbz _ a h.1⟩
 | some false, .bin true a b, h => by
  simp only [Tr.tidy, Bool.and_eq_true] at h
  simp only [inF, Tr.tidy, Bool.and_eq_true]
  exact ⟨zbz _ b h.2, zbz _ a h.1⟩
 | some false, .bin false a b, h => by
  simp only [Tr.tidy, Bool.and_eq_true] at h
  simp only [inF, Tr.tidy, Bool.and_eq_true]
  exact ⟨zbz _ a h.1, zbz _ b h.2⟩
theorem zcf : ∀ t : Tr, (tid t).tidy = true
 | .o => rfl
 | .un c t => zbz _ _ (zcf t)
 | .bin s a b => by
  simp only [tid, Tr.tidy, Bool.and_eq_true]
  exact ⟨zcf a, zcf b⟩
theorem tid_self : ∀ t : Tr, t.tidy = true → tid t = t
 | .o, _ => rfl
 | .un c t, h => by cases h
 | .bin s a b, h => by
  simp only [Tr.tidy, Bool.and_eq_true] at h
  simp only [tid]
  rw [tid_self a h.1, tid_self b h.2]
theorem zbl : ∀ (c : Option Bool) (t : Tr), (inF c t).nodes = t.nodes
 | none, t => by rw [zco]
 | some true, .o => rfl
 | some false, .o => rfl
 | some c, .un d t => by cases c <;> simp only [inF, Tr.nodes, zbl _ t]
 | some true, .bin true a b => by simp only [inF, Tr.nodes]; rw [zbl _ a, zbl _ b]
 | some true, .bin false a b => by simp only [inF, Tr.nodes]; rw [zbl _ a, zbl _ b]; omega
 | some false, .bin true a b => by simp only [inF, Tr.nodes]; rw [zbl _ a, zbl _ b]; omega
 | some false, .bin false a b => by simp only [inF, Tr.nodes]; rw [zbl _ a, zbl _ b]
theorem zck : ∀ t : Tr, (tid t).nodes ≤ t.nodes
 | .o => Nat.le_refl _
 | .un c t => by
  simp only [tid, Tr.nodes]
  rw [zbl]
  have := zck t
  omega
 | .bin s a b => by
  simp only [tid, Tr.nodes]
  have := zck a
  have := zck b
  omega
def rotN : Nat → Bool × Bool → Bool × Bool
 | 0, x => x
 | n + 1, (s, w) => rotN n (if s then (false, w) else (true, !w))
def zby : Tr → Nat → Bool → Tr
 | .o, _, _ => .o
 | .un true t, n, fl => zby t (if fl then (n + 3) % 4 else (n + 1) % 4) fl
 | .un false t, n, fl => zby t n (!fl)
 | .bin s a b, n, fl => if (rotN n (s, fl && s)).2 then .bin (rotN n (s, fl && s)).1 (zby b n fl) (zby a n fl) else .bin (rotN n (s, fl && s)).1 (zby a n fl) (zby b n fl)
def zbh : Nat → Tr → Tr
 | 0, t => t
 | n + 1, t => zbh n (inF (some true) t)
theorem turn4 : ∀ t : Tr, t.tidy = true → zbh 4 t = t
 | .o, _ => rfl
 | .un c t, h => by cases h
 | .bin true a b, h => by
  simp only [Tr.tidy, Bool.and_eq_true] at h
  have ha := turn4 a h.1
  have hb := turn4 b h.2
  simp only [zbh, inF] at ha hb ⊢
  rw [ha, hb]
 | .bin false a b, h => by
  simp only [Tr.tidy, Bool.and_eq_true] at h
  have ha := turn4 a h.1
  have hb := turn4 b h.2
  simp only [zbh, inF] at ha hb ⊢
  rw [ha, hb]
theorem flip2 : ∀ t : Tr, t.tidy = true → inF (some false) (inF (some false) t) = t
 | .o, _ => rfl
 | .un c t, h => by cases h
 | .bin true a b, h => by
  simp only [Tr.tidy, Bool.and_eq_true] at h
  simp only [inF]
  rw [flip2 a h.1, flip2 b h.2]
 | .bin false a b, h => by
  simp only [Tr.tidy, Bool.and_eq_true] at h
  simp only [inF]
  rw [flip2 a h.1, flip2 b h.2]
theorem zcn : ∀ t : Tr, t.tidy = true → inF (some false) (inF (some true) t) = zbh 3 (inF (some false) t)
 | .o, _ => rfl
 | .un c t, h => by cases h
 | .bin true a b, h => by
  simp only [Tr.tidy, Bool.and_eq_true] at h
  have ha := zcn a h.1
  have hb := zcn b h.2
  simp only [zbh, inF] at ha hb ⊢
  rw [ha, hb]
 | .bin false a b, h => by
  simp only [Tr.tidy, Bool.and_eq_true] at h
  have ha := zcn a h.1
  have hb := zcn b h.2
  simp only [zbh, inF] at ha hb ⊢
  rw [ha, hb]
def flipF (fl : Bool) (t : Tr) : Tr := if fl then inF (some false) t else t
theorem turnsF_add (m : Nat) : ∀ (n : Nat) (t : Tr), zbh n (zbh m t) = zbh (m + n) t := by
 induction m with
 | zero => intro n t; rw [Nat.zero_add]; rfl
 | succ m ih =>
  intro n t
  rw [show m + 1 + n = (m + n) + 1 by omega]
  exact ih n _
theorem flipF_tidy (fl : Bool) (t : Tr) (h : t.tidy = true) : (flipF fl t).tidy = true := by
 unfold flipF
 split
 ·exact zbz _ t h
 ·exact h
theorem turnsF_mod (n : Nat) (t : Tr) (h : t.tidy = true) : zbh (n % 4) t = zbh n t := by
 have : ∀ q r : Nat, zbh (4 * q + r) t = zbh r t := by
  intro q
  induction q with
  | zero => intro r; rw [Nat.mul_zero, Nat.zero_add]
  | succ q ih =>
   intro r
   rw [show 4 * (q + 1) + r = 4 * q + (4 + r) by omega, ih, ← turnsF_add, turn4 t h]
 have h2 := this (n / 4) (n % 4)
 rw [Nat.div_add_mod] at h2
 exact h2.symm
theorem turnsF_bin (a b : Tr) (ha : a.tidy = true) (hb : b.tidy = true) : ∀ (n : Nat) (s sw : Bool) (A B : Tr), zbh n (if sw then .bin s B A else .bin s A B) = if (rotN n (s, sw)).2 then .bin (rotN n (s, sw)).1 (zbh n B) (zbh n A) else .bin (rotN n (s, sw)).1 (zbh n A) (zbh n B)
 | 0, s, sw, A, B => rfl
 | n + 1, s, sw, A, B => by
  have ih := turnsF_bin a b ha hb n
  cases s <;> cases sw
  ·have := ih true true (inF (some true) A) (inF (some true) B)
   exact this
  ·have := ih true false (inF (some true) A) (inF (some true) B)
   exact this
  ·have := ih false false (inF (some true) A) (inF (some true) B)
   exact this
  ·have := ih false true (inF (some true) A) (inF (some true) B)
   exact this
theorem tidyR_eq : ∀ (t : Tr) (n : Nat) (fl : Bool), zby t n fl = zbh n (flipF fl (tid t))
 | .o, n, fl => by
  have h1 : flipF fl Tr.o = Tr.o := by cases fl <;> rfl
  have h2 : ∀ n, zbh n Tr.o = Tr.o := fun n => by induction n with
   | zero => rfl
   | succ n ih => exact ih
  show Tr.o = zbh n (flipF fl Tr.o)
  rw [h1, h2]
 | .un true t, n, fl => by
  have ht := zcf t
  have ih := tidyR_eq t
  cases fl
  ·show zby t ((n + 1) % 4) false = zbh n (inF (some true) (tid t))
   rw [ih, turnsF_mod _ _ (flipF_tidy _ _ ht)]
   rfl
  ·show zby t ((n + 3) % 4) true = zbh n (inF (some false) (inF (some true) (tid t)))
   rw [ih, turnsF_mod _ _ (flipF_tidy _ _ ht), zcn _ ht, turnsF_add, Nat.add_comm 3 n]
   rfl
 | .un false t, n, fl => by
  have ht := zcf t
  have ih := tidyR_eq t
  cases fl
  ·show zby t n true = zbh n (inF (some false) (tid t))
   rw [ih]
   rfl
  ·show zby t n false = zbh n (inF (some false) (inF (some false) (tid t)))
   rw [ih, flip2 _ ht]
   rfl
 | .bin s a b, n, fl => by
  have ia := tidyR_eq a n fl
  have ib := tidyR_eq b n fl
  have hb := turnsF_bin (tid a) (tid b) (zcf a) (zcf b) n s (fl && s) (flipF fl (tid a)) (flipF fl (tid b))
  rw [← ia, ← ib] at hb
  show (if (rotN n (s, fl && s)).2 then Tr.bin (rotN n (s, fl && s)).1 (zby b n fl) (zby a n fl) else Tr.bin (rotN n (s, fl && s)).1 (zby a n fl) (zby b n fl)) = _
  rw [← hb]
  congr 1
  cases fl <;> cases s <;> rfl
theorem tidyR_zero (t : Tr) : zby t 0 false = tid t := tidyR_eq t 0 false
end Go.Proofs.Ytgiidlebnjbgeaa.Hd
namespace Go.Proofs.Ytgiidlebnjbgeaa.Hd
open Go.RowKit Go.PW.PrintWords Go.PW.PrintLast Go.PW.PrintMore Go.Proofs.Ytgiidlebnjbgeaa.PB
def zbk (s : ByteArray) : Nat → Nat
 | 0 => 0
 | n + 1 => zbk s n + if bt s (n : Int) = 111 then 1 else 0
theorem roomsS_succ (s : ByteArray) (n : Nat) : zbk s (n + 1) = zbk s n + if bt s (n : Int) = 111 then 1 else 0 := rfl
theorem roomsS_le (s : ByteArray) : ∀ n, zbk s n ≤ n
 | 0 => Nat.le_refl _
 | n + 1 => by
  have := roomsS_le s n
  unfold zbk
  split <;> omega
theorem roomsS_l0 (s : ByteArray) (hs : s.size ≤ 1048576) : ∀ m i, i + m = s.size → Evs (fun k => spec_l11Rooms.l0 k s (zbk s i : Int) (i : Int)) (zbk s s.size : Int) := by
 intro m
 induction m with
 | zero =>
  intro i hi
  obtain rfl : i = s.size := by omega
  refine Evs.step (h := fun _ => some (zbk s s.size : Int)) (fun k => ?_) (Evs.const _)
  conv => lhs; unfold spec_l11Rooms.l0
  rw [if_neg (by omega)]
 | succ m ih =>
  intro i hi
  have hnx := ih (i + 1) (by omega)
  have hle := roomsS_le s i
  refine Evs.step (h := fun k => spec_l11Rooms.l0 k s (zbk s (i + 1) : Int) ((i + 1 : Nat) : Int)) (fun k => ?_) hnx
  have e2 : wrap64 ((i : Int) + 1) = ((i + 1 : Nat) : Int) := by rw [wrapT (by omega) (by omega)]; omega
  conv => lhs; unfold spec_l11Rooms.l0
  rw [if_pos (by omega), if_pos (by omega), e2]
  by_cases h : bt s (i : Int) = 111
  ·have e3 : zbk s (i + 1) = zbk s i + 1 := by rw [roomsS_succ, if_pos h]
   have e1 : wrap64 ((zbk s i : Int) + 1) = ((zbk s i + 1 : Nat) : Int) := by rw [wrapT (by omega) (by omega)]; omega
   rw [if_pos h, e1, e3]
  ·have e3 : zbk s (i + 1) = zbk s i := by rw [roomsS_succ, if_neg h, Nat.add_zero]
   rw [if_neg h, e3]
theorem l11Rooms_ev (s : ByteArray) (hs : s.size ≤ 1048576) : Evs (fun k => spec_l11Rooms.f k s) (zbk s s.size : Int) := roomsS_l0 s hs s.size 0 (by omega)
def ofR (s : ByteArray) : Option Tr := if 60 < s.size ∨ 7 < zbk s s.size then none else match rdR (s.size + 1) s 0 with
 | none => none
 | some (t, e) => if e = s.size then some t else none
def OfRes (w : World) (r : Option Tr) (e : Ending) (w' : World) : Prop :=
 ∃ (sg : Int) (A : Option Addr) (n c : Nat) (b : Bool), e = .returned (.tuple #[.agg #[.int .u8 sg, .slice A n c], .bool b]) ∧ Below w.heap.size w w' ∧ match r with
  | none => b = false
  | some t => b = true ∧ TmF w' (fun k => w.heap.size ≤ k) (toS t) sg (.slice A n c)
set_option maxHeartbeats 400000 in
set_option maxRecDepth 100000 in
theorem l11Of_calls (s : ByteArray) (hs : s.size ≤ 1048576) (w : World) : Calls Try.prog 19 #[.string s] w (OfRes w (ofR s)) := by
 obtain ⟨K, hK⟩ := l11Rooms_ev s hs
 have HRo := zaa.mk (hK K (Nat.le_refl K))
 have hrl := roomsS_le s s.size
 have HOf := zaa.mk (show ofR s = if 60 < s.size ∨ 7 < zbk s s.size then none else match rdR (s.size + 1) s 0 with
  | none => none
  | some (t, e) => if e = s.size then some t else none from rfl)
 clear hK
 generalize zbk s s.size = rn at *
 go_enter Try.func19, Try.ntmps19
 go_upto_region 1 with (fail)
 have hb := zab (Below.refl w.heap.size w) (.cells #[.int .u8 0, .slice none 0 0] 38)
 have hk := heap_alloc_new w (.cells #[.int .u8 0, .slice none 0 0] 38)
 generalize w.alloc (.cells #[.int .u8 0, .slice none 0 0] 38) = w1 at *
 obtain ⟨p4, hp4⟩ : ∃ p4, p4 = w.heap.size := ⟨_, rfl⟩
 rw [← hp4] at hk ⊢
 have HP4 := zaa.mk hp4
 have HB1 := zaa.mk hb
 have HK1 := zaa.mk hk
 have x40 : w1.cell? ⟨p4, 0, none⟩ = some (.int .u8 0) := (zad hk 0).trans rfl
 have x41 : w1.cell? ⟨p4, 1, none⟩ = some (.slice none 0 0) := (zad hk 1).trans rfl
 have f40 := zag hk 0
 have f41 := zag hk 1
 clear hb hk hp4
 by_cases hbig : 60 < s.size
 ·have d1 : (60 : Int) < (s.size : Int) := by omega
  have HR := zaa.mk (show ofR s = none by rw [HOf.out, if_pos (.inl hbig)])
  clear hbig
  go_wp2_with (first
   | ((with_reducible refine zba (N := 14) rfl ?_); refine zbd ?hg (N := 14) ?hd (n := 0) (cs := #[]) (t := 38) ?hr ?_; (case hd => rfl); (case hg => rfl); (case hr => first | (go_simp; done) | (go_simp; rfl)); intro pb hpb w5 hk hb; have HAw5 := zaa.mk (zae HB1.out hb); have hk4 := (hb.block p4 (zak HK1.out)).trans HK1.out; have HK45 := zaa.mk hk4; clear x40 x41 f40 f41 hb hk hpb; have x40 : w5.cell? ⟨p4, 0, none⟩ = some (.int .u8 0) := (zad hk4 0).trans rfl; have x41 : w5.cell? ⟨p4, 1, none⟩ = some (.slice none 0 0) := (zad hk4 1).trans rfl; have f40 := zag hk4 0; have f41 := zag hk4 1; clear hk4))
  have x0 := zaw HK45.out (.int .u8 111) (.slice (some ⟨pb, 0, none⟩) 0 0)
  have HBs := zaa.mk (show Below w.heap.size w ((w5.setCell ⟨p4, 0, none⟩ (.int .u8 111)).setCell ⟨p4, 1, none⟩ (.slice (some ⟨pb, 0, none⟩) 0 0)) from zah (zah HAw5.out (by have := HP4.out; omega)) (by have := HP4.out; omega))
  generalize (w5.setCell ⟨p4, 0, none⟩ (.int .u8 111)).setCell ⟨p4, 1, none⟩ (.slice (some ⟨pb, 0, none⟩) 0 0) = wz at *
  (try simp only [Exit.inBlock, Exit.then])
  refine bodyPost_ret (zaj rfl _ _ p4 38 _ (0, 0) _ rfl x0 Try.underlying38 rfl (by kernel_rfl)) rfl ?_
  rw [HR.out]
  exact ⟨111, _, 0, 0, false, rfl, HBs.out, rfl⟩
 ·have d1 : ¬ (60 : Int) < (s.size : Int) := by omega
  by_cases h7 : 7 < rn
  ·have d2 : (7 : Int) < (rn : Int) := by omega
   have HR := zaa.mk (show ofR s = none by rw [HOf.out, if_pos (.inr h7)])
   clear h7 hbig
   go_wp2_with (first
    | (go_at_call 34; refine (spec_l11Rooms.calls K s (rn : Int) _ HRo.out).mono ?_; rintro e w2 ⟨rfl, hdr⟩; obtain ⟨nd, hnd⟩ := hdr.out; have hb := zac (Below.refl w1.heap.size w1) nd; rw [← hnd] at hb; have HB2 := zaa.mk (zae HB1.out hb); have hk4 := (hb.block p4 (zak HK1.out)).trans HK1.out; have HK2 := zaa.mk hk4; clear x40 x41 f40 f41 hb hnd hdr; have x40 : w2.cell? ⟨p4, 0, none⟩ = some (.int .u8 0) := (zad hk4 0).trans rfl; have x41 : w2.cell? ⟨p4, 1, none⟩ = some (.slice none 0 0) := (zad hk4 1).trans rfl; have f40 := zag hk4 0; have f41 := zag hk4 1; clear hk4)
    | ((with_reducible refine zba (N := 14) rfl ?_); refine zbd ?hg (N := 14) ?hd (n := 0) (cs := #[]) (t := 38) ?hr ?_; (case hd => rfl); (case hg => rfl); (case hr => first | (go_simp; done) | (go_simp; rfl)); intro pb hpb w5 hk hb; have HAw5 := zaa.mk (zae HB2.out hb); have hk4 := (hb.block p4 (zak HK2.out)).trans HK2.out; have HK45 := zaa.mk hk4; clear x40 x41 f40 f41 hb hk hpb; have x40 : w5.cell? ⟨p4, 0, none⟩ = some (.int .u8 0) := (zad hk4 0).trans rfl; have x41 : w5.cell? ⟨p4, 1, none⟩ = some (.slice none 0 0) := (zad hk4 1).trans rfl; have f40 := zag hk4 0; have f41 := zag hk4 1; clear hk4))
   have x0 := zaw HK45.out (.int .u8 111) (.slice (some ⟨pb, 0, none⟩) 0 0)
   have HBs := zaa.mk (show Below w.heap.size w ((w5.setCell ⟨p4, 0, none⟩ (.int .u8 111)).setCell ⟨p4, 1, none⟩ (.slice (some ⟨pb, 0, none⟩) 0 0)) from zah (zah HAw5.out (by have := HP4.out; omega)) (by have := HP4.out; omega))
   generalize (w5.setCell ⟨p4, 0, none⟩ (.int .u8 111)).setCell ⟨p4, 1, none⟩ (.slice (some ⟨pb, 0, none⟩) 0 0) = wz at *
   (try simp only [Exit.inBlock, Exit.then])
   refine bodyPost_ret (zaj rfl _ _ p4 38 _ (0, 0) _ rfl x0 Try.underlying38 rfl (by kernel_rfl)) rfl ?_
   rw [HR.out]
   exact ⟨111, _, 0, 0, false, rfl, HBs.out, rfl⟩
  ·have d2 : ¬ (7 : Int) < (rn : Int) := by omega
   have hof := HOf.out
   rw [if_neg (fun h => h.elim hbig h7)] at hof
   clear HOf h7 hbig
   have HOf := zaa.mk hof
   have HRd := zaa.mk (fun w => l11Read_calls s hs (s.size + 1) 0 w 0 rfl (by omega) (Nat.zero_le _))
   have hT := rdT_tr (s.size + 1) s 0
   clear hof
   go_upto_region 4 with (first
    | (go_at_call 34; refine (spec_l11Rooms.calls K s (rn : Int) _ HRo.out).mono ?_; rintro e w2 ⟨rfl, hdr⟩; obtain ⟨nd, hnd⟩ := hdr.out; have hb := zac (Below.refl w1.heap.size w1) nd; rw [← hnd] at hb; have HB2 := zaa.mk (zae HB1.out hb); have hk4 := (hb.block p4 (zak HK1.out)).trans HK1.out; have HK2 := zaa.mk hk4; clear x40 x41 f40 f41 hb hnd hdr; have x40 : w2.cell? ⟨p4, 0, none⟩ = some (.int .u8 0) := (zad hk4 0).trans rfl; have x41 : w2.cell? ⟨p4, 1, none⟩ = some (.slice none 0 0) := (zad hk4 1).trans rfl; have f40 := zag hk4 0; have f41 := zag hk4 1; clear hk4)
    | (go_at_call 35; refine (HRd.out _).mono ?_; rintro e w3 ⟨sg, A, n, c, m, rfl, hb, hres⟩; have HB3 := zaa.mk hb; have HRes := zaa.mk hres; clear hb hres))
   have hb := zab (Below.refl w3.heap.size w3) (.cells #[.int .u8 sg, .slice A n c] 38)
   have hk := heap_alloc_new w3 (.cells #[.int .u8 sg, .slice A n c] 38)
   generalize w3.alloc (.cells #[.int .u8 sg, .slice A n c] 38) = w4 at *
   obtain ⟨p8, hp⟩ : ∃ p8, p8 = w3.heap.size := ⟨_, rfl⟩
   rw [← hp] at hk ⊢
   have HAw4 := zaa.mk hb
   have hk4 := (hb.block p4 (by have := HB3.out.size; have := zak HK2.out; omega)).trans ((HB3.out.block p4 (zak HK2.out)).trans HK2.out)
   have HB4 := zaa.mk (zae (zae HB2.out HB3.out) hb)
   have HK4 := zaa.mk hk4
   clear x40 x41 f40 f41
   have x40 : w4.cell? ⟨p4, 0, none⟩ = some (.int .u8 0) := (zad hk4 0).trans rfl
   have x41 : w4.cell? ⟨p4, 1, none⟩ = some (.slice none 0 0) := (zad hk4 1).trans rfl
   have f40 := zag hk4 0
   have f41 := zag hk4 1
   have x80 : w4.cell? ⟨p8, 0, none⟩ = some (.int .u8 sg) := (zad hk 0).trans rfl
   have x81 : w4.cell? ⟨p8, 1, none⟩ = some (.slice A n c) := (zad hk 1).trans rfl
   clear hb hk hk4 hp
   have hres := HRes.out
   rw [hT] at hres
   have hof := HOf.out
   clear HRes hT HOf
   have HN := zaa.mk (show p4 < w2.heap.size ∧ w.heap.size ≤ w2.heap.size from ⟨zak HK2.out, HB2.out.size⟩)
   cases hrd : rdR (s.size + 1) s 0 with
   | none =>
    rw [hrd] at hres hof
    dsimp only [Option.map_none] at hres hof
    subst hres
    have HR := zaa.mk hof
    clear hrd hof
    go_wp2
    have x0 := zaw HK4.out (.int .u8 sg) (.slice A n c)
    have HBs := zaa.mk (show Below w.heap.size w ((w4.setCell ⟨p4, 0, none⟩ (.int .u8 sg)).setCell ⟨p4, 1, none⟩ (.slice A n c)) from zah (zah HB4.out (by have := HP4.out; omega)) (by have := HP4.out; omega))
    generalize (w4.setCell ⟨p4, 0, none⟩ (.int .u8 sg)).setCell ⟨p4, 1, none⟩ (.slice A n c) = wz at *
    (try simp only [Exit.inBlock, Exit.then])
    refine bodyPost_ret (zaj rfl _ _ p4 38 _ (0, 0) _ rfl x0 Try.underlying38 rfl (by kernel_rfl)) rfl ?_
    rw [HR.out]
    exact ⟨sg, A, n, c, false, rfl, HBs.out, rfl⟩
   | some te =>
    obtain ⟨t, e⟩ := te
    rw [hrd] at hres hof
    dsimp only [Option.map_some] at hres hof
    obtain ⟨rfl, hT⟩ := hres
    have hend := rdT_end (s.size + 1) s 0 (toS t) e (by rw [rdT_tr, hrd]; rfl)
    have HT := zaa.mk hT
    have g1 : (0 : Int) < (e : Int) := by omega
    clear hrd hT hend
    by_cases hes : e = s.size
    ·have g2 : ((e : Int) == (s.size : Int)) = true := by rw [beq_iff_eq]; omega
     rw [if_pos hes] at hof
     have HR := zaa.mk hof
     clear hof hes
     go_wp2
     have x0 := zaw HK4.out (.int .u8 sg) (.slice A n c)
     have HBs := zaa.mk (show Below w.heap.size w ((w4.setCell ⟨p4, 0, none⟩ (.int .u8 sg)).setCell ⟨p4, 1, none⟩ (.slice A n c)) from zah (zah HB4.out (by have := HP4.out; omega)) (by have := HP4.out; omega))
     have HTt := zaa.mk (show TmF ((w4.setCell ⟨p4, 0, none⟩ (.int .u8 sg)).setCell ⟨p4, 1, none⟩ (.slice A n c)) (fun k => w2.heap.size ≤ k) (toS t) sg (.slice A n c) from ((HT.out.below HAw4.out).far (p := ⟨p4, 0, none⟩) (fun k hk => by have := HN.out; show k ≠ p4; omega) _).far (p := ⟨p4, 1, none⟩) (fun k hk => by have := HN.out; show k ≠ p4; omega) _)
     generalize (w4.setCell ⟨p4, 0, none⟩ (.int .u8 sg)).setCell ⟨p4, 1, none⟩ (.slice A n c) = wz at *
     (try simp only [Exit.inBlock, Exit.then])
     refine bodyPost_ret (zaj rfl _ _ p4 38 _ (0, 0) _ rfl x0 Try.underlying38 rfl (by kernel_rfl)) rfl ?_
     rw [HR.out]
     exact ⟨sg, A, n, c, true, rfl, HBs.out, rfl, HTt.out.mono (fun k hk => by have := HN.out; show w.heap.size ≤ k; omega)⟩
    ·have g2 : ((e : Int) == (s.size : Int)) = false := by rw [beq_eq_false_iff_ne]; omega
     rw [if_neg hes] at hof
     have HR := zaa.mk hof
     clear hof hes
     go_wp2
     have x0 := zaw HK4.out (.int .u8 sg) (.slice A n c)
     have HBs := zaa.mk (show Below w.heap.size w ((w4.setCell ⟨p4, 0, none⟩ (.int .u8 sg)).setCell ⟨p4, 1, none⟩ (.slice A n c)) from zah (zah HB4.out (by have := HP4.out; omega)) (by have := HP4.out; omega))
     generalize (w4.setCell ⟨p4, 0, none⟩ (.int .u8 sg)).setCell ⟨p4, 1, none⟩ (.slice A n c) = wz at *
     (try simp only [Exit.inBlock, Exit.then])
     refine bodyPost_ret (zaj rfl _ _ p4 38 _ (0, 0) _ rfl x0 Try.underlying38 rfl (by kernel_rfl)) rfl ?_
     rw [HR.out]
     exact ⟨sg, A, n, c, false, rfl, HBs.out, rfl⟩
def TmRes (w : World) (t : Tm) (e : Ending) (w' : World) : Prop :=
 ∃ (sg : Int) (A : Option Addr) (n c : Nat), e = .returned (.agg #[.int .u8 sg, .slice A n c]) ∧ Below w.heap.size w w' ∧ TmF w' (fun k => w.heap.size ≤ k) t sg (.slice A n c)
set_option maxHeartbeats 400000 in
set_option maxRecDepth 100000 in
theorem l11Tidy_calls : ∀ (t : Tr) (n : Nat) (fl : Bool) (w : World) (sg : Int) (v : Value) (x : Int), x = (n : Int) → n < 4 → TmV w (toS t) sg v →
  Calls Try.prog 21 #[.agg #[.int .u8 sg, v], .int .i64 x, .bool fl] w (TmRes w (toS (zby t n fl))) := by
 intro t
 induction t with
 | o =>
  intro n fl w sg v x hx hn hv
  obtain ⟨hsg0, A, c, e, hl, hC⟩ := hv
  have hsg : sg = 111 := hsg0
  clear hsg0
  subst hsg e hx
  show Calls Try.prog 21 #[.agg #[.int .u8 111, .slice A 0 c], .int .i64 (n : Int), .bool fl] w _
  go_enter Try.func21, Try.ntmps21
  go_upto_region 1 with (fail)
  have hb := zab (zab (Below.refl w.heap.size w) (.cells #[.int .u8 111, .slice A 0 c] 38)) (.cells #[.int .u8 0, .slice none 0 0] 38)
  have hk3 := heap_alloc2_old w (.cells #[.int .u8 111, .slice A 0 c] 38) (.cells #[.int .u8 0, .slice none 0 0] 38)
  have hk6 := heap_alloc2_new w (.cells #[.int .u8 111, .slice A 0 c] 38) (.cells #[.int .u8 0, .slice none 0 0] 38)
  generalize (w.alloc (.cells #[.int .u8 111, .slice A 0 c] 38)).alloc (.cells #[.int .u8 0, .slice none 0 0] 38) = w2 at *
  obtain ⟨p6, hp6⟩ : ∃ p6, p6 = w.heap.size + 1 := ⟨_, rfl⟩
  rw [← hp6] at hk6 ⊢
  obtain ⟨p3, hp3⟩ : ∃ p3, p3 = w.heap.size := ⟨_, rfl⟩
  rw [← hp3] at hk3 hp6 ⊢
  have HP6 := zaa.mk (show w.heap.size ≤ p6 by omega)
  have HB2 := zaa.mk hb
  have HK6 := zaa.mk hk6
  have HK3 := zaa.mk hk3
  have x30 : w2.cell? ⟨p3, 0, none⟩ = some (.int .u8 111) := (zad hk3 0).trans rfl
  have x31 : w2.cell? ⟨p3, 1, none⟩ = some (.slice A 0 c) := (zad hk3 1).trans rfl
  have x60 : w2.cell? ⟨p6, 0, none⟩ = some (.int .u8 0) := (zad hk6 0).trans rfl
  have f60 := zag hk6 0
  have x61 : w2.cell? ⟨p6, 1, none⟩ = some (.slice none 0 0) := (zad hk6 1).trans rfl
  have f61 := zag hk6 1
  clear hb hk3 hk6 hp6 hp3
  clear hC hl
  go_wp2
  have x0 := zaw HK6.out (.int .u8 111) (.slice A 0 c)
  have HBs := zaa.mk (show Below w.heap.size w ((w2.setCell ⟨p6, 0, none⟩ (.int .u8 111)).setCell ⟨p6, 1, none⟩ (.slice A 0 c)) from zah (zah HB2.out (by have := HP6.out; omega)) (by have := HP6.out; omega))
  generalize (w2.setCell ⟨p6, 0, none⟩ (.int .u8 111)).setCell ⟨p6, 1, none⟩ (.slice A 0 c) = wz at *
  (try simp only [Exit.inBlock, Exit.then])
  refine bodyPost_ret (results_cell_row rfl _ _ p6 38 _ (0, 0) _ rfl x0 Try.underlying38 rfl (by kernel_rfl)) rfl ?_
  exact ⟨111, _, _, _, rfl, HBs.out, TmF.leaf _ _ _ _ _⟩
 | un b t ih =>
  intro n fl w sg v x hx hn hv
  obtain ⟨hsg0, A, c, e, hl, hC⟩ := hv
  have HIh := zaa.mk ih
  clear ih
  subst e hx
  replace hC : kT.C w A 1 [toS t] := hC
  obtain ⟨adq, Aq, cq, e, yq0, yq1, lq, hCq⟩ := at_T38 hC 0 (by omega) (by omega)
  subst e
  have er : zas [toS t] 0 = toS t := rfl
  rw [er] at yq0 yq1 lq hCq
  have ea : adq.add (Int.toNat 0 * 2) = adq := Addr.add_zero' adq
  rw [ea] at yq0 yq1
  have n0 : (0 : Int) ≤ (n : Int) := by omega
  cases b with
  | true =>
   have hsg : sg = 62 := hsg0
   clear hsg0
   subst hsg
   show Calls Try.prog 21 #[.agg #[.int .u8 62, .slice (some adq) 1 c], .int .i64 (n : Int), .bool fl] w _
   cases fl with
   | true =>
    go_enter Try.func21, Try.ntmps21
    go_upto_region 1 with (fail)
    have hb := zab (zab (Below.refl w.heap.size w) (.cells #[.int .u8 62, .slice (some adq) 1 c] 38)) (.cells #[.int .u8 0, .slice none 0 0] 38)
    have hk3 := heap_alloc2_old w (.cells #[.int .u8 62, .slice (some adq) 1 c] 38) (.cells #[.int .u8 0, .slice none 0 0] 38)
    have hk6 := heap_alloc2_new w (.cells #[.int .u8 62, .slice (some adq) 1 c] 38) (.cells #[.int .u8 0, .slice none 0 0] 38)
    generalize (w.alloc (.cells #[.int .u8 62, .slice (some adq) 1 c] 38)).alloc (.cells #[.int .u8 0, .slice none 0 0] 38) = w2 at *
    obtain ⟨p6, hp6⟩ : ∃ p6, p6 = w.heap.size + 1 := ⟨_, rfl⟩
    rw [← hp6] at hk6 ⊢
    obtain ⟨p3, hp3⟩ : ∃ p3, p3 = w.heap.size := ⟨_, rfl⟩
    rw [← hp3] at hk3 hp6 ⊢
    have HP6 := zaa.mk (show w.heap.size ≤ p6 by omega)
    have HB2 := zaa.mk hb
    have HK6 := zaa.mk hk6
    have HK3 := zaa.mk hk3
    have x30 : w2.cell? ⟨p3, 0, none⟩ = some (.int .u8 62) := (zad hk3 0).trans rfl
    have x31 : w2.cell? ⟨p3, 1, none⟩ = some (.slice (some adq) 1 c) := (zad hk3 1).trans rfl
    have x60 : w2.cell? ⟨p6, 0, none⟩ = some (.int .u8 0) := (zad hk6 0).trans rfl
    have f60 := zag hk6 0
    have x61 : w2.cell? ⟨p6, 1, none⟩ = some (.slice none 0 0) := (zad hk6 1).trans rfl
    have f61 := zag hk6 1
    clear hb hk3 hk6 hp6 hp3
    have HQ := zaa.mk (show TmV w2 (toS t) (toS t).f0 (.slice Aq (toS t).f1.length cq) from TmV.below ⟨rfl, Aq, cq, rfl, lq, hCq⟩ HB2.out)
    replace yq0 := zai HB2.out yq0
    replace yq1 := zai HB2.out yq1
    clear hC hl hCq lq er ea
    generalize (toS t).f0 = sq at *
    generalize (toS t).f1.length = nq at *
    go_wp2_with (first
     | (go_at_call 21; refine (HIh.out ((n + 3) % 4) true _ _ _ _ (by first | rfl | (rw [Int.tmod_eq_emod_of_nonneg (by omega)]; omega)) (by omega) HQ.out).mono ?_; rintro e w3 ⟨sr, Ar, nr, cr, rfl, hb, hT⟩; have hk6 := (hb.block p6 (zak HK6.out)).trans HK6.out; have HK63 := zaa.mk hk6; have HB3 := zaa.mk (zae HB2.out hb); have HT := zaa.mk hT; clear x60 x61 f60 f61 hb hT; have x60 : w3.cell? ⟨p6, 0, none⟩ = some (.int .u8 0) := (zad hk6 0).trans rfl; have x61 : w3.cell? ⟨p6, 1, none⟩ = some (.slice none 0 0) := (zad hk6 1).trans rfl; have f60 := zag hk6 0; have f61 := zag hk6 1; clear hk6))
    have x0 := zaw HK63.out (.int .u8 sr) (.slice Ar nr cr)
    have HBs := zaa.mk (show Below w.heap.size w ((w3.setCell ⟨p6, 0, none⟩ (.int .u8 sr)).setCell ⟨p6, 1, none⟩ (.slice Ar nr cr)) from zah (zah HB3.out (by have := HP6.out; omega)) (by have := HP6.out; omega))
    have HN := zaa.mk (show p6 < w2.heap.size ∧ w.heap.size ≤ w2.heap.size from ⟨zak HK6.out, HB2.out.size⟩)
    have HTt := zaa.mk ((HT.out.far (p := ⟨p6, 0, none⟩) (fun k hk => by have := HN.out; show k ≠ p6; omega) (.int .u8 sr)).far (p := ⟨p6, 1, none⟩) (fun k hk => by have := HN.out; show k ≠ p6; omega) (.slice Ar nr cr))
    generalize (w3.setCell ⟨p6, 0, none⟩ (.int .u8 sr)).setCell ⟨p6, 1, none⟩ (.slice Ar nr cr) = wz at *
    (try simp only [Exit.inBlock, Exit.then])
    refine bodyPost_ret (results_cell_row rfl _ _ p6 38 _ (0, 0) _ rfl x0 Try.underlying38 rfl (by kernel_rfl)) rfl ?_
    exact ⟨sr, _, _, _, rfl, HBs.out, HTt.out.mono (fun k hk => by have := HN.out; show w.heap.size ≤ k; omega)⟩
   | false =>
    go_enter Try.func21, Try.ntmps21
    go_upto_region 1 with (fail)
    have hb := zab (zab (Below.refl w.heap.size w) (.cells #[.int .u8 62, .slice (some adq) 1 c] 38)) (.cells #[.int .u8 0, .slice none 0 0] 38)
    have hk3 := heap_alloc2_old w (.cells #[.int .u8 62, .slice (some adq) 1 c] 38) (.cells #[.int .u8 0, .slice none 0 0] 38)
    have hk6 := heap_alloc2_new w (.cells #[.int .u8 62, .slice (some adq) 1 c] 38) (.cells #[.int .u8 0, .slice none 0 0] 38)
    generalize (w.alloc (.cells #[.int .u8 62, .slice (some adq) 1 c] 38)).alloc (.cells #[.int .u8 0, .slice none 0 0] 38) = w2 at *
    obtain ⟨p6, hp6⟩ : ∃ p6, p6 = w.heap.size + 1 := ⟨_, rfl⟩
    rw [← hp6] at hk6 ⊢
    obtain ⟨p3, hp3⟩ : ∃ p3, p3 = w.heap.size := ⟨_, rfl⟩
    rw [← hp3] at hk3 hp6 ⊢
    have HP6 := zaa.mk (show w.heap.size ≤ p6 by omega)
    have HB2 := zaa.mk hb
    have HK6 := zaa.mk hk6
    have HK3 := zaa.mk hk3
    have x30 : w2.cell? ⟨p3, 0, none⟩ = some (.int .u8 62) := (zad hk3 0).trans rfl
    have x31 : w2.cell? ⟨p3, 1, none⟩ = some (.slice (some adq) 1 c) := (zad hk3 1).trans rfl
    have x60 : w2.cell? ⟨p6, 0, none⟩ = some (.int .u8 0) := (zad hk6 0).trans rfl
    have f60 := zag hk6 0
    have x61 : w2.cell? ⟨p6, 1, none⟩ = some (.slice none 0 0) := (zad hk6 1).trans rfl
    have f61 := zag hk6 1
    clear hb hk3 hk6 hp6 hp3
    have HQ := zaa.mk (show TmV w2 (toS t) (toS t).f0 (.slice Aq (toS t).f1.length cq) from TmV.below ⟨rfl, Aq, cq, rfl, lq, hCq⟩ HB2.out)
    replace yq0 := zai HB2.out yq0
    replace yq1 := zai HB2.out yq1
    clear hC hl hCq lq er ea
    generalize (toS t).f0 = sq at *
    generalize (toS t).f1.length = nq at *
    go_wp2_with (first
     | (go_at_call 21; refine (HIh.out ((n + 1) % 4) false _ _ _ _ (by first | rfl | (rw [Int.tmod_eq_emod_of_nonneg (by omega)]; omega)) (by omega) HQ.out).mono ?_; rintro e w3 ⟨sr, Ar, nr, cr, rfl, hb, hT⟩; have hk6 := (hb.block p6 (zak HK6.out)).trans HK6.out; have HK63 := zaa.mk hk6; have HB3 := zaa.mk (zae HB2.out hb); have HT := zaa.mk hT; clear x60 x61 f60 f61 hb hT; have x60 : w3.cell? ⟨p6, 0, none⟩ = some (.int .u8 0) := (zad hk6 0).trans rfl; have x61 : w3.cell? ⟨p6, 1, none⟩ = some (.slice none 0 0) := (zad hk6 1).trans rfl; have f60 := zag hk6 0; have f61 := zag hk6 1; clear hk6))
    have x0 := zaw HK63.out (.int .u8 sr) (.slice Ar nr cr)
    have HBs := zaa.mk (show Below w.heap.size w ((w3.setCell ⟨p6, 0, none⟩ (.int .u8 sr)).setCell ⟨p6, 1, none⟩ (.slice Ar nr cr)) from zah (zah HB3.out (by have := HP6.out; omega)) (by have := HP6.out; omega))
    have HN := zaa.mk (show p6 < w2.heap.size ∧ w.heap.size ≤ w2.heap.size from ⟨zak HK6.out, HB2.out.size⟩)
    have HTt := zaa.mk ((HT.out.far (p := ⟨p6, 0, none⟩) (fun k hk => by have := HN.out; show k ≠ p6; omega) (.int .u8 sr)).far (p := ⟨p6, 1, none⟩) (fun k hk => by have := HN.out; show k ≠ p6; omega) (.slice Ar nr cr))
    generalize (w3.setCell ⟨p6, 0, none⟩ (.int .u8 sr)).setCell ⟨p6, 1, none⟩ (.slice Ar nr cr) = wz at *
    (try simp only [Exit.inBlock, Exit.then])
    refine bodyPost_ret (results_cell_row rfl _ _ p6 38 _ (0, 0) _ rfl x0 Try.underlying38 rfl (by kernel_rfl)) rfl ?_
    exact ⟨sr, _, _, _, rfl, HBs.out, HTt.out.mono (fun k hk => by have := HN.out; show w.heap.size ≤ k; omega)⟩
  | false =>
   have hsg : sg = 94 := hsg0
   clear hsg0
   subst hsg
   show Calls Try.prog 21 #[.agg #[.int .u8 94, .slice (some adq) 1 c], .int .i64 (n : Int), .bool fl] w _
   cases fl with
   | true =>
    go_enter Try.func21, Try.ntmps21
    go_upto_region 1 with (fail)
    have hb := zab (zab (Below.refl w.heap.size w) (.cells #[.int .u8 94, .slice (some adq) 1 c] 38)) (.cells #[.int .u8 0, .slice none 0 0] 38)
    have hk3 := heap_alloc2_old w (.cells #[.int .u8 94, .slice (some adq) 1 c] 38) (.cells #[.int .u8 0, .slice none 0 0] 38)
    have hk6 := heap_alloc2_new w (.cells #[.int .u8 94, .slice (some adq) 1 c] 38) (.cells #[.int .u8 0, .slice none 0 0] 38)
    generalize (w.alloc (.cells #[.int .u8 94, .slice (some adq) 1 c] 38)).alloc (.cells #[.int .u8 0, .slice none 0 0] 38) = w2 at *
    obtain ⟨p6, hp6⟩ : ∃ p6, p6 = w.heap.size + 1 := ⟨_, rfl⟩
    rw [← hp6] at hk6 ⊢
    obtain ⟨p3, hp3⟩ : ∃ p3, p3 = w.heap.size := ⟨_, rfl⟩
    rw [← hp3] at hk3 hp6 ⊢
    have HP6 := zaa.mk (show w.heap.size ≤ p6 by omega)
    have HB2 := zaa.mk hb
    have HK6 := zaa.mk hk6
    have HK3 := zaa.mk hk3
    have x30 : w2.cell? ⟨p3, 0, none⟩ = some (.int .u8 94) := (zad hk3 0).trans rfl
    have x31 : w2.cell? ⟨p3, 1, none⟩ = some (.slice (some adq) 1 c) := (zad hk3 1).trans rfl
    have x60 : w2.cell? ⟨p6, 0, none⟩ = some (.int .u8 0) := (zad hk6 0).trans rfl
    have f60 := zag hk6 0
    have x61 : w2.cell? ⟨p6, 1, none⟩ = some (.slice none 0 0) := (zad hk6 1).trans rfl
    have f61 := zag hk6 1
    clear hb hk3 hk6 hp6 hp3
    have HQ := zaa.mk (show TmV w2 (toS t) (toS t).f0 (.slice Aq (toS t).f1.length cq) from TmV.below ⟨rfl, Aq, cq, rfl, lq, hCq⟩ HB2.out)
    replace yq0 := zai HB2.out yq0
    replace yq1 := zai HB2.out yq1
    clear hC hl hCq lq er ea
    generalize (toS t).f0 = sq at *
    generalize (toS t).f1.length = nq at *
    go_wp2_with (first
     | (go_at_call 21; refine (HIh.out n false _ _ _ _ (by first | rfl | (rw [Int.tmod_eq_emod_of_nonneg (by omega)]; omega)) (by omega) HQ.out).mono ?_; rintro e w3 ⟨sr, Ar, nr, cr, rfl, hb, hT⟩; have hk6 := (hb.block p6 (zak HK6.out)).trans HK6.out; have HK63 := zaa.mk hk6; have HB3 := zaa.mk (zae HB2.out hb); have HT := zaa.mk hT; clear x60 x61 f60 f61 hb hT; have x60 : w3.cell? ⟨p6, 0, none⟩ = some (.int .u8 0) := (zad hk6 0).trans rfl; have x61 : w3.cell? ⟨p6, 1, none⟩ = some (.slice none 0 0) := (zad hk6 1).trans rfl; have f60 := zag hk6 0; have f61 := zag hk6 1; clear hk6))
    have x0 := zaw HK63.out (.int .u8 sr) (.slice Ar nr cr)
    have HBs := zaa.mk (show Below w.heap.size w ((w3.setCell ⟨p6, 0, none⟩ (.int .u8 sr)).setCell ⟨p6, 1, none⟩ (.slice Ar nr cr)) from zah (zah HB3.out (by have := HP6.out; omega)) (by have := HP6.out; omega))
    have HN := zaa.mk (show p6 < w2.heap.size ∧ w.heap.size ≤ w2.heap.size from ⟨zak HK6.out, HB2.out.size⟩)
    have HTt := zaa.mk ((HT.out.far (p := ⟨p6, 0, none⟩) (fun k hk => by have := HN.out; show k ≠ p6; omega) (.int .u8 sr)).far (p := ⟨p6, 1, none⟩) (fun k hk => by have := HN.out; show k ≠ p6; omega) (.slice Ar nr cr))
    generalize (w3.setCell ⟨p6, 0, none⟩ (.int .u8 sr)).setCell ⟨p6, 1, none⟩ (.slice Ar nr cr) = wz at *
    (try simp only [Exit.inBlock, Exit.then])
    refine bodyPost_ret (results_cell_row rfl _ _ p6 38 _ (0, 0) _ rfl x0 Try.underlying38 rfl (by kernel_rfl)) rfl ?_
    exact ⟨sr, _, _, _, rfl, HBs.out, HTt.out.mono (fun k hk => by have := HN.out; show w.heap.size ≤ k; omega)⟩
   | false =>
    go_enter Try.func21, Try.ntmps21
    go_upto_region 1 with (fail)
    have hb := zab (zab (Below.refl w.heap.size w) (.cells #[.int .u8 94, .slice (some adq) 1 c] 38)) (.cells #[.int .u8 0, .slice none 0 0] 38)
    have hk3 := heap_alloc2_old w (.cells #[.int .u8 94, .slice (some adq) 1 c] 38) (.cells #[.int .u8 0, .slice none 0 0] 38)
    have hk6 := heap_alloc2_new w (.cells #[.int .u8 94, .slice (some adq) 1 c] 38) (.cells #[.int .u8 0, .slice none 0 0] 38)
    generalize (w.alloc (.cells #[.int .u8 94, .slice (some adq) 1 c] 38)).alloc (.cells #[.int .u8 0, .slice none 0 0] 38) = w2 at *
    obtain ⟨p6, hp6⟩ : ∃ p6, p6 = w.heap.size + 1 := ⟨_, rfl⟩
    rw [← hp6] at hk6 ⊢
    obtain ⟨p3, hp3⟩ : ∃ p3, p3 = w.heap.size := ⟨_, rfl⟩
    rw [← hp3] at hk3 hp6 ⊢
    have HP6 := zaa.mk (show w.heap.size ≤ p6 by omega)
    have HB2 := zaa.mk hb
    have HK6 := zaa.mk hk6
    have HK3 := zaa.mk hk3
    have x30 : w2.cell? ⟨p3, 0, none⟩ = some (.int .u8 94) := (zad hk3 0).trans rfl
    have x31 : w2.cell? ⟨p3, 1, none⟩ = some (.slice (some adq) 1 c) := (zad hk3 1).trans rfl
    have x60 : w2.cell? ⟨p6, 0, none⟩ = some (.int .u8 0) := (zad hk6 0).trans rfl
    have f60 := zag hk6 0
    have x61 : w2.cell? ⟨p6, 1, none⟩ = some (.slice none 0 0) := (zad hk6 1).trans rfl
    have f61 := zag hk6 1
    clear hb hk3 hk6 hp6 hp3
    have HQ := zaa.mk (show TmV w2 (toS t) (toS t).f0 (.slice Aq (toS t).f1.length cq) from TmV.below ⟨rfl, Aq, cq, rfl, lq, hCq⟩ HB2.out)
    replace yq0 := zai HB2.out yq0
    replace yq1 := zai HB2.out yq1
    clear hC hl hCq lq er ea
    generalize (toS t).f0 = sq at *
    generalize (toS t).f1.length = nq at *
    go_wp2_with (first
     | (go_at_call 21; refine (HIh.out n true _ _ _ _ (by first | rfl | (rw [Int.tmod_eq_emod_of_nonneg (by omega)]; omega)) (by omega) HQ.out).mono ?_; rintro e w3 ⟨sr, Ar, nr, cr, rfl, hb, hT⟩; have hk6 := (hb.block p6 (zak HK6.out)).trans HK6.out; have HK63 := zaa.mk hk6; have HB3 := zaa.mk (zae HB2.out hb); have HT := zaa.mk hT; clear x60 x61 f60 f61 hb hT; have x60 : w3.cell? ⟨p6, 0, none⟩ = some (.int .u8 0) := (zad hk6 0).trans rfl; have x61 : w3.cell? ⟨p6, 1, none⟩ = some (.slice none 0 0) := (zad hk6 1).trans rfl; have f60 := zag hk6 0; have f61 := zag hk6 1; clear hk6))
    have x0 := zaw HK63.out (.int .u8 sr) (.slice Ar nr cr)
    have HBs := zaa.mk (show Below w.heap.size w ((w3.setCell ⟨p6, 0, none⟩ (.int .u8 sr)).setCell ⟨p6, 1, none⟩ (.slice Ar nr cr)) from zah (zah HB3.out (by have := HP6.out; omega)) (by have := HP6.out; omega))
    have HN := zaa.mk (show p6 < w2.heap.size ∧ w.heap.size ≤ w2.heap.size from ⟨zak HK6.out, HB2.out.size⟩)
    have HTt := zaa.mk ((HT.out.far (p := ⟨p6, 0, none⟩) (fun k hk => by have := HN.out; show k ≠ p6; omega) (.int .u8 sr)).far (p := ⟨p6, 1, none⟩) (fun k hk => by have := HN.out; show k ≠ p6; omega) (.slice Ar nr cr))
    generalize (w3.setCell ⟨p6, 0, none⟩ (.int .u8 sr)).setCell ⟨p6, 1, none⟩ (.slice Ar nr cr) = wz at *
    (try simp only [Exit.inBlock, Exit.then])
    refine bodyPost_ret (results_cell_row rfl _ _ p6 38 _ (0, 0) _ rfl x0 Try.underlying38 rfl (by kernel_rfl)) rfl ?_
    exact ⟨sr, _, _, _, rfl, HBs.out, HTt.out.mono (fun k hk => by have := HN.out; show w.heap.size ≤ k; omega)⟩
 | bin b t1 t2 ih1 ih2 =>
  intro n fl w sg v x hx hn hv
  obtain ⟨hsg0, A, c, e, hl, hC⟩ := hv
  have HIh1 := zaa.mk ih1
  have HIh2 := zaa.mk ih2
  clear ih1 ih2
  subst e hx
  replace hC : kT.C w A 2 [toS t1, toS t2] := hC
  obtain ⟨adq, Aq, cq, e, yq0, yq1, lq, hCq⟩ := at_T38 hC 0 (by omega) (by omega)
  obtain ⟨adr, Ar, cr, e2, yr0, yr1, lr, hCr⟩ := at_T38 hC 1 (by omega) (by omega)
  subst e
  injection e2 with e2
  subst e2
  have er : zas [toS t1, toS t2] 0 = toS t1 := rfl
  have er2 : zas [toS t1, toS t2] 1 = toS t2 := rfl
  rw [er] at yq0 yq1 lq hCq
  rw [er2] at yr0 yr1 lr hCr
  have ea : adq.add (Int.toNat 0 * 2) = adq := Addr.add_zero' adq
  rw [ea] at yq0 yq1
  replace yr0 : w.cell? (adq.add 2) = some (.int .u8 (toS t2).f0) := yr0
  have e3 : (⟨(adq.add 2).block, (adq.add 2).off + 1, none⟩ : Addr) = ⟨adq.block, adq.off + 2 + 1, none⟩ := by simp [Addr.add]
  replace yr1 : w.cell? ⟨(adq.add 2).block, (adq.add 2).off + 1, none⟩ = some (.slice Ar (toS t2).f1.length cr) := yr1
  rw [e3] at yr1
  have e4 : adq.add 2 = ⟨adq.block, adq.off + 2, none⟩ := by simp [Addr.add]
  rw [e4] at yr0
  clear e3 e4
  have hsg : sg = binC b := hsg0
  clear hsg0
  subst hsg
  have n0 : (0 : Int) ≤ (n : Int) := by omega
  show Calls Try.prog 21 #[.agg #[.int .u8 (binC b), .slice (some adq) 2 c], .int .i64 (n : Int), .bool fl] w _
  go_enter Try.func21, Try.ntmps21
  go_upto_region 1 with (fail)
  have hb := zab (zab (Below.refl w.heap.size w) (.cells #[.int .u8 (binC b), .slice (some adq) 2 c] 38)) (.cells #[.int .u8 0, .slice none 0 0] 38)
  have hk3 := heap_alloc2_old w (.cells #[.int .u8 (binC b), .slice (some adq) 2 c] 38) (.cells #[.int .u8 0, .slice none 0 0] 38)
  have hk6 := heap_alloc2_new w (.cells #[.int .u8 (binC b), .slice (some adq) 2 c] 38) (.cells #[.int .u8 0, .slice none 0 0] 38)
  generalize (w.alloc (.cells #[.int .u8 (binC b), .slice (some adq) 2 c] 38)).alloc (.cells #[.int .u8 0, .slice none 0 0] 38) = w2 at *
  obtain ⟨p6, hp6⟩ : ∃ p6, p6 = w.heap.size + 1 := ⟨_, rfl⟩
  rw [← hp6] at hk6 ⊢
  obtain ⟨p3, hp3⟩ : ∃ p3, p3 = w.heap.size := ⟨_, rfl⟩
  rw [← hp3] at hk3 hp6 ⊢
  have HP6 := zaa.mk (show w.heap.size ≤ p6 by omega)
  have HB2 := zaa.mk hb
  have HK6 := zaa.mk hk6
  have HK3 := zaa.mk hk3
  have x30 : w2.cell? ⟨p3, 0, none⟩ = some (.int .u8 (binC b)) := (zad hk3 0).trans rfl
  have x31 : w2.cell? ⟨p3, 1, none⟩ = some (.slice (some adq) 2 c) := (zad hk3 1).trans rfl
  have x60 : w2.cell? ⟨p6, 0, none⟩ = some (.int .u8 0) := (zad hk6 0).trans rfl
  have f60 := zag hk6 0
  have x61 : w2.cell? ⟨p6, 1, none⟩ = some (.slice none 0 0) := (zad hk6 1).trans rfl
  have f61 := zag hk6 1
  clear hb hk3 hk6 hp6 hp3
  have HQ1 := zaa.mk (show TmV w2 (toS t1) (toS t1).f0 (.slice Aq (toS t1).f1.length cq) from TmV.below ⟨rfl, Aq, cq, rfl, lq, hCq⟩ HB2.out)
  have HQ2 := zaa.mk (show TmV w2 (toS t2) (toS t2).f0 (.slice Ar (toS t2).f1.length cr) from TmV.below ⟨rfl, Ar, cr, rfl, lr, hCr⟩ HB2.out)
  replace yq0 := zai HB2.out yq0
  replace yq1 := zai HB2.out yq1
  replace yr0 := zai HB2.out yr0
  replace yr1 := zai HB2.out yr1
  clear hC hl hCq lq er ea hCr lr er2
  have b1 : (binC b == 62) = false := by cases b <;> rfl
  have b2 : (binC b == 94) = false := by cases b <;> rfl
  have b3 : (binC b == 111) = false := by cases b <;> rfl
  have b4 : (binC b == 124) = b := by cases b <;> rfl
  generalize (toS t1).f0 = sq at *
  generalize (toS t1).f1.length = nq at *
  generalize (toS t2).f0 = sr at *
  generalize (toS t2).f1.length = nr at *
  generalize hcb : binC b = cb at *
  have HCb := zaa.mk hcb
  clear hcb
  go_upto_region 12 with (first
   | (go_at_call 21; refine (HIh1.out n fl _ _ _ _ rfl hn HQ1.out).mono ?_; rintro e w3 ⟨sa, Aa, na, ca, rfl, hb, hT⟩; have HB3 := zaa.mk hb; have HTa := zaa.mk hT; clear hb hT))
  have hb := zab (Below.refl w3.heap.size w3) (.cells #[.int .u8 sa, .slice Aa na ca] 38)
  have hk := heap_alloc_new w3 (.cells #[.int .u8 sa, .slice Aa na ca] 38)
  generalize w3.alloc (.cells #[.int .u8 sa, .slice Aa na ca] 38) = w4 at *
  obtain ⟨p8, hp⟩ : ∃ p8, p8 = w3.heap.size := ⟨_, rfl⟩
  rw [← hp] at hk ⊢
  have Hp8 := zaa.mk hp
  have HAw4 := zaa.mk hb
  have HKp8 := zaa.mk hk
  clear hb hk hp
  have hb24 := zae HB3.out HAw4.out
  have HB24 := zaa.mk hb24
  have hk6 := (hb24.block p6 (zak HK6.out)).trans HK6.out
  have hk3 := (hb24.block p3 (zak HK3.out)).trans HK3.out
  have HK64 := zaa.mk hk6
  have HK34 := zaa.mk hk3
  clear x30 x31 x60 x61 f60 f61
  replace yr0 := zai hb24 yr0
  replace yr1 := zai hb24 yr1
  clear yq0 yq1 hb24
  have x30 : w4.cell? ⟨p3, 0, none⟩ = some (.int .u8 cb) := (zad hk3 0).trans rfl
  have x31 : w4.cell? ⟨p3, 1, none⟩ = some (.slice (some adq) 2 c) := (zad hk3 1).trans rfl
  have x60 : w4.cell? ⟨p6, 0, none⟩ = some (.int .u8 0) := (zad hk6 0).trans rfl
  have f60 := zag hk6 0
  have x61 : w4.cell? ⟨p6, 1, none⟩ = some (.slice none 0 0) := (zad hk6 1).trans rfl
  have f61 := zag hk6 1
  clear hk6 hk3
  go_upto_region 13 with (first
   | (go_at_call 21; refine (HIh2.out n fl _ _ _ _ rfl hn (HQ2.out.below HB24.out)).mono ?_; rintro e w5 ⟨sb, Ab, nb, cb2, rfl, hb, hT⟩; have HB5 := zaa.mk hb; have HTb := zaa.mk hT; clear hb hT))
  have hb := zab (Below.refl w5.heap.size w5) (.cells #[.int .u8 sb, .slice Ab nb cb2] 38)
  have hk := heap_alloc_new w5 (.cells #[.int .u8 sb, .slice Ab nb cb2] 38)
  generalize w5.alloc (.cells #[.int .u8 sb, .slice Ab nb cb2] 38) = w6 at *
  obtain ⟨p9, hp⟩ : ∃ p9, p9 = w5.heap.size := ⟨_, rfl⟩
  rw [← hp] at hk ⊢
  have Hp9 := zaa.mk hp
  have HAw6 := zaa.mk hb
  have HKp9 := zaa.mk hk
  clear hb hk hp
  have hb46 := zae HB5.out HAw6.out
  have HB46 := zaa.mk hb46
  have hk6 := (hb46.block p6 (zak HK64.out)).trans HK64.out
  have hk3 := (hb46.block p3 (zak HK34.out)).trans HK34.out
  have hk8 := (hb46.block p8 (zak HKp8.out)).trans HKp8.out
  have HK66 := zaa.mk hk6
  have HK86 := zaa.mk hk8
  have HB6 := zaa.mk (zae (zae HB2.out HB24.out) HB46.out)
  clear x30 x31 x60 x61 f60 f61 yr0 yr1 hb46
  clear hk6 hk3 hk8
  have HDef := zaa.mk (show zby (.bin b t1 t2) n fl = if (rotN n (b, fl && b)).2 then .bin (rotN n (b, fl && b)).1 (zby t2 n fl) (zby t1 n fl) else .bin (rotN n (b, fl && b)).1 (zby t1 n fl) (zby t2 n fl) from rfl)
  cases fl with
  | true =>
   go_upto_region 15 with (fail)
   go_loopg [7, 10, 11] n (fun kq v7 v10 v11 w' => ∃ (i : Nat) (s' sw : Bool), v7 = .int .u8 (binC s') ∧ v10 = .bool sw ∧ v11 = .int .i64 (i : Int) ∧ zaa (i + kq = n) ∧ zaa (rotN (n - i) (s', sw) = rotN n (b, true && b)) ∧ zaa (Below w6.heap.size w6 w'))
   case atStart => exact ⟨0, b, true && b, by rw [HCb.out], rfl, rfl, ⟨by omega⟩, ⟨rfl⟩, ⟨Below.refl _ _⟩⟩
   case round =>
    obtain ⟨i, s', sw, rfl, rfl, rfl, HI, HRt, HBl⟩ := hrel
    by_cases hin : i < n
    ·have hlt : (i : Int) < (n : Int) := by omega
     cases s' with
     | true =>
      have d : (binC true == 124) = true := rfl
      go_wp2
      go_roundg (n - (i + 1))
      case measure => have := HI.out; omega
      case rel => exact ⟨i + 1, false, sw, rfl, rfl, by first | rfl | (congr 1; omega), ⟨by have := HI.out; omega⟩, ⟨by have h := HRt.out; rw [show n - i = (n - (i + 1)) + 1 by omega] at h; exact h⟩, ⟨HBl.out⟩⟩
     | false =>
      have d : (binC false == 124) = false := rfl
      go_wp2
      go_roundg (n - (i + 1))
      case measure => have := HI.out; omega
      case rel => exact ⟨i + 1, true, !sw, rfl, rfl, by first | rfl | (congr 1; omega), ⟨by have := HI.out; omega⟩, ⟨by have h := HRt.out; rw [show n - i = (n - (i + 1)) + 1 by omega] at h; exact h⟩, ⟨HBl.out⟩⟩
    ·have hge : ¬ (i : Int) < (n : Int) := by omega
     have HRt' := zaa.mk (show (s', sw) = rotN n (b, true && b) by have h := HRt.out; rw [show n - i = 0 by omega] at h; exact h)
     have hk6 := (HBl.out.block p6 (zak HK66.out)).trans HK66.out
     have hk8 := (HBl.out.block p8 (zak HK86.out)).trans HK86.out
     have hk9 := (HBl.out.block p9 (zak HKp9.out)).trans HKp9.out
     have HK67 := zaa.mk hk6
     have x60 : wr.cell? ⟨p6, 0, none⟩ = some (.int .u8 0) := (zad hk6 0).trans rfl
     have f60 := zag hk6 0
     have x61 : wr.cell? ⟨p6, 1, none⟩ = some (.slice none 0 0) := (zad hk6 1).trans rfl
     have f61 := zag hk6 1
     have x80 : wr.cell? ⟨p8, 0, none⟩ = some (.int .u8 sa) := (zad hk8 0).trans rfl
     have x81 : wr.cell? ⟨p8, 1, none⟩ = some (.slice Aa na ca) := (zad hk8 1).trans rfl
     have x90 : wr.cell? ⟨p9, 0, none⟩ = some (.int .u8 sb) := (zad hk9 0).trans rfl
     have x91 : wr.cell? ⟨p9, 1, none⟩ = some (.slice Ab nb cb2) := (zad hk9 1).trans rfl
     clear hk6 hk8 hk9
     cases sw with
     | true =>
      go_wp2_with (first
       | ((with_reducible refine zba (N := 82) rfl ?_); refine zbd ?hg (N := 82) ?hd (n := 2) (cs := #[.int .u8 sb, .slice Ab nb cb2, .int .u8 sa, .slice Aa na ca]) (t := 38) ?hr ?_; (case hd => rfl); (case hg => rfl); (case hr => first | (go_simp; done) | (go_simp; rfl)); intro pb hpb w8 hk hb; have Hpb := zaa.mk hpb; have HAw8 := zaa.mk hb; have HKpb := zaa.mk hk; have hk6 := (hb.block p6 (zak HK67.out)).trans HK67.out; have HK68 := zaa.mk hk6; clear x60 x61 f60 f61 hb hk hpb; have x60 : w8.cell? ⟨p6, 0, none⟩ = some (.int .u8 0) := (zad hk6 0).trans rfl; have x61 : w8.cell? ⟨p6, 1, none⟩ = some (.slice none 0 0) := (zad hk6 1).trans rfl; have f60 := zag hk6 0; have f61 := zag hk6 1; clear hk6))
      have x0 := zaw HK68.out (.int .u8 (binC s')) (.slice (some ⟨pb, 0, none⟩) 2 2)
      have HBs := zaa.mk (show Below w.heap.size w ((w8.setCell ⟨p6, 0, none⟩ (.int .u8 (binC s'))).setCell ⟨p6, 1, none⟩ (.slice (some ⟨pb, 0, none⟩) 2 2)) from zah (zah (zae (zae HB6.out HBl.out) HAw8.out) (by have := HP6.out; omega)) (by have := HP6.out; omega))
      have HN := zaa.mk (show p6 < w2.heap.size ∧ w2.heap.size ≤ w3.heap.size ∧ w3.heap.size ≤ w4.heap.size ∧ w4.heap.size ≤ w5.heap.size ∧ w5.heap.size ≤ w6.heap.size ∧ w6.heap.size ≤ wr.heap.size ∧ pb = wr.heap.size ∧ w.heap.size ≤ p6 ∧ w.heap.size ≤ w2.heap.size from ⟨zak HK6.out, HB3.out.size, HAw4.out.size, HB5.out.size, HAw6.out.size, HBl.out.size, Hpb.out, HP6.out, HB2.out.size⟩)
      have HKb := zaa.mk (show ((w8.setCell ⟨p6, 0, none⟩ (.int .u8 (binC s'))).setCell ⟨p6, 1, none⟩ (.slice (some ⟨pb, 0, none⟩) 2 2)).heap[pb]? = some (.cells #[.int .u8 sb, .slice Ab nb cb2, .int .u8 sa, .slice Aa na ca] 38 (0, 0)) from (Below.heap_setCell _ ⟨p6, 1, none⟩ _ pb (by have := HN.out; show pb ≠ p6; omega)).trans ((Below.heap_setCell w8 ⟨p6, 0, none⟩ _ pb (by have := HN.out; show pb ≠ p6; omega)).trans HKpb.out))
      have HTa2 := zaa.mk (show TmF ((w8.setCell ⟨p6, 0, none⟩ (.int .u8 (binC s'))).setCell ⟨p6, 1, none⟩ (.slice (some ⟨pb, 0, none⟩) 2 2)) (fun k => w2.heap.size ≤ k) (toS (zby t1 n true)) sa (.slice Aa na ca) from (((((HTa.out.below HAw4.out).below HB46.out).below HBl.out).below HAw8.out).far (p := ⟨p6, 0, none⟩) (fun k hk => by have := HN.out; show k ≠ p6; omega) _).far (p := ⟨p6, 1, none⟩) (fun k hk => by have := HN.out; show k ≠ p6; omega) _)
      have HTb2 := zaa.mk (show TmF ((w8.setCell ⟨p6, 0, none⟩ (.int .u8 (binC s'))).setCell ⟨p6, 1, none⟩ (.slice (some ⟨pb, 0, none⟩) 2 2)) (fun k => w4.heap.size ≤ k) (toS (zby t2 n true)) sb (.slice Ab nb cb2) from ((((HTb.out.below HAw6.out).below HBl.out).below HAw8.out).far (p := ⟨p6, 0, none⟩) (fun k hk => by have := HN.out; show k ≠ p6; omega) _).far (p := ⟨p6, 1, none⟩) (fun k hk => by have := HN.out; show k ≠ p6; omega) _)
      generalize (w8.setCell ⟨p6, 0, none⟩ (.int .u8 (binC s'))).setCell ⟨p6, 1, none⟩ (.slice (some ⟨pb, 0, none⟩) 2 2) = wz at *
      (try simp only [Exit.inBlock, Exit.then])
      refine bodyPost_ret (results_cell_row rfl _ _ p6 38 _ (0, 0) _ rfl x0 Try.underlying38 rfl (by kernel_rfl)) rfl ?_
      have hde := HDef.out
      rw [← HRt'.out] at hde
      rw [if_pos rfl] at hde
      rw [hde]
      exact ⟨binC s', _, 2, 2, rfl, HBs.out, TmF.two HKb.out (by have := HN.out; show w.heap.size ≤ pb; omega) (HTb2.out.mono (fun k hk => by have := HN.out; show w.heap.size ≤ k; omega)) (HTa2.out.mono (fun k hk => by have := HN.out; show w.heap.size ≤ k; omega))⟩
     | false =>
      go_wp2_with (first
       | ((with_reducible refine zba (N := 87) rfl ?_); refine zbd ?hg (N := 87) ?hd (n := 2) (cs := #[.int .u8 sa, .slice Aa na ca, .int .u8 sb, .slice Ab nb cb2]) (t := 38) ?hr ?_; (case hd => rfl); (case hg => rfl); (case hr => first | (go_simp; done) | (go_simp; rfl)); intro pb hpb w8 hk hb; have Hpb := zaa.mk hpb; have HAw8 := zaa.mk hb; have HKpb := zaa.mk hk; have hk6 := (hb.block p6 (zak HK67.out)).trans HK67.out; have HK68 := zaa.mk hk6; clear x60 x61 f60 f61 hb hk hpb; have x60 : w8.cell? ⟨p6, 0, none⟩ = some (.int .u8 0) := (zad hk6 0).trans rfl; have x61 : w8.cell? ⟨p6, 1, none⟩ = some (.slice none 0 0) := (zad hk6 1).trans rfl; have f60 := zag hk6 0; have f61 := zag hk6 1; clear hk6))
      have x0 := zaw HK68.out (.int .u8 (binC s')) (.slice (some ⟨pb, 0, none⟩) 2 2)
      have HBs := zaa.mk (show Below w.heap.size w ((w8.setCell ⟨p6, 0, none⟩ (.int .u8 (binC s'))).setCell ⟨p6, 1, none⟩ (.slice (some ⟨pb, 0, none⟩) 2 2)) from zah (zah (zae (zae HB6.out HBl.out) HAw8.out) (by have := HP6.out; omega)) (by have := HP6.out; omega))
      have HN := zaa.mk (show p6 < w2.heap.size ∧ w2.heap.size ≤ w3.heap.size ∧ w3.heap.size ≤ w4.heap.size ∧ w4.heap.size ≤ w5.heap.size ∧ w5.heap.size ≤ w6.heap.size ∧ w6.heap.size ≤ wr.heap.size ∧ pb = wr.heap.size ∧ w.heap.size ≤ p6 ∧ w.heap.size ≤ w2.heap.size from ⟨zak HK6.out, HB3.out.size, HAw4.out.size, HB5.out.size, HAw6.out.size, HBl.out.size, Hpb.out, HP6.out, HB2.out.size⟩)
      have HKb := zaa.mk (show ((w8.setCell ⟨p6, 0, none⟩ (.int .u8 (binC s'))).setCell ⟨p6, 1, none⟩ (.slice (some ⟨pb, 0, none⟩) 2 2)).heap[pb]? = some (.cells #[.int .u8 sa, .slice Aa na ca, .int .u8 sb, .slice Ab nb cb2] 38 (0, 0)) from (Below.heap_setCell _ ⟨p6, 1, none⟩ _ pb (by have := HN.out; show pb ≠ p6; omega)).trans ((Below.heap_setCell w8 ⟨p6, 0, none⟩ _ pb (by have := HN.out; show pb ≠ p6; omega)).trans HKpb.out))
      have HTa2 := zaa.mk (show TmF ((w8.setCell ⟨p6, 0, none⟩ (.int .u8 (binC s'))).setCell ⟨p6, 1, none⟩ (.slice (some ⟨pb, 0, none⟩) 2 2)) (fun k => w2.heap.size ≤ k) (toS (zby t1 n true)) sa (.slice Aa na ca) from (((((HTa.out.below HAw4.out).below HB46.out).below HBl.out).below HAw8.out).far (p := ⟨p6, 0, none⟩) (fun k hk => by have := HN.out; show k ≠ p6; omega) _).far (p := ⟨p6, 1, none⟩) (fun k hk => by have := HN.out; show k ≠ p6; omega) _)
      have HTb2 := zaa.mk (show TmF ((w8.setCell ⟨p6, 0, none⟩ (.int .u8 (binC s'))).setCell ⟨p6, 1, none⟩ (.slice (some ⟨pb, 0, none⟩) 2 2)) (fun k => w4.heap.size ≤ k) (toS (zby t2 n true)) sb (.slice Ab nb cb2) from ((((HTb.out.below HAw6.out).below HBl.out).below HAw8.out).far (p := ⟨p6, 0, none⟩) (fun k hk => by have := HN.out; show k ≠ p6; omega) _).far (p := ⟨p6, 1, none⟩) (fun k hk => by have := HN.out; show k ≠ p6; omega) _)
      generalize (w8.setCell ⟨p6, 0, none⟩ (.int .u8 (binC s'))).setCell ⟨p6, 1, none⟩ (.slice (some ⟨pb, 0, none⟩) 2 2) = wz at *
      (try simp only [Exit.inBlock, Exit.then])
      refine bodyPost_ret (results_cell_row rfl _ _ p6 38 _ (0, 0) _ rfl x0 Try.underlying38 rfl (by kernel_rfl)) rfl ?_
      have hde := HDef.out
      rw [← HRt'.out] at hde
      rw [if_neg (by simp)] at hde
      rw [hde]
      exact ⟨binC s', _, 2, 2, rfl, HBs.out, TmF.two HKb.out (by have := HN.out; show w.heap.size ≤ pb; omega) (HTa2.out.mono (fun k hk => by have := HN.out; show w.heap.size ≤ k; omega)) (HTb2.out.mono (fun k hk => by have := HN.out; show w.heap.size ≤ k; omega))⟩
  | false =>
   go_upto_region 15 with (fail)
   go_loopg [7, 10, 11] n (fun kq v7 v10 v11 w' => ∃ (i : Nat) (s' sw : Bool), v7 = .int .u8 (binC s') ∧ v10 = .bool sw ∧ v11 = .int .i64 (i : Int) ∧ zaa (i + kq = n) ∧ zaa (rotN (n - i) (s', sw) = rotN n (b, false && b)) ∧ zaa (Below w6.heap.size w6 w'))
   case atStart => exact ⟨0, b, false && b, by rw [HCb.out], rfl, rfl, ⟨by omega⟩, ⟨rfl⟩, ⟨Below.refl _ _⟩⟩
   case round =>
    obtain ⟨i, s', sw, rfl, rfl, rfl, HI, HRt, HBl⟩ := hrel
    by_cases hin : i < n
    ·have hlt : (i : Int) < (n : Int) := by omega
     cases s' with
     | true =>
      have d : (binC true == 124) = true := rfl
      go_wp2
      go_roundg (n - (i + 1))
      case measure => have := HI.out; omega
      case rel => exact ⟨i + 1, false, sw, rfl, rfl, by first | rfl | (congr 1; omega), ⟨by have := HI.out; omega⟩, ⟨by have h := HRt.out; rw [show n - i = (n - (i + 1)) + 1 by omega] at h; exact h⟩, ⟨HBl.out⟩⟩
     | false =>
      have d : (binC false == 124) = false := rfl
      go_wp2
      go_roundg (n - (i + 1))
      case measure => have := HI.out; omega
      case rel => exact ⟨i + 1, true, !sw, rfl, rfl, by first | rfl | (congr 1; omega), ⟨by have := HI.out; omega⟩, ⟨by have h := HRt.out; rw [show n - i = (n - (i + 1)) + 1 by omega] at h; exact h⟩, ⟨HBl.out⟩⟩
    ·have hge : ¬ (i : Int) < (n : Int) := by omega
     have HRt' := zaa.mk (show (s', sw) = rotN n (b, false && b) by have h := HRt.out; rw [show n - i = 0 by omega] at h; exact h)
     have hk6 := (HBl.out.block p6 (zak HK66.out)).trans HK66.out
     have hk8 := (HBl.out.block p8 (zak HK86.out)).trans HK86.out
     have hk9 := (HBl.out.block p9 (zak HKp9.out)).trans HKp9.out
     have HK67 := zaa.mk hk6
     have x60 : wr.cell? ⟨p6, 0, none⟩ = some (.int .u8 0) := (zad hk6 0).trans rfl
     have f60 := zag hk6 0
     have x61 : wr.cell? ⟨p6, 1, none⟩ = some (.slice none 0 0) := (zad hk6 1).trans rfl
     have f61 := zag hk6 1
     have x80 : wr.cell? ⟨p8, 0, none⟩ = some (.int .u8 sa) := (zad hk8 0).trans rfl
     have x81 : wr.cell? ⟨p8, 1, none⟩ = some (.slice Aa na ca) := (zad hk8 1).trans rfl
     have x90 : wr.cell? ⟨p9, 0, none⟩ = some (.int .u8 sb) := (zad hk9 0).trans rfl
     have x91 : wr.cell? ⟨p9, 1, none⟩ = some (.slice Ab nb cb2) := (zad hk9 1).trans rfl
     clear hk6 hk8 hk9
     cases sw with
     | true =>
      go_wp2_with (first
       | ((with_reducible refine zba (N := 82) rfl ?_); refine zbd ?hg (N := 82) ?hd (n := 2) (cs := #[.int .u8 sb, .slice Ab nb cb2, .int .u8 sa, .slice Aa na ca]) (t := 38) ?hr ?_; (case hd => rfl); (case hg => rfl); (case hr => first | (go_simp; done) | (go_simp; rfl)); intro pb hpb w8 hk hb; have Hpb := zaa.mk hpb; have HAw8 := zaa.mk hb; have HKpb := zaa.mk hk; have hk6 := (hb.block p6 (zak HK67.out)).trans HK67.out; have HK68 := zaa.mk hk6; clear x60 x61 f60 f61 hb hk hpb; have x60 : w8.cell? ⟨p6, 0, none⟩ = some (.int .u8 0) := (zad hk6 0).trans rfl; have x61 : w8.cell? ⟨p6, 1, none⟩ = some (.slice none 0 0) := (zad hk6 1).trans rfl; have f60 := zag hk6 0; have f61 := zag hk6 1; clear hk6))
      have x0 := zaw HK68.out (.int .u8 (binC s')) (.slice (some ⟨pb, 0, none⟩) 2 2)
      have HBs := zaa.mk (show Below w.heap.size w ((w8.setCell ⟨p6, 0, none⟩ (.int .u8 (binC s'))).setCell ⟨p6, 1, none⟩ (.slice (some ⟨pb, 0, none⟩) 2 2)) from zah (zah (zae (zae HB6.out HBl.out) HAw8.out) (by have := HP6.out; omega)) (by have := HP6.out; omega))
      have HN := zaa.mk (show p6 < w2.heap.size ∧ w2.heap.size ≤ w3.heap.size ∧ w3.heap.size ≤ w4.heap.size ∧ w4.heap.size ≤ w5.heap.size ∧ w5.heap.size ≤ w6.heap.size ∧ w6.heap.size ≤ wr.heap.size ∧ pb = wr.heap.size ∧ w.heap.size ≤ p6 ∧ w.heap.size ≤ w2.heap.size from ⟨zak HK6.out, HB3.out.size, HAw4.out.size, HB5.out.size, HAw6.out.size, HBl.out.size, Hpb.out, HP6.out, HB2.out.size⟩)
      have HKb := zaa.mk (show ((w8.setCell ⟨p6, 0, none⟩ (.int .u8 (binC s'))).setCell ⟨p6, 1, none⟩ (.slice (some ⟨pb, 0, none⟩) 2 2)).heap[pb]? = some (.cells #[.int .u8 sb, .slice Ab nb cb2, .int .u8 sa, .slice Aa na ca] 38 (0, 0)) from (Below.heap_setCell _ ⟨p6, 1, none⟩ _ pb (by have := HN.out; show pb ≠ p6; omega)).trans ((Below.heap_setCell w8 ⟨p6, 0, none⟩ _ pb (by have := HN.out; show pb ≠ p6; omega)).trans HKpb.out))
      have HTa2 := zaa.mk (show TmF ((w8.setCell ⟨p6, 0, none⟩ (.int .u8 (binC s'))).setCell ⟨p6, 1, none⟩ (.slice (some ⟨pb, 0, none⟩) 2 2)) (fun k => w2.heap.size ≤ k) (toS (zby t1 n false)) sa (.slice Aa na ca) from (((((HTa.out.below HAw4.out).below HB46.out).below HBl.out).below HAw8.out).far (p := ⟨p6, 0, none⟩) (fun k hk => by have := HN.out; show k ≠ p6; omega) _).far (p := ⟨p6, 1, none⟩) (fun k hk => by have := HN.out; show k ≠ p6; omega) _)
      have HTb2 := zaa.mk (show TmF ((w8.setCell ⟨p6, 0, none⟩ (.int .u8 (binC s'))).setCell ⟨p6, 1, none⟩ (.slice (some ⟨pb, 0, none⟩) 2 2)) (fun k => w4.heap.size ≤ k) (toS (zby t2 n false)) sb (.slice Ab nb cb2) from ((((HTb.out.below HAw6.out).below HBl.out).below HAw8.out).far (p := ⟨p6, 0, none⟩) (fun k hk => by have := HN.out; show k ≠ p6; omega) _).far (p := ⟨p6, 1, none⟩) (fun k hk => by have := HN.out; show k ≠ p6; omega) _)
      generalize (w8.setCell ⟨p6, 0, none⟩ (.int .u8 (binC s'))).setCell ⟨p6, 1, none⟩ (.slice (some ⟨pb, 0, none⟩) 2 2) = wz at *
      (try simp only [Exit.inBlock, Exit.then])
      refine bodyPost_ret (results_cell_row rfl _ _ p6 38 _ (0, 0) _ rfl x0 Try.underlying38 rfl (by kernel_rfl)) rfl ?_
      have hde := HDef.out
      rw [← HRt'.out] at hde
      rw [if_pos rfl] at hde
      rw [hde]
      exact ⟨binC s', _, 2, 2, rfl, HBs.out, TmF.two HKb.out (by have := HN.out; show w.heap.size ≤ pb; omega) (HTb2.out.mono (fun k hk => by have := HN.out; show w.heap.size ≤ k; omega)) (HTa2.out.mono (fun k hk => by have := HN.out; show w.heap.size ≤ k; omega))⟩
     | false =>
      go_wp2_with (first
       | ((with_reducible refine zba (N := 87) rfl ?_); refine zbd ?hg (N := 87) ?hd (n := 2) (cs := #[.int .u8 sa, .slice Aa na ca, .int .u8 sb, .slice Ab nb cb2]) (t := 38) ?hr ?_; (case hd => rfl); (case hg => rfl); (case hr => first | (go_simp; done) | (go_simp; rfl)); intro pb hpb w8 hk hb; have Hpb := zaa.mk hpb; have HAw8 := zaa.mk hb; have HKpb := zaa.mk hk; have hk6 := (hb.block p6 (zak HK67.out)).trans HK67.out; have HK68 := zaa.mk hk6; clear x60 x61 f60 f61 hb hk hpb; have x60 : w8.cell? ⟨p6, 0, none⟩ = some (.int .u8 0) := (zad hk6 0).trans rfl; have x61 : w8.cell? ⟨p6, 1, none⟩ = some (.slice none 0 0) := (zad hk6 1).trans rfl; have f60 := zag hk6 0; have f61 := zag hk6 1; clear hk6))
      have x0 := zaw HK68.out (.int .u8 (binC s')) (.slice (some ⟨pb, 0, none⟩) 2 2)
      have HBs := zaa.mk (show Below w.heap.size w ((w8.setCell ⟨p6, 0, none⟩ (.int .u8 (binC s'))).setCell ⟨p6, 1, none⟩ (.slice (some ⟨pb, 0, none⟩) 2 2)) from zah (zah (zae (zae HB6.out HBl.out) HAw8.out) (by have := HP6.out; omega)) (by have := HP6.out; omega))
      have HN := zaa.mk (show p6 < w2.heap.size ∧ w2.heap.size ≤ w3.heap.size ∧ w3.heap.size ≤ w4.heap.size ∧ w4.heap.size ≤ w5.heap.size ∧ w5.heap.size ≤ w6.heap.size ∧ w6.heap.size ≤ wr.heap.size ∧ pb = wr.heap.size ∧ w.heap.size ≤ p6 ∧ w.heap.size ≤ w2.heap.size from ⟨zak HK6.out, HB3.out.size, HAw4.out.size, HB5.out.size, HAw6.out.size, HBl.out.size, Hpb.out, HP6.out, HB2.out.size⟩)
      have HKb := zaa.mk (show ((w8.setCell ⟨p6, 0, none⟩ (.int .u8 (binC s'))).setCell ⟨p6, 1, none⟩ (.slice (some ⟨pb, 0, none⟩) 2 2)).heap[pb]? = some (.cells #[.int .u8 sa, .slice Aa na ca, .int .u8 sb, .slice Ab nb cb2] 38 (0, 0)) from (Below.heap_setCell _ ⟨p6, 1, none⟩ _ pb (by have := HN.out; show pb ≠ p6; omega)).trans ((Below.heap_setCell w8 ⟨p6, 0, none⟩ _ pb (by have := HN.out; show pb ≠ p6; omega)).trans HKpb.out))
      have HTa2 := zaa.mk (show TmF ((w8.setCell ⟨p6, 0, none⟩ (.int .u8 (binC s'))).setCell ⟨p6, 1, none⟩ (.slice (some ⟨pb, 0, none⟩) 2 2)) (fun k => w2.heap.size ≤ k) (toS (zby t1 n false)) sa (.slice Aa na ca) from (((((HTa.out.below HAw4.out).below HB46.out).below HBl.out).below HAw8.out).far (p := ⟨p6, 0, none⟩) (fun k hk => by have := HN.out; show k ≠ p6; omega) _).far (p := ⟨p6, 1, none⟩) (fun k hk => by have := HN.out; show k ≠ p6; omega) _)
      have HTb2 := zaa.mk (show TmF ((w8.setCell ⟨p6, 0, none⟩ (.int .u8 (binC s'))).setCell ⟨p6, 1, none⟩ (.slice (some ⟨pb, 0, none⟩) 2 2)) (fun k => w4.heap.size ≤ k) (toS (zby t2 n false)) sb (.slice Ab nb cb2) from ((((HTb.out.below HAw6.out).below HBl.out).below HAw8.out).far (p := ⟨p6, 0, none⟩) (fun k hk => by have := HN.out; show k ≠ p6; omega) _).far (p := ⟨p6, 1, none⟩) (fun k hk => by have := HN.out; show k ≠ p6; omega) _)
      generalize (w8.setCell ⟨p6, 0, none⟩ (.int .u8 (binC s'))).setCell ⟨p6, 1, none⟩ (.slice (some ⟨pb, 0, none⟩) 2 2) = wz at *
      (try simp only [Exit.inBlock, Exit.then])
      refine bodyPost_ret (results_cell_row rfl _ _ p6 38 _ (0, 0) _ rfl x0 Try.underlying38 rfl (by kernel_rfl)) rfl ?_
      have hde := HDef.out
      rw [← HRt'.out] at hde
      rw [if_neg (by simp)] at hde
      rw [hde]
      exact ⟨binC s', _, 2, 2, rfl, HBs.out, TmF.two HKb.out (by have := HN.out; show w.heap.size ≤ pb; omega) (HTa2.out.mono (fun k hk => by have := HN.out; show w.heap.size ≤ k; omega)) (HTb2.out.mono (fun k hk => by have := HN.out; show w.heap.size ≤ k; omega))⟩
def zbj (l : List Int) (n : Nat) : List Int := l.map fun x => x + (n : Int)
def zbc : Tr → List Int
 | .o => [0]
 | .un _ t => zbc t
 | .bin true a b => zbc a ++ zbj (zbc b) (zbc a).length
 | .bin false a b => zbj (zbc b) (zbc a).length ++ zbc a
theorem zax (l : List Int) (n : Nat) : (zbj l n).length = l.length := by simp [zbj]
theorem zaz : ∀ t : Tr, (zbc t).length ≤ t.nodes ∧ 1 ≤ (zbc t).length
 | .o => ⟨Nat.le_refl _, Nat.le_refl _⟩
 | .un _ t => by have := zaz t; simp only [zbc, Tr.nodes]; omega
 | .bin true a b => by have := zaz a; have := zaz b; simp only [zbc, Tr.nodes, List.length_append, zax]; omega
 | .bin false a b => by have := zaz a; have := zaz b; simp only [zbc, Tr.nodes, List.length_append, zax]; omega
theorem moreL_range {l : List Int} {n m : Nat} (h : ∀ x ∈ l, 0 ≤ x ∧ x < (m : Int)) : ∀ x ∈ zbj l n, (n : Int) ≤ x ∧ x < ((n + m : Nat) : Int) := by
 intro x hx
 obtain ⟨y, hy, rfl⟩ := List.mem_map.1 hx
 have := h y hy
 omega
theorem zbw : ∀ (t : Tr), ∀ x ∈ zbc t, 0 ≤ x ∧ x < ((zbc t).length : Int)
 | .o, x, hx => by simp only [zbc, List.mem_singleton] at hx; subst hx; simp [zbc]
 | .un _ t, x, hx => zbw t x hx
 | .bin true a b, x, hx => by
  simp only [zbc, List.length_append, zax] at hx ⊢
  rcases List.mem_append.1 hx with h | h
  ·have := zbw a x h; omega
  ·have := moreL_range (zbw b) x h; omega
 | .bin false a b, x, hx => by
  simp only [zbc, List.length_append, zax] at hx ⊢
  rcases List.mem_append.1 hx with h | h
  ·have := moreL_range (zbw b) x h; omega
  ·have := zbw a x h; omega
theorem moreT_l0 (l : List Int) (n : Nat) (hl : l.length ≤ 100000) (hn : n ≤ 100000) (hx : ∀ x ∈ l, 0 ≤ x ∧ x ≤ 100000) : ∀ m i, i + m = l.length → Evs (fun k => spec_l6More.l0 k l (n : Int) (zbj (l.take i) n) (i : Int)) (zbj l n) := by
 intro m
 induction m with
 | zero =>
  intro i hi
  rw [List.take_of_length_le (by omega)]
  refine Evs.step (h := fun _ => some (zbj l n)) (fun k => ?_) (Evs.const _)
  conv => lhs; unfold spec_l6More.l0
  rw [if_neg (by omega)]
 | succ m ih =>
  intro i hi
  have hget : l[i]? = some l[i] := List.getElem?_eq_getElem (by omega)
  have hr := hx l[i] (List.getElem_mem (by omega))
  have hnx := ih (i + 1) (by omega)
  have e : zbj (l.take (i + 1)) n = zbj (l.take i) n ++ [l[i] + (n : Int)] := by
   unfold zbj
   rw [List.take_add_one, hget, List.map_append]
   rfl
  rw [e] at hnx
  have e1 : rd l (i : Int) = l[i] := by unfold rd; rw [Int.toNat_natCast, List.getD_eq_getElem?_getD, hget]; rfl
  have e2 : wrap64 ((i : Int) + 1) = ((i + 1 : Nat) : Int) := by rw [wrapT (by omega) (by omega)]; omega
  have e3 : wrap64 (l[i] + (n : Int)) = l[i] + (n : Int) := wrapT (by omega) (by omega)
  have hlen : (zbj (l.take i) n).length ≤ 100000 := by rw [zax, List.length_take]; omega
  refine Evs.step (h := fun k => spec_l6More.l0 k l (n : Int) (zbj (l.take i) n ++ [l[i] + (n : Int)]) ((i + 1 : Nat) : Int)) (fun k => ?_) hnx
  conv => lhs; unfold spec_l6More.l0
  rw [if_pos (by omega), if_pos (by omega), if_pos (by omega), e1, e2, e3]
theorem l6More_ev (l : List Int) (n : Nat) (hl : l.length ≤ 100000) (hn : n ≤ 100000) (hx : ∀ x ∈ l, 0 ≤ x ∧ x ≤ 100000) : Evs (fun k => spec_l6More.f k l (n : Int)) (zbj l n) := moreT_l0 l n hl hn hx l.length 0 (by omega)
theorem l11Perm_ev : ∀ t : Tr, t.tidy = true → t.nodes ≤ 10000 → Evs (fun k => spec_l11Perm.f k (toS t).f0 (toS t).f1) (zbc t)
 | .o, _, _ => by
  refine Evs.step (h := fun _ => some [0]) (fun k => ?_) (Evs.const _)
  conv => lhs; unfold spec_l11Perm.f
  exact if_pos rfl
 | .un _ t, h, _ => by cases h
 | .bin s a b, h, hn => by
  simp only [Tr.tidy, Bool.and_eq_true] at h
  simp only [Tr.nodes] at hn
  have ea := l11Perm_ev a h.1 (by omega)
  have eb := l11Perm_ev b h.2 (by omega)
  have la := zaz a
  have lb := zaz b
  have em := l6More_ev (zbc b) (zbc a).length (by omega) (by omega) (fun x hx => by have := zbw b x hx; omega)
  have hml := zax (zbc b) (zbc a).length
  refine Evs.stepNeg (fun k => by conv => lhs; unfold spec_l11Perm.f) (by show ¬ binC s = 111; cases s <;> decide) ?_
  refine Evs.pos (by show (0 : Int) < ((2 : Nat) : Int); omega) (Evs.bind ea (Evs.pos (by show (1 : Int) < ((2 : Nat) : Int); omega) (Evs.bind eb ?_)))
  cases s with
  | true =>
   refine Evs.pos (by rfl) (Evs.bindS rfl (Evs.pos (by simp; omega) (Evs.bindS rfl (Evs.bind em (Evs.pos (by simp; omega) ?_)))))
   exact Evs.const _
  | false =>
   refine Evs.neg (by show ¬ binC false = 124; decide) (Evs.bind em (Evs.pos (by omega) ?_))
   exact Evs.const _
theorem rdR_nodes : ∀ (f : Nat) (s : ByteArray) (i : Nat) (t : Tr) (e : Nat), rdR f s i = some (t, e) → i + t.nodes ≤ e
 | 0, s, i, t, e, h => by cases h
 | f + 1, s, i, t, e, h => by
  unfold rdR at h
  split at h
  ·cases h
  ·split at h
   ·injection h with h; injection h with h1 h2; subst h1; simp only [Tr.nodes]; omega
   ·split at h
    ·split at h
     ·cases h
     ·rename_i t' e' hr
      injection h with h; injection h with h1 h2
      have := rdR_nodes f s _ _ _ hr
      subst h1
      simp only [Tr.nodes]
      omega
    ·split at h
     ·cases h
     ·split at h
      ·cases h
      ·rename_i a m hr
       have h3 := rdR_nodes f s _ _ _ hr
       split at h
       ·cases h
       ·split at h
        ·cases h
        ·rename_i b e' hr2
         have h4 := rdR_nodes f s _ _ _ hr2
         split at h
         ·cases h
         ·injection h with h; injection h with h1 h2; subst h1; simp only [Tr.nodes]; omega
theorem ofR_nodes {s : ByteArray} {t : Tr} (h : ofR s = some t) : t.nodes ≤ 60 := by
 unfold ofR at h
 split at h
 ·cases h
 ·rename_i hn
  split at h
  ·cases h
  ·rename_i t' e' hr
   split at h
   ·rename_i he
    injection h with h
    subst h
    have := rdR_nodes _ _ _ _ _ hr
    omega
   ·cases h
def zar (s : ByteArray) : List Int × Bool := match ofR s with
 | none => ([], false)
 | some t => (zbc (tid t), true)
def spec_TermPerm.f (s : ByteArray) : Option (List Int × Bool) := if s.size ≤ 1048576 then some (zar s) else none
def PermRes (w : World) (r : List Int × Bool) (e : Ending) (w' : World) : Prop :=
 ∃ v0_ : Value, e = .returned (.tuple #[v0_, .bool r.2]) ∧ Kd.R (Kd.int .i64) 3 w' w.heap.size (fun _ => True) v0_ r.1 ∧ Below w.heap.size w w'
set_option maxHeartbeats 400000 in
set_option maxRecDepth 100000 in
theorem specPerm_calls (s : ByteArray) (hs : s.size ≤ 1048576) (w : World) : Calls Try.prog 7 #[.string s] w (PermRes w (zar s)) := by
 have HOf := zaa.mk (fun w => l11Of_calls s hs w)
 cases hof : ofR s with
 | none =>
  have HR := zaa.mk (show zar s = ([], false) by unfold zar; rw [hof])
  rw [hof] at HOf
  clear hof
  go_enter Try.func7, Try.ntmps7
  go_upto_region 3 with (first
   | (go_at_call 19; refine (HOf.out _).mono ?_; rintro e w2 ⟨sg, A, n, c, b, rfl, hb, hres⟩; replace hres : b = false := hres; subst hres; have HB2 := zaa.mk hb; clear hb))
  have hb := zab (Below.refl w2.heap.size w2) (.cells #[.int .u8 sg, .slice A n c] 38)
  generalize w2.alloc (.cells #[.int .u8 sg, .slice A n c] 38) = w3 at *
  have HB3 := zaa.mk (zae HB2.out hb)
  clear hb
  go_wp2_with (first
   | ((with_reducible refine zba (N := 13) rfl ?_); refine Kd.R_lit (Kd.int .i64) _ 3 ?hg (N := 13) ?hd (xs := ([] : List Int)) (inner := []) (ok := fun _ => True) (okp := fun _ => True) ?hr ?hp (fun _ hk => hk) trivial (Below.refl _ _) (Nat.le_refl _) (by simp) ?_; (case hd => rfl); (case hg => rfl); (case hr => first | (go_simp; done) | (go_simp; rfl)); (case hp => exact (Reps.none _ _)); intro v7 w4 ho4 hb4 hg_ hnew_; clear hg_ hnew_; have HO4 := zaa.mk (Kd.R_lower ho4 HB3.out.size); have HB4 := zaa.mk (zae HB3.out hb4); clear hb4 ho4))
  go_ret2
  rw [HR.out]
  exact ⟨_, rfl, HO4.out, HB4.out⟩
 | some t =>
  have HR := zaa.mk (show zar s = (zbc (tid t), true) by unfold zar; rw [hof])
  obtain ⟨K, hK⟩ := l11Perm_ev (tid t) (zcf t) (by have := ofR_nodes hof; have := zck t; omega)
  have HPe := zaa.mk (hK K (Nat.le_refl K))
  rw [hof] at HOf
  have hz := tidyR_zero t
  clear hof hK
  go_enter Try.func7, Try.ntmps7
  go_upto_region 4 with (first
   | (go_at_call 19; refine (HOf.out _).mono ?_; rintro e w2 ⟨sg, A, n, c, b, rfl, hb, hres⟩; replace hres : b = true ∧ TmF w2 (fun k => w.heap.size ≤ k) (toS t) sg (.slice A n c) := hres; obtain ⟨rfl, hT⟩ := hres; have HB2 := zaa.mk hb; have HT := zaa.mk hT; clear hb hT))
  have hb := zab (Below.refl w2.heap.size w2) (.cells #[.int .u8 sg, .slice A n c] 38)
  have hk := heap_alloc_new w2 (.cells #[.int .u8 sg, .slice A n c] 38)
  generalize w2.alloc (.cells #[.int .u8 sg, .slice A n c] 38) = w3 at *
  obtain ⟨p4, hp4⟩ : ∃ p4, p4 = w2.heap.size := ⟨_, rfl⟩
  rw [← hp4] at hk ⊢
  have x0 : w3.cell? ⟨p4, 0, none⟩ = some (.int .u8 sg) := (zad hk 0).trans rfl
  have x1 : w3.cell? ⟨p4, 1, none⟩ = some (.slice A n c) := (zad hk 1).trans rfl
  have HB3 := zaa.mk (zae HB2.out hb)
  have HT3 := zaa.mk (HT.out.below hb)
  have HTi := zaa.mk (l11Tidy_calls t 0 false w3 sg (.slice A n c) 0 rfl (by omega) HT3.out.now)
  rw [hz] at HTi
  clear hb hk hp4 hz
  go_wp2_with (first
   | (go_at_call 21; refine HTi.out.mono ?_; rintro e w5 ⟨sr, Ar, nr, cr, rfl, hb, hT⟩; obtain ⟨hsr, A', c', hv, hlc, hC⟩ := hT.now; injection hv with hv1 hv2 hv3; subst hv1 hv2 hv3 hsr; have HB5 := zaa.mk (zae HB3.out hb); have HC5 := zaa.mk hC; have HL5 := zaa.mk hlc; clear hb hT hC hlc)
   | (go_at_call 20; refine (spec_l11Perm.calls K _ _ _ _ _ _ HC5.out HL5.out HPe.out).mono ?_; rintro e w6 ⟨v6, rfl, hr, hb⟩; have HR6 := zaa.mk (Kd.R_lower hr HB5.out.size); have HB6 := zaa.mk (zae HB5.out hb); clear hb hr))
  go_ret2
  rw [HR.out]
  exact ⟨_, rfl, HR6.out, HB6.out⟩
theorem spec_TermPerm.calls (a0 : ByteArray) (r1 : List Int) (r2 : Bool) (w : World) (h : spec_TermPerm.f a0 = some (r1, r2)) :
  Calls Try.prog 7 #[.string a0] w fun e w' => ∃ v0_ : Value, e = .returned (.tuple #[v0_, .bool r2]) ∧ Kd.R (Kd.int .i64) 3 w' w.heap.size (fun _ => True) v0_ r1 ∧ Below w.heap.size w w' := by
 unfold spec_TermPerm.f at h
 split at h
 ·rename_i hs
  have e := Option.some.inj h
  have := specPerm_calls a0 hs w
  rw [e] at this
  exact this
 ·cases h
end Go.Proofs.Ytgiidlebnjbgeaa.Hd
