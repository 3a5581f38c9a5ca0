/- Part 2 of the proof of FnTight: what the program's functions and the reference's compute. -/
import Derived.Below
import Derived.Deep.Draws
import Derived.Deep.AppendLies
import Derived.Maps.AppendAt
import Derived.OwnWalk
import Derived.Laws.BytesArg
import Derived.Laws.MakeOwn
import Derived.Laws.OwnMore
import Derived.Deep.OwnRows
import Derived.Tactics
import Derived.Lib.ConvBytes
import Derived.Laws.Slices
import Derived.WalkKit
import Derived.KernelRfl
import Derived.RowKit3
import Derived.Deep.LoopGhost
import Derived.Deep.QuietTactic
import Derived.BigQuiet
import Derived.WideLaws
import Derived.Deep.DeepCutAuto
import Derived.Deep.CutBlock
import Derived.Deep.RegionHeld3
import Derived.Laws.Rows
import Derived.Lib.AppendStr
import Derived.ArgAppend
import Derived.Laws.IdiomCopy
import Derived.RowKit
import Derived.OrdersHeld
import Derived.Laws.BitsLemmas
import Derived.Laws.StructEq
import Derived.SizedLaws
import Derived.ChangeSlices
import Derived.Test.YtickdcegnlldjaaProg
import Derived.Maps.OwnSet
import Derived.Maps.Views
import Derived.Shelf.Strings.Builder1
import Derived.Lib.SliceRun
import Derived.Test.YtickdcegnlldjaaRows
import Derived.ProofKit
import Derived.OpenShut
import Derived.ShutString
import Derived.ChangeOld
import Derived.Test.YtickdcegnlldjaaCPTIa
set_option linter.unusedSimpArgs false
set_option linter.unusedVariables false
open List renaming map_toArray → yaa, map_cons → yab, map_nil → yac, length_take → yad, length_drop → yae
open ByteArray renaming empty → yaf
open Option renaming bind_eq_some_iff → yag, bind_some → yah
open Nat renaming le_refl → yai
open Go.PW.PrintWords.Kd renaming R_alloc → yaj, R_drewN → yak, R_drew → yal, C_alloc → yam, C_drewN → yan, C_drew → yao
namespace Go.Proofs.Ytickdcegnlldjaa.PB
open Go.RowKit Go.PW.PrintWords Go.PW.PrintLast Go.PW.PrintMore
attribute [local go_sem] zce zcc zcq zcp zbv zbu zcd zcb   -- for this text's walks alone
def errW : Option Int → Value
 | none => .nilIface
 | some c => .iface 0 (.int .i64 c)
theorem zap : errW none = .nilIface := rfl
theorem zao (c : Int) : errW (some c) = .iface 0 (.int .i64 c) := rfl
theorem info3 : (Try.prog.info? 3).map (fun i => (i.zero, i.size, i.bytes)) = some (some (.int .i64 0), 1, 8) := by kernel_rfl
theorem info5 : (Try.prog.info? 5).map (fun i => (i.zero, i.size, i.bytes)) = some (some (.int .u8 0), 1, 1) := by kernel_rfl
theorem info9 : (Try.prog.info? 9).map (fun i => (i.zero, i.size, i.bytes)) = some (some (.string ⟨#[]⟩), 1, 16) := by kernel_rfl
def rd_L3 (xs : List (List Int)) (i : Int) : (List Int) := xs.getD i.toNat ([] : List Int)
theorem at_L3 {w : World} {A : Option Addr} {n : Nat} {xs : List (List Int)} (h : Kd.C (Kd.slice 3 (Kd.int .i64)) w A n xs) (i : Int) (h0 : 0 ≤ i) (h1 : i < n) : ∃ ad A0 c0, A = some ad ∧ w.cell? (ad.add i.toNat) = some (.slice A0 (rd_L3 xs i).length c0) ∧ (rd_L3 xs i).length ≤ c0 ∧ (Kd.int .i64).C w A0 (rd_L3 xs i).length (rd_L3 xs i) := by
 obtain ⟨ad, c, e, _, hK, hc0⟩ := Kd.C_get h ([] : List Int) i h0 h1
 have hc : ∀ j u, c[j]? = some u → w.cell? (ad.add (i.toNat * 1 + j)) = some u := hc0
 obtain ⟨A0, c0, rfl, l0, g0⟩ := hK
 exact ⟨ad, A0, c0, e, by have hq := hc 0 _ rfl; rwa [Nat.mul_one, Nat.add_zero] at hq, l0, g0⟩
structure S120 where
 f0 : Int
 f1 : Int
 f2 : Int
 f3 : Int
def z120 : S120 := ⟨(0 : Int), (0 : Int), (0 : Int), (0 : Int)⟩
def k120 : Kd S120 := Kd.iso (Kd.pair (Kd.int .i64) (Kd.pair (Kd.int .i64) (Kd.pair (Kd.int .i64) (Kd.int .i64)))) (fun x : S120 => (x.f0, x.f1, x.f2, x.f3))
theorem k120_open {w : World} {x : S120} {cs : List Value} (h : k120.K w x cs) : cs = [.int .i64 x.f0, .int .i64 x.f1, .int .i64 x.f2, .int .i64 x.f3] := by
 obtain ⟨_, _, rfl, rfl, ⟨_, _, rfl, rfl, ⟨_, _, rfl, rfl, rfl⟩⟩⟩ := h
 exact rfl
theorem k120_mkM (w : World) (base : Nat) (ok : Nat → Prop) (x : S120)  : k120.M w base ok x [.int .i64 x.f0, .int .i64 x.f1, .int .i64 x.f2, .int .i64 x.f3] := ⟨[.int .i64 x.f0], [.int .i64 x.f1, .int .i64 x.f2, .int .i64 x.f3], rfl, rfl, ⟨[.int .i64 x.f1], [.int .i64 x.f2, .int .i64 x.f3], rfl, rfl, ⟨[.int .i64 x.f2], [.int .i64 x.f3], rfl, rfl, rfl⟩⟩⟩
def rd_T120 (xs : List S120) (i : Int) : S120 := xs.getD i.toNat z120
theorem at_T120 {w : World} {A : Option Addr} {n : Nat} {xs : List S120} (h : Kd.C k120 w A n xs) (i : Int) (h0 : 0 ≤ i) (h1 : i < n) : ∃ ad , A = some ad ∧ w.cell? (ad.add (i.toNat * 4)) = some (.int .i64 (rd_T120 xs i).f0) ∧ w.cell? ⟨(ad.add (i.toNat * 4)).block, (ad.add (i.toNat * 4)).off + 1, none⟩ = some (.int .i64 (rd_T120 xs i).f1) ∧ w.cell? ⟨(ad.add (i.toNat * 4)).block, (ad.add (i.toNat * 4)).off + 2, none⟩ = some (.int .i64 (rd_T120 xs i).f2) ∧ w.cell? ⟨(ad.add (i.toNat * 4)).block, (ad.add (i.toNat * 4)).off + 3, none⟩ = some (.int .i64 (rd_T120 xs i).f3) := by
 obtain ⟨ad, c, e, _, hK, hc0⟩ := Kd.C_get h z120 i h0 h1
 have hc : ∀ j u, c[j]? = some u → w.cell? (ad.add (i.toNat * 4 + j)) = some u := hc0
 obtain rfl := k120_open hK
 exact ⟨ad, e, hc 0 _ rfl, by rw [← add_field _ _ 1 (by omega)]; exact hc 1 _ rfl, by rw [← add_field _ _ 2 (by omega)]; exact hc 2 _ rfl, by rw [← add_field _ _ 3 (by omega)]; exact hc 3 _ rfl⟩
structure S72 where
 f0 : Bool
 f1 : Int
 f2 : Int
 f3 : Int
def z72 : S72 := ⟨false, (0 : Int), (0 : Int), (0 : Int)⟩
end Go.Proofs.Ytickdcegnlldjaa.PB
namespace Go.Proofs.Ytickdcegnlldjaa.PB
open Go.RowKit Go.PW.PrintWords Go.PW.PrintLast Go.PW.PrintMore
attribute [local go_sem] zce zcc zcq zcp zbv zbu zcd zcb   -- for this text's walks alone
def spec_l6In.f (a0 : Int) (a1 : Int) (a2 : Int) : Option (Bool) := if a0 ≥ a1 then (some (decide (a0 ≤ a2))) else (some false)
set_option maxHeartbeats 8000000 in
set_option maxRecDepth 100000 in
theorem spec_l6In.calls (a0 : Int) (a1 : Int) (a2 : Int) (r : Bool) (w : World) (h : spec_l6In.f a0 a1 a2 = some r) :
  Calls Try.prog 46 #[.int .i64 a0, .int .i64 a1, .int .i64 a2] w fun e w' => e = .returned (.bool r) ∧ zba w w' := by
 have H : (if a0 ≥ a1 then (some (decide (a0 ≤ a2))) else (some false)) = some r := h
 clear h
 by_cases c4 : a0 ≥ a1
 ·rw [if_pos c4] at H
  have c4b0 : decide (a1 ≤ a0) = true := decide_eq_true c4
  clear c4
  obtain rfl := Option.some.inj H
  go_enter Try.func46, Try.ntmps46
  go_wp2
  go_ret
  exact ⟨by first | rfl | (simp; done) | (simp [*]; done), by repeat (first | exact zba.refl _ | apply zba.step)⟩
 ·rw [if_neg c4] at H
  have c4b0 : decide (a1 ≤ a0) = false := decide_eq_false c4
  clear c4
  obtain rfl := Option.some.inj H
  go_enter Try.func46, Try.ntmps46
  go_wp2
  go_ret
  exact ⟨by first | rfl | (simp; done) | (simp [*]; done), by repeat (first | exact zba.refl _ | apply zba.step)⟩
end Go.Proofs.Ytickdcegnlldjaa.PB
namespace Go.Proofs.Ytickdcegnlldjaa.PB
open Go.RowKit Go.PW.PrintWords Go.PW.PrintLast Go.PW.PrintMore
attribute [local go_sem] zce zcc zcq zcp zbv zbu zcd zcb   -- for this text's walks alone
def IsS58 (w0 W : World) (g : Nat) (f0 : List (List Int)) (f1 : List (S120)) : Prop := ∃ A0 c0, ∃ A1 c1, W.heap[g]? = some (.cells #[.slice A0 f0.length c0, .slice A1 f1.length c1] 58 (0, 0)) ∧ w0.heap[g]? = some (.cells #[.slice A0 f0.length c0, .slice A1 f1.length c1] 58 (0, 0)) ∧ Kd.C (Kd.slice 3 (Kd.int .i64)) w0 A0 f0.length f0 ∧ Kd.C k120 w0 A1 f1.length f1
theorem IsS58.grown {w0 W : World} {g : Nat} {f0 : List (List Int)} {f1 : List (S120)} {W1 : World} {row : Option Nat} (h : IsS58 w0 W g f0 f1) (hw : W.grownBy W1 row) (hne : some g ≠ row) : IsS58 w0 W1 g f0 f1 := by
 obtain ⟨A0, c0, A1, c1, hb, hg, hr0, hr1⟩ := h
 exact ⟨A0, c0, A1, c1, blk_grown hb hw hne, hg, hr0, hr1⟩
theorem IsS58.fresh {w0 W : World} {g : Nat} {f0 : List (List Int)} {f1 : List (S120)} (h : IsS58 w0 W g f0 f1) : ∀ k, W.heap.size ≤ k → k ≠ g := by
 obtain ⟨A0, c0, A1, c1, hb, hg, hr0, hr1⟩ := h
 exact Kd.freshB hb
theorem IsS58.kept {w0 W : World} {g : Nat} {f0 : List (List Int)} {f1 : List (S120)} {W1 : World} {S : Nat → Prop} (h : IsS58 w0 W g f0 f1) (hk : Kept W W1 S) (hne : ¬ S g) : IsS58 w0 W1 g f0 f1 := by
 obtain ⟨A0, c0, A1, c1, hb, hg, hr0, hr1⟩ := h
 exact ⟨A0, c0, A1, c1, blk_kept hb hk hne, hg, hr0, hr1⟩
theorem IsS58.below {w0 W : World} {g : Nat} {f0 : List (List Int)} {f1 : List (S120)} {W1 : World} (h : IsS58 w0 W g f0 f1) (hw : Below W.heap.size W W1) : IsS58 w0 W1 g f0 f1 := h.grown (grown_of_below hw none) (by simp)
theorem IsS58.alloc {w0 W : World} {g : Nat} {f0 : List (List Int)} {f1 : List (S120)} (h : IsS58 w0 W g f0 f1) (o : Obj) : IsS58 w0 (W.alloc o) g f0 f1 := h.below (zac (Below.refl _ _) o)
theorem IsS58.drewN {w0 W : World} {g : Nat} {f0 : List (List Int)} {f1 : List (S120)} (h : IsS58 w0 W g f0 f1) (m : Nat) : IsS58 w0 (W.drewN m) g f0 f1 := h
theorem IsS58.drew {w0 W : World} {g : Nat} {f0 : List (List Int)} {f1 : List (S120)} (h : IsS58 w0 W g f0 f1) : IsS58 w0 W.drew g f0 f1 := h
theorem IsS58.at_ {w0 W : World} {g : Nat} {f0 : List (List Int)} {f1 : List (S120)} {w' : World} {m : Nat} (hq : W.drewN m = w') (h : IsS58 w0 W g f0 f1) : IsS58 w0 w' g f0 f1 := by subst hq; exact IsS58.drewN h m
theorem IsS58.apart {w0 W : World} {g : Nat} {f0 : List (List Int)} {f1 : List (S120)} {α : Type} {d : Kd α} {e : Nat} {base : Nat} {ok : Nat → Prop} {v : Value} {xs : List α} (h : IsS58 w0 W g f0 f1) (ho : d.R e W base ok v xs) (ht : ∀ q, q ∈ e :: d.E → q ≠ 58) : d.R e W base (fun k => ok k ∧ k ≠ g) v xs := by
 obtain ⟨A0, c0, A1, c1, hb, hg, hr0, hr1⟩ := h
 exact Kd.R_types ho hb ht
theorem IsS58.own_ne {w0 W : World} {g : Nat} {f0 : List (List Int)} {f1 : List (S120)} {α : Type} {d : Kd α} {e : Nat} {base : Nat} {ok : Nat → Prop} {v : Value} {xs : List α} (h : IsS58 w0 W g f0 f1) (ho : d.R e W base ok v xs) (ht : e ≠ 58) : some g ≠ v.ownBlock := by
 obtain ⟨A0, c0, A1, c1, hb, hg, hr0, hr1⟩ := h
 exact Kd.R_ne ho hb ht
theorem IsS58.lt {w0 W : World} {g : Nat} {f0 : List (List Int)} {f1 : List (S120)} (h : IsS58 w0 W g f0 f1) : g < W.heap.size := by
 obtain ⟨A0, c0, A1, c1, hb, hg, hr0, hr1⟩ := h
 exact zcm hb
theorem cellS58_0 {W : World} {g : Nat} {A0 : Option Addr} {c0 : Nat} {A1 : Option Addr} {c1 : Nat} {f0 : List (List Int)} {f1 : List (S120)} (h : W.heap[g]? = some (.cells #[.slice A0 f0.length c0, .slice A1 f1.length c1] 58 (0, 0))) : W.cell? ⟨g, 0, none⟩ = some (.slice A0 f0.length c0) := (zat h 0).trans rfl
theorem cellS58_1 {W : World} {g : Nat} {A0 : Option Addr} {c0 : Nat} {A1 : Option Addr} {c1 : Nat} {f0 : List (List Int)} {f1 : List (S120)} (h : W.heap[g]? = some (.cells #[.slice A0 f0.length c0, .slice A1 f1.length c1] 58 (0, 0))) : W.cell? ⟨g, 1, none⟩ = some (.slice A1 f1.length c1) := (zat h 1).trans rfl
def impl_floor_wide.f (s0_0 : List (List Int)) (s0_1 : List (S120)) : Option (Int) := if 0 < (s0_0.length : Int) then (some ((rd_L3 s0_0 0).length : Int)) else (none)
set_option maxHeartbeats 8000000 in
set_option maxRecDepth 100000 in
theorem impl_floor_wide.calls (g : Nat) (s0_0 : List (List Int)) (s0_1 : List (S120)) (r : Int) (w0 w : World) (hI : IsS58 w0 w g s0_0 s0_1) (hB : Below w0.heap.size w0 w) (h : impl_floor_wide.f s0_0 s0_1 = some r) :
  Calls Try.prog 51 #[.pointer (some ⟨g, 0, none⟩)] w fun e w' => e = .returned (.int .i64 r) ∧ IsS58 w0 w' g s0_0 s0_1 ∧ Below w0.heap.size w0 w' ∧ zai w w' g none := by
 have HI0 := zaa.mk hI
 have HK := zaa.mk (zai.refl w g none)
 have HL := zaa.mk hB.size
 clear hI
 have HW0 := zaa.mk hB.size
 have HB := zaa.mk hB
 clear hB
 have H : (if 0 < (s0_0.length : Int) then (some ((rd_L3 s0_0 0).length : Int)) else (none)) = some r := h
 clear h
 by_cases c2 : 0 < (s0_0.length : Int)
 ·rw [if_pos c2] at H
  have c2b0 : decide (0 < (s0_0.length : Int)) = true := decide_eq_true c2
  have c2b1 : decide (0 < s0_0.length) = true := decide_eq_true (by omega)
  clear c2
  obtain rfl := Option.some.inj H
  obtain ⟨ASz3_0, cSz3_0, ASz3_1, cSz3_1, HGz3, hgz3, HSz3_0, HSz3_1⟩ := HI0.out
  have hcz3_0 := cellS58_0 HGz3
  have hcz3_1 := cellS58_1 HGz3
  clear HGz3 hgz3
  have p205 : 0 ≤ (0 : Int) := (by omega)
  have q205 : 0 < (s0_0.length : Int) := of_decide_eq_true (by assumption)
  obtain ⟨ad205, A205_0, c205_0, e205, hx205_0, hl205_0, hi205_0⟩ := at_L3 HSz3_0 0 p205 q205
  cases e205
  have qi205 : (0 < s0_0.length) = True := eq_true (by omega)
  (try rw [show ((0 : Int)).toNat = 0 from rfl] at hx205_0)
  (try rw [Addr.add_zero'] at hx205_0)
  replace hx205_0 := zar HB.out hx205_0
  have HR205_0 := zaa.mk hi205_0
  have HC205_0 := zaa.mk hl205_0
  clear hi205_0 hl205_0
  replace p205 := eq_true p205
  replace q205 := eq_true q205
  go_enter Try.func51, Try.ntmps51
  go_wp2
  go_ret
  exact ⟨by first | rfl | (simp [zap, zao] <;> rfl) | (simp [*, zap, zao] <;> rfl), by repeat (first | (with_reducible first | exact HI0.out | apply IsS58.alloc | apply IsS58.drewN | apply IsS58.drew) | exact HI0.out), by repeat (first | (with_reducible first | exact HB.out | apply zac | apply zab | apply zad | refine zan ?_ (IsS58.ge HI0.out)) | exact HB.out), by repeat (first | (with_reducible first | exact HK.out | apply zai.set_ | apply zal | apply zaq | apply zam) | exact HK.out)⟩
 ·rw [if_neg c2] at H
  exact absurd H (by simp)
def impl_floor_high.f (s0_0 : List (List Int)) (s0_1 : List (S120)) : Option (Int) := some (s0_0.length : Int)
set_option maxHeartbeats 8000000 in
set_option maxRecDepth 100000 in
theorem impl_floor_high.calls (g : Nat) (s0_0 : List (List Int)) (s0_1 : List (S120)) (r : Int) (w0 w : World) (hI : IsS58 w0 w g s0_0 s0_1) (hB : Below w0.heap.size w0 w) (h : impl_floor_high.f s0_0 s0_1 = some r) :
  Calls Try.prog 52 #[.pointer (some ⟨g, 0, none⟩)] w fun e w' => e = .returned (.int .i64 r) ∧ IsS58 w0 w' g s0_0 s0_1 ∧ Below w0.heap.size w0 w' ∧ zai w w' g none := by
 have HI0 := zaa.mk hI
 have HK := zaa.mk (zai.refl w g none)
 have HL := zaa.mk hB.size
 clear hI
 have HW0 := zaa.mk hB.size
 have HB := zaa.mk hB
 clear hB
 have H : (some (s0_0.length : Int)) = some r := h
 clear h
 obtain rfl := Option.some.inj H
 obtain ⟨ASz2_0, cSz2_0, ASz2_1, cSz2_1, HGz2, hgz2, HSz2_0, HSz2_1⟩ := HI0.out
 have hcz2_0 := cellS58_0 HGz2
 have hcz2_1 := cellS58_1 HGz2
 clear HGz2 hgz2
 go_enter Try.func52, Try.ntmps52
 go_wp2
 go_ret
 exact ⟨by first | rfl | (simp [zap, zao] <;> rfl) | (simp [*, zap, zao] <;> rfl), by repeat (first | (with_reducible first | exact HI0.out | apply IsS58.alloc | apply IsS58.drewN | apply IsS58.drew) | exact HI0.out), by repeat (first | (with_reducible first | exact HB.out | apply zac | apply zab | apply zad | refine zan ?_ (IsS58.ge HI0.out)) | exact HB.out), by repeat (first | (with_reducible first | exact HK.out | apply zai.set_ | apply zal | apply zaq | apply zam) | exact HK.out)⟩
def impl_rect_area.f (a0_0 : Int) (a0_1 : Int) (a0_2 : Int) (a0_3 : Int) : Option (Int) := some (wrap64 (a0_2 * a0_3))
set_option maxHeartbeats 8000000 in
set_option maxRecDepth 100000 in
theorem impl_rect_area.calls (a0_0 : Int) (a0_1 : Int) (a0_2 : Int) (a0_3 : Int) (r : Int) (w : World) (h : impl_rect_area.f a0_0 a0_1 a0_2 a0_3 = some r) :
  Calls Try.prog 119 #[.agg #[.int .i64 a0_0, .int .i64 a0_1, .int .i64 a0_2, .int .i64 a0_3]] w fun e w' => e = .returned (.int .i64 r) ∧ Below w.heap.size w w' := by
 have hu120 := Try.underlying120
 have HB := zaa.mk (Below.refl w.heap.size w)
 have H : (some (wrap64 (a0_2 * a0_3))) = some r := h
 clear h
 obtain rfl := Option.some.inj H
 go_enter Try.func119, Try.ntmps119
 go_wp2_with (first | ((with_reducible refine zbb (N := 1) rfl ?_); refine zbw ?hg (N := 1) ?hd (cs := #[.int .i64 a0_0, .int .i64 a0_1, .int .i64 a0_2, .int .i64 a0_3]) (t := 120) ?hr ?_; (case hd => rfl); (case hg => rfl); (case hr => first | (go_simp; done) | (go_simp; rfl)); intro gb206 hg w2 hbox hb; have n0_ := zaa.mk (zae (by repeat (first | (with_reducible first | exact HB.out | apply zac | apply zab | apply zad) | exact HB.out)) hb); have n1_ := zaa.mk (hbox); have n2_ := zaa.mk ((by rw [hg]; exact (zag (by repeat (first | (with_reducible first | exact HB.out | apply zac | apply zab | apply zad) | exact HB.out))) : w.heap.size ≤ gb206)); have n3_ := zaa.mk ((by rw [hg]; exact (zag (by repeat (first | (with_reducible first | exact HB.out | apply zac | apply zab | apply zad) | exact HB.out))) : w.heap.size ≤ gb206)); clear HB; have HB := n0_; have BK206 := n1_; have GW206 := n2_; have GE206 := n3_; clear n0_ n1_ n2_ n3_; clear hb hbox hg; have hcz3_0 : w2.cell? ⟨gb206, 0, none⟩ = some (.int .i64 a0_0) := (zat BK206.out 0).trans rfl; have hcz3_1 : w2.cell? ⟨gb206, 1, none⟩ = some (.int .i64 a0_1) := (zat BK206.out 1).trans rfl; have hcz3_2 : w2.cell? ⟨gb206, 2, none⟩ = some (.int .i64 a0_2) := (zat BK206.out 2).trans rfl; have hcz3_3 : w2.cell? ⟨gb206, 3, none⟩ = some (.int .i64 a0_3) := (zat BK206.out 3).trans rfl; have hfz3_0 := zaw BK206.out 0; have hfz3_1 := zaw BK206.out 1; have hfz3_2 := zaw BK206.out 2; have hfz3_3 := zaw BK206.out 3))
 go_ret
 exact ⟨by first | rfl | (simp [zap, zao] <;> rfl) | (simp [*, zap, zao] <;> rfl), by repeat (first | (with_reducible first | exact HB.out | apply zac | apply zab | apply zad | refine zan ?_ GE206.out) | exact HB.out)⟩
end Go.Proofs.Ytickdcegnlldjaa.PB
namespace Go.Proofs.Ytickdcegnlldjaa.PB
open Go.RowKit Go.PW.PrintWords Go.PW.PrintLast Go.PW.PrintMore
attribute [local go_sem] zce zcc zcq zcp zbv zbu zcd zcb   -- for this text's walks alone
def slices_Equal_string_string.l0 : Nat → List ByteArray → List ByteArray → Int → Int → Option (Bool)
 | 0, _, _, _, _ => none
 | k + 1, x0, x1, x12, x13 => if x13 < x12 then (if 0 ≤ x13 then (if x13 < (x0.length : Int) then (if x13 < (x1.length : Int) then (if (rdOf yaf x0 x13).toList = (rdOf yaf x1 x13).toList then (slices_Equal_string_string.l0 k x0 x1 x12 (wrap64 (x13 + 1))) else (some false)) else (none)) else (none)) else (none)) else (some true)
def slices_Equal_string_string.f (k : Nat) (l0 : List ByteArray) (l1 : List ByteArray) : Option (Bool) := if (l0.length : Int) = (l1.length : Int) then (slices_Equal_string_string.l0 k l0 l1 (l0.length : Int) 0) else (some false)
set_option maxHeartbeats 8000000 in
set_option maxRecDepth 100000 in
theorem slices_Equal_string_string.calls (k : Nat) (A0 : Option Addr) (c0 : Nat) (l0 : List ByteArray) (A1 : Option Addr) (c1 : Nat) (l1 : List ByteArray) (r : Bool) (w : World) (hr0 : Kd.C Kd.string w A0 l0.length l0) (hc0 : l0.length ≤ c0) (hr1 : Kd.C Kd.string w A1 l1.length l1) (hc1 : l1.length ≤ c1) (h : slices_Equal_string_string.f k l0 l1 = some r) :
  Calls Try.prog 91 #[.slice A0 l0.length c0, .slice A1 l1.length c1] w fun e w' => e = .returned (.bool r) ∧ zba w w' := by
 have HR0 := zaa.mk hr0
 have HC0 := zaa.mk hc0
 clear hr0 hc0
 have HR1 := zaa.mk hr1
 have HC1 := zaa.mk hc1
 clear hr1 hc1
 have H : (if (l0.length : Int) = (l1.length : Int) then (slices_Equal_string_string.l0 k l0 l1 (l0.length : Int) 0) else (some false)) = some r := h
 clear h
 by_cases c3 : (l0.length : Int) = (l1.length : Int)
 ·rw [if_pos c3] at H
  have c3b0 : ((l0.length : Int) == (l1.length : Int)) = true := beq_iff_eq.mpr c3
  have c3b1 : ((l0.length : Int) != (l1.length : Int)) = false := bne_eq_false_iff_eq.mpr c3
  have c3b2 : (l0.length == l1.length) = true := by first | simpa using c3 | (simp at c3 ⊢; omega)
  clear c3
  have H' := zaa.mk H
  clear H
  go_enter Try.func91, Try.ntmps91
  go_wp2
  repeat (go_quiet (fail); try go_wp2)
  go_loopg [13] k (fun kq v13 w' => ∃ (x13_1 : Int), v13 = .int .i64 x13_1 ∧ zaa (slices_Equal_string_string.l0 kq l0 l1 (l0.length : Int) x13_1 = some r) ∧ zaa (kq ≤ k) ∧ zba w w')
  case atStart => exact ⟨(0), (by first | rfl | (simp; done) | (simp [*]; done)), H', ⟨yai _⟩, by repeat (first | exact zba.refl _ | apply zba.step)⟩
  case round =>
   clear H'
   try clear c1
   try clear p2
   try clear c3
   try clear c3b0
   try clear c3b1
   try clear c3b2
   obtain ⟨x13_1, rfl, HA, HK1, ⟨m1, rfl⟩⟩ := hrel
   cases gk with
   | zero => exact absurd HA.out (by simp [slices_Equal_string_string.l0])
   | succ k1 =>
    have H := HA.out
    clear HA
    simp only [slices_Equal_string_string.l0] at H
    by_cases c4 : x13_1 < (l0.length : Int)
    ·rw [if_pos c4] at H
     have c4b0 : decide (x13_1 < (l0.length : Int)) = true := decide_eq_true c4
     clear c4
     by_cases c5 : 0 ≤ x13_1
     ·rw [if_pos c5] at H
      have c5b0 : decide (0 ≤ x13_1) = true := decide_eq_true c5
      clear c5
      by_cases c6 : x13_1 < (l0.length : Int)
      ·rw [if_pos c6] at H
       have c6b0 : decide (x13_1 < (l0.length : Int)) = true := decide_eq_true c6
       clear c6
       by_cases c7 : x13_1 < (l1.length : Int)
       ·rw [if_pos c7] at H
        have c7b0 : decide (x13_1 < (l1.length : Int)) = true := decide_eq_true c7
        clear c7
        by_cases c8 : (rdOf yaf l0 x13_1).toList = (rdOf yaf l1 x13_1).toList
        ·rw [if_pos c8] at H
         have c8b0 : ((rdOf yaf l0 x13_1).toList == (rdOf yaf l1 x13_1).toList) = true := beq_iff_eq.mpr c8
         have c8b1 : ((rdOf yaf l0 x13_1).toList != (rdOf yaf l1 x13_1).toList) = false := bne_eq_false_iff_eq.mpr c8
         clear c8
         have H' := zaa.mk H
         clear H
         have p207 : 0 ≤ (x13_1 : Int) := of_decide_eq_true (by assumption)
         have q207 : x13_1 < (l0.length : Int) := of_decide_eq_true (by assumption)
         obtain ⟨ad207, e207, hx207_0⟩ := Kd.at_string HR0.out x13_1 p207 q207
         cases e207
         replace p207 := eq_true p207
         replace q207 := eq_true q207
         have p208 : 0 ≤ (x13_1 : Int) := of_decide_eq_true (by assumption)
         have q208 : x13_1 < (l1.length : Int) := of_decide_eq_true (by assumption)
         obtain ⟨ad208, e208, hx208_0⟩ := Kd.at_string HR1.out x13_1 p208 q208
         cases e208
         replace p208 := eq_true p208
         replace q208 := eq_true q208
         go_wp2
         repeat (go_quiet (fail); try go_wp2)
         go_roundg k1
         case measure => have := HK1.out; omega
         case rel => exact ⟨(wrap64 (x13_1 + 1)), (by first | rfl | (simp; done) | (simp [*]; done)), H', ⟨by have := HK1.out; omega⟩, by repeat (first | exact zba.refl _ | apply zba.step)⟩
        ·rw [if_neg c8] at H
         have c8b0 : ((rdOf yaf l0 x13_1).toList == (rdOf yaf l1 x13_1).toList) = false := beq_eq_false_iff_ne.mpr c8
         have c8b1 : ((rdOf yaf l0 x13_1).toList != (rdOf yaf l1 x13_1).toList) = true := bne_iff_ne.mpr c8
         obtain rfl := Option.some.inj H
         have p207 : 0 ≤ (x13_1 : Int) := of_decide_eq_true (by assumption)
         have q207 : x13_1 < (l0.length : Int) := of_decide_eq_true (by assumption)
         obtain ⟨ad207, e207, hx207_0⟩ := Kd.at_string HR0.out x13_1 p207 q207
         cases e207
         replace p207 := eq_true p207
         replace q207 := eq_true q207
         have p208 : 0 ≤ (x13_1 : Int) := of_decide_eq_true (by assumption)
         have q208 : x13_1 < (l1.length : Int) := of_decide_eq_true (by assumption)
         obtain ⟨ad208, e208, hx208_0⟩ := Kd.at_string HR1.out x13_1 p208 q208
         cases e208
         replace p208 := eq_true p208
         replace q208 := eq_true q208
         go_wp2
         repeat (go_quiet (fail); try go_wp2)
         go_ret
         exact ⟨by first | rfl | (simp; done) | (simp [*]; done), by repeat (first | exact zba.refl _ | apply zba.step)⟩
       ·rw [if_neg c7] at H
        exact absurd H (by simp)
      ·rw [if_neg c6] at H
       exact absurd H (by simp)
     ·rw [if_neg c5] at H
      exact absurd H (by simp)
    ·rw [if_neg c4] at H
     have c4b0 : decide (x13_1 < (l0.length : Int)) = false := decide_eq_false c4
     clear c4
     obtain rfl := Option.some.inj H
     go_wp2
     repeat (go_quiet (fail); try go_wp2)
     go_ret
     exact ⟨by first | rfl | (simp; done) | (simp [*]; done), by repeat (first | exact zba.refl _ | apply zba.step)⟩
 ·rw [if_neg c3] at H
  have c3b0 : ((l0.length : Int) == (l1.length : Int)) = false := beq_eq_false_iff_ne.mpr c3
  have c3b1 : ((l0.length : Int) != (l1.length : Int)) = true := bne_iff_ne.mpr c3
  have c3b2 : (l0.length == l1.length) = false := by first | simpa using c3 | (simp at c3 ⊢; omega)
  obtain rfl := Option.some.inj H
  go_enter Try.func91, Try.ntmps91
  go_wp2
  repeat (go_quiet (fail); try go_wp2)
  go_ret
  exact ⟨by first | rfl | (simp; done) | (simp [*]; done), by repeat (first | exact zba.refl _ | apply zba.step)⟩
end Go.Proofs.Ytickdcegnlldjaa.PB
namespace Go.Proofs.Ytickdcegnlldjaa.PB
open Go.RowKit Go.PW.PrintWords Go.PW.PrintLast Go.PW.PrintMore
attribute [local go_sem] zce zcc zcq zcp zbv zbu zcd zcb   -- for this text's walks alone
def zaf (w0 W : World) (g : Nat) (f0 : List Int) (f1 : Int) : Prop := ∃ A0 c0, W.heap[g]? = some (.cells #[.slice A0 f0.length c0, .int .i64 f1] 94 (0, 0)) ∧ w0.heap.size ≤ g ∧ Kd.C (Kd.int .u8) w0 A0 f0.length f0
theorem zaf.grown {w0 W : World} {g : Nat} {f0 : List Int} {f1 : Int} {W1 : World} {row : Option Nat} (h : zaf w0 W g f0 f1) (hw : W.grownBy W1 row) (hne : some g ≠ row) : zaf w0 W1 g f0 f1 := by
 obtain ⟨A0, c0, hb, hg, hr0⟩ := h
 exact ⟨A0, c0, blk_grown hb hw hne, hg, hr0⟩
theorem zaf.fresh {w0 W : World} {g : Nat} {f0 : List Int} {f1 : Int} (h : zaf w0 W g f0 f1) : ∀ k, W.heap.size ≤ k → k ≠ g := by
 obtain ⟨A0, c0, hb, hg, hr0⟩ := h
 exact Kd.freshB hb
theorem zaf.kept {w0 W : World} {g : Nat} {f0 : List Int} {f1 : Int} {W1 : World} {S : Nat → Prop} (h : zaf w0 W g f0 f1) (hk : Kept W W1 S) (hne : ¬ S g) : zaf w0 W1 g f0 f1 := by
 obtain ⟨A0, c0, hb, hg, hr0⟩ := h
 exact ⟨A0, c0, blk_kept hb hk hne, hg, hr0⟩
theorem zaf.below {w0 W : World} {g : Nat} {f0 : List Int} {f1 : Int} {W1 : World} (h : zaf w0 W g f0 f1) (hw : Below W.heap.size W W1) : zaf w0 W1 g f0 f1 := h.grown (grown_of_below hw none) (by simp)
theorem zaf.alloc {w0 W : World} {g : Nat} {f0 : List Int} {f1 : Int} (h : zaf w0 W g f0 f1) (o : Obj) : zaf w0 (W.alloc o) g f0 f1 := h.below (zac (Below.refl _ _) o)
theorem zaf.drewN {w0 W : World} {g : Nat} {f0 : List Int} {f1 : Int} (h : zaf w0 W g f0 f1) (m : Nat) : zaf w0 (W.drewN m) g f0 f1 := h
theorem zaf.drew {w0 W : World} {g : Nat} {f0 : List Int} {f1 : Int} (h : zaf w0 W g f0 f1) : zaf w0 W.drew g f0 f1 := h
theorem zaf.at_ {w0 W : World} {g : Nat} {f0 : List Int} {f1 : Int} {w' : World} {m : Nat} (hq : W.drewN m = w') (h : zaf w0 W g f0 f1) : zaf w0 w' g f0 f1 := by subst hq; exact zaf.drewN h m
theorem zaf.apart {w0 W : World} {g : Nat} {f0 : List Int} {f1 : Int} {α : Type} {d : Kd α} {e : Nat} {base : Nat} {ok : Nat → Prop} {v : Value} {xs : List α} (h : zaf w0 W g f0 f1) (ho : d.R e W base ok v xs) (ht : ∀ q, q ∈ e :: d.E → q ≠ 94) : d.R e W base (fun k => ok k ∧ k ≠ g) v xs := by
 obtain ⟨A0, c0, hb, hg, hr0⟩ := h
 exact Kd.R_types ho hb ht
theorem zaf.own_ne {w0 W : World} {g : Nat} {f0 : List Int} {f1 : Int} {α : Type} {d : Kd α} {e : Nat} {base : Nat} {ok : Nat → Prop} {v : Value} {xs : List α} (h : zaf w0 W g f0 f1) (ho : d.R e W base ok v xs) (ht : e ≠ 94) : some g ≠ v.ownBlock := by
 obtain ⟨A0, c0, hb, hg, hr0⟩ := h
 exact Kd.R_ne ho hb ht
theorem zaf.lt {w0 W : World} {g : Nat} {f0 : List Int} {f1 : Int} (h : zaf w0 W g f0 f1) : g < W.heap.size := by
 obtain ⟨A0, c0, hb, hg, hr0⟩ := h
 exact zcm hb
theorem zaf.ge {w0 W : World} {g : Nat} {f0 : List Int} {f1 : Int} (h : zaf w0 W g f0 f1) : w0.heap.size ≤ g := by
 obtain ⟨A0, c0, hb, hg, hr0⟩ := h
 exact hg
theorem cellS94_0 {W : World} {g : Nat} {A0 : Option Addr} {c0 : Nat} {f0 : List Int} {f1 : Int} (h : W.heap[g]? = some (.cells #[.slice A0 f0.length c0, .int .i64 f1] 94 (0, 0))) : W.cell? ⟨g, 0, none⟩ = some (.slice A0 f0.length c0) := (zat h 0).trans rfl
theorem cellS94_1 {W : World} {g : Nat} {A0 : Option Addr} {c0 : Nat} {f0 : List Int} {f1 : Int} (h : W.heap[g]? = some (.cells #[.slice A0 f0.length c0, .int .i64 f1] 94 (0, 0))) : W.cell? ⟨g, 1, none⟩ = some (.int .i64 f1) := (zat h 1).trans rfl
theorem zaf.set_1 {w0 W : World} {g : Nat} {f0 : List Int} {f1 : Int} (h : zaf w0 W g f0 f1) (x : Int) : zaf w0 (W.setCell ⟨g, 1, none⟩ (.int .i64 x)) g f0 x := by
 obtain ⟨A0, c0, hb, hg, hr0⟩ := h
 exact ⟨A0, c0, by simpa using blk_set hb 1 (.int .i64 x), hg, hr0⟩
theorem zaf.new (w0 W : World) (A0 : Option Addr) (c0 : Nat) (f0 : List Int) (f1 : Int) (hB : Below w0.heap.size w0 W) (hr0 : Kd.C (Kd.int .u8) w0 A0 f0.length f0) : zaf w0 (W.alloc (.cells #[.slice A0 f0.length c0, .int .i64 f1] 94)) W.heap.size f0 f1 := ⟨A0, c0, by simpa using heap_alloc_new W _, hB.size, hr0⟩
def spec_l6Open.f (l0 : List Int) : Option (List Int × Int) := if (l0.length : Int) > 2000 then (if 2000 ≤ (l0.length : Int) then (some (l0.take 2000, 0)) else (none)) else (some (l0, 0))
set_option maxHeartbeats 8000000 in
set_option maxRecDepth 100000 in
theorem spec_l6Open.calls (A0 : Option Addr) (c0 : Nat) (l0 : List Int) (r1 : List Int) (r2 : Int) (w0 w : World) (hB : Below w0.heap.size w0 w) (hr0 : Kd.C (Kd.int .u8) w0 A0 l0.length l0) (hc0 : l0.length ≤ c0) (h : spec_l6Open.f l0 = some (r1, r2)) :
  Calls Try.prog 56 #[.slice A0 l0.length c0] w fun e w' => ∃ g_ : Nat, e = .returned (.pointer (some ⟨g_, 0, none⟩)) ∧ zaf w0 w' g_ r1 r2 ∧ Below w0.heap.size w0 w' ∧ Below w.heap.size w w' := by
 have hu94 := Try.underlying94
 have HR0 := zaa.mk hr0
 have HC0 := zaa.mk hc0
 clear hr0 hc0
 have HBW := zaa.mk (Below.refl w.heap.size w)
 have HW0 := zaa.mk hB.size
 have HB := zaa.mk hB
 clear hB
 have H : (if (l0.length : Int) > 2000 then (if 2000 ≤ (l0.length : Int) then (some (l0.take 2000, 0)) else (none)) else (some (l0, 0))) = some (r1, r2) := h
 clear h
 by_cases c2 : (l0.length : Int) > 2000
 ·rw [if_pos c2] at H
  have c2b0 : decide (2000 < (l0.length : Int)) = true := decide_eq_true c2
  have c2b1 : decide (2000 < l0.length) = true := decide_eq_true (by omega)
  clear c2
  by_cases c3 : 2000 ≤ (l0.length : Int)
  ·rw [if_pos c3] at H
   have c3b0 := eq_true c3
   have c3b1 : decide (2000 ≤ (l0.length : Int)) = true := decide_eq_true c3
   clear c3
   simp only [Option.some.injEq, Prod.mk.injEq] at H
   obtain ⟨rfl, rfl⟩ := H
   obtain ⟨i04, hi04, _, hsz4, _⟩ := info_parts info5
   obtain ⟨hcut4, hA4, hC4⟩ := print_take_of (P := Try.prog) (Value.int .u8) 0 32 5 .i64 Try.underlying32 hi04 hsz4 A0 c0 l0 2000 (by omega) (of_decide_eq_true (by assumption)) HC0.out
   have HR243 := zaa.mk (Kd.C_of_reads (h1 := fun _ => rfl) (hA4 _ (Kd.reads_of_C HR0.out)))
   have HC243 := zaa.mk hC4
   clear hA4 hC4 hi04 hsz4
   go_enter Try.func56, Try.ntmps56
   go_wp2_with (first | ((with_reducible refine zbb (N := 10) rfl ?_); refine zbw ?hg (N := 10) ?hd (cs := #[.slice A0 (l0.take 2000).length c0, .int .i64 0]) (t := 94) ?hr ?_; (case hd => rfl); (case hg => rfl); (case hr => first | (go_simp; done) | (go_simp; rfl)); intro gb244 hg w5 hbox hb; have n0_ := zaa.mk (zae HBW.out hb); have n1_ := zaa.mk (zae (by repeat (first | (with_reducible first | exact HB.out | apply zac | apply zab | apply zad) | exact HB.out)) hb); have n2_ := zaa.mk (hbox); have n3_ := zaa.mk ((by rw [hg]; exact (zag (by repeat (first | (with_reducible first | exact HBW.out | apply zac | apply zab | apply zad) | exact HBW.out))) : w.heap.size ≤ gb244)); have n4_ := zaa.mk ((Nat.le_trans HW0.out (by rw [hg]; exact (zag (by repeat (first | (with_reducible first | exact HBW.out | apply zac | apply zab | apply zad) | exact HBW.out))) : w.heap.size ≤ gb244) : w0.heap.size ≤ gb244)); clear HBW; clear HB; have HBW := n0_; have HB := n1_; have BK244 := n2_; have GW244 := n3_; have GE244 := n4_; clear n0_ n1_ n2_ n3_ n4_; clear hb hbox hg))
   go_ret
   exact ⟨_, rfl, (show zaf w0 _ gb244 (l0.take 2000) 0 from ⟨_, _, by (with_reducible repeat (first | refine zbh ?_ _ | refine zbm ?_ | refine zbi ?_ _)); exact BK244.out, GE244.out, HR243.out⟩), by repeat (first | (with_reducible first | exact HB.out | apply zac | apply zab | apply zad | refine zan ?_ GE244.out) | exact HB.out), by repeat (first | (with_reducible first | exact HBW.out | apply zac | apply zab | apply zad | refine zan ?_ GW244.out) | exact HBW.out)⟩
  ·rw [if_neg c3] at H
   exact absurd H (by simp)
 ·rw [if_neg c2] at H
  have c2b0 : decide (2000 < (l0.length : Int)) = false := decide_eq_false c2
  have c2b1 : decide (2000 < l0.length) = false := decide_eq_false (by omega)
  clear c2
  simp only [Option.some.injEq, Prod.mk.injEq] at H
  obtain ⟨rfl, rfl⟩ := H
  go_enter Try.func56, Try.ntmps56
  go_wp2_with (first | ((with_reducible refine zbb (N := 10) rfl ?_); refine zbw ?hg (N := 10) ?hd (cs := #[.slice A0 l0.length c0, .int .i64 0]) (t := 94) ?hr ?_; (case hd => rfl); (case hg => rfl); (case hr => first | (go_simp; done) | (go_simp; rfl)); intro gb245 hg w6 hbox hb; have n0_ := zaa.mk (zae HBW.out hb); have n1_ := zaa.mk (zae (by repeat (first | (with_reducible first | exact HB.out | apply zac | apply zab | apply zad) | exact HB.out)) hb); have n2_ := zaa.mk (hbox); have n3_ := zaa.mk ((by rw [hg]; exact (zag (by repeat (first | (with_reducible first | exact HBW.out | apply zac | apply zab | apply zad) | exact HBW.out))) : w.heap.size ≤ gb245)); have n4_ := zaa.mk ((Nat.le_trans HW0.out (by rw [hg]; exact (zag (by repeat (first | (with_reducible first | exact HBW.out | apply zac | apply zab | apply zad) | exact HBW.out))) : w.heap.size ≤ gb245) : w0.heap.size ≤ gb245)); clear HBW; clear HB; have HBW := n0_; have HB := n1_; have BK245 := n2_; have GW245 := n3_; have GE245 := n4_; clear n0_ n1_ n2_ n3_ n4_; clear hb hbox hg))
  go_ret
  exact ⟨_, rfl, (show zaf w0 _ gb245 l0 0 from ⟨_, _, by (with_reducible repeat (first | refine zbh ?_ _ | refine zbm ?_ | refine zbi ?_ _)); exact BK245.out, GE245.out, HR0.out⟩), by repeat (first | (with_reducible first | exact HB.out | apply zac | apply zab | apply zad | refine zan ?_ GE245.out) | exact HB.out), by repeat (first | (with_reducible first | exact HBW.out | apply zac | apply zab | apply zad | refine zan ?_ GW245.out) | exact HBW.out)⟩
end Go.Proofs.Ytickdcegnlldjaa.PB
namespace Go.Proofs.Ytickdcegnlldjaa.PB
open Go.RowKit Go.PW.PrintWords Go.PW.PrintLast Go.PW.PrintMore
attribute [local go_sem] zce zcc zcq zcp zbv zbu zcd zcb   -- for this text's walks alone
mutual
def spec_l1Rooms.l0 : Nat → List ByteArray → Int → Int → Option (Int)
 | 0, _, _, _ => none
 | k + 1, x0, x3, x4 => if x4 < (x0.length : Int) then (spec_l1Rooms.l1 k x0 x3 x4 0) else (some x3)
def spec_l1Rooms.l1 : Nat → List ByteArray → Int → Int → Int → Option (Int)
 | 0, _, _, _, _ => none
 | k + 1, x0, x3, x4, x5 => if 0 ≤ x4 then (if x4 < (x0.length : Int) then (if x5 < ((rdOf yaf x0 x4).size : Int) then (if 0 ≤ x5 then (spec_l1Rooms.l1 k x0 (mx x3 (wrap64 ((wrap64 ((wrap64 (bt (rdOf yaf x0 x4) x5)) - 97)) + 1))) x4 (wrap64 (x5 + 1))) else (none)) else (spec_l1Rooms.l0 k x0 x3 (wrap64 (x4 + 1)))) else (none)) else (none)
end
def spec_l1Rooms.f (k : Nat) (l0 : List ByteArray) : Option (Int) := spec_l1Rooms.l0 k l0 0 0
set_option maxHeartbeats 8000000 in
set_option maxRecDepth 100000 in
theorem spec_l1Rooms.calls (k : Nat) (A0 : Option Addr) (c0 : Nat) (l0 : List ByteArray) (r : Int) (w : World) (hr0 : Kd.C Kd.string w A0 l0.length l0) (hc0 : l0.length ≤ c0) (h : spec_l1Rooms.f k l0 = some r) :
  Calls Try.prog 87 #[.slice A0 l0.length c0] w fun e w' => e = .returned (.int .i64 r) ∧ Below w.heap.size w w' := by
 have HR0 := zaa.mk hr0
 have HC0 := zaa.mk hc0
 clear hr0 hc0
 have HB := zaa.mk (Below.refl w.heap.size w)
 have H : (spec_l1Rooms.l0 k l0 0 0) = some r := h
 clear h
 have H' := zaa.mk H
 clear H
 go_enter Try.func87, Try.ntmps87
 go_wp2
 go_loopg [3, 4] k (fun kq v3 v4 w' => ∃ (x3_1 : Int) (x4_1 : Int), v3 = .int .i64 x3_1 ∧ v4 = .int .i64 x4_1 ∧ zaa (spec_l1Rooms.l0 kq l0 x3_1 x4_1 = some r) ∧ zaa (kq ≤ k) ∧ zaa (Below w.heap.size w w'))
 case atStart => exact ⟨(0), (0), (by first | rfl | (simp; done) | (simp [*]; done)), (by first | rfl | (simp; done) | (simp [*]; done)), H', ⟨yai _⟩, ⟨by repeat (first | (with_reducible first | exact HB.out | apply zac | apply zab | apply zad) | exact HB.out)⟩⟩
 case round =>
  clear H'
  obtain ⟨x3_1, x4_1, rfl, rfl, HA, HK1, HB⟩ := hrel
  cases gk with
  | zero => exact absurd HA.out (by simp [spec_l1Rooms.l0])
  | succ k1 =>
   have H := HA.out
   clear HA
   simp only [spec_l1Rooms.l0] at H
   by_cases c2 : x4_1 < (l0.length : Int)
   ·rw [if_pos c2] at H
    have c2b0 : decide (x4_1 < (l0.length : Int)) = true := decide_eq_true c2
    clear c2
    have H' := zaa.mk H
    clear H
    go_wp2
    go_loopg [3, 5] k1 (fun kq v3 v5 w' => ∃ (x3_2 : Int) (x5_2 : Int), v3 = .int .i64 x3_2 ∧ v5 = .int .i64 x5_2 ∧ zaa (spec_l1Rooms.l1 kq l0 x3_2 x4_1 x5_2 = some r) ∧ zaa (kq ≤ k1) ∧ zaa (Below w.heap.size w w'))
    case atStart => exact ⟨(x3_1), (0), (by first | rfl | (simp; done) | (simp [*]; done)), (by first | rfl | (simp; done) | (simp [*]; done)), H', ⟨yai _⟩, ⟨by repeat (first | (with_reducible first | exact HB.out | apply zac | apply zab | apply zad) | exact HB.out)⟩⟩
    case round =>
     clear H'
     try clear c2
     try clear c2b0
     try clear p2
     obtain ⟨x3_2, x5_2, rfl, rfl, HA, HK2, HB⟩ := hrel
     cases gk with
     | zero => exact absurd HA.out (by simp [spec_l1Rooms.l1])
     | succ k2 =>
      have H := HA.out
      clear HA
      simp only [spec_l1Rooms.l1] at H
      by_cases c3 : 0 ≤ x4_1
      ·rw [if_pos c3] at H
       have c3b0 : decide (0 ≤ x4_1) = true := decide_eq_true c3
       clear c3
       by_cases c4 : x4_1 < (l0.length : Int)
       ·rw [if_pos c4] at H
        have c4b0 : decide (x4_1 < (l0.length : Int)) = true := decide_eq_true c4
        clear c4
        by_cases c5 : x5_2 < ((rdOf yaf l0 x4_1).size : Int)
        ·rw [if_pos c5] at H
         have c5b0 : decide (x5_2 < ((rdOf yaf l0 x4_1).size : Int)) = true := decide_eq_true c5
         clear c5
         by_cases c6 : 0 ≤ x5_2
         ·rw [if_pos c6] at H
          have c6b0 : decide (0 ≤ x5_2) = true := decide_eq_true c6
          clear c6
          obtain ⟨ji8, hji8⟩ : ∃ j_ : Int, (mx x3_2 (wrap64 ((wrap64 ((wrap64 (bt (rdOf yaf l0 x4_1) x5_2)) - 97)) + 1))) = j_ := ⟨_, rfl⟩
          replace H : (spec_l1Rooms.l1 k2 l0 ji8 x4_1 (wrap64 (x5_2 + 1))) = some r := by first | (rw [hji8] at H; exact H) | (simp only [hji8] at H ⊢; exact H)
          have hji8_ : (if x3_2 < (wrap64 ((wrap64 ((wrap64 (bt (rdOf yaf l0 x4_1) x5_2)) - 97)) + 1)) then (wrap64 ((wrap64 ((wrap64 (bt (rdOf yaf l0 x4_1) x5_2)) - 97)) + 1)) else x3_2) = ji8 := hji8
          have H' := zaa.mk H
          clear H
          have p147 : 0 ≤ (x4_1 : Int) := of_decide_eq_true (by assumption)
          have q147 : x4_1 < (l0.length : Int) := of_decide_eq_true (by assumption)
          obtain ⟨ad147, e147, hx147_0⟩ := Kd.at_string HR0.out x4_1 p147 q147
          cases e147
          replace hx147_0 := (HB.out.cell (World.block_lt_of_cell? w _ hx147_0)).trans hx147_0
          replace p147 := eq_true p147
          replace q147 := eq_true q147
          have p148 : 0 ≤ (x4_1 : Int) := of_decide_eq_true (by assumption)
          have q148 : x4_1 < (l0.length : Int) := of_decide_eq_true (by assumption)
          obtain ⟨ad148, e148, hx148_0⟩ := Kd.at_string HR0.out x4_1 p148 q148
          obtain rfl : ad147 = ad148 := (by injection e148)
          replace hx148_0 := (HB.out.cell (World.block_lt_of_cell? w _ hx148_0)).trans hx148_0
          replace p148 := eq_true p148
          replace q148 := eq_true q148
          have p7 : 0 ≤ (x5_2 : Int) := of_decide_eq_true (by assumption)
          have q7 : x5_2 < ((rdOf yaf l0 x4_1).size : Int) := of_decide_eq_true (by assumption)
          have hx7 := bt_at (rdOf yaf l0 x4_1) x5_2
          replace p7 := eq_true p7
          replace q7 := eq_true q7
          go_wp2
          go_roundg k2
          case measure => have := HK1.out; have := HK2.out; omega
          case rel => exact ⟨(ji8), (wrap64 (x5_2 + 1)), (by first | rfl | (simp; done) | (simp only [← hji8] <;> (first | rfl | simp)) | (simp [*]; done)), (by first | rfl | (simp; done) | (simp [*]; done)), H', ⟨by have := HK1.out; have := HK2.out; omega⟩, ⟨by repeat (first | (with_reducible first | exact HB.out | apply zac | apply zab | apply zad) | exact HB.out)⟩⟩
         ·rw [if_neg c6] at H
          exact absurd H (by simp)
        ·rw [if_neg c5] at H
         have c5b0 : decide (x5_2 < ((rdOf yaf l0 x4_1).size : Int)) = false := decide_eq_false c5
         clear c5
         have H' := zaa.mk H
         clear H
         have p147 : 0 ≤ (x4_1 : Int) := of_decide_eq_true (by assumption)
         have q147 : x4_1 < (l0.length : Int) := of_decide_eq_true (by assumption)
         obtain ⟨ad147, e147, hx147_0⟩ := Kd.at_string HR0.out x4_1 p147 q147
         cases e147
         replace hx147_0 := (HB.out.cell (World.block_lt_of_cell? w _ hx147_0)).trans hx147_0
         replace p147 := eq_true p147
         replace q147 := eq_true q147
         go_wp2
         go_roundg k2
         case measure => have := HK1.out; have := HK2.out; omega
         case rel => exact ⟨(x3_2), (wrap64 (x4_1 + 1)), (by first | rfl | (simp; done) | (simp [*]; done)), (by first | rfl | (simp; done) | (simp [*]; done)), H', ⟨by have := HK1.out; have := HK2.out; omega⟩, ⟨by repeat (first | (with_reducible first | exact HB.out | apply zac | apply zab | apply zad) | exact HB.out)⟩⟩
       ·rw [if_neg c4] at H
        exact absurd H (by simp)
      ·rw [if_neg c3] at H
       exact absurd H (by simp)
   ·rw [if_neg c2] at H
    have c2b0 : decide (x4_1 < (l0.length : Int)) = false := decide_eq_false c2
    clear c2
    obtain rfl := Option.some.inj H
    go_wp2
    go_ret
    exact ⟨by first | rfl | (simp [zap, zao] <;> rfl) | (simp [*, zap, zao] <;> rfl), by repeat (first | (with_reducible first | exact HB.out | apply zac | apply zab | apply zad) | exact HB.out)⟩
end Go.Proofs.Ytickdcegnlldjaa.PB
namespace Go.Proofs.Ytickdcegnlldjaa.PB
open Go.RowKit Go.PW.PrintWords Go.PW.PrintLast Go.PW.PrintMore
attribute [local go_sem] zce zcc zcq zcp zbv zbu zcd zcb   -- for this text's walks alone
mutual
def spec_l1Grid.l0 : Nat → List ByteArray → Int → Option (Bool)
 | 0, _, _ => none
 | k + 1, x0, x3 => if x3 < (x0.length : Int) then (if 0 ≤ x3 then (if 0 < (x0.length : Int) then (if ((rdOf yaf x0 x3).size : Int) = ((rdOf yaf x0 0).size : Int) then ((spec_l6In.f ((rdOf yaf x0 x3).size : Int) 1 6).bind fun t106 => (spec_l1Grid.j1 k x0 x3 (!t106))) else (spec_l1Grid.j1 k x0 x3 true)) else (none)) else (none)) else ((spec_l6In.f (x0.length : Int) 1 6).bind fun t102 => (some t102))
def spec_l1Grid.j1 : Nat → List ByteArray → Int → Bool → Option (Bool)
 | 0, _, _, _ => none
 | k + 1, x0, x3, x29 => if x29 = true then (some false) else (spec_l1Grid.l1 k x0 x3 0)
def spec_l1Grid.l1 : Nat → List ByteArray → Int → Int → Option (Bool)
 | 0, _, _, _ => none
 | k + 1, x0, x3, x4 => if 0 ≤ x3 then (if x3 < (x0.length : Int) then (if x4 < ((rdOf yaf x0 x3).size : Int) then (if 0 ≤ x4 then (if (bt (rdOf yaf x0 x3) x4) < 97 then (some false) else (if (bt (rdOf yaf x0 x3) x4) > 122 then (some false) else (spec_l1Grid.l1 k x0 x3 (wrap64 (x4 + 1))))) else (none)) else (spec_l1Grid.l0 k x0 (wrap64 (x3 + 1)))) else (none)) else (none)
end
def spec_l1Grid.f (k : Nat) (l0 : List ByteArray) : Option (Bool) := spec_l1Grid.l0 k l0 0
set_option maxHeartbeats 8000000 in
set_option maxRecDepth 100000 in
theorem spec_l1Grid.calls (k : Nat) (A0 : Option Addr) (c0 : Nat) (l0 : List ByteArray) (r : Bool) (w : World) (hr0 : Kd.C Kd.string w A0 l0.length l0) (hc0 : l0.length ≤ c0) (h : spec_l1Grid.f k l0 = some r) :
  Calls Try.prog 84 #[.slice A0 l0.length c0] w fun e w' => e = .returned (.bool r) ∧ zba w w' := by
 have HR0 := zaa.mk hr0
 have HC0 := zaa.mk hc0
 clear hr0 hc0
 have H : (spec_l1Grid.l0 k l0 0) = some r := h
 clear h
 have H' := zaa.mk H
 clear H
 go_enter Try.func84, Try.ntmps84
 go_wp2
 repeat (go_quiet (fail); try go_wp2)
 go_loopg [3] k (fun kq v3 w' => ∃ (x3_1 : Int), v3 = .int .i64 x3_1 ∧ zaa (spec_l1Grid.l0 kq l0 x3_1 = some r) ∧ zaa (kq ≤ k) ∧ zba w w')
 case atStart => exact ⟨(0), (by first | rfl | (simp; done) | (simp [*]; done)), H', ⟨yai _⟩, by repeat (first | exact zba.refl _ | apply zba.step)⟩
 case round =>
  clear H'
  obtain ⟨x3_1, rfl, HA, HK1, ⟨m1, rfl⟩⟩ := hrel
  cases gk with
  | zero => exact absurd HA.out (by simp [spec_l1Grid.l0])
  | succ k1 =>
   have H := HA.out
   clear HA
   simp only [spec_l1Grid.l0] at H
   by_cases c2 : x3_1 < (l0.length : Int)
   ·rw [if_pos c2] at H
    have c2b0 : decide (x3_1 < (l0.length : Int)) = true := decide_eq_true c2
    clear c2
    have HC3 := zaa.mk H
    clear H
    go_upto_region 4 with (fail)
    repeat (go_quiet (fail); go_upto_region 4 with (fail))
    go_cut [29] (fun v29 wc => ∃ (kq : Nat) (x29_2 : Bool), v29 = .bool x29_2 ∧ zaa (spec_l1Grid.j1 kq l0 x3_1 x29_2 = some r) ∧ zaa (kq ≤ k1) ∧ zba w wc)
    case first =>
     have H := HC3.out
     clear HC3
     by_cases c4 : 0 ≤ x3_1
     ·rw [if_pos c4] at H
      have c4b0 : decide (0 ≤ x3_1) = true := decide_eq_true c4
      clear c4
      (first | rw [c4b0] | (simp only [zau, zav]; rw [c4b0]) | skip)
      by_cases c5 : 0 < (l0.length : Int)
      ·rw [if_pos c5] at H
       have c5b0 : decide (0 < (l0.length : Int)) = true := decide_eq_true c5
       have c5b1 : decide (0 < l0.length) = true := decide_eq_true (by omega)
       clear c5
       by_cases c6 : ((rdOf yaf l0 x3_1).size : Int) = ((rdOf yaf l0 0).size : Int)
       ·rw [if_pos c6] at H
        have c6b0 : (((rdOf yaf l0 x3_1).size : Int) == ((rdOf yaf l0 0).size : Int)) = true := beq_iff_eq.mpr c6
        have c6b1 : (((rdOf yaf l0 x3_1).size : Int) != ((rdOf yaf l0 0).size : Int)) = false := bne_eq_false_iff_eq.mpr c6
        have c6b2 : ((rdOf yaf l0 x3_1).size == (rdOf yaf l0 0).size) = true := by first | simpa using c6 | (simp at c6 ⊢; omega)
        clear c6
        replace H := yag.mp H
        obtain ⟨t106, A70, H⟩ := H
        replace H : (spec_l1Grid.j1 k1 l0 x3_1 (!t106)) = some r := H
        have A7 := zaa.mk A70
        clear A70
        have H' := zaa.mk H
        clear H
        have p103 : 0 ≤ (x3_1 : Int) := of_decide_eq_true (by assumption)
        have q103 : x3_1 < (l0.length : Int) := of_decide_eq_true (by assumption)
        obtain ⟨ad103, e103, hx103_0⟩ := Kd.at_string HR0.out x3_1 p103 q103
        cases e103
        replace p103 := eq_true p103
        replace q103 := eq_true q103
        have p104 : 0 ≤ (0 : Int) := (by omega)
        have q104 : 0 < (l0.length : Int) := of_decide_eq_true (by assumption)
        obtain ⟨ad104, e104, hx104_0⟩ := Kd.at_string HR0.out 0 p104 q104
        obtain rfl : ad103 = ad104 := (by injection e104)
        have qi104 : (0 < l0.length) = True := eq_true (by omega)
        (try rw [show ((0 : Int)).toNat = 0 from rfl] at hx104_0)
        (try rw [Addr.add_zero'] at hx104_0)
        replace p104 := eq_true p104
        replace q104 := eq_true q104
        have p105 : 0 ≤ (x3_1 : Int) := of_decide_eq_true (by assumption)
        have q105 : x3_1 < (l0.length : Int) := of_decide_eq_true (by assumption)
        obtain ⟨ad105, e105, hx105_0⟩ := Kd.at_string HR0.out x3_1 p105 q105
        obtain rfl : ad103 = ad105 := (by injection e105)
        replace p105 := eq_true p105
        replace q105 := eq_true q105
        go_wp2_with (first | (go_at_call 46; (with_reducible refine (spec_l6In.calls ((rdOf yaf l0 x3_1).size : Int) 1 6 t106 _ A7.out).mono ?_); rintro e w' ⟨rfl, ⟨nd, rfl⟩⟩; (try first | exact ⟨rfl, _, World.drewN_drewN _ _ _⟩ | exact ⟨rfl, _, Eq.trans (World.drewN_drewN _ _ _) (congrArg (World.drewN _) (Nat.add_assoc _ _ _))⟩)))
        repeat (go_quiet (first | (go_at_call 46; (with_reducible refine (spec_l6In.calls ((rdOf yaf l0 x3_1).size : Int) 1 6 t106 _ A7.out).mono ?_); rintro e w' ⟨rfl, ⟨nd, rfl⟩⟩; (try first | exact ⟨rfl, _, World.drewN_drewN _ _ _⟩ | exact ⟨rfl, _, Eq.trans (World.drewN_drewN _ _ _) (congrArg (World.drewN _) (Nat.add_assoc _ _ _))⟩))); try go_wp2_with (first | (go_at_call 46; (with_reducible refine (spec_l6In.calls ((rdOf yaf l0 x3_1).size : Int) 1 6 t106 _ A7.out).mono ?_); rintro e w' ⟨rfl, ⟨nd, rfl⟩⟩; (try first | exact ⟨rfl, _, World.drewN_drewN _ _ _⟩ | exact ⟨rfl, _, Eq.trans (World.drewN_drewN _ _ _) (congrArg (World.drewN _) (Nat.add_assoc _ _ _))⟩))))
        go_meet
        case rel => exact ⟨_, (!t106), (by first | rfl | (simp; done) | (simp [*]; done)), H', ⟨by have := HK1.out; first | omega | exact yai _⟩, by repeat (first | exact zba.refl _ | apply zba.step)⟩
       ·rw [if_neg c6] at H
        have c6b0 : (((rdOf yaf l0 x3_1).size : Int) == ((rdOf yaf l0 0).size : Int)) = false := beq_eq_false_iff_ne.mpr c6
        have c6b1 : (((rdOf yaf l0 x3_1).size : Int) != ((rdOf yaf l0 0).size : Int)) = true := bne_iff_ne.mpr c6
        have c6b2 : ((rdOf yaf l0 x3_1).size == (rdOf yaf l0 0).size) = false := by first | simpa using c6 | (simp at c6 ⊢; omega)
        have H' := zaa.mk H
        clear H
        have p103 : 0 ≤ (x3_1 : Int) := of_decide_eq_true (by assumption)
        have q103 : x3_1 < (l0.length : Int) := of_decide_eq_true (by assumption)
        obtain ⟨ad103, e103, hx103_0⟩ := Kd.at_string HR0.out x3_1 p103 q103
        cases e103
        replace p103 := eq_true p103
        replace q103 := eq_true q103
        have p104 : 0 ≤ (0 : Int) := (by omega)
        have q104 : 0 < (l0.length : Int) := of_decide_eq_true (by assumption)
        obtain ⟨ad104, e104, hx104_0⟩ := Kd.at_string HR0.out 0 p104 q104
        obtain rfl : ad103 = ad104 := (by injection e104)
        have qi104 : (0 < l0.length) = True := eq_true (by omega)
        (try rw [show ((0 : Int)).toNat = 0 from rfl] at hx104_0)
        (try rw [Addr.add_zero'] at hx104_0)
        replace p104 := eq_true p104
        replace q104 := eq_true q104
        go_wp2
        repeat (go_quiet (fail); try go_wp2)
        go_meet
        case rel => exact ⟨_, (true), (by first | rfl | (simp; done) | (simp [*]; done)), H', ⟨by have := HK1.out; first | omega | exact yai _⟩, by repeat (first | exact zba.refl _ | apply zba.step)⟩
      ·rw [if_neg c5] at H
       exact absurd H (by simp)
     ·rw [if_neg c4] at H
      exact absurd H (by simp)
    case rest =>
     clear HC3
     try clear p1
     try clear q1
     try clear hx1
     try clear qi1
     try clear c2
     try clear c2b0
     try clear p2
     try clear c4
     try clear c4b0
     try clear c5
     try clear c5b0
     try clear c5b1
     try clear c6
     try clear c6b0
     try clear c6b1
     try clear c6b2
     try clear hx103_0
     try clear hx104_0
     try clear hx105_0
     try clear p103
     try clear p104
     try clear p105
     try clear q103
     try clear q104
     try clear q105
     obtain ⟨kq, x29_2, rfl, HA, HJ2, ⟨mc2, rfl⟩⟩ := hcut
     cases kq with
     | zero => exact absurd HA.out (by simp [spec_l1Grid.j1])
     | succ kj2 =>
      have H := HA.out
      clear HA
      simp only [spec_l1Grid.j1] at H
      by_cases c8 : x29_2 = true
      ·subst c8
       have H1 : (some false) = some r := by rw [if_pos rfl] at H; exact H
       clear H
       have H := H1
       clear H1
       obtain rfl := Option.some.inj H
       go_wp2
       repeat (go_quiet (fail); try go_wp2)
       go_ret
       exact ⟨by first | rfl | (simp; done) | (simp [*]; done), by repeat (first | exact zba.refl _ | apply zba.step)⟩
      ·replace c8 := Bool.eq_false_iff.mpr c8
       subst c8
       have H1 : (spec_l1Grid.l1 kj2 l0 x3_1 0) = some r := by rw [if_neg (show ¬ (false = true) by decide)] at H; exact H
       clear H
       have H := H1
       clear H1
       have H' := zaa.mk H
       clear H
       go_wp2
       repeat (go_quiet (fail); try go_wp2)
       go_loopg [4] kj2 (fun kq v4 w' => ∃ (x4_3 : Int), v4 = .int .i64 x4_3 ∧ zaa (spec_l1Grid.l1 kq l0 x3_1 x4_3 = some r) ∧ zaa (kq ≤ kj2) ∧ zba w w')
       case atStart => exact ⟨(0), (by first | rfl | (simp; done) | (simp [*]; done)), H', ⟨yai _⟩, by repeat (first | exact zba.refl _ | apply zba.step)⟩
       case round =>
        clear H'
        try clear p1
        try clear q1
        try clear hx1
        try clear qi1
        try clear c2
        try clear c2b0
        try clear p2
        try clear c4
        try clear c4b0
        try clear c5
        try clear c5b0
        try clear c5b1
        try clear c6
        try clear c6b0
        try clear c6b1
        try clear c6b2
        try clear c8
        try clear hx103_0
        try clear hx104_0
        try clear hx105_0
        try clear p1
        try clear p103
        try clear p104
        try clear p105
        try clear p2
        try clear q1
        try clear q103
        try clear q104
        try clear q105
        obtain ⟨x4_3, rfl, HA, HK3, ⟨m3, rfl⟩⟩ := hrel
        cases gk with
        | zero => exact absurd HA.out (by simp [spec_l1Grid.l1])
        | succ k3 =>
         have H := HA.out
         clear HA
         simp only [spec_l1Grid.l1] at H
         by_cases c9 : 0 ≤ x3_1
         ·rw [if_pos c9] at H
          have c9b0 : decide (0 ≤ x3_1) = true := decide_eq_true c9
          clear c9
          by_cases c10 : x3_1 < (l0.length : Int)
          ·rw [if_pos c10] at H
           have c10b0 : decide (x3_1 < (l0.length : Int)) = true := decide_eq_true c10
           clear c10
           by_cases c11 : x4_3 < ((rdOf yaf l0 x3_1).size : Int)
           ·rw [if_pos c11] at H
            have c11b0 : decide (x4_3 < ((rdOf yaf l0 x3_1).size : Int)) = true := decide_eq_true c11
            clear c11
            by_cases c12 : 0 ≤ x4_3
            ·rw [if_pos c12] at H
             have c12b0 : decide (0 ≤ x4_3) = true := decide_eq_true c12
             clear c12
             by_cases c14 : (bt (rdOf yaf l0 x3_1) x4_3) < 97
             ·rw [if_pos c14] at H
              have c14b0 : decide ((bt (rdOf yaf l0 x3_1) x4_3) < 97) = true := decide_eq_true c14
              clear c14
              obtain rfl := Option.some.inj H
              have p107 : 0 ≤ (x3_1 : Int) := of_decide_eq_true (by assumption)
              have q107 : x3_1 < (l0.length : Int) := of_decide_eq_true (by assumption)
              obtain ⟨ad107, e107, hx107_0⟩ := Kd.at_string HR0.out x3_1 p107 q107
              cases e107
              replace p107 := eq_true p107
              replace q107 := eq_true q107
              have p108 : 0 ≤ (x3_1 : Int) := of_decide_eq_true (by assumption)
              have q108 : x3_1 < (l0.length : Int) := of_decide_eq_true (by assumption)
              obtain ⟨ad108, e108, hx108_0⟩ := Kd.at_string HR0.out x3_1 p108 q108
              obtain rfl : ad107 = ad108 := (by injection e108)
              replace p108 := eq_true p108
              replace q108 := eq_true q108
              have p13 : 0 ≤ (x4_3 : Int) := of_decide_eq_true (by assumption)
              have q13 : x4_3 < ((rdOf yaf l0 x3_1).size : Int) := of_decide_eq_true (by assumption)
              have hx13 := bt_at (rdOf yaf l0 x3_1) x4_3
              replace p13 := eq_true p13
              replace q13 := eq_true q13
              go_wp2
              repeat (go_quiet (fail); try go_wp2)
              go_ret
              exact ⟨by first | rfl | (simp; done) | (simp [*]; done), by repeat (first | exact zba.refl _ | apply zba.step)⟩
             ·rw [if_neg c14] at H
              have c14b0 : decide ((bt (rdOf yaf l0 x3_1) x4_3) < 97) = false := decide_eq_false c14
              clear c14
              by_cases c16 : (bt (rdOf yaf l0 x3_1) x4_3) > 122
              ·rw [if_pos c16] at H
               have c16b0 : decide (122 < (bt (rdOf yaf l0 x3_1) x4_3)) = true := decide_eq_true c16
               clear c16
               obtain rfl := Option.some.inj H
               have p107 : 0 ≤ (x3_1 : Int) := of_decide_eq_true (by assumption)
               have q107 : x3_1 < (l0.length : Int) := of_decide_eq_true (by assumption)
               obtain ⟨ad107, e107, hx107_0⟩ := Kd.at_string HR0.out x3_1 p107 q107
               cases e107
               replace p107 := eq_true p107
               replace q107 := eq_true q107
               have p108 : 0 ≤ (x3_1 : Int) := of_decide_eq_true (by assumption)
               have q108 : x3_1 < (l0.length : Int) := of_decide_eq_true (by assumption)
               obtain ⟨ad108, e108, hx108_0⟩ := Kd.at_string HR0.out x3_1 p108 q108
               obtain rfl : ad107 = ad108 := (by injection e108)
               replace p108 := eq_true p108
               replace q108 := eq_true q108
               have p13 : 0 ≤ (x4_3 : Int) := of_decide_eq_true (by assumption)
               have q13 : x4_3 < ((rdOf yaf l0 x3_1).size : Int) := of_decide_eq_true (by assumption)
               have hx13 := bt_at (rdOf yaf l0 x3_1) x4_3
               replace p13 := eq_true p13
               replace q13 := eq_true q13
               have p109 : 0 ≤ (x3_1 : Int) := of_decide_eq_true (by assumption)
               have q109 : x3_1 < (l0.length : Int) := of_decide_eq_true (by assumption)
               obtain ⟨ad109, e109, hx109_0⟩ := Kd.at_string HR0.out x3_1 p109 q109
               obtain rfl : ad107 = ad109 := (by injection e109)
               replace p109 := eq_true p109
               replace q109 := eq_true q109
               have p15 : 0 ≤ (x4_3 : Int) := of_decide_eq_true (by assumption)
               have q15 : x4_3 < ((rdOf yaf l0 x3_1).size : Int) := of_decide_eq_true (by assumption)
               have hx15 := bt_at (rdOf yaf l0 x3_1) x4_3
               replace p15 := eq_true p15
               replace q15 := eq_true q15
               go_wp2
               repeat (go_quiet (fail); try go_wp2)
               go_ret
               exact ⟨by first | rfl | (simp; done) | (simp [*]; done), by repeat (first | exact zba.refl _ | apply zba.step)⟩
              ·rw [if_neg c16] at H
               have c16b0 : decide (122 < (bt (rdOf yaf l0 x3_1) x4_3)) = false := decide_eq_false c16
               clear c16
               have H' := zaa.mk H
               clear H
               have p107 : 0 ≤ (x3_1 : Int) := of_decide_eq_true (by assumption)
               have q107 : x3_1 < (l0.length : Int) := of_decide_eq_true (by assumption)
               obtain ⟨ad107, e107, hx107_0⟩ := Kd.at_string HR0.out x3_1 p107 q107
               cases e107
               replace p107 := eq_true p107
               replace q107 := eq_true q107
               have p108 : 0 ≤ (x3_1 : Int) := of_decide_eq_true (by assumption)
               have q108 : x3_1 < (l0.length : Int) := of_decide_eq_true (by assumption)
               obtain ⟨ad108, e108, hx108_0⟩ := Kd.at_string HR0.out x3_1 p108 q108
               obtain rfl : ad107 = ad108 := (by injection e108)
               replace p108 := eq_true p108
               replace q108 := eq_true q108
               have p13 : 0 ≤ (x4_3 : Int) := of_decide_eq_true (by assumption)
               have q13 : x4_3 < ((rdOf yaf l0 x3_1).size : Int) := of_decide_eq_true (by assumption)
               have hx13 := bt_at (rdOf yaf l0 x3_1) x4_3
               replace p13 := eq_true p13
               replace q13 := eq_true q13
               have p109 : 0 ≤ (x3_1 : Int) := of_decide_eq_true (by assumption)
               have q109 : x3_1 < (l0.length : Int) := of_decide_eq_true (by assumption)
               obtain ⟨ad109, e109, hx109_0⟩ := Kd.at_string HR0.out x3_1 p109 q109
               obtain rfl : ad107 = ad109 := (by injection e109)
               replace p109 := eq_true p109
               replace q109 := eq_true q109
               have p15 : 0 ≤ (x4_3 : Int) := of_decide_eq_true (by assumption)
               have q15 : x4_3 < ((rdOf yaf l0 x3_1).size : Int) := of_decide_eq_true (by assumption)
               have hx15 := bt_at (rdOf yaf l0 x3_1) x4_3
               replace p15 := eq_true p15
               replace q15 := eq_true q15
               go_wp2
               repeat (go_quiet (fail); try go_wp2)
               go_roundg k3
               case measure => have := HK1.out; have := HJ2.out; have := HK3.out; omega
               case rel => exact ⟨(wrap64 (x4_3 + 1)), (by first | rfl | (simp; done) | (simp [*]; done)), H', ⟨by have := HK1.out; have := HJ2.out; have := HK3.out; omega⟩, by repeat (first | exact zba.refl _ | apply zba.step)⟩
            ·rw [if_neg c12] at H
             exact absurd H (by simp)
           ·rw [if_neg c11] at H
            have c11b0 : decide (x4_3 < ((rdOf yaf l0 x3_1).size : Int)) = false := decide_eq_false c11
            clear c11
            have H' := zaa.mk H
            clear H
            have p107 : 0 ≤ (x3_1 : Int) := of_decide_eq_true (by assumption)
            have q107 : x3_1 < (l0.length : Int) := of_decide_eq_true (by assumption)
            obtain ⟨ad107, e107, hx107_0⟩ := Kd.at_string HR0.out x3_1 p107 q107
            cases e107
            replace p107 := eq_true p107
            replace q107 := eq_true q107
            go_wp2
            repeat (go_quiet (fail); try go_wp2)
            go_roundg k3
            case measure => have := HK1.out; have := HJ2.out; have := HK3.out; omega
            case rel => exact ⟨(wrap64 (x3_1 + 1)), (by first | rfl | (simp; done) | (simp [*]; done)), H', ⟨by have := HK1.out; have := HJ2.out; have := HK3.out; omega⟩, by repeat (first | exact zba.refl _ | apply zba.step)⟩
          ·rw [if_neg c10] at H
           exact absurd H (by simp)
         ·rw [if_neg c9] at H
          exact absurd H (by simp)
   ·rw [if_neg c2] at H
    have c2b0 : decide (x3_1 < (l0.length : Int)) = false := decide_eq_false c2
    clear c2
    replace H := yag.mp H
    obtain ⟨t102, A170, H⟩ := H
    replace H : (some t102) = some r := H
    have A17 := zaa.mk A170
    clear A170
    obtain rfl := Option.some.inj H
    go_wp2_with (first | (go_at_call 46; (with_reducible refine (spec_l6In.calls (l0.length : Int) 1 6 t102 _ A17.out).mono ?_); rintro e w' ⟨rfl, ⟨nd, rfl⟩⟩; (try first | exact ⟨rfl, _, World.drewN_drewN _ _ _⟩ | exact ⟨rfl, _, Eq.trans (World.drewN_drewN _ _ _) (congrArg (World.drewN _) (Nat.add_assoc _ _ _))⟩)))
    repeat (go_quiet (first | (go_at_call 46; (with_reducible refine (spec_l6In.calls (l0.length : Int) 1 6 t102 _ A17.out).mono ?_); rintro e w' ⟨rfl, ⟨nd, rfl⟩⟩; (try first | exact ⟨rfl, _, World.drewN_drewN _ _ _⟩ | exact ⟨rfl, _, Eq.trans (World.drewN_drewN _ _ _) (congrArg (World.drewN _) (Nat.add_assoc _ _ _))⟩))); try go_wp2_with (first | (go_at_call 46; (with_reducible refine (spec_l6In.calls (l0.length : Int) 1 6 t102 _ A17.out).mono ?_); rintro e w' ⟨rfl, ⟨nd, rfl⟩⟩; (try first | exact ⟨rfl, _, World.drewN_drewN _ _ _⟩ | exact ⟨rfl, _, Eq.trans (World.drewN_drewN _ _ _) (congrArg (World.drewN _) (Nat.add_assoc _ _ _))⟩))))
    go_ret
    exact ⟨by first | rfl | (simp; done) | (simp [*]; done), by repeat (first | exact zba.refl _ | apply zba.step)⟩
end Go.Proofs.Ytickdcegnlldjaa.PB
namespace Go.Proofs.Ytickdcegnlldjaa.PB
open Go.RowKit Go.PW.PrintWords Go.PW.PrintLast Go.PW.PrintMore
attribute [local go_sem] zce zcc zcq zcp zbv zbu zcd zcb   -- for this text's walks alone
def spec_l1Same.l0 : Nat → List ByteArray → List ByteArray → Int → Option (Bool)
 | 0, _, _, _ => none
 | k + 1, x0, x1, x5 => if x5 < (x0.length : Int) then (if 0 ≤ x5 then (if x5 < (x1.length : Int) then (if (rdOf yaf x0 x5).toList = (rdOf yaf x1 x5).toList then (spec_l1Same.l0 k x0 x1 (wrap64 (x5 + 1))) else (some false)) else (none)) else (none)) else (some true)
def spec_l1Same.f (k : Nat) (l0 : List ByteArray) (l1 : List ByteArray) : Option (Bool) := if (l0.length : Int) = (l1.length : Int) then (spec_l1Same.l0 k l0 l1 0) else (some false)
set_option maxHeartbeats 8000000 in
set_option maxRecDepth 100000 in
theorem spec_l1Same.calls (k : Nat) (A0 : Option Addr) (c0 : Nat) (l0 : List ByteArray) (A1 : Option Addr) (c1 : Nat) (l1 : List ByteArray) (r : Bool) (w : World) (hr0 : Kd.C Kd.string w A0 l0.length l0) (hc0 : l0.length ≤ c0) (hr1 : Kd.C Kd.string w A1 l1.length l1) (hc1 : l1.length ≤ c1) (h : spec_l1Same.f k l0 l1 = some r) :
  Calls Try.prog 85 #[.slice A0 l0.length c0, .slice A1 l1.length c1] w fun e w' => e = .returned (.bool r) ∧ zba w w' := by
 have HR0 := zaa.mk hr0
 have HC0 := zaa.mk hc0
 clear hr0 hc0
 have HR1 := zaa.mk hr1
 have HC1 := zaa.mk hc1
 clear hr1 hc1
 have H : (if (l0.length : Int) = (l1.length : Int) then (spec_l1Same.l0 k l0 l1 0) else (some false)) = some r := h
 clear h
 by_cases c3 : (l0.length : Int) = (l1.length : Int)
 ·rw [if_pos c3] at H
  have c3b0 : ((l0.length : Int) == (l1.length : Int)) = true := beq_iff_eq.mpr c3
  have c3b1 : ((l0.length : Int) != (l1.length : Int)) = false := bne_eq_false_iff_eq.mpr c3
  have c3b2 : (l0.length == l1.length) = true := by first | simpa using c3 | (simp at c3 ⊢; omega)
  clear c3
  have H' := zaa.mk H
  clear H
  go_enter Try.func85, Try.ntmps85
  go_wp2
  repeat (go_quiet (fail); try go_wp2)
  go_loopg [5] k (fun kq v5 w' => ∃ (x5_1 : Int), v5 = .int .i64 x5_1 ∧ zaa (spec_l1Same.l0 kq l0 l1 x5_1 = some r) ∧ zaa (kq ≤ k) ∧ zba w w')
  case atStart => exact ⟨(0), (by first | rfl | (simp; done) | (simp [*]; done)), H', ⟨yai _⟩, by repeat (first | exact zba.refl _ | apply zba.step)⟩
  case round =>
   clear H'
   try clear c1
   try clear p2
   try clear c3
   try clear c3b0
   try clear c3b1
   try clear c3b2
   obtain ⟨x5_1, rfl, HA, HK1, ⟨m1, rfl⟩⟩ := hrel
   cases gk with
   | zero => exact absurd HA.out (by simp [spec_l1Same.l0])
   | succ k1 =>
    have H := HA.out
    clear HA
    simp only [spec_l1Same.l0] at H
    by_cases c4 : x5_1 < (l0.length : Int)
    ·rw [if_pos c4] at H
     have c4b0 : decide (x5_1 < (l0.length : Int)) = true := decide_eq_true c4
     clear c4
     by_cases c5 : 0 ≤ x5_1
     ·rw [if_pos c5] at H
      have c5b0 : decide (0 ≤ x5_1) = true := decide_eq_true c5
      clear c5
      by_cases c6 : x5_1 < (l1.length : Int)
      ·rw [if_pos c6] at H
       have c6b0 : decide (x5_1 < (l1.length : Int)) = true := decide_eq_true c6
       clear c6
       by_cases c7 : (rdOf yaf l0 x5_1).toList = (rdOf yaf l1 x5_1).toList
       ·rw [if_pos c7] at H
        have c7b0 : ((rdOf yaf l0 x5_1).toList == (rdOf yaf l1 x5_1).toList) = true := beq_iff_eq.mpr c7
        have c7b1 : ((rdOf yaf l0 x5_1).toList != (rdOf yaf l1 x5_1).toList) = false := bne_eq_false_iff_eq.mpr c7
        clear c7
        have H' := zaa.mk H
        clear H
        have p110 : 0 ≤ (x5_1 : Int) := of_decide_eq_true (by assumption)
        have q110 : x5_1 < (l0.length : Int) := of_decide_eq_true (by assumption)
        obtain ⟨ad110, e110, hx110_0⟩ := Kd.at_string HR0.out x5_1 p110 q110
        cases e110
        replace p110 := eq_true p110
        replace q110 := eq_true q110
        have p111 : 0 ≤ (x5_1 : Int) := of_decide_eq_true (by assumption)
        have q111 : x5_1 < (l1.length : Int) := of_decide_eq_true (by assumption)
        obtain ⟨ad111, e111, hx111_0⟩ := Kd.at_string HR1.out x5_1 p111 q111
        cases e111
        replace p111 := eq_true p111
        replace q111 := eq_true q111
        go_wp2
        repeat (go_quiet (fail); try go_wp2)
        go_roundg k1
        case measure => have := HK1.out; omega
        case rel => exact ⟨(wrap64 (x5_1 + 1)), (by first | rfl | (simp; done) | (simp [*]; done)), H', ⟨by have := HK1.out; omega⟩, by repeat (first | exact zba.refl _ | apply zba.step)⟩
       ·rw [if_neg c7] at H
        have c7b0 : ((rdOf yaf l0 x5_1).toList == (rdOf yaf l1 x5_1).toList) = false := beq_eq_false_iff_ne.mpr c7
        have c7b1 : ((rdOf yaf l0 x5_1).toList != (rdOf yaf l1 x5_1).toList) = true := bne_iff_ne.mpr c7
        obtain rfl := Option.some.inj H
        have p110 : 0 ≤ (x5_1 : Int) := of_decide_eq_true (by assumption)
        have q110 : x5_1 < (l0.length : Int) := of_decide_eq_true (by assumption)
        obtain ⟨ad110, e110, hx110_0⟩ := Kd.at_string HR0.out x5_1 p110 q110
        cases e110
        replace p110 := eq_true p110
        replace q110 := eq_true q110
        have p111 : 0 ≤ (x5_1 : Int) := of_decide_eq_true (by assumption)
        have q111 : x5_1 < (l1.length : Int) := of_decide_eq_true (by assumption)
        obtain ⟨ad111, e111, hx111_0⟩ := Kd.at_string HR1.out x5_1 p111 q111
        cases e111
        replace p111 := eq_true p111
        replace q111 := eq_true q111
        go_wp2
        repeat (go_quiet (fail); try go_wp2)
        go_ret
        exact ⟨by first | rfl | (simp; done) | (simp [*]; done), by repeat (first | exact zba.refl _ | apply zba.step)⟩
      ·rw [if_neg c6] at H
       exact absurd H (by simp)
     ·rw [if_neg c5] at H
      exact absurd H (by simp)
    ·rw [if_neg c4] at H
     have c4b0 : decide (x5_1 < (l0.length : Int)) = false := decide_eq_false c4
     clear c4
     obtain rfl := Option.some.inj H
     go_wp2
     repeat (go_quiet (fail); try go_wp2)
     go_ret
     exact ⟨by first | rfl | (simp; done) | (simp [*]; done), by repeat (first | exact zba.refl _ | apply zba.step)⟩
 ·rw [if_neg c3] at H
  have c3b0 : ((l0.length : Int) == (l1.length : Int)) = false := beq_eq_false_iff_ne.mpr c3
  have c3b1 : ((l0.length : Int) != (l1.length : Int)) = true := bne_iff_ne.mpr c3
  have c3b2 : (l0.length == l1.length) = false := by first | simpa using c3 | (simp at c3 ⊢; omega)
  obtain rfl := Option.some.inj H
  go_enter Try.func85, Try.ntmps85
  go_wp2
  repeat (go_quiet (fail); try go_wp2)
  go_ret
  exact ⟨by first | rfl | (simp; done) | (simp [*]; done), by repeat (first | exact zba.refl _ | apply zba.step)⟩
end Go.Proofs.Ytickdcegnlldjaa.PB
namespace Go.Proofs.Ytickdcegnlldjaa.PB
open Go.RowKit Go.PW.PrintWords Go.PW.PrintLast Go.PW.PrintMore
attribute [local go_sem] zce zcc zcq zcp zbv zbu zcd zcb   -- for this text's walks alone
mutual
def spec_l1Names.l0 : Nat → List ByteArray → List Int → List ByteArray → Int → Option (List ByteArray)
 | 0, _, _, _, _ => none
 | k + 1, x0, x3, x4, x5 => if x5 < (x0.length : Int) then (spec_l1Names.l1 k x0 x3 x4 x5 (([] : List Int)) 0) else (some x4)
def spec_l1Names.l1 : Nat → List ByteArray → List Int → List ByteArray → Int → List Int → Int → Option (List ByteArray)
 | 0, _, _, _, _, _, _ => none
 | k + 1, x0, x3, x4, x5, x6, x7 => if 0 ≤ x5 then (if x5 < (x0.length : Int) then (if x7 < ((rdOf yaf x0 x5).size : Int) then (spec_l1Names.l2 k x0 x3 x4 x5 x6 x7 0) else (if x4.length < 8796093022208 then (spec_l1Names.l0 k x0 x3 (x4 ++ [strOfNums x6]) (wrap64 (x5 + 1))) else (none))) else (none)) else (none)
def spec_l1Names.l2 : Nat → List ByteArray → List Int → List ByteArray → Int → List Int → Int → Int → Option (List ByteArray)
 | 0, _, _, _, _, _, _, _ => none
 | k + 1, x0, x3, x4, x5, x6, x7, x8 => if x8 < (x3.length : Int) then (if 0 ≤ x8 then (if 0 ≤ x5 then (if x5 < (x0.length : Int) then (if 0 ≤ x7 then (if x7 < ((rdOf yaf x0 x5).size : Int) then (if (rd x3 x8) = (bt (rdOf yaf x0 x5) x7) then (if x8 = (x3.length : Int) then (if x3.length < 140737488355328 then (if x6.length < 140737488355328 then (spec_l1Names.l1 k x0 (x3 ++ [bt (rdOf yaf x0 x5) x7]) x4 x5 (x6 ++ [(wrap64 (97 + x8)) % 256]) (wrap64 (x7 + 1))) else (none)) else (none)) else (if x6.length < 140737488355328 then (spec_l1Names.l1 k x0 x3 x4 x5 (x6 ++ [(wrap64 (97 + x8)) % 256]) (wrap64 (x7 + 1))) else (none))) else (spec_l1Names.l2 k x0 x3 x4 x5 x6 x7 (wrap64 (x8 + 1)))) else (none)) else (none)) else (none)) else (none)) else (none)) else (if x8 = (x3.length : Int) then (if 0 ≤ x5 then (if x5 < (x0.length : Int) then (if 0 ≤ x7 then (if x7 < ((rdOf yaf x0 x5).size : Int) then (if x3.length < 140737488355328 then (if x6.length < 140737488355328 then (spec_l1Names.l1 k x0 (x3 ++ [bt (rdOf yaf x0 x5) x7]) x4 x5 (x6 ++ [(wrap64 (97 + x8)) % 256]) (wrap64 (x7 + 1))) else (none)) else (none)) else (none)) else (none)) else (none)) else (none)) else (if x6.length < 140737488355328 then (spec_l1Names.l1 k x0 x3 x4 x5 (x6 ++ [(wrap64 (97 + x8)) % 256]) (wrap64 (x7 + 1))) else (none)))
end
def spec_l1Names.f (k : Nat) (l0 : List ByteArray) : Option (List ByteArray) := spec_l1Names.l0 k l0 (([] : List Int)) (([] : List ByteArray)) 0
set_option maxHeartbeats 8000000 in
set_option maxRecDepth 100000 in
theorem spec_l1Names.calls (k : Nat) (A0 : Option Addr) (c0 : Nat) (l0 : List ByteArray) (r : List ByteArray) (w : World) (hr0 : Kd.C Kd.string w A0 l0.length l0) (hc0 : l0.length ≤ c0) (h : spec_l1Names.f k l0 = some r) :
  Calls Try.prog 86 #[.slice A0 l0.length c0] w fun e w' => ∃ v0_ : Value, e = .returned (v0_) ∧ Kd.R Kd.string 9 w' w.heap.size (fun _ => True) v0_ r ∧ Below w.heap.size w w' := by
 have HR0 := zaa.mk hr0
 have HC0 := zaa.mk hc0
 clear hr0 hc0
 have HB := zaa.mk (Below.refl w.heap.size w)
 have H : (spec_l1Names.l0 k l0 (([] : List Int)) (([] : List ByteArray)) 0) = some r := h
 clear h
 obtain ⟨y112, hy112⟩ : ∃ y_ : List Int, y_ = (([] : List Int)) := ⟨_, rfl⟩
 replace H : (spec_l1Names.l0 k l0 y112 (([] : List ByteArray)) 0) = some r := by first | (rw [hy112]; with_reducible exact H) | (have H2_ := (yah _ _).symm.trans H; rw [hy112]; with_reducible exact H2_) | (have H2_ := (yah _ _).symm.trans H; with_reducible exact H2_) | with_reducible exact H | (rw [hy112]; exact H) | exact H
 have Ny112 := zaa.mk hy112
 clear hy112
 obtain ⟨y115, hy115⟩ : ∃ y_ : List ByteArray, y_ = (([] : List ByteArray)) := ⟨_, rfl⟩
 replace H : (spec_l1Names.l0 k l0 y112 y115 0) = some r := by first | (rw [hy115]; with_reducible exact H) | (have H2_ := (yah _ _).symm.trans H; rw [hy115]; with_reducible exact H2_) | (have H2_ := (yah _ _).symm.trans H; with_reducible exact H2_) | with_reducible exact H | (rw [hy115]; exact H) | exact H
 have Ny115 := zaa.mk hy115
 clear hy115
 have H' := zaa.mk H
 clear H
 go_enter Try.func86, Try.ntmps86
 go_wp2_with (first | ((with_reducible refine zbb (N := 9) rfl ?_); refine Kd.R_lit (Kd.int .u8) _ 5 ?hg (N := 9) ?hd (xs := ([] : List Int)) (inner := []) (ok := fun _ => True) (okp := fun _ => True) ?hr ?hp (fun _ hk => hk) trivial (Below.refl _ _) (yai _) (by simp) ?_; (case hd => rfl); (case hg => rfl); (case hr => first | (go_simp; done) | (go_simp; rfl)); (case hp => exact (Reps.none _ _)); intro v113 w2 ho3 hb hg_ hnew_; clear hg_ hnew_; (first | rw [← Ny112.out] at ho3 | (simp only [Int.reduceToNat] at ho3; rw [← Ny112.out] at ho3)); have n0_ := zaa.mk (Kd.R_lower ho3 (zag (by repeat (first | (with_reducible first | exact HB.out | apply zac | apply zab | apply zad) | exact HB.out)))); have n1_ := zaa.mk (zae (by repeat (first | (with_reducible first | exact HB.out | apply zac | apply zab | apply zad) | exact HB.out)) hb); clear HB; have HO114 := n0_; have HB := n1_; clear n0_ n1_; clear hb ho3) | ((with_reducible refine zbb (N := 10) rfl ?_); refine Kd.R_lit Kd.string _ 9 ?hg (N := 10) ?hd (xs := ([] : List ByteArray)) (inner := []) (ok := fun _ => True) (okp := fun _ => True) ?hr ?hp (fun _ hk => hk) trivial (Below.refl _ _) (yai _) (by simp) ?_; (case hd => rfl); (case hg => rfl); (case hr => first | (go_simp; done) | (go_simp; rfl)); (case hp => exact (Reps.none _ _)); intro v116 w4 ho5 hb hg_ hnew_; clear hg_ hnew_; (first | rw [← Ny115.out] at ho5 | (simp only [Int.reduceToNat] at ho5; rw [← Ny115.out] at ho5)); have n0_ := zaa.mk (Kd.R_below (by (with_reducible repeat (first | apply yaj | apply yak | apply yal)); exact HO114.out) hb); have n1_ := zaa.mk (Kd.R_lower ho5 (zag (by repeat (first | (with_reducible first | exact HB.out | apply zac | apply zab | apply zad) | exact HB.out)))); have n2_ := zaa.mk (zae (by repeat (first | (with_reducible first | exact HB.out | apply zac | apply zab | apply zad) | exact HB.out)) hb); clear HO114; clear HB; have HO114 := n0_; have HO117 := n1_; have HB := n2_; clear n0_ n1_ n2_; clear hb ho5))
 repeat (go_quiet (first | ((with_reducible refine zbb (N := 9) rfl ?_); refine Kd.R_lit (Kd.int .u8) _ 5 ?hg (N := 9) ?hd (xs := ([] : List Int)) (inner := []) (ok := fun _ => True) (okp := fun _ => True) ?hr ?hp (fun _ hk => hk) trivial (Below.refl _ _) (yai _) (by simp) ?_; (case hd => rfl); (case hg => rfl); (case hr => first | (go_simp; done) | (go_simp; rfl)); (case hp => exact (Reps.none _ _)); intro v113 w2 ho3 hb hg_ hnew_; clear hg_ hnew_; (first | rw [← Ny112.out] at ho3 | (simp only [Int.reduceToNat] at ho3; rw [← Ny112.out] at ho3)); have n0_ := zaa.mk (Kd.R_lower ho3 (zag (by repeat (first | (with_reducible first | exact HB.out | apply zac | apply zab | apply zad) | exact HB.out)))); have n1_ := zaa.mk (zae (by repeat (first | (with_reducible first | exact HB.out | apply zac | apply zab | apply zad) | exact HB.out)) hb); clear HB; have HO114 := n0_; have HB := n1_; clear n0_ n1_; clear hb ho3) | ((with_reducible refine zbb (N := 10) rfl ?_); refine Kd.R_lit Kd.string _ 9 ?hg (N := 10) ?hd (xs := ([] : List ByteArray)) (inner := []) (ok := fun _ => True) (okp := fun _ => True) ?hr ?hp (fun _ hk => hk) trivial (Below.refl _ _) (yai _) (by simp) ?_; (case hd => rfl); (case hg => rfl); (case hr => first | (go_simp; done) | (go_simp; rfl)); (case hp => exact (Reps.none _ _)); intro v116 w4 ho5 hb hg_ hnew_; clear hg_ hnew_; (first | rw [← Ny115.out] at ho5 | (simp only [Int.reduceToNat] at ho5; rw [← Ny115.out] at ho5)); have n0_ := zaa.mk (Kd.R_below (by (with_reducible repeat (first | apply yaj | apply yak | apply yal)); exact HO114.out) hb); have n1_ := zaa.mk (Kd.R_lower ho5 (zag (by repeat (first | (with_reducible first | exact HB.out | apply zac | apply zab | apply zad) | exact HB.out)))); have n2_ := zaa.mk (zae (by repeat (first | (with_reducible first | exact HB.out | apply zac | apply zab | apply zad) | exact HB.out)) hb); clear HO114; clear HB; have HO114 := n0_; have HO117 := n1_; have HB := n2_; clear n0_ n1_ n2_; clear hb ho5)); try go_wp2_with (first | ((with_reducible refine zbb (N := 9) rfl ?_); refine Kd.R_lit (Kd.int .u8) _ 5 ?hg (N := 9) ?hd (xs := ([] : List Int)) (inner := []) (ok := fun _ => True) (okp := fun _ => True) ?hr ?hp (fun _ hk => hk) trivial (Below.refl _ _) (yai _) (by simp) ?_; (case hd => rfl); (case hg => rfl); (case hr => first | (go_simp; done) | (go_simp; rfl)); (case hp => exact (Reps.none _ _)); intro v113 w2 ho3 hb hg_ hnew_; clear hg_ hnew_; (first | rw [← Ny112.out] at ho3 | (simp only [Int.reduceToNat] at ho3; rw [← Ny112.out] at ho3)); have n0_ := zaa.mk (Kd.R_lower ho3 (zag (by repeat (first | (with_reducible first | exact HB.out | apply zac | apply zab | apply zad) | exact HB.out)))); have n1_ := zaa.mk (zae (by repeat (first | (with_reducible first | exact HB.out | apply zac | apply zab | apply zad) | exact HB.out)) hb); clear HB; have HO114 := n0_; have HB := n1_; clear n0_ n1_; clear hb ho3) | ((with_reducible refine zbb (N := 10) rfl ?_); refine Kd.R_lit Kd.string _ 9 ?hg (N := 10) ?hd (xs := ([] : List ByteArray)) (inner := []) (ok := fun _ => True) (okp := fun _ => True) ?hr ?hp (fun _ hk => hk) trivial (Below.refl _ _) (yai _) (by simp) ?_; (case hd => rfl); (case hg => rfl); (case hr => first | (go_simp; done) | (go_simp; rfl)); (case hp => exact (Reps.none _ _)); intro v116 w4 ho5 hb hg_ hnew_; clear hg_ hnew_; (first | rw [← Ny115.out] at ho5 | (simp only [Int.reduceToNat] at ho5; rw [← Ny115.out] at ho5)); have n0_ := zaa.mk (Kd.R_below (by (with_reducible repeat (first | apply yaj | apply yak | apply yal)); exact HO114.out) hb); have n1_ := zaa.mk (Kd.R_lower ho5 (zag (by repeat (first | (with_reducible first | exact HB.out | apply zac | apply zab | apply zad) | exact HB.out)))); have n2_ := zaa.mk (zae (by repeat (first | (with_reducible first | exact HB.out | apply zac | apply zab | apply zad) | exact HB.out)) hb); clear HO114; clear HB; have HO114 := n0_; have HO117 := n1_; have HB := n2_; clear n0_ n1_ n2_; clear hb ho5)))
 go_loopg [3, 4, 5] k (fun kq v3 v4 v5 w' => ∃ (x3_1 : List Int) (x4_1 : List ByteArray) (x5_1 : Int), v5 = .int .i64 x5_1 ∧ zaa (spec_l1Names.l0 kq l0 x3_1 x4_1 x5_1 = some r) ∧ zaa (kq ≤ k) ∧ zaa (Kd.R (Kd.int .u8) 5 w' w.heap.size (fun _ => True) v3 x3_1) ∧ zaa (Kd.R Kd.string 9 w' w.heap.size (fun _ => True) v4 x4_1) ∧ zaa (Below w.heap.size w w'))
 case atStart => exact ⟨(y112), (y115), (0), (by first | rfl | (simp; done) | (simp [*]; done)), H', ⟨yai _⟩, ⟨by (with_reducible repeat (first | apply yaj | apply yak | apply yal)); exact HO114.out⟩, ⟨by (with_reducible repeat (first | apply yaj | apply yak | apply yal)); exact HO117.out⟩, ⟨by repeat (first | (with_reducible first | exact HB.out | apply zac | apply zab | apply zad) | exact HB.out)⟩⟩
 case round =>
  clear H'
  try clear p2
  obtain ⟨x3_1, x4_1, x5_1, rfl, HA, HK1, HO_3, HO_4, HB⟩ := hrel
  cases gk with
  | zero => exact absurd HA.out (by simp [spec_l1Names.l0])
  | succ k1 =>
   have H := HA.out
   clear HA
   simp only [spec_l1Names.l0] at H
   by_cases c6 : x5_1 < (l0.length : Int)
   ·rw [if_pos c6] at H
    have c6b0 : decide (x5_1 < (l0.length : Int)) = true := decide_eq_true c6
    clear c6
    obtain ⟨y118, hy118⟩ : ∃ y_ : List Int, y_ = (([] : List Int)) := ⟨_, rfl⟩
    replace H : (spec_l1Names.l1 k1 l0 x3_1 x4_1 x5_1 y118 0) = some r := by first | (rw [hy118]; with_reducible exact H) | (have H2_ := (yah _ _).symm.trans H; rw [hy118]; with_reducible exact H2_) | (have H2_ := (yah _ _).symm.trans H; with_reducible exact H2_) | with_reducible exact H | (rw [hy118]; exact H) | exact H
    have Ny118 := zaa.mk hy118
    clear hy118
    have H' := zaa.mk H
    clear H
    go_wp2_with (first | ((with_reducible refine zbb (N := 17) rfl ?_); refine Kd.R_lit (Kd.int .u8) _ 5 ?hg (N := 17) ?hd (xs := ([] : List Int)) (inner := []) (ok := fun _ => True) (okp := fun _ => True) ?hr ?hp (fun _ hk => hk) trivial (Below.refl _ _) (yai _) (by simp) ?_; (case hd => rfl); (case hg => rfl); (case hr => first | (go_simp; done) | (go_simp; rfl)); (case hp => exact (Reps.none _ _)); intro v119 w7 ho8 hb hg_ hnew_; clear hg_ hnew_; (first | rw [← Ny118.out] at ho8 | (simp only [Int.reduceToNat] at ho8; rw [← Ny118.out] at ho8)); have n0_ := zaa.mk (Kd.R_elder' (by (with_reducible repeat (first | apply yaj | apply yak | apply yal)); exact HO_3.out) (Kd.R_base ho8) hb); have n1_ := zaa.mk (Kd.R_below (by (with_reducible repeat (first | apply yaj | apply yak | apply yal)); exact HO_4.out) hb); have n2_ := zaa.mk (Kd.R_lower (Kd.R_new' ho8 (Kd.R_lt (by (with_reducible repeat (first | apply yaj | apply yak | apply yal)); exact HO_3.out))) (zag (by repeat (first | (with_reducible first | exact HB.out | apply zac | apply zab | apply zad) | exact HB.out)))); have n3_ := zaa.mk (zae (by repeat (first | (with_reducible first | exact HB.out | apply zac | apply zab | apply zad) | exact HB.out)) hb); clear HO_3; clear HO_4; clear HB; have HO_3 := n0_; have HO_4 := n1_; have HO120 := n2_; have HB := n3_; clear n0_ n1_ n2_ n3_; clear hb ho8))
    repeat (go_quiet (first | ((with_reducible refine zbb (N := 17) rfl ?_); refine Kd.R_lit (Kd.int .u8) _ 5 ?hg (N := 17) ?hd (xs := ([] : List Int)) (inner := []) (ok := fun _ => True) (okp := fun _ => True) ?hr ?hp (fun _ hk => hk) trivial (Below.refl _ _) (yai _) (by simp) ?_; (case hd => rfl); (case hg => rfl); (case hr => first | (go_simp; done) | (go_simp; rfl)); (case hp => exact (Reps.none _ _)); intro v119 w7 ho8 hb hg_ hnew_; clear hg_ hnew_; (first | rw [← Ny118.out] at ho8 | (simp only [Int.reduceToNat] at ho8; rw [← Ny118.out] at ho8)); have n0_ := zaa.mk (Kd.R_elder' (by (with_reducible repeat (first | apply yaj | apply yak | apply yal)); exact HO_3.out) (Kd.R_base ho8) hb); have n1_ := zaa.mk (Kd.R_below (by (with_reducible repeat (first | apply yaj | apply yak | apply yal)); exact HO_4.out) hb); have n2_ := zaa.mk (Kd.R_lower (Kd.R_new' ho8 (Kd.R_lt (by (with_reducible repeat (first | apply yaj | apply yak | apply yal)); exact HO_3.out))) (zag (by repeat (first | (with_reducible first | exact HB.out | apply zac | apply zab | apply zad) | exact HB.out)))); have n3_ := zaa.mk (zae (by repeat (first | (with_reducible first | exact HB.out | apply zac | apply zab | apply zad) | exact HB.out)) hb); clear HO_3; clear HO_4; clear HB; have HO_3 := n0_; have HO_4 := n1_; have HO120 := n2_; have HB := n3_; clear n0_ n1_ n2_ n3_; clear hb ho8)); try go_wp2_with (first | ((with_reducible refine zbb (N := 17) rfl ?_); refine Kd.R_lit (Kd.int .u8) _ 5 ?hg (N := 17) ?hd (xs := ([] : List Int)) (inner := []) (ok := fun _ => True) (okp := fun _ => True) ?hr ?hp (fun _ hk => hk) trivial (Below.refl _ _) (yai _) (by simp) ?_; (case hd => rfl); (case hg => rfl); (case hr => first | (go_simp; done) | (go_simp; rfl)); (case hp => exact (Reps.none _ _)); intro v119 w7 ho8 hb hg_ hnew_; clear hg_ hnew_; (first | rw [← Ny118.out] at ho8 | (simp only [Int.reduceToNat] at ho8; rw [← Ny118.out] at ho8)); have n0_ := zaa.mk (Kd.R_elder' (by (with_reducible repeat (first | apply yaj | apply yak | apply yal)); exact HO_3.out) (Kd.R_base ho8) hb); have n1_ := zaa.mk (Kd.R_below (by (with_reducible repeat (first | apply yaj | apply yak | apply yal)); exact HO_4.out) hb); have n2_ := zaa.mk (Kd.R_lower (Kd.R_new' ho8 (Kd.R_lt (by (with_reducible repeat (first | apply yaj | apply yak | apply yal)); exact HO_3.out))) (zag (by repeat (first | (with_reducible first | exact HB.out | apply zac | apply zab | apply zad) | exact HB.out)))); have n3_ := zaa.mk (zae (by repeat (first | (with_reducible first | exact HB.out | apply zac | apply zab | apply zad) | exact HB.out)) hb); clear HO_3; clear HO_4; clear HB; have HO_3 := n0_; have HO_4 := n1_; have HO120 := n2_; have HB := n3_; clear n0_ n1_ n2_ n3_; clear hb ho8)))
    go_loopg [3, 6, 7] k1 (fun kq v3 v6 v7 w' => ∃ (x3_2 : List Int) (x6_2 : List Int) (x7_2 : Int), v7 = .int .i64 x7_2 ∧ zaa (spec_l1Names.l1 kq l0 x3_2 x4_1 x5_1 x6_2 x7_2 = some r) ∧ zaa (kq ≤ k1) ∧ zaa (Kd.R (Kd.int .u8) 5 w' w.heap.size (fun k_ => some k_ ≠ (v6 : Value).ownBlock) v3 x3_2) ∧ zaa (Kd.R Kd.string 9 w' w.heap.size (fun _ => True) u4 x4_1) ∧ zaa (Kd.R (Kd.int .u8) 5 w' w.heap.size (fun k_ => some k_ ≠ (v3 : Value).ownBlock) v6 x6_2) ∧ zaa (Below w.heap.size w w'))
    case atStart => exact ⟨(x3_1), (y118), (0), (by first | rfl | (simp; done) | (simp [*]; done)), H', ⟨yai _⟩, ⟨by (with_reducible repeat (first | apply yaj | apply yak | apply yal)); exact Kd.R_mono HO_3.out (fun _ hk => hk.2)⟩, ⟨by (with_reducible repeat (first | apply yaj | apply yak | apply yal)); exact HO_4.out⟩, ⟨by (with_reducible repeat (first | apply yaj | apply yak | apply yal)); exact Kd.R_mono HO120.out (fun _ hk => hk.2)⟩, ⟨by repeat (first | (with_reducible first | exact HB.out | apply zac | apply zab | apply zad) | exact HB.out)⟩⟩
    case round =>
     clear H'
     try clear p2
     try clear c6
     try clear c6b0
     try clear c8
     try clear p2
     obtain ⟨x3_2, x6_2, x7_2, rfl, HA, HK2, HO_3, HO_4, HO_6, HB⟩ := hrel
     cases gk with
     | zero => exact absurd HA.out (by simp [spec_l1Names.l1])
     | succ k2 =>
      have H := HA.out
      clear HA
      simp only [spec_l1Names.l1] at H
      by_cases c9 : 0 ≤ x5_1
      ·rw [if_pos c9] at H
       have c9b0 : decide (0 ≤ x5_1) = true := decide_eq_true c9
       clear c9
       by_cases c10 : x5_1 < (l0.length : Int)
       ·rw [if_pos c10] at H
        have c10b0 : decide (x5_1 < (l0.length : Int)) = true := decide_eq_true c10
        clear c10
        by_cases c11 : x7_2 < ((rdOf yaf l0 x5_1).size : Int)
        ·rw [if_pos c11] at H
         have c11b0 : decide (x7_2 < ((rdOf yaf l0 x5_1).size : Int)) = true := decide_eq_true c11
         clear c11
         have H' := zaa.mk H
         clear H
         have p121 : 0 ≤ (x5_1 : Int) := of_decide_eq_true (by assumption)
         have q121 : x5_1 < (l0.length : Int) := of_decide_eq_true (by assumption)
         obtain ⟨ad121, e121, hx121_0⟩ := Kd.at_string HR0.out x5_1 p121 q121
         cases e121
         replace hx121_0 := (HB.out.cell (World.block_lt_of_cell? w _ hx121_0)).trans hx121_0
         replace p121 := eq_true p121
         replace q121 := eq_true q121
         go_wp2
         repeat (go_quiet (fail); try go_wp2)
         go_loopg [8] k2 (fun kq v8 w' => ∃ (x8_3 : Int), v8 = .int .i64 x8_3 ∧ zaa (spec_l1Names.l2 kq l0 x3_2 x4_1 x5_1 x6_2 x7_2 x8_3 = some r) ∧ zaa (kq ≤ k2) ∧ zaa (Kd.R (Kd.int .u8) 5 w' w.heap.size (fun k_ => some k_ ≠ (u6 : Value).ownBlock) u3 x3_2) ∧ zaa (Kd.R Kd.string 9 w' w.heap.size (fun _ => True) u4 x4_1) ∧ zaa (Kd.R (Kd.int .u8) 5 w' w.heap.size (fun k_ => some k_ ≠ (u3 : Value).ownBlock) u6 x6_2) ∧ zaa (Below w.heap.size w w'))
         case atStart => exact ⟨(0), (by first | rfl | (simp; done) | (simp [*]; done)), H', ⟨yai _⟩, ⟨by (with_reducible repeat (first | apply yaj | apply yak | apply yal)); exact HO_3.out⟩, ⟨by (with_reducible repeat (first | apply yaj | apply yak | apply yal)); exact HO_4.out⟩, ⟨by (with_reducible repeat (first | apply yaj | apply yak | apply yal)); exact HO_6.out⟩, ⟨by repeat (first | (with_reducible first | exact HB.out | apply zac | apply zab | apply zad) | exact HB.out)⟩⟩
         case round =>
          clear H'
          try clear c1
          try clear p1
          try clear q1
          try clear hx1
          try clear p2
          try clear c6
          try clear c6b0
          try clear c8
          try clear c9
          try clear c9b0
          try clear c10
          try clear c10b0
          try clear c11
          try clear c11b0
          try clear hx121_0
          try clear p121
          try clear p2
          try clear q121
          obtain ⟨x8_3, rfl, HA, HK3, HO_3, HO_4, HO_6, HB⟩ := hrel
          cases gk with
          | zero => exact absurd HA.out (by simp [spec_l1Names.l2])
          | succ k3 =>
           have H := HA.out
           clear HA
           simp only [spec_l1Names.l2] at H
           by_cases c12 : x8_3 < (x3_2.length : Int)
           ·rw [if_pos c12] at H
            have c12b0 : decide (x8_3 < (x3_2.length : Int)) = true := decide_eq_true c12
            clear c12
            by_cases c13 : 0 ≤ x8_3
            ·rw [if_pos c13] at H
             have c13b0 : decide (0 ≤ x8_3) = true := decide_eq_true c13
             clear c13
             by_cases c14 : 0 ≤ x5_1
             ·rw [if_pos c14] at H
              have c14b0 : decide (0 ≤ x5_1) = true := decide_eq_true c14
              clear c14
              by_cases c15 : x5_1 < (l0.length : Int)
              ·rw [if_pos c15] at H
               have c15b0 : decide (x5_1 < (l0.length : Int)) = true := decide_eq_true c15
               clear c15
               by_cases c16 : 0 ≤ x7_2
               ·rw [if_pos c16] at H
                have c16b0 : decide (0 ≤ x7_2) = true := decide_eq_true c16
                clear c16
                by_cases c17 : x7_2 < ((rdOf yaf l0 x5_1).size : Int)
                ·rw [if_pos c17] at H
                 have c17b0 : decide (x7_2 < ((rdOf yaf l0 x5_1).size : Int)) = true := decide_eq_true c17
                 clear c17
                 by_cases c19 : (rd x3_2 x8_3) = (bt (rdOf yaf l0 x5_1) x7_2)
                 ·rw [if_pos c19] at H
                  have c19b0 : ((rd x3_2 x8_3) == (bt (rdOf yaf l0 x5_1) x7_2)) = true := beq_iff_eq.mpr c19
                  have c19b1 : ((rd x3_2 x8_3) != (bt (rdOf yaf l0 x5_1) x7_2)) = false := bne_eq_false_iff_eq.mpr c19
                  clear c19
                  by_cases c20 : x8_3 = (x3_2.length : Int)
                  ·rw [if_pos c20] at H
                   have c20b0 : (x8_3 == (x3_2.length : Int)) = true := beq_iff_eq.mpr c20
                   have c20b1 : (x8_3 != (x3_2.length : Int)) = false := bne_eq_false_iff_eq.mpr c20
                   clear c20
                   by_cases c22 : x3_2.length < 140737488355328
                   ·rw [if_pos c22] at H
                    have LMc22 := zaa.mk c22
                    clear c22
                    obtain ⟨y128, hy128⟩ : ∃ y_ : List Int, y_ = (x3_2 ++ [bt (rdOf yaf l0 x5_1) x7_2]) := ⟨_, rfl⟩
                    replace H : (if x6_2.length < 140737488355328 then (spec_l1Names.l1 k3 l0 y128 x4_1 x5_1 (x6_2 ++ [(wrap64 (97 + x8_3)) % 256]) (wrap64 (x7_2 + 1))) else (none)) = some r := by first | (rw [hy128]; with_reducible exact H) | (have H2_ := (yah _ _).symm.trans H; rw [hy128]; with_reducible exact H2_) | (have H2_ := (yah _ _).symm.trans H; with_reducible exact H2_) | with_reducible exact H | (rw [hy128]; exact H) | exact H
                    have Ny128 := zaa.mk hy128
                    clear hy128
                    by_cases c23 : x6_2.length < 140737488355328
                    ·rw [if_pos c23] at H
                     have LMc23 := zaa.mk c23
                     clear c23
                     obtain ⟨y131, hy131⟩ : ∃ y_ : List Int, y_ = (x6_2 ++ [(wrap64 (97 + x8_3)) % 256]) := ⟨_, rfl⟩
                     replace H : (spec_l1Names.l1 k3 l0 y128 x4_1 x5_1 y131 (wrap64 (x7_2 + 1))) = some r := by first | (rw [hy131]; with_reducible exact H) | (have H2_ := (yah _ _).symm.trans H; rw [hy131]; with_reducible exact H2_) | (have H2_ := (yah _ _).symm.trans H; with_reducible exact H2_) | with_reducible exact H | (rw [hy131]; exact H) | exact H
                     have Ny131 := zaa.mk hy131
                     clear hy131
                     have H' := zaa.mk H
                     clear H
                     obtain ⟨Ao24, co24, eo24⟩ := Kd.R_slice HO_3.out
                     subst eo24
                     have p125 : 0 ≤ (x8_3 : Int) := of_decide_eq_true (by assumption)
                     have q125 : x8_3 < (x3_2.length : Int) := of_decide_eq_true (by assumption)
                     obtain ⟨ad125, e125, hx125_0⟩ := Kd.at_int (Kd.R_reads' HO_3.out).2.2 x8_3 p125 q125
                     cases e125
                     replace p125 := eq_true p125
                     replace q125 := eq_true q125
                     have p126 : 0 ≤ (x5_1 : Int) := of_decide_eq_true (by assumption)
                     have q126 : x5_1 < (l0.length : Int) := of_decide_eq_true (by assumption)
                     obtain ⟨ad126, e126, hx126_0⟩ := Kd.at_string HR0.out x5_1 p126 q126
                     obtain rfl : ad121 = ad126 := (by injection e126)
                     replace hx126_0 := (HB.out.cell (World.block_lt_of_cell? w _ hx126_0)).trans hx126_0
                     replace p126 := eq_true p126
                     replace q126 := eq_true q126
                     have p18 : 0 ≤ (x7_2 : Int) := of_decide_eq_true (by assumption)
                     have q18 : x7_2 < ((rdOf yaf l0 x5_1).size : Int) := of_decide_eq_true (by assumption)
                     have hx18 := bt_at (rdOf yaf l0 x5_1) x7_2
                     replace p18 := eq_true p18
                     replace q18 := eq_true q18
                     have p127 : 0 ≤ (x5_1 : Int) := of_decide_eq_true (by assumption)
                     have q127 : x5_1 < (l0.length : Int) := of_decide_eq_true (by assumption)
                     obtain ⟨ad127, e127, hx127_0⟩ := Kd.at_string HR0.out x5_1 p127 q127
                     obtain rfl : ad121 = ad127 := (by injection e127)
                     replace hx127_0 := (HB.out.cell (World.block_lt_of_cell? w _ hx127_0)).trans hx127_0
                     replace p127 := eq_true p127
                     replace q127 := eq_true q127
                     have p21 : 0 ≤ (x7_2 : Int) := of_decide_eq_true (by assumption)
                     have q21 : x7_2 < ((rdOf yaf l0 x5_1).size : Int) := of_decide_eq_true (by assumption)
                     have hx21 := bt_at (rdOf yaf l0 x5_1) x7_2
                     replace p21 := eq_true p21
                     replace q21 := eq_true q21
                     go_wp2_with (first | ((with_reducible refine zax (b := .append) (xs := #[.tmp 50, .tmp 57]) rfl ?_); at_builtin; refine Kd.R_append (Kd.int .u8) (w0 := w) w.heap.size rfl (.tmp 50) (.tmp 57) 32 5 (.int .u8 0) 1 rfl Try.underlying32 info5 rfl (by decide) (by omega) (.slice (some ad125) x3_2.length co24) x3_2 (bt (rdOf yaf l0 x5_1) x7_2) [.int .u8 (bt (rdOf yaf l0 x5_1) x7_2)] (fun k_ => some k_ ≠ (u6 : Value).ownBlock) (fun _ => False) rfl rfl ?aP (fun _ hk => hk.elim) ?aF ?aO ?aB ?aS ?aL ?_; (case aP => exact rfl); (case aB => exact (by repeat (first | (with_reducible first | exact HB.out | apply zac | apply zab | apply zad) | exact HB.out))); (case aF => exact (fun k_ hk => Kd.fresh' (Kd.R_lt (by (with_reducible repeat (first | apply yaj | apply yak | apply yal)); exact HO_6.out)) k_ hk)); (case aO => exact (by (with_reducible repeat (first | apply yaj | apply yak | apply yal)); exact HO_3.out)); (case aS => exact (zag (by repeat (first | (with_reducible first | exact HB.out | apply zac | apply zab | apply zad) | exact HB.out)))); (case aL => have := LMc22.out; omega); intro v129 w25 ho hb hg hat; rw [← Ny128.out] at ho; have n0_ := zaa.mk (Kd.R_over' (by (with_reducible repeat (first | apply yaj | apply yak | apply yal)); exact HO_4.out) (Kd.R_typed (by (with_reducible repeat (first | apply yaj | apply yak | apply yal)); exact HO_3.out)) (by decide) hg); have n1_ := zaa.mk (Kd.R_after (ok := (fun _ => True)) (by (with_reducible repeat (first | apply yaj | apply yak | apply yal)); exact Kd.R_mono HO_6.out (fun _ hk => ⟨trivial, hk⟩)) hg hat); have n2_ := zaa.mk (hb); have n3_ := zaa.mk (ho); clear HO_4; clear HO_6; clear HB; clear HO_3; have HO_4 := n0_; have HO_6 := n1_; have HB := n2_; have HO130 := n3_; clear n0_ n1_ n2_ n3_; clear ho hb hg hat) | ((with_reducible refine zax (b := .append) (xs := #[.tmp 59, .tmp 63]) rfl ?_); at_builtin; refine Kd.R_append (Kd.int .u8) (w0 := w) w.heap.size rfl (.tmp 59) (.tmp 63) 32 5 (.int .u8 0) 1 rfl Try.underlying32 info5 rfl (by decide) (by omega) u6 x6_2 ((wrap64 (97 + x8_3)) % 256) [.int .u8 ((wrap64 (97 + x8_3)) % 256)] (fun k_ => some k_ ≠ (v129 : Value).ownBlock) (fun _ => False) rfl rfl ?aP (fun _ hk => hk.elim) ?aF ?aO ?aB ?aS ?aL ?_; (case aP => exact rfl); (case aB => exact (by repeat (first | (with_reducible first | exact HB.out | apply zac | apply zab | apply zad) | exact HB.out))); (case aF => exact (fun k_ hk => Kd.fresh' (Kd.R_lt (by (with_reducible repeat (first | apply yaj | apply yak | apply yal)); exact HO130.out)) k_ hk)); (case aO => exact (by (with_reducible repeat (first | apply yaj | apply yak | apply yal)); exact Kd.R_mono HO_6.out (fun _ hk => hk.2))); (case aS => exact (zag (by repeat (first | (with_reducible first | exact HB.out | apply zac | apply zab | apply zad) | exact HB.out)))); (case aL => have := LMc23.out; omega); intro v132 w26 ho hb hg hat; rw [← Ny131.out] at ho; have n0_ := zaa.mk (Kd.R_over' (by (with_reducible repeat (first | apply yaj | apply yak | apply yal)); exact HO_4.out) (Kd.R_typed (by (with_reducible repeat (first | apply yaj | apply yak | apply yal)); exact HO_6.out)) (by decide) hg); have n1_ := zaa.mk (Kd.R_after (ok := (fun _ => True)) (by (with_reducible repeat (first | apply yaj | apply yak | apply yal)); exact Kd.R_mono HO130.out (fun _ hk => ⟨trivial, hk⟩)) hg hat); have n2_ := zaa.mk (hb); have n3_ := zaa.mk (ho); clear HO_4; clear HO130; clear HB; clear HO_6; have HO_4 := n0_; have HO130 := n1_; have HB := n2_; have HO133 := n3_; clear n0_ n1_ n2_ n3_; clear ho hb hg hat))
                     repeat (go_quiet (first | ((with_reducible refine zax (b := .append) (xs := #[.tmp 50, .tmp 57]) rfl ?_); at_builtin; refine Kd.R_append (Kd.int .u8) (w0 := w) w.heap.size rfl (.tmp 50) (.tmp 57) 32 5 (.int .u8 0) 1 rfl Try.underlying32 info5 rfl (by decide) (by omega) (.slice (some ad125) x3_2.length co24) x3_2 (bt (rdOf yaf l0 x5_1) x7_2) [.int .u8 (bt (rdOf yaf l0 x5_1) x7_2)] (fun k_ => some k_ ≠ (u6 : Value).ownBlock) (fun _ => False) rfl rfl ?aP (fun _ hk => hk.elim) ?aF ?aO ?aB ?aS ?aL ?_; (case aP => exact rfl); (case aB => exact (by repeat (first | (with_reducible first | exact HB.out | apply zac | apply zab | apply zad) | exact HB.out))); (case aF => exact (fun k_ hk => Kd.fresh' (Kd.R_lt (by (with_reducible repeat (first | apply yaj | apply yak | apply yal)); exact HO_6.out)) k_ hk)); (case aO => exact (by (with_reducible repeat (first | apply yaj | apply yak | apply yal)); exact HO_3.out)); (case aS => exact (zag (by repeat (first | (with_reducible first | exact HB.out | apply zac | apply zab | apply zad) | exact HB.out)))); (case aL => have := LMc22.out; omega); intro v129 w25 ho hb hg hat; rw [← Ny128.out] at ho; have n0_ := zaa.mk (Kd.R_over' (by (with_reducible repeat (first | apply yaj | apply yak | apply yal)); exact HO_4.out) (Kd.R_typed (by (with_reducible repeat (first | apply yaj | apply yak | apply yal)); exact HO_3.out)) (by decide) hg); have n1_ := zaa.mk (Kd.R_after (ok := (fun _ => True)) (by (with_reducible repeat (first | apply yaj | apply yak | apply yal)); exact Kd.R_mono HO_6.out (fun _ hk => ⟨trivial, hk⟩)) hg hat); have n2_ := zaa.mk (hb); have n3_ := zaa.mk (ho); clear HO_4; clear HO_6; clear HB; clear HO_3; have HO_4 := n0_; have HO_6 := n1_; have HB := n2_; have HO130 := n3_; clear n0_ n1_ n2_ n3_; clear ho hb hg hat) | ((with_reducible refine zax (b := .append) (xs := #[.tmp 59, .tmp 63]) rfl ?_); at_builtin; refine Kd.R_append (Kd.int .u8) (w0 := w) w.heap.size rfl (.tmp 59) (.tmp 63) 32 5 (.int .u8 0) 1 rfl Try.underlying32 info5 rfl (by decide) (by omega) u6 x6_2 ((wrap64 (97 + x8_3)) % 256) [.int .u8 ((wrap64 (97 + x8_3)) % 256)] (fun k_ => some k_ ≠ (v129 : Value).ownBlock) (fun _ => False) rfl rfl ?aP (fun _ hk => hk.elim) ?aF ?aO ?aB ?aS ?aL ?_; (case aP => exact rfl); (case aB => exact (by repeat (first | (with_reducible first | exact HB.out | apply zac | apply zab | apply zad) | exact HB.out))); (case aF => exact (fun k_ hk => Kd.fresh' (Kd.R_lt (by (with_reducible repeat (first | apply yaj | apply yak | apply yal)); exact HO130.out)) k_ hk)); (case aO => exact (by (with_reducible repeat (first | apply yaj | apply yak | apply yal)); exact Kd.R_mono HO_6.out (fun _ hk => hk.2))); (case aS => exact (zag (by repeat (first | (with_reducible first | exact HB.out | apply zac | apply zab | apply zad) | exact HB.out)))); (case aL => have := LMc23.out; omega); intro v132 w26 ho hb hg hat; rw [← Ny131.out] at ho; have n0_ := zaa.mk (Kd.R_over' (by (with_reducible repeat (first | apply yaj | apply yak | apply yal)); exact HO_4.out) (Kd.R_typed (by (with_reducible repeat (first | apply yaj | apply yak | apply yal)); exact HO_6.out)) (by decide) hg); have n1_ := zaa.mk (Kd.R_after (ok := (fun _ => True)) (by (with_reducible repeat (first | apply yaj | apply yak | apply yal)); exact Kd.R_mono HO130.out (fun _ hk => ⟨trivial, hk⟩)) hg hat); have n2_ := zaa.mk (hb); have n3_ := zaa.mk (ho); clear HO_4; clear HO130; clear HB; clear HO_6; have HO_4 := n0_; have HO130 := n1_; have HB := n2_; have HO133 := n3_; clear n0_ n1_ n2_ n3_; clear ho hb hg hat)); try go_wp2_with (first | ((with_reducible refine zax (b := .append) (xs := #[.tmp 50, .tmp 57]) rfl ?_); at_builtin; refine Kd.R_append (Kd.int .u8) (w0 := w) w.heap.size rfl (.tmp 50) (.tmp 57) 32 5 (.int .u8 0) 1 rfl Try.underlying32 info5 rfl (by decide) (by omega) (.slice (some ad125) x3_2.length co24) x3_2 (bt (rdOf yaf l0 x5_1) x7_2) [.int .u8 (bt (rdOf yaf l0 x5_1) x7_2)] (fun k_ => some k_ ≠ (u6 : Value).ownBlock) (fun _ => False) rfl rfl ?aP (fun _ hk => hk.elim) ?aF ?aO ?aB ?aS ?aL ?_; (case aP => exact rfl); (case aB => exact (by repeat (first | (with_reducible first | exact HB.out | apply zac | apply zab | apply zad) | exact HB.out))); (case aF => exact (fun k_ hk => Kd.fresh' (Kd.R_lt (by (with_reducible repeat (first | apply yaj | apply yak | apply yal)); exact HO_6.out)) k_ hk)); (case aO => exact (by (with_reducible repeat (first | apply yaj | apply yak | apply yal)); exact HO_3.out)); (case aS => exact (zag (by repeat (first | (with_reducible first | exact HB.out | apply zac | apply zab | apply zad) | exact HB.out)))); (case aL => have := LMc22.out; omega); intro v129 w25 ho hb hg hat; rw [← Ny128.out] at ho; have n0_ := zaa.mk (Kd.R_over' (by (with_reducible repeat (first | apply yaj | apply yak | apply yal)); exact HO_4.out) (Kd.R_typed (by (with_reducible repeat (first | apply yaj | apply yak | apply yal)); exact HO_3.out)) (by decide) hg); have n1_ := zaa.mk (Kd.R_after (ok := (fun _ => True)) (by (with_reducible repeat (first | apply yaj | apply yak | apply yal)); exact Kd.R_mono HO_6.out (fun _ hk => ⟨trivial, hk⟩)) hg hat); have n2_ := zaa.mk (hb); have n3_ := zaa.mk (ho); clear HO_4; clear HO_6; clear HB; clear HO_3; have HO_4 := n0_; have HO_6 := n1_; have HB := n2_; have HO130 := n3_; clear n0_ n1_ n2_ n3_; clear ho hb hg hat) | ((with_reducible refine zax (b := .append) (xs := #[.tmp 59, .tmp 63]) rfl ?_); at_builtin; refine Kd.R_append (Kd.int .u8) (w0 := w) w.heap.size rfl (.tmp 59) (.tmp 63) 32 5 (.int .u8 0) 1 rfl Try.underlying32 info5 rfl (by decide) (by omega) u6 x6_2 ((wrap64 (97 + x8_3)) % 256) [.int .u8 ((wrap64 (97 + x8_3)) % 256)] (fun k_ => some k_ ≠ (v129 : Value).ownBlock) (fun _ => False) rfl rfl ?aP (fun _ hk => hk.elim) ?aF ?aO ?aB ?aS ?aL ?_; (case aP => exact rfl); (case aB => exact (by repeat (first | (with_reducible first | exact HB.out | apply zac | apply zab | apply zad) | exact HB.out))); (case aF => exact (fun k_ hk => Kd.fresh' (Kd.R_lt (by (with_reducible repeat (first | apply yaj | apply yak | apply yal)); exact HO130.out)) k_ hk)); (case aO => exact (by (with_reducible repeat (first | apply yaj | apply yak | apply yal)); exact Kd.R_mono HO_6.out (fun _ hk => hk.2))); (case aS => exact (zag (by repeat (first | (with_reducible first | exact HB.out | apply zac | apply zab | apply zad) | exact HB.out)))); (case aL => have := LMc23.out; omega); intro v132 w26 ho hb hg hat; rw [← Ny131.out] at ho; have n0_ := zaa.mk (Kd.R_over' (by (with_reducible repeat (first | apply yaj | apply yak | apply yal)); exact HO_4.out) (Kd.R_typed (by (with_reducible repeat (first | apply yaj | apply yak | apply yal)); exact HO_6.out)) (by decide) hg); have n1_ := zaa.mk (Kd.R_after (ok := (fun _ => True)) (by (with_reducible repeat (first | apply yaj | apply yak | apply yal)); exact Kd.R_mono HO130.out (fun _ hk => ⟨trivial, hk⟩)) hg hat); have n2_ := zaa.mk (hb); have n3_ := zaa.mk (ho); clear HO_4; clear HO130; clear HB; clear HO_6; have HO_4 := n0_; have HO130 := n1_; have HB := n2_; have HO133 := n3_; clear n0_ n1_ n2_ n3_; clear ho hb hg hat)))
                     go_roundg k3
                     case measure => have := HK1.out; have := HK2.out; have := HK3.out; omega
                     case rel => exact ⟨(y128), (y131), (wrap64 (x7_2 + 1)), (by first | rfl | (simp; done) | (simp [*]; done)), H', ⟨by have := HK1.out; have := HK2.out; have := HK3.out; omega⟩, ⟨by (with_reducible repeat (first | apply yaj | apply yak | apply yal)); exact Kd.R_mono HO130.out (fun _ hk => hk.2)⟩, ⟨by (with_reducible repeat (first | apply yaj | apply yak | apply yal)); exact HO_4.out⟩, ⟨by (with_reducible repeat (first | apply yaj | apply yak | apply yal)); exact HO133.out⟩, ⟨by repeat (first | (with_reducible first | exact HB.out | apply zac | apply zab | apply zad) | exact HB.out)⟩⟩
                    ·rw [if_neg c23] at H
                     exact absurd H (by simp)
                   ·rw [if_neg c22] at H
                    exact absurd H (by simp)
                  ·rw [if_neg c20] at H
                   have c20b0 : (x8_3 == (x3_2.length : Int)) = false := beq_eq_false_iff_ne.mpr c20
                   have c20b1 : (x8_3 != (x3_2.length : Int)) = true := bne_iff_ne.mpr c20
                   by_cases c27 : x6_2.length < 140737488355328
                   ·rw [if_pos c27] at H
                    have LMc27 := zaa.mk c27
                    clear c27
                    obtain ⟨y134, hy134⟩ : ∃ y_ : List Int, y_ = (x6_2 ++ [(wrap64 (97 + x8_3)) % 256]) := ⟨_, rfl⟩
                    replace H : (spec_l1Names.l1 k3 l0 x3_2 x4_1 x5_1 y134 (wrap64 (x7_2 + 1))) = some r := by first | (rw [hy134]; with_reducible exact H) | (have H2_ := (yah _ _).symm.trans H; rw [hy134]; with_reducible exact H2_) | (have H2_ := (yah _ _).symm.trans H; with_reducible exact H2_) | with_reducible exact H | (rw [hy134]; exact H) | exact H
                    have Ny134 := zaa.mk hy134
                    clear hy134
                    have H' := zaa.mk H
                    clear H
                    obtain ⟨Ao28, co28, eo28⟩ := Kd.R_slice HO_3.out
                    subst eo28
                    have p125 : 0 ≤ (x8_3 : Int) := of_decide_eq_true (by assumption)
                    have q125 : x8_3 < (x3_2.length : Int) := of_decide_eq_true (by assumption)
                    obtain ⟨ad125, e125, hx125_0⟩ := Kd.at_int (Kd.R_reads' HO_3.out).2.2 x8_3 p125 q125
                    cases e125
                    replace p125 := eq_true p125
                    replace q125 := eq_true q125
                    have p126 : 0 ≤ (x5_1 : Int) := of_decide_eq_true (by assumption)
                    have q126 : x5_1 < (l0.length : Int) := of_decide_eq_true (by assumption)
                    obtain ⟨ad126, e126, hx126_0⟩ := Kd.at_string HR0.out x5_1 p126 q126
                    obtain rfl : ad121 = ad126 := (by injection e126)
                    replace hx126_0 := (HB.out.cell (World.block_lt_of_cell? w _ hx126_0)).trans hx126_0
                    replace p126 := eq_true p126
                    replace q126 := eq_true q126
                    have p18 : 0 ≤ (x7_2 : Int) := of_decide_eq_true (by assumption)
                    have q18 : x7_2 < ((rdOf yaf l0 x5_1).size : Int) := of_decide_eq_true (by assumption)
                    have hx18 := bt_at (rdOf yaf l0 x5_1) x7_2
                    replace p18 := eq_true p18
                    replace q18 := eq_true q18
                    go_wp2_with (first | ((with_reducible refine zax (b := .append) (xs := #[.tmp 59, .tmp 63]) rfl ?_); at_builtin; refine Kd.R_append (Kd.int .u8) (w0 := w) w.heap.size rfl (.tmp 59) (.tmp 63) 32 5 (.int .u8 0) 1 rfl Try.underlying32 info5 rfl (by decide) (by omega) u6 x6_2 ((wrap64 (97 + x8_3)) % 256) [.int .u8 ((wrap64 (97 + x8_3)) % 256)] (fun k_ => some k_ ≠ (.slice (some ad125) x3_2.length co28 : Value).ownBlock) (fun _ => False) rfl rfl ?aP (fun _ hk => hk.elim) ?aF ?aO ?aB ?aS ?aL ?_; (case aP => exact rfl); (case aB => exact (by repeat (first | (with_reducible first | exact HB.out | apply zac | apply zab | apply zad) | exact HB.out))); (case aF => exact (fun k_ hk => Kd.fresh' (Kd.R_lt (by (with_reducible repeat (first | apply yaj | apply yak | apply yal)); exact HO_3.out)) k_ hk)); (case aO => exact (by (with_reducible repeat (first | apply yaj | apply yak | apply yal)); exact HO_6.out)); (case aS => exact (zag (by repeat (first | (with_reducible first | exact HB.out | apply zac | apply zab | apply zad) | exact HB.out)))); (case aL => have := LMc27.out; omega); intro v135 w29 ho hb hg hat; rw [← Ny134.out] at ho; have n0_ := zaa.mk (Kd.R_after (ok := (fun _ => True)) (by (with_reducible repeat (first | apply yaj | apply yak | apply yal)); exact Kd.R_mono HO_3.out (fun _ hk => ⟨trivial, hk⟩)) hg hat); have n1_ := zaa.mk (Kd.R_over' (by (with_reducible repeat (first | apply yaj | apply yak | apply yal)); exact HO_4.out) (Kd.R_typed (by (with_reducible repeat (first | apply yaj | apply yak | apply yal)); exact HO_6.out)) (by decide) hg); have n2_ := zaa.mk (hb); have n3_ := zaa.mk (ho); clear HO_3; clear HO_4; clear HB; clear HO_6; have HO_3 := n0_; have HO_4 := n1_; have HB := n2_; have HO136 := n3_; clear n0_ n1_ n2_ n3_; clear ho hb hg hat))
                    repeat (go_quiet (first | ((with_reducible refine zax (b := .append) (xs := #[.tmp 59, .tmp 63]) rfl ?_); at_builtin; refine Kd.R_append (Kd.int .u8) (w0 := w) w.heap.size rfl (.tmp 59) (.tmp 63) 32 5 (.int .u8 0) 1 rfl Try.underlying32 info5 rfl (by decide) (by omega) u6 x6_2 ((wrap64 (97 + x8_3)) % 256) [.int .u8 ((wrap64 (97 + x8_3)) % 256)] (fun k_ => some k_ ≠ (.slice (some ad125) x3_2.length co28 : Value).ownBlock) (fun _ => False) rfl rfl ?aP (fun _ hk => hk.elim) ?aF ?aO ?aB ?aS ?aL ?_; (case aP => exact rfl); (case aB => exact (by repeat (first | (with_reducible first | exact HB.out | apply zac | apply zab | apply zad) | exact HB.out))); (case aF => exact (fun k_ hk => Kd.fresh' (Kd.R_lt (by (with_reducible repeat (first | apply yaj | apply yak | apply yal)); exact HO_3.out)) k_ hk)); (case aO => exact (by (with_reducible repeat (first | apply yaj | apply yak | apply yal)); exact HO_6.out)); (case aS => exact (zag (by repeat (first | (with_reducible first | exact HB.out | apply zac | apply zab | apply zad) | exact HB.out)))); (case aL => have := LMc27.out; omega); intro v135 w29 ho hb hg hat; rw [← Ny134.out] at ho; have n0_ := zaa.mk (Kd.R_after (ok := (fun _ => True)) (by (with_reducible repeat (first | apply yaj | apply yak | apply yal)); exact Kd.R_mono HO_3.out (fun _ hk => ⟨trivial, hk⟩)) hg hat); have n1_ := zaa.mk (Kd.R_over' (by (with_reducible repeat (first | apply yaj | apply yak | apply yal)); exact HO_4.out) (Kd.R_typed (by (with_reducible repeat (first | apply yaj | apply yak | apply yal)); exact HO_6.out)) (by decide) hg); have n2_ := zaa.mk (hb); have n3_ := zaa.mk (ho); clear HO_3; clear HO_4; clear HB; clear HO_6; have HO_3 := n0_; have HO_4 := n1_; have HB := n2_; have HO136 := n3_; clear n0_ n1_ n2_ n3_; clear ho hb hg hat)); try go_wp2_with (first | ((with_reducible refine zax (b := .append) (xs := #[.tmp 59, .tmp 63]) rfl ?_); at_builtin; refine Kd.R_append (Kd.int .u8) (w0 := w) w.heap.size rfl (.tmp 59) (.tmp 63) 32 5 (.int .u8 0) 1 rfl Try.underlying32 info5 rfl (by decide) (by omega) u6 x6_2 ((wrap64 (97 + x8_3)) % 256) [.int .u8 ((wrap64 (97 + x8_3)) % 256)] (fun k_ => some k_ ≠ (.slice (some ad125) x3_2.length co28 : Value).ownBlock) (fun _ => False) rfl rfl ?aP (fun _ hk => hk.elim) ?aF ?aO ?aB ?aS ?aL ?_; (case aP => exact rfl); (case aB => exact (by repeat (first | (with_reducible first | exact HB.out | apply zac | apply zab | apply zad) | exact HB.out))); (case aF => exact (fun k_ hk => Kd.fresh' (Kd.R_lt (by (with_reducible repeat (first | apply yaj | apply yak | apply yal)); exact HO_3.out)) k_ hk)); (case aO => exact (by (with_reducible repeat (first | apply yaj | apply yak | apply yal)); exact HO_6.out)); (case aS => exact (zag (by repeat (first | (with_reducible first | exact HB.out | apply zac | apply zab | apply zad) | exact HB.out)))); (case aL => have := LMc27.out; omega); intro v135 w29 ho hb hg hat; rw [← Ny134.out] at ho; have n0_ := zaa.mk (Kd.R_after (ok := (fun _ => True)) (by (with_reducible repeat (first | apply yaj | apply yak | apply yal)); exact Kd.R_mono HO_3.out (fun _ hk => ⟨trivial, hk⟩)) hg hat); have n1_ := zaa.mk (Kd.R_over' (by (with_reducible repeat (first | apply yaj | apply yak | apply yal)); exact HO_4.out) (Kd.R_typed (by (with_reducible repeat (first | apply yaj | apply yak | apply yal)); exact HO_6.out)) (by decide) hg); have n2_ := zaa.mk (hb); have n3_ := zaa.mk (ho); clear HO_3; clear HO_4; clear HB; clear HO_6; have HO_3 := n0_; have HO_4 := n1_; have HB := n2_; have HO136 := n3_; clear n0_ n1_ n2_ n3_; clear ho hb hg hat)))
                    go_roundg k3
                    case measure => have := HK1.out; have := HK2.out; have := HK3.out; omega
                    case rel => exact ⟨(x3_2), (y134), (wrap64 (x7_2 + 1)), (by first | rfl | (simp; done) | (simp [*]; done)), H', ⟨by have := HK1.out; have := HK2.out; have := HK3.out; omega⟩, ⟨by (with_reducible repeat (first | apply yaj | apply yak | apply yal)); exact Kd.R_mono HO_3.out (fun _ hk => hk.2)⟩, ⟨by (with_reducible repeat (first | apply yaj | apply yak | apply yal)); exact HO_4.out⟩, ⟨by (with_reducible repeat (first | apply yaj | apply yak | apply yal)); exact HO136.out⟩, ⟨by repeat (first | (with_reducible first | exact HB.out | apply zac | apply zab | apply zad) | exact HB.out)⟩⟩
                   ·rw [if_neg c27] at H
                    exact absurd H (by simp)
                 ·rw [if_neg c19] at H
                  have c19b0 : ((rd x3_2 x8_3) == (bt (rdOf yaf l0 x5_1) x7_2)) = false := beq_eq_false_iff_ne.mpr c19
                  have c19b1 : ((rd x3_2 x8_3) != (bt (rdOf yaf l0 x5_1) x7_2)) = true := bne_iff_ne.mpr c19
                  have H' := zaa.mk H
                  clear H
                  obtain ⟨Ao30, co30, eo30⟩ := Kd.R_slice HO_3.out
                  subst eo30
                  have p125 : 0 ≤ (x8_3 : Int) := of_decide_eq_true (by assumption)
                  have q125 : x8_3 < (x3_2.length : Int) := of_decide_eq_true (by assumption)
                  obtain ⟨ad125, e125, hx125_0⟩ := Kd.at_int (Kd.R_reads' HO_3.out).2.2 x8_3 p125 q125
                  cases e125
                  replace p125 := eq_true p125
                  replace q125 := eq_true q125
                  have p126 : 0 ≤ (x5_1 : Int) := of_decide_eq_true (by assumption)
                  have q126 : x5_1 < (l0.length : Int) := of_decide_eq_true (by assumption)
                  obtain ⟨ad126, e126, hx126_0⟩ := Kd.at_string HR0.out x5_1 p126 q126
                  obtain rfl : ad121 = ad126 := (by injection e126)
                  replace hx126_0 := (HB.out.cell (World.block_lt_of_cell? w _ hx126_0)).trans hx126_0
                  replace p126 := eq_true p126
                  replace q126 := eq_true q126
                  have p18 : 0 ≤ (x7_2 : Int) := of_decide_eq_true (by assumption)
                  have q18 : x7_2 < ((rdOf yaf l0 x5_1).size : Int) := of_decide_eq_true (by assumption)
                  have hx18 := bt_at (rdOf yaf l0 x5_1) x7_2
                  replace p18 := eq_true p18
                  replace q18 := eq_true q18
                  go_wp2
                  repeat (go_quiet (fail); try go_wp2)
                  go_roundg k3
                  case measure => have := HK1.out; have := HK2.out; have := HK3.out; omega
                  case rel => exact ⟨(wrap64 (x8_3 + 1)), (by first | rfl | (simp; done) | (simp [*]; done)), H', ⟨by have := HK1.out; have := HK2.out; have := HK3.out; omega⟩, ⟨by (with_reducible repeat (first | apply yaj | apply yak | apply yal)); exact HO_3.out⟩, ⟨by (with_reducible repeat (first | apply yaj | apply yak | apply yal)); exact HO_4.out⟩, ⟨by (with_reducible repeat (first | apply yaj | apply yak | apply yal)); exact HO_6.out⟩, ⟨by repeat (first | (with_reducible first | exact HB.out | apply zac | apply zab | apply zad) | exact HB.out)⟩⟩
                ·rw [if_neg c17] at H
                 exact absurd H (by simp)
               ·rw [if_neg c16] at H
                exact absurd H (by simp)
              ·rw [if_neg c15] at H
               exact absurd H (by simp)
             ·rw [if_neg c14] at H
              exact absurd H (by simp)
            ·rw [if_neg c13] at H
             exact absurd H (by simp)
           ·rw [if_neg c12] at H
            have c12b0 : decide (x8_3 < (x3_2.length : Int)) = false := decide_eq_false c12
            clear c12
            by_cases c31 : x8_3 = (x3_2.length : Int)
            ·rw [if_pos c31] at H
             have c31b0 : (x8_3 == (x3_2.length : Int)) = true := beq_iff_eq.mpr c31
             have c31b1 : (x8_3 != (x3_2.length : Int)) = false := bne_eq_false_iff_eq.mpr c31
             clear c31
             by_cases c32 : 0 ≤ x5_1
             ·rw [if_pos c32] at H
              have c32b0 : decide (0 ≤ x5_1) = true := decide_eq_true c32
              clear c32
              by_cases c33 : x5_1 < (l0.length : Int)
              ·rw [if_pos c33] at H
               have c33b0 : decide (x5_1 < (l0.length : Int)) = true := decide_eq_true c33
               clear c33
               by_cases c34 : 0 ≤ x7_2
               ·rw [if_pos c34] at H
                have c34b0 : decide (0 ≤ x7_2) = true := decide_eq_true c34
                clear c34
                by_cases c35 : x7_2 < ((rdOf yaf l0 x5_1).size : Int)
                ·rw [if_pos c35] at H
                 have c35b0 : decide (x7_2 < ((rdOf yaf l0 x5_1).size : Int)) = true := decide_eq_true c35
                 clear c35
                 by_cases c37 : x3_2.length < 140737488355328
                 ·rw [if_pos c37] at H
                  have LMc37 := zaa.mk c37
                  clear c37
                  obtain ⟨y138, hy138⟩ : ∃ y_ : List Int, y_ = (x3_2 ++ [bt (rdOf yaf l0 x5_1) x7_2]) := ⟨_, rfl⟩
                  replace H : (if x6_2.length < 140737488355328 then (spec_l1Names.l1 k3 l0 y138 x4_1 x5_1 (x6_2 ++ [(wrap64 (97 + x8_3)) % 256]) (wrap64 (x7_2 + 1))) else (none)) = some r := by first | (rw [hy138]; with_reducible exact H) | (have H2_ := (yah _ _).symm.trans H; rw [hy138]; with_reducible exact H2_) | (have H2_ := (yah _ _).symm.trans H; with_reducible exact H2_) | with_reducible exact H | (rw [hy138]; exact H) | exact H
                  have Ny138 := zaa.mk hy138
                  clear hy138
                  by_cases c38 : x6_2.length < 140737488355328
                  ·rw [if_pos c38] at H
                   have LMc38 := zaa.mk c38
                   clear c38
                   obtain ⟨y141, hy141⟩ : ∃ y_ : List Int, y_ = (x6_2 ++ [(wrap64 (97 + x8_3)) % 256]) := ⟨_, rfl⟩
                   replace H : (spec_l1Names.l1 k3 l0 y138 x4_1 x5_1 y141 (wrap64 (x7_2 + 1))) = some r := by first | (rw [hy141]; with_reducible exact H) | (have H2_ := (yah _ _).symm.trans H; rw [hy141]; with_reducible exact H2_) | (have H2_ := (yah _ _).symm.trans H; with_reducible exact H2_) | with_reducible exact H | (rw [hy141]; exact H) | exact H
                   have Ny141 := zaa.mk hy141
                   clear hy141
                   have H' := zaa.mk H
                   clear H
                   obtain ⟨Ao39, co39, eo39⟩ := Kd.R_slice HO_3.out
                   subst eo39
                   have p137 : 0 ≤ (x5_1 : Int) := of_decide_eq_true (by assumption)
                   have q137 : x5_1 < (l0.length : Int) := of_decide_eq_true (by assumption)
                   obtain ⟨ad137, e137, hx137_0⟩ := Kd.at_string HR0.out x5_1 p137 q137
                   obtain rfl : ad121 = ad137 := (by injection e137)
                   replace hx137_0 := (HB.out.cell (World.block_lt_of_cell? w _ hx137_0)).trans hx137_0
                   replace p137 := eq_true p137
                   replace q137 := eq_true q137
                   have p36 : 0 ≤ (x7_2 : Int) := of_decide_eq_true (by assumption)
                   have q36 : x7_2 < ((rdOf yaf l0 x5_1).size : Int) := of_decide_eq_true (by assumption)
                   have hx36 := bt_at (rdOf yaf l0 x5_1) x7_2
                   replace p36 := eq_true p36
                   replace q36 := eq_true q36
                   go_wp2_with (first | ((with_reducible refine zax (b := .append) (xs := #[.tmp 50, .tmp 57]) rfl ?_); at_builtin; refine Kd.R_append (Kd.int .u8) (w0 := w) w.heap.size rfl (.tmp 50) (.tmp 57) 32 5 (.int .u8 0) 1 rfl Try.underlying32 info5 rfl (by decide) (by omega) (.slice Ao39 x3_2.length co39) x3_2 (bt (rdOf yaf l0 x5_1) x7_2) [.int .u8 (bt (rdOf yaf l0 x5_1) x7_2)] (fun k_ => some k_ ≠ (u6 : Value).ownBlock) (fun _ => False) rfl rfl ?aP (fun _ hk => hk.elim) ?aF ?aO ?aB ?aS ?aL ?_; (case aP => exact rfl); (case aB => exact (by repeat (first | (with_reducible first | exact HB.out | apply zac | apply zab | apply zad) | exact HB.out))); (case aF => exact (fun k_ hk => Kd.fresh' (Kd.R_lt (by (with_reducible repeat (first | apply yaj | apply yak | apply yal)); exact HO_6.out)) k_ hk)); (case aO => exact (by (with_reducible repeat (first | apply yaj | apply yak | apply yal)); exact HO_3.out)); (case aS => exact (zag (by repeat (first | (with_reducible first | exact HB.out | apply zac | apply zab | apply zad) | exact HB.out)))); (case aL => have := LMc37.out; omega); intro v139 w40 ho hb hg hat; rw [← Ny138.out] at ho; have n0_ := zaa.mk (Kd.R_over' (by (with_reducible repeat (first | apply yaj | apply yak | apply yal)); exact HO_4.out) (Kd.R_typed (by (with_reducible repeat (first | apply yaj | apply yak | apply yal)); exact HO_3.out)) (by decide) hg); have n1_ := zaa.mk (Kd.R_after (ok := (fun _ => True)) (by (with_reducible repeat (first | apply yaj | apply yak | apply yal)); exact Kd.R_mono HO_6.out (fun _ hk => ⟨trivial, hk⟩)) hg hat); have n2_ := zaa.mk (hb); have n3_ := zaa.mk (ho); clear HO_4; clear HO_6; clear HB; clear HO_3; have HO_4 := n0_; have HO_6 := n1_; have HB := n2_; have HO140 := n3_; clear n0_ n1_ n2_ n3_; clear ho hb hg hat) | ((with_reducible refine zax (b := .append) (xs := #[.tmp 59, .tmp 63]) rfl ?_); at_builtin; refine Kd.R_append (Kd.int .u8) (w0 := w) w.heap.size rfl (.tmp 59) (.tmp 63) 32 5 (.int .u8 0) 1 rfl Try.underlying32 info5 rfl (by decide) (by omega) u6 x6_2 ((wrap64 (97 + x8_3)) % 256) [.int .u8 ((wrap64 (97 + x8_3)) % 256)] (fun k_ => some k_ ≠ (v139 : Value).ownBlock) (fun _ => False) rfl rfl ?aP (fun _ hk => hk.elim) ?aF ?aO ?aB ?aS ?aL ?_; (case aP => exact rfl); (case aB => exact (by repeat (first | (with_reducible first | exact HB.out | apply zac | apply zab | apply zad) | exact HB.out))); (case aF => exact (fun k_ hk => Kd.fresh' (Kd.R_lt (by (with_reducible repeat (first | apply yaj | apply yak | apply yal)); exact HO140.out)) k_ hk)); (case aO => exact (by (with_reducible repeat (first | apply yaj | apply yak | apply yal)); exact Kd.R_mono HO_6.out (fun _ hk => hk.2))); (case aS => exact (zag (by repeat (first | (with_reducible first | exact HB.out | apply zac | apply zab | apply zad) | exact HB.out)))); (case aL => have := LMc38.out; omega); intro v142 w41 ho hb hg hat; rw [← Ny141.out] at ho; have n0_ := zaa.mk (Kd.R_over' (by (with_reducible repeat (first | apply yaj | apply yak | apply yal)); exact HO_4.out) (Kd.R_typed (by (with_reducible repeat (first | apply yaj | apply yak | apply yal)); exact HO_6.out)) (by decide) hg); have n1_ := zaa.mk (Kd.R_after (ok := (fun _ => True)) (by (with_reducible repeat (first | apply yaj | apply yak | apply yal)); exact Kd.R_mono HO140.out (fun _ hk => ⟨trivial, hk⟩)) hg hat); have n2_ := zaa.mk (hb); have n3_ := zaa.mk (ho); clear HO_4; clear HO140; clear HB; clear HO_6; have HO_4 := n0_; have HO140 := n1_; have HB := n2_; have HO143 := n3_; clear n0_ n1_ n2_ n3_; clear ho hb hg hat))
                   repeat (go_quiet (first | ((with_reducible refine zax (b := .append) (xs := #[.tmp 50, .tmp 57]) rfl ?_); at_builtin; refine Kd.R_append (Kd.int .u8) (w0 := w) w.heap.size rfl (.tmp 50) (.tmp 57) 32 5 (.int .u8 0) 1 rfl Try.underlying32 info5 rfl (by decide) (by omega) (.slice Ao39 x3_2.length co39) x3_2 (bt (rdOf yaf l0 x5_1) x7_2) [.int .u8 (bt (rdOf yaf l0 x5_1) x7_2)] (fun k_ => some k_ ≠ (u6 : Value).ownBlock) (fun _ => False) rfl rfl ?aP (fun _ hk => hk.elim) ?aF ?aO ?aB ?aS ?aL ?_; (case aP => exact rfl); (case aB => exact (by repeat (first | (with_reducible first | exact HB.out | apply zac | apply zab | apply zad) | exact HB.out))); (case aF => exact (fun k_ hk => Kd.fresh' (Kd.R_lt (by (with_reducible repeat (first | apply yaj | apply yak | apply yal)); exact HO_6.out)) k_ hk)); (case aO => exact (by (with_reducible repeat (first | apply yaj | apply yak | apply yal)); exact HO_3.out)); (case aS => exact (zag (by repeat (first | (with_reducible first | exact HB.out | apply zac | apply zab | apply zad) | exact HB.out)))); (case aL => have := LMc37.out; omega); intro v139 w40 ho hb hg hat; rw [← Ny138.out] at ho; have n0_ := zaa.mk (Kd.R_over' (by (with_reducible repeat (first | apply yaj | apply yak | apply yal)); exact HO_4.out) (Kd.R_typed (by (with_reducible repeat (first | apply yaj | apply yak | apply yal)); exact HO_3.out)) (by decide) hg); have n1_ := zaa.mk (Kd.R_after (ok := (fun _ => True)) (by (with_reducible repeat (first | apply yaj | apply yak | apply yal)); exact Kd.R_mono HO_6.out (fun _ hk => ⟨trivial, hk⟩)) hg hat); have n2_ := zaa.mk (hb); have n3_ := zaa.mk (ho); clear HO_4; clear HO_6; clear HB; clear HO_3; have HO_4 := n0_; have HO_6 := n1_; have HB := n2_; have HO140 := n3_; clear n0_ n1_ n2_ n3_; clear ho hb hg hat) | ((with_reducible refine zax (b := .append) (xs := #[.tmp 59, .tmp 63]) rfl ?_); at_builtin; refine Kd.R_append (Kd.int .u8) (w0 := w) w.heap.size rfl (.tmp 59) (.tmp 63) 32 5 (.int .u8 0) 1 rfl Try.underlying32 info5 rfl (by decide) (by omega) u6 x6_2 ((wrap64 (97 + x8_3)) % 256) [.int .u8 ((wrap64 (97 + x8_3)) % 256)] (fun k_ => some k_ ≠ (v139 : Value).ownBlock) (fun _ => False) rfl rfl ?aP (fun _ hk => hk.elim) ?aF ?aO ?aB ?aS ?aL ?_; (case aP => exact rfl); (case aB => exact (by repeat (first | (with_reducible first | exact HB.out | apply zac | apply zab | apply zad) | exact HB.out))); (case aF => exact (fun k_ hk => Kd.fresh' (Kd.R_lt (by (with_reducible repeat (first | apply yaj | apply yak | apply yal)); exact HO140.out)) k_ hk)); (case aO => exact (by (with_reducible repeat (first | apply yaj | apply yak | apply yal)); exact Kd.R_mono HO_6.out (fun _ hk => hk.2))); (case aS => exact (zag (by repeat (first | (with_reducible first | exact HB.out | apply zac | apply zab | apply zad) | exact HB.out)))); (case aL => have := LMc38.out; omega); intro v142 w41 ho hb hg hat; rw [← Ny141.out] at ho; have n0_ := zaa.mk (Kd.R_over' (by (with_reducible repeat (first | apply yaj | apply yak | apply yal)); exact HO_4.out) (Kd.R_typed (by (with_reducible repeat (first | apply yaj | apply yak | apply yal)); exact HO_6.out)) (by decide) hg); have n1_ := zaa.mk (Kd.R_after (ok := (fun _ => True)) (by (with_reducible repeat (first | apply yaj | apply yak | apply yal)); exact Kd.R_mono HO140.out (fun _ hk => ⟨trivial, hk⟩)) hg hat); have n2_ := zaa.mk (hb); have n3_ := zaa.mk (ho); clear HO_4; clear HO140; clear HB; clear HO_6; have HO_4 := n0_; have HO140 := n1_; have HB := n2_; have HO143 := n3_; clear n0_ n1_ n2_ n3_; clear ho hb hg hat)); try go_wp2_with (first | ((with_reducible refine zax (b := .append) (xs := #[.tmp 50, .tmp 57]) rfl ?_); at_builtin; refine Kd.R_append (Kd.int .u8) (w0 := w) w.heap.size rfl (.tmp 50) (.tmp 57) 32 5 (.int .u8 0) 1 rfl Try.underlying32 info5 rfl (by decide) (by omega) (.slice Ao39 x3_2.length co39) x3_2 (bt (rdOf yaf l0 x5_1) x7_2) [.int .u8 (bt (rdOf yaf l0 x5_1) x7_2)] (fun k_ => some k_ ≠ (u6 : Value).ownBlock) (fun _ => False) rfl rfl ?aP (fun _ hk => hk.elim) ?aF ?aO ?aB ?aS ?aL ?_; (case aP => exact rfl); (case aB => exact (by repeat (first | (with_reducible first | exact HB.out | apply zac | apply zab | apply zad) | exact HB.out))); (case aF => exact (fun k_ hk => Kd.fresh' (Kd.R_lt (by (with_reducible repeat (first | apply yaj | apply yak | apply yal)); exact HO_6.out)) k_ hk)); (case aO => exact (by (with_reducible repeat (first | apply yaj | apply yak | apply yal)); exact HO_3.out)); (case aS => exact (zag (by repeat (first | (with_reducible first | exact HB.out | apply zac | apply zab | apply zad) | exact HB.out)))); (case aL => have := LMc37.out; omega); intro v139 w40 ho hb hg hat; rw [← Ny138.out] at ho; have n0_ := zaa.mk (Kd.R_over' (by (with_reducible repeat (first | apply yaj | apply yak | apply yal)); exact HO_4.out) (Kd.R_typed (by (with_reducible repeat (first | apply yaj | apply yak | apply yal)); exact HO_3.out)) (by decide) hg); have n1_ := zaa.mk (Kd.R_after (ok := (fun _ => True)) (by (with_reducible repeat (first | apply yaj | apply yak | apply yal)); exact Kd.R_mono HO_6.out (fun _ hk => ⟨trivial, hk⟩)) hg hat); have n2_ := zaa.mk (hb); have n3_ := zaa.mk (ho); clear HO_4; clear HO_6; clear HB; clear HO_3; have HO_4 := n0_; have HO_6 := n1_; have HB := n2_; have HO140 := n3_; clear n0_ n1_ n2_ n3_; clear ho hb hg hat) | ((with_reducible refine zax (b := .append) (xs := #[.tmp 59, .tmp 63]) rfl ?_); at_builtin; refine Kd.R_append (Kd.int .u8) (w0 := w) w.heap.size rfl (.tmp 59) (.tmp 63) 32 5 (.int .u8 0) 1 rfl Try.underlying32 info5 rfl (by decide) (by omega) u6 x6_2 ((wrap64 (97 + x8_3)) % 256) [.int .u8 ((wrap64 (97 + x8_3)) % 256)] (fun k_ => some k_ ≠ (v139 : Value).ownBlock) (fun _ => False) rfl rfl ?aP (fun _ hk => hk.elim) ?aF ?aO ?aB ?aS ?aL ?_; (case aP => exact rfl); (case aB => exact (by repeat (first | (with_reducible first | exact HB.out | apply zac | apply zab | apply zad) | exact HB.out))); (case aF => exact (fun k_ hk => Kd.fresh' (Kd.R_lt (by (with_reducible repeat (first | apply yaj | apply yak | apply yal)); exact HO140.out)) k_ hk)); (case aO => exact (by (with_reducible repeat (first | apply yaj | apply yak | apply yal)); exact Kd.R_mono HO_6.out (fun _ hk => hk.2))); (case aS => exact (zag (by repeat (first | (with_reducible first | exact HB.out | apply zac | apply zab | apply zad) | exact HB.out)))); (case aL => have := LMc38.out; omega); intro v142 w41 ho hb hg hat; rw [← Ny141.out] at ho; have n0_ := zaa.mk (Kd.R_over' (by (with_reducible repeat (first | apply yaj | apply yak | apply yal)); exact HO_4.out) (Kd.R_typed (by (with_reducible repeat (first | apply yaj | apply yak | apply yal)); exact HO_6.out)) (by decide) hg); have n1_ := zaa.mk (Kd.R_after (ok := (fun _ => True)) (by (with_reducible repeat (first | apply yaj | apply yak | apply yal)); exact Kd.R_mono HO140.out (fun _ hk => ⟨trivial, hk⟩)) hg hat); have n2_ := zaa.mk (hb); have n3_ := zaa.mk (ho); clear HO_4; clear HO140; clear HB; clear HO_6; have HO_4 := n0_; have HO140 := n1_; have HB := n2_; have HO143 := n3_; clear n0_ n1_ n2_ n3_; clear ho hb hg hat)))
                   go_roundg k3
                   case measure => have := HK1.out; have := HK2.out; have := HK3.out; omega
                   case rel => exact ⟨(y138), (y141), (wrap64 (x7_2 + 1)), (by first | rfl | (simp; done) | (simp [*]; done)), H', ⟨by have := HK1.out; have := HK2.out; have := HK3.out; omega⟩, ⟨by (with_reducible repeat (first | apply yaj | apply yak | apply yal)); exact Kd.R_mono HO140.out (fun _ hk => hk.2)⟩, ⟨by (with_reducible repeat (first | apply yaj | apply yak | apply yal)); exact HO_4.out⟩, ⟨by (with_reducible repeat (first | apply yaj | apply yak | apply yal)); exact HO143.out⟩, ⟨by repeat (first | (with_reducible first | exact HB.out | apply zac | apply zab | apply zad) | exact HB.out)⟩⟩
                  ·rw [if_neg c38] at H
                   exact absurd H (by simp)
                 ·rw [if_neg c37] at H
                  exact absurd H (by simp)
                ·rw [if_neg c35] at H
                 exact absurd H (by simp)
               ·rw [if_neg c34] at H
                exact absurd H (by simp)
              ·rw [if_neg c33] at H
               exact absurd H (by simp)
             ·rw [if_neg c32] at H
              exact absurd H (by simp)
            ·rw [if_neg c31] at H
             have c31b0 : (x8_3 == (x3_2.length : Int)) = false := beq_eq_false_iff_ne.mpr c31
             have c31b1 : (x8_3 != (x3_2.length : Int)) = true := bne_iff_ne.mpr c31
             by_cases c42 : x6_2.length < 140737488355328
             ·rw [if_pos c42] at H
              have LMc42 := zaa.mk c42
              clear c42
              obtain ⟨y144, hy144⟩ : ∃ y_ : List Int, y_ = (x6_2 ++ [(wrap64 (97 + x8_3)) % 256]) := ⟨_, rfl⟩
              replace H : (spec_l1Names.l1 k3 l0 x3_2 x4_1 x5_1 y144 (wrap64 (x7_2 + 1))) = some r := by first | (rw [hy144]; with_reducible exact H) | (have H2_ := (yah _ _).symm.trans H; rw [hy144]; with_reducible exact H2_) | (have H2_ := (yah _ _).symm.trans H; with_reducible exact H2_) | with_reducible exact H | (rw [hy144]; exact H) | exact H
              have Ny144 := zaa.mk hy144
              clear hy144
              have H' := zaa.mk H
              clear H
              obtain ⟨Ao43, co43, eo43⟩ := Kd.R_slice HO_3.out
              subst eo43
              go_wp2_with (first | ((with_reducible refine zax (b := .append) (xs := #[.tmp 59, .tmp 63]) rfl ?_); at_builtin; refine Kd.R_append (Kd.int .u8) (w0 := w) w.heap.size rfl (.tmp 59) (.tmp 63) 32 5 (.int .u8 0) 1 rfl Try.underlying32 info5 rfl (by decide) (by omega) u6 x6_2 ((wrap64 (97 + x8_3)) % 256) [.int .u8 ((wrap64 (97 + x8_3)) % 256)] (fun k_ => some k_ ≠ (.slice Ao43 x3_2.length co43 : Value).ownBlock) (fun _ => False) rfl rfl ?aP (fun _ hk => hk.elim) ?aF ?aO ?aB ?aS ?aL ?_; (case aP => exact rfl); (case aB => exact (by repeat (first | (with_reducible first | exact HB.out | apply zac | apply zab | apply zad) | exact HB.out))); (case aF => exact (fun k_ hk => Kd.fresh' (Kd.R_lt (by (with_reducible repeat (first | apply yaj | apply yak | apply yal)); exact HO_3.out)) k_ hk)); (case aO => exact (by (with_reducible repeat (first | apply yaj | apply yak | apply yal)); exact HO_6.out)); (case aS => exact (zag (by repeat (first | (with_reducible first | exact HB.out | apply zac | apply zab | apply zad) | exact HB.out)))); (case aL => have := LMc42.out; omega); intro v145 w44 ho hb hg hat; rw [← Ny144.out] at ho; have n0_ := zaa.mk (Kd.R_after (ok := (fun _ => True)) (by (with_reducible repeat (first | apply yaj | apply yak | apply yal)); exact Kd.R_mono HO_3.out (fun _ hk => ⟨trivial, hk⟩)) hg hat); have n1_ := zaa.mk (Kd.R_over' (by (with_reducible repeat (first | apply yaj | apply yak | apply yal)); exact HO_4.out) (Kd.R_typed (by (with_reducible repeat (first | apply yaj | apply yak | apply yal)); exact HO_6.out)) (by decide) hg); have n2_ := zaa.mk (hb); have n3_ := zaa.mk (ho); clear HO_3; clear HO_4; clear HB; clear HO_6; have HO_3 := n0_; have HO_4 := n1_; have HB := n2_; have HO146 := n3_; clear n0_ n1_ n2_ n3_; clear ho hb hg hat))
              repeat (go_quiet (first | ((with_reducible refine zax (b := .append) (xs := #[.tmp 59, .tmp 63]) rfl ?_); at_builtin; refine Kd.R_append (Kd.int .u8) (w0 := w) w.heap.size rfl (.tmp 59) (.tmp 63) 32 5 (.int .u8 0) 1 rfl Try.underlying32 info5 rfl (by decide) (by omega) u6 x6_2 ((wrap64 (97 + x8_3)) % 256) [.int .u8 ((wrap64 (97 + x8_3)) % 256)] (fun k_ => some k_ ≠ (.slice Ao43 x3_2.length co43 : Value).ownBlock) (fun _ => False) rfl rfl ?aP (fun _ hk => hk.elim) ?aF ?aO ?aB ?aS ?aL ?_; (case aP => exact rfl); (case aB => exact (by repeat (first | (with_reducible first | exact HB.out | apply zac | apply zab | apply zad) | exact HB.out))); (case aF => exact (fun k_ hk => Kd.fresh' (Kd.R_lt (by (with_reducible repeat (first | apply yaj | apply yak | apply yal)); exact HO_3.out)) k_ hk)); (case aO => exact (by (with_reducible repeat (first | apply yaj | apply yak | apply yal)); exact HO_6.out)); (case aS => exact (zag (by repeat (first | (with_reducible first | exact HB.out | apply zac | apply zab | apply zad) | exact HB.out)))); (case aL => have := LMc42.out; omega); intro v145 w44 ho hb hg hat; rw [← Ny144.out] at ho; have n0_ := zaa.mk (Kd.R_after (ok := (fun _ => True)) (by (with_reducible repeat (first | apply yaj | apply yak | apply yal)); exact Kd.R_mono HO_3.out (fun _ hk => ⟨trivial, hk⟩)) hg hat); have n1_ := zaa.mk (Kd.R_over' (by (with_reducible repeat (first | apply yaj | apply yak | apply yal)); exact HO_4.out) (Kd.R_typed (by (with_reducible repeat (first | apply yaj | apply yak | apply yal)); exact HO_6.out)) (by decide) hg); have n2_ := zaa.mk (hb); have n3_ := zaa.mk (ho); clear HO_3; clear HO_4; clear HB; clear HO_6; have HO_3 := n0_; have HO_4 := n1_; have HB := n2_; have HO146 := n3_; clear n0_ n1_ n2_ n3_; clear ho hb hg hat)); try go_wp2_with (first | ((with_reducible refine zax (b := .append) (xs := #[.tmp 59, .tmp 63]) rfl ?_); at_builtin; refine Kd.R_append (Kd.int .u8) (w0 := w) w.heap.size rfl (.tmp 59) (.tmp 63) 32 5 (.int .u8 0) 1 rfl Try.underlying32 info5 rfl (by decide) (by omega) u6 x6_2 ((wrap64 (97 + x8_3)) % 256) [.int .u8 ((wrap64 (97 + x8_3)) % 256)] (fun k_ => some k_ ≠ (.slice Ao43 x3_2.length co43 : Value).ownBlock) (fun _ => False) rfl rfl ?aP (fun _ hk => hk.elim) ?aF ?aO ?aB ?aS ?aL ?_; (case aP => exact rfl); (case aB => exact (by repeat (first | (with_reducible first | exact HB.out | apply zac | apply zab | apply zad) | exact HB.out))); (case aF => exact (fun k_ hk => Kd.fresh' (Kd.R_lt (by (with_reducible repeat (first | apply yaj | apply yak | apply yal)); exact HO_3.out)) k_ hk)); (case aO => exact (by (with_reducible repeat (first | apply yaj | apply yak | apply yal)); exact HO_6.out)); (case aS => exact (zag (by repeat (first | (with_reducible first | exact HB.out | apply zac | apply zab | apply zad) | exact HB.out)))); (case aL => have := LMc42.out; omega); intro v145 w44 ho hb hg hat; rw [← Ny144.out] at ho; have n0_ := zaa.mk (Kd.R_after (ok := (fun _ => True)) (by (with_reducible repeat (first | apply yaj | apply yak | apply yal)); exact Kd.R_mono HO_3.out (fun _ hk => ⟨trivial, hk⟩)) hg hat); have n1_ := zaa.mk (Kd.R_over' (by (with_reducible repeat (first | apply yaj | apply yak | apply yal)); exact HO_4.out) (Kd.R_typed (by (with_reducible repeat (first | apply yaj | apply yak | apply yal)); exact HO_6.out)) (by decide) hg); have n2_ := zaa.mk (hb); have n3_ := zaa.mk (ho); clear HO_3; clear HO_4; clear HB; clear HO_6; have HO_3 := n0_; have HO_4 := n1_; have HB := n2_; have HO146 := n3_; clear n0_ n1_ n2_ n3_; clear ho hb hg hat)))
              go_roundg k3
              case measure => have := HK1.out; have := HK2.out; have := HK3.out; omega
              case rel => exact ⟨(x3_2), (y144), (wrap64 (x7_2 + 1)), (by first | rfl | (simp; done) | (simp [*]; done)), H', ⟨by have := HK1.out; have := HK2.out; have := HK3.out; omega⟩, ⟨by (with_reducible repeat (first | apply yaj | apply yak | apply yal)); exact Kd.R_mono HO_3.out (fun _ hk => hk.2)⟩, ⟨by (with_reducible repeat (first | apply yaj | apply yak | apply yal)); exact HO_4.out⟩, ⟨by (with_reducible repeat (first | apply yaj | apply yak | apply yal)); exact HO146.out⟩, ⟨by repeat (first | (with_reducible first | exact HB.out | apply zac | apply zab | apply zad) | exact HB.out)⟩⟩
             ·rw [if_neg c42] at H
              exact absurd H (by simp)
        ·rw [if_neg c11] at H
         have c11b0 : decide (x7_2 < ((rdOf yaf l0 x5_1).size : Int)) = false := decide_eq_false c11
         clear c11
         by_cases c45 : x4_1.length < 8796093022208
         ·rw [if_pos c45] at H
          have LMc45 := zaa.mk c45
          clear c45
          obtain ⟨y122, hy122⟩ : ∃ y_ : List ByteArray, y_ = (x4_1 ++ [strOfNums x6_2]) := ⟨_, rfl⟩
          replace H : (spec_l1Names.l0 k2 l0 x3_2 y122 (wrap64 (x5_1 + 1))) = some r := by first | (rw [hy122]; with_reducible exact H) | (have H2_ := (yah _ _).symm.trans H; rw [hy122]; with_reducible exact H2_) | (have H2_ := (yah _ _).symm.trans H; with_reducible exact H2_) | with_reducible exact H | (rw [hy122]; exact H) | exact H
          have Ny122 := zaa.mk hy122
          clear hy122
          have H' := zaa.mk H
          clear H
          have p121 : 0 ≤ (x5_1 : Int) := of_decide_eq_true (by assumption)
          have q121 : x5_1 < (l0.length : Int) := of_decide_eq_true (by assumption)
          obtain ⟨ad121, e121, hx121_0⟩ := Kd.at_string HR0.out x5_1 p121 q121
          cases e121
          replace hx121_0 := (HB.out.cell (World.block_lt_of_cell? w _ hx121_0)).trans hx121_0
          replace p121 := eq_true p121
          replace q121 := eq_true q121
          have hcv46 := own_string (P := Try.prog) Try.underlying32 Try.underlying5 Try.underlying9 (Kd.own_of_R HO_6.out)
          go_wp2_with (first | ((with_reducible refine zax (b := .append) (xs := #[.tmp 65, .tmp 68]) rfl ?_); at_builtin; refine Kd.R_append Kd.string (w0 := w) w.heap.size rfl (.tmp 65) (.tmp 68) 22 9 (.string ⟨#[]⟩) 16 rfl Try.underlying22 info9 rfl (by decide) (by omega) u4 x4_1 (strOfNums x6_2) [.string (strOfNums x6_2)] (fun _ => True) (fun _ => False) rfl rfl ?aP (fun _ hk => hk.elim) ?aF ?aO ?aB ?aS ?aL ?_; (case aP => exact rfl); (case aB => exact (by repeat (first | (with_reducible first | exact HB.out | apply zac | apply zab | apply zad) | exact HB.out))); (case aF => exact (fun _ _ => trivial)); (case aO => exact (by (with_reducible repeat (first | apply yaj | apply yak | apply yal)); exact HO_4.out)); (case aS => exact (zag (by repeat (first | (with_reducible first | exact HB.out | apply zac | apply zab | apply zad) | exact HB.out)))); (case aL => have := LMc45.out; omega); intro v123 w47 ho hb hg hat; rw [← Ny122.out] at ho; have n0_ := zaa.mk (Kd.R_over' (by (with_reducible repeat (first | apply yaj | apply yak | apply yal)); exact HO_3.out) (Kd.R_typed (by (with_reducible repeat (first | apply yaj | apply yak | apply yal)); exact HO_4.out)) (by decide) hg); have n1_ := zaa.mk (Kd.R_over' (by (with_reducible repeat (first | apply yaj | apply yak | apply yal)); exact HO_6.out) (Kd.R_typed (by (with_reducible repeat (first | apply yaj | apply yak | apply yal)); exact HO_4.out)) (by decide) hg); have n2_ := zaa.mk (hb); have n3_ := zaa.mk (ho); clear HO_3; clear HO_6; clear HB; clear HO_4; have HO_3 := n0_; have HO_6 := n1_; have HB := n2_; have HO124 := n3_; clear n0_ n1_ n2_ n3_; clear ho hb hg hat))
          repeat (go_quiet (first | ((with_reducible refine zax (b := .append) (xs := #[.tmp 65, .tmp 68]) rfl ?_); at_builtin; refine Kd.R_append Kd.string (w0 := w) w.heap.size rfl (.tmp 65) (.tmp 68) 22 9 (.string ⟨#[]⟩) 16 rfl Try.underlying22 info9 rfl (by decide) (by omega) u4 x4_1 (strOfNums x6_2) [.string (strOfNums x6_2)] (fun _ => True) (fun _ => False) rfl rfl ?aP (fun _ hk => hk.elim) ?aF ?aO ?aB ?aS ?aL ?_; (case aP => exact rfl); (case aB => exact (by repeat (first | (with_reducible first | exact HB.out | apply zac | apply zab | apply zad) | exact HB.out))); (case aF => exact (fun _ _ => trivial)); (case aO => exact (by (with_reducible repeat (first | apply yaj | apply yak | apply yal)); exact HO_4.out)); (case aS => exact (zag (by repeat (first | (with_reducible first | exact HB.out | apply zac | apply zab | apply zad) | exact HB.out)))); (case aL => have := LMc45.out; omega); intro v123 w47 ho hb hg hat; rw [← Ny122.out] at ho; have n0_ := zaa.mk (Kd.R_over' (by (with_reducible repeat (first | apply yaj | apply yak | apply yal)); exact HO_3.out) (Kd.R_typed (by (with_reducible repeat (first | apply yaj | apply yak | apply yal)); exact HO_4.out)) (by decide) hg); have n1_ := zaa.mk (Kd.R_over' (by (with_reducible repeat (first | apply yaj | apply yak | apply yal)); exact HO_6.out) (Kd.R_typed (by (with_reducible repeat (first | apply yaj | apply yak | apply yal)); exact HO_4.out)) (by decide) hg); have n2_ := zaa.mk (hb); have n3_ := zaa.mk (ho); clear HO_3; clear HO_6; clear HB; clear HO_4; have HO_3 := n0_; have HO_6 := n1_; have HB := n2_; have HO124 := n3_; clear n0_ n1_ n2_ n3_; clear ho hb hg hat)); try go_wp2_with (first | ((with_reducible refine zax (b := .append) (xs := #[.tmp 65, .tmp 68]) rfl ?_); at_builtin; refine Kd.R_append Kd.string (w0 := w) w.heap.size rfl (.tmp 65) (.tmp 68) 22 9 (.string ⟨#[]⟩) 16 rfl Try.underlying22 info9 rfl (by decide) (by omega) u4 x4_1 (strOfNums x6_2) [.string (strOfNums x6_2)] (fun _ => True) (fun _ => False) rfl rfl ?aP (fun _ hk => hk.elim) ?aF ?aO ?aB ?aS ?aL ?_; (case aP => exact rfl); (case aB => exact (by repeat (first | (with_reducible first | exact HB.out | apply zac | apply zab | apply zad) | exact HB.out))); (case aF => exact (fun _ _ => trivial)); (case aO => exact (by (with_reducible repeat (first | apply yaj | apply yak | apply yal)); exact HO_4.out)); (case aS => exact (zag (by repeat (first | (with_reducible first | exact HB.out | apply zac | apply zab | apply zad) | exact HB.out)))); (case aL => have := LMc45.out; omega); intro v123 w47 ho hb hg hat; rw [← Ny122.out] at ho; have n0_ := zaa.mk (Kd.R_over' (by (with_reducible repeat (first | apply yaj | apply yak | apply yal)); exact HO_3.out) (Kd.R_typed (by (with_reducible repeat (first | apply yaj | apply yak | apply yal)); exact HO_4.out)) (by decide) hg); have n1_ := zaa.mk (Kd.R_over' (by (with_reducible repeat (first | apply yaj | apply yak | apply yal)); exact HO_6.out) (Kd.R_typed (by (with_reducible repeat (first | apply yaj | apply yak | apply yal)); exact HO_4.out)) (by decide) hg); have n2_ := zaa.mk (hb); have n3_ := zaa.mk (ho); clear HO_3; clear HO_6; clear HB; clear HO_4; have HO_3 := n0_; have HO_6 := n1_; have HB := n2_; have HO124 := n3_; clear n0_ n1_ n2_ n3_; clear ho hb hg hat)))
          go_roundg k2
          case measure => have := HK1.out; have := HK2.out; omega
          case rel => exact ⟨(x3_2), (y122), (wrap64 (x5_1 + 1)), (by first | rfl | (simp; done) | (simp [*]; done)), H', ⟨by have := HK1.out; have := HK2.out; omega⟩, ⟨by (with_reducible repeat (first | apply yaj | apply yak | apply yal)); exact Kd.R_mono HO_3.out (fun _ hk => trivial)⟩, ⟨by (with_reducible repeat (first | apply yaj | apply yak | apply yal)); exact HO124.out⟩, ⟨by repeat (first | (with_reducible first | exact HB.out | apply zac | apply zab | apply zad) | exact HB.out)⟩⟩
         ·rw [if_neg c45] at H
          exact absurd H (by simp)
       ·rw [if_neg c10] at H
        exact absurd H (by simp)
      ·rw [if_neg c9] at H
       exact absurd H (by simp)
   ·rw [if_neg c6] at H
    have c6b0 : decide (x5_1 < (l0.length : Int)) = false := decide_eq_false c6
    clear c6
    obtain rfl := Option.some.inj H
    go_wp2
    repeat (go_quiet (fail); try go_wp2)
    go_ret
    exact ⟨_, by first | rfl | (simp [zap, zao] <;> rfl) | (simp [*, zap, zao] <;> rfl), by (with_reducible repeat (first | apply yaj | apply yak | apply yal)); exact HO_4.out, by repeat (first | (with_reducible first | exact HB.out | apply zac | apply zab | apply zad) | exact HB.out)⟩
end Go.Proofs.Ytickdcegnlldjaa.PB
namespace Go.Proofs.Ytickdcegnlldjaa.PB
open Go.RowKit Go.PW.PrintWords Go.PW.PrintLast Go.PW.PrintMore
attribute [local go_sem] zce zcc zcq zcp zbv zbu zcd zcb   -- for this text's walks alone
mutual
def spec_l1Room.l0 : Nat → List ByteArray → Int → Int → Int → Int → Int → Int → Option (Int × Int × Int × Int)
 | 0, _, _, _, _, _, _, _ => none
 | k + 1, x0, x1, x8, x9, x10, x11, x12 => if x12 < (x0.length : Int) then (spec_l1Room.l1 k x0 x1 x8 x9 x10 x11 x12 0) else (some (x8, x9, wrap64 ((wrap64 (x10 - x8)) + 1), wrap64 ((wrap64 (x11 - x9)) + 1)))
def spec_l1Room.l1 : Nat → List ByteArray → Int → Int → Int → Int → Int → Int → Int → Option (Int × Int × Int × Int)
 | 0, _, _, _, _, _, _, _, _ => none
 | k + 1, x0, x1, x8, x9, x10, x11, x12, x13 => if 0 ≤ x12 then (if x12 < (x0.length : Int) then (if x13 < ((rdOf yaf x0 x12).size : Int) then (if 0 ≤ x13 then (if (wrap64 ((wrap64 (bt (rdOf yaf x0 x12) x13)) - 97)) = x1 then (spec_l1Room.l1 k x0 x1 (mn x8 x12) (mn x9 x13) (mx x10 x12) (mx x11 x13) x12 (wrap64 (x13 + 1))) else (spec_l1Room.l1 k x0 x1 x8 x9 x10 x11 x12 (wrap64 (x13 + 1)))) else (none)) else (spec_l1Room.l0 k x0 x1 x8 x9 x10 x11 (wrap64 (x12 + 1)))) else (none)) else (none)
end
def spec_l1Room.f (k : Nat) (l0 : List ByteArray) (a1 : Int) : Option (Int × Int × Int × Int) := if 0 < (l0.length : Int) then (spec_l1Room.l0 k l0 a1 (l0.length : Int) ((rdOf yaf l0 0).size : Int) (-1) (-1) 0) else (none)
set_option maxHeartbeats 8000000 in
set_option maxRecDepth 100000 in
theorem spec_l1Room.calls (k : Nat) (A0 : Option Addr) (c0 : Nat) (l0 : List ByteArray) (a1 : Int) (r1 : Int) (r2 : Int) (r3 : Int) (r4 : Int) (w : World) (hr0 : Kd.C Kd.string w A0 l0.length l0) (hc0 : l0.length ≤ c0) (h : spec_l1Room.f k l0 a1 = some (r1, r2, r3, r4)) :
  Calls Try.prog 88 #[.slice A0 l0.length c0, .int .i64 a1] w fun e w' => e = .returned (.tuple #[.int .i64 r1, .int .i64 r2, .int .i64 r3, .int .i64 r4]) ∧ Below w.heap.size w w' := by
 have HR0 := zaa.mk hr0
 have HC0 := zaa.mk hc0
 clear hr0 hc0
 have HB := zaa.mk (Below.refl w.heap.size w)
 have H : (if 0 < (l0.length : Int) then (spec_l1Room.l0 k l0 a1 (l0.length : Int) ((rdOf yaf l0 0).size : Int) (-1) (-1) 0) else (none)) = some (r1, r2, r3, r4) := h
 clear h
 by_cases c3 : 0 < (l0.length : Int)
 ·rw [if_pos c3] at H
  have c3b0 : decide (0 < (l0.length : Int)) = true := decide_eq_true c3
  have c3b1 : decide (0 < l0.length) = true := decide_eq_true (by omega)
  clear c3
  have H' := zaa.mk H
  clear H
  have p149 : 0 ≤ (0 : Int) := (by omega)
  have q149 : 0 < (l0.length : Int) := of_decide_eq_true (by assumption)
  obtain ⟨ad149, e149, hx149_0⟩ := Kd.at_string HR0.out 0 p149 q149
  cases e149
  have qi149 : (0 < l0.length) = True := eq_true (by omega)
  (try rw [show ((0 : Int)).toNat = 0 from rfl] at hx149_0)
  (try rw [Addr.add_zero'] at hx149_0)
  replace p149 := eq_true p149
  replace q149 := eq_true q149
  go_enter Try.func88, Try.ntmps88
  go_wp2
  go_loopg [8, 9, 10, 11, 12] k (fun kq v8 v9 v10 v11 v12 w' => ∃ (x8_1 : Int) (x9_1 : Int) (x10_1 : Int) (x11_1 : Int) (x12_1 : Int), v8 = .int .i64 x8_1 ∧ v9 = .int .i64 x9_1 ∧ v10 = .int .i64 x10_1 ∧ v11 = .int .i64 x11_1 ∧ v12 = .int .i64 x12_1 ∧ zaa (spec_l1Room.l0 kq l0 a1 x8_1 x9_1 x10_1 x11_1 x12_1 = some (r1, r2, r3, r4)) ∧ zaa (kq ≤ k) ∧ zaa (Below w.heap.size w w'))
  case atStart => exact ⟨((l0.length : Int)), (((rdOf yaf l0 0).size : Int)), ((-1)), ((-1)), (0), (by first | rfl | (simp; done) | (simp [*]; done)), (by first | rfl | (simp; done) | (simp [*]; done)), (by first | rfl | (simp; done) | (simp [*]; done)), (by first | rfl | (simp; done) | (simp [*]; done)), (by first | rfl | (simp; done) | (simp [*]; done)), H', ⟨yai _⟩, ⟨by repeat (first | (with_reducible first | exact HB.out | apply zac | apply zab | apply zad) | exact HB.out)⟩⟩
  case round =>
   clear H'
   try clear p1
   try clear q1
   try clear hx1
   try clear qi1
   try clear p2
   try clear c3
   try clear c3b0
   try clear c3b1
   try clear hx149_0
   try clear p149
   try clear q149
   obtain ⟨x8_1, x9_1, x10_1, x11_1, x12_1, rfl, rfl, rfl, rfl, rfl, HA, HK1, HB⟩ := hrel
   cases gk with
   | zero => exact absurd HA.out (by simp [spec_l1Room.l0])
   | succ k1 =>
    have H := HA.out
    clear HA
    simp only [spec_l1Room.l0] at H
    by_cases c4 : x12_1 < (l0.length : Int)
    ·rw [if_pos c4] at H
     have c4b0 : decide (x12_1 < (l0.length : Int)) = true := decide_eq_true c4
     clear c4
     have H' := zaa.mk H
     clear H
     go_wp2
     go_loopg [8, 9, 10, 11, 13] k1 (fun kq v8 v9 v10 v11 v13 w' => ∃ (x8_2 : Int) (x9_2 : Int) (x10_2 : Int) (x11_2 : Int) (x13_2 : Int), v8 = .int .i64 x8_2 ∧ v9 = .int .i64 x9_2 ∧ v10 = .int .i64 x10_2 ∧ v11 = .int .i64 x11_2 ∧ v13 = .int .i64 x13_2 ∧ zaa (spec_l1Room.l1 kq l0 a1 x8_2 x9_2 x10_2 x11_2 x12_1 x13_2 = some (r1, r2, r3, r4)) ∧ zaa (kq ≤ k1) ∧ zaa (Below w.heap.size w w'))
     case atStart => exact ⟨(x8_1), (x9_1), (x10_1), (x11_1), (0), (by first | rfl | (simp; done) | (simp [*]; done)), (by first | rfl | (simp; done) | (simp [*]; done)), (by first | rfl | (simp; done) | (simp [*]; done)), (by first | rfl | (simp; done) | (simp [*]; done)), (by first | rfl | (simp; done) | (simp [*]; done)), H', ⟨yai _⟩, ⟨by repeat (first | (with_reducible first | exact HB.out | apply zac | apply zab | apply zad) | exact HB.out)⟩⟩
     case round =>
      clear H'
      try clear p1
      try clear q1
      try clear hx1
      try clear qi1
      try clear p2
      try clear c3
      try clear c3b0
      try clear c3b1
      try clear c4
      try clear c4b0
      try clear hx149_0
      try clear p1
      try clear p149
      try clear p2
      try clear q1
      try clear q149
      obtain ⟨x8_2, x9_2, x10_2, x11_2, x13_2, rfl, rfl, rfl, rfl, rfl, HA, HK2, HB⟩ := hrel
      cases gk with
      | zero => exact absurd HA.out (by simp [spec_l1Room.l1])
      | succ k2 =>
       have H := HA.out
       clear HA
       simp only [spec_l1Room.l1] at H
       by_cases c5 : 0 ≤ x12_1
       ·rw [if_pos c5] at H
        have c5b0 : decide (0 ≤ x12_1) = true := decide_eq_true c5
        clear c5
        by_cases c6 : x12_1 < (l0.length : Int)
        ·rw [if_pos c6] at H
         have c6b0 : decide (x12_1 < (l0.length : Int)) = true := decide_eq_true c6
         clear c6
         by_cases c7 : x13_2 < ((rdOf yaf l0 x12_1).size : Int)
         ·rw [if_pos c7] at H
          have c7b0 : decide (x13_2 < ((rdOf yaf l0 x12_1).size : Int)) = true := decide_eq_true c7
          clear c7
          by_cases c8 : 0 ≤ x13_2
          ·rw [if_pos c8] at H
           have c8b0 : decide (0 ≤ x13_2) = true := decide_eq_true c8
           clear c8
           by_cases c10 : (wrap64 ((wrap64 (bt (rdOf yaf l0 x12_1) x13_2)) - 97)) = a1
           ·rw [if_pos c10] at H
            have c10b0 : ((wrap64 ((wrap64 (bt (rdOf yaf l0 x12_1) x13_2)) - 97)) == a1) = true := beq_iff_eq.mpr c10
            have c10b1 : ((wrap64 ((wrap64 (bt (rdOf yaf l0 x12_1) x13_2)) - 97)) != a1) = false := bne_eq_false_iff_eq.mpr c10
            clear c10
            obtain ⟨ji11, hji11⟩ : ∃ j_ : Int, (mn x8_2 x12_1) = j_ := ⟨_, rfl⟩
            replace H : (spec_l1Room.l1 k2 l0 a1 ji11 (mn x9_2 x13_2) (mx x10_2 x12_1) (mx x11_2 x13_2) x12_1 (wrap64 (x13_2 + 1))) = some (r1, r2, r3, r4) := by first | (rw [hji11] at H; exact H) | (simp only [hji11] at H ⊢; exact H)
            have hji11_ : (if x12_1 < x8_2 then x12_1 else x8_2) = ji11 := hji11
            obtain ⟨ji12, hji12⟩ : ∃ j_ : Int, (mn x9_2 x13_2) = j_ := ⟨_, rfl⟩
            replace H : (spec_l1Room.l1 k2 l0 a1 ji11 ji12 (mx x10_2 x12_1) (mx x11_2 x13_2) x12_1 (wrap64 (x13_2 + 1))) = some (r1, r2, r3, r4) := by first | (rw [hji12] at H; exact H) | (simp only [hji12] at H ⊢; exact H)
            have hji12_ : (if x13_2 < x9_2 then x13_2 else x9_2) = ji12 := hji12
            obtain ⟨ji13, hji13⟩ : ∃ j_ : Int, (mx x10_2 x12_1) = j_ := ⟨_, rfl⟩
            replace H : (spec_l1Room.l1 k2 l0 a1 ji11 ji12 ji13 (mx x11_2 x13_2) x12_1 (wrap64 (x13_2 + 1))) = some (r1, r2, r3, r4) := by first | (rw [hji13] at H; exact H) | (simp only [hji13] at H ⊢; exact H)
            have hji13_ : (if x10_2 < x12_1 then x12_1 else x10_2) = ji13 := hji13
            obtain ⟨ji14, hji14⟩ : ∃ j_ : Int, (mx x11_2 x13_2) = j_ := ⟨_, rfl⟩
            replace H : (spec_l1Room.l1 k2 l0 a1 ji11 ji12 ji13 ji14 x12_1 (wrap64 (x13_2 + 1))) = some (r1, r2, r3, r4) := by first | (rw [hji14] at H; exact H) | (simp only [hji14] at H ⊢; exact H)
            have hji14_ : (if x11_2 < x13_2 then x13_2 else x11_2) = ji14 := hji14
            have H' := zaa.mk H
            clear H
            have p150 : 0 ≤ (x12_1 : Int) := of_decide_eq_true (by assumption)
            have q150 : x12_1 < (l0.length : Int) := of_decide_eq_true (by assumption)
            obtain ⟨ad150, e150, hx150_0⟩ := Kd.at_string HR0.out x12_1 p150 q150
            obtain rfl : ad149 = ad150 := (by injection e150)
            replace hx150_0 := (HB.out.cell (World.block_lt_of_cell? w _ hx150_0)).trans hx150_0
            replace p150 := eq_true p150
            replace q150 := eq_true q150
            have p151 : 0 ≤ (x12_1 : Int) := of_decide_eq_true (by assumption)
            have q151 : x12_1 < (l0.length : Int) := of_decide_eq_true (by assumption)
            obtain ⟨ad151, e151, hx151_0⟩ := Kd.at_string HR0.out x12_1 p151 q151
            obtain rfl : ad149 = ad151 := (by injection e151)
            replace hx151_0 := (HB.out.cell (World.block_lt_of_cell? w _ hx151_0)).trans hx151_0
            replace p151 := eq_true p151
            replace q151 := eq_true q151
            have p9 : 0 ≤ (x13_2 : Int) := of_decide_eq_true (by assumption)
            have q9 : x13_2 < ((rdOf yaf l0 x12_1).size : Int) := of_decide_eq_true (by assumption)
            have hx9 := bt_at (rdOf yaf l0 x12_1) x13_2
            replace p9 := eq_true p9
            replace q9 := eq_true q9
            go_wp2
            go_roundg k2
            case measure => have := HK1.out; have := HK2.out; omega
            case rel => exact ⟨(ji11), (ji12), (ji13), (ji14), (wrap64 (x13_2 + 1)), (by first | rfl | (simp; done) | (simp only [← hji11] <;> (first | rfl | simp)) | (simp [*]; done)), (by first | rfl | (simp; done) | (simp only [← hji12] <;> (first | rfl | simp)) | (simp [*]; done)), (by first | rfl | (simp; done) | (simp only [← hji13] <;> (first | rfl | simp)) | (simp [*]; done)), (by first | rfl | (simp; done) | (simp only [← hji14] <;> (first | rfl | simp)) | (simp [*]; done)), (by first | rfl | (simp; done) | (simp [*]; done)), H', ⟨by have := HK1.out; have := HK2.out; omega⟩, ⟨by repeat (first | (with_reducible first | exact HB.out | apply zac | apply zab | apply zad) | exact HB.out)⟩⟩
           ·rw [if_neg c10] at H
            have c10b0 : ((wrap64 ((wrap64 (bt (rdOf yaf l0 x12_1) x13_2)) - 97)) == a1) = false := beq_eq_false_iff_ne.mpr c10
            have c10b1 : ((wrap64 ((wrap64 (bt (rdOf yaf l0 x12_1) x13_2)) - 97)) != a1) = true := bne_iff_ne.mpr c10
            have H' := zaa.mk H
            clear H
            have p150 : 0 ≤ (x12_1 : Int) := of_decide_eq_true (by assumption)
            have q150 : x12_1 < (l0.length : Int) := of_decide_eq_true (by assumption)
            obtain ⟨ad150, e150, hx150_0⟩ := Kd.at_string HR0.out x12_1 p150 q150
            obtain rfl : ad149 = ad150 := (by injection e150)
            replace hx150_0 := (HB.out.cell (World.block_lt_of_cell? w _ hx150_0)).trans hx150_0
            replace p150 := eq_true p150
            replace q150 := eq_true q150
            have p151 : 0 ≤ (x12_1 : Int) := of_decide_eq_true (by assumption)
            have q151 : x12_1 < (l0.length : Int) := of_decide_eq_true (by assumption)
            obtain ⟨ad151, e151, hx151_0⟩ := Kd.at_string HR0.out x12_1 p151 q151
            obtain rfl : ad149 = ad151 := (by injection e151)
            replace hx151_0 := (HB.out.cell (World.block_lt_of_cell? w _ hx151_0)).trans hx151_0
            replace p151 := eq_true p151
            replace q151 := eq_true q151
            have p9 : 0 ≤ (x13_2 : Int) := of_decide_eq_true (by assumption)
            have q9 : x13_2 < ((rdOf yaf l0 x12_1).size : Int) := of_decide_eq_true (by assumption)
            have hx9 := bt_at (rdOf yaf l0 x12_1) x13_2
            replace p9 := eq_true p9
            replace q9 := eq_true q9
            go_wp2
            go_roundg k2
            case measure => have := HK1.out; have := HK2.out; omega
            case rel => exact ⟨(x8_2), (x9_2), (x10_2), (x11_2), (wrap64 (x13_2 + 1)), (by first | rfl | (simp; done) | (simp [*]; done)), (by first | rfl | (simp; done) | (simp [*]; done)), (by first | rfl | (simp; done) | (simp [*]; done)), (by first | rfl | (simp; done) | (simp [*]; done)), (by first | rfl | (simp; done) | (simp [*]; done)), H', ⟨by have := HK1.out; have := HK2.out; omega⟩, ⟨by repeat (first | (with_reducible first | exact HB.out | apply zac | apply zab | apply zad) | exact HB.out)⟩⟩
          ·rw [if_neg c8] at H
           exact absurd H (by simp)
         ·rw [if_neg c7] at H
          have c7b0 : decide (x13_2 < ((rdOf yaf l0 x12_1).size : Int)) = false := decide_eq_false c7
          clear c7
          have H' := zaa.mk H
          clear H
          have p150 : 0 ≤ (x12_1 : Int) := of_decide_eq_true (by assumption)
          have q150 : x12_1 < (l0.length : Int) := of_decide_eq_true (by assumption)
          obtain ⟨ad150, e150, hx150_0⟩ := Kd.at_string HR0.out x12_1 p150 q150
          obtain rfl : ad149 = ad150 := (by injection e150)
          replace hx150_0 := (HB.out.cell (World.block_lt_of_cell? w _ hx150_0)).trans hx150_0
          replace p150 := eq_true p150
          replace q150 := eq_true q150
          go_wp2
          go_roundg k2
          case measure => have := HK1.out; have := HK2.out; omega
          case rel => exact ⟨(x8_2), (x9_2), (x10_2), (x11_2), (wrap64 (x12_1 + 1)), (by first | rfl | (simp; done) | (simp [*]; done)), (by first | rfl | (simp; done) | (simp [*]; done)), (by first | rfl | (simp; done) | (simp [*]; done)), (by first | rfl | (simp; done) | (simp [*]; done)), (by first | rfl | (simp; done) | (simp [*]; done)), H', ⟨by have := HK1.out; have := HK2.out; omega⟩, ⟨by repeat (first | (with_reducible first | exact HB.out | apply zac | apply zab | apply zad) | exact HB.out)⟩⟩
        ·rw [if_neg c6] at H
         exact absurd H (by simp)
       ·rw [if_neg c5] at H
        exact absurd H (by simp)
    ·rw [if_neg c4] at H
     have c4b0 : decide (x12_1 < (l0.length : Int)) = false := decide_eq_false c4
     clear c4
     simp only [Option.some.injEq, Prod.mk.injEq] at H
     obtain ⟨rfl, rfl, rfl, rfl⟩ := H
     go_wp2
     refine bodyPost_ret (results_list (rs := [.tmp 4, .tmp 5, .tmp 6, .tmp 7]) rfl (by simp) (.tmp (.tmp (.tmp (.tmp .nil))))) rfl ?_
     exact ⟨by first | rfl | (simp [zap, zao] <;> rfl) | (simp [*, zap, zao] <;> rfl), by repeat (first | (with_reducible first | exact HB.out | apply zac | apply zab | apply zad) | exact HB.out)⟩
 ·rw [if_neg c3] at H
  exact absurd H (by simp)
end Go.Proofs.Ytickdcegnlldjaa.PB
namespace Go.Proofs.Ytickdcegnlldjaa.PB
open Go.RowKit Go.PW.PrintWords Go.PW.PrintLast Go.PW.PrintMore
attribute [local go_sem] zce zcc zcq zcp zbv zbu zcd zcb   -- for this text's walks alone
mutual
def spec_l1Cells.l0 : Nat → List ByteArray → Int → Int → Int → Option (Int)
 | 0, _, _, _, _ => none
 | k + 1, x0, x1, x5, x6 => if x6 < (x0.length : Int) then (spec_l1Cells.l1 k x0 x1 x5 x6 0) else (some x5)
def spec_l1Cells.l1 : Nat → List ByteArray → Int → Int → Int → Int → Option (Int)
 | 0, _, _, _, _, _ => none
 | k + 1, x0, x1, x5, x6, x7 => if 0 ≤ x6 then (if x6 < (x0.length : Int) then (if x7 < ((rdOf yaf x0 x6).size : Int) then (if 0 ≤ x7 then (if (wrap64 ((wrap64 (bt (rdOf yaf x0 x6) x7)) - 97)) = x1 then (spec_l1Cells.l1 k x0 x1 (wrap64 (x5 + 1)) x6 (wrap64 (x7 + 1))) else (spec_l1Cells.l1 k x0 x1 x5 x6 (wrap64 (x7 + 1)))) else (none)) else (spec_l1Cells.l0 k x0 x1 x5 (wrap64 (x6 + 1)))) else (none)) else (none)
end
def spec_l1Cells.f (k : Nat) (l0 : List ByteArray) (a1 : Int) : Option (Int) := spec_l1Cells.l0 k l0 a1 0 0
set_option maxHeartbeats 8000000 in
set_option maxRecDepth 100000 in
theorem spec_l1Cells.calls (k : Nat) (A0 : Option Addr) (c0 : Nat) (l0 : List ByteArray) (a1 : Int) (r : Int) (w : World) (hr0 : Kd.C Kd.string w A0 l0.length l0) (hc0 : l0.length ≤ c0) (h : spec_l1Cells.f k l0 a1 = some r) :
  Calls Try.prog 89 #[.slice A0 l0.length c0, .int .i64 a1] w fun e w' => e = .returned (.int .i64 r) ∧ zba w w' := by
 have HR0 := zaa.mk hr0
 have HC0 := zaa.mk hc0
 clear hr0 hc0
 have H : (spec_l1Cells.l0 k l0 a1 0 0) = some r := h
 clear h
 have H' := zaa.mk H
 clear H
 go_enter Try.func89, Try.ntmps89
 go_wp2
 go_loopg [5, 6] k (fun kq v5 v6 w' => ∃ (x5_1 : Int) (x6_1 : Int), v5 = .int .i64 x5_1 ∧ v6 = .int .i64 x6_1 ∧ zaa (spec_l1Cells.l0 kq l0 a1 x5_1 x6_1 = some r) ∧ zaa (kq ≤ k) ∧ zba w w')
 case atStart => exact ⟨(0), (0), (by first | rfl | (simp; done) | (simp [*]; done)), (by first | rfl | (simp; done) | (simp [*]; done)), H', ⟨yai _⟩, by repeat (first | exact zba.refl _ | apply zba.step)⟩
 case round =>
  clear H'
  try clear p2
  obtain ⟨x5_1, x6_1, rfl, rfl, HA, HK1, ⟨m1, rfl⟩⟩ := hrel
  cases gk with
  | zero => exact absurd HA.out (by simp [spec_l1Cells.l0])
  | succ k1 =>
   have H := HA.out
   clear HA
   simp only [spec_l1Cells.l0] at H
   by_cases c3 : x6_1 < (l0.length : Int)
   ·rw [if_pos c3] at H
    have c3b0 : decide (x6_1 < (l0.length : Int)) = true := decide_eq_true c3
    clear c3
    have H' := zaa.mk H
    clear H
    go_wp2
    go_loopg [5, 7] k1 (fun kq v5 v7 w' => ∃ (x5_2 : Int) (x7_2 : Int), v5 = .int .i64 x5_2 ∧ v7 = .int .i64 x7_2 ∧ zaa (spec_l1Cells.l1 kq l0 a1 x5_2 x6_1 x7_2 = some r) ∧ zaa (kq ≤ k1) ∧ zba w w')
    case atStart => exact ⟨(x5_1), (0), (by first | rfl | (simp; done) | (simp [*]; done)), (by first | rfl | (simp; done) | (simp [*]; done)), H', ⟨yai _⟩, by repeat (first | exact zba.refl _ | apply zba.step)⟩
    case round =>
     clear H'
     try clear p2
     try clear c3
     try clear c3b0
     try clear p2
     obtain ⟨x5_2, x7_2, rfl, rfl, HA, HK2, ⟨m2, rfl⟩⟩ := hrel
     cases gk with
     | zero => exact absurd HA.out (by simp [spec_l1Cells.l1])
     | succ k2 =>
      have H := HA.out
      clear HA
      simp only [spec_l1Cells.l1] at H
      by_cases c4 : 0 ≤ x6_1
      ·rw [if_pos c4] at H
       have c4b0 : decide (0 ≤ x6_1) = true := decide_eq_true c4
       clear c4
       by_cases c5 : x6_1 < (l0.length : Int)
       ·rw [if_pos c5] at H
        have c5b0 : decide (x6_1 < (l0.length : Int)) = true := decide_eq_true c5
        clear c5
        by_cases c6 : x7_2 < ((rdOf yaf l0 x6_1).size : Int)
        ·rw [if_pos c6] at H
         have c6b0 : decide (x7_2 < ((rdOf yaf l0 x6_1).size : Int)) = true := decide_eq_true c6
         clear c6
         by_cases c7 : 0 ≤ x7_2
         ·rw [if_pos c7] at H
          have c7b0 : decide (0 ≤ x7_2) = true := decide_eq_true c7
          clear c7
          by_cases c9 : (wrap64 ((wrap64 (bt (rdOf yaf l0 x6_1) x7_2)) - 97)) = a1
          ·rw [if_pos c9] at H
           have c9b0 : ((wrap64 ((wrap64 (bt (rdOf yaf l0 x6_1) x7_2)) - 97)) == a1) = true := beq_iff_eq.mpr c9
           have c9b1 : ((wrap64 ((wrap64 (bt (rdOf yaf l0 x6_1) x7_2)) - 97)) != a1) = false := bne_eq_false_iff_eq.mpr c9
           clear c9
           have H' := zaa.mk H
           clear H
           have p152 : 0 ≤ (x6_1 : Int) := of_decide_eq_true (by assumption)
           have q152 : x6_1 < (l0.length : Int) := of_decide_eq_true (by assumption)
           obtain ⟨ad152, e152, hx152_0⟩ := Kd.at_string HR0.out x6_1 p152 q152
           cases e152
           replace p152 := eq_true p152
           replace q152 := eq_true q152
           have p153 : 0 ≤ (x6_1 : Int) := of_decide_eq_true (by assumption)
           have q153 : x6_1 < (l0.length : Int) := of_decide_eq_true (by assumption)
           obtain ⟨ad153, e153, hx153_0⟩ := Kd.at_string HR0.out x6_1 p153 q153
           obtain rfl : ad152 = ad153 := (by injection e153)
           replace p153 := eq_true p153
           replace q153 := eq_true q153
           have p8 : 0 ≤ (x7_2 : Int) := of_decide_eq_true (by assumption)
           have q8 : x7_2 < ((rdOf yaf l0 x6_1).size : Int) := of_decide_eq_true (by assumption)
           have hx8 := bt_at (rdOf yaf l0 x6_1) x7_2
           replace p8 := eq_true p8
           replace q8 := eq_true q8
           go_wp2
           go_roundg k2
           case measure => have := HK1.out; have := HK2.out; omega
           case rel => exact ⟨(wrap64 (x5_2 + 1)), (wrap64 (x7_2 + 1)), (by first | rfl | (simp; done) | (simp [*]; done)), (by first | rfl | (simp; done) | (simp [*]; done)), H', ⟨by have := HK1.out; have := HK2.out; omega⟩, by repeat (first | exact zba.refl _ | apply zba.step)⟩
          ·rw [if_neg c9] at H
           have c9b0 : ((wrap64 ((wrap64 (bt (rdOf yaf l0 x6_1) x7_2)) - 97)) == a1) = false := beq_eq_false_iff_ne.mpr c9
           have c9b1 : ((wrap64 ((wrap64 (bt (rdOf yaf l0 x6_1) x7_2)) - 97)) != a1) = true := bne_iff_ne.mpr c9
           have H' := zaa.mk H
           clear H
           have p152 : 0 ≤ (x6_1 : Int) := of_decide_eq_true (by assumption)
           have q152 : x6_1 < (l0.length : Int) := of_decide_eq_true (by assumption)
           obtain ⟨ad152, e152, hx152_0⟩ := Kd.at_string HR0.out x6_1 p152 q152
           cases e152
           replace p152 := eq_true p152
           replace q152 := eq_true q152
           have p153 : 0 ≤ (x6_1 : Int) := of_decide_eq_true (by assumption)
           have q153 : x6_1 < (l0.length : Int) := of_decide_eq_true (by assumption)
           obtain ⟨ad153, e153, hx153_0⟩ := Kd.at_string HR0.out x6_1 p153 q153
           obtain rfl : ad152 = ad153 := (by injection e153)
           replace p153 := eq_true p153
           replace q153 := eq_true q153
           have p8 : 0 ≤ (x7_2 : Int) := of_decide_eq_true (by assumption)
           have q8 : x7_2 < ((rdOf yaf l0 x6_1).size : Int) := of_decide_eq_true (by assumption)
           have hx8 := bt_at (rdOf yaf l0 x6_1) x7_2
           replace p8 := eq_true p8
           replace q8 := eq_true q8
           go_wp2
           go_roundg k2
           case measure => have := HK1.out; have := HK2.out; omega
           case rel => exact ⟨(x5_2), (wrap64 (x7_2 + 1)), (by first | rfl | (simp; done) | (simp [*]; done)), (by first | rfl | (simp; done) | (simp [*]; done)), H', ⟨by have := HK1.out; have := HK2.out; omega⟩, by repeat (first | exact zba.refl _ | apply zba.step)⟩
         ·rw [if_neg c7] at H
          exact absurd H (by simp)
        ·rw [if_neg c6] at H
         have c6b0 : decide (x7_2 < ((rdOf yaf l0 x6_1).size : Int)) = false := decide_eq_false c6
         clear c6
         have H' := zaa.mk H
         clear H
         have p152 : 0 ≤ (x6_1 : Int) := of_decide_eq_true (by assumption)
         have q152 : x6_1 < (l0.length : Int) := of_decide_eq_true (by assumption)
         obtain ⟨ad152, e152, hx152_0⟩ := Kd.at_string HR0.out x6_1 p152 q152
         cases e152
         replace p152 := eq_true p152
         replace q152 := eq_true q152
         go_wp2
         go_roundg k2
         case measure => have := HK1.out; have := HK2.out; omega
         case rel => exact ⟨(x5_2), (wrap64 (x6_1 + 1)), (by first | rfl | (simp; done) | (simp [*]; done)), (by first | rfl | (simp; done) | (simp [*]; done)), H', ⟨by have := HK1.out; have := HK2.out; omega⟩, by repeat (first | exact zba.refl _ | apply zba.step)⟩
       ·rw [if_neg c5] at H
        exact absurd H (by simp)
      ·rw [if_neg c4] at H
       exact absurd H (by simp)
   ·rw [if_neg c3] at H
    have c3b0 : decide (x6_1 < (l0.length : Int)) = false := decide_eq_false c3
    clear c3
    obtain rfl := Option.some.inj H
    go_wp2
    go_ret
    exact ⟨by first | rfl | (simp; done) | (simp [*]; done), by repeat (first | exact zba.refl _ | apply zba.step)⟩
end Go.Proofs.Ytickdcegnlldjaa.PB
namespace Go.Proofs.Ytickdcegnlldjaa.PB
open Go.RowKit Go.PW.PrintWords Go.PW.PrintLast Go.PW.PrintMore
attribute [local go_sem] zce zcc zcq zcp zbv zbu zcd zcb   -- for this text's walks alone
mutual
def spec_PlanIn.j0 : Nat → List ByteArray → Bool → Option (Bool)
 | 0, _, _ => none
 | k + 1, x0, x22 => if x22 = true then (some false) else (spec_PlanIn.l0 k x0 0)
def spec_PlanIn.l0 : Nat → List ByteArray → Int → Option (Bool)
 | 0, _, _ => none
 | k + 1, x0, x3 => (spec_l1Rooms.f k x0).bind fun t160 => (if x3 < t160 then ((spec_l1Room.f k x0 x3).bind fun bt161 => ((spec_l1Cells.f k x0 x3).bind fun t165 => (if t165 = (wrap64 (bt161.2.2.1 * bt161.2.2.2)) then (spec_PlanIn.l0 k x0 (wrap64 (x3 + 1))) else (some false)))) else (some true))
end
def spec_PlanIn.f (k : Nat) (l0 : List ByteArray) : Option (Bool) := (spec_l1Grid.f k l0).bind fun t154 => (if t154 = true then ((spec_l1Names.f k l0).bind fun t155 => ((spec_l1Same.f k t155 l0).bind fun t158 => (if t158 = true then ((spec_l1Rooms.f k l0).bind fun t159 => (spec_PlanIn.j0 k l0 (decide (t159 > 9)))) else (spec_PlanIn.j0 k l0 true)))) else (spec_PlanIn.j0 k l0 true))
set_option maxHeartbeats 8000000 in
set_option maxRecDepth 100000 in
theorem spec_PlanIn.calls (k : Nat) (A0 : Option Addr) (c0 : Nat) (l0 : List ByteArray) (r : Bool) (w : World) (hr0 : Kd.C Kd.string w A0 l0.length l0) (hc0 : l0.length ≤ c0) (h : spec_PlanIn.f k l0 = some r) :
  Calls Try.prog 45 #[.slice A0 l0.length c0] w fun e w' => e = .returned (.bool r) ∧ Below w.heap.size w w' := by
 have HR0 := zaa.mk hr0
 have HC0 := zaa.mk hc0
 clear hr0 hc0
 have HB := zaa.mk (Below.refl w.heap.size w)
 have H : ((spec_l1Grid.f k l0).bind fun t154 => (if t154 = true then ((spec_l1Names.f k l0).bind fun t155 => ((spec_l1Same.f k t155 l0).bind fun t158 => (if t158 = true then ((spec_l1Rooms.f k l0).bind fun t159 => (spec_PlanIn.j0 k l0 (decide (t159 > 9)))) else (spec_PlanIn.j0 k l0 true)))) else (spec_PlanIn.j0 k l0 true))) = some r := h
 clear h
 have HC2 := zaa.mk H
 clear H
 go_enter Try.func45, Try.ntmps45
 go_upto_region 1 with (fail)
 go_cut [22] (fun v22 wc => ∃ (kq : Nat) (x22_1 : Bool), v22 = .bool x22_1 ∧ zaa (spec_PlanIn.j0 kq l0 x22_1 = some r) ∧ zaa (kq ≤ k) ∧ zaa (Below w.heap.size w wc))
 case first =>
  have H := HC2.out
  clear HC2
  replace H := yag.mp H
  obtain ⟨t154, A30, H⟩ := H
  replace H : (if t154 = true then ((spec_l1Names.f k l0).bind fun t155 => ((spec_l1Same.f k t155 l0).bind fun t158 => (if t158 = true then ((spec_l1Rooms.f k l0).bind fun t159 => (spec_PlanIn.j0 k l0 (decide (t159 > 9)))) else (spec_PlanIn.j0 k l0 true)))) else (spec_PlanIn.j0 k l0 true)) = some r := H
  have A3 := zaa.mk A30
  clear A30
  by_cases c4 : t154 = true
  ·subst c4
   have H1 : ((spec_l1Names.f k l0).bind fun t155 => ((spec_l1Same.f k t155 l0).bind fun t158 => (if t158 = true then ((spec_l1Rooms.f k l0).bind fun t159 => (spec_PlanIn.j0 k l0 (decide (t159 > 9)))) else (spec_PlanIn.j0 k l0 true)))) = some r := by rw [if_pos rfl] at H; exact H
   clear H
   have H := H1
   clear H1
   replace H := yag.mp H
   obtain ⟨t155, A50, H⟩ := H
   replace H : ((spec_l1Same.f k t155 l0).bind fun t158 => (if t158 = true then ((spec_l1Rooms.f k l0).bind fun t159 => (spec_PlanIn.j0 k l0 (decide (t159 > 9)))) else (spec_PlanIn.j0 k l0 true))) = some r := H
   have A5 := zaa.mk A50
   clear A50
   replace H := yag.mp H
   obtain ⟨t158, A60, H⟩ := H
   replace H : (if t158 = true then ((spec_l1Rooms.f k l0).bind fun t159 => (spec_PlanIn.j0 k l0 (decide (t159 > 9)))) else (spec_PlanIn.j0 k l0 true)) = some r := H
   have A6 := zaa.mk A60
   clear A60
   by_cases c7 : t158 = true
   ·subst c7
    have H1 : ((spec_l1Rooms.f k l0).bind fun t159 => (spec_PlanIn.j0 k l0 (decide (t159 > 9)))) = some r := by rw [if_pos rfl] at H; exact H
    clear H
    have H := H1
    clear H1
    replace H := yag.mp H
    obtain ⟨t159, A80, H⟩ := H
    replace H : (spec_PlanIn.j0 k l0 (decide (t159 > 9))) = some r := H
    have A8 := zaa.mk A80
    clear A80
    have H' := zaa.mk H
    clear H
    go_wp2_with (first | ((with_reducible refine zah (f := 84) rfl ?_); refine zaz (some 9) rfl rfl Try.func84 (by kernel_rfl) rfl #[.slice A0 l0.length c0] rfl (by (try simp only [yaa, yab, yac]); first | done | rfl | (simp only [yae, yad]; rfl)) ?_; (with_reducible refine (spec_l1Grid.calls k _ _ l0 true _ ?side1 ?side2 A3.out).mono ?_); (case side1 => repeat (first | exact (Kd.C_below HR0.out HB.out) | (with_reducible refine yam ?_ _) | (with_reducible refine yan ?_ _) | (with_reducible refine yao ?_))); (case side2 => exact HC0.out); rintro e w' ⟨rfl, ⟨nd, rfl⟩⟩; refine ⟨_, rfl, ?_⟩) | (go_at_call 86; (with_reducible refine (spec_l1Names.calls k _ _ l0 t155 _ ?side1 ?side2 A5.out).mono ?_); (case side1 => repeat (first | exact (Kd.C_below HR0.out (by repeat (first | (with_reducible first | exact HB.out | apply zac | apply zab | apply zad) | exact HB.out))) | (with_reducible refine yam ?_ _) | (with_reducible refine yan ?_ _) | (with_reducible refine yao ?_))); (case side2 => exact HC0.out); rintro e w9 ⟨v156, rfl, ho0, hb⟩; have n0_ := zaa.mk (Kd.R_lower ho0 (zag (by repeat (first | (with_reducible first | exact HB.out | apply zac | apply zab | apply zad) | exact HB.out)))); have n1_ := zaa.mk (zae (by repeat (first | (with_reducible first | exact HB.out | apply zac | apply zab | apply zad) | exact HB.out)) hb); clear HB; have HO157 := n0_; have HB := n1_; clear n0_ n1_; (try clear hb); (try clear hb2); (try clear hk); (try clear hi); (try clear ho0); obtain ⟨Ao10, co10, eo10⟩ := Kd.R_slice HO157.out; subst eo10) | (go_at_call 85; (with_reducible refine (spec_l1Same.calls k _ _ t155 _ _ l0 true _ ?side1 ?side2 ?side3 ?side4 A6.out).mono ?_); (case side1 => repeat (first | exact (Kd.R_reads' HO157.out).2.2 | (with_reducible refine yam ?_ _) | (with_reducible refine yan ?_ _) | (with_reducible refine yao ?_))); (case side2 => exact (Kd.R_reads' HO157.out).2.1); (case side3 => repeat (first | exact (Kd.C_below HR0.out HB.out) | (with_reducible refine yam ?_ _) | (with_reducible refine yan ?_ _) | (with_reducible refine yao ?_))); (case side4 => exact HC0.out); rintro e w' ⟨rfl, ⟨nd, rfl⟩⟩) | (go_at_call 87; (with_reducible refine (spec_l1Rooms.calls k _ _ l0 t159 _ ?side1 ?side2 A8.out).mono ?_); (case side1 => repeat (first | exact (Kd.C_below HR0.out (by repeat (first | (with_reducible first | exact HB.out | apply zac | apply zab | apply zad) | exact HB.out))) | (with_reducible refine yam ?_ _) | (with_reducible refine yan ?_ _) | (with_reducible refine yao ?_))); (case side2 => exact HC0.out); rintro e w11 ⟨rfl, hb⟩; have n0_ := zaa.mk (Kd.R_below (by (with_reducible repeat (first | apply yaj | apply yak | apply yal)); exact HO157.out) hb); have n1_ := zaa.mk (zae (by repeat (first | (with_reducible first | exact HB.out | apply zac | apply zab | apply zad) | exact HB.out)) hb); clear HO157; clear HB; have HO157 := n0_; have HB := n1_; clear n0_ n1_; (try clear hb); (try clear hb2); (try clear hk); (try clear hi)))
    go_meet
    case rel => exact ⟨_, (decide (t159 > 9)), (by first | rfl | (simp; done) | (simp [*]; done)), H', ⟨by first | omega | exact yai _⟩, ⟨by repeat (first | (with_reducible first | exact HB.out | apply zac | apply zab | apply zad) | exact HB.out)⟩⟩
   ·replace c7 := Bool.eq_false_iff.mpr c7
    subst c7
    have H1 : (spec_PlanIn.j0 k l0 true) = some r := by rw [if_neg (show ¬ (false = true) by decide)] at H; exact H
    clear H
    have H := H1
    clear H1
    have H' := zaa.mk H
    clear H
    go_wp2_with (first | ((with_reducible refine zah (f := 84) rfl ?_); refine zaz (some 9) rfl rfl Try.func84 (by kernel_rfl) rfl #[.slice A0 l0.length c0] rfl (by (try simp only [yaa, yab, yac]); first | done | rfl | (simp only [yae, yad]; rfl)) ?_; (with_reducible refine (spec_l1Grid.calls k _ _ l0 true _ ?side1 ?side2 A3.out).mono ?_); (case side1 => repeat (first | exact (Kd.C_below HR0.out HB.out) | (with_reducible refine yam ?_ _) | (with_reducible refine yan ?_ _) | (with_reducible refine yao ?_))); (case side2 => exact HC0.out); rintro e w' ⟨rfl, ⟨nd, rfl⟩⟩; refine ⟨_, rfl, ?_⟩) | (go_at_call 86; (with_reducible refine (spec_l1Names.calls k _ _ l0 t155 _ ?side1 ?side2 A5.out).mono ?_); (case side1 => repeat (first | exact (Kd.C_below HR0.out (by repeat (first | (with_reducible first | exact HB.out | apply zac | apply zab | apply zad) | exact HB.out))) | (with_reducible refine yam ?_ _) | (with_reducible refine yan ?_ _) | (with_reducible refine yao ?_))); (case side2 => exact HC0.out); rintro e w12 ⟨v156, rfl, ho0, hb⟩; have n0_ := zaa.mk (Kd.R_lower ho0 (zag (by repeat (first | (with_reducible first | exact HB.out | apply zac | apply zab | apply zad) | exact HB.out)))); have n1_ := zaa.mk (zae (by repeat (first | (with_reducible first | exact HB.out | apply zac | apply zab | apply zad) | exact HB.out)) hb); clear HB; have HO157 := n0_; have HB := n1_; clear n0_ n1_; (try clear hb); (try clear hb2); (try clear hk); (try clear hi); (try clear ho0); obtain ⟨Ao13, co13, eo13⟩ := Kd.R_slice HO157.out; subst eo13) | (go_at_call 85; (with_reducible refine (spec_l1Same.calls k _ _ t155 _ _ l0 false _ ?side1 ?side2 ?side3 ?side4 A6.out).mono ?_); (case side1 => repeat (first | exact (Kd.R_reads' HO157.out).2.2 | (with_reducible refine yam ?_ _) | (with_reducible refine yan ?_ _) | (with_reducible refine yao ?_))); (case side2 => exact (Kd.R_reads' HO157.out).2.1); (case side3 => repeat (first | exact (Kd.C_below HR0.out HB.out) | (with_reducible refine yam ?_ _) | (with_reducible refine yan ?_ _) | (with_reducible refine yao ?_))); (case side4 => exact HC0.out); rintro e w' ⟨rfl, ⟨nd, rfl⟩⟩))
    go_meet
    case rel => exact ⟨_, (true), (by first | rfl | (simp; done) | (simp [*]; done)), H', ⟨by first | omega | exact yai _⟩, ⟨by repeat (first | (with_reducible first | exact HB.out | apply zac | apply zab | apply zad) | exact HB.out)⟩⟩
  ·replace c4 := Bool.eq_false_iff.mpr c4
   subst c4
   have H1 : (spec_PlanIn.j0 k l0 true) = some r := by rw [if_neg (show ¬ (false = true) by decide)] at H; exact H
   clear H
   have H := H1
   clear H1
   have H' := zaa.mk H
   clear H
   go_wp2_with (first | ((with_reducible refine zah (f := 84) rfl ?_); refine zaz (some 9) rfl rfl Try.func84 (by kernel_rfl) rfl #[.slice A0 l0.length c0] rfl (by (try simp only [yaa, yab, yac]); first | done | rfl | (simp only [yae, yad]; rfl)) ?_; (with_reducible refine (spec_l1Grid.calls k _ _ l0 false _ ?side1 ?side2 A3.out).mono ?_); (case side1 => repeat (first | exact (Kd.C_below HR0.out HB.out) | (with_reducible refine yam ?_ _) | (with_reducible refine yan ?_ _) | (with_reducible refine yao ?_))); (case side2 => exact HC0.out); rintro e w' ⟨rfl, ⟨nd, rfl⟩⟩; refine ⟨_, rfl, ?_⟩))
   go_meet
   case rel => exact ⟨_, (true), (by first | rfl | (simp; done) | (simp [*]; done)), H', ⟨by first | omega | exact yai _⟩, ⟨by repeat (first | (with_reducible first | exact HB.out | apply zac | apply zab | apply zad) | exact HB.out)⟩⟩
 case rest =>
  clear HC2
  try clear p2
  try clear c4
  try clear c7
  try clear c8
  obtain ⟨kq, x22_1, rfl, HA, HJ1, HB⟩ := hcut
  cases kq with
  | zero => exact absurd HA.out (by simp [spec_PlanIn.j0])
  | succ kj1 =>
   have H := HA.out
   clear HA
   simp only [spec_PlanIn.j0] at H
   by_cases c14 : x22_1 = true
   ·subst c14
    have H1 : (some false) = some r := by rw [if_pos rfl] at H; exact H
    clear H
    have H := H1
    clear H1
    obtain rfl := Option.some.inj H
    go_wp2
    go_ret
    exact ⟨by first | rfl | (simp [zap, zao] <;> rfl) | (simp [*, zap, zao] <;> rfl), by repeat (first | (with_reducible first | exact HB.out | apply zac | apply zab | apply zad) | exact HB.out)⟩
   ·replace c14 := Bool.eq_false_iff.mpr c14
    subst c14
    have H1 : (spec_PlanIn.l0 kj1 l0 0) = some r := by rw [if_neg (show ¬ (false = true) by decide)] at H; exact H
    clear H
    have H := H1
    clear H1
    have H' := zaa.mk H
    clear H
    go_wp2
    go_loopg [3] kj1 (fun kq v3 w' => ∃ (x3_2 : Int), v3 = .int .i64 x3_2 ∧ zaa (spec_PlanIn.l0 kq l0 x3_2 = some r) ∧ zaa (kq ≤ kj1) ∧ zaa (Below w.heap.size w w'))
    case atStart => exact ⟨(0), (by first | rfl | (simp; done) | (simp [*]; done)), H', ⟨yai _⟩, ⟨by repeat (first | (with_reducible first | exact HB.out | apply zac | apply zab | apply zad) | exact HB.out)⟩⟩
    case round =>
     clear H'
     try clear c1
     try clear p2
     try clear c4
     try clear c7
     try clear c8
     try clear c14
     try clear p2
     obtain ⟨x3_2, rfl, HA, HK2, HB⟩ := hrel
     cases gk with
     | zero => exact absurd HA.out (by simp [spec_PlanIn.l0])
     | succ k2 =>
      have H := HA.out
      clear HA
      simp only [spec_PlanIn.l0] at H
      replace H := yag.mp H
      obtain ⟨t160, A150, H⟩ := H
      replace H : (if x3_2 < t160 then ((spec_l1Room.f k2 l0 x3_2).bind fun bt161 => ((spec_l1Cells.f k2 l0 x3_2).bind fun t165 => (if t165 = (wrap64 (bt161.2.2.1 * bt161.2.2.2)) then (spec_PlanIn.l0 k2 l0 (wrap64 (x3_2 + 1))) else (some false)))) else (some true)) = some r := H
      have A15 := zaa.mk A150
      clear A150
      by_cases c16 : x3_2 < t160
      ·rw [if_pos c16] at H
       have c16b0 : decide (x3_2 < t160) = true := decide_eq_true c16
       clear c16
       replace H := yag.mp H
       obtain ⟨⟨t161, t162, t163, t164⟩, A170, H⟩ := H
       replace H : ((spec_l1Cells.f k2 l0 x3_2).bind fun t165 => (if t165 = (wrap64 (t163 * t164)) then (spec_PlanIn.l0 k2 l0 (wrap64 (x3_2 + 1))) else (some false))) = some r := H
       have A17 := zaa.mk A170
       clear A170
       replace H := yag.mp H
       obtain ⟨t165, A180, H⟩ := H
       replace H : (if t165 = (wrap64 (t163 * t164)) then (spec_PlanIn.l0 k2 l0 (wrap64 (x3_2 + 1))) else (some false)) = some r := H
       have A18 := zaa.mk A180
       clear A180
       by_cases c19 : t165 = (wrap64 (t163 * t164))
       ·rw [if_pos c19] at H
        have c19b0 : (t165 == (wrap64 (t163 * t164))) = true := beq_iff_eq.mpr c19
        have c19b1 : (t165 != (wrap64 (t163 * t164))) = false := bne_eq_false_iff_eq.mpr c19
        clear c19
        have H' := zaa.mk H
        clear H
        go_wp2_with (first | ((with_reducible refine zah (f := 87) rfl ?_); refine zaz (some 25) rfl rfl Try.func87 (by kernel_rfl) rfl #[.slice A0 l0.length c0] rfl (by (try simp only [yaa, yab, yac]); first | done | rfl | (simp only [yae, yad]; rfl)) ?_; (with_reducible refine (spec_l1Rooms.calls k2 _ _ l0 t160 _ ?side1 ?side2 A15.out).mono ?_); (case side1 => repeat (first | exact (Kd.C_below HR0.out HB.out) | (with_reducible refine yam ?_ _) | (with_reducible refine yan ?_ _) | (with_reducible refine yao ?_))); (case side2 => exact HC0.out); rintro e w20 ⟨rfl, hb⟩; refine ⟨_, rfl, ?_⟩; have n0_ := zaa.mk (zae (by repeat (first | (with_reducible first | exact HB.out | apply zac | apply zab | apply zad) | exact HB.out)) hb); clear HB; have HB := n0_; clear n0_; (try clear hb); (try clear hb2); (try clear hk); (try clear hi)) | ((with_reducible refine zah (f := 88) rfl ?_); refine zaz (some 32) rfl rfl Try.func88 (by kernel_rfl) rfl #[.slice A0 l0.length c0, .int .i64 x3_2] rfl (by (try simp only [yaa, yab, yac]); first | done | rfl | (simp only [yae, yad]; rfl)) ?_; (with_reducible refine (spec_l1Room.calls k2 _ _ l0 x3_2 t161 t162 t163 t164 _ ?side1 ?side2 A17.out).mono ?_); (case side1 => repeat (first | exact (Kd.C_below HR0.out HB.out) | (with_reducible refine yam ?_ _) | (with_reducible refine yan ?_ _) | (with_reducible refine yao ?_))); (case side2 => exact HC0.out); rintro e w21 ⟨rfl, hb⟩; refine ⟨_, rfl, ?_⟩; have n0_ := zaa.mk (zae (by repeat (first | (with_reducible first | exact HB.out | apply zac | apply zab | apply zad) | exact HB.out)) hb); clear HB; have HB := n0_; clear n0_; (try clear hb); (try clear hb2); (try clear hk); (try clear hi)) | ((with_reducible refine zah (f := 89) rfl ?_); refine zaz (some 39) rfl rfl Try.func89 (by kernel_rfl) rfl #[.slice A0 l0.length c0, .int .i64 x3_2] rfl (by (try simp only [yaa, yab, yac]); first | done | rfl | (simp only [yae, yad]; rfl)) ?_; (with_reducible refine (spec_l1Cells.calls k2 _ _ l0 x3_2 t165 _ ?side1 ?side2 A18.out).mono ?_); (case side1 => repeat (first | exact (Kd.C_below HR0.out HB.out) | (with_reducible refine yam ?_ _) | (with_reducible refine yan ?_ _) | (with_reducible refine yao ?_))); (case side2 => exact HC0.out); rintro e w' ⟨rfl, ⟨nd, rfl⟩⟩; refine ⟨_, rfl, ?_⟩))
        go_roundg k2
        case measure => have := HJ1.out; have := HK2.out; omega
        case rel => exact ⟨(wrap64 (x3_2 + 1)), (by first | rfl | (simp; done) | (simp [*]; done)), H', ⟨by have := HJ1.out; have := HK2.out; omega⟩, ⟨by repeat (first | (with_reducible first | exact HB.out | apply zac | apply zab | apply zad) | exact HB.out)⟩⟩
       ·rw [if_neg c19] at H
        have c19b0 : (t165 == (wrap64 (t163 * t164))) = false := beq_eq_false_iff_ne.mpr c19
        have c19b1 : (t165 != (wrap64 (t163 * t164))) = true := bne_iff_ne.mpr c19
        obtain rfl := Option.some.inj H
        go_wp2_with (first | ((with_reducible refine zah (f := 87) rfl ?_); refine zaz (some 25) rfl rfl Try.func87 (by kernel_rfl) rfl #[.slice A0 l0.length c0] rfl (by (try simp only [yaa, yab, yac]); first | done | rfl | (simp only [yae, yad]; rfl)) ?_; (with_reducible refine (spec_l1Rooms.calls k2 _ _ l0 t160 _ ?side1 ?side2 A15.out).mono ?_); (case side1 => repeat (first | exact (Kd.C_below HR0.out HB.out) | (with_reducible refine yam ?_ _) | (with_reducible refine yan ?_ _) | (with_reducible refine yao ?_))); (case side2 => exact HC0.out); rintro e w22 ⟨rfl, hb⟩; refine ⟨_, rfl, ?_⟩; have n0_ := zaa.mk (zae (by repeat (first | (with_reducible first | exact HB.out | apply zac | apply zab | apply zad) | exact HB.out)) hb); clear HB; have HB := n0_; clear n0_; (try clear hb); (try clear hb2); (try clear hk); (try clear hi)) | ((with_reducible refine zah (f := 88) rfl ?_); refine zaz (some 32) rfl rfl Try.func88 (by kernel_rfl) rfl #[.slice A0 l0.length c0, .int .i64 x3_2] rfl (by (try simp only [yaa, yab, yac]); first | done | rfl | (simp only [yae, yad]; rfl)) ?_; (with_reducible refine (spec_l1Room.calls k2 _ _ l0 x3_2 t161 t162 t163 t164 _ ?side1 ?side2 A17.out).mono ?_); (case side1 => repeat (first | exact (Kd.C_below HR0.out HB.out) | (with_reducible refine yam ?_ _) | (with_reducible refine yan ?_ _) | (with_reducible refine yao ?_))); (case side2 => exact HC0.out); rintro e w23 ⟨rfl, hb⟩; refine ⟨_, rfl, ?_⟩; have n0_ := zaa.mk (zae (by repeat (first | (with_reducible first | exact HB.out | apply zac | apply zab | apply zad) | exact HB.out)) hb); clear HB; have HB := n0_; clear n0_; (try clear hb); (try clear hb2); (try clear hk); (try clear hi)) | ((with_reducible refine zah (f := 89) rfl ?_); refine zaz (some 39) rfl rfl Try.func89 (by kernel_rfl) rfl #[.slice A0 l0.length c0, .int .i64 x3_2] rfl (by (try simp only [yaa, yab, yac]); first | done | rfl | (simp only [yae, yad]; rfl)) ?_; (with_reducible refine (spec_l1Cells.calls k2 _ _ l0 x3_2 t165 _ ?side1 ?side2 A18.out).mono ?_); (case side1 => repeat (first | exact (Kd.C_below HR0.out HB.out) | (with_reducible refine yam ?_ _) | (with_reducible refine yan ?_ _) | (with_reducible refine yao ?_))); (case side2 => exact HC0.out); rintro e w' ⟨rfl, ⟨nd, rfl⟩⟩; refine ⟨_, rfl, ?_⟩))
        go_ret
        exact ⟨by first | rfl | (simp [zap, zao] <;> rfl) | (simp [*, zap, zao] <;> rfl), by repeat (first | (with_reducible first | exact HB.out | apply zac | apply zab | apply zad) | exact HB.out)⟩
      ·rw [if_neg c16] at H
       have c16b0 : decide (x3_2 < t160) = false := decide_eq_false c16
       clear c16
       obtain rfl := Option.some.inj H
       go_wp2_with (first | ((with_reducible refine zah (f := 87) rfl ?_); refine zaz (some 25) rfl rfl Try.func87 (by kernel_rfl) rfl #[.slice A0 l0.length c0] rfl (by (try simp only [yaa, yab, yac]); first | done | rfl | (simp only [yae, yad]; rfl)) ?_; (with_reducible refine (spec_l1Rooms.calls k2 _ _ l0 t160 _ ?side1 ?side2 A15.out).mono ?_); (case side1 => repeat (first | exact (Kd.C_below HR0.out HB.out) | (with_reducible refine yam ?_ _) | (with_reducible refine yan ?_ _) | (with_reducible refine yao ?_))); (case side2 => exact HC0.out); rintro e w24 ⟨rfl, hb⟩; refine ⟨_, rfl, ?_⟩; have n0_ := zaa.mk (zae (by repeat (first | (with_reducible first | exact HB.out | apply zac | apply zab | apply zad) | exact HB.out)) hb); clear HB; have HB := n0_; clear n0_; (try clear hb); (try clear hb2); (try clear hk); (try clear hi)))
       go_ret
       exact ⟨by first | rfl | (simp [zap, zao] <;> rfl) | (simp [*, zap, zao] <;> rfl), by repeat (first | (with_reducible first | exact HB.out | apply zac | apply zab | apply zad) | exact HB.out)⟩
end Go.Proofs.Ytickdcegnlldjaa.PB
namespace Go.Proofs.Ytickdcegnlldjaa.PB
open Go.RowKit Go.PW.PrintWords Go.PW.PrintLast Go.PW.PrintMore
attribute [local go_sem] zce zcc zcq zcp zbv zbu zcd zcb   -- for this text's walks alone
def spec_l6Rd_pick.j0 : Nat → Int → Bool → List Int → Int → Option (Int × Int)
 | 0, _, _, _, _ => none
 | k + 1, x1, x24, x1000, x1001 => if x24 = true then (some (0, x1001)) else (if (wrap64 (x1001 - 1)) < (x1000.length : Int) then (if 0 ≤ (wrap64 (x1001 - 1)) then (if x1 = 0 then (none) else (some (Int.tmod (wrap64 (rd x1000 (wrap64 (x1001 - 1)))) x1, x1001))) else (none)) else (if (x1000.length : Int) = 0 then (none) else (if 0 ≤ (Int.tmod (wrap64 (x1001 - 1)) (x1000.length : Int)) then (if (Int.tmod (wrap64 (x1001 - 1)) (x1000.length : Int)) < (x1000.length : Int) then (if 0 ≤ (Int.tmod (wrap64 ((wrap64 ((wrap64 (x1001 - 1)) * 7)) + 3)) (x1000.length : Int)) then (if (Int.tmod (wrap64 ((wrap64 ((wrap64 (x1001 - 1)) * 7)) + 3)) (x1000.length : Int)) < (x1000.length : Int) then (if x1 = 0 then (none) else (some (Int.tmod (Go.bits .xor .i64 (wrap64 ((wrap64 ((wrap64 ((wrap64 ((wrap64 (rd x1000 (Int.tmod (wrap64 (x1001 - 1)) (x1000.length : Int)))) * 131)) + (wrap64 ((wrap64 (rd x1000 (Int.tmod (wrap64 ((wrap64 ((wrap64 (x1001 - 1)) * 7)) + 3)) (x1000.length : Int)))) * 1117)))) + (wrap64 ((wrap64 (x1001 - 1)) * 29)))) + (wrap64 ((wrap64 (Int.tdiv (wrap64 (x1001 - 1)) (x1000.length : Int))) * 53)))) (wrap64 (Int.tdiv (wrap64 ((wrap64 ((wrap64 ((wrap64 ((wrap64 (rd x1000 (Int.tmod (wrap64 (x1001 - 1)) (x1000.length : Int)))) * 131)) + (wrap64 ((wrap64 (rd x1000 (Int.tmod (wrap64 ((wrap64 ((wrap64 (x1001 - 1)) * 7)) + 3)) (x1000.length : Int)))) * 1117)))) + (wrap64 ((wrap64 (x1001 - 1)) * 29)))) + (wrap64 ((wrap64 (Int.tdiv (wrap64 (x1001 - 1)) (x1000.length : Int))) * 53)))) 64))) x1, x1001))) else (none)) else (none)) else (none)) else (none))))
def spec_l6Rd_pick.f (k : Nat) (s0_0 : List Int) (s0_1 : Int) (a1 : Int) : Option (Int × Int) := if a1 < 1 then (spec_l6Rd_pick.j0 k a1 true s0_0 (wrap64 (s0_1 + 1))) else (spec_l6Rd_pick.j0 k a1 ((s0_0.length : Int) == 0) s0_0 (wrap64 (s0_1 + 1)))
set_option maxHeartbeats 8000000 in
set_option maxRecDepth 100000 in
theorem spec_l6Rd_pick.calls (k : Nat) (g : Nat) (s0_0 : List Int) (s0_1 : Int) (a1 : Int) (r1 : Int) (r2 : Int) (w0 w : World) (hI : zaf w0 w g s0_0 s0_1) (hB : Below w0.heap.size w0 w) (h : spec_l6Rd_pick.f k s0_0 s0_1 a1 = some (r1, r2)) :
  Calls Try.prog 58 #[.pointer (some ⟨g, 0, none⟩), .int .i64 a1] w fun e w' => e = .returned (.int .i64 r1) ∧ zaf w0 w' g s0_0 r2 ∧ Below w0.heap.size w0 w' ∧ zai w w' g none := by
 have HI0 := zaa.mk hI
 have HK := zaa.mk (zai.refl w g none)
 have HL := zaa.mk hB.size
 clear hI
 have HW0 := zaa.mk hB.size
 have HB := zaa.mk hB
 clear hB
 have H : (if a1 < 1 then (spec_l6Rd_pick.j0 k a1 true s0_0 (wrap64 (s0_1 + 1))) else (spec_l6Rd_pick.j0 k a1 ((s0_0.length : Int) == 0) s0_0 (wrap64 (s0_1 + 1)))) = some (r1, r2) := h
 clear h
 have HC3 := zaa.mk H
 clear H
 obtain ⟨ASz4_0, cSz4_0, HGz4, hgz4, HSz4_0⟩ := HI0.out
 have hcz4_0 := cellS94_0 HGz4
 have hcz4_1 := cellS94_1 HGz4
 have hfz4_1 := zaw HGz4 1
 clear HGz4 hgz4
 go_enter Try.func58, Try.ntmps58
 go_upto_region 2 with (fail)
 repeat (go_quiet (fail); go_upto_region 2 with (fail))
 go_cut [24] (fun v24 wc => ∃ (kq : Nat) (x24_2 : Bool), v24 = .bool x24_2 ∧ zaa (spec_l6Rd_pick.j0 kq a1 x24_2 s0_0 (wrap64 (s0_1 + 1)) = some (r1, r2)) ∧ zaa (kq ≤ k) ∧ zaa (zaf w0 wc g s0_0 (wrap64 (s0_1 + 1))) ∧ zaa (zai w wc g none) ∧ zaa (Below w0.heap.size w0 wc))
 case first =>
  have H := HC3.out
  clear HC3
  by_cases c5 : a1 < 1
  ·rw [if_pos c5] at H
   have c5b0 : decide (a1 < 1) = true := decide_eq_true c5
   clear c5
   (first | rw [c5b0] | (simp only [zau, zav]; rw [c5b0]) | skip)
   have H' := zaa.mk H
   clear H
   go_wp2
   repeat (go_quiet (fail); try go_wp2)
   go_meet
   case rel => exact ⟨_, (true), (by first | rfl | (simp; done) | (simp [*]; done)), H', ⟨by first | omega | exact yai _⟩, ⟨by repeat (first | (with_reducible first | exact HI0.out | apply zaf.alloc | apply zaf.drewN | apply zaf.drew | apply zaf.set_1) | exact HI0.out)⟩, ⟨by repeat (first | (with_reducible first | exact HK.out | apply zai.set_ | apply zal | apply zaq | apply zam) | exact HK.out)⟩, ⟨by repeat (first | (with_reducible first | exact HB.out | apply zac | apply zab | apply zad | refine zan ?_ (zaf.ge HI0.out)) | exact HB.out)⟩⟩
  ·rw [if_neg c5] at H
   have c5b0 : decide (a1 < 1) = false := decide_eq_false c5
   clear c5
   (first | rw [c5b0] | (simp only [zau, zav]; rw [c5b0]) | skip)
   have H' := zaa.mk H
   clear H
   obtain ⟨ASz6_0, cSz6_0, HGz6, hgz6, HSz6_0⟩ := HI0.out
   have hcz6_0 := cellS94_0 HGz6
   have hcz6_1 := cellS94_1 HGz6
   have hfz6_1 := zaw HGz6 1
   clear HGz6 hgz6
   go_wp2
   repeat (go_quiet (fail); try go_wp2)
   go_meet
   case rel => exact ⟨_, (((s0_0.length : Int) == 0)), (by first | rfl | (simp; done) | (simp [*]; done)), H', ⟨by first | omega | exact yai _⟩, ⟨by repeat (first | (with_reducible first | exact HI0.out | apply zaf.alloc | apply zaf.drewN | apply zaf.drew | apply zaf.set_1) | exact HI0.out)⟩, ⟨by repeat (first | (with_reducible first | exact HK.out | apply zai.set_ | apply zal | apply zaq | apply zam) | exact HK.out)⟩, ⟨by repeat (first | (with_reducible first | exact HB.out | apply zac | apply zab | apply zad | refine zan ?_ (zaf.ge HI0.out)) | exact HB.out)⟩⟩
 case rest =>
  clear HC3
  try clear p2
  try clear c5
  try clear c5b0
  try clear p6
  try clear hcz4_0
  try clear hcz4_1
  try clear hcz6_0
  try clear hcz6_1
  try clear hfz4_1
  try clear hfz6_1
  obtain ⟨kq, x24_2, rfl, HA, HJ2, HI0, HK, HB⟩ := hcut
  cases kq with
  | zero => exact absurd HA.out (by simp [spec_l6Rd_pick.j0])
  | succ kj2 =>
   have H := HA.out
   clear HA
   simp only [spec_l6Rd_pick.j0] at H
   by_cases c7 : x24_2 = true
   ·subst c7
    have H1 : (some (0, (wrap64 (s0_1 + 1)))) = some (r1, r2) := by rw [if_pos rfl] at H; exact H
    clear H
    have H := H1
    clear H1
    simp only [Option.some.injEq, Prod.mk.injEq] at H
    obtain ⟨rfl, rfl⟩ := H
    go_wp2
    repeat (go_quiet (fail); try go_wp2)
    go_ret
    exact ⟨by first | rfl | (simp [zap, zao] <;> rfl) | (simp [*, zap, zao] <;> rfl), by repeat (first | (with_reducible first | exact HI0.out | apply zaf.alloc | apply zaf.drewN | apply zaf.drew | apply zaf.set_1) | exact HI0.out), by repeat (first | (with_reducible first | exact HB.out | apply zac | apply zab | apply zad | refine zan ?_ (zaf.ge HI0.out)) | exact HB.out), by repeat (first | (with_reducible first | exact HK.out | apply zai.set_ | apply zal | apply zaq | apply zam) | exact HK.out)⟩
   ·replace c7 := Bool.eq_false_iff.mpr c7
    subst c7
    have H1 : (if (wrap64 ((wrap64 (s0_1 + 1)) - 1)) < (s0_0.length : Int) then (if 0 ≤ (wrap64 ((wrap64 (s0_1 + 1)) - 1)) then (if a1 = 0 then (none) else (some (Int.tmod (wrap64 (rd s0_0 (wrap64 ((wrap64 (s0_1 + 1)) - 1)))) a1, (wrap64 (s0_1 + 1))))) else (none)) else (if (s0_0.length : Int) = 0 then (none) else (if 0 ≤ (Int.tmod (wrap64 ((wrap64 (s0_1 + 1)) - 1)) (s0_0.length : Int)) then (if (Int.tmod (wrap64 ((wrap64 (s0_1 + 1)) - 1)) (s0_0.length : Int)) < (s0_0.length : Int) then (if 0 ≤ (Int.tmod (wrap64 ((wrap64 ((wrap64 ((wrap64 (s0_1 + 1)) - 1)) * 7)) + 3)) (s0_0.length : Int)) then (if (Int.tmod (wrap64 ((wrap64 ((wrap64 ((wrap64 (s0_1 + 1)) - 1)) * 7)) + 3)) (s0_0.length : Int)) < (s0_0.length : Int) then (if a1 = 0 then (none) else (some (Int.tmod (Go.bits .xor .i64 (wrap64 ((wrap64 ((wrap64 ((wrap64 ((wrap64 (rd s0_0 (Int.tmod (wrap64 ((wrap64 (s0_1 + 1)) - 1)) (s0_0.length : Int)))) * 131)) + (wrap64 ((wrap64 (rd s0_0 (Int.tmod (wrap64 ((wrap64 ((wrap64 ((wrap64 (s0_1 + 1)) - 1)) * 7)) + 3)) (s0_0.length : Int)))) * 1117)))) + (wrap64 ((wrap64 ((wrap64 (s0_1 + 1)) - 1)) * 29)))) + (wrap64 ((wrap64 (Int.tdiv (wrap64 ((wrap64 (s0_1 + 1)) - 1)) (s0_0.length : Int))) * 53)))) (wrap64 (Int.tdiv (wrap64 ((wrap64 ((wrap64 ((wrap64 ((wrap64 (rd s0_0 (Int.tmod (wrap64 ((wrap64 (s0_1 + 1)) - 1)) (s0_0.length : Int)))) * 131)) + (wrap64 ((wrap64 (rd s0_0 (Int.tmod (wrap64 ((wrap64 ((wrap64 ((wrap64 (s0_1 + 1)) - 1)) * 7)) + 3)) (s0_0.length : Int)))) * 1117)))) + (wrap64 ((wrap64 ((wrap64 (s0_1 + 1)) - 1)) * 29)))) + (wrap64 ((wrap64 (Int.tdiv (wrap64 ((wrap64 (s0_1 + 1)) - 1)) (s0_0.length : Int))) * 53)))) 64))) a1, (wrap64 (s0_1 + 1))))) else (none)) else (none)) else (none)) else (none)))) = some (r1, r2) := by rw [if_neg (show ¬ (false = true) by decide)] at H; exact H
    clear H
    have H := H1
    clear H1
    by_cases c8 : (wrap64 ((wrap64 (s0_1 + 1)) - 1)) < (s0_0.length : Int)
    ·rw [if_pos c8] at H
     have c8b0 : decide ((wrap64 ((wrap64 (s0_1 + 1)) - 1)) < (s0_0.length : Int)) = true := decide_eq_true c8
     clear c8
     obtain ⟨ji9, hji9⟩ : ∃ j_ : Int, (wrap64 ((wrap64 (s0_1 + 1)) - 1)) = j_ := ⟨_, rfl⟩
     replace H : (if 0 ≤ (ji9) then (if a1 = 0 then (none) else (some (Int.tmod (wrap64 (rd s0_0 (ji9))) a1, (wrap64 (s0_1 + 1))))) else (none)) = some (r1, r2) := by first | (rw [hji9] at H; exact H) | (simp only [hji9] at H ⊢; exact H)
     (try rw [hji9] at c8b0)
     have hji9w : (IntKind.i64.wrap ((wrap64 (s0_1 + 1)) - 1)) = ji9 := (zau _).trans hji9
     by_cases c10 : 0 ≤ (ji9)
     ·rw [if_pos c10] at H
      have c10b0 : decide (0 ≤ (ji9)) = true := decide_eq_true c10
      clear c10
      by_cases c11 : a1 = 0
      ·rw [if_pos c11] at H
       exact absurd H (by simp)
      ·rw [if_neg c11] at H
       have c11b0 : (a1 == 0) = false := beq_eq_false_iff_ne.mpr c11
       have c11b1 : (a1 != 0) = true := bne_iff_ne.mpr c11
       simp only [Option.some.injEq, Prod.mk.injEq] at H
       obtain ⟨rfl, rfl⟩ := H
       obtain ⟨ASz12_0, cSz12_0, HGz12, hgz12, HSz12_0⟩ := HI0.out
       have hcz12_0 := cellS94_0 HGz12
       have hcz12_1 := cellS94_1 HGz12
       have hfz12_1 := zaw HGz12 1
       clear HGz12 hgz12
       have p246 : 0 ≤ ((ji9) : Int) := of_decide_eq_true (by assumption)
       have q246 : (ji9) < (s0_0.length : Int) := of_decide_eq_true (by assumption)
       obtain ⟨ad246, e246, hx246_0⟩ := Kd.at_int HSz12_0 (ji9) p246 q246
       cases e246
       replace hx246_0 := zar HB.out hx246_0
       replace p246 := eq_true p246
       replace q246 := eq_true q246
       go_wp2
       repeat (go_quiet (fail); try go_wp2)
       go_ret
       exact ⟨by first | rfl | (simp [zap, zao] <;> rfl) | (simp only [← hji9]; first | rfl | (simp [zap, zao] <;> rfl)) | (simp [*, zap, zao] <;> rfl), by repeat (first | (with_reducible first | exact HI0.out | apply zaf.alloc | apply zaf.drewN | apply zaf.drew | apply zaf.set_1) | exact HI0.out), by repeat (first | (with_reducible first | exact HB.out | apply zac | apply zab | apply zad | refine zan ?_ (zaf.ge HI0.out)) | exact HB.out), by repeat (first | (with_reducible first | exact HK.out | apply zai.set_ | apply zal | apply zaq | apply zam) | exact HK.out)⟩
     ·rw [if_neg c10] at H
      exact absurd H (by simp)
    ·rw [if_neg c8] at H
     have c8b0 : decide ((wrap64 ((wrap64 (s0_1 + 1)) - 1)) < (s0_0.length : Int)) = false := decide_eq_false c8
     clear c8
     by_cases c13 : (s0_0.length : Int) = 0
     ·rw [if_pos c13] at H
      exact absurd H (by simp)
     ·rw [if_neg c13] at H
      have c13b0 : ((s0_0.length : Int) == 0) = false := beq_eq_false_iff_ne.mpr c13
      have c13b1 : ((s0_0.length : Int) != 0) = true := bne_iff_ne.mpr c13
      have c13b2 : ¬ (s0_0 = []) := fun h_ => c13 (by rw [h_]; rfl)
      obtain ⟨ji14, hji14⟩ : ∃ j_ : Int, (Int.tmod (wrap64 ((wrap64 (s0_1 + 1)) - 1)) (s0_0.length : Int)) = j_ := ⟨_, rfl⟩
      replace H : (if 0 ≤ (ji14) then (if (ji14) < (s0_0.length : Int) then (if 0 ≤ (Int.tmod (wrap64 ((wrap64 ((wrap64 ((wrap64 (s0_1 + 1)) - 1)) * 7)) + 3)) (s0_0.length : Int)) then (if (Int.tmod (wrap64 ((wrap64 ((wrap64 ((wrap64 (s0_1 + 1)) - 1)) * 7)) + 3)) (s0_0.length : Int)) < (s0_0.length : Int) then (if a1 = 0 then (none) else (some (Int.tmod (Go.bits .xor .i64 (wrap64 ((wrap64 ((wrap64 ((wrap64 ((wrap64 (rd s0_0 (ji14))) * 131)) + (wrap64 ((wrap64 (rd s0_0 (Int.tmod (wrap64 ((wrap64 ((wrap64 ((wrap64 (s0_1 + 1)) - 1)) * 7)) + 3)) (s0_0.length : Int)))) * 1117)))) + (wrap64 ((wrap64 ((wrap64 (s0_1 + 1)) - 1)) * 29)))) + (wrap64 ((wrap64 (Int.tdiv (wrap64 ((wrap64 (s0_1 + 1)) - 1)) (s0_0.length : Int))) * 53)))) (wrap64 (Int.tdiv (wrap64 ((wrap64 ((wrap64 ((wrap64 ((wrap64 (rd s0_0 (ji14))) * 131)) + (wrap64 ((wrap64 (rd s0_0 (Int.tmod (wrap64 ((wrap64 ((wrap64 ((wrap64 (s0_1 + 1)) - 1)) * 7)) + 3)) (s0_0.length : Int)))) * 1117)))) + (wrap64 ((wrap64 ((wrap64 (s0_1 + 1)) - 1)) * 29)))) + (wrap64 ((wrap64 (Int.tdiv (wrap64 ((wrap64 (s0_1 + 1)) - 1)) (s0_0.length : Int))) * 53)))) 64))) a1, (wrap64 (s0_1 + 1))))) else (none)) else (none)) else (none)) else (none)) = some (r1, r2) := by first | (rw [hji14] at H; exact H) | (simp only [hji14] at H ⊢; exact H)
      by_cases c15 : 0 ≤ (ji14)
      ·rw [if_pos c15] at H
       have c15b0 : decide (0 ≤ (ji14)) = true := decide_eq_true c15
       clear c15
       by_cases c16 : (ji14) < (s0_0.length : Int)
       ·rw [if_pos c16] at H
        have c16b0 : decide ((ji14) < (s0_0.length : Int)) = true := decide_eq_true c16
        clear c16
        obtain ⟨ji17, hji17⟩ : ∃ j_ : Int, (Int.tmod (wrap64 ((wrap64 ((wrap64 ((wrap64 (s0_1 + 1)) - 1)) * 7)) + 3)) (s0_0.length : Int)) = j_ := ⟨_, rfl⟩
        replace H : (if 0 ≤ (ji17) then (if (ji17) < (s0_0.length : Int) then (if a1 = 0 then (none) else (some (Int.tmod (Go.bits .xor .i64 (wrap64 ((wrap64 ((wrap64 ((wrap64 ((wrap64 (rd s0_0 (ji14))) * 131)) + (wrap64 ((wrap64 (rd s0_0 (ji17))) * 1117)))) + (wrap64 ((wrap64 ((wrap64 (s0_1 + 1)) - 1)) * 29)))) + (wrap64 ((wrap64 (Int.tdiv (wrap64 ((wrap64 (s0_1 + 1)) - 1)) (s0_0.length : Int))) * 53)))) (wrap64 (Int.tdiv (wrap64 ((wrap64 ((wrap64 ((wrap64 ((wrap64 (rd s0_0 (ji14))) * 131)) + (wrap64 ((wrap64 (rd s0_0 (ji17))) * 1117)))) + (wrap64 ((wrap64 ((wrap64 (s0_1 + 1)) - 1)) * 29)))) + (wrap64 ((wrap64 (Int.tdiv (wrap64 ((wrap64 (s0_1 + 1)) - 1)) (s0_0.length : Int))) * 53)))) 64))) a1, (wrap64 (s0_1 + 1))))) else (none)) else (none)) = some (r1, r2) := by first | (rw [hji17] at H; exact H) | (simp only [hji17] at H ⊢; exact H)
        by_cases c18 : 0 ≤ (ji17)
        ·rw [if_pos c18] at H
         have c18b0 : decide (0 ≤ (ji17)) = true := decide_eq_true c18
         clear c18
         by_cases c19 : (ji17) < (s0_0.length : Int)
         ·rw [if_pos c19] at H
          have c19b0 : decide ((ji17) < (s0_0.length : Int)) = true := decide_eq_true c19
          clear c19
          by_cases c20 : a1 = 0
          ·rw [if_pos c20] at H
           exact absurd H (by simp)
          ·rw [if_neg c20] at H
           have c20b0 : (a1 == 0) = false := beq_eq_false_iff_ne.mpr c20
           have c20b1 : (a1 != 0) = true := bne_iff_ne.mpr c20
           simp only [Option.some.injEq, Prod.mk.injEq] at H
           obtain ⟨rfl, rfl⟩ := H
           obtain ⟨ASz21_0, cSz21_0, HGz21, hgz21, HSz21_0⟩ := HI0.out
           have hcz21_0 := cellS94_0 HGz21
           have hcz21_1 := cellS94_1 HGz21
           have hfz21_1 := zaw HGz21 1
           clear HGz21 hgz21
           have p247 : 0 ≤ ((ji14) : Int) := of_decide_eq_true (by assumption)
           have q247 : (ji14) < (s0_0.length : Int) := of_decide_eq_true (by assumption)
           obtain ⟨ad247, e247, hx247_0⟩ := Kd.at_int HSz21_0 (ji14) p247 q247
           cases e247
           replace hx247_0 := zar HB.out hx247_0
           replace p247 := eq_true p247
           replace q247 := eq_true q247
           have p248 : 0 ≤ ((ji17) : Int) := of_decide_eq_true (by assumption)
           have q248 : (ji17) < (s0_0.length : Int) := of_decide_eq_true (by assumption)
           obtain ⟨ad248, e248, hx248_0⟩ := Kd.at_int HSz21_0 (ji17) p248 q248
           obtain rfl : ad247 = ad248 := (by injection e248)
           replace hx248_0 := zar HB.out hx248_0
           replace p248 := eq_true p248
           replace q248 := eq_true q248
           go_wp2
           repeat (go_quiet (fail); try go_wp2)
           go_ret
           exact ⟨by first | rfl | (simp [zap, zao] <;> rfl) | (simp only [← hji14, ← hji17]; first | rfl | (simp [zap, zao] <;> rfl)) | (simp [*, zap, zao] <;> rfl), by repeat (first | (with_reducible first | exact HI0.out | apply zaf.alloc | apply zaf.drewN | apply zaf.drew | apply zaf.set_1) | exact HI0.out), by repeat (first | (with_reducible first | exact HB.out | apply zac | apply zab | apply zad | refine zan ?_ (zaf.ge HI0.out)) | exact HB.out), by repeat (first | (with_reducible first | exact HK.out | apply zai.set_ | apply zal | apply zaq | apply zam) | exact HK.out)⟩
         ·rw [if_neg c19] at H
          exact absurd H (by simp)
        ·rw [if_neg c18] at H
         exact absurd H (by simp)
       ·rw [if_neg c16] at H
        exact absurd H (by simp)
      ·rw [if_neg c15] at H
       exact absurd H (by simp)
def spec_l1None.f  : Option (List ByteArray × Bool) := some ((([] : List ByteArray)), false)
set_option maxHeartbeats 8000000 in
set_option maxRecDepth 100000 in
theorem spec_l1None.calls  (r1 : List ByteArray) (r2 : Bool) (w : World) (h : spec_l1None.f  = some (r1, r2)) :
  Calls Try.prog 66 #[] w fun e w' => ∃ v0_ : Value, e = .returned (.tuple #[v0_, .bool r2]) ∧ Kd.R Kd.string 9 w' w.heap.size (fun _ => True) v0_ r1 ∧ Below w.heap.size w w' := by
 have HB := zaa.mk (Below.refl w.heap.size w)
 have H : (some ((([] : List ByteArray)), false)) = some (r1, r2) := h
 clear h
 obtain ⟨y249, hy249⟩ : ∃ y_ : List ByteArray, y_ = (([] : List ByteArray)) := ⟨_, rfl⟩
 replace H : (some (y249, false)) = some (r1, r2) := by first | (rw [hy249]; with_reducible exact H) | (have H2_ := (yah _ _).symm.trans H; rw [hy249]; with_reducible exact H2_) | (have H2_ := (yah _ _).symm.trans H; with_reducible exact H2_) | with_reducible exact H | (rw [hy249]; exact H) | exact H
 have Ny249 := zaa.mk hy249
 clear hy249
 simp only [Option.some.injEq, Prod.mk.injEq] at H
 obtain ⟨rfl, rfl⟩ := H
 go_enter Try.func66, Try.ntmps66
 go_wp2_with (first | ((with_reducible refine zbb (N := 2) rfl ?_); refine Kd.R_lit Kd.string _ 9 ?hg (N := 2) ?hd (xs := ([] : List ByteArray)) (inner := []) (ok := fun _ => True) (okp := fun _ => True) ?hr ?hp (fun _ hk => hk) trivial (Below.refl _ _) (yai _) (by simp) ?_; (case hd => rfl); (case hg => rfl); (case hr => first | (go_simp; done) | (go_simp; rfl)); (case hp => exact (Reps.none _ _)); intro v250 w1 ho2 hb hg_ hnew_; clear hg_ hnew_; (first | rw [← Ny249.out] at ho2 | (simp only [Int.reduceToNat] at ho2; rw [← Ny249.out] at ho2)); have n0_ := zaa.mk (Kd.R_lower ho2 (zag (by repeat (first | (with_reducible first | exact HB.out | apply zac | apply zab | apply zad) | exact HB.out)))); have n1_ := zaa.mk (zae (by repeat (first | (with_reducible first | exact HB.out | apply zac | apply zab | apply zad) | exact HB.out)) hb); clear HB; have HO251 := n0_; have HB := n1_; clear n0_ n1_; clear hb ho2))
 go_ret2
 exact ⟨_, by first | rfl | (simp [zap, zao] <;> rfl) | (simp [*, zap, zao] <;> rfl), by (with_reducible repeat (first | apply yaj | apply yak | apply yal)); exact HO251.out, by repeat (first | (with_reducible first | exact HB.out | apply zac | apply zab | apply zad) | exact HB.out)⟩
def spec_l1Given.f (k : Nat) (l0 : List ByteArray) (a1 : Int) : Option (Bool) := (spec_PlanIn.f k l0).bind fun t252 => (if t252 = true then ((spec_l1Rooms.f k l0).bind fun t253 => ((spec_l6In.f a1 0 (wrap64 (t253 - 1))).bind fun t254 => (some t254))) else (some false))
set_option maxHeartbeats 8000000 in
set_option maxRecDepth 100000 in
theorem spec_l1Given.calls (k : Nat) (A0 : Option Addr) (c0 : Nat) (l0 : List ByteArray) (a1 : Int) (r : Bool) (w : World) (hr0 : Kd.C Kd.string w A0 l0.length l0) (hc0 : l0.length ≤ c0) (h : spec_l1Given.f k l0 a1 = some r) :
  Calls Try.prog 125 #[.slice A0 l0.length c0, .int .i64 a1] w fun e w' => e = .returned (.bool r) ∧ Below w.heap.size w w' := by
 have HR0 := zaa.mk hr0
 have HC0 := zaa.mk hc0
 clear hr0 hc0
 have HB := zaa.mk (Below.refl w.heap.size w)
 have H : ((spec_PlanIn.f k l0).bind fun t252 => (if t252 = true then ((spec_l1Rooms.f k l0).bind fun t253 => ((spec_l6In.f a1 0 (wrap64 (t253 - 1))).bind fun t254 => (some t254))) else (some false))) = some r := h
 clear h
 replace H := yag.mp H
 obtain ⟨t252, A30, H⟩ := H
 replace H : (if t252 = true then ((spec_l1Rooms.f k l0).bind fun t253 => ((spec_l6In.f a1 0 (wrap64 (t253 - 1))).bind fun t254 => (some t254))) else (some false)) = some r := H
 have A3 := zaa.mk A30
 clear A30
 by_cases c4 : t252 = true
 ·subst c4
  have H1 : ((spec_l1Rooms.f k l0).bind fun t253 => ((spec_l6In.f a1 0 (wrap64 (t253 - 1))).bind fun t254 => (some t254))) = some r := by rw [if_pos rfl] at H; exact H
  clear H
  have H := H1
  clear H1
  replace H := yag.mp H
  obtain ⟨t253, A50, H⟩ := H
  replace H : ((spec_l6In.f a1 0 (wrap64 (t253 - 1))).bind fun t254 => (some t254)) = some r := H
  have A5 := zaa.mk A50
  clear A50
  replace H := yag.mp H
  obtain ⟨t254, A60, H⟩ := H
  replace H : (some t254) = some r := H
  have A6 := zaa.mk A60
  clear A60
  obtain rfl := Option.some.inj H
  go_enter Try.func125, Try.ntmps125
  go_wp2_with (first | ((with_reducible refine zah (f := 45) rfl ?_); refine zaz (some 6) rfl rfl Try.func45 (by kernel_rfl) rfl #[.slice A0 l0.length c0] rfl (by (try simp only [yaa, yab, yac]); first | done | rfl | (simp only [yae, yad]; rfl)) ?_; (with_reducible refine (spec_PlanIn.calls k _ _ l0 true _ ?side1 ?side2 A3.out).mono ?_); (case side1 => repeat (first | exact HR0.out | (with_reducible refine yam ?_ _) | (with_reducible refine yan ?_ _) | (with_reducible refine yao ?_))); (case side2 => exact HC0.out); rintro e w7 ⟨rfl, hb⟩; refine ⟨_, rfl, ?_⟩; have n0_ := zaa.mk (zae (by repeat (first | (with_reducible first | exact HB.out | apply zac | apply zab | apply zad) | exact HB.out)) hb); clear HB; have HB := n0_; clear n0_; (try clear hb); (try clear hb2); (try clear hk); (try clear hi)) | (go_at_call 87; (with_reducible refine (spec_l1Rooms.calls k _ _ l0 t253 _ ?side1 ?side2 A5.out).mono ?_); (case side1 => repeat (first | exact (Kd.C_below HR0.out HB.out) | (with_reducible refine yam ?_ _) | (with_reducible refine yan ?_ _) | (with_reducible refine yao ?_))); (case side2 => exact HC0.out); rintro e w8 ⟨rfl, hb⟩; have n0_ := zaa.mk (zae (by repeat (first | (with_reducible first | exact HB.out | apply zac | apply zab | apply zad) | exact HB.out)) hb); clear HB; have HB := n0_; clear n0_; (try clear hb); (try clear hb2); (try clear hk); (try clear hi)) | (go_at_call 46; (with_reducible refine (spec_l6In.calls a1 0 (wrap64 (t253 - 1)) t254 _ A6.out).mono ?_); rintro e w' ⟨rfl, ⟨nd, rfl⟩⟩))
  go_ret
  exact ⟨by first | rfl | (simp [zap, zao] <;> rfl) | (simp [*, zap, zao] <;> rfl), by repeat (first | (with_reducible first | exact HB.out | apply zac | apply zab | apply zad) | exact HB.out)⟩
 ·replace c4 := Bool.eq_false_iff.mpr c4
  subst c4
  have H1 : (some false) = some r := by rw [if_neg (show ¬ (false = true) by decide)] at H; exact H
  clear H
  have H := H1
  clear H1
  obtain rfl := Option.some.inj H
  go_enter Try.func125, Try.ntmps125
  go_wp2_with (first | ((with_reducible refine zah (f := 45) rfl ?_); refine zaz (some 6) rfl rfl Try.func45 (by kernel_rfl) rfl #[.slice A0 l0.length c0] rfl (by (try simp only [yaa, yab, yac]); first | done | rfl | (simp only [yae, yad]; rfl)) ?_; (with_reducible refine (spec_PlanIn.calls k _ _ l0 false _ ?side1 ?side2 A3.out).mono ?_); (case side1 => repeat (first | exact HR0.out | (with_reducible refine yam ?_ _) | (with_reducible refine yan ?_ _) | (with_reducible refine yao ?_))); (case side2 => exact HC0.out); rintro e w9 ⟨rfl, hb⟩; refine ⟨_, rfl, ?_⟩; have n0_ := zaa.mk (zae (by repeat (first | (with_reducible first | exact HB.out | apply zac | apply zab | apply zad) | exact HB.out)) hb); clear HB; have HB := n0_; clear n0_; (try clear hb); (try clear hb2); (try clear hk); (try clear hi)))
  go_ret
  exact ⟨by first | rfl | (simp [zap, zao] <;> rfl) | (simp [*, zap, zao] <;> rfl), by repeat (first | (with_reducible first | exact HB.out | apply zac | apply zab | apply zad) | exact HB.out)⟩
end Go.Proofs.Ytickdcegnlldjaa.PB
namespace Go.Proofs.Ytickdcegnlldjaa.PB
open Go.RowKit Go.PW.PrintWords Go.PW.PrintLast Go.PW.PrintMore
attribute [local go_sem] zce zcc zcq zcp zbv zbu zcd zcb   -- for this text's walks alone
def spec_l1Done.j0 : Nat → List ByteArray → Bool → Option (List ByteArray × Bool)
 | 0, _, _ => none
 | k + 1, x0, x12 => if x12 = true then ((spec_l1None.f).bind fun bt260 => (some (bt260.1, bt260.2))) else ((spec_l1Names.f k x0).bind fun t264 => (some (t264, true)))
def spec_l1Done.f (k : Nat) (l0 : List ByteArray) : Option (List ByteArray × Bool) := (spec_l1Grid.f k l0).bind fun t255 => (if t255 = true then ((spec_l1Names.f k l0).bind fun t256 => ((spec_PlanIn.f k t256).bind fun t259 => (spec_l1Done.j0 k l0 (!t259)))) else (spec_l1Done.j0 k l0 true))
set_option maxHeartbeats 8000000 in
set_option maxRecDepth 100000 in
theorem spec_l1Done.calls (k : Nat) (A0 : Option Addr) (c0 : Nat) (l0 : List ByteArray) (r1 : List ByteArray) (r2 : Bool) (w : World) (hr0 : Kd.C Kd.string w A0 l0.length l0) (hc0 : l0.length ≤ c0) (h : spec_l1Done.f k l0 = some (r1, r2)) :
  Calls Try.prog 126 #[.slice A0 l0.length c0] w fun e w' => ∃ v0_ : Value, e = .returned (.tuple #[v0_, .bool r2]) ∧ Kd.R Kd.string 9 w' w.heap.size (fun _ => True) v0_ r1 ∧ Below w.heap.size w w' := by
 have HR0 := zaa.mk hr0
 have HC0 := zaa.mk hc0
 clear hr0 hc0
 have HB := zaa.mk (Below.refl w.heap.size w)
 have H : ((spec_l1Grid.f k l0).bind fun t255 => (if t255 = true then ((spec_l1Names.f k l0).bind fun t256 => ((spec_PlanIn.f k t256).bind fun t259 => (spec_l1Done.j0 k l0 (!t259)))) else (spec_l1Done.j0 k l0 true))) = some (r1, r2) := h
 clear h
 have HC2 := zaa.mk H
 clear H
 go_enter Try.func126, Try.ntmps126
 go_upto_region 1 with (fail)
 go_cut [12] (fun v12 wc => ∃ (kq : Nat) (x12_1 : Bool), v12 = .bool x12_1 ∧ zaa (spec_l1Done.j0 kq l0 x12_1 = some (r1, r2)) ∧ zaa (kq ≤ k) ∧ zaa (Below w.heap.size w wc))
 case first =>
  have H := HC2.out
  clear HC2
  replace H := yag.mp H
  obtain ⟨t255, A30, H⟩ := H
  replace H : (if t255 = true then ((spec_l1Names.f k l0).bind fun t256 => ((spec_PlanIn.f k t256).bind fun t259 => (spec_l1Done.j0 k l0 (!t259)))) else (spec_l1Done.j0 k l0 true)) = some (r1, r2) := H
  have A3 := zaa.mk A30
  clear A30
  by_cases c4 : t255 = true
  ·subst c4
   have H1 : ((spec_l1Names.f k l0).bind fun t256 => ((spec_PlanIn.f k t256).bind fun t259 => (spec_l1Done.j0 k l0 (!t259)))) = some (r1, r2) := by rw [if_pos rfl] at H; exact H
   clear H
   have H := H1
   clear H1
   replace H := yag.mp H
   obtain ⟨t256, A50, H⟩ := H
   replace H : ((spec_PlanIn.f k t256).bind fun t259 => (spec_l1Done.j0 k l0 (!t259))) = some (r1, r2) := H
   have A5 := zaa.mk A50
   clear A50
   replace H := yag.mp H
   obtain ⟨t259, A60, H⟩ := H
   replace H : (spec_l1Done.j0 k l0 (!t259)) = some (r1, r2) := H
   have A6 := zaa.mk A60
   clear A60
   have H' := zaa.mk H
   clear H
   go_wp2_with (first | ((with_reducible refine zah (f := 84) rfl ?_); refine zaz (some 5) rfl rfl Try.func84 (by kernel_rfl) rfl #[.slice A0 l0.length c0] rfl (by (try simp only [yaa, yab, yac]); first | done | rfl | (simp only [yae, yad]; rfl)) ?_; (with_reducible refine (spec_l1Grid.calls k _ _ l0 true _ ?side1 ?side2 A3.out).mono ?_); (case side1 => repeat (first | exact (Kd.C_below HR0.out HB.out) | (with_reducible refine yam ?_ _) | (with_reducible refine yan ?_ _) | (with_reducible refine yao ?_))); (case side2 => exact HC0.out); rintro e w' ⟨rfl, ⟨nd, rfl⟩⟩; refine ⟨_, rfl, ?_⟩) | (go_at_call 86; (with_reducible refine (spec_l1Names.calls k _ _ l0 t256 _ ?side1 ?side2 A5.out).mono ?_); (case side1 => repeat (first | exact (Kd.C_below HR0.out (by repeat (first | (with_reducible first | exact HB.out | apply zac | apply zab | apply zad) | exact HB.out))) | (with_reducible refine yam ?_ _) | (with_reducible refine yan ?_ _) | (with_reducible refine yao ?_))); (case side2 => exact HC0.out); rintro e w7 ⟨v257, rfl, ho0, hb⟩; have n0_ := zaa.mk (Kd.R_lower ho0 (zag (by repeat (first | (with_reducible first | exact HB.out | apply zac | apply zab | apply zad) | exact HB.out)))); have n1_ := zaa.mk (zae (by repeat (first | (with_reducible first | exact HB.out | apply zac | apply zab | apply zad) | exact HB.out)) hb); clear HB; have HO258 := n0_; have HB := n1_; clear n0_ n1_; (try clear hb); (try clear hb2); (try clear hk); (try clear hi); (try clear ho0); obtain ⟨Ao8, co8, eo8⟩ := Kd.R_slice HO258.out; subst eo8) | (go_at_call 45; (with_reducible refine (spec_PlanIn.calls k _ _ t256 t259 _ ?side1 ?side2 A6.out).mono ?_); (case side1 => repeat (first | exact (Kd.R_reads' HO258.out).2.2 | (with_reducible refine yam ?_ _) | (with_reducible refine yan ?_ _) | (with_reducible refine yao ?_))); (case side2 => exact (Kd.R_reads' HO258.out).2.1); rintro e w9 ⟨rfl, hb⟩; have n0_ := zaa.mk (Kd.R_below (by (with_reducible repeat (first | apply yaj | apply yak | apply yal)); exact HO258.out) hb); have n1_ := zaa.mk (zae (by repeat (first | (with_reducible first | exact HB.out | apply zac | apply zab | apply zad) | exact HB.out)) hb); clear HO258; clear HB; have HO258 := n0_; have HB := n1_; clear n0_ n1_; (try clear hb); (try clear hb2); (try clear hk); (try clear hi)))
   go_meet
   case rel => exact ⟨_, (!t259), (by first | rfl | (simp; done) | (simp [*]; done)), H', ⟨by first | omega | exact yai _⟩, ⟨by repeat (first | (with_reducible first | exact HB.out | apply zac | apply zab | apply zad) | exact HB.out)⟩⟩
  ·replace c4 := Bool.eq_false_iff.mpr c4
   subst c4
   have H1 : (spec_l1Done.j0 k l0 true) = some (r1, r2) := by rw [if_neg (show ¬ (false = true) by decide)] at H; exact H
   clear H
   have H := H1
   clear H1
   have H' := zaa.mk H
   clear H
   go_wp2_with (first | ((with_reducible refine zah (f := 84) rfl ?_); refine zaz (some 5) rfl rfl Try.func84 (by kernel_rfl) rfl #[.slice A0 l0.length c0] rfl (by (try simp only [yaa, yab, yac]); first | done | rfl | (simp only [yae, yad]; rfl)) ?_; (with_reducible refine (spec_l1Grid.calls k _ _ l0 false _ ?side1 ?side2 A3.out).mono ?_); (case side1 => repeat (first | exact (Kd.C_below HR0.out HB.out) | (with_reducible refine yam ?_ _) | (with_reducible refine yan ?_ _) | (with_reducible refine yao ?_))); (case side2 => exact HC0.out); rintro e w' ⟨rfl, ⟨nd, rfl⟩⟩; refine ⟨_, rfl, ?_⟩))
   go_meet
   case rel => exact ⟨_, (true), (by first | rfl | (simp; done) | (simp [*]; done)), H', ⟨by first | omega | exact yai _⟩, ⟨by repeat (first | (with_reducible first | exact HB.out | apply zac | apply zab | apply zad) | exact HB.out)⟩⟩
 case rest =>
  clear HC2
  try clear c1
  try clear p2
  try clear c4
  try clear c8
  obtain ⟨kq, x12_1, rfl, HA, HJ1, HB⟩ := hcut
  cases kq with
  | zero => exact absurd HA.out (by simp [spec_l1Done.j0])
  | succ kj1 =>
   have H := HA.out
   clear HA
   simp only [spec_l1Done.j0] at H
   by_cases c10 : x12_1 = true
   ·subst c10
    have H1 : ((spec_l1None.f).bind fun bt260 => (some (bt260.1, bt260.2))) = some (r1, r2) := by rw [if_pos rfl] at H; exact H
    clear H
    have H := H1
    clear H1
    replace H := yag.mp H
    obtain ⟨⟨t260, t261⟩, A110, H⟩ := H
    replace H : (some (t260, t261)) = some (r1, r2) := H
    have A11 := zaa.mk A110
    clear A110
    simp only [Option.some.injEq, Prod.mk.injEq] at H
    obtain ⟨rfl, rfl⟩ := H
    go_wp2_with (first | ((with_reducible refine zah (f := 66) rfl ?_); refine zaz (some 13) rfl rfl Try.func66 (by kernel_rfl) rfl #[] rfl (by (try simp only [yaa, yab, yac]); first | done | rfl | (simp only [yae, yad]; rfl)) ?_; (with_reducible refine (spec_l1None.calls  t260 t261 _ A11.out).mono ?_); rintro e w12 ⟨v262, rfl, ho0, hb⟩; refine ⟨_, rfl, ?_⟩; have n0_ := zaa.mk (Kd.R_lower ho0 (zag (by repeat (first | (with_reducible first | exact HB.out | apply zac | apply zab | apply zad) | exact HB.out)))); have n1_ := zaa.mk (zae (by repeat (first | (with_reducible first | exact HB.out | apply zac | apply zab | apply zad) | exact HB.out)) hb); clear HB; have HO263 := n0_; have HB := n1_; clear n0_ n1_; (try clear hb); (try clear hb2); (try clear hk); (try clear hi); (try clear ho0)))
    go_ret2
    exact ⟨_, by first | rfl | (simp [zap, zao] <;> rfl) | (simp [*, zap, zao] <;> rfl), by (with_reducible repeat (first | apply yaj | apply yak | apply yal)); exact HO263.out, by repeat (first | (with_reducible first | exact HB.out | apply zac | apply zab | apply zad) | exact HB.out)⟩
   ·replace c10 := Bool.eq_false_iff.mpr c10
    subst c10
    have H1 : ((spec_l1Names.f kj1 l0).bind fun t264 => (some (t264, true))) = some (r1, r2) := by rw [if_neg (show ¬ (false = true) by decide)] at H; exact H
    clear H
    have H := H1
    clear H1
    replace H := yag.mp H
    obtain ⟨t264, A130, H⟩ := H
    replace H : (some (t264, true)) = some (r1, r2) := H
    have A13 := zaa.mk A130
    clear A130
    simp only [Option.some.injEq, Prod.mk.injEq] at H
    obtain ⟨rfl, rfl⟩ := H
    go_wp2_with (first | ((with_reducible refine zah (f := 86) rfl ?_); refine zaz (some 17) rfl rfl Try.func86 (by kernel_rfl) rfl #[.slice A0 l0.length c0] rfl (by (try simp only [yaa, yab, yac]); first | done | rfl | (simp only [yae, yad]; rfl)) ?_; (with_reducible refine (spec_l1Names.calls kj1 _ _ l0 t264 _ ?side1 ?side2 A13.out).mono ?_); (case side1 => repeat (first | exact (Kd.C_below HR0.out HB.out) | (with_reducible refine yam ?_ _) | (with_reducible refine yan ?_ _) | (with_reducible refine yao ?_))); (case side2 => exact HC0.out); rintro e w14 ⟨v265, rfl, ho0, hb⟩; refine ⟨_, rfl, ?_⟩; have n0_ := zaa.mk (Kd.R_lower ho0 (zag (by repeat (first | (with_reducible first | exact HB.out | apply zac | apply zab | apply zad) | exact HB.out)))); have n1_ := zaa.mk (zae (by repeat (first | (with_reducible first | exact HB.out | apply zac | apply zab | apply zad) | exact HB.out)) hb); clear HB; have HO266 := n0_; have HB := n1_; clear n0_ n1_; (try clear hb); (try clear hb2); (try clear hk); (try clear hi); (try clear ho0)))
    go_ret2
    exact ⟨_, by first | rfl | (simp [zap, zao] <;> rfl) | (simp [*, zap, zao] <;> rfl), by (with_reducible repeat (first | apply yaj | apply yak | apply yal)); exact HO266.out, by repeat (first | (with_reducible first | exact HB.out | apply zac | apply zab | apply zad) | exact HB.out)⟩
def spec_l6Rd_of.f (k : Nat) (s0_0 : List Int) (s0_1 : Int) (l1 : List ByteArray) : Option (ByteArray × Int) := (spec_l6Rd_pick.f k s0_0 s0_1 (l1.length : Int)).bind fun bt284 => (if 0 ≤ bt284.1 then (if bt284.1 < (l1.length : Int) then (some (rdOf yaf l1 bt284.1, bt284.2)) else (none)) else (none))
set_option maxHeartbeats 8000000 in
set_option maxRecDepth 100000 in
theorem spec_l6Rd_of.calls (k : Nat) (g : Nat) (s0_0 : List Int) (s0_1 : Int) (A1 : Option Addr) (c1 : Nat) (l1 : List ByteArray) (r1 : ByteArray) (r2 : Int) (w0 w : World) (hI : zaf w0 w g s0_0 s0_1) (hB : Below w0.heap.size w0 w) (hr1 : Kd.C Kd.string w A1 l1.length l1) (hc1 : l1.length ≤ c1) (hf1 : ∀ ad, A1 = some ad → 0 < l1.length → ad.block ≠ g) (h : spec_l6Rd_of.f k s0_0 s0_1 l1 = some (r1, r2)) :
  Calls Try.prog 122 #[.pointer (some ⟨g, 0, none⟩), .slice A1 l1.length c1] w fun e w' => e = .returned (.string r1) ∧ zaf w0 w' g s0_0 r2 ∧ Below w0.heap.size w0 w' ∧ zai w w' g none := by
 have HR1 := zaa.mk hr1
 have HC1 := zaa.mk hc1
 clear hr1 hc1
 have HI0 := zaa.mk hI
 have HK := zaa.mk (zai.refl w g none)
 have HL := zaa.mk hB.size
 clear hI
 have HW0 := zaa.mk hB.size
 have HB := zaa.mk hB
 clear hB
 have H : ((spec_l6Rd_pick.f k s0_0 s0_1 (l1.length : Int)).bind fun bt284 => (if 0 ≤ bt284.1 then (if bt284.1 < (l1.length : Int) then (some (rdOf yaf l1 bt284.1, bt284.2)) else (none)) else (none))) = some (r1, r2) := h
 clear h
 replace H := yag.mp H
 obtain ⟨⟨t284, t285⟩, A30, H⟩ := H
 replace H : (if 0 ≤ t284 then (if t284 < (l1.length : Int) then (some (rdOf yaf l1 t284, t285)) else (none)) else (none)) = some (r1, r2) := H
 have A3 := zaa.mk A30
 clear A30
 by_cases c4 : 0 ≤ t284
 ·rw [if_pos c4] at H
  have c4b0 : decide (0 ≤ t284) = true := decide_eq_true c4
  clear c4
  by_cases c5 : t284 < (l1.length : Int)
  ·rw [if_pos c5] at H
   have c5b0 : decide (t284 < (l1.length : Int)) = true := decide_eq_true c5
   clear c5
   simp only [Option.some.injEq, Prod.mk.injEq] at H
   obtain ⟨rfl, rfl⟩ := H
   go_enter Try.func122, Try.ntmps122
   go_wp2_with (first | ((with_reducible refine zah (f := 58) rfl ?_); refine zaz (some 9) rfl rfl Try.func58 (by kernel_rfl) rfl #[.pointer (some ⟨g, 0, none⟩), .int .i64 (l1.length : Int)] rfl (by (try simp only [yaa, yab, yac]); first | done | rfl | (simp only [yae, yad]; rfl)) ?_; (with_reducible refine (spec_l6Rd_pick.calls k g s0_0 s0_1 (l1.length : Int) t284 t285 w0 _ ?side1 ?side2 A3.out).mono ?_); (case side1 => repeat (first | (with_reducible first | exact HI0.out | apply zaf.alloc | apply zaf.drewN | apply zaf.drew | apply zaf.set_1) | exact HI0.out)); (case side2 => repeat (first | (with_reducible first | exact HB.out | apply zac | apply zab | apply zad | refine zan ?_ (zaf.ge HI0.out)) | exact HB.out)); rintro e w6 ⟨rfl, hi, hb, hk⟩; refine ⟨_, rfl, ?_⟩; have n0_ := zaa.mk (zai.trans (by repeat (first | (with_reducible first | exact HK.out | apply zai.set_ | apply zal | apply zaq | apply zam) | exact HK.out)) hk (.inl rfl)); have n1_ := zaa.mk (hb); have n2_ := zaa.mk (hi); clear HK; clear HB; clear HI0; have HK := n0_; have HB := n1_; have HI0 := n2_; clear n0_ n1_ n2_; (try clear hb); (try clear hb2); (try clear hk); (try clear hi); have p286 : 0 ≤ (t284 : Int) := of_decide_eq_true (by assumption); have q286 : t284 < (l1.length : Int) := of_decide_eq_true (by assumption); obtain ⟨ad286, e286, hx286_0⟩ := Kd.at_string HR1.out t284 p286 q286; cases e286; first | (replace hx286_0 := zar HB.out hx286_0) | (replace hx286_0 := keep_cell HK.out hx286_0 (by first | (rw [add_block]; exact hf1 _ rfl (by omega)) | exact hf1 _ rfl (by omega) | exact hf1 ad286 rfl (by omega))); replace p286 := eq_true p286; replace q286 := eq_true q286))
   go_ret
   exact ⟨by first | rfl | (simp [zap, zao] <;> rfl) | (simp [*, zap, zao] <;> rfl), by repeat (first | (with_reducible first | exact HI0.out | apply zaf.alloc | apply zaf.drewN | apply zaf.drew | apply zaf.set_1) | exact HI0.out), by repeat (first | (with_reducible first | exact HB.out | apply zac | apply zab | apply zad | refine zan ?_ (zaf.ge HI0.out)) | exact HB.out), by repeat (first | (with_reducible first | exact HK.out | apply zai.set_ | apply zal | apply zaq | apply zam) | exact HK.out)⟩
  ·rw [if_neg c5] at H
   exact absurd H (by simp)
 ·rw [if_neg c4] at H
  exact absurd H (by simp)
mutual
def spec_l91Empty.l0 : Nat → Int → Int → List ByteArray → Int → Option (List ByteArray)
 | 0, _, _, _, _ => none
 | k + 1, x0, x1, x5, x6 => if x6 < x0 then (spec_l91Empty.l1 k x0 x1 x5 x6 (([] : List Int)) 0) else (some x5)
def spec_l91Empty.l1 : Nat → Int → Int → List ByteArray → Int → List Int → Int → Option (List ByteArray)
 | 0, _, _, _, _, _, _ => none
 | k + 1, x0, x1, x5, x6, x7, x8 => if x8 < x1 then (if x7.length < 140737488355328 then (spec_l91Empty.l1 k x0 x1 x5 x6 (x7 ++ [97]) (wrap64 (x8 + 1))) else (none)) else (if x5.length < 8796093022208 then (spec_l91Empty.l0 k x0 x1 (x5 ++ [strOfNums x7]) (wrap64 (x6 + 1))) else (none))
end
def spec_l91Empty.f (k : Nat) (a0 : Int) (a1 : Int) : Option (List ByteArray) := spec_l91Empty.l0 k a0 a1 (([] : List ByteArray)) 0
set_option maxHeartbeats 8000000 in
set_option maxRecDepth 100000 in
theorem spec_l91Empty.calls (k : Nat) (a0 : Int) (a1 : Int) (r : List ByteArray) (w : World) (h : spec_l91Empty.f k a0 a1 = some r) :
  Calls Try.prog 112 #[.int .i64 a0, .int .i64 a1] w fun e w' => ∃ v0_ : Value, e = .returned (v0_) ∧ Kd.R Kd.string 9 w' w.heap.size (fun _ => True) v0_ r ∧ Below w.heap.size w w' := by
 have HB := zaa.mk (Below.refl w.heap.size w)
 have H : (spec_l91Empty.l0 k a0 a1 (([] : List ByteArray)) 0) = some r := h
 clear h
 obtain ⟨y297, hy297⟩ : ∃ y_ : List ByteArray, y_ = (([] : List ByteArray)) := ⟨_, rfl⟩
 replace H : (spec_l91Empty.l0 k a0 a1 y297 0) = some r := by first | (rw [hy297]; with_reducible exact H) | (have H2_ := (yah _ _).symm.trans H; rw [hy297]; with_reducible exact H2_) | (have H2_ := (yah _ _).symm.trans H; with_reducible exact H2_) | with_reducible exact H | (rw [hy297]; exact H) | exact H
 have Ny297 := zaa.mk hy297
 clear hy297
 have H' := zaa.mk H
 clear H
 go_enter Try.func112, Try.ntmps112
 go_wp2_with (first | ((with_reducible refine zbb (N := 9) rfl ?_); refine Kd.R_lit Kd.string _ 9 ?hg (N := 9) ?hd (xs := ([] : List ByteArray)) (inner := []) (ok := fun _ => True) (okp := fun _ => True) ?hr ?hp (fun _ hk => hk) trivial (Below.refl _ _) (yai _) (by simp) ?_; (case hd => rfl); (case hg => rfl); (case hr => first | (go_simp; done) | (go_simp; rfl)); (case hp => exact (Reps.none _ _)); intro v298 w3 ho4 hb hg_ hnew_; clear hg_ hnew_; (first | rw [← Ny297.out] at ho4 | (simp only [Int.reduceToNat] at ho4; rw [← Ny297.out] at ho4)); have n0_ := zaa.mk (Kd.R_lower ho4 (zag (by repeat (first | (with_reducible first | exact HB.out | apply zac | apply zab | apply zad) | exact HB.out)))); have n1_ := zaa.mk (zae (by repeat (first | (with_reducible first | exact HB.out | apply zac | apply zab | apply zad) | exact HB.out)) hb); clear HB; have HO299 := n0_; have HB := n1_; clear n0_ n1_; clear hb ho4))
 go_loopg [5, 6] k (fun kq v5 v6 w' => ∃ (x5_1 : List ByteArray) (x6_1 : Int), v6 = .int .i64 x6_1 ∧ zaa (spec_l91Empty.l0 kq a0 a1 x5_1 x6_1 = some r) ∧ zaa (kq ≤ k) ∧ zaa (Kd.R Kd.string 9 w' w.heap.size (fun _ => True) v5 x5_1) ∧ zaa (Below w.heap.size w w'))
 case atStart => exact ⟨(y297), (0), (by first | rfl | (simp; done) | (simp [*]; done)), H', ⟨yai _⟩, ⟨by (with_reducible repeat (first | apply yaj | apply yak | apply yal)); exact HO299.out⟩, ⟨by repeat (first | (with_reducible first | exact HB.out | apply zac | apply zab | apply zad) | exact HB.out)⟩⟩
 case round =>
  clear H'
  try clear c1
  try clear p2
  obtain ⟨x5_1, x6_1, rfl, HA, HK1, HO_5, HB⟩ := hrel
  cases gk with
  | zero => exact absurd HA.out (by simp [spec_l91Empty.l0])
  | succ k1 =>
   have H := HA.out
   clear HA
   simp only [spec_l91Empty.l0] at H
   by_cases c5 : x6_1 < a0
   ·rw [if_pos c5] at H
    have c5b0 : decide (x6_1 < a0) = true := decide_eq_true c5
    clear c5
    obtain ⟨y300, hy300⟩ : ∃ y_ : List Int, y_ = (([] : List Int)) := ⟨_, rfl⟩
    replace H : (spec_l91Empty.l1 k1 a0 a1 x5_1 x6_1 y300 0) = some r := by first | (rw [hy300]; with_reducible exact H) | (have H2_ := (yah _ _).symm.trans H; rw [hy300]; with_reducible exact H2_) | (have H2_ := (yah _ _).symm.trans H; with_reducible exact H2_) | with_reducible exact H | (rw [hy300]; exact H) | exact H
    have Ny300 := zaa.mk hy300
    clear hy300
    have H' := zaa.mk H
    clear H
    go_wp2_with (first | ((with_reducible refine zbb (N := 15) rfl ?_); refine Kd.R_lit (Kd.int .u8) _ 5 ?hg (N := 15) ?hd (xs := ([] : List Int)) (inner := []) (ok := fun _ => True) (okp := fun _ => True) ?hr ?hp (fun _ hk => hk) trivial (Below.refl _ _) (yai _) (by simp) ?_; (case hd => rfl); (case hg => rfl); (case hr => first | (go_simp; done) | (go_simp; rfl)); (case hp => exact (Reps.none _ _)); intro v301 w6 ho7 hb hg_ hnew_; clear hg_ hnew_; (first | rw [← Ny300.out] at ho7 | (simp only [Int.reduceToNat] at ho7; rw [← Ny300.out] at ho7)); have n0_ := zaa.mk (Kd.R_below (by (with_reducible repeat (first | apply yaj | apply yak | apply yal)); exact HO_5.out) hb); have n1_ := zaa.mk (Kd.R_lower ho7 (zag (by repeat (first | (with_reducible first | exact HB.out | apply zac | apply zab | apply zad) | exact HB.out)))); have n2_ := zaa.mk (zae (by repeat (first | (with_reducible first | exact HB.out | apply zac | apply zab | apply zad) | exact HB.out)) hb); clear HO_5; clear HB; have HO_5 := n0_; have HO302 := n1_; have HB := n2_; clear n0_ n1_ n2_; clear hb ho7))
    go_loopg [7, 8] k1 (fun kq v7 v8 w' => ∃ (x7_2 : List Int) (x8_2 : Int), v8 = .int .i64 x8_2 ∧ zaa (spec_l91Empty.l1 kq a0 a1 x5_1 x6_1 x7_2 x8_2 = some r) ∧ zaa (kq ≤ k1) ∧ zaa (Kd.R Kd.string 9 w' w.heap.size (fun _ => True) u5 x5_1) ∧ zaa (Kd.R (Kd.int .u8) 5 w' w.heap.size (fun _ => True) v7 x7_2) ∧ zaa (Below w.heap.size w w'))
    case atStart => exact ⟨(y300), (0), (by first | rfl | (simp; done) | (simp [*]; done)), H', ⟨yai _⟩, ⟨by (with_reducible repeat (first | apply yaj | apply yak | apply yal)); exact HO_5.out⟩, ⟨by (with_reducible repeat (first | apply yaj | apply yak | apply yal)); exact HO302.out⟩, ⟨by repeat (first | (with_reducible first | exact HB.out | apply zac | apply zab | apply zad) | exact HB.out)⟩⟩
    case round =>
     clear H'
     try clear c1
     try clear p2
     try clear c5
     try clear c5b0
     try clear p2
     obtain ⟨x7_2, x8_2, rfl, HA, HK2, HO_5, HO_7, HB⟩ := hrel
     cases gk with
     | zero => exact absurd HA.out (by simp [spec_l91Empty.l1])
     | succ k2 =>
      have H := HA.out
      clear HA
      simp only [spec_l91Empty.l1] at H
      by_cases c8 : x8_2 < a1
      ·rw [if_pos c8] at H
       have c8b0 : decide (x8_2 < a1) = true := decide_eq_true c8
       clear c8
       by_cases c9 : x7_2.length < 140737488355328
       ·rw [if_pos c9] at H
        have LMc9 := zaa.mk c9
        clear c9
        obtain ⟨y303, hy303⟩ : ∃ y_ : List Int, y_ = (x7_2 ++ [97]) := ⟨_, rfl⟩
        replace H : (spec_l91Empty.l1 k2 a0 a1 x5_1 x6_1 y303 (wrap64 (x8_2 + 1))) = some r := by first | (rw [hy303]; with_reducible exact H) | (have H2_ := (yah _ _).symm.trans H; rw [hy303]; with_reducible exact H2_) | (have H2_ := (yah _ _).symm.trans H; with_reducible exact H2_) | with_reducible exact H | (rw [hy303]; exact H) | exact H
        have Ny303 := zaa.mk hy303
        clear hy303
        have H' := zaa.mk H
        clear H
        go_wp2_with (first | ((with_reducible refine zax (b := .append) (xs := #[.tmp 21, .tmp 22]) rfl ?_); at_builtin; refine Kd.R_append (Kd.int .u8) (w0 := w) w.heap.size rfl (.tmp 21) (.tmp 22) 32 5 (.int .u8 0) 1 rfl Try.underlying32 info5 rfl (by decide) (by omega) u7 x7_2 97 [.int .u8 97] (fun _ => True) (fun _ => False) rfl rfl ?aP (fun _ hk => hk.elim) ?aF ?aO ?aB ?aS ?aL ?_; (case aP => exact rfl); (case aB => exact (by repeat (first | (with_reducible first | exact HB.out | apply zac | apply zab | apply zad) | exact HB.out))); (case aF => exact (fun _ _ => trivial)); (case aO => exact (by (with_reducible repeat (first | apply yaj | apply yak | apply yal)); exact HO_7.out)); (case aS => exact (zag (by repeat (first | (with_reducible first | exact HB.out | apply zac | apply zab | apply zad) | exact HB.out)))); (case aL => have := LMc9.out; omega); intro v304 w10 ho hb hg hat; rw [← Ny303.out] at ho; have n0_ := zaa.mk (Kd.R_over' (by (with_reducible repeat (first | apply yaj | apply yak | apply yal)); exact HO_5.out) (Kd.R_typed (by (with_reducible repeat (first | apply yaj | apply yak | apply yal)); exact HO_7.out)) (by decide) hg); have n1_ := zaa.mk (hb); have n2_ := zaa.mk (ho); clear HO_5; clear HB; clear HO_7; have HO_5 := n0_; have HB := n1_; have HO305 := n2_; clear n0_ n1_ n2_; clear ho hb hg hat))
        go_roundg k2
        case measure => have := HK1.out; have := HK2.out; omega
        case rel => exact ⟨(y303), (wrap64 (x8_2 + 1)), (by first | rfl | (simp; done) | (simp [*]; done)), H', ⟨by have := HK1.out; have := HK2.out; omega⟩, ⟨by (with_reducible repeat (first | apply yaj | apply yak | apply yal)); exact HO_5.out⟩, ⟨by (with_reducible repeat (first | apply yaj | apply yak | apply yal)); exact HO305.out⟩, ⟨by repeat (first | (with_reducible first | exact HB.out | apply zac | apply zab | apply zad) | exact HB.out)⟩⟩
       ·rw [if_neg c9] at H
        exact absurd H (by simp)
      ·rw [if_neg c8] at H
       have c8b0 : decide (x8_2 < a1) = false := decide_eq_false c8
       clear c8
       by_cases c11 : x5_1.length < 8796093022208
       ·rw [if_pos c11] at H
        have LMc11 := zaa.mk c11
        clear c11
        obtain ⟨y306, hy306⟩ : ∃ y_ : List ByteArray, y_ = (x5_1 ++ [strOfNums x7_2]) := ⟨_, rfl⟩
        replace H : (spec_l91Empty.l0 k2 a0 a1 y306 (wrap64 (x6_1 + 1))) = some r := by first | (rw [hy306]; with_reducible exact H) | (have H2_ := (yah _ _).symm.trans H; rw [hy306]; with_reducible exact H2_) | (have H2_ := (yah _ _).symm.trans H; with_reducible exact H2_) | with_reducible exact H | (rw [hy306]; exact H) | exact H
        have Ny306 := zaa.mk hy306
        clear hy306
        have H' := zaa.mk H
        clear H
        have hcv12 := own_string (P := Try.prog) Try.underlying32 Try.underlying5 Try.underlying9 (Kd.own_of_R HO_7.out)
        go_wp2_with (first | ((with_reducible refine zax (b := .append) (xs := #[.tmp 24, .tmp 27]) rfl ?_); at_builtin; refine Kd.R_append Kd.string (w0 := w) w.heap.size rfl (.tmp 24) (.tmp 27) 22 9 (.string ⟨#[]⟩) 16 rfl Try.underlying22 info9 rfl (by decide) (by omega) u5 x5_1 (strOfNums x7_2) [.string (strOfNums x7_2)] (fun _ => True) (fun _ => False) rfl rfl ?aP (fun _ hk => hk.elim) ?aF ?aO ?aB ?aS ?aL ?_; (case aP => exact rfl); (case aB => exact (by repeat (first | (with_reducible first | exact HB.out | apply zac | apply zab | apply zad) | exact HB.out))); (case aF => exact (fun _ _ => trivial)); (case aO => exact (by (with_reducible repeat (first | apply yaj | apply yak | apply yal)); exact HO_5.out)); (case aS => exact (zag (by repeat (first | (with_reducible first | exact HB.out | apply zac | apply zab | apply zad) | exact HB.out)))); (case aL => have := LMc11.out; omega); intro v307 w13 ho hb hg hat; rw [← Ny306.out] at ho; have n0_ := zaa.mk (Kd.R_over' (by (with_reducible repeat (first | apply yaj | apply yak | apply yal)); exact HO_7.out) (Kd.R_typed (by (with_reducible repeat (first | apply yaj | apply yak | apply yal)); exact HO_5.out)) (by decide) hg); have n1_ := zaa.mk (hb); have n2_ := zaa.mk (ho); clear HO_7; clear HB; clear HO_5; have HO_7 := n0_; have HB := n1_; have HO308 := n2_; clear n0_ n1_ n2_; clear ho hb hg hat))
        go_roundg k2
        case measure => have := HK1.out; have := HK2.out; omega
        case rel => exact ⟨(y306), (wrap64 (x6_1 + 1)), (by first | rfl | (simp; done) | (simp [*]; done)), H', ⟨by have := HK1.out; have := HK2.out; omega⟩, ⟨by (with_reducible repeat (first | apply yaj | apply yak | apply yal)); exact HO308.out⟩, ⟨by repeat (first | (with_reducible first | exact HB.out | apply zac | apply zab | apply zad) | exact HB.out)⟩⟩
       ·rw [if_neg c11] at H
        exact absurd H (by simp)
   ·rw [if_neg c5] at H
    have c5b0 : decide (x6_1 < a0) = false := decide_eq_false c5
    clear c5
    obtain rfl := Option.some.inj H
    go_wp2
    go_ret
    exact ⟨_, by first | rfl | (simp [zap, zao] <;> rfl) | (simp [*, zap, zao] <;> rfl), by (with_reducible repeat (first | apply yaj | apply yak | apply yal)); exact HO_5.out, by repeat (first | (with_reducible first | exact HB.out | apply zac | apply zab | apply zad) | exact HB.out)⟩
end Go.Proofs.Ytickdcegnlldjaa.PB
