/- Part 2 of the proof of FnSides: what the program's functions and the reference's compute. -/
import Derived.Below
import Derived.Deep.Draws
import Derived.Deep.AppendLies
import Derived.Maps.AppendAt
import Derived.OwnWalk
import Derived.Laws.BytesArg
import Derived.Laws.MakeOwn
import Derived.Laws.OwnMore
import Derived.Deep.OwnRows
import Derived.Tactics
import Derived.Lib.ConvBytes
import Derived.Laws.Slices
import Derived.WalkKit
import Derived.KernelRfl
import Derived.RowKit3
import Derived.Deep.LoopGhost
import Derived.Deep.QuietTactic
import Derived.BigQuiet
import Derived.WideLaws
import Derived.Deep.DeepCutAuto
import Derived.Deep.CutBlock
import Derived.Deep.RegionHeld3
import Derived.Laws.Rows
import Derived.Lib.AppendStr
import Derived.ArgAppend
import Derived.Laws.IdiomCopy
import Derived.RowKit
import Derived.OrdersHeld
import Derived.Laws.BitsLemmas
import Derived.Laws.StructEq
import Derived.SizedLaws
import Derived.ChangeSlices
import Derived.Test.YtaepgogafkmooaaProg
import Derived.Maps.OwnSet
import Derived.Maps.Views
import Derived.Shelf.Strings.Builder1
import Derived.Shelf.Slices.CompactI
import Derived.Test.YtaepgogafkmooaaRows
import Derived.ProofKit
import Derived.OpenShut
import Derived.ShutString
import Derived.ChangeOld
import Derived.Test.YtaepgogafkmooaaCPLDa
set_option linter.unusedSimpArgs false
set_option linter.unusedVariables false
open List renaming map_toArray → yaa, length_take → yab, length_drop → yac
open ByteArray renaming empty → yad
open Option renaming bind_eq_some_iff → yae, bind_some → yaf
open Nat renaming le_refl → yag
open Go.PW.PrintWords.Kd renaming R_alloc → yah, R_drewN → yai, R_drew → yaj, S_alloc → yak, S_drewN → yal, S_drew → yam
namespace Go.Proofs.Ytaepgogafkmooaa.PB
open Go.RowKit Go.PW.PrintWords Go.PW.PrintLast Go.PW.PrintMore
attribute [local go_sem] zcb zbz max_two min_two zbs zbr zca zby   -- for this text's walks alone
def errW : Option Int → Value
 | none => .nilIface
 | some c => .iface 0 (.int .i64 c)
theorem zan : errW none = .nilIface := rfl
theorem zam (c : Int) : errW (some c) = .iface 0 (.int .i64 c) := rfl
theorem info3 : (Try.prog.info? 3).map (fun i => (i.zero, i.size, i.bytes)) = some (some (.int .i64 0), 1, 8) := by kernel_rfl
theorem info5 : (Try.prog.info? 5).map (fun i => (i.zero, i.size, i.bytes)) = some (some (.int .u8 0), 1, 1) := by kernel_rfl
theorem info9 : (Try.prog.info? 9).map (fun i => (i.zero, i.size, i.bytes)) = some (some (.string ⟨#[]⟩), 1, 16) := by kernel_rfl
theorem info39 : (Try.prog.info? 39).map (fun i => (i.zero, i.size, i.bytes)) = some (some (.slice none 0 0), 1, 24) := by kernel_rfl
theorem info79 : (Try.prog.info? 79).map (fun i => (i.zero, i.size, i.bytes)) = some (some (.agg #[(.bool false), (.int .i64 0), (.int .i64 0), (.int .i64 0)]), 4, 32) := by kernel_rfl
def zbo (xs : List (List Int)) (i : Int) : (List Int) := xs.getD i.toNat ([] : List Int)
theorem at_L3 {w : World} {A : Option Addr} {n : Nat} {xs : List (List Int)} (h : Kd.C (Kd.slice 3 (Kd.int .i64)) w A n xs) (i : Int) (h0 : 0 ≤ i) (h1 : i < n) : ∃ ad A0 c0, A = some ad ∧ w.cell? (ad.add i.toNat) = some (.slice A0 (zbo xs i).length c0) ∧ (zbo xs i).length ≤ c0 ∧ (Kd.int .i64).C w A0 (zbo xs i).length (zbo xs i) := by
 obtain ⟨ad, c, e, _, hK, hc0⟩ := Kd.C_get h ([] : List Int) i h0 h1
 have hc : ∀ j u, c[j]? = some u → w.cell? (ad.add (i.toNat * 1 + j)) = some u := hc0
 obtain ⟨A0, c0, rfl, l0, g0⟩ := hK
 exact ⟨ad, A0, c0, e, by have hq := hc 0 _ rfl; rwa [Nat.mul_one, Nat.add_zero] at hq, l0, g0⟩
structure S131 where
 f0 : Int
 f1 : Int
 f2 : Int
 f3 : Int
def z131 : S131 := ⟨(0 : Int), (0 : Int), (0 : Int), (0 : Int)⟩
def k131 : Kd S131 := Kd.iso (Kd.pair (Kd.int .i64) (Kd.pair (Kd.int .i64) (Kd.pair (Kd.int .i64) (Kd.int .i64)))) (fun x : S131 => (x.f0, x.f1, x.f2, x.f3))
theorem k131_open {w : World} {x : S131} {cs : List Value} (h : k131.K w x cs) : cs = [.int .i64 x.f0, .int .i64 x.f1, .int .i64 x.f2, .int .i64 x.f3] := by
 obtain ⟨_, _, rfl, rfl, ⟨_, _, rfl, rfl, ⟨_, _, rfl, rfl, rfl⟩⟩⟩ := h
 exact rfl
theorem k131_mkM (w : World) (base : Nat) (ok : Nat → Prop) (x : S131)  : k131.M w base ok x [.int .i64 x.f0, .int .i64 x.f1, .int .i64 x.f2, .int .i64 x.f3] := ⟨[.int .i64 x.f0], [.int .i64 x.f1, .int .i64 x.f2, .int .i64 x.f3], rfl, rfl, ⟨[.int .i64 x.f1], [.int .i64 x.f2, .int .i64 x.f3], rfl, rfl, ⟨[.int .i64 x.f2], [.int .i64 x.f3], rfl, rfl, rfl⟩⟩⟩
def rd_T131 (xs : List S131) (i : Int) : S131 := xs.getD i.toNat z131
theorem at_T131 {w : World} {A : Option Addr} {n : Nat} {xs : List S131} (h : Kd.C k131 w A n xs) (i : Int) (h0 : 0 ≤ i) (h1 : i < n) : ∃ ad , A = some ad ∧ w.cell? (ad.add (i.toNat * 4)) = some (.int .i64 (rd_T131 xs i).f0) ∧ w.cell? ⟨(ad.add (i.toNat * 4)).block, (ad.add (i.toNat * 4)).off + 1, none⟩ = some (.int .i64 (rd_T131 xs i).f1) ∧ w.cell? ⟨(ad.add (i.toNat * 4)).block, (ad.add (i.toNat * 4)).off + 2, none⟩ = some (.int .i64 (rd_T131 xs i).f2) ∧ w.cell? ⟨(ad.add (i.toNat * 4)).block, (ad.add (i.toNat * 4)).off + 3, none⟩ = some (.int .i64 (rd_T131 xs i).f3) := by
 obtain ⟨ad, c, e, _, hK, hc0⟩ := Kd.C_get h z131 i h0 h1
 have hc : ∀ j u, c[j]? = some u → w.cell? (ad.add (i.toNat * 4 + j)) = some u := hc0
 obtain rfl := k131_open hK
 exact ⟨ad, e, hc 0 _ rfl, by rw [← add_field _ _ 1 (by omega)]; exact hc 1 _ rfl, by rw [← add_field _ _ 2 (by omega)]; exact hc 2 _ rfl, by rw [← add_field _ _ 3 (by omega)]; exact hc 3 _ rfl⟩
structure S79 where
 f0 : Bool
 f1 : Int
 f2 : Int
 f3 : Int
def z79 : S79 := ⟨false, (0 : Int), (0 : Int), (0 : Int)⟩
def k79 : Kd S79 := Kd.iso (Kd.pair Kd.bool (Kd.pair (Kd.int .i64) (Kd.pair (Kd.int .i64) (Kd.int .i64)))) (fun x : S79 => (x.f0, x.f1, x.f2, x.f3))
theorem k79_open {w : World} {x : S79} {cs : List Value} (h : k79.K w x cs) : cs = [.bool x.f0, .int .i64 x.f1, .int .i64 x.f2, .int .i64 x.f3] := by
 obtain ⟨_, _, rfl, rfl, ⟨_, _, rfl, rfl, ⟨_, _, rfl, rfl, rfl⟩⟩⟩ := h
 exact rfl
theorem k79_openM {w : World} {base : Nat} {ok : Nat → Prop} {x : S79} {cs : List Value} (h : k79.M w base ok x cs) : cs = [.bool x.f0, .int .i64 x.f1, .int .i64 x.f2, .int .i64 x.f3] := by
 obtain ⟨_, _, rfl, rfl, ⟨_, _, rfl, rfl, ⟨_, _, rfl, rfl, rfl⟩⟩⟩ := h
 exact rfl
theorem k79_mkM (w : World) (base : Nat) (ok : Nat → Prop) (x : S79)  : k79.M w base ok x [.bool x.f0, .int .i64 x.f1, .int .i64 x.f2, .int .i64 x.f3] := ⟨[.bool x.f0], [.int .i64 x.f1, .int .i64 x.f2, .int .i64 x.f3], rfl, rfl, ⟨[.int .i64 x.f1], [.int .i64 x.f2, .int .i64 x.f3], rfl, rfl, ⟨[.int .i64 x.f2], [.int .i64 x.f3], rfl, rfl, rfl⟩⟩⟩
def zcf (xs : List S79) (i : Int) : S79 := xs.getD i.toNat z79
theorem at_T79 {w : World} {A : Option Addr} {n : Nat} {xs : List S79} (h : Kd.C k79 w A n xs) (i : Int) (h0 : 0 ≤ i) (h1 : i < n) : ∃ ad , A = some ad ∧ w.cell? (ad.add (i.toNat * 4)) = some (.bool (zcf xs i).f0) ∧ w.cell? ⟨(ad.add (i.toNat * 4)).block, (ad.add (i.toNat * 4)).off + 1, none⟩ = some (.int .i64 (zcf xs i).f1) ∧ w.cell? ⟨(ad.add (i.toNat * 4)).block, (ad.add (i.toNat * 4)).off + 2, none⟩ = some (.int .i64 (zcf xs i).f2) ∧ w.cell? ⟨(ad.add (i.toNat * 4)).block, (ad.add (i.toNat * 4)).off + 3, none⟩ = some (.int .i64 (zcf xs i).f3) := by
 obtain ⟨ad, c, e, _, hK, hc0⟩ := Kd.C_get h z79 i h0 h1
 have hc : ∀ j u, c[j]? = some u → w.cell? (ad.add (i.toNat * 4 + j)) = some u := hc0
 obtain rfl := k79_open hK
 exact ⟨ad, e, hc 0 _ rfl, by rw [← add_field _ _ 1 (by omega)]; exact hc 1 _ rfl, by rw [← add_field _ _ 2 (by omega)]; exact hc 2 _ rfl, by rw [← add_field _ _ 3 (by omega)]; exact hc 3 _ rfl⟩
end Go.Proofs.Ytaepgogafkmooaa.PB
namespace Go.Proofs.Ytaepgogafkmooaa.PB
open Go.RowKit Go.PW.PrintWords Go.PW.PrintLast Go.PW.PrintMore
attribute [local go_sem] zcb zbz max_two min_two zbs zbr zca zby   -- for this text's walks alone
def zae (w0 W : World) (g : Nat) (f0 : List Int) (f1 : Int) : Prop := ∃ A0 c0, W.heap[g]? = some (.cells #[.slice A0 f0.length c0, .int .i64 f1] 109 (0, 0)) ∧ w0.heap.size ≤ g ∧ Kd.C (Kd.int .u8) w0 A0 f0.length f0
theorem zae.grown {w0 W : World} {g : Nat} {f0 : List Int} {f1 : Int} {W1 : World} {row : Option Nat} (h : zae w0 W g f0 f1) (hw : W.grownBy W1 row) (hne : some g ≠ row) : zae w0 W1 g f0 f1 := by
 obtain ⟨A0, c0, hb, hg, hr0⟩ := h
 exact ⟨A0, c0, blk_grown hb hw hne, hg, hr0⟩
theorem zae.fresh {w0 W : World} {g : Nat} {f0 : List Int} {f1 : Int} (h : zae w0 W g f0 f1) : ∀ k, W.heap.size ≤ k → k ≠ g := by
 obtain ⟨A0, c0, hb, hg, hr0⟩ := h
 exact Kd.freshB hb
theorem zae.kept {w0 W : World} {g : Nat} {f0 : List Int} {f1 : Int} {W1 : World} {S : Nat → Prop} (h : zae w0 W g f0 f1) (hk : Kept W W1 S) (hne : ¬ S g) : zae w0 W1 g f0 f1 := by
 obtain ⟨A0, c0, hb, hg, hr0⟩ := h
 exact ⟨A0, c0, blk_kept hb hk hne, hg, hr0⟩
theorem zae.below {w0 W : World} {g : Nat} {f0 : List Int} {f1 : Int} {W1 : World} (h : zae w0 W g f0 f1) (hw : Below W.heap.size W W1) : zae w0 W1 g f0 f1 := h.grown (grown_of_below hw none) (by simp)
theorem zae.alloc {w0 W : World} {g : Nat} {f0 : List Int} {f1 : Int} (h : zae w0 W g f0 f1) (o : Obj) : zae w0 (W.alloc o) g f0 f1 := h.below (zac (Below.refl _ _) o)
theorem zae.drewN {w0 W : World} {g : Nat} {f0 : List Int} {f1 : Int} (h : zae w0 W g f0 f1) (m : Nat) : zae w0 (W.drewN m) g f0 f1 := h
theorem zae.drew {w0 W : World} {g : Nat} {f0 : List Int} {f1 : Int} (h : zae w0 W g f0 f1) : zae w0 W.drew g f0 f1 := h
theorem zae.at_ {w0 W : World} {g : Nat} {f0 : List Int} {f1 : Int} {w' : World} {m : Nat} (hq : W.drewN m = w') (h : zae w0 W g f0 f1) : zae w0 w' g f0 f1 := by subst hq; exact zae.drewN h m
theorem zae.apart {w0 W : World} {g : Nat} {f0 : List Int} {f1 : Int} {α : Type} {d : Kd α} {e : Nat} {base : Nat} {ok : Nat → Prop} {v : Value} {xs : List α} (h : zae w0 W g f0 f1) (ho : d.R e W base ok v xs) (ht : ∀ q, q ∈ e :: d.E → q ≠ 109) : d.R e W base (fun k => ok k ∧ k ≠ g) v xs := by
 obtain ⟨A0, c0, hb, hg, hr0⟩ := h
 exact Kd.R_types ho hb ht
theorem zae.own_ne {w0 W : World} {g : Nat} {f0 : List Int} {f1 : Int} {α : Type} {d : Kd α} {e : Nat} {base : Nat} {ok : Nat → Prop} {v : Value} {xs : List α} (h : zae w0 W g f0 f1) (ho : d.R e W base ok v xs) (ht : e ≠ 109) : some g ≠ v.ownBlock := by
 obtain ⟨A0, c0, hb, hg, hr0⟩ := h
 exact Kd.R_ne ho hb ht
theorem zae.apartS {w0 W : World} {g : Nat} {f0 : List Int} {f1 : Int} {α : Type} {d : Kd α} {e : Nat} {base : Nat} {ok : Nat → Prop} {v : Value} {xs : List α} (h : zae w0 W g f0 f1) (ho : d.S e W base ok v xs) (ht : ∀ q, q ∈ e :: d.E → q ≠ 109) : d.S e W base (fun k => ok k ∧ k ≠ g) v xs := by
 obtain ⟨A0, c0, hb, hg, hr0⟩ := h
 exact Kd.S_types ho hb ht
theorem zae.lt {w0 W : World} {g : Nat} {f0 : List Int} {f1 : Int} (h : zae w0 W g f0 f1) : g < W.heap.size := by
 obtain ⟨A0, c0, hb, hg, hr0⟩ := h
 exact blk_lt hb
theorem zae.ge {w0 W : World} {g : Nat} {f0 : List Int} {f1 : Int} (h : zae w0 W g f0 f1) : w0.heap.size ≤ g := by
 obtain ⟨A0, c0, hb, hg, hr0⟩ := h
 exact hg
theorem cellS109_0 {W : World} {g : Nat} {A0 : Option Addr} {c0 : Nat} {f0 : List Int} {f1 : Int} (h : W.heap[g]? = some (.cells #[.slice A0 f0.length c0, .int .i64 f1] 109 (0, 0))) : W.cell? ⟨g, 0, none⟩ = some (.slice A0 f0.length c0) := (zax h 0).trans rfl
theorem cellS109_1 {W : World} {g : Nat} {A0 : Option Addr} {c0 : Nat} {f0 : List Int} {f1 : Int} (h : W.heap[g]? = some (.cells #[.slice A0 f0.length c0, .int .i64 f1] 109 (0, 0))) : W.cell? ⟨g, 1, none⟩ = some (.int .i64 f1) := (zax h 1).trans rfl
theorem zae.set_1 {w0 W : World} {g : Nat} {f0 : List Int} {f1 : Int} (h : zae w0 W g f0 f1) (x : Int) : zae w0 (W.setCell ⟨g, 1, none⟩ (.int .i64 x)) g f0 x := by
 obtain ⟨A0, c0, hb, hg, hr0⟩ := h
 exact ⟨A0, c0, by simpa using blk_set hb 1 (.int .i64 x), hg, hr0⟩
theorem zae.new (w0 W : World) (A0 : Option Addr) (c0 : Nat) (f0 : List Int) (f1 : Int) (hB : Below w0.heap.size w0 W) (hr0 : Kd.C (Kd.int .u8) w0 A0 f0.length f0) : zae w0 (W.alloc (.cells #[.slice A0 f0.length c0, .int .i64 f1] 109)) W.heap.size f0 f1 := ⟨A0, c0, by simpa using heap_alloc_new W _, hB.size, hr0⟩
def spec_l6Open.f (l0 : List Int) : Option (List Int × Int) := if (l0.length : Int) > 2000 then (if 2000 ≤ (l0.length : Int) then (some (l0.take 2000, 0)) else (none)) else (some (l0, 0))
set_option maxHeartbeats 8000000 in
set_option maxRecDepth 100000 in
theorem spec_l6Open.calls (A0 : Option Addr) (c0 : Nat) (l0 : List Int) (r1 : List Int) (r2 : Int) (w0 w : World) (hB : Below w0.heap.size w0 w) (hr0 : Kd.C (Kd.int .u8) w0 A0 l0.length l0) (hc0 : l0.length ≤ c0) (h : spec_l6Open.f l0 = some (r1, r2)) :
  Calls Try.prog 61 #[.slice A0 l0.length c0] w fun e w' => ∃ g_ : Nat, e = .returned (.pointer (some ⟨g_, 0, none⟩)) ∧ zae w0 w' g_ r1 r2 ∧ Below w0.heap.size w0 w' ∧ Below w.heap.size w w' := by
 have hu109 := Try.underlying109
 have HR0 := zaa.mk hr0
 have HC0 := zaa.mk hc0
 clear hr0 hc0
 have HBW := zaa.mk (Below.refl w.heap.size w)
 have HW0 := zaa.mk hB.size
 have HB := zaa.mk hB
 clear hB
 have H : (if (l0.length : Int) > 2000 then (if 2000 ≤ (l0.length : Int) then (some (l0.take 2000, 0)) else (none)) else (some (l0, 0))) = some (r1, r2) := h
 clear h
 by_cases c2 : (l0.length : Int) > 2000
 ·rw [if_pos c2] at H
  have c2b0 : decide (2000 < (l0.length : Int)) = true := decide_eq_true c2
  have c2b1 : decide (2000 < l0.length) = true := decide_eq_true (by omega)
  clear c2
  by_cases c3 : 2000 ≤ (l0.length : Int)
  ·rw [if_pos c3] at H
   have c3b0 := eq_true c3
   have c3b1 : decide (2000 ≤ (l0.length : Int)) = true := decide_eq_true c3
   clear c3
   simp only [Option.some.injEq, Prod.mk.injEq] at H
   obtain ⟨rfl, rfl⟩ := H
   obtain ⟨i04, hi04, _, hsz4, _⟩ := info_parts info5
   obtain ⟨hcut4, hA4, hC4⟩ := print_take_of (P := Try.prog) (Value.int .u8) 0 22 5 .i64 Try.underlying22 hi04 hsz4 A0 c0 l0 2000 (by omega) (of_decide_eq_true (by assumption)) HC0.out
   have HR101 := zaa.mk (Kd.C_of_reads (h1 := fun _ => rfl) (hA4 _ (Kd.reads_of_C HR0.out)))
   have HC101 := zaa.mk hC4
   clear hA4 hC4 hi04 hsz4
   go_enter Try.func61, Try.ntmps61
   go_wp2_with (first | ((with_reducible refine zbc (N := 10) rfl ?_); refine zcl ?hg (N := 10) ?hd (cs := #[.slice A0 (l0.take 2000).length c0, .int .i64 0]) (t := 109) ?hr ?_; (case hd => rfl); (case hg => rfl); (case hr => first | (go_simp; done) | (go_simp; rfl)); intro gb102 hg w5 hbox hb; have n0_ := zaa.mk (zag HBW.out hb); have n1_ := zaa.mk (zag (by repeat (first | (with_reducible first | exact HB.out | apply zac | apply zab | apply zad) | exact HB.out)) hb); have n2_ := zaa.mk (hbox); have n3_ := zaa.mk ((by rw [hg]; exact (zai (by repeat (first | (with_reducible first | exact HBW.out | apply zac | apply zab | apply zad) | exact HBW.out))) : w.heap.size ≤ gb102)); have n4_ := zaa.mk ((Nat.le_trans HW0.out (by rw [hg]; exact (zai (by repeat (first | (with_reducible first | exact HBW.out | apply zac | apply zab | apply zad) | exact HBW.out))) : w.heap.size ≤ gb102) : w0.heap.size ≤ gb102)); clear HBW; clear HB; have HBW := n0_; have HB := n1_; have BK102 := n2_; have GW102 := n3_; have GE102 := n4_; clear n0_ n1_ n2_ n3_ n4_; clear hb hbox hg))
   go_ret
   exact ⟨_, rfl, (show zae w0 _ gb102 (l0.take 2000) 0 from ⟨_, _, by (with_reducible repeat (first | refine zbk ?_ _ | refine zbp ?_ | refine zbl ?_ _)); exact BK102.out, GE102.out, HR101.out⟩), by repeat (first | (with_reducible first | exact HB.out | apply zac | apply zab | apply zad | refine zah ?_ GE102.out) | exact HB.out), by repeat (first | (with_reducible first | exact HBW.out | apply zac | apply zab | apply zad | refine zah ?_ GW102.out) | exact HBW.out)⟩
  ·rw [if_neg c3] at H
   exact absurd H (by simp)
 ·rw [if_neg c2] at H
  have c2b0 : decide (2000 < (l0.length : Int)) = false := decide_eq_false c2
  have c2b1 : decide (2000 < l0.length) = false := decide_eq_false (by omega)
  clear c2
  simp only [Option.some.injEq, Prod.mk.injEq] at H
  obtain ⟨rfl, rfl⟩ := H
  go_enter Try.func61, Try.ntmps61
  go_wp2_with (first | ((with_reducible refine zbc (N := 10) rfl ?_); refine zcl ?hg (N := 10) ?hd (cs := #[.slice A0 l0.length c0, .int .i64 0]) (t := 109) ?hr ?_; (case hd => rfl); (case hg => rfl); (case hr => first | (go_simp; done) | (go_simp; rfl)); intro gb103 hg w6 hbox hb; have n0_ := zaa.mk (zag HBW.out hb); have n1_ := zaa.mk (zag (by repeat (first | (with_reducible first | exact HB.out | apply zac | apply zab | apply zad) | exact HB.out)) hb); have n2_ := zaa.mk (hbox); have n3_ := zaa.mk ((by rw [hg]; exact (zai (by repeat (first | (with_reducible first | exact HBW.out | apply zac | apply zab | apply zad) | exact HBW.out))) : w.heap.size ≤ gb103)); have n4_ := zaa.mk ((Nat.le_trans HW0.out (by rw [hg]; exact (zai (by repeat (first | (with_reducible first | exact HBW.out | apply zac | apply zab | apply zad) | exact HBW.out))) : w.heap.size ≤ gb103) : w0.heap.size ≤ gb103)); clear HBW; clear HB; have HBW := n0_; have HB := n1_; have BK103 := n2_; have GW103 := n3_; have GE103 := n4_; clear n0_ n1_ n2_ n3_ n4_; clear hb hbox hg))
  go_ret
  exact ⟨_, rfl, (show zae w0 _ gb103 l0 0 from ⟨_, _, by (with_reducible repeat (first | refine zbk ?_ _ | refine zbp ?_ | refine zbl ?_ _)); exact BK103.out, GE103.out, HR0.out⟩), by repeat (first | (with_reducible first | exact HB.out | apply zac | apply zab | apply zad | refine zah ?_ GE103.out) | exact HB.out), by repeat (first | (with_reducible first | exact HBW.out | apply zac | apply zab | apply zad | refine zah ?_ GW103.out) | exact HBW.out)⟩
def spec_l6Rd_pick.j0 : Nat → Int → Bool → List Int → Int → Option (Int × Int)
 | 0, _, _, _, _ => none
 | k + 1, x1, x24, x1000, x1001 => if x24 = true then (some (0, x1001)) else (if (wrap64 (x1001 - 1)) < (x1000.length : Int) then (if 0 ≤ (wrap64 (x1001 - 1)) then (if x1 = 0 then (none) else (some (Int.tmod (wrap64 (rd x1000 (wrap64 (x1001 - 1)))) x1, x1001))) else (none)) else (if (x1000.length : Int) = 0 then (none) else (if 0 ≤ (Int.tmod (wrap64 (x1001 - 1)) (x1000.length : Int)) then (if (Int.tmod (wrap64 (x1001 - 1)) (x1000.length : Int)) < (x1000.length : Int) then (if 0 ≤ (Int.tmod (wrap64 ((wrap64 ((wrap64 (x1001 - 1)) * 7)) + 3)) (x1000.length : Int)) then (if (Int.tmod (wrap64 ((wrap64 ((wrap64 (x1001 - 1)) * 7)) + 3)) (x1000.length : Int)) < (x1000.length : Int) then (if x1 = 0 then (none) else (some (Int.tmod (Go.bits .xor .i64 (wrap64 ((wrap64 ((wrap64 ((wrap64 ((wrap64 (rd x1000 (Int.tmod (wrap64 (x1001 - 1)) (x1000.length : Int)))) * 131)) + (wrap64 ((wrap64 (rd x1000 (Int.tmod (wrap64 ((wrap64 ((wrap64 (x1001 - 1)) * 7)) + 3)) (x1000.length : Int)))) * 1117)))) + (wrap64 ((wrap64 (x1001 - 1)) * 29)))) + (wrap64 ((wrap64 (Int.tdiv (wrap64 (x1001 - 1)) (x1000.length : Int))) * 53)))) (wrap64 (Int.tdiv (wrap64 ((wrap64 ((wrap64 ((wrap64 ((wrap64 (rd x1000 (Int.tmod (wrap64 (x1001 - 1)) (x1000.length : Int)))) * 131)) + (wrap64 ((wrap64 (rd x1000 (Int.tmod (wrap64 ((wrap64 ((wrap64 (x1001 - 1)) * 7)) + 3)) (x1000.length : Int)))) * 1117)))) + (wrap64 ((wrap64 (x1001 - 1)) * 29)))) + (wrap64 ((wrap64 (Int.tdiv (wrap64 (x1001 - 1)) (x1000.length : Int))) * 53)))) 64))) x1, x1001))) else (none)) else (none)) else (none)) else (none))))
def spec_l6Rd_pick.f (k : Nat) (s0_0 : List Int) (s0_1 : Int) (a1 : Int) : Option (Int × Int) := if a1 < 1 then (spec_l6Rd_pick.j0 k a1 true s0_0 (wrap64 (s0_1 + 1))) else (spec_l6Rd_pick.j0 k a1 ((s0_0.length : Int) == 0) s0_0 (wrap64 (s0_1 + 1)))
set_option maxHeartbeats 8000000 in
set_option maxRecDepth 100000 in
theorem spec_l6Rd_pick.calls (k : Nat) (g : Nat) (s0_0 : List Int) (s0_1 : Int) (a1 : Int) (r1 : Int) (r2 : Int) (w0 w : World) (hI : zae w0 w g s0_0 s0_1) (hB : Below w0.heap.size w0 w) (h : spec_l6Rd_pick.f k s0_0 s0_1 a1 = some (r1, r2)) :
  Calls Try.prog 63 #[.pointer (some ⟨g, 0, none⟩), .int .i64 a1] w fun e w' => e = .returned (.int .i64 r1) ∧ zae w0 w' g s0_0 r2 ∧ Below w0.heap.size w0 w' ∧ zaf w w' g none := by
 have HI0 := zaa.mk hI
 have HK := zaa.mk (zaf.refl w g none)
 have HL := zaa.mk hB.size
 clear hI
 have HW0 := zaa.mk hB.size
 have HB := zaa.mk hB
 clear hB
 have H : (if a1 < 1 then (spec_l6Rd_pick.j0 k a1 true s0_0 (wrap64 (s0_1 + 1))) else (spec_l6Rd_pick.j0 k a1 ((s0_0.length : Int) == 0) s0_0 (wrap64 (s0_1 + 1)))) = some (r1, r2) := h
 clear h
 have HC3 := zaa.mk H
 clear H
 obtain ⟨ASz4_0, cSz4_0, HGz4, hgz4, HSz4_0⟩ := HI0.out
 have hcz4_0 := cellS109_0 HGz4
 have hcz4_1 := cellS109_1 HGz4
 have hfz4_1 := zbb HGz4 1
 clear HGz4 hgz4
 go_enter Try.func63, Try.ntmps63
 go_upto_region 2 with (fail)
 repeat (go_quiet (fail); go_upto_region 2 with (fail))
 go_cut [24] (fun v24 wc => ∃ (kq : Nat) (x24_2 : Bool), v24 = .bool x24_2 ∧ zaa (spec_l6Rd_pick.j0 kq a1 x24_2 s0_0 (wrap64 (s0_1 + 1)) = some (r1, r2)) ∧ zaa (kq ≤ k) ∧ zaa (zae w0 wc g s0_0 (wrap64 (s0_1 + 1))) ∧ zaa (zaf w wc g none) ∧ zaa (Below w0.heap.size w0 wc))
 case first =>
  have H := HC3.out
  clear HC3
  by_cases c5 : a1 < 1
  ·rw [if_pos c5] at H
   have c5b0 : decide (a1 < 1) = true := decide_eq_true c5
   clear c5
   (first | rw [c5b0] | (simp only [zar, zas]; rw [c5b0]) | skip)
   have H' := zaa.mk H
   clear H
   go_wp2
   repeat (go_quiet (fail); try go_wp2)
   go_meet
   case rel => exact ⟨_, (true), (by first | rfl | (simp; done) | (simp [*]; done)), H', ⟨by first | omega | exact yag _⟩, ⟨by repeat (first | (with_reducible first | exact HI0.out | apply zae.alloc | apply zae.drewN | apply zae.drew | apply zae.set_1) | exact HI0.out)⟩, ⟨by repeat (first | (with_reducible first | exact HK.out | apply zaf.set_ | apply zaj | apply zal | apply zak) | exact HK.out)⟩, ⟨by repeat (first | (with_reducible first | exact HB.out | apply zac | apply zab | apply zad | refine zah ?_ (zae.ge HI0.out)) | exact HB.out)⟩⟩
  ·rw [if_neg c5] at H
   have c5b0 : decide (a1 < 1) = false := decide_eq_false c5
   clear c5
   (first | rw [c5b0] | (simp only [zar, zas]; rw [c5b0]) | skip)
   have H' := zaa.mk H
   clear H
   obtain ⟨ASz6_0, cSz6_0, HGz6, hgz6, HSz6_0⟩ := HI0.out
   have hcz6_0 := cellS109_0 HGz6
   have hcz6_1 := cellS109_1 HGz6
   have hfz6_1 := zbb HGz6 1
   clear HGz6 hgz6
   go_wp2
   repeat (go_quiet (fail); try go_wp2)
   go_meet
   case rel => exact ⟨_, (((s0_0.length : Int) == 0)), (by first | rfl | (simp; done) | (simp [*]; done)), H', ⟨by first | omega | exact yag _⟩, ⟨by repeat (first | (with_reducible first | exact HI0.out | apply zae.alloc | apply zae.drewN | apply zae.drew | apply zae.set_1) | exact HI0.out)⟩, ⟨by repeat (first | (with_reducible first | exact HK.out | apply zaf.set_ | apply zaj | apply zal | apply zak) | exact HK.out)⟩, ⟨by repeat (first | (with_reducible first | exact HB.out | apply zac | apply zab | apply zad | refine zah ?_ (zae.ge HI0.out)) | exact HB.out)⟩⟩
 case rest =>
  clear HC3
  try clear p2
  try clear c5
  try clear c5b0
  try clear c6
  try clear p6
  try clear hcz4_0
  try clear hcz4_1
  try clear hcz6_0
  try clear hcz6_1
  try clear hfz4_1
  try clear hfz6_1
  obtain ⟨kq, x24_2, rfl, HA, HJ2, HI0, HK, HB⟩ := hcut
  cases kq with
  | zero => exact absurd HA.out (by simp [spec_l6Rd_pick.j0])
  | succ kj2 =>
   have H := HA.out
   clear HA
   simp only [spec_l6Rd_pick.j0] at H
   by_cases c7 : x24_2 = true
   ·subst c7
    have H1 : (some (0, (wrap64 (s0_1 + 1)))) = some (r1, r2) := by rw [if_pos rfl] at H; exact H
    clear H
    have H := H1
    clear H1
    simp only [Option.some.injEq, Prod.mk.injEq] at H
    obtain ⟨rfl, rfl⟩ := H
    go_wp2
    repeat (go_quiet (fail); try go_wp2)
    go_ret
    exact ⟨by first | rfl | (simp [zan, zam] <;> rfl) | (simp [*, zan, zam] <;> rfl), by repeat (first | (with_reducible first | exact HI0.out | apply zae.alloc | apply zae.drewN | apply zae.drew | apply zae.set_1) | exact HI0.out), by repeat (first | (with_reducible first | exact HB.out | apply zac | apply zab | apply zad | refine zah ?_ (zae.ge HI0.out)) | exact HB.out), by repeat (first | (with_reducible first | exact HK.out | apply zaf.set_ | apply zaj | apply zal | apply zak) | exact HK.out)⟩
   ·replace c7 := Bool.eq_false_iff.mpr c7
    subst c7
    have H1 : (if (wrap64 ((wrap64 (s0_1 + 1)) - 1)) < (s0_0.length : Int) then (if 0 ≤ (wrap64 ((wrap64 (s0_1 + 1)) - 1)) then (if a1 = 0 then (none) else (some (Int.tmod (wrap64 (rd s0_0 (wrap64 ((wrap64 (s0_1 + 1)) - 1)))) a1, (wrap64 (s0_1 + 1))))) else (none)) else (if (s0_0.length : Int) = 0 then (none) else (if 0 ≤ (Int.tmod (wrap64 ((wrap64 (s0_1 + 1)) - 1)) (s0_0.length : Int)) then (if (Int.tmod (wrap64 ((wrap64 (s0_1 + 1)) - 1)) (s0_0.length : Int)) < (s0_0.length : Int) then (if 0 ≤ (Int.tmod (wrap64 ((wrap64 ((wrap64 ((wrap64 (s0_1 + 1)) - 1)) * 7)) + 3)) (s0_0.length : Int)) then (if (Int.tmod (wrap64 ((wrap64 ((wrap64 ((wrap64 (s0_1 + 1)) - 1)) * 7)) + 3)) (s0_0.length : Int)) < (s0_0.length : Int) then (if a1 = 0 then (none) else (some (Int.tmod (Go.bits .xor .i64 (wrap64 ((wrap64 ((wrap64 ((wrap64 ((wrap64 (rd s0_0 (Int.tmod (wrap64 ((wrap64 (s0_1 + 1)) - 1)) (s0_0.length : Int)))) * 131)) + (wrap64 ((wrap64 (rd s0_0 (Int.tmod (wrap64 ((wrap64 ((wrap64 ((wrap64 (s0_1 + 1)) - 1)) * 7)) + 3)) (s0_0.length : Int)))) * 1117)))) + (wrap64 ((wrap64 ((wrap64 (s0_1 + 1)) - 1)) * 29)))) + (wrap64 ((wrap64 (Int.tdiv (wrap64 ((wrap64 (s0_1 + 1)) - 1)) (s0_0.length : Int))) * 53)))) (wrap64 (Int.tdiv (wrap64 ((wrap64 ((wrap64 ((wrap64 ((wrap64 (rd s0_0 (Int.tmod (wrap64 ((wrap64 (s0_1 + 1)) - 1)) (s0_0.length : Int)))) * 131)) + (wrap64 ((wrap64 (rd s0_0 (Int.tmod (wrap64 ((wrap64 ((wrap64 ((wrap64 (s0_1 + 1)) - 1)) * 7)) + 3)) (s0_0.length : Int)))) * 1117)))) + (wrap64 ((wrap64 ((wrap64 (s0_1 + 1)) - 1)) * 29)))) + (wrap64 ((wrap64 (Int.tdiv (wrap64 ((wrap64 (s0_1 + 1)) - 1)) (s0_0.length : Int))) * 53)))) 64))) a1, (wrap64 (s0_1 + 1))))) else (none)) else (none)) else (none)) else (none)))) = some (r1, r2) := by rw [if_neg (show ¬ (false = true) by decide)] at H; exact H
    clear H
    have H := H1
    clear H1
    by_cases c8 : (wrap64 ((wrap64 (s0_1 + 1)) - 1)) < (s0_0.length : Int)
    ·rw [if_pos c8] at H
     have c8b0 : decide ((wrap64 ((wrap64 (s0_1 + 1)) - 1)) < (s0_0.length : Int)) = true := decide_eq_true c8
     clear c8
     obtain ⟨ji9, hji9⟩ : ∃ j_ : Int, (wrap64 ((wrap64 (s0_1 + 1)) - 1)) = j_ := ⟨_, rfl⟩
     replace H : (if 0 ≤ (ji9) then (if a1 = 0 then (none) else (some (Int.tmod (wrap64 (rd s0_0 (ji9))) a1, (wrap64 (s0_1 + 1))))) else (none)) = some (r1, r2) := by first | (rw [hji9] at H; exact H) | (simp only [hji9] at H ⊢; exact H)
     (try rw [hji9] at c8b0)
     have hji9w : (IntKind.i64.wrap ((wrap64 (s0_1 + 1)) - 1)) = ji9 := (zar _).trans hji9
     by_cases c10 : 0 ≤ (ji9)
     ·rw [if_pos c10] at H
      have c10b0 : decide (0 ≤ (ji9)) = true := decide_eq_true c10
      clear c10
      by_cases c11 : a1 = 0
      ·rw [if_pos c11] at H
       exact absurd H (by simp)
      ·rw [if_neg c11] at H
       have c11b0 : (a1 == 0) = false := beq_eq_false_iff_ne.mpr c11
       have c11b1 : (a1 != 0) = true := bne_iff_ne.mpr c11
       simp only [Option.some.injEq, Prod.mk.injEq] at H
       obtain ⟨rfl, rfl⟩ := H
       obtain ⟨ASz12_0, cSz12_0, HGz12, hgz12, HSz12_0⟩ := HI0.out
       have hcz12_0 := cellS109_0 HGz12
       have hcz12_1 := cellS109_1 HGz12
       have hfz12_1 := zbb HGz12 1
       clear HGz12 hgz12
       have p104 : 0 ≤ ((ji9) : Int) := of_decide_eq_true (by assumption)
       have q104 : (ji9) < (s0_0.length : Int) := of_decide_eq_true (by assumption)
       obtain ⟨ad104, e104, hx104_0⟩ := Kd.at_int HSz12_0 (ji9) p104 q104
       cases e104
       replace hx104_0 := zau HB.out hx104_0
       replace p104 := eq_true p104
       replace q104 := eq_true q104
       go_wp2
       repeat (go_quiet (fail); try go_wp2)
       go_ret
       exact ⟨by first | rfl | (simp [zan, zam] <;> rfl) | (simp only [← hji9]; first | rfl | (simp [zan, zam] <;> rfl)) | (simp [*, zan, zam] <;> rfl), by repeat (first | (with_reducible first | exact HI0.out | apply zae.alloc | apply zae.drewN | apply zae.drew | apply zae.set_1) | exact HI0.out), by repeat (first | (with_reducible first | exact HB.out | apply zac | apply zab | apply zad | refine zah ?_ (zae.ge HI0.out)) | exact HB.out), by repeat (first | (with_reducible first | exact HK.out | apply zaf.set_ | apply zaj | apply zal | apply zak) | exact HK.out)⟩
     ·rw [if_neg c10] at H
      exact absurd H (by simp)
    ·rw [if_neg c8] at H
     have c8b0 : decide ((wrap64 ((wrap64 (s0_1 + 1)) - 1)) < (s0_0.length : Int)) = false := decide_eq_false c8
     clear c8
     by_cases c13 : (s0_0.length : Int) = 0
     ·rw [if_pos c13] at H
      exact absurd H (by simp)
     ·rw [if_neg c13] at H
      have c13b0 : ((s0_0.length : Int) == 0) = false := beq_eq_false_iff_ne.mpr c13
      have c13b1 : ((s0_0.length : Int) != 0) = true := bne_iff_ne.mpr c13
      have c13b2 : ¬ (s0_0 = []) := fun h_ => c13 (by rw [h_]; rfl)
      obtain ⟨ji14, hji14⟩ : ∃ j_ : Int, (Int.tmod (wrap64 ((wrap64 (s0_1 + 1)) - 1)) (s0_0.length : Int)) = j_ := ⟨_, rfl⟩
      replace H : (if 0 ≤ (ji14) then (if (ji14) < (s0_0.length : Int) then (if 0 ≤ (Int.tmod (wrap64 ((wrap64 ((wrap64 ((wrap64 (s0_1 + 1)) - 1)) * 7)) + 3)) (s0_0.length : Int)) then (if (Int.tmod (wrap64 ((wrap64 ((wrap64 ((wrap64 (s0_1 + 1)) - 1)) * 7)) + 3)) (s0_0.length : Int)) < (s0_0.length : Int) then (if a1 = 0 then (none) else (some (Int.tmod (Go.bits .xor .i64 (wrap64 ((wrap64 ((wrap64 ((wrap64 ((wrap64 (rd s0_0 (ji14))) * 131)) + (wrap64 ((wrap64 (rd s0_0 (Int.tmod (wrap64 ((wrap64 ((wrap64 ((wrap64 (s0_1 + 1)) - 1)) * 7)) + 3)) (s0_0.length : Int)))) * 1117)))) + (wrap64 ((wrap64 ((wrap64 (s0_1 + 1)) - 1)) * 29)))) + (wrap64 ((wrap64 (Int.tdiv (wrap64 ((wrap64 (s0_1 + 1)) - 1)) (s0_0.length : Int))) * 53)))) (wrap64 (Int.tdiv (wrap64 ((wrap64 ((wrap64 ((wrap64 ((wrap64 (rd s0_0 (ji14))) * 131)) + (wrap64 ((wrap64 (rd s0_0 (Int.tmod (wrap64 ((wrap64 ((wrap64 ((wrap64 (s0_1 + 1)) - 1)) * 7)) + 3)) (s0_0.length : Int)))) * 1117)))) + (wrap64 ((wrap64 ((wrap64 (s0_1 + 1)) - 1)) * 29)))) + (wrap64 ((wrap64 (Int.tdiv (wrap64 ((wrap64 (s0_1 + 1)) - 1)) (s0_0.length : Int))) * 53)))) 64))) a1, (wrap64 (s0_1 + 1))))) else (none)) else (none)) else (none)) else (none)) = some (r1, r2) := by first | (rw [hji14] at H; exact H) | (simp only [hji14] at H ⊢; exact H)
      by_cases c15 : 0 ≤ (ji14)
      ·rw [if_pos c15] at H
       have c15b0 : decide (0 ≤ (ji14)) = true := decide_eq_true c15
       clear c15
       by_cases c16 : (ji14) < (s0_0.length : Int)
       ·rw [if_pos c16] at H
        have c16b0 : decide ((ji14) < (s0_0.length : Int)) = true := decide_eq_true c16
        clear c16
        obtain ⟨ji17, hji17⟩ : ∃ j_ : Int, (Int.tmod (wrap64 ((wrap64 ((wrap64 ((wrap64 (s0_1 + 1)) - 1)) * 7)) + 3)) (s0_0.length : Int)) = j_ := ⟨_, rfl⟩
        replace H : (if 0 ≤ (ji17) then (if (ji17) < (s0_0.length : Int) then (if a1 = 0 then (none) else (some (Int.tmod (Go.bits .xor .i64 (wrap64 ((wrap64 ((wrap64 ((wrap64 ((wrap64 (rd s0_0 (ji14))) * 131)) + (wrap64 ((wrap64 (rd s0_0 (ji17))) * 1117)))) + (wrap64 ((wrap64 ((wrap64 (s0_1 + 1)) - 1)) * 29)))) + (wrap64 ((wrap64 (Int.tdiv (wrap64 ((wrap64 (s0_1 + 1)) - 1)) (s0_0.length : Int))) * 53)))) (wrap64 (Int.tdiv (wrap64 ((wrap64 ((wrap64 ((wrap64 ((wrap64 (rd s0_0 (ji14))) * 131)) + (wrap64 ((wrap64 (rd s0_0 (ji17))) * 1117)))) + (wrap64 ((wrap64 ((wrap64 (s0_1 + 1)) - 1)) * 29)))) + (wrap64 ((wrap64 (Int.tdiv (wrap64 ((wrap64 (s0_1 + 1)) - 1)) (s0_0.length : Int))) * 53)))) 64))) a1, (wrap64 (s0_1 + 1))))) else (none)) else (none)) = some (r1, r2) := by first | (rw [hji17] at H; exact H) | (simp only [hji17] at H ⊢; exact H)
        by_cases c18 : 0 ≤ (ji17)
        ·rw [if_pos c18] at H
         have c18b0 : decide (0 ≤ (ji17)) = true := decide_eq_true c18
         clear c18
         by_cases c19 : (ji17) < (s0_0.length : Int)
         ·rw [if_pos c19] at H
          have c19b0 : decide ((ji17) < (s0_0.length : Int)) = true := decide_eq_true c19
          clear c19
          by_cases c20 : a1 = 0
          ·rw [if_pos c20] at H
           exact absurd H (by simp)
          ·rw [if_neg c20] at H
           have c20b0 : (a1 == 0) = false := beq_eq_false_iff_ne.mpr c20
           have c20b1 : (a1 != 0) = true := bne_iff_ne.mpr c20
           simp only [Option.some.injEq, Prod.mk.injEq] at H
           obtain ⟨rfl, rfl⟩ := H
           obtain ⟨ASz21_0, cSz21_0, HGz21, hgz21, HSz21_0⟩ := HI0.out
           have hcz21_0 := cellS109_0 HGz21
           have hcz21_1 := cellS109_1 HGz21
           have hfz21_1 := zbb HGz21 1
           clear HGz21 hgz21
           have p105 : 0 ≤ ((ji14) : Int) := of_decide_eq_true (by assumption)
           have q105 : (ji14) < (s0_0.length : Int) := of_decide_eq_true (by assumption)
           obtain ⟨ad105, e105, hx105_0⟩ := Kd.at_int HSz21_0 (ji14) p105 q105
           cases e105
           replace hx105_0 := zau HB.out hx105_0
           replace p105 := eq_true p105
           replace q105 := eq_true q105
           have p106 : 0 ≤ ((ji17) : Int) := of_decide_eq_true (by assumption)
           have q106 : (ji17) < (s0_0.length : Int) := of_decide_eq_true (by assumption)
           obtain ⟨ad106, e106, hx106_0⟩ := Kd.at_int HSz21_0 (ji17) p106 q106
           obtain rfl : ad105 = ad106 := (by injection e106)
           replace hx106_0 := zau HB.out hx106_0
           replace p106 := eq_true p106
           replace q106 := eq_true q106
           go_wp2
           repeat (go_quiet (fail); try go_wp2)
           go_ret
           exact ⟨by first | rfl | (simp [zan, zam] <;> rfl) | (simp only [← hji14, ← hji17]; first | rfl | (simp [zan, zam] <;> rfl)) | (simp [*, zan, zam] <;> rfl), by repeat (first | (with_reducible first | exact HI0.out | apply zae.alloc | apply zae.drewN | apply zae.drew | apply zae.set_1) | exact HI0.out), by repeat (first | (with_reducible first | exact HB.out | apply zac | apply zab | apply zad | refine zah ?_ (zae.ge HI0.out)) | exact HB.out), by repeat (first | (with_reducible first | exact HK.out | apply zaf.set_ | apply zaj | apply zal | apply zak) | exact HK.out)⟩
         ·rw [if_neg c19] at H
          exact absurd H (by simp)
        ·rw [if_neg c18] at H
         exact absurd H (by simp)
       ·rw [if_neg c16] at H
        exact absurd H (by simp)
      ·rw [if_neg c15] at H
       exact absurd H (by simp)
end Go.Proofs.Ytaepgogafkmooaa.PB
namespace Go.Proofs.Ytaepgogafkmooaa.PB
open Go.RowKit Go.PW.PrintWords Go.PW.PrintLast Go.PW.PrintMore
attribute [local go_sem] zcb zbz max_two min_two zbs zbr zca zby   -- for this text's walks alone
mutual
def spec_l1Rooms.l0 : Nat → List ByteArray → Int → Int → Option (Int)
 | 0, _, _, _ => none
 | k + 1, x0, x3, x4 => if x4 < (x0.length : Int) then (spec_l1Rooms.l1 k x0 x3 x4 0) else (some x3)
def spec_l1Rooms.l1 : Nat → List ByteArray → Int → Int → Int → Option (Int)
 | 0, _, _, _, _ => none
 | k + 1, x0, x3, x4, x5 => if 0 ≤ x4 then (if x4 < (x0.length : Int) then (if x5 < ((rdOf yad x0 x4).size : Int) then (if 0 ≤ x5 then (spec_l1Rooms.l1 k x0 (mx x3 (wrap64 ((wrap64 ((wrap64 (bt (rdOf yad x0 x4) x5)) - 97)) + 1))) x4 (wrap64 (x5 + 1))) else (none)) else (spec_l1Rooms.l0 k x0 x3 (wrap64 (x4 + 1)))) else (none)) else (none)
end
def spec_l1Rooms.f (k : Nat) (l0 : List ByteArray) : Option (Int) := spec_l1Rooms.l0 k l0 0 0
set_option maxHeartbeats 8000000 in
set_option maxRecDepth 100000 in
theorem spec_l1Rooms.calls (k : Nat) (A0 : Option Addr) (c0 : Nat) (l0 : List ByteArray) (r : Int) (w : World) (hr0 : Kd.C Kd.string w A0 l0.length l0) (hc0 : l0.length ≤ c0) (h : spec_l1Rooms.f k l0 = some r) :
  Calls Try.prog 64 #[.slice A0 l0.length c0] w fun e w' => e = .returned (.int .i64 r) ∧ Below w.heap.size w w' := by
 have HR0 := zaa.mk hr0
 have HC0 := zaa.mk hc0
 clear hr0 hc0
 have HB := zaa.mk (Below.refl w.heap.size w)
 have H : (spec_l1Rooms.l0 k l0 0 0) = some r := h
 clear h
 have H' := zaa.mk H
 clear H
 go_enter Try.func64, Try.ntmps64
 go_wp2
 go_loopg [3, 4] k (fun kq v3 v4 w' => ∃ (x3_1 : Int) (x4_1 : Int), v3 = .int .i64 x3_1 ∧ v4 = .int .i64 x4_1 ∧ zaa (spec_l1Rooms.l0 kq l0 x3_1 x4_1 = some r) ∧ zaa (kq ≤ k) ∧ zaa (Below w.heap.size w w'))
 case atStart => exact ⟨(0), (0), (by first | rfl | (simp; done) | (simp [*]; done)), (by first | rfl | (simp; done) | (simp [*]; done)), H', ⟨yag _⟩, ⟨by repeat (first | (with_reducible first | exact HB.out | apply zac | apply zab | apply zad) | exact HB.out)⟩⟩
 case round =>
  clear H'
  obtain ⟨x3_1, x4_1, rfl, rfl, HA, HK1, HB⟩ := hrel
  cases gk with
  | zero => exact absurd HA.out (by simp [spec_l1Rooms.l0])
  | succ k1 =>
   have H := HA.out
   clear HA
   simp only [spec_l1Rooms.l0] at H
   by_cases c2 : x4_1 < (l0.length : Int)
   ·rw [if_pos c2] at H
    have c2b0 : decide (x4_1 < (l0.length : Int)) = true := decide_eq_true c2
    clear c2
    have H' := zaa.mk H
    clear H
    go_wp2
    go_loopg [3, 5] k1 (fun kq v3 v5 w' => ∃ (x3_2 : Int) (x5_2 : Int), v3 = .int .i64 x3_2 ∧ v5 = .int .i64 x5_2 ∧ zaa (spec_l1Rooms.l1 kq l0 x3_2 x4_1 x5_2 = some r) ∧ zaa (kq ≤ k1) ∧ zaa (Below w.heap.size w w'))
    case atStart => exact ⟨(x3_1), (0), (by first | rfl | (simp; done) | (simp [*]; done)), (by first | rfl | (simp; done) | (simp [*]; done)), H', ⟨yag _⟩, ⟨by repeat (first | (with_reducible first | exact HB.out | apply zac | apply zab | apply zad) | exact HB.out)⟩⟩
    case round =>
     clear H'
     try clear c2
     try clear c2b0
     try clear p2
     obtain ⟨x3_2, x5_2, rfl, rfl, HA, HK2, HB⟩ := hrel
     cases gk with
     | zero => exact absurd HA.out (by simp [spec_l1Rooms.l1])
     | succ k2 =>
      have H := HA.out
      clear HA
      simp only [spec_l1Rooms.l1] at H
      by_cases c3 : 0 ≤ x4_1
      ·rw [if_pos c3] at H
       have c3b0 : decide (0 ≤ x4_1) = true := decide_eq_true c3
       clear c3
       by_cases c4 : x4_1 < (l0.length : Int)
       ·rw [if_pos c4] at H
        have c4b0 : decide (x4_1 < (l0.length : Int)) = true := decide_eq_true c4
        clear c4
        by_cases c5 : x5_2 < ((rdOf yad l0 x4_1).size : Int)
        ·rw [if_pos c5] at H
         have c5b0 : decide (x5_2 < ((rdOf yad l0 x4_1).size : Int)) = true := decide_eq_true c5
         clear c5
         by_cases c6 : 0 ≤ x5_2
         ·rw [if_pos c6] at H
          have c6b0 : decide (0 ≤ x5_2) = true := decide_eq_true c6
          clear c6
          obtain ⟨ji8, hji8⟩ : ∃ j_ : Int, (mx x3_2 (wrap64 ((wrap64 ((wrap64 (bt (rdOf yad l0 x4_1) x5_2)) - 97)) + 1))) = j_ := ⟨_, rfl⟩
          replace H : (spec_l1Rooms.l1 k2 l0 ji8 x4_1 (wrap64 (x5_2 + 1))) = some r := by first | (rw [hji8] at H; exact H) | (simp only [hji8] at H ⊢; exact H)
          have hji8_ : (if x3_2 < (wrap64 ((wrap64 ((wrap64 (bt (rdOf yad l0 x4_1) x5_2)) - 97)) + 1)) then (wrap64 ((wrap64 ((wrap64 (bt (rdOf yad l0 x4_1) x5_2)) - 97)) + 1)) else x3_2) = ji8 := hji8
          have H' := zaa.mk H
          clear H
          have p107 : 0 ≤ (x4_1 : Int) := of_decide_eq_true (by assumption)
          have q107 : x4_1 < (l0.length : Int) := of_decide_eq_true (by assumption)
          obtain ⟨ad107, e107, hx107_0⟩ := Kd.at_string HR0.out x4_1 p107 q107
          cases e107
          replace hx107_0 := (HB.out.cell (World.block_lt_of_cell? w _ hx107_0)).trans hx107_0
          replace p107 := eq_true p107
          replace q107 := eq_true q107
          have p108 : 0 ≤ (x4_1 : Int) := of_decide_eq_true (by assumption)
          have q108 : x4_1 < (l0.length : Int) := of_decide_eq_true (by assumption)
          obtain ⟨ad108, e108, hx108_0⟩ := Kd.at_string HR0.out x4_1 p108 q108
          obtain rfl : ad107 = ad108 := (by injection e108)
          replace hx108_0 := (HB.out.cell (World.block_lt_of_cell? w _ hx108_0)).trans hx108_0
          replace p108 := eq_true p108
          replace q108 := eq_true q108
          have p7 : 0 ≤ (x5_2 : Int) := of_decide_eq_true (by assumption)
          have q7 : x5_2 < ((rdOf yad l0 x4_1).size : Int) := of_decide_eq_true (by assumption)
          have hx7 := bt_at (rdOf yad l0 x4_1) x5_2
          replace p7 := eq_true p7
          replace q7 := eq_true q7
          go_wp2
          go_roundg k2
          case measure => have := HK1.out; have := HK2.out; omega
          case rel => exact ⟨(ji8), (wrap64 (x5_2 + 1)), (by first | rfl | (simp; done) | (simp only [← hji8] <;> (first | rfl | simp)) | (simp [*]; done)), (by first | rfl | (simp; done) | (simp [*]; done)), H', ⟨by have := HK1.out; have := HK2.out; omega⟩, ⟨by repeat (first | (with_reducible first | exact HB.out | apply zac | apply zab | apply zad) | exact HB.out)⟩⟩
         ·rw [if_neg c6] at H
          exact absurd H (by simp)
        ·rw [if_neg c5] at H
         have c5b0 : decide (x5_2 < ((rdOf yad l0 x4_1).size : Int)) = false := decide_eq_false c5
         clear c5
         have H' := zaa.mk H
         clear H
         have p107 : 0 ≤ (x4_1 : Int) := of_decide_eq_true (by assumption)
         have q107 : x4_1 < (l0.length : Int) := of_decide_eq_true (by assumption)
         obtain ⟨ad107, e107, hx107_0⟩ := Kd.at_string HR0.out x4_1 p107 q107
         cases e107
         replace hx107_0 := (HB.out.cell (World.block_lt_of_cell? w _ hx107_0)).trans hx107_0
         replace p107 := eq_true p107
         replace q107 := eq_true q107
         go_wp2
         go_roundg k2
         case measure => have := HK1.out; have := HK2.out; omega
         case rel => exact ⟨(x3_2), (wrap64 (x4_1 + 1)), (by first | rfl | (simp; done) | (simp [*]; done)), (by first | rfl | (simp; done) | (simp [*]; done)), H', ⟨by have := HK1.out; have := HK2.out; omega⟩, ⟨by repeat (first | (with_reducible first | exact HB.out | apply zac | apply zab | apply zad) | exact HB.out)⟩⟩
       ·rw [if_neg c4] at H
        exact absurd H (by simp)
      ·rw [if_neg c3] at H
       exact absurd H (by simp)
   ·rw [if_neg c2] at H
    have c2b0 : decide (x4_1 < (l0.length : Int)) = false := decide_eq_false c2
    clear c2
    obtain rfl := Option.some.inj H
    go_wp2
    go_ret
    exact ⟨by first | rfl | (simp [zan, zam] <;> rfl) | (simp [*, zan, zam] <;> rfl), by repeat (first | (with_reducible first | exact HB.out | apply zac | apply zab | apply zad) | exact HB.out)⟩
end Go.Proofs.Ytaepgogafkmooaa.PB
namespace Go.Proofs.Ytaepgogafkmooaa.PB
open Go.RowKit Go.PW.PrintWords Go.PW.PrintLast Go.PW.PrintMore
attribute [local go_sem] zcb zbz max_two min_two zbs zbr zca zby   -- for this text's walks alone
mutual
def spec_l1Trans.l0 : Nat → List ByteArray → List ByteArray → Int → Option (List ByteArray)
 | 0, _, _, _ => none
 | k + 1, x0, x3, x4 => if 0 < (x0.length : Int) then (if x4 < ((rdOf yad x0 0).size : Int) then (spec_l1Trans.l1 k x0 x3 x4 (([] : List Int)) 0) else (some x3)) else (none)
def spec_l1Trans.l1 : Nat → List ByteArray → List ByteArray → Int → List Int → Int → Option (List ByteArray)
 | 0, _, _, _, _, _ => none
 | k + 1, x0, x3, x4, x5, x6 => if x6 < (x0.length : Int) then (if 0 ≤ x6 then (if 0 ≤ x4 then (if x4 < ((rdOf yad x0 x6).size : Int) then (if x5.length < 140737488355328 then (spec_l1Trans.l1 k x0 x3 x4 (x5 ++ [bt (rdOf yad x0 x6) x4]) (wrap64 (x6 + 1))) else (none)) else (none)) else (none)) else (none)) else (if x3.length < 8796093022208 then (spec_l1Trans.l0 k x0 (x3 ++ [strOfNums x5]) (wrap64 (x4 + 1))) else (none))
end
def spec_l1Trans.f (k : Nat) (l0 : List ByteArray) : Option (List ByteArray) := spec_l1Trans.l0 k l0 (([] : List ByteArray)) 0
set_option maxHeartbeats 8000000 in
set_option maxRecDepth 100000 in
theorem spec_l1Trans.calls (k : Nat) (A0 : Option Addr) (c0 : Nat) (l0 : List ByteArray) (r : List ByteArray) (w : World) (hr0 : Kd.C Kd.string w A0 l0.length l0) (hc0 : l0.length ≤ c0) (h : spec_l1Trans.f k l0 = some r) :
  Calls Try.prog 86 #[.slice A0 l0.length c0] w fun e w' => ∃ v0_ : Value, e = .returned (v0_) ∧ Kd.R Kd.string 9 w' w.heap.size (fun _ => True) v0_ r ∧ Below w.heap.size w w' := by
 have HR0 := zaa.mk hr0
 have HC0 := zaa.mk hc0
 clear hr0 hc0
 have HB := zaa.mk (Below.refl w.heap.size w)
 have H : (spec_l1Trans.l0 k l0 (([] : List ByteArray)) 0) = some r := h
 clear h
 obtain ⟨y242, hy242⟩ : ∃ y_ : List ByteArray, y_ = (([] : List ByteArray)) := ⟨_, rfl⟩
 replace H : (spec_l1Trans.l0 k l0 y242 0) = some r := by first | (rw [hy242]; with_reducible exact H) | (have H2_ := (yaf _ _).symm.trans H; rw [hy242]; with_reducible exact H2_) | (have H2_ := (yaf _ _).symm.trans H; with_reducible exact H2_) | with_reducible exact H | (rw [hy242]; exact H) | exact H
 have Ny242 := zaa.mk hy242
 clear hy242
 have H' := zaa.mk H
 clear H
 go_enter Try.func86, Try.ntmps86
 go_wp2_with (first | ((with_reducible refine zbc (N := 7) rfl ?_); refine Kd.R_lit Kd.string _ 9 ?hg (N := 7) ?hd (xs := ([] : List ByteArray)) (inner := []) (ok := fun _ => True) (okp := fun _ => True) ?hr ?hp (fun _ hk => hk) trivial (Below.refl _ _) (yag _) (by simp) ?_; (case hd => rfl); (case hg => rfl); (case hr => first | (go_simp; done) | (go_simp; rfl)); (case hp => exact (Reps.none _ _)); intro v243 w2 ho3 hb hg_ hnew_; clear hg_ hnew_; (first | rw [← Ny242.out] at ho3 | (simp only [Int.reduceToNat] at ho3; rw [← Ny242.out] at ho3)); have n0_ := zaa.mk (Kd.R_lower ho3 (zai (by repeat (first | (with_reducible first | exact HB.out | apply zac | apply zab | apply zad) | exact HB.out)))); have n1_ := zaa.mk (zag (by repeat (first | (with_reducible first | exact HB.out | apply zac | apply zab | apply zad) | exact HB.out)) hb); clear HB; have HO244 := n0_; have HB := n1_; clear n0_ n1_; clear hb ho3))
 go_loopg [3, 4] k (fun kq v3 v4 w' => ∃ (x3_1 : List ByteArray) (x4_1 : Int), v4 = .int .i64 x4_1 ∧ zaa (spec_l1Trans.l0 kq l0 x3_1 x4_1 = some r) ∧ zaa (kq ≤ k) ∧ zaa (Kd.R Kd.string 9 w' w.heap.size (fun _ => True) v3 x3_1) ∧ zaa (Below w.heap.size w w'))
 case atStart => exact ⟨(y242), (0), (by first | rfl | (simp; done) | (simp [*]; done)), H', ⟨yag _⟩, ⟨by (with_reducible repeat (first | apply yah | apply yai | apply yaj)); exact HO244.out⟩, ⟨by repeat (first | (with_reducible first | exact HB.out | apply zac | apply zab | apply zad) | exact HB.out)⟩⟩
 case round =>
  clear H'
  try clear p2
  obtain ⟨x3_1, x4_1, rfl, HA, HK1, HO_3, HB⟩ := hrel
  cases gk with
  | zero => exact absurd HA.out (by simp [spec_l1Trans.l0])
  | succ k1 =>
   have H := HA.out
   clear HA
   simp only [spec_l1Trans.l0] at H
   by_cases c4 : 0 < (l0.length : Int)
   ·rw [if_pos c4] at H
    have c4b0 : decide (0 < (l0.length : Int)) = true := decide_eq_true c4
    have c4b1 : decide (0 < l0.length) = true := decide_eq_true (by omega)
    clear c4
    by_cases c5 : x4_1 < ((rdOf yad l0 0).size : Int)
    ·rw [if_pos c5] at H
     have c5b0 : decide (x4_1 < ((rdOf yad l0 0).size : Int)) = true := decide_eq_true c5
     clear c5
     obtain ⟨y246, hy246⟩ : ∃ y_ : List Int, y_ = (([] : List Int)) := ⟨_, rfl⟩
     replace H : (spec_l1Trans.l1 k1 l0 x3_1 x4_1 y246 0) = some r := by first | (rw [hy246]; with_reducible exact H) | (have H2_ := (yaf _ _).symm.trans H; rw [hy246]; with_reducible exact H2_) | (have H2_ := (yaf _ _).symm.trans H; with_reducible exact H2_) | with_reducible exact H | (rw [hy246]; exact H) | exact H
     have Ny246 := zaa.mk hy246
     clear hy246
     have H' := zaa.mk H
     clear H
     have p245 : 0 ≤ (0 : Int) := (by omega)
     have q245 : 0 < (l0.length : Int) := of_decide_eq_true (by assumption)
     obtain ⟨ad245, e245, hx245_0⟩ := Kd.at_string HR0.out 0 p245 q245
     cases e245
     have qi245 : (0 < l0.length) = True := eq_true (by omega)
     (try rw [show ((0 : Int)).toNat = 0 from rfl] at hx245_0)
     (try rw [Addr.add_zero'] at hx245_0)
     replace hx245_0 := (HB.out.cell (World.block_lt_of_cell? w _ hx245_0)).trans hx245_0
     replace p245 := eq_true p245
     replace q245 := eq_true q245
     go_wp2_with (first | ((with_reducible refine zbc (N := 16) rfl ?_); refine Kd.R_lit (Kd.int .u8) _ 5 ?hg (N := 16) ?hd (xs := ([] : List Int)) (inner := []) (ok := fun _ => True) (okp := fun _ => True) ?hr ?hp (fun _ hk => hk) trivial (Below.refl _ _) (yag _) (by simp) ?_; (case hd => rfl); (case hg => rfl); (case hr => first | (go_simp; done) | (go_simp; rfl)); (case hp => exact (Reps.none _ _)); intro v247 w6 ho7 hb hg_ hnew_; clear hg_ hnew_; (first | rw [← Ny246.out] at ho7 | (simp only [Int.reduceToNat] at ho7; rw [← Ny246.out] at ho7)); have n0_ := zaa.mk (Kd.R_below (by (with_reducible repeat (first | apply yah | apply yai | apply yaj)); exact HO_3.out) hb); have n1_ := zaa.mk (Kd.R_lower ho7 (zai (by repeat (first | (with_reducible first | exact HB.out | apply zac | apply zab | apply zad) | exact HB.out)))); have n2_ := zaa.mk (zag (by repeat (first | (with_reducible first | exact HB.out | apply zac | apply zab | apply zad) | exact HB.out)) hb); clear HO_3; clear HB; have HO_3 := n0_; have HO248 := n1_; have HB := n2_; clear n0_ n1_ n2_; clear hb ho7))
     go_loopg [5, 6] k1 (fun kq v5 v6 w' => ∃ (x5_2 : List Int) (x6_2 : Int), v6 = .int .i64 x6_2 ∧ zaa (spec_l1Trans.l1 kq l0 x3_1 x4_1 x5_2 x6_2 = some r) ∧ zaa (kq ≤ k1) ∧ zaa (Kd.R Kd.string 9 w' w.heap.size (fun _ => True) u3 x3_1) ∧ zaa (Kd.R (Kd.int .u8) 5 w' w.heap.size (fun _ => True) v5 x5_2) ∧ zaa (Below w.heap.size w w'))
     case atStart => exact ⟨(y246), (0), (by first | rfl | (simp; done) | (simp [*]; done)), H', ⟨yag _⟩, ⟨by (with_reducible repeat (first | apply yah | apply yai | apply yaj)); exact HO_3.out⟩, ⟨by (with_reducible repeat (first | apply yah | apply yai | apply yaj)); exact HO248.out⟩, ⟨by repeat (first | (with_reducible first | exact HB.out | apply zac | apply zab | apply zad) | exact HB.out)⟩⟩
     case round =>
      clear H'
      try clear p2
      try clear q2
      try clear hx2
      try clear qi2
      try clear c4
      try clear c4b0
      try clear c4b1
      try clear c5
      try clear c5b0
      try clear hx245_0
      try clear p2
      try clear p245
      try clear q245
      obtain ⟨x5_2, x6_2, rfl, HA, HK2, HO_3, HO_5, HB⟩ := hrel
      cases gk with
      | zero => exact absurd HA.out (by simp [spec_l1Trans.l1])
      | succ k2 =>
       have H := HA.out
       clear HA
       simp only [spec_l1Trans.l1] at H
       by_cases c8 : x6_2 < (l0.length : Int)
       ·rw [if_pos c8] at H
        have c8b0 : decide (x6_2 < (l0.length : Int)) = true := decide_eq_true c8
        clear c8
        by_cases c9 : 0 ≤ x6_2
        ·rw [if_pos c9] at H
         have c9b0 : decide (0 ≤ x6_2) = true := decide_eq_true c9
         clear c9
         by_cases c10 : 0 ≤ x4_1
         ·rw [if_pos c10] at H
          have c10b0 : decide (0 ≤ x4_1) = true := decide_eq_true c10
          clear c10
          by_cases c11 : x4_1 < ((rdOf yad l0 x6_2).size : Int)
          ·rw [if_pos c11] at H
           have c11b0 : decide (x4_1 < ((rdOf yad l0 x6_2).size : Int)) = true := decide_eq_true c11
           clear c11
           by_cases c13 : x5_2.length < 140737488355328
           ·rw [if_pos c13] at H
            have LMc13 := zaa.mk c13
            clear c13
            obtain ⟨y250, hy250⟩ : ∃ y_ : List Int, y_ = (x5_2 ++ [bt (rdOf yad l0 x6_2) x4_1]) := ⟨_, rfl⟩
            replace H : (spec_l1Trans.l1 k2 l0 x3_1 x4_1 y250 (wrap64 (x6_2 + 1))) = some r := by first | (rw [hy250]; with_reducible exact H) | (have H2_ := (yaf _ _).symm.trans H; rw [hy250]; with_reducible exact H2_) | (have H2_ := (yaf _ _).symm.trans H; with_reducible exact H2_) | with_reducible exact H | (rw [hy250]; exact H) | exact H
            have Ny250 := zaa.mk hy250
            clear hy250
            have H' := zaa.mk H
            clear H
            have p249 : 0 ≤ (x6_2 : Int) := of_decide_eq_true (by assumption)
            have q249 : x6_2 < (l0.length : Int) := of_decide_eq_true (by assumption)
            obtain ⟨ad249, e249, hx249_0⟩ := Kd.at_string HR0.out x6_2 p249 q249
            obtain rfl : ad245 = ad249 := (by injection e249)
            replace hx249_0 := (HB.out.cell (World.block_lt_of_cell? w _ hx249_0)).trans hx249_0
            replace p249 := eq_true p249
            replace q249 := eq_true q249
            have p12 : 0 ≤ (x4_1 : Int) := of_decide_eq_true (by assumption)
            have q12 : x4_1 < ((rdOf yad l0 x6_2).size : Int) := of_decide_eq_true (by assumption)
            have hx12 := bt_at (rdOf yad l0 x6_2) x4_1
            replace p12 := eq_true p12
            replace q12 := eq_true q12
            go_wp2_with (first | ((with_reducible refine zay (b := .append) (xs := #[.tmp 23, .tmp 30]) rfl ?_); at_builtin; refine Kd.R_append (Kd.int .u8) (w0 := w) w.heap.size rfl (.tmp 23) (.tmp 30) 22 5 (.int .u8 0) 1 rfl Try.underlying22 info5 rfl (by decide) (by omega) u5 x5_2 (bt (rdOf yad l0 x6_2) x4_1) [.int .u8 (bt (rdOf yad l0 x6_2) x4_1)] (fun _ => True) (fun _ => False) rfl rfl ?aP (fun _ hk => hk.elim) ?aF ?aO ?aB ?aS ?aL ?_; (case aP => exact rfl); (case aB => exact (by repeat (first | (with_reducible first | exact HB.out | apply zac | apply zab | apply zad) | exact HB.out))); (case aF => exact (fun _ _ => trivial)); (case aO => exact (by (with_reducible repeat (first | apply yah | apply yai | apply yaj)); exact HO_5.out)); (case aS => exact (zai (by repeat (first | (with_reducible first | exact HB.out | apply zac | apply zab | apply zad) | exact HB.out)))); (case aL => have := LMc13.out; omega); intro v251 w14 ho hb hg hat; rw [← Ny250.out] at ho; have n0_ := zaa.mk (Kd.R_over' (by (with_reducible repeat (first | apply yah | apply yai | apply yaj)); exact HO_3.out) (Kd.R_typed (by (with_reducible repeat (first | apply yah | apply yai | apply yaj)); exact HO_5.out)) (by decide) hg); have n1_ := zaa.mk (hb); have n2_ := zaa.mk (ho); clear HO_3; clear HB; clear HO_5; have HO_3 := n0_; have HB := n1_; have HO252 := n2_; clear n0_ n1_ n2_; clear ho hb hg hat))
            go_roundg k2
            case measure => have := HK1.out; have := HK2.out; omega
            case rel => exact ⟨(y250), (wrap64 (x6_2 + 1)), (by first | rfl | (simp; done) | (simp [*]; done)), H', ⟨by have := HK1.out; have := HK2.out; omega⟩, ⟨by (with_reducible repeat (first | apply yah | apply yai | apply yaj)); exact HO_3.out⟩, ⟨by (with_reducible repeat (first | apply yah | apply yai | apply yaj)); exact HO252.out⟩, ⟨by repeat (first | (with_reducible first | exact HB.out | apply zac | apply zab | apply zad) | exact HB.out)⟩⟩
           ·rw [if_neg c13] at H
            exact absurd H (by simp)
          ·rw [if_neg c11] at H
           exact absurd H (by simp)
         ·rw [if_neg c10] at H
          exact absurd H (by simp)
        ·rw [if_neg c9] at H
         exact absurd H (by simp)
       ·rw [if_neg c8] at H
        have c8b0 : decide (x6_2 < (l0.length : Int)) = false := decide_eq_false c8
        clear c8
        by_cases c15 : x3_1.length < 8796093022208
        ·rw [if_pos c15] at H
         have LMc15 := zaa.mk c15
         clear c15
         obtain ⟨y253, hy253⟩ : ∃ y_ : List ByteArray, y_ = (x3_1 ++ [strOfNums x5_2]) := ⟨_, rfl⟩
         replace H : (spec_l1Trans.l0 k2 l0 y253 (wrap64 (x4_1 + 1))) = some r := by first | (rw [hy253]; with_reducible exact H) | (have H2_ := (yaf _ _).symm.trans H; rw [hy253]; with_reducible exact H2_) | (have H2_ := (yaf _ _).symm.trans H; with_reducible exact H2_) | with_reducible exact H | (rw [hy253]; exact H) | exact H
         have Ny253 := zaa.mk hy253
         clear hy253
         have H' := zaa.mk H
         clear H
         have hcv16 := own_string (P := Try.prog) Try.underlying22 Try.underlying5 Try.underlying9 (Kd.own_of_R HO_5.out)
         go_wp2_with (first | ((with_reducible refine zay (b := .append) (xs := #[.tmp 32, .tmp 35]) rfl ?_); at_builtin; refine Kd.R_append Kd.string (w0 := w) w.heap.size rfl (.tmp 32) (.tmp 35) 23 9 (.string ⟨#[]⟩) 16 rfl Try.underlying23 info9 rfl (by decide) (by omega) u3 x3_1 (strOfNums x5_2) [.string (strOfNums x5_2)] (fun _ => True) (fun _ => False) rfl rfl ?aP (fun _ hk => hk.elim) ?aF ?aO ?aB ?aS ?aL ?_; (case aP => exact rfl); (case aB => exact (by repeat (first | (with_reducible first | exact HB.out | apply zac | apply zab | apply zad) | exact HB.out))); (case aF => exact (fun _ _ => trivial)); (case aO => exact (by (with_reducible repeat (first | apply yah | apply yai | apply yaj)); exact HO_3.out)); (case aS => exact (zai (by repeat (first | (with_reducible first | exact HB.out | apply zac | apply zab | apply zad) | exact HB.out)))); (case aL => have := LMc15.out; omega); intro v254 w17 ho hb hg hat; rw [← Ny253.out] at ho; have n0_ := zaa.mk (Kd.R_over' (by (with_reducible repeat (first | apply yah | apply yai | apply yaj)); exact HO_5.out) (Kd.R_typed (by (with_reducible repeat (first | apply yah | apply yai | apply yaj)); exact HO_3.out)) (by decide) hg); have n1_ := zaa.mk (hb); have n2_ := zaa.mk (ho); clear HO_5; clear HB; clear HO_3; have HO_5 := n0_; have HB := n1_; have HO255 := n2_; clear n0_ n1_ n2_; clear ho hb hg hat))
         go_roundg k2
         case measure => have := HK1.out; have := HK2.out; omega
         case rel => exact ⟨(y253), (wrap64 (x4_1 + 1)), (by first | rfl | (simp; done) | (simp [*]; done)), H', ⟨by have := HK1.out; have := HK2.out; omega⟩, ⟨by (with_reducible repeat (first | apply yah | apply yai | apply yaj)); exact HO255.out⟩, ⟨by repeat (first | (with_reducible first | exact HB.out | apply zac | apply zab | apply zad) | exact HB.out)⟩⟩
        ·rw [if_neg c15] at H
         exact absurd H (by simp)
    ·rw [if_neg c5] at H
     have c5b0 : decide (x4_1 < ((rdOf yad l0 0).size : Int)) = false := decide_eq_false c5
     clear c5
     obtain rfl := Option.some.inj H
     have p245 : 0 ≤ (0 : Int) := (by omega)
     have q245 : 0 < (l0.length : Int) := of_decide_eq_true (by assumption)
     obtain ⟨ad245, e245, hx245_0⟩ := Kd.at_string HR0.out 0 p245 q245
     cases e245
     have qi245 : (0 < l0.length) = True := eq_true (by omega)
     (try rw [show ((0 : Int)).toNat = 0 from rfl] at hx245_0)
     (try rw [Addr.add_zero'] at hx245_0)
     replace hx245_0 := (HB.out.cell (World.block_lt_of_cell? w _ hx245_0)).trans hx245_0
     replace p245 := eq_true p245
     replace q245 := eq_true q245
     go_wp2
     go_ret
     exact ⟨_, by first | rfl | (simp [zan, zam] <;> rfl) | (simp [*, zan, zam] <;> rfl), by (with_reducible repeat (first | apply yah | apply yai | apply yaj)); exact HO_3.out, by repeat (first | (with_reducible first | exact HB.out | apply zac | apply zab | apply zad) | exact HB.out)⟩
   ·rw [if_neg c4] at H
    exact absurd H (by simp)
end Go.Proofs.Ytaepgogafkmooaa.PB
namespace Go.Proofs.Ytaepgogafkmooaa.PB
open Go.RowKit Go.PW.PrintWords Go.PW.PrintLast Go.PW.PrintMore
attribute [local go_sem] zcb zbz max_two min_two zbs zbr zca zby   -- for this text's walks alone
def zaz (w0 W : World) (g : Nat) (f0 : List (List Int)) (f1 : List (S131)) : Prop := ∃ A0 c0, ∃ A1 c1, W.heap[g]? = some (.cells #[.slice A0 f0.length c0, .slice A1 f1.length c1] 68 (0, 0)) ∧ w0.heap[g]? = some (.cells #[.slice A0 f0.length c0, .slice A1 f1.length c1] 68 (0, 0)) ∧ Kd.C (Kd.slice 3 (Kd.int .i64)) w0 A0 f0.length f0 ∧ Kd.C k131 w0 A1 f1.length f1
theorem zaz.grown {w0 W : World} {g : Nat} {f0 : List (List Int)} {f1 : List (S131)} {W1 : World} {row : Option Nat} (h : zaz w0 W g f0 f1) (hw : W.grownBy W1 row) (hne : some g ≠ row) : zaz w0 W1 g f0 f1 := by
 obtain ⟨A0, c0, A1, c1, hb, hg, hr0, hr1⟩ := h
 exact ⟨A0, c0, A1, c1, blk_grown hb hw hne, hg, hr0, hr1⟩
theorem zaz.fresh {w0 W : World} {g : Nat} {f0 : List (List Int)} {f1 : List (S131)} (h : zaz w0 W g f0 f1) : ∀ k, W.heap.size ≤ k → k ≠ g := by
 obtain ⟨A0, c0, A1, c1, hb, hg, hr0, hr1⟩ := h
 exact Kd.freshB hb
theorem zaz.kept {w0 W : World} {g : Nat} {f0 : List (List Int)} {f1 : List (S131)} {W1 : World} {S : Nat → Prop} (h : zaz w0 W g f0 f1) (hk : Kept W W1 S) (hne : ¬ S g) : zaz w0 W1 g f0 f1 := by
 obtain ⟨A0, c0, A1, c1, hb, hg, hr0, hr1⟩ := h
 exact ⟨A0, c0, A1, c1, blk_kept hb hk hne, hg, hr0, hr1⟩
theorem zaz.below {w0 W : World} {g : Nat} {f0 : List (List Int)} {f1 : List (S131)} {W1 : World} (h : zaz w0 W g f0 f1) (hw : Below W.heap.size W W1) : zaz w0 W1 g f0 f1 := h.grown (grown_of_below hw none) (by simp)
theorem zaz.alloc {w0 W : World} {g : Nat} {f0 : List (List Int)} {f1 : List (S131)} (h : zaz w0 W g f0 f1) (o : Obj) : zaz w0 (W.alloc o) g f0 f1 := h.below (zac (Below.refl _ _) o)
theorem zaz.drewN {w0 W : World} {g : Nat} {f0 : List (List Int)} {f1 : List (S131)} (h : zaz w0 W g f0 f1) (m : Nat) : zaz w0 (W.drewN m) g f0 f1 := h
theorem zaz.drew {w0 W : World} {g : Nat} {f0 : List (List Int)} {f1 : List (S131)} (h : zaz w0 W g f0 f1) : zaz w0 W.drew g f0 f1 := h
theorem zaz.at_ {w0 W : World} {g : Nat} {f0 : List (List Int)} {f1 : List (S131)} {w' : World} {m : Nat} (hq : W.drewN m = w') (h : zaz w0 W g f0 f1) : zaz w0 w' g f0 f1 := by subst hq; exact zaz.drewN h m
theorem zaz.apart {w0 W : World} {g : Nat} {f0 : List (List Int)} {f1 : List (S131)} {α : Type} {d : Kd α} {e : Nat} {base : Nat} {ok : Nat → Prop} {v : Value} {xs : List α} (h : zaz w0 W g f0 f1) (ho : d.R e W base ok v xs) (ht : ∀ q, q ∈ e :: d.E → q ≠ 68) : d.R e W base (fun k => ok k ∧ k ≠ g) v xs := by
 obtain ⟨A0, c0, A1, c1, hb, hg, hr0, hr1⟩ := h
 exact Kd.R_types ho hb ht
theorem zaz.own_ne {w0 W : World} {g : Nat} {f0 : List (List Int)} {f1 : List (S131)} {α : Type} {d : Kd α} {e : Nat} {base : Nat} {ok : Nat → Prop} {v : Value} {xs : List α} (h : zaz w0 W g f0 f1) (ho : d.R e W base ok v xs) (ht : e ≠ 68) : some g ≠ v.ownBlock := by
 obtain ⟨A0, c0, A1, c1, hb, hg, hr0, hr1⟩ := h
 exact Kd.R_ne ho hb ht
theorem zaz.apartS {w0 W : World} {g : Nat} {f0 : List (List Int)} {f1 : List (S131)} {α : Type} {d : Kd α} {e : Nat} {base : Nat} {ok : Nat → Prop} {v : Value} {xs : List α} (h : zaz w0 W g f0 f1) (ho : d.S e W base ok v xs) (ht : ∀ q, q ∈ e :: d.E → q ≠ 68) : d.S e W base (fun k => ok k ∧ k ≠ g) v xs := by
 obtain ⟨A0, c0, A1, c1, hb, hg, hr0, hr1⟩ := h
 exact Kd.S_types ho hb ht
theorem zaz.lt {w0 W : World} {g : Nat} {f0 : List (List Int)} {f1 : List (S131)} (h : zaz w0 W g f0 f1) : g < W.heap.size := by
 obtain ⟨A0, c0, A1, c1, hb, hg, hr0, hr1⟩ := h
 exact blk_lt hb
theorem cellS68_0 {W : World} {g : Nat} {A0 : Option Addr} {c0 : Nat} {A1 : Option Addr} {c1 : Nat} {f0 : List (List Int)} {f1 : List (S131)} (h : W.heap[g]? = some (.cells #[.slice A0 f0.length c0, .slice A1 f1.length c1] 68 (0, 0))) : W.cell? ⟨g, 0, none⟩ = some (.slice A0 f0.length c0) := (zax h 0).trans rfl
theorem cellS68_1 {W : World} {g : Nat} {A0 : Option Addr} {c0 : Nat} {A1 : Option Addr} {c1 : Nat} {f0 : List (List Int)} {f1 : List (S131)} (h : W.heap[g]? = some (.cells #[.slice A0 f0.length c0, .slice A1 f1.length c1] 68 (0, 0))) : W.cell? ⟨g, 1, none⟩ = some (.slice A1 f1.length c1) := (zax h 1).trans rfl
def impl_floor_high.f (s0_0 : List (List Int)) (s0_1 : List (S131)) : Option (Int) := some (s0_0.length : Int)
set_option maxHeartbeats 8000000 in
set_option maxRecDepth 100000 in
theorem impl_floor_high.calls (g : Nat) (s0_0 : List (List Int)) (s0_1 : List (S131)) (r : Int) (w0 w : World) (hI : zaz w0 w g s0_0 s0_1) (hB : Below w0.heap.size w0 w) (h : impl_floor_high.f s0_0 s0_1 = some r) :
  Calls Try.prog 69 #[.pointer (some ⟨g, 0, none⟩)] w fun e w' => e = .returned (.int .i64 r) ∧ zaz w0 w' g s0_0 s0_1 ∧ Below w0.heap.size w0 w' ∧ zaf w w' g none := by
 have HI0 := zaa.mk hI
 have HK := zaa.mk (zaf.refl w g none)
 have HL := zaa.mk hB.size
 clear hI
 have HW0 := zaa.mk hB.size
 have HB := zaa.mk hB
 clear hB
 have H : (some (s0_0.length : Int)) = some r := h
 clear h
 obtain rfl := Option.some.inj H
 obtain ⟨ASz2_0, cSz2_0, ASz2_1, cSz2_1, HGz2, hgz2, HSz2_0, HSz2_1⟩ := HI0.out
 have hcz2_0 := cellS68_0 HGz2
 have hcz2_1 := cellS68_1 HGz2
 clear HGz2 hgz2
 go_enter Try.func69, Try.ntmps69
 go_wp2
 go_ret
 exact ⟨by first | rfl | (simp [zan, zam] <;> rfl) | (simp [*, zan, zam] <;> rfl), by repeat (first | (with_reducible first | exact HI0.out | apply zaz.alloc | apply zaz.drewN | apply zaz.drew) | exact HI0.out), by repeat (first | (with_reducible first | exact HB.out | apply zac | apply zab | apply zad | refine zah ?_ (zaz.ge HI0.out)) | exact HB.out), by repeat (first | (with_reducible first | exact HK.out | apply zaf.set_ | apply zaj | apply zal | apply zak) | exact HK.out)⟩
def impl_floor_wide.f (s0_0 : List (List Int)) (s0_1 : List (S131)) : Option (Int) := if 0 < (s0_0.length : Int) then (some ((zbo s0_0 0).length : Int)) else (none)
set_option maxHeartbeats 8000000 in
set_option maxRecDepth 100000 in
theorem impl_floor_wide.calls (g : Nat) (s0_0 : List (List Int)) (s0_1 : List (S131)) (r : Int) (w0 w : World) (hI : zaz w0 w g s0_0 s0_1) (hB : Below w0.heap.size w0 w) (h : impl_floor_wide.f s0_0 s0_1 = some r) :
  Calls Try.prog 70 #[.pointer (some ⟨g, 0, none⟩)] w fun e w' => e = .returned (.int .i64 r) ∧ zaz w0 w' g s0_0 s0_1 ∧ Below w0.heap.size w0 w' ∧ zaf w w' g none := by
 have HI0 := zaa.mk hI
 have HK := zaa.mk (zaf.refl w g none)
 have HL := zaa.mk hB.size
 clear hI
 have HW0 := zaa.mk hB.size
 have HB := zaa.mk hB
 clear hB
 have H : (if 0 < (s0_0.length : Int) then (some ((zbo s0_0 0).length : Int)) else (none)) = some r := h
 clear h
 by_cases c2 : 0 < (s0_0.length : Int)
 ·rw [if_pos c2] at H
  have c2b0 : decide (0 < (s0_0.length : Int)) = true := decide_eq_true c2
  have c2b1 : decide (0 < s0_0.length) = true := decide_eq_true (by omega)
  clear c2
  obtain rfl := Option.some.inj H
  obtain ⟨ASz3_0, cSz3_0, ASz3_1, cSz3_1, HGz3, hgz3, HSz3_0, HSz3_1⟩ := HI0.out
  have hcz3_0 := cellS68_0 HGz3
  have hcz3_1 := cellS68_1 HGz3
  clear HGz3 hgz3
  have p275 : 0 ≤ (0 : Int) := (by omega)
  have q275 : 0 < (s0_0.length : Int) := of_decide_eq_true (by assumption)
  obtain ⟨ad275, A275_0, c275_0, e275, hx275_0, hl275_0, hi275_0⟩ := at_L3 HSz3_0 0 p275 q275
  cases e275
  have qi275 : (0 < s0_0.length) = True := eq_true (by omega)
  (try rw [show ((0 : Int)).toNat = 0 from rfl] at hx275_0)
  (try rw [Addr.add_zero'] at hx275_0)
  replace hx275_0 := zau HB.out hx275_0
  have HR275_0 := zaa.mk hi275_0
  have HC275_0 := zaa.mk hl275_0
  clear hi275_0 hl275_0
  replace p275 := eq_true p275
  replace q275 := eq_true q275
  go_enter Try.func70, Try.ntmps70
  go_wp2
  go_ret
  exact ⟨by first | rfl | (simp [zan, zam] <;> rfl) | (simp [*, zan, zam] <;> rfl), by repeat (first | (with_reducible first | exact HI0.out | apply zaz.alloc | apply zaz.drewN | apply zaz.drew) | exact HI0.out), by repeat (first | (with_reducible first | exact HB.out | apply zac | apply zab | apply zad | refine zah ?_ (zaz.ge HI0.out)) | exact HB.out), by repeat (first | (with_reducible first | exact HK.out | apply zaf.set_ | apply zaj | apply zal | apply zak) | exact HK.out)⟩
 ·rw [if_neg c2] at H
  exact absurd H (by simp)
def impl_rect_area.f (a0_0 : Int) (a0_1 : Int) (a0_2 : Int) (a0_3 : Int) : Option (Int) := some (wrap64 (a0_2 * a0_3))
set_option maxHeartbeats 8000000 in
set_option maxRecDepth 100000 in
theorem impl_rect_area.calls (a0_0 : Int) (a0_1 : Int) (a0_2 : Int) (a0_3 : Int) (r : Int) (w : World) (h : impl_rect_area.f a0_0 a0_1 a0_2 a0_3 = some r) :
  Calls Try.prog 142 #[.agg #[.int .i64 a0_0, .int .i64 a0_1, .int .i64 a0_2, .int .i64 a0_3]] w fun e w' => e = .returned (.int .i64 r) ∧ Below w.heap.size w w' := by
 have hu131 := Try.underlying131
 have HB := zaa.mk (Below.refl w.heap.size w)
 have H : (some (wrap64 (a0_2 * a0_3))) = some r := h
 clear h
 obtain rfl := Option.some.inj H
 go_enter Try.func142, Try.ntmps142
 go_wp2_with (first | ((with_reducible refine zbc (N := 1) rfl ?_); refine zcl ?hg (N := 1) ?hd (cs := #[.int .i64 a0_0, .int .i64 a0_1, .int .i64 a0_2, .int .i64 a0_3]) (t := 131) ?hr ?_; (case hd => rfl); (case hg => rfl); (case hr => first | (go_simp; done) | (go_simp; rfl)); intro gb276 hg w2 hbox hb; have n0_ := zaa.mk (zag (by repeat (first | (with_reducible first | exact HB.out | apply zac | apply zab | apply zad) | exact HB.out)) hb); have n1_ := zaa.mk (hbox); have n2_ := zaa.mk ((by rw [hg]; exact (zai (by repeat (first | (with_reducible first | exact HB.out | apply zac | apply zab | apply zad) | exact HB.out))) : w.heap.size ≤ gb276)); have n3_ := zaa.mk ((by rw [hg]; exact (zai (by repeat (first | (with_reducible first | exact HB.out | apply zac | apply zab | apply zad) | exact HB.out))) : w.heap.size ≤ gb276)); clear HB; have HB := n0_; have BK276 := n1_; have GW276 := n2_; have GE276 := n3_; clear n0_ n1_ n2_ n3_; clear hb hbox hg; have hcz3_0 : w2.cell? ⟨gb276, 0, none⟩ = some (.int .i64 a0_0) := (zax BK276.out 0).trans rfl; have hcz3_1 : w2.cell? ⟨gb276, 1, none⟩ = some (.int .i64 a0_1) := (zax BK276.out 1).trans rfl; have hcz3_2 : w2.cell? ⟨gb276, 2, none⟩ = some (.int .i64 a0_2) := (zax BK276.out 2).trans rfl; have hcz3_3 : w2.cell? ⟨gb276, 3, none⟩ = some (.int .i64 a0_3) := (zax BK276.out 3).trans rfl; have hfz3_0 := zbb BK276.out 0; have hfz3_1 := zbb BK276.out 1; have hfz3_2 := zbb BK276.out 2; have hfz3_3 := zbb BK276.out 3))
 go_ret
 exact ⟨by first | rfl | (simp [zan, zam] <;> rfl) | (simp [*, zan, zam] <;> rfl), by repeat (first | (with_reducible first | exact HB.out | apply zac | apply zab | apply zad | refine zah ?_ GE276.out) | exact HB.out)⟩
end Go.Proofs.Ytaepgogafkmooaa.PB
namespace Go.Proofs.Ytaepgogafkmooaa.PB
open Go.RowKit Go.PW.PrintWords Go.PW.PrintLast Go.PW.PrintMore
attribute [local go_sem] zcb zbz max_two min_two zbs zbr zca zby   -- for this text's walks alone
def slices_Equal_string_string.l0 : Nat → List ByteArray → List ByteArray → Int → Int → Option (Bool)
 | 0, _, _, _, _ => none
 | k + 1, x0, x1, x12, x13 => if x13 < x12 then (if 0 ≤ x13 then (if x13 < (x0.length : Int) then (if x13 < (x1.length : Int) then (if (rdOf yad x0 x13).toList = (rdOf yad x1 x13).toList then (slices_Equal_string_string.l0 k x0 x1 x12 (wrap64 (x13 + 1))) else (some false)) else (none)) else (none)) else (none)) else (some true)
def slices_Equal_string_string.f (k : Nat) (l0 : List ByteArray) (l1 : List ByteArray) : Option (Bool) := if (l0.length : Int) = (l1.length : Int) then (slices_Equal_string_string.l0 k l0 l1 (l0.length : Int) 0) else (some false)
set_option maxHeartbeats 8000000 in
set_option maxRecDepth 100000 in
theorem slices_Equal_string_string.calls (k : Nat) (A0 : Option Addr) (c0 : Nat) (l0 : List ByteArray) (A1 : Option Addr) (c1 : Nat) (l1 : List ByteArray) (r : Bool) (w : World) (hr0 : Kd.C Kd.string w A0 l0.length l0) (hc0 : l0.length ≤ c0) (hr1 : Kd.C Kd.string w A1 l1.length l1) (hc1 : l1.length ≤ c1) (h : slices_Equal_string_string.f k l0 l1 = some r) :
  Calls Try.prog 118 #[.slice A0 l0.length c0, .slice A1 l1.length c1] w fun e w' => e = .returned (.bool r) ∧ zbe w w' := by
 have HR0 := zaa.mk hr0
 have HC0 := zaa.mk hc0
 clear hr0 hc0
 have HR1 := zaa.mk hr1
 have HC1 := zaa.mk hc1
 clear hr1 hc1
 have H : (if (l0.length : Int) = (l1.length : Int) then (slices_Equal_string_string.l0 k l0 l1 (l0.length : Int) 0) else (some false)) = some r := h
 clear h
 by_cases c3 : (l0.length : Int) = (l1.length : Int)
 ·rw [if_pos c3] at H
  have c3b0 : ((l0.length : Int) == (l1.length : Int)) = true := beq_iff_eq.mpr c3
  have c3b1 : ((l0.length : Int) != (l1.length : Int)) = false := bne_eq_false_iff_eq.mpr c3
  have c3b2 : (l0.length == l1.length) = true := by first | simpa using c3 | (simp at c3 ⊢; omega)
  clear c3
  have H' := zaa.mk H
  clear H
  go_enter Try.func118, Try.ntmps118
  go_wp2
  repeat (go_quiet (fail); try go_wp2)
  go_loopg [13] k (fun kq v13 w' => ∃ (x13_1 : Int), v13 = .int .i64 x13_1 ∧ zaa (slices_Equal_string_string.l0 kq l0 l1 (l0.length : Int) x13_1 = some r) ∧ zaa (kq ≤ k) ∧ zbe w w')
  case atStart => exact ⟨(0), (by first | rfl | (simp; done) | (simp [*]; done)), H', ⟨yag _⟩, by repeat (first | exact zbe.refl _ | apply zbe.step)⟩
  case round =>
   clear H'
   try clear c1
   try clear p2
   try clear c3
   try clear c3b0
   try clear c3b1
   try clear c3b2
   obtain ⟨x13_1, rfl, HA, HK1, ⟨m1, rfl⟩⟩ := hrel
   cases gk with
   | zero => exact absurd HA.out (by simp [slices_Equal_string_string.l0])
   | succ k1 =>
    have H := HA.out
    clear HA
    simp only [slices_Equal_string_string.l0] at H
    by_cases c4 : x13_1 < (l0.length : Int)
    ·rw [if_pos c4] at H
     have c4b0 : decide (x13_1 < (l0.length : Int)) = true := decide_eq_true c4
     clear c4
     by_cases c5 : 0 ≤ x13_1
     ·rw [if_pos c5] at H
      have c5b0 : decide (0 ≤ x13_1) = true := decide_eq_true c5
      clear c5
      by_cases c6 : x13_1 < (l0.length : Int)
      ·rw [if_pos c6] at H
       have c6b0 : decide (x13_1 < (l0.length : Int)) = true := decide_eq_true c6
       clear c6
       by_cases c7 : x13_1 < (l1.length : Int)
       ·rw [if_pos c7] at H
        have c7b0 : decide (x13_1 < (l1.length : Int)) = true := decide_eq_true c7
        clear c7
        by_cases c8 : (rdOf yad l0 x13_1).toList = (rdOf yad l1 x13_1).toList
        ·rw [if_pos c8] at H
         have c8b0 : ((rdOf yad l0 x13_1).toList == (rdOf yad l1 x13_1).toList) = true := beq_iff_eq.mpr c8
         have c8b1 : ((rdOf yad l0 x13_1).toList != (rdOf yad l1 x13_1).toList) = false := bne_eq_false_iff_eq.mpr c8
         clear c8
         have H' := zaa.mk H
         clear H
         have p277 : 0 ≤ (x13_1 : Int) := of_decide_eq_true (by assumption)
         have q277 : x13_1 < (l0.length : Int) := of_decide_eq_true (by assumption)
         obtain ⟨ad277, e277, hx277_0⟩ := Kd.at_string HR0.out x13_1 p277 q277
         cases e277
         replace p277 := eq_true p277
         replace q277 := eq_true q277
         have p278 : 0 ≤ (x13_1 : Int) := of_decide_eq_true (by assumption)
         have q278 : x13_1 < (l1.length : Int) := of_decide_eq_true (by assumption)
         obtain ⟨ad278, e278, hx278_0⟩ := Kd.at_string HR1.out x13_1 p278 q278
         cases e278
         replace p278 := eq_true p278
         replace q278 := eq_true q278
         go_wp2
         repeat (go_quiet (fail); try go_wp2)
         go_roundg k1
         case measure => have := HK1.out; omega
         case rel => exact ⟨(wrap64 (x13_1 + 1)), (by first | rfl | (simp; done) | (simp [*]; done)), H', ⟨by have := HK1.out; omega⟩, by repeat (first | exact zbe.refl _ | apply zbe.step)⟩
        ·rw [if_neg c8] at H
         have c8b0 : ((rdOf yad l0 x13_1).toList == (rdOf yad l1 x13_1).toList) = false := beq_eq_false_iff_ne.mpr c8
         have c8b1 : ((rdOf yad l0 x13_1).toList != (rdOf yad l1 x13_1).toList) = true := bne_iff_ne.mpr c8
         obtain rfl := Option.some.inj H
         have p277 : 0 ≤ (x13_1 : Int) := of_decide_eq_true (by assumption)
         have q277 : x13_1 < (l0.length : Int) := of_decide_eq_true (by assumption)
         obtain ⟨ad277, e277, hx277_0⟩ := Kd.at_string HR0.out x13_1 p277 q277
         cases e277
         replace p277 := eq_true p277
         replace q277 := eq_true q277
         have p278 : 0 ≤ (x13_1 : Int) := of_decide_eq_true (by assumption)
         have q278 : x13_1 < (l1.length : Int) := of_decide_eq_true (by assumption)
         obtain ⟨ad278, e278, hx278_0⟩ := Kd.at_string HR1.out x13_1 p278 q278
         cases e278
         replace p278 := eq_true p278
         replace q278 := eq_true q278
         go_wp2
         repeat (go_quiet (fail); try go_wp2)
         go_ret
         exact ⟨by first | rfl | (simp; done) | (simp [*]; done), by repeat (first | exact zbe.refl _ | apply zbe.step)⟩
       ·rw [if_neg c7] at H
        exact absurd H (by simp)
      ·rw [if_neg c6] at H
       exact absurd H (by simp)
     ·rw [if_neg c5] at H
      exact absurd H (by simp)
    ·rw [if_neg c4] at H
     have c4b0 : decide (x13_1 < (l0.length : Int)) = false := decide_eq_false c4
     clear c4
     obtain rfl := Option.some.inj H
     go_wp2
     repeat (go_quiet (fail); try go_wp2)
     go_ret
     exact ⟨by first | rfl | (simp; done) | (simp [*]; done), by repeat (first | exact zbe.refl _ | apply zbe.step)⟩
 ·rw [if_neg c3] at H
  have c3b0 : ((l0.length : Int) == (l1.length : Int)) = false := beq_eq_false_iff_ne.mpr c3
  have c3b1 : ((l0.length : Int) != (l1.length : Int)) = true := bne_iff_ne.mpr c3
  have c3b2 : (l0.length == l1.length) = false := by first | simpa using c3 | (simp at c3 ⊢; omega)
  obtain rfl := Option.some.inj H
  go_enter Try.func118, Try.ntmps118
  go_wp2
  repeat (go_quiet (fail); try go_wp2)
  go_ret
  exact ⟨by first | rfl | (simp; done) | (simp [*]; done), by repeat (first | exact zbe.refl _ | apply zbe.step)⟩
def impl_floor_has.f (s0_0 : List (List Int)) (s0_1 : List (S131)) (a1 : Int) : Option (Bool) := if a1 ≥ 0 then (some (decide (a1 < (s0_1.length : Int)))) else (some false)
set_option maxHeartbeats 8000000 in
set_option maxRecDepth 100000 in
theorem impl_floor_has.calls (g : Nat) (s0_0 : List (List Int)) (s0_1 : List (S131)) (a1 : Int) (r : Bool) (w0 w : World) (hI : zaz w0 w g s0_0 s0_1) (hB : Below w0.heap.size w0 w) (h : impl_floor_has.f s0_0 s0_1 a1 = some r) :
  Calls Try.prog 67 #[.pointer (some ⟨g, 0, none⟩), .int .i64 a1] w fun e w' => e = .returned (.bool r) ∧ zaz w0 w' g s0_0 s0_1 ∧ Below w0.heap.size w0 w' ∧ zaf w w' g none := by
 have HI0 := zaa.mk hI
 have HK := zaa.mk (zaf.refl w g none)
 have HL := zaa.mk hB.size
 clear hI
 have HW0 := zaa.mk hB.size
 have HB := zaa.mk hB
 clear hB
 have H : (if a1 ≥ 0 then (some (decide (a1 < (s0_1.length : Int)))) else (some false)) = some r := h
 clear h
 by_cases c3 : a1 ≥ 0
 ·rw [if_pos c3] at H
  have c3b0 : decide (0 ≤ a1) = true := decide_eq_true c3
  clear c3
  obtain rfl := Option.some.inj H
  obtain ⟨ASz4_0, cSz4_0, ASz4_1, cSz4_1, HGz4, hgz4, HSz4_0, HSz4_1⟩ := HI0.out
  have hcz4_0 := cellS68_0 HGz4
  have hcz4_1 := cellS68_1 HGz4
  clear HGz4 hgz4
  go_enter Try.func67, Try.ntmps67
  go_wp2
  go_ret
  exact ⟨by first | rfl | (simp [zan, zam] <;> rfl) | (simp [*, zan, zam] <;> rfl), by repeat (first | (with_reducible first | exact HI0.out | apply zaz.alloc | apply zaz.drewN | apply zaz.drew) | exact HI0.out), by repeat (first | (with_reducible first | exact HB.out | apply zac | apply zab | apply zad | refine zah ?_ (zaz.ge HI0.out)) | exact HB.out), by repeat (first | (with_reducible first | exact HK.out | apply zaf.set_ | apply zaj | apply zal | apply zak) | exact HK.out)⟩
 ·rw [if_neg c3] at H
  have c3b0 : decide (0 ≤ a1) = false := decide_eq_false c3
  clear c3
  obtain rfl := Option.some.inj H
  go_enter Try.func67, Try.ntmps67
  go_wp2
  go_ret
  exact ⟨by first | rfl | (simp [zan, zam] <;> rfl) | (simp [*, zan, zam] <;> rfl), by repeat (first | (with_reducible first | exact HI0.out | apply zaz.alloc | apply zaz.drewN | apply zaz.drew) | exact HI0.out), by repeat (first | (with_reducible first | exact HB.out | apply zac | apply zab | apply zad | refine zah ?_ (zaz.ge HI0.out)) | exact HB.out), by repeat (first | (with_reducible first | exact HK.out | apply zaf.set_ | apply zaj | apply zal | apply zak) | exact HK.out)⟩
end Go.Proofs.Ytaepgogafkmooaa.PB
namespace Go.Proofs.Ytaepgogafkmooaa.PB
open Go.RowKit Go.PW.PrintWords Go.PW.PrintLast Go.PW.PrintMore
attribute [local go_sem] zcb zbz max_two min_two zbs zbr zca zby   -- for this text's walks alone
def impl_floor_sides.f (s0_0 : List (List Int)) (s0_1 : List (S131)) (a1 : Bool) (a2 : Int) (a3 : Int) : Option (Int × Int) := if a1 = true then (if 0 ≤ (wrap64 (a2 - 1)) then (if (wrap64 (a2 - 1)) < (s0_0.length : Int) then (if 0 ≤ a3 then (if a3 < ((zbo s0_0 (wrap64 (a2 - 1))).length : Int) then (if 0 ≤ a2 then (if a2 < (s0_0.length : Int) then (if a3 < ((zbo s0_0 a2).length : Int) then (some (rd (zbo s0_0 (wrap64 (a2 - 1))) a3, rd (zbo s0_0 a2) a3)) else (none)) else (none)) else (none)) else (none)) else (none)) else (none)) else (none)) else (if 0 ≤ a3 then (if a3 < (s0_0.length : Int) then (if 0 ≤ (wrap64 (a2 - 1)) then (if (wrap64 (a2 - 1)) < ((zbo s0_0 a3).length : Int) then (if 0 ≤ a2 then (if a2 < ((zbo s0_0 a3).length : Int) then (some (rd (zbo s0_0 a3) (wrap64 (a2 - 1)), rd (zbo s0_0 a3) a2)) else (none)) else (none)) else (none)) else (none)) else (none)) else (none))
set_option maxHeartbeats 8000000 in
set_option maxRecDepth 100000 in
theorem impl_floor_sides.calls (g : Nat) (s0_0 : List (List Int)) (s0_1 : List (S131)) (a1 : Bool) (a2 : Int) (a3 : Int) (r1 : Int) (r2 : Int) (w0 w : World) (hI : zaz w0 w g s0_0 s0_1) (hB : Below w0.heap.size w0 w) (h : impl_floor_sides.f s0_0 s0_1 a1 a2 a3 = some (r1, r2)) :
  Calls Try.prog 127 #[.pointer (some ⟨g, 0, none⟩), .bool a1, .int .i64 a2, .int .i64 a3] w fun e w' => e = .returned (.tuple #[.int .i64 r1, .int .i64 r2]) ∧ zaz w0 w' g s0_0 s0_1 ∧ Below w0.heap.size w0 w' ∧ zaf w w' g none := by
 have HI0 := zaa.mk hI
 have HK := zaa.mk (zaf.refl w g none)
 have HL := zaa.mk hB.size
 clear hI
 have HW0 := zaa.mk hB.size
 have HB := zaa.mk hB
 clear hB
 have H : (if a1 = true then (if 0 ≤ (wrap64 (a2 - 1)) then (if (wrap64 (a2 - 1)) < (s0_0.length : Int) then (if 0 ≤ a3 then (if a3 < ((zbo s0_0 (wrap64 (a2 - 1))).length : Int) then (if 0 ≤ a2 then (if a2 < (s0_0.length : Int) then (if a3 < ((zbo s0_0 a2).length : Int) then (some (rd (zbo s0_0 (wrap64 (a2 - 1))) a3, rd (zbo s0_0 a2) a3)) else (none)) else (none)) else (none)) else (none)) else (none)) else (none)) else (none)) else (if 0 ≤ a3 then (if a3 < (s0_0.length : Int) then (if 0 ≤ (wrap64 (a2 - 1)) then (if (wrap64 (a2 - 1)) < ((zbo s0_0 a3).length : Int) then (if 0 ≤ a2 then (if a2 < ((zbo s0_0 a3).length : Int) then (some (rd (zbo s0_0 a3) (wrap64 (a2 - 1)), rd (zbo s0_0 a3) a2)) else (none)) else (none)) else (none)) else (none)) else (none)) else (none))) = some (r1, r2) := h
 clear h
 by_cases c5 : a1 = true
 ·subst c5
  have H1 : (if 0 ≤ (wrap64 (a2 - 1)) then (if (wrap64 (a2 - 1)) < (s0_0.length : Int) then (if 0 ≤ a3 then (if a3 < ((zbo s0_0 (wrap64 (a2 - 1))).length : Int) then (if 0 ≤ a2 then (if a2 < (s0_0.length : Int) then (if a3 < ((zbo s0_0 a2).length : Int) then (some (rd (zbo s0_0 (wrap64 (a2 - 1))) a3, rd (zbo s0_0 a2) a3)) else (none)) else (none)) else (none)) else (none)) else (none)) else (none)) else (none)) = some (r1, r2) := by rw [if_pos rfl] at H; exact H
  clear H
  have H := H1
  clear H1
  obtain ⟨ji6, hji6⟩ : ∃ j_ : Int, (wrap64 (a2 - 1)) = j_ := ⟨_, rfl⟩
  replace H : (if 0 ≤ (ji6) then (if (ji6) < (s0_0.length : Int) then (if 0 ≤ a3 then (if a3 < ((zbo s0_0 (ji6)).length : Int) then (if 0 ≤ a2 then (if a2 < (s0_0.length : Int) then (if a3 < ((zbo s0_0 a2).length : Int) then (some (rd (zbo s0_0 (ji6)) a3, rd (zbo s0_0 a2) a3)) else (none)) else (none)) else (none)) else (none)) else (none)) else (none)) else (none)) = some (r1, r2) := by first | (rw [hji6] at H; exact H) | (simp only [hji6] at H ⊢; exact H)
  have hji6w : (IntKind.i64.wrap (a2 - 1)) = ji6 := (zar _).trans hji6
  by_cases c7 : 0 ≤ (ji6)
  ·rw [if_pos c7] at H
   have c7b0 : decide (0 ≤ (ji6)) = true := decide_eq_true c7
   clear c7
   by_cases c8 : (ji6) < (s0_0.length : Int)
   ·rw [if_pos c8] at H
    have c8b0 : decide ((ji6) < (s0_0.length : Int)) = true := decide_eq_true c8
    clear c8
    by_cases c9 : 0 ≤ a3
    ·rw [if_pos c9] at H
     have c9b0 : decide (0 ≤ a3) = true := decide_eq_true c9
     clear c9
     by_cases c10 : a3 < ((zbo s0_0 (ji6)).length : Int)
     ·rw [if_pos c10] at H
      have c10b0 : decide (a3 < ((zbo s0_0 (ji6)).length : Int)) = true := decide_eq_true c10
      clear c10
      by_cases c11 : 0 ≤ a2
      ·rw [if_pos c11] at H
       have c11b0 : decide (0 ≤ a2) = true := decide_eq_true c11
       clear c11
       by_cases c12 : a2 < (s0_0.length : Int)
       ·rw [if_pos c12] at H
        have c12b0 : decide (a2 < (s0_0.length : Int)) = true := decide_eq_true c12
        clear c12
        by_cases c13 : a3 < ((zbo s0_0 a2).length : Int)
        ·rw [if_pos c13] at H
         have c13b0 : decide (a3 < ((zbo s0_0 a2).length : Int)) = true := decide_eq_true c13
         clear c13
         simp only [Option.some.injEq, Prod.mk.injEq] at H
         obtain ⟨rfl, rfl⟩ := H
         obtain ⟨ASz14_0, cSz14_0, ASz14_1, cSz14_1, HGz14, hgz14, HSz14_0, HSz14_1⟩ := HI0.out
         have hcz14_0 := cellS68_0 HGz14
         have hcz14_1 := cellS68_1 HGz14
         clear HGz14 hgz14
         have p296 : 0 ≤ ((ji6) : Int) := of_decide_eq_true (by assumption)
         have q296 : (ji6) < (s0_0.length : Int) := of_decide_eq_true (by assumption)
         obtain ⟨ad296, A296_0, c296_0, e296, hx296_0, hl296_0, hi296_0⟩ := at_L3 HSz14_0 (ji6) p296 q296
         cases e296
         replace hx296_0 := zau HB.out hx296_0
         have HR296_0 := zaa.mk hi296_0
         have HC296_0 := zaa.mk hl296_0
         clear hi296_0 hl296_0
         replace p296 := eq_true p296
         replace q296 := eq_true q296
         have p297 : 0 ≤ (a3 : Int) := of_decide_eq_true (by assumption)
         have q297 : a3 < ((zbo s0_0 (ji6)).length : Int) := of_decide_eq_true (by assumption)
         obtain ⟨ad297, e297, hx297_0⟩ := Kd.at_int HR296_0.out a3 p297 q297
         cases e297
         first | (replace hx297_0 := zau HB.out hx297_0) | (replace hx297_0 := keep_cell HK.out hx297_0 (by first | (rw [add_block]; exact hf296_0 _ rfl (by omega)) | exact hf296_0 _ rfl (by omega) | exact hf296_0 ad297 rfl (by omega)))
         replace p297 := eq_true p297
         replace q297 := eq_true q297
         have p298 : 0 ≤ (a2 : Int) := of_decide_eq_true (by assumption)
         have q298 : a2 < (s0_0.length : Int) := of_decide_eq_true (by assumption)
         obtain ⟨ad298, A298_0, c298_0, e298, hx298_0, hl298_0, hi298_0⟩ := at_L3 HSz14_0 a2 p298 q298
         obtain rfl : ad296 = ad298 := (by injection e298)
         replace hx298_0 := zau HB.out hx298_0
         have HR298_0 := zaa.mk hi298_0
         have HC298_0 := zaa.mk hl298_0
         clear hi298_0 hl298_0
         replace p298 := eq_true p298
         replace q298 := eq_true q298
         have p299 : 0 ≤ (a3 : Int) := of_decide_eq_true (by assumption)
         have q299 : a3 < ((zbo s0_0 a2).length : Int) := of_decide_eq_true (by assumption)
         obtain ⟨ad299, e299, hx299_0⟩ := Kd.at_int HR298_0.out a3 p299 q299
         cases e299
         first | (replace hx299_0 := zau HB.out hx299_0) | (replace hx299_0 := keep_cell HK.out hx299_0 (by first | (rw [add_block]; exact hf298_0 _ rfl (by omega)) | exact hf298_0 _ rfl (by omega) | exact hf298_0 ad299 rfl (by omega)))
         replace p299 := eq_true p299
         replace q299 := eq_true q299
         go_enter Try.func127, Try.ntmps127
         go_wp2
         repeat (go_quiet (fail); try go_wp2)
         go_ret2
         exact ⟨by first | rfl | (simp [zan, zam] <;> rfl) | (simp only [← hji6]; first | rfl | (simp [zan, zam] <;> rfl)) | (simp [*, zan, zam] <;> rfl), by repeat (first | (with_reducible first | exact HI0.out | apply zaz.alloc | apply zaz.drewN | apply zaz.drew) | exact HI0.out), by repeat (first | (with_reducible first | exact HB.out | apply zac | apply zab | apply zad | refine zah ?_ (zaz.ge HI0.out)) | exact HB.out), by repeat (first | (with_reducible first | exact HK.out | apply zaf.set_ | apply zaj | apply zal | apply zak) | exact HK.out)⟩
        ·rw [if_neg c13] at H
         exact absurd H (by simp)
       ·rw [if_neg c12] at H
        exact absurd H (by simp)
      ·rw [if_neg c11] at H
       exact absurd H (by simp)
     ·rw [if_neg c10] at H
      exact absurd H (by simp)
    ·rw [if_neg c9] at H
     exact absurd H (by simp)
   ·rw [if_neg c8] at H
    exact absurd H (by simp)
  ·rw [if_neg c7] at H
   exact absurd H (by simp)
 ·replace c5 := Bool.eq_false_iff.mpr c5
  subst c5
  have H1 : (if 0 ≤ a3 then (if a3 < (s0_0.length : Int) then (if 0 ≤ (wrap64 (a2 - 1)) then (if (wrap64 (a2 - 1)) < ((zbo s0_0 a3).length : Int) then (if 0 ≤ a2 then (if a2 < ((zbo s0_0 a3).length : Int) then (some (rd (zbo s0_0 a3) (wrap64 (a2 - 1)), rd (zbo s0_0 a3) a2)) else (none)) else (none)) else (none)) else (none)) else (none)) else (none)) = some (r1, r2) := by rw [if_neg (show ¬ (false = true) by decide)] at H; exact H
  clear H
  have H := H1
  clear H1
  by_cases c15 : 0 ≤ a3
  ·rw [if_pos c15] at H
   have c15b0 : decide (0 ≤ a3) = true := decide_eq_true c15
   clear c15
   by_cases c16 : a3 < (s0_0.length : Int)
   ·rw [if_pos c16] at H
    have c16b0 : decide (a3 < (s0_0.length : Int)) = true := decide_eq_true c16
    clear c16
    obtain ⟨ji17, hji17⟩ : ∃ j_ : Int, (wrap64 (a2 - 1)) = j_ := ⟨_, rfl⟩
    replace H : (if 0 ≤ (ji17) then (if (ji17) < ((zbo s0_0 a3).length : Int) then (if 0 ≤ a2 then (if a2 < ((zbo s0_0 a3).length : Int) then (some (rd (zbo s0_0 a3) (ji17), rd (zbo s0_0 a3) a2)) else (none)) else (none)) else (none)) else (none)) = some (r1, r2) := by first | (rw [hji17] at H; exact H) | (simp only [hji17] at H ⊢; exact H)
    have hji17w : (IntKind.i64.wrap (a2 - 1)) = ji17 := (zar _).trans hji17
    by_cases c18 : 0 ≤ (ji17)
    ·rw [if_pos c18] at H
     have c18b0 : decide (0 ≤ (ji17)) = true := decide_eq_true c18
     clear c18
     by_cases c19 : (ji17) < ((zbo s0_0 a3).length : Int)
     ·rw [if_pos c19] at H
      have c19b0 : decide ((ji17) < ((zbo s0_0 a3).length : Int)) = true := decide_eq_true c19
      clear c19
      by_cases c20 : 0 ≤ a2
      ·rw [if_pos c20] at H
       have c20b0 : decide (0 ≤ a2) = true := decide_eq_true c20
       clear c20
       by_cases c21 : a2 < ((zbo s0_0 a3).length : Int)
       ·rw [if_pos c21] at H
        have c21b0 : decide (a2 < ((zbo s0_0 a3).length : Int)) = true := decide_eq_true c21
        clear c21
        simp only [Option.some.injEq, Prod.mk.injEq] at H
        obtain ⟨rfl, rfl⟩ := H
        obtain ⟨ASz22_0, cSz22_0, ASz22_1, cSz22_1, HGz22, hgz22, HSz22_0, HSz22_1⟩ := HI0.out
        have hcz22_0 := cellS68_0 HGz22
        have hcz22_1 := cellS68_1 HGz22
        clear HGz22 hgz22
        have p300 : 0 ≤ (a3 : Int) := of_decide_eq_true (by assumption)
        have q300 : a3 < (s0_0.length : Int) := of_decide_eq_true (by assumption)
        obtain ⟨ad300, A300_0, c300_0, e300, hx300_0, hl300_0, hi300_0⟩ := at_L3 HSz22_0 a3 p300 q300
        cases e300
        replace hx300_0 := zau HB.out hx300_0
        have HR300_0 := zaa.mk hi300_0
        have HC300_0 := zaa.mk hl300_0
        clear hi300_0 hl300_0
        replace p300 := eq_true p300
        replace q300 := eq_true q300
        have p301 : 0 ≤ ((ji17) : Int) := of_decide_eq_true (by assumption)
        have q301 : (ji17) < ((zbo s0_0 a3).length : Int) := of_decide_eq_true (by assumption)
        obtain ⟨ad301, e301, hx301_0⟩ := Kd.at_int HR300_0.out (ji17) p301 q301
        cases e301
        first | (replace hx301_0 := zau HB.out hx301_0) | (replace hx301_0 := keep_cell HK.out hx301_0 (by first | (rw [add_block]; exact hf300_0 _ rfl (by omega)) | exact hf300_0 _ rfl (by omega) | exact hf300_0 ad301 rfl (by omega)))
        replace p301 := eq_true p301
        replace q301 := eq_true q301
        have p302 : 0 ≤ (a3 : Int) := of_decide_eq_true (by assumption)
        have q302 : a3 < (s0_0.length : Int) := of_decide_eq_true (by assumption)
        obtain ⟨ad302, A302_0, c302_0, e302, hx302_0, hl302_0, hi302_0⟩ := at_L3 HSz22_0 a3 p302 q302
        obtain rfl : ad300 = ad302 := (by injection e302)
        replace hx302_0 := zau HB.out hx302_0
        try (have e_ := Option.some.inj (hx300_0.symm.trans hx302_0); injection e_ with e1_ e2_ e3_; subst e1_; subst e3_)
        have HR302_0 := zaa.mk hi302_0
        have HC302_0 := zaa.mk hl302_0
        clear hi302_0 hl302_0
        replace p302 := eq_true p302
        replace q302 := eq_true q302
        have p303 : 0 ≤ (a2 : Int) := of_decide_eq_true (by assumption)
        have q303 : a2 < ((zbo s0_0 a3).length : Int) := of_decide_eq_true (by assumption)
        obtain ⟨ad303, e303, hx303_0⟩ := Kd.at_int HR302_0.out a2 p303 q303
        cases e303
        first | (replace hx303_0 := zau HB.out hx303_0) | (replace hx303_0 := keep_cell HK.out hx303_0 (by first | (rw [add_block]; exact hf302_0 _ rfl (by omega)) | exact hf302_0 _ rfl (by omega) | exact hf302_0 ad303 rfl (by omega)))
        replace p303 := eq_true p303
        replace q303 := eq_true q303
        go_enter Try.func127, Try.ntmps127
        go_wp2
        repeat (go_quiet (fail); try go_wp2)
        go_ret2
        exact ⟨by first | rfl | (simp [zan, zam] <;> rfl) | (simp only [← hji17]; first | rfl | (simp [zan, zam] <;> rfl)) | (simp [*, zan, zam] <;> rfl), by repeat (first | (with_reducible first | exact HI0.out | apply zaz.alloc | apply zaz.drewN | apply zaz.drew) | exact HI0.out), by repeat (first | (with_reducible first | exact HB.out | apply zac | apply zab | apply zad | refine zah ?_ (zaz.ge HI0.out)) | exact HB.out), by repeat (first | (with_reducible first | exact HK.out | apply zaf.set_ | apply zaj | apply zal | apply zak) | exact HK.out)⟩
       ·rw [if_neg c21] at H
        exact absurd H (by simp)
      ·rw [if_neg c20] at H
       exact absurd H (by simp)
     ·rw [if_neg c19] at H
      exact absurd H (by simp)
    ·rw [if_neg c18] at H
     exact absurd H (by simp)
   ·rw [if_neg c16] at H
    exact absurd H (by simp)
  ·rw [if_neg c15] at H
   exact absurd H (by simp)
def impl_floor_differ.f (s0_0 : List (List Int)) (s0_1 : List (S131)) (a1 : Bool) (a2 : Int) (a3 : Int) : Option (Bool) := (impl_floor_sides.f s0_0 s0_1 a1 a2 a3).bind fun bt304 => (some (bt304.1 != bt304.2))
set_option maxHeartbeats 8000000 in
set_option maxRecDepth 100000 in
theorem impl_floor_differ.calls (g : Nat) (s0_0 : List (List Int)) (s0_1 : List (S131)) (a1 : Bool) (a2 : Int) (a3 : Int) (r : Bool) (w0 w : World) (hI : zaz w0 w g s0_0 s0_1) (hB : Below w0.heap.size w0 w) (h : impl_floor_differ.f s0_0 s0_1 a1 a2 a3 = some r) :
  Calls Try.prog 123 #[.pointer (some ⟨g, 0, none⟩), .bool a1, .int .i64 a2, .int .i64 a3] w fun e w' => e = .returned (.bool r) ∧ zaz w0 w' g s0_0 s0_1 ∧ Below w0.heap.size w0 w' ∧ zaf w w' g none := by
 have HI0 := zaa.mk hI
 have HK := zaa.mk (zaf.refl w g none)
 have HL := zaa.mk hB.size
 clear hI
 have HW0 := zaa.mk hB.size
 have HB := zaa.mk hB
 clear hB
 have H : ((impl_floor_sides.f s0_0 s0_1 a1 a2 a3).bind fun bt304 => (some (bt304.1 != bt304.2))) = some r := h
 clear h
 replace H := yae.mp H
 obtain ⟨⟨t304, t305⟩, A50, H⟩ := H
 replace H : (some (t304 != t305)) = some r := H
 have A5 := zaa.mk A50
 clear A50
 obtain rfl := Option.some.inj H
 go_enter Try.func123, Try.ntmps123
 go_wp2_with (first | ((with_reducible refine zaq (f := 127) rfl ?_); refine zbf (some 16) rfl rfl Try.func127 (by kernel_rfl) rfl #[.pointer (some ⟨g, 0, none⟩), .bool a1, .int .i64 a2, .int .i64 a3] rfl (by (try simp only [yaa, List.map_cons, List.map_nil]); first | done | rfl | (simp only [yac, yab]; rfl)) ?_; (with_reducible refine (impl_floor_sides.calls g s0_0 s0_1 a1 a2 a3 t304 t305 w0 _ ?side1 ?side2 A5.out).mono ?_); (case side1 => repeat (first | (with_reducible first | exact HI0.out | apply zaz.alloc | apply zaz.drewN | apply zaz.drew) | exact HI0.out)); (case side2 => repeat (first | (with_reducible first | exact HB.out | apply zac | apply zab | apply zad | refine zah ?_ (zaz.ge HI0.out)) | exact HB.out)); rintro e w6 ⟨rfl, hi, hb, hk⟩; refine ⟨_, rfl, ?_⟩; have n0_ := zaa.mk (zaf.trans (by repeat (first | (with_reducible first | exact HK.out | apply zaf.set_ | apply zaj | apply zal | apply zak) | exact HK.out)) hk (.inl rfl)); have n1_ := zaa.mk (hb); have n2_ := zaa.mk (hi); clear HK; clear HB; clear HI0; have HK := n0_; have HB := n1_; have HI0 := n2_; clear n0_ n1_ n2_; (try clear hb); (try clear hb2); (try clear hk); (try clear hi)))
 go_ret
 exact ⟨by first | rfl | (simp [zan, zam] <;> rfl) | (simp [*, zan, zam] <;> rfl), by repeat (first | (with_reducible first | exact HI0.out | apply zaz.alloc | apply zaz.drewN | apply zaz.drew) | exact HI0.out), by repeat (first | (with_reducible first | exact HB.out | apply zac | apply zab | apply zad | refine zah ?_ (zaz.ge HI0.out)) | exact HB.out), by repeat (first | (with_reducible first | exact HK.out | apply zaf.set_ | apply zaj | apply zal | apply zak) | exact HK.out)⟩
end Go.Proofs.Ytaepgogafkmooaa.PB
namespace Go.Proofs.Ytaepgogafkmooaa.PB
open Go.RowKit Go.PW.PrintWords Go.PW.PrintLast Go.PW.PrintMore
attribute [local go_sem] zcb zbz max_two min_two zbs zbr zca zby   -- for this text's walks alone
mutual
def impl_floor_walls.l0 : Nat → List (S79) → List Bool → Int → Int → List (List Int) → List (S131) → Option ((List (S79)))
 | 0, _, _, _, _, _, _ => none
 | k + 1, x3, x12, x13, x14, x1000, x1001 => if x14 < x13 then (if 0 ≤ x14 then (if x14 < (x12.length : Int) then ((impl_floor_wide.f x1000 x1001).bind fun t310 => ((impl_floor_high.f x1000 x1001).bind fun t311 => (if rdOf false x12 x14 = true then (impl_floor_walls.j1 k x3 (rdOf false x12 x14) t311 t310 x12 x13 x14 x1000 x1001) else (impl_floor_walls.j1 k x3 (rdOf false x12 x14) t310 t311 x12 x13 x14 x1000 x1001)))) else (none)) else (none)) else (some x3)
def impl_floor_walls.j1 : Nat → List (S79) → Bool → Int → Int → List Bool → Int → Int → List (List Int) → List (S131) → Option ((List (S79)))
 | 0, _, _, _, _, _, _, _, _, _ => none
 | k + 1, x3, x5, x6, x7, x12, x13, x14, x1000, x1001 => impl_floor_walls.l1 k x3 x5 x6 x7 1 x12 x13 x14 x1000 x1001
def impl_floor_walls.l1 : Nat → List (S79) → Bool → Int → Int → Int → List Bool → Int → Int → List (List Int) → List (S131) → Option ((List (S79)))
 | 0, _, _, _, _, _, _, _, _, _, _ => none
 | k + 1, x3, x5, x6, x7, x8, x12, x13, x14, x1000, x1001 => if x8 < x6 then (impl_floor_walls.l2 k x3 x5 x6 x7 x8 false x12 x13 x14 x7 0 x1000 x1001) else (impl_floor_walls.l0 k x3 x12 x13 (wrap64 (x14 + 1)) x1000 x1001)
def impl_floor_walls.l2 : Nat → List (S79) → Bool → Int → Int → Int → Bool → List Bool → Int → Int → Int → Int → List (List Int) → List (S131) → Option ((List (S79)))
 | 0, _, _, _, _, _, _, _, _, _, _, _, _, _ => none
 | k + 1, x3, x5, x6, x7, x8, x9, x12, x13, x14, x30, x31, x1000, x1001 => if x31 < x30 then ((impl_floor_differ.f x1000 x1001 x5 x8 x31).bind fun t312 => (if t312 = true then (impl_floor_walls.j4 k x3 x5 x6 x7 x8 x31 t312 x12 x13 x14 x30 x31 x9 x1000 x1001) else (impl_floor_walls.j4 k x3 x5 x6 x7 x8 x31 t312 x12 x13 x14 x30 x31 false x1000 x1001))) else (impl_floor_walls.l1 k x3 x5 x6 x7 (wrap64 (x8 + 1)) x12 x13 x14 x1000 x1001)
def impl_floor_walls.j4 : Nat → List (S79) → Bool → Int → Int → Int → Int → Bool → List Bool → Int → Int → Int → Int → Bool → List (List Int) → List (S131) → Option ((List (S79)))
 | 0, _, _, _, _, _, _, _, _, _, _, _, _, _, _, _ => none
 | k + 1, x3, x5, x6, x7, x8, x10, x11, x12, x13, x14, x30, x31, x39, x1000, x1001 => if x39 = true then (if 0 ≤ (wrap64 ((x3.length : Int) - 1)) then (if (wrap64 ((x3.length : Int) - 1)) < (x3.length : Int) then (impl_floor_walls.l2 k (x3.set ((wrap64 ((x3.length : Int) - 1)) : Int).toNat (⟨(zcf x3 (wrap64 ((x3.length : Int) - 1))).f0, (zcf x3 (wrap64 ((x3.length : Int) - 1))).f1, (zcf x3 (wrap64 ((x3.length : Int) - 1))).f2, wrap64 (((zcf x3 (wrap64 ((x3.length : Int) - 1))).f3) + 1)⟩ : S79)) x5 x6 x7 x8 x11 x12 x13 x14 x30 (wrap64 (x31 + 1)) x1000 x1001) else (none)) else (none)) else (if x11 = true then (if x3.length < 4398046511104 then (impl_floor_walls.l2 k (x3 ++ [(⟨x5, x8, x10, 1⟩ : S79)]) x5 x6 x7 x8 x11 x12 x13 x14 x30 (wrap64 (x31 + 1)) x1000 x1001) else (none)) else (impl_floor_walls.l2 k x3 x5 x6 x7 x8 x11 x12 x13 x14 x30 (wrap64 (x31 + 1)) x1000 x1001))
end
def impl_floor_walls.f (k : Nat) (s0_0 : List (List Int)) (s0_1 : List (S131)) : Option ((List (S79))) := (some (([false, true] : List Bool) : List Bool)).bind fun y306 => (impl_floor_walls.l0 k ([] : List (S79)) y306 (y306.length : Int) 0 s0_0 s0_1)
set_option maxHeartbeats 8000000 in
set_option maxRecDepth 100000 in
theorem impl_floor_walls.calls (k : Nat) (g : Nat) (s0_0 : List (List Int)) (s0_1 : List (S131)) (r : List (S79)) (w0 w : World) (hI : zaz w0 w g s0_0 s0_1) (hB : Below w0.heap.size w0 w) (h : impl_floor_walls.f k s0_0 s0_1 = some r) :
  Calls Try.prog 80 #[.pointer (some ⟨g, 0, none⟩)] w fun e w' => ∃ v0_ : Value, e = .returned (v0_) ∧ Kd.R k79 79 w' w.heap.size (fun _ => True) v0_ r ∧ zaz w0 w' g s0_0 s0_1 ∧ Below w0.heap.size w0 w' ∧ zaf w w' g none := by
 have hu79 := Try.underlying79
 have HI0 := zaa.mk hI
 have HK := zaa.mk (zaf.refl w g none)
 have HL := zaa.mk hB.size
 clear hI
 have HW0 := zaa.mk hB.size
 have HB := zaa.mk hB
 clear hB
 have H : ((some (([false, true] : List Bool) : List Bool)).bind fun y306 => (impl_floor_walls.l0 k ([] : List (S79)) y306 (y306.length : Int) 0 s0_0 s0_1)) = some r := h
 clear h
 obtain ⟨y306, hy306⟩ : ∃ y_ : List Bool, y_ = (([false, true] : List Bool)) := ⟨_, rfl⟩
 replace H : (impl_floor_walls.l0 k ([] : List (S79)) y306 (y306.length : Int) 0 s0_0 s0_1) = some r := by first | (rw [hy306]; with_reducible exact H) | (have H2_ := (yaf _ _).symm.trans H; rw [hy306]; with_reducible exact H2_) | (have H2_ := (yaf _ _).symm.trans H; with_reducible exact H2_) | with_reducible exact H | (rw [hy306]; exact H) | exact H
 have Ny306 := zaa.mk hy306
 clear hy306
 have H' := zaa.mk H
 clear H
 go_enter Try.func80, Try.ntmps80
 go_wp2_with (first | ((with_reducible refine zbc (N := 12) rfl ?_); refine Kd.R_lit Kd.bool _ 4 ?hg (N := 12) ?hd (xs := ([false, true] : List Bool)) (inner := [.bool false, .bool true]) (ok := fun _ => True) (okp := fun _ => True) ?hr ?hp (fun _ hk => hk) trivial (Below.refl _ _) (yag _) (by simp) ?_; (case hd => rfl); (case hg => rfl); (case hr => first | (go_simp; done) | (go_simp; rfl)); (case hp => exact (Reps.one (show Kd.M Kd.bool _ _ _ false [.bool false] from rfl) (Reps.one (show Kd.M Kd.bool _ _ _ true [.bool true] from rfl) (Reps.none _ _)))); intro v307 w2 ho3 hb hg_ hnew_; clear hg_ hnew_; (first | rw [← Ny306.out] at ho3 | (simp only [Int.reduceToNat] at ho3; rw [← Ny306.out] at ho3)); have n0_ := zaa.mk (Kd.R_lower ho3 (zbh (w := w) (g := g) (row := none) (by repeat (first | (with_reducible first | exact HK.out | apply zaf.set_ | apply zaj | apply zal | apply zak) | exact HK.out)))); have n1_ := zaa.mk (zaz.below (by repeat (first | (with_reducible first | exact HI0.out | apply zaz.alloc | apply zaz.drewN | apply zaz.drew) | exact HI0.out)) hb); have n2_ := zaa.mk (zaf.trans (by repeat (first | (with_reducible first | exact HK.out | apply zaf.set_ | apply zaj | apply zal | apply zak) | exact HK.out)) (zaf.of_below hb g none) (.inl rfl)); have n3_ := zaa.mk (zag (by repeat (first | (with_reducible first | exact HB.out | apply zac | apply zab | apply zad | refine zah ?_ (zaz.ge HI0.out)) | exact HB.out)) hb); clear HI0; clear HK; clear HB; have HO308 := n0_; have HI0 := n1_; have HK := n2_; have HB := n3_; clear n0_ n1_ n2_ n3_; clear hb ho3; obtain ⟨Ao4, co4, eo4⟩ := Kd.R_slice HO308.out; subst eo4))
 go_loopg [3, 14] k (fun kq v3 v14 w' => ∃ (x3_1 : List (S79)) (x14_1 : Int), v14 = .int .i64 x14_1 ∧ zaa (impl_floor_walls.l0 kq x3_1 y306 (y306.length : Int) x14_1 s0_0 s0_1 = some r) ∧ zaa (kq ≤ k) ∧ zaa (Kd.R k79 79 w' w.heap.size (fun _ => True) v3 x3_1) ∧ zaa (Kd.R Kd.bool 4 w' w.heap.size (fun _ => True) (.slice Ao4 y306.length co4) y306) ∧ zaa (zaz w0 w' g s0_0 s0_1) ∧ zaa (zaf w w' g none) ∧ zaa (Below w0.heap.size w0 w'))
 case atStart => exact ⟨(([] : List (S79))), (0), (by first | rfl | (simp; done) | (simp [*]; done)), H', ⟨yag _⟩, ⟨by first | exact Kd.R_nil _ _ _ _ _ | exact Kd.N_nil _ _ _ _ _ | exact Kd.V_nil _ _ _ _ _ | exact Kd.Q_nil _ _ _ _ _ | exact Kd.S_nil _ _ _ _ _⟩, ⟨by (with_reducible repeat (first | apply yah | apply yai | apply yaj)); exact HO308.out⟩, ⟨by repeat (first | (with_reducible first | exact HI0.out | apply zaz.alloc | apply zaz.drewN | apply zaz.drew) | exact HI0.out)⟩, ⟨by repeat (first | (with_reducible first | exact HK.out | apply zaf.set_ | apply zaj | apply zal | apply zak) | exact HK.out)⟩, ⟨by repeat (first | (with_reducible first | exact HB.out | apply zac | apply zab | apply zad | refine zah ?_ (zaz.ge HI0.out)) | exact HB.out)⟩⟩
 case round =>
  clear H'
  try clear p2
  obtain ⟨x3_1, x14_1, rfl, HA, HK1, HO_3, HO_12, HI0, HK, HB⟩ := hrel
  cases gk with
  | zero => exact absurd HA.out (by simp [impl_floor_walls.l0])
  | succ k1 =>
   have H := HA.out
   clear HA
   simp only [impl_floor_walls.l0] at H
   by_cases c5 : x14_1 < (y306.length : Int)
   ·rw [if_pos c5] at H
    have c5b0 : decide (x14_1 < (y306.length : Int)) = true := decide_eq_true c5
    clear c5
    by_cases c6 : 0 ≤ x14_1
    ·rw [if_pos c6] at H
     have c6b0 : decide (0 ≤ x14_1) = true := decide_eq_true c6
     clear c6
     by_cases c7 : x14_1 < (y306.length : Int)
     ·rw [if_pos c7] at H
      have c7b0 : decide (x14_1 < (y306.length : Int)) = true := decide_eq_true c7
      clear c7
      replace H := yae.mp H
      obtain ⟨t310, A80, H⟩ := H
      replace H : ((impl_floor_high.f s0_0 s0_1).bind fun t311 => (if rdOf false y306 x14_1 = true then (impl_floor_walls.j1 k1 x3_1 (rdOf false y306 x14_1) t311 t310 y306 (y306.length : Int) x14_1 s0_0 s0_1) else (impl_floor_walls.j1 k1 x3_1 (rdOf false y306 x14_1) t310 t311 y306 (y306.length : Int) x14_1 s0_0 s0_1))) = some r := H
      have A8 := zaa.mk A80
      clear A80
      replace H := yae.mp H
      obtain ⟨t311, A90, H⟩ := H
      replace H : (if rdOf false y306 x14_1 = true then (impl_floor_walls.j1 k1 x3_1 (rdOf false y306 x14_1) t311 t310 y306 (y306.length : Int) x14_1 s0_0 s0_1) else (impl_floor_walls.j1 k1 x3_1 (rdOf false y306 x14_1) t310 t311 y306 (y306.length : Int) x14_1 s0_0 s0_1)) = some r := H
      have A9 := zaa.mk A90
      clear A90
      have HC10 := zaa.mk H
      clear H
      have p309 : 0 ≤ (x14_1 : Int) := of_decide_eq_true (by assumption)
      have q309 : x14_1 < (y306.length : Int) := of_decide_eq_true (by assumption)
      obtain ⟨ad309, e309, hx309_0⟩ := Kd.at_bool (Kd.R_reads' HO_12.out).2.2 x14_1 p309 q309
      cases e309
      replace p309 := eq_true p309
      replace q309 := eq_true q309
      go_upto_if 22 with (first | ((with_reducible refine zaq (f := 70) rfl ?_); refine zbf (some 19) rfl rfl Try.func70 (by kernel_rfl) rfl #[.pointer (some ⟨g, 0, none⟩)] rfl (by (try simp only [yaa, List.map_cons, List.map_nil]); first | done | rfl | (simp only [yac, yab]; rfl)) ?_; (with_reducible refine (impl_floor_wide.calls g s0_0 s0_1 t310 w0 _ ?side1 ?side2 A8.out).mono ?_); (case side1 => repeat (first | (with_reducible first | exact HI0.out | apply zaz.alloc | apply zaz.drewN | apply zaz.drew) | exact HI0.out)); (case side2 => repeat (first | (with_reducible first | exact HB.out | apply zac | apply zab | apply zad | refine zah ?_ (zaz.ge HI0.out)) | exact HB.out)); rintro e w11 ⟨rfl, hi, hb, hk⟩; refine ⟨_, rfl, ?_⟩; have n0_ := zaa.mk (Kd.R_mono (Kd.R_keep (zaz.apart (show zaz w0 _ g s0_0 s0_1 from by repeat (first | (with_reducible first | exact HI0.out | apply zaz.alloc | apply zaz.drewN | apply zaz.drew) | exact HI0.out)) (by (with_reducible repeat (first | apply yah | apply yai | apply yaj)); exact HO_3.out) (by decide)) hk (fun _ h => h.2)) (fun _ h => h.1)); have n1_ := zaa.mk (Kd.R_mono (Kd.R_keep (zaz.apart (show zaz w0 _ g s0_0 s0_1 from by repeat (first | (with_reducible first | exact HI0.out | apply zaz.alloc | apply zaz.drewN | apply zaz.drew) | exact HI0.out)) (by (with_reducible repeat (first | apply yah | apply yai | apply yaj)); exact HO_12.out) (by decide)) hk (fun _ h => h.2)) (fun _ h => h.1)); have n2_ := zaa.mk (zaf.trans (by repeat (first | (with_reducible first | exact HK.out | apply zaf.set_ | apply zaj | apply zal | apply zak) | exact HK.out)) hk (.inl rfl)); have n3_ := zaa.mk (hb); have n4_ := zaa.mk (hi); clear HO_3; clear HO_12; clear HK; clear HB; clear HI0; have HO_3 := n0_; have HO_12 := n1_; have HK := n2_; have HB := n3_; have HI0 := n4_; clear n0_ n1_ n2_ n3_ n4_; (try clear hb); (try clear hb2); (try clear hk); (try clear hi)) | ((with_reducible refine zaq (f := 69) rfl ?_); refine zbf (some 21) rfl rfl Try.func69 (by kernel_rfl) rfl #[.pointer (some ⟨g, 0, none⟩)] rfl (by (try simp only [yaa, List.map_cons, List.map_nil]); first | done | rfl | (simp only [yac, yab]; rfl)) ?_; (with_reducible refine (impl_floor_high.calls g s0_0 s0_1 t311 w0 _ ?side1 ?side2 A9.out).mono ?_); (case side1 => repeat (first | (with_reducible first | exact HI0.out | apply zaz.alloc | apply zaz.drewN | apply zaz.drew) | exact HI0.out)); (case side2 => repeat (first | (with_reducible first | exact HB.out | apply zac | apply zab | apply zad | refine zah ?_ (zaz.ge HI0.out)) | exact HB.out)); rintro e w12 ⟨rfl, hi, hb, hk⟩; refine ⟨_, rfl, ?_⟩; have n0_ := zaa.mk (Kd.R_mono (Kd.R_keep (zaz.apart (show zaz w0 _ g s0_0 s0_1 from by repeat (first | (with_reducible first | exact HI0.out | apply zaz.alloc | apply zaz.drewN | apply zaz.drew) | exact HI0.out)) (by (with_reducible repeat (first | apply yah | apply yai | apply yaj)); exact HO_3.out) (by decide)) hk (fun _ h => h.2)) (fun _ h => h.1)); have n1_ := zaa.mk (Kd.R_mono (Kd.R_keep (zaz.apart (show zaz w0 _ g s0_0 s0_1 from by repeat (first | (with_reducible first | exact HI0.out | apply zaz.alloc | apply zaz.drewN | apply zaz.drew) | exact HI0.out)) (by (with_reducible repeat (first | apply yah | apply yai | apply yaj)); exact HO_12.out) (by decide)) hk (fun _ h => h.2)) (fun _ h => h.1)); have n2_ := zaa.mk (zaf.trans (by repeat (first | (with_reducible first | exact HK.out | apply zaf.set_ | apply zaj | apply zal | apply zak) | exact HK.out)) hk (.inl rfl)); have n3_ := zaa.mk (hb); have n4_ := zaa.mk (hi); clear HO_3; clear HO_12; clear HK; clear HB; clear HI0; have HO_3 := n0_; have HO_12 := n1_; have HK := n2_; have HB := n3_; have HI0 := n4_; clear n0_ n1_ n2_ n3_ n4_; (try clear hb); (try clear hb2); (try clear hk); (try clear hi)))
      (try simp only [Act.put, List.setIfInBounds_toArray, List.set_cons_zero, List.set_cons_succ])
      obtain ⟨lv_, hlv_⟩ : ∃ b_ : Bool, b_ = (rdOf false y306 x14_1) := ⟨_, rfl⟩
      rw [← hlv_]
      have Hlv_ := zaa.mk hlv_
      clear hlv_
      go_cut [6, 7] (fun v6 v7 wc => ∃ (kq : Nat) (x6_9 : Int) (x7_9 : Int), v6 = .int .i64 x6_9 ∧ v7 = .int .i64 x7_9 ∧ zaa (impl_floor_walls.j1 kq x3_1 lv_ x6_9 x7_9 y306 (y306.length : Int) x14_1 s0_0 s0_1 = some r) ∧ zaa (kq ≤ k1) ∧ zaa (Kd.R k79 79 wc w.heap.size (fun _ => True) u3 x3_1) ∧ zaa (Kd.R Kd.bool 4 wc w.heap.size (fun _ => True) (.slice (some ad309) y306.length co4) y306) ∧ zaa (zaz w0 wc g s0_0 s0_1) ∧ zaa (zaf w wc g none) ∧ zaa (Below w0.heap.size w0 wc))
      case first =>
       have H := HC10.out
       clear HC10
       obtain ⟨bq13, hbq13⟩ : ∃ b_ : Bool, b_ = (rdOf false y306 x14_1) := ⟨_, rfl⟩
       replace H : (if bq13 = true then (impl_floor_walls.j1 k1 x3_1 bq13 t311 t310 y306 (y306.length : Int) x14_1 s0_0 s0_1) else (impl_floor_walls.j1 k1 x3_1 bq13 t310 t311 y306 (y306.length : Int) x14_1 s0_0 s0_1)) = some r := by rw [← hbq13] at H; exact H
       have Nbq13 := zaa.mk hbq13
       clear hbq13
       obtain rfl : bq13 = lv_ := Nbq13.out.trans Hlv_.out.symm
       by_cases c14 : bq13 = true
       ·subst c14
        have H1 : (impl_floor_walls.j1 k1 x3_1 true t311 t310 y306 (y306.length : Int) x14_1 s0_0 s0_1) = some r := by rw [if_pos rfl] at H; exact H
        clear H
        have H := H1
        clear H1
        have H' := zaa.mk H
        clear H
        go_wp2
        go_meet
        case rel => exact ⟨_, (t311), (t310), (by first | rfl | (simp; done) | (simp [*]; done)), (by first | rfl | (simp; done) | (simp [*]; done)), H', ⟨by have := HK1.out; first | omega | exact yag _⟩, ⟨by (with_reducible repeat (first | apply yah | apply yai | apply yaj)); exact HO_3.out⟩, ⟨by (with_reducible repeat (first | apply yah | apply yai | apply yaj)); exact HO_12.out⟩, ⟨by repeat (first | (with_reducible first | exact HI0.out | apply zaz.alloc | apply zaz.drewN | apply zaz.drew) | exact HI0.out)⟩, ⟨by repeat (first | (with_reducible first | exact HK.out | apply zaf.set_ | apply zaj | apply zal | apply zak) | exact HK.out)⟩, ⟨by repeat (first | (with_reducible first | exact HB.out | apply zac | apply zab | apply zad | refine zah ?_ (zaz.ge HI0.out)) | exact HB.out)⟩⟩
       ·replace c14 := Bool.eq_false_iff.mpr c14
        subst c14
        have H1 : (impl_floor_walls.j1 k1 x3_1 false t310 t311 y306 (y306.length : Int) x14_1 s0_0 s0_1) = some r := by rw [if_neg (show ¬ (false = true) by decide)] at H; exact H
        clear H
        have H := H1
        clear H1
        have H' := zaa.mk H
        clear H
        go_wp2
        go_meet
        case rel => exact ⟨_, (t310), (t311), (by first | rfl | (simp; done) | (simp [*]; done)), (by first | rfl | (simp; done) | (simp [*]; done)), H', ⟨by have := HK1.out; first | omega | exact yag _⟩, ⟨by (with_reducible repeat (first | apply yah | apply yai | apply yaj)); exact HO_3.out⟩, ⟨by (with_reducible repeat (first | apply yah | apply yai | apply yaj)); exact HO_12.out⟩, ⟨by repeat (first | (with_reducible first | exact HI0.out | apply zaz.alloc | apply zaz.drewN | apply zaz.drew) | exact HI0.out)⟩, ⟨by repeat (first | (with_reducible first | exact HK.out | apply zaf.set_ | apply zaj | apply zal | apply zak) | exact HK.out)⟩, ⟨by repeat (first | (with_reducible first | exact HB.out | apply zac | apply zab | apply zad | refine zah ?_ (zaz.ge HI0.out)) | exact HB.out)⟩⟩
      case rest =>
       have hlv_ := Hlv_.out
       clear Hlv_
       subst hlv_
       clear HC10
       try clear c1
       try clear q1
       try clear p2
       try clear p3
       try clear q3
       try clear hx3
       try clear c5
       try clear c5b0
       try clear c6
       try clear c6b0
       try clear c7
       try clear c7b0
       try clear c8
       try clear q13
       try clear c14
       try clear hx309_0
       try clear p2
       try clear p309
       try clear q309
       obtain ⟨kq, x6_9, x7_9, rfl, rfl, HA, HJ9, HO_3, HO_12, HI0, HK, HB⟩ := hcut
       cases kq with
       | zero => exact absurd HA.out (by simp [impl_floor_walls.j1])
       | succ kj9 =>
        have H := HA.out
        clear HA
        simp only [impl_floor_walls.j1] at H
        have H' := zaa.mk H
        clear H
        go_wp2
        go_loopg [3, 8] kj9 (fun kq v3 v8 w' => ∃ (x3_3 : List (S79)) (x8_3 : Int), v8 = .int .i64 x8_3 ∧ zaa (impl_floor_walls.l1 kq x3_3 (rdOf false y306 x14_1) x6_9 x7_9 x8_3 y306 (y306.length : Int) x14_1 s0_0 s0_1 = some r) ∧ zaa (kq ≤ kj9) ∧ zaa (Kd.R k79 79 w' w.heap.size (fun _ => True) v3 x3_3) ∧ zaa (Kd.R Kd.bool 4 w' w.heap.size (fun _ => True) (.slice (some ad309) y306.length co4) y306) ∧ zaa (zaz w0 w' g s0_0 s0_1) ∧ zaa (zaf w w' g none) ∧ zaa (Below w0.heap.size w0 w'))
        case atStart => exact ⟨(x3_1), (1), (by first | rfl | (simp; done) | (simp [*]; done)), H', ⟨yag _⟩, ⟨by (with_reducible repeat (first | apply yah | apply yai | apply yaj)); exact HO_3.out⟩, ⟨by (with_reducible repeat (first | apply yah | apply yai | apply yaj)); exact HO_12.out⟩, ⟨by repeat (first | (with_reducible first | exact HI0.out | apply zaz.alloc | apply zaz.drewN | apply zaz.drew) | exact HI0.out)⟩, ⟨by repeat (first | (with_reducible first | exact HK.out | apply zaf.set_ | apply zaj | apply zal | apply zak) | exact HK.out)⟩, ⟨by repeat (first | (with_reducible first | exact HB.out | apply zac | apply zab | apply zad | refine zah ?_ (zaz.ge HI0.out)) | exact HB.out)⟩⟩
        case round =>
         clear H'
         try clear c1
         try clear q1
         try clear p2
         try clear p3
         try clear q3
         try clear hx3
         try clear c5
         try clear c5b0
         try clear c6
         try clear c6b0
         try clear c7
         try clear c7b0
         try clear c8
         try clear q13
         try clear c14
         try clear hx309_0
         try clear p2
         try clear p3
         try clear p309
         try clear q1
         try clear q13
         try clear q3
         try clear q309
         obtain ⟨x3_3, x8_3, rfl, HA, HK3, HO_3, HO_12, HI0, HK, HB⟩ := hrel
         cases gk with
         | zero => exact absurd HA.out (by simp [impl_floor_walls.l1])
         | succ k3 =>
          have H := HA.out
          clear HA
          simp only [impl_floor_walls.l1] at H
          by_cases c15 : x8_3 < x6_9
          ·rw [if_pos c15] at H
           have c15b0 : decide (x8_3 < x6_9) = true := decide_eq_true c15
           clear c15
           have H' := zaa.mk H
           clear H
           go_wp2
           go_loopg [3, 9, 31] k3 (fun kq v3 v9 v31 w' => ∃ (x3_4 : List (S79)) (x9_4 : Bool) (x31_4 : Int), v9 = .bool x9_4 ∧ v31 = .int .i64 x31_4 ∧ zaa (impl_floor_walls.l2 kq x3_4 (rdOf false y306 x14_1) x6_9 x7_9 x8_3 x9_4 y306 (y306.length : Int) x14_1 x7_9 x31_4 s0_0 s0_1 = some r) ∧ zaa (kq ≤ k3) ∧ zaa (Kd.R k79 79 w' w.heap.size (fun _ => True) v3 x3_4) ∧ zaa (Kd.R Kd.bool 4 w' w.heap.size (fun _ => True) (.slice (some ad309) y306.length co4) y306) ∧ zaa (zaz w0 w' g s0_0 s0_1) ∧ zaa (zaf w w' g none) ∧ zaa (Below w0.heap.size w0 w'))
           case atStart => exact ⟨(x3_3), (false), (0), (by first | rfl | (simp; done) | (simp [*]; done)), (by first | rfl | (simp; done) | (simp [*]; done)), H', ⟨yag _⟩, ⟨by (with_reducible repeat (first | apply yah | apply yai | apply yaj)); exact HO_3.out⟩, ⟨by (with_reducible repeat (first | apply yah | apply yai | apply yaj)); exact HO_12.out⟩, ⟨by repeat (first | (with_reducible first | exact HI0.out | apply zaz.alloc | apply zaz.drewN | apply zaz.drew) | exact HI0.out)⟩, ⟨by repeat (first | (with_reducible first | exact HK.out | apply zaf.set_ | apply zaj | apply zal | apply zak) | exact HK.out)⟩, ⟨by repeat (first | (with_reducible first | exact HB.out | apply zac | apply zab | apply zad | refine zah ?_ (zaz.ge HI0.out)) | exact HB.out)⟩⟩
           case round =>
            clear H'
            try clear c1
            try clear q1
            try clear p2
            try clear p3
            try clear q3
            try clear hx3
            try clear c5
            try clear c5b0
            try clear c6
            try clear c6b0
            try clear c7
            try clear c7b0
            try clear c8
            try clear q13
            try clear c14
            try clear c15
            try clear c15b0
            try clear hx309_0
            try clear p2
            try clear p3
            try clear p309
            try clear q1
            try clear q13
            try clear q3
            try clear q309
            obtain ⟨x3_4, x9_4, x31_4, rfl, rfl, HA, HK4, HO_3, HO_12, HI0, HK, HB⟩ := hrel
            cases gk with
            | zero => exact absurd HA.out (by simp [impl_floor_walls.l2])
            | succ k4 =>
             have H := HA.out
             clear HA
             simp only [impl_floor_walls.l2] at H
             by_cases c16 : x31_4 < x7_9
             ·rw [if_pos c16] at H
              have c16b0 : decide (x31_4 < x7_9) = true := decide_eq_true c16
              clear c16
              replace H := yae.mp H
              obtain ⟨t312, A170, H⟩ := H
              replace H : (if t312 = true then (impl_floor_walls.j4 k4 x3_4 (rdOf false y306 x14_1) x6_9 x7_9 x8_3 x31_4 t312 y306 (y306.length : Int) x14_1 x7_9 x31_4 x9_4 s0_0 s0_1) else (impl_floor_walls.j4 k4 x3_4 (rdOf false y306 x14_1) x6_9 x7_9 x8_3 x31_4 t312 y306 (y306.length : Int) x14_1 x7_9 x31_4 false s0_0 s0_1)) = some r := H
              have A17 := zaa.mk A170
              clear A170
              have HC18 := zaa.mk H
              clear H
              go_upto_region 16 with (first | ((with_reducible refine zaq (f := 123) rfl ?_); refine zbf (some 38) rfl rfl Try.func123 (by kernel_rfl) rfl #[.pointer (some ⟨g, 0, none⟩), .bool (rdOf false y306 x14_1), .int .i64 x8_3, .int .i64 x31_4] rfl (by (try simp only [yaa, List.map_cons, List.map_nil]); first | done | rfl | (simp only [yac, yab]; rfl)) ?_; (with_reducible refine (impl_floor_differ.calls g s0_0 s0_1 (rdOf false y306 x14_1) x8_3 x31_4 t312 w0 _ ?side1 ?side2 A17.out).mono ?_); (case side1 => repeat (first | (with_reducible first | exact HI0.out | apply zaz.alloc | apply zaz.drewN | apply zaz.drew) | exact HI0.out)); (case side2 => repeat (first | (with_reducible first | exact HB.out | apply zac | apply zab | apply zad | refine zah ?_ (zaz.ge HI0.out)) | exact HB.out)); rintro e w19 ⟨rfl, hi, hb, hk⟩; refine ⟨_, rfl, ?_⟩; have n0_ := zaa.mk (Kd.R_mono (Kd.R_keep (zaz.apart (show zaz w0 _ g s0_0 s0_1 from by repeat (first | (with_reducible first | exact HI0.out | apply zaz.alloc | apply zaz.drewN | apply zaz.drew) | exact HI0.out)) (by (with_reducible repeat (first | apply yah | apply yai | apply yaj)); exact HO_3.out) (by decide)) hk (fun _ h => h.2)) (fun _ h => h.1)); have n1_ := zaa.mk (Kd.R_mono (Kd.R_keep (zaz.apart (show zaz w0 _ g s0_0 s0_1 from by repeat (first | (with_reducible first | exact HI0.out | apply zaz.alloc | apply zaz.drewN | apply zaz.drew) | exact HI0.out)) (by (with_reducible repeat (first | apply yah | apply yai | apply yaj)); exact HO_12.out) (by decide)) hk (fun _ h => h.2)) (fun _ h => h.1)); have n2_ := zaa.mk (zaf.trans (by repeat (first | (with_reducible first | exact HK.out | apply zaf.set_ | apply zaj | apply zal | apply zak) | exact HK.out)) hk (.inl rfl)); have n3_ := zaa.mk (hb); have n4_ := zaa.mk (hi); clear HO_3; clear HO_12; clear HK; clear HB; clear HI0; have HO_3 := n0_; have HO_12 := n1_; have HK := n2_; have HB := n3_; have HI0 := n4_; clear n0_ n1_ n2_ n3_ n4_; (try clear hb); (try clear hb2); (try clear hk); (try clear hi)))
              (try simp only [Act.put, List.setIfInBounds_toArray, List.set_cons_zero, List.set_cons_succ])
              go_cut [39] (fun v39 wc => ∃ (kq : Nat) (x39_17 : Bool), v39 = .bool x39_17 ∧ zaa (impl_floor_walls.j4 kq x3_4 (rdOf false y306 x14_1) x6_9 x7_9 x8_3 x31_4 t312 y306 (y306.length : Int) x14_1 x7_9 x31_4 x39_17 s0_0 s0_1 = some r) ∧ zaa (kq ≤ k4) ∧ zaa (Kd.R k79 79 wc w.heap.size (fun _ => True) u3 x3_4) ∧ zaa (Kd.R Kd.bool 4 wc w.heap.size (fun _ => True) (.slice (some ad309) y306.length co4) y306) ∧ zaa (zaz w0 wc g s0_0 s0_1) ∧ zaa (zaf w wc g none) ∧ zaa (Below w0.heap.size w0 wc))
              case first =>
               have H := HC18.out
               clear HC18
               by_cases c20 : t312 = true
               ·subst c20
                have H1 : (impl_floor_walls.j4 k4 x3_4 (rdOf false y306 x14_1) x6_9 x7_9 x8_3 x31_4 true y306 (y306.length : Int) x14_1 x7_9 x31_4 x9_4 s0_0 s0_1) = some r := by rw [if_pos rfl] at H; exact H
                clear H
                have H := H1
                clear H1
                have H' := zaa.mk H
                clear H
                go_wp2
                go_meet
                case rel => exact ⟨_, (x9_4), (by first | rfl | (simp; done) | (simp [*]; done)), H', ⟨by have := HK1.out; have := HJ9.out; have := HK3.out; have := HK4.out; first | omega | exact yag _⟩, ⟨by (with_reducible repeat (first | apply yah | apply yai | apply yaj)); exact HO_3.out⟩, ⟨by (with_reducible repeat (first | apply yah | apply yai | apply yaj)); exact HO_12.out⟩, ⟨by repeat (first | (with_reducible first | exact HI0.out | apply zaz.alloc | apply zaz.drewN | apply zaz.drew) | exact HI0.out)⟩, ⟨by repeat (first | (with_reducible first | exact HK.out | apply zaf.set_ | apply zaj | apply zal | apply zak) | exact HK.out)⟩, ⟨by repeat (first | (with_reducible first | exact HB.out | apply zac | apply zab | apply zad | refine zah ?_ (zaz.ge HI0.out)) | exact HB.out)⟩⟩
               ·replace c20 := Bool.eq_false_iff.mpr c20
                subst c20
                have H1 : (impl_floor_walls.j4 k4 x3_4 (rdOf false y306 x14_1) x6_9 x7_9 x8_3 x31_4 false y306 (y306.length : Int) x14_1 x7_9 x31_4 false s0_0 s0_1) = some r := by rw [if_neg (show ¬ (false = true) by decide)] at H; exact H
                clear H
                have H := H1
                clear H1
                have H' := zaa.mk H
                clear H
                go_wp2
                go_meet
                case rel => exact ⟨_, (false), (by first | rfl | (simp; done) | (simp [*]; done)), H', ⟨by have := HK1.out; have := HJ9.out; have := HK3.out; have := HK4.out; first | omega | exact yag _⟩, ⟨by (with_reducible repeat (first | apply yah | apply yai | apply yaj)); exact HO_3.out⟩, ⟨by (with_reducible repeat (first | apply yah | apply yai | apply yaj)); exact HO_12.out⟩, ⟨by repeat (first | (with_reducible first | exact HI0.out | apply zaz.alloc | apply zaz.drewN | apply zaz.drew) | exact HI0.out)⟩, ⟨by repeat (first | (with_reducible first | exact HK.out | apply zaf.set_ | apply zaj | apply zal | apply zak) | exact HK.out)⟩, ⟨by repeat (first | (with_reducible first | exact HB.out | apply zac | apply zab | apply zad | refine zah ?_ (zaz.ge HI0.out)) | exact HB.out)⟩⟩
              case rest =>
               clear HC18
               try clear c1
               try clear q1
               try clear c2
               try clear p2
               try clear p3
               try clear q3
               try clear hx3
               try clear c5
               try clear c5b0
               try clear c6
               try clear c6b0
               try clear c7
               try clear c7b0
               try clear c8
               try clear c12
               try clear q13
               try clear c14
               try clear c15
               try clear c15b0
               try clear c16
               try clear c16b0
               try clear c20
               try clear hx309_0
               try clear p2
               try clear p3
               try clear p309
               try clear q1
               try clear q13
               try clear q3
               try clear q309
               obtain ⟨kq, x39_17, rfl, HA, HJ17, HO_3, HO_12, HI0, HK, HB⟩ := hcut
               cases kq with
               | zero => exact absurd HA.out (by simp [impl_floor_walls.j4])
               | succ kj17 =>
                have H := HA.out
                clear HA
                simp only [impl_floor_walls.j4] at H
                by_cases c21 : x39_17 = true
                ·subst c21
                 have H1 : (if 0 ≤ (wrap64 ((x3_4.length : Int) - 1)) then (if (wrap64 ((x3_4.length : Int) - 1)) < (x3_4.length : Int) then (impl_floor_walls.l2 kj17 (x3_4.set ((wrap64 ((x3_4.length : Int) - 1)) : Int).toNat (⟨(zcf x3_4 (wrap64 ((x3_4.length : Int) - 1))).f0, (zcf x3_4 (wrap64 ((x3_4.length : Int) - 1))).f1, (zcf x3_4 (wrap64 ((x3_4.length : Int) - 1))).f2, wrap64 (((zcf x3_4 (wrap64 ((x3_4.length : Int) - 1))).f3) + 1)⟩ : S79)) (rdOf false y306 x14_1) x6_9 x7_9 x8_3 t312 y306 (y306.length : Int) x14_1 x7_9 (wrap64 (x31_4 + 1)) s0_0 s0_1) else (none)) else (none)) = some r := by rw [if_pos rfl] at H; exact H
                 clear H
                 have H := H1
                 clear H1
                 obtain ⟨ji22, hji22⟩ : ∃ j_ : Int, (wrap64 ((x3_4.length : Int) - 1)) = j_ := ⟨_, rfl⟩
                 replace H : (if 0 ≤ (ji22) then (if (ji22) < (x3_4.length : Int) then (impl_floor_walls.l2 kj17 (x3_4.set ((ji22) : Int).toNat (⟨(zcf x3_4 (ji22)).f0, (zcf x3_4 (ji22)).f1, (zcf x3_4 (ji22)).f2, wrap64 (((zcf x3_4 (ji22)).f3) + 1)⟩ : S79)) (rdOf false y306 x14_1) x6_9 x7_9 x8_3 t312 y306 (y306.length : Int) x14_1 x7_9 (wrap64 (x31_4 + 1)) s0_0 s0_1) else (none)) else (none)) = some r := by first | (rw [hji22] at H; exact H) | (simp only [hji22] at H ⊢; exact H)
                 have hji22w : (IntKind.i64.wrap ((x3_4.length : Int) - 1)) = ji22 := (zar _).trans hji22
                 by_cases c23 : 0 ≤ (ji22)
                 ·rw [if_pos c23] at H
                  have c23b0 : decide (0 ≤ (ji22)) = true := decide_eq_true c23
                  clear c23
                  by_cases c24 : (ji22) < (x3_4.length : Int)
                  ·rw [if_pos c24] at H
                   have c24b0 : decide ((ji22) < (x3_4.length : Int)) = true := decide_eq_true c24
                   clear c24
                   obtain ⟨y314, hy314⟩ : ∃ y_ : List (S79), y_ = (x3_4.set ((ji22) : Int).toNat (⟨(zcf x3_4 (ji22)).f0, (zcf x3_4 (ji22)).f1, (zcf x3_4 (ji22)).f2, wrap64 (((zcf x3_4 (ji22)).f3) + 1)⟩ : S79)) := ⟨_, rfl⟩
                   replace H : (impl_floor_walls.l2 kj17 y314 (rdOf false y306 x14_1) x6_9 x7_9 x8_3 t312 y306 (y306.length : Int) x14_1 x7_9 (wrap64 (x31_4 + 1)) s0_0 s0_1) = some r := by first | (rw [hy314]; with_reducible exact H) | (have H2_ := (yaf _ _).symm.trans H; rw [hy314]; with_reducible exact H2_) | (have H2_ := (yaf _ _).symm.trans H; with_reducible exact H2_) | with_reducible exact H | (rw [hy314]; exact H) | exact H
                   have Ny314 := zaa.mk hy314
                   clear hy314
                   have H' := zaa.mk H
                   clear H
                   obtain ⟨Ao26, co26, eo26⟩ := Kd.R_slice HO_3.out
                   subst eo26
                   have p313 : 0 ≤ ((ji22) : Int) := of_decide_eq_true (by assumption)
                   have q313 : (ji22) < (x3_4.length : Int) := of_decide_eq_true (by assumption)
                   obtain ⟨ad313, e313, hx313_0, hx313_1, hx313_2, hx313_3⟩ := at_T79 (Kd.R_reads' HO_3.out).2.2 (ji22) p313 q313
                   cases e313
                   replace p313 := eq_true p313
                   replace q313 := eq_true q313
                   have p25 : 0 ≤ ((ji22) : Int) := of_decide_eq_true (by assumption)
                   have q25 : ((ji22) : Int) < ((x3_4.length : Int) : Int) := of_decide_eq_true (by assumption)
                   obtain ⟨go25, co25, eo25, gb25, gl25, cl25, HG25⟩ := Kd.R_form HO_3.out (by omega)
                   (first | cases eo25 | (injection eo25 with ea_ en_ ec_; (first | subst ea_ | (injection ea_ with ea_; subst ea_)); subst ec_; clear en_))
                   have GB25 := zaa.mk gb25
                   have GG25 := zaa.mk HG25
                   clear gb25 gl25 HG25
                   (first | simp only [add_plain] at hx313_0 | skip)
                   (first | simp only [add_plain] at hx313_1 | skip)
                   (first | simp only [add_plain] at hx313_2 | skip)
                   (first | simp only [add_plain] at hx313_3 | skip)
                   obtain ⟨ce25, hcl25, hM25, hcc25, hfr25⟩ := Kd.R_elem HO_3.out z79 ((ji22) : Int) p25 q25
                   obtain rfl := k79_openM hM25
                   have hx25_0 : wc.cell? ⟨go25, ((ji22) : Int).toNat * 4, none⟩ = some (.bool ((zcf x3_4 (ji22)).f0)) := hcc25 0 _ rfl
                   have hx25_1 : wc.cell? ⟨go25, ((ji22) : Int).toNat * 4 + 1, none⟩ = some (.int .i64 ((zcf x3_4 (ji22)).f1)) := hcc25 1 _ rfl
                   have hx25_2 : wc.cell? ⟨go25, ((ji22) : Int).toNat * 4 + 2, none⟩ = some (.int .i64 ((zcf x3_4 (ji22)).f2)) := hcc25 2 _ rfl
                   have hx25_3 : wc.cell? ⟨go25, ((ji22) : Int).toNat * 4 + 3, none⟩ = some (.int .i64 ((zcf x3_4 (ji22)).f3)) := hcc25 3 _ rfl
                   have hf25_0 : wc.frozen? ⟨go25, ((ji22) : Int).toNat * 4, none⟩ = false := hfr25 0
                   have hf25_1 : wc.frozen? ⟨go25, ((ji22) : Int).toNat * 4 + 1, none⟩ = false := hfr25 1
                   have hf25_2 : wc.frozen? ⟨go25, ((ji22) : Int).toNat * 4 + 2, none⟩ = false := hfr25 2
                   have hf25_3 : wc.frozen? ⟨go25, ((ji22) : Int).toNat * 4 + 3, none⟩ = false := hfr25 3
                   clear hcl25 hcc25 hfr25 hM25
                   replace p25 := eq_true p25
                   replace q25 := eq_true q25
                   have HX27 := zaa.mk (show Kd.R k79 79 wc w.heap.size (fun _ => True) (.slice (some ⟨go25, 0, none⟩) x3_4.length co26) x3_4 from (by (with_reducible repeat (first | apply yah | apply yai | apply yaj)); exact HO_3.out))
                   obtain ⟨ce27, hcl27, hM27, hcc27, hfr27⟩ := Kd.R_elem HX27.out z79 ((ji22) : Int) (of_decide_eq_true (by assumption)) (by have h_ : ((ji22) : Int) < ((x3_4.length : Int) : Int) := of_decide_eq_true (by assumption); first | exact h_ | (have e_ := (Kd.R_reads' HO_3.out).1; omega) | simpa using h_)
                   obtain rfl := k79_openM hM27
                   have HP27 := Kd.R_seg HX27.out ((ji22) : Int) (of_decide_eq_true (by assumption)) (by have h_ : ((ji22) : Int) < ((x3_4.length : Int) : Int) := of_decide_eq_true (by assumption); first | exact h_ | (have e_ := (Kd.R_reads' HO_3.out).1; omega) | simpa using h_) (seg := [.int .i64 (wrap64 (((zcf x3_4 (ji22)).f3) + 1))]) (j := 3) hcl27 hcc27 (show 4 ≤ 4 from by decide) (x' := (⟨(zcf x3_4 (ji22)).f0, (zcf x3_4 (ji22)).f1, (zcf x3_4 (ji22)).f2, wrap64 (((zcf x3_4 (ji22)).f3) + 1)⟩ : S79)) (k79_mkM _ _ _ (⟨(zcf x3_4 (ji22)).f0, (zcf x3_4 (ji22)).f1, (zcf x3_4 (ji22)).f2, wrap64 (((zcf x3_4 (ji22)).f3) + 1)⟩ : S79) ) (fun _ hk => hk)
                   have hx27_3 := hcc27 3 _ rfl
                   (try simp only [show (k79).sz = 4 from rfl, Nat.mul_one, Nat.add_zero] at hx27_3)
                   have hf27_3 := hfr27 3
                   (try simp only [show (k79).sz = 4 from rfl, Nat.mul_one, Nat.add_zero] at hf27_3)
                   clear hcl27 hcc27 hfr27 hM27
                   go_wp2_with (first | ((with_reducible refine gate_store (t := 3) (p := 53) rfl ?_); refine store_event (t := 3) (p := 53) (v := ?vo_w28) (w1 := (wc.setCell ⟨go25, ((ji22) : Int).toNat * 4 + 3, none⟩ (.int .i64 (wrap64 (((zcf x3_4 (ji22)).f3) + 1))))) ?hg ?ho ?hn ?hr ?_; (case ho => rfl); (case hg => rfl); (case hn => rfl); (case hr => first | (go_simp; done) | (go_simp; rfl)); intro w28 hw; have hg : wc.grownBy w28 (some go25) := (by rw [hw]; exact HP27.2); have hp_ : Kd.R k79 79 w28 w.heap.size (fun _ => True) (.slice (some ⟨go25, 0, none⟩) x3_4.length co26) y314 := (by rw [hw, Ny314.out]; exact HP27.1); clear HP27; have n0_ := zaa.mk (hp_); have n1_ := zaa.mk (Kd.R_over' (v := (.slice (some ⟨go25, 0, none⟩) x3_4.length co26)) (by (with_reducible repeat (first | apply yah | apply yai | apply yaj)); exact HO_12.out) (Kd.R_typed HO_3.out) (by decide) hg); have n2_ := zaa.mk (zaz.grown (by repeat (first | (with_reducible first | exact HI0.out | apply zaz.alloc | apply zaz.drewN | apply zaz.drew) | exact HI0.out)) hg (zaz.own_ne HI0.out HO_3.out (by decide))); have n3_ := zaa.mk ((by rw [hw]; exact zah (HB.out) (Nat.le_trans HL.out GB25.out) : Below w0.heap.size w0 w28)); have n4_ := zaa.mk (zaf.trans (by repeat (first | (with_reducible first | exact HK.out | apply zaf.set_ | apply zaj | apply zal | apply zak) | exact HK.out)) (zaf.of_grown hg g) (Kd.R_base2 HO_3.out)); clear HO_3; clear HO_12; clear HI0; clear HB; clear HK; have HO_3 := n0_; have HO_12 := n1_; have HI0 := n2_; have HB := n3_; have HK := n4_; clear n0_ n1_ n2_ n3_ n4_; clear hg hw hp_))
                   go_roundg kj17
                   case measure => have := HK1.out; have := HJ9.out; have := HK3.out; have := HK4.out; have := HJ17.out; omega
                   case rel => exact ⟨(y314), (t312), (wrap64 (x31_4 + 1)), (by first | rfl | (simp; done) | (simp [*]; done)), (by first | rfl | (simp; done) | (simp [*]; done)), H', ⟨by have := HK1.out; have := HJ9.out; have := HK3.out; have := HK4.out; have := HJ17.out; omega⟩, ⟨by (with_reducible repeat (first | apply yah | apply yai | apply yaj)); exact HO_3.out⟩, ⟨by (with_reducible repeat (first | apply yah | apply yai | apply yaj)); exact HO_12.out⟩, ⟨by repeat (first | (with_reducible first | exact HI0.out | apply zaz.alloc | apply zaz.drewN | apply zaz.drew) | exact HI0.out)⟩, ⟨by repeat (first | (with_reducible first | exact HK.out | apply zaf.set_ | apply zaj | apply zal | apply zak) | exact HK.out)⟩, ⟨by repeat (first | (with_reducible first | exact HB.out | apply zac | apply zab | apply zad | refine zah ?_ (zaz.ge HI0.out)) | exact HB.out)⟩⟩
                  ·rw [if_neg c24] at H
                   exact absurd H (by simp)
                 ·rw [if_neg c23] at H
                  exact absurd H (by simp)
                ·replace c21 := Bool.eq_false_iff.mpr c21
                 subst c21
                 have H1 : (if t312 = true then (if x3_4.length < 4398046511104 then (impl_floor_walls.l2 kj17 (x3_4 ++ [(⟨(rdOf false y306 x14_1), x8_3, x31_4, 1⟩ : S79)]) (rdOf false y306 x14_1) x6_9 x7_9 x8_3 t312 y306 (y306.length : Int) x14_1 x7_9 (wrap64 (x31_4 + 1)) s0_0 s0_1) else (none)) else (impl_floor_walls.l2 kj17 x3_4 (rdOf false y306 x14_1) x6_9 x7_9 x8_3 t312 y306 (y306.length : Int) x14_1 x7_9 (wrap64 (x31_4 + 1)) s0_0 s0_1)) = some r := by rw [if_neg (show ¬ (false = true) by decide)] at H; exact H
                 clear H
                 have H := H1
                 clear H1
                 by_cases c29 : t312 = true
                 ·subst c29
                  have H1 : (if x3_4.length < 4398046511104 then (impl_floor_walls.l2 kj17 (x3_4 ++ [(⟨(rdOf false y306 x14_1), x8_3, x31_4, 1⟩ : S79)]) (rdOf false y306 x14_1) x6_9 x7_9 x8_3 true y306 (y306.length : Int) x14_1 x7_9 (wrap64 (x31_4 + 1)) s0_0 s0_1) else (none)) = some r := by rw [if_pos rfl] at H; exact H
                  clear H
                  have H := H1
                  clear H1
                  by_cases c30 : x3_4.length < 4398046511104
                  ·rw [if_pos c30] at H
                   have LMc30 := zaa.mk c30
                   clear c30
                   obtain ⟨y315, hy315⟩ : ∃ y_ : List (S79), y_ = (x3_4 ++ [(⟨(rdOf false y306 x14_1), x8_3, x31_4, 1⟩ : S79)]) := ⟨_, rfl⟩
                   replace H : (impl_floor_walls.l2 kj17 y315 (rdOf false y306 x14_1) x6_9 x7_9 x8_3 true y306 (y306.length : Int) x14_1 x7_9 (wrap64 (x31_4 + 1)) s0_0 s0_1) = some r := by first | (rw [hy315]; with_reducible exact H) | (have H2_ := (yaf _ _).symm.trans H; rw [hy315]; with_reducible exact H2_) | (have H2_ := (yaf _ _).symm.trans H; with_reducible exact H2_) | with_reducible exact H | (rw [hy315]; exact H) | exact H
                   have Ny315 := zaa.mk hy315
                   clear hy315
                   have H' := zaa.mk H
                   clear H
                   go_wp2_with (first | ((with_reducible refine zay (b := .append) (xs := #[.tmp 56, .tmp 61]) rfl ?_); at_builtin; refine Kd.R_append k79 w.heap.size rfl (.tmp 56) (.tmp 61) 76 79 (.agg #[(.bool false), (.int .i64 0), (.int .i64 0), (.int .i64 0)]) 32 rfl Try.underlying76 info79 rfl (by decide) (by omega) u3 x3_4 (⟨(rdOf false y306 x14_1), x8_3, x31_4, 1⟩ : S79) [.bool (rdOf false y306 x14_1), .int .i64 x8_3, .int .i64 x31_4, .int .i64 1] (fun _ => True) (fun _ => False) rfl rfl ?aP (fun _ hk => hk.elim) ?aF ?aO (Below.refl _ _) ?aS ?aL ?_; (case aP => exact k79_mkM _ _ _ (⟨(rdOf false y306 x14_1), x8_3, x31_4, 1⟩ : S79)); (case aF => exact (fun _ _ => trivial)); (case aO => exact (by (with_reducible repeat (first | apply yah | apply yai | apply yaj)); exact HO_3.out)); (case aS => exact (zbh (w := w) (g := g) (row := none) (by repeat (first | (with_reducible first | exact HK.out | apply zaf.set_ | apply zaj | apply zal | apply zak) | exact HK.out)))); (case aL => have := LMc30.out; omega); intro v316 w31 ho hb hg hat; rw [← Ny315.out] at ho; have n0_ := zaa.mk (Kd.R_over' (by (with_reducible repeat (first | apply yah | apply yai | apply yaj)); exact HO_12.out) (Kd.R_typed (by (with_reducible repeat (first | apply yah | apply yai | apply yaj)); exact HO_3.out)) (by decide) hg); have n1_ := zaa.mk (zaz.grown (by repeat (first | (with_reducible first | exact HI0.out | apply zaz.alloc | apply zaz.drewN | apply zaz.drew) | exact HI0.out)) hg (zaz.own_ne HI0.out HO_3.out (by decide))); have n2_ := zaa.mk (below_weaken (by repeat (first | (with_reducible first | exact HB.out | apply zac | apply zab | apply zad | refine zah ?_ (zaz.ge HI0.out)) | exact HB.out)) HL.out hb); have n3_ := zaa.mk (zaf.trans (by repeat (first | (with_reducible first | exact HK.out | apply zaf.set_ | apply zaj | apply zal | apply zak) | exact HK.out)) (zaf.of_grown hg g) (Kd.R_base2 HO_3.out)); have n4_ := zaa.mk (ho); clear HO_12; clear HI0; clear HB; clear HK; clear HO_3; have HO_12 := n0_; have HI0 := n1_; have HB := n2_; have HK := n3_; have HO317 := n4_; clear n0_ n1_ n2_ n3_ n4_; clear ho hb hg hat))
                   go_roundg kj17
                   case measure => have := HK1.out; have := HJ9.out; have := HK3.out; have := HK4.out; have := HJ17.out; omega
                   case rel => exact ⟨(y315), (true), (wrap64 (x31_4 + 1)), (by first | rfl | (simp; done) | (simp [*]; done)), (by first | rfl | (simp; done) | (simp [*]; done)), H', ⟨by have := HK1.out; have := HJ9.out; have := HK3.out; have := HK4.out; have := HJ17.out; omega⟩, ⟨by (with_reducible repeat (first | apply yah | apply yai | apply yaj)); exact HO317.out⟩, ⟨by (with_reducible repeat (first | apply yah | apply yai | apply yaj)); exact HO_12.out⟩, ⟨by repeat (first | (with_reducible first | exact HI0.out | apply zaz.alloc | apply zaz.drewN | apply zaz.drew) | exact HI0.out)⟩, ⟨by repeat (first | (with_reducible first | exact HK.out | apply zaf.set_ | apply zaj | apply zal | apply zak) | exact HK.out)⟩, ⟨by repeat (first | (with_reducible first | exact HB.out | apply zac | apply zab | apply zad | refine zah ?_ (zaz.ge HI0.out)) | exact HB.out)⟩⟩
                  ·rw [if_neg c30] at H
                   exact absurd H (by simp)
                 ·replace c29 := Bool.eq_false_iff.mpr c29
                  subst c29
                  have H1 : (impl_floor_walls.l2 kj17 x3_4 (rdOf false y306 x14_1) x6_9 x7_9 x8_3 false y306 (y306.length : Int) x14_1 x7_9 (wrap64 (x31_4 + 1)) s0_0 s0_1) = some r := by rw [if_neg (show ¬ (false = true) by decide)] at H; exact H
                  clear H
                  have H := H1
                  clear H1
                  have H' := zaa.mk H
                  clear H
                  go_wp2
                  go_roundg kj17
                  case measure => have := HK1.out; have := HJ9.out; have := HK3.out; have := HK4.out; have := HJ17.out; omega
                  case rel => exact ⟨(x3_4), (false), (wrap64 (x31_4 + 1)), (by first | rfl | (simp; done) | (simp [*]; done)), (by first | rfl | (simp; done) | (simp [*]; done)), H', ⟨by have := HK1.out; have := HJ9.out; have := HK3.out; have := HK4.out; have := HJ17.out; omega⟩, ⟨by (with_reducible repeat (first | apply yah | apply yai | apply yaj)); exact HO_3.out⟩, ⟨by (with_reducible repeat (first | apply yah | apply yai | apply yaj)); exact HO_12.out⟩, ⟨by repeat (first | (with_reducible first | exact HI0.out | apply zaz.alloc | apply zaz.drewN | apply zaz.drew) | exact HI0.out)⟩, ⟨by repeat (first | (with_reducible first | exact HK.out | apply zaf.set_ | apply zaj | apply zal | apply zak) | exact HK.out)⟩, ⟨by repeat (first | (with_reducible first | exact HB.out | apply zac | apply zab | apply zad | refine zah ?_ (zaz.ge HI0.out)) | exact HB.out)⟩⟩
             ·rw [if_neg c16] at H
              have c16b0 : decide (x31_4 < x7_9) = false := decide_eq_false c16
              clear c16
              have H' := zaa.mk H
              clear H
              go_wp2
              go_roundg k4
              case measure => have := HK1.out; have := HJ9.out; have := HK3.out; have := HK4.out; omega
              case rel => exact ⟨(x3_4), (wrap64 (x8_3 + 1)), (by first | rfl | (simp; done) | (simp [*]; done)), H', ⟨by have := HK1.out; have := HJ9.out; have := HK3.out; have := HK4.out; omega⟩, ⟨by (with_reducible repeat (first | apply yah | apply yai | apply yaj)); exact HO_3.out⟩, ⟨by (with_reducible repeat (first | apply yah | apply yai | apply yaj)); exact HO_12.out⟩, ⟨by repeat (first | (with_reducible first | exact HI0.out | apply zaz.alloc | apply zaz.drewN | apply zaz.drew) | exact HI0.out)⟩, ⟨by repeat (first | (with_reducible first | exact HK.out | apply zaf.set_ | apply zaj | apply zal | apply zak) | exact HK.out)⟩, ⟨by repeat (first | (with_reducible first | exact HB.out | apply zac | apply zab | apply zad | refine zah ?_ (zaz.ge HI0.out)) | exact HB.out)⟩⟩
          ·rw [if_neg c15] at H
           have c15b0 : decide (x8_3 < x6_9) = false := decide_eq_false c15
           clear c15
           have H' := zaa.mk H
           clear H
           go_wp2
           go_roundg k3
           case measure => have := HK1.out; have := HJ9.out; have := HK3.out; omega
           case rel => exact ⟨(x3_3), (wrap64 (x14_1 + 1)), (by first | rfl | (simp; done) | (simp [*]; done)), H', ⟨by have := HK1.out; have := HJ9.out; have := HK3.out; omega⟩, ⟨by (with_reducible repeat (first | apply yah | apply yai | apply yaj)); exact HO_3.out⟩, ⟨by (with_reducible repeat (first | apply yah | apply yai | apply yaj)); exact HO_12.out⟩, ⟨by repeat (first | (with_reducible first | exact HI0.out | apply zaz.alloc | apply zaz.drewN | apply zaz.drew) | exact HI0.out)⟩, ⟨by repeat (first | (with_reducible first | exact HK.out | apply zaf.set_ | apply zaj | apply zal | apply zak) | exact HK.out)⟩, ⟨by repeat (first | (with_reducible first | exact HB.out | apply zac | apply zab | apply zad | refine zah ?_ (zaz.ge HI0.out)) | exact HB.out)⟩⟩
     ·rw [if_neg c7] at H
      exact absurd H (by simp)
    ·rw [if_neg c6] at H
     exact absurd H (by simp)
   ·rw [if_neg c5] at H
    have c5b0 : decide (x14_1 < (y306.length : Int)) = false := decide_eq_false c5
    clear c5
    obtain rfl := Option.some.inj H
    go_wp2
    go_ret
    exact ⟨_, by first | rfl | (simp [zan, zam] <;> rfl) | (simp [*, zan, zam] <;> rfl), by (with_reducible repeat (first | apply yah | apply yai | apply yaj)); exact HO_3.out, by repeat (first | (with_reducible first | exact HI0.out | apply zaz.alloc | apply zaz.drewN | apply zaz.drew) | exact HI0.out), by repeat (first | (with_reducible first | exact HB.out | apply zac | apply zab | apply zad | refine zah ?_ (zaz.ge HI0.out)) | exact HB.out), by repeat (first | (with_reducible first | exact HK.out | apply zaf.set_ | apply zaj | apply zal | apply zak) | exact HK.out)⟩
end Go.Proofs.Ytaepgogafkmooaa.PB
namespace Go.Proofs.Ytaepgogafkmooaa.PB
open Go.RowKit Go.PW.PrintWords Go.PW.PrintLast Go.PW.PrintMore
attribute [local go_sem] zcb zbz max_two min_two zbs zbr zca zby   -- for this text's walks alone
mutual
def spec_l2Upright.l0 : Nat → List ByteArray → List (List Int) → Int → Option ((List (List Int)))
 | 0, _, _, _ => none
 | k + 1, x0, x3, x4 => if 0 < (x0.length : Int) then (if x4 < ((rdOf yad x0 0).size : Int) then (spec_l2Upright.l1 k x0 x3 x4 (-1) 0) else (some x3)) else (none)
def spec_l2Upright.l1 : Nat → List ByteArray → List (List Int) → Int → Int → Int → Option ((List (List Int)))
 | 0, _, _, _, _, _ => none
 | k + 1, x0, x3, x4, x5, x6 => if x6 ≤ (x0.length : Int) then (if x6 < (x0.length : Int) then (if 0 ≤ x6 then (if 0 ≤ (wrap64 (x4 - 1)) then (if (wrap64 (x4 - 1)) < ((rdOf yad x0 x6).size : Int) then (if 0 ≤ x4 then (if x4 < ((rdOf yad x0 x6).size : Int) then (spec_l2Upright.j2 k x0 x3 x4 x5 x6 ((bt (rdOf yad x0 x6) (wrap64 (x4 - 1))) != (bt (rdOf yad x0 x6) x4))) else (none)) else (none)) else (none)) else (none)) else (none)) else (spec_l2Upright.j2 k x0 x3 x4 x5 x6 false)) else (spec_l2Upright.l0 k x0 x3 (wrap64 (x4 + 1)))
def spec_l2Upright.j2 : Nat → List ByteArray → List (List Int) → Int → Int → Int → Bool → Option ((List (List Int)))
 | 0, _, _, _, _, _, _ => none
 | k + 1, x0, x3, x4, x5, x6, x7 => if x7 = true then (spec_l2Upright.j3 k x0 x3 x4 x5 x6 x7 (decide (x5 < 0))) else (spec_l2Upright.j3 k x0 x3 x4 x5 x6 x7 false)
def spec_l2Upright.j3 : Nat → List ByteArray → List (List Int) → Int → Int → Int → Bool → Bool → Option ((List (List Int)))
 | 0, _, _, _, _, _, _, _ => none
 | k + 1, x0, x3, x4, x5, x6, x7, x47 => if x47 = true then (if x7 = true then (spec_l2Upright.l1 k x0 x3 x4 x6 (wrap64 (x6 + 1))) else (if x6 ≥ 0 then (if x3.length < 5864062014805 then (spec_l2Upright.l1 k x0 (x3 ++ [(([x4, x6, 0] : List Int))]) x4 (-1) (wrap64 (x6 + 1))) else (none)) else (spec_l2Upright.l1 k x0 x3 x4 x6 (wrap64 (x6 + 1))))) else (if x7 = true then (spec_l2Upright.l1 k x0 x3 x4 x5 (wrap64 (x6 + 1))) else (if x5 ≥ 0 then (if x3.length < 5864062014805 then (spec_l2Upright.l1 k x0 (x3 ++ [(([x4, x5, wrap64 (x6 - x5)] : List Int))]) x4 (-1) (wrap64 (x6 + 1))) else (none)) else (spec_l2Upright.l1 k x0 x3 x4 x5 (wrap64 (x6 + 1)))))
end
def spec_l2Upright.f (k : Nat) (l0 : List ByteArray) : Option ((List (List Int))) := spec_l2Upright.l0 k l0 (([] : List (List Int))) 1
set_option maxHeartbeats 8000000 in
set_option maxRecDepth 100000 in
theorem spec_l2Upright.calls (k : Nat) (A0 : Option Addr) (c0 : Nat) (l0 : List ByteArray) (r : List (List Int)) (w : World) (hr0 : Kd.C Kd.string w A0 l0.length l0) (hc0 : l0.length ≤ c0) (h : spec_l2Upright.f k l0 = some r) :
  Calls Try.prog 85 #[.slice A0 l0.length c0] w fun e w' => ∃ v0_ : Value, e = .returned (v0_) ∧ Kd.S (Kd.slice 3 (Kd.int .i64)) 39 w' w.heap.size (fun _ => True) v0_ r ∧ Below w.heap.size w w' := by
 have HR0 := zaa.mk hr0
 have HC0 := zaa.mk hc0
 clear hr0 hc0
 have HB := zaa.mk (Below.refl w.heap.size w)
 have H : (spec_l2Upright.l0 k l0 (([] : List (List Int))) 1) = some r := h
 clear h
 obtain ⟨y321, hy321⟩ : ∃ y_ : List (List Int), y_ = (([] : List (List Int))) := ⟨_, rfl⟩
 replace H : (spec_l2Upright.l0 k l0 y321 1) = some r := by first | (rw [hy321]; with_reducible exact H) | (have H2_ := (yaf _ _).symm.trans H; rw [hy321]; with_reducible exact H2_) | (have H2_ := (yaf _ _).symm.trans H; with_reducible exact H2_) | with_reducible exact H | (rw [hy321]; exact H) | exact H
 have Ny321 := zaa.mk hy321
 clear hy321
 have H' := zaa.mk H
 clear H
 go_enter Try.func85, Try.ntmps85
 go_wp2_with (first | ((with_reducible refine zbc (N := 8) rfl ?_); refine Kd.S_lit (Kd.slice 3 (Kd.int .i64)) _ 39 ?hg (N := 8) ?hd (xs := ([] : List (List Int))) (inner := []) (ok := fun _ => True) (okp := fun _ => True) ?hr ?hp (fun _ hk => hk) trivial (Below.refl _ _) (yag _) (by simp) ?_; (case hd => rfl); (case hg => rfl); (case hr => first | (go_simp; done) | (go_simp; rfl)); (case hp => exact (Reps.none _ _)); intro v322 w2 ho3 hb hg_ hnew_; clear hg_ hnew_; (first | rw [← Ny321.out] at ho3 | (simp only [Int.reduceToNat] at ho3; rw [← Ny321.out] at ho3)); have n0_ := zaa.mk (Kd.S_lower ho3 (zai (by repeat (first | (with_reducible first | exact HB.out | apply zac | apply zab | apply zad) | exact HB.out)))); have n1_ := zaa.mk (zag (by repeat (first | (with_reducible first | exact HB.out | apply zac | apply zab | apply zad) | exact HB.out)) hb); clear HB; have HO323 := n0_; have HB := n1_; clear n0_ n1_; clear hb ho3))
 repeat (go_quiet (fail); try go_wp2_with (fail))
 go_loopg [3, 4] k (fun kq v3 v4 w' => ∃ (x3_1 : List (List Int)) (x4_1 : Int), v4 = .int .i64 x4_1 ∧ zaa (spec_l2Upright.l0 kq l0 x3_1 x4_1 = some r) ∧ zaa (kq ≤ k) ∧ zaa (Kd.S (Kd.slice 3 (Kd.int .i64)) 39 w' w.heap.size (fun _ => True) v3 x3_1) ∧ zaa (Below w.heap.size w w'))
 case atStart => exact ⟨(y321), (1), (by first | rfl | (simp; done) | (simp [*]; done)), H', ⟨yag _⟩, ⟨by (with_reducible repeat (first | apply yak | apply yal | apply yam)); exact HO323.out⟩, ⟨by repeat (first | (with_reducible first | exact HB.out | apply zac | apply zab | apply zad) | exact HB.out)⟩⟩
 case round =>
  clear H'
  try clear p2
  obtain ⟨x3_1, x4_1, rfl, HA, HK1, HO_3, HB⟩ := hrel
  cases gk with
  | zero => exact absurd HA.out (by simp [spec_l2Upright.l0])
  | succ k1 =>
   have H := HA.out
   clear HA
   simp only [spec_l2Upright.l0] at H
   by_cases c4 : 0 < (l0.length : Int)
   ·rw [if_pos c4] at H
    have c4b0 : decide (0 < (l0.length : Int)) = true := decide_eq_true c4
    have c4b1 : decide (0 < l0.length) = true := decide_eq_true (by omega)
    clear c4
    by_cases c5 : x4_1 < ((rdOf yad l0 0).size : Int)
    ·rw [if_pos c5] at H
     have c5b0 : decide (x4_1 < ((rdOf yad l0 0).size : Int)) = true := decide_eq_true c5
     clear c5
     have H' := zaa.mk H
     clear H
     have p324 : 0 ≤ (0 : Int) := (by omega)
     have q324 : 0 < (l0.length : Int) := of_decide_eq_true (by assumption)
     obtain ⟨ad324, e324, hx324_0⟩ := Kd.at_string HR0.out 0 p324 q324
     cases e324
     have qi324 : (0 < l0.length) = True := eq_true (by omega)
     (try rw [show ((0 : Int)).toNat = 0 from rfl] at hx324_0)
     (try rw [Addr.add_zero'] at hx324_0)
     replace hx324_0 := (HB.out.cell (World.block_lt_of_cell? w _ hx324_0)).trans hx324_0
     replace p324 := eq_true p324
     replace q324 := eq_true q324
     go_wp2
     repeat (go_quiet (fail); try go_wp2)
     go_loopg [3, 5, 6] k1 (fun kq v3 v5 v6 w' => ∃ (x3_2 : List (List Int)) (x5_2 : Int) (x6_2 : Int), v5 = .int .i64 x5_2 ∧ v6 = .int .i64 x6_2 ∧ zaa (spec_l2Upright.l1 kq l0 x3_2 x4_1 x5_2 x6_2 = some r) ∧ zaa (kq ≤ k1) ∧ zaa (Kd.S (Kd.slice 3 (Kd.int .i64)) 39 w' w.heap.size (fun _ => True) v3 x3_2) ∧ zaa (Below w.heap.size w w'))
     case atStart => exact ⟨(x3_1), ((-1)), (0), (by first | rfl | (simp; done) | (simp [*]; done)), (by first | rfl | (simp; done) | (simp [*]; done)), H', ⟨yag _⟩, ⟨by (with_reducible repeat (first | apply yak | apply yal | apply yam)); exact HO_3.out⟩, ⟨by repeat (first | (with_reducible first | exact HB.out | apply zac | apply zab | apply zad) | exact HB.out)⟩⟩
     case round =>
      clear H'
      try clear p2
      try clear p3
      try clear q3
      try clear hx3
      try clear qi3
      try clear c4
      try clear c4b0
      try clear c4b1
      try clear c5
      try clear c5b0
      try clear hx324_0
      try clear p2
      try clear p324
      try clear q324
      obtain ⟨x3_2, x5_2, x6_2, rfl, rfl, HA, HK2, HO_3, HB⟩ := hrel
      cases gk with
      | zero => exact absurd HA.out (by simp [spec_l2Upright.l1])
      | succ k2 =>
       have H := HA.out
       clear HA
       simp only [spec_l2Upright.l1] at H
       by_cases c6 : x6_2 ≤ (l0.length : Int)
       ·rw [if_pos c6] at H
        have c6b0 : decide (x6_2 ≤ (l0.length : Int)) = true := decide_eq_true c6
        clear c6
        have HC7 := zaa.mk H
        clear H
        go_upto_region 9 with (fail)
        repeat (go_quiet (fail); go_upto_region 9 with (fail))
        go_cut [7] (fun v7 wc => ∃ (kq : Nat) (x7_6 : Bool), v7 = .bool x7_6 ∧ zaa (spec_l2Upright.j2 kq l0 x3_2 x4_1 x5_2 x6_2 x7_6 = some r) ∧ zaa (kq ≤ k2) ∧ zaa (Kd.S (Kd.slice 3 (Kd.int .i64)) 39 wc w.heap.size (fun _ => True) u3 x3_2) ∧ zaa (Below w.heap.size w wc))
        case first =>
         have H := HC7.out
         clear HC7
         by_cases c8 : x6_2 < (l0.length : Int)
         ·rw [if_pos c8] at H
          have c8b0 : decide (x6_2 < (l0.length : Int)) = true := decide_eq_true c8
          clear c8
          (first | rw [c8b0] | (simp only [zar, zas]; rw [c8b0]) | skip)
          by_cases c9 : 0 ≤ x6_2
          ·rw [if_pos c9] at H
           have c9b0 : decide (0 ≤ x6_2) = true := decide_eq_true c9
           clear c9
           obtain ⟨ji10, hji10⟩ : ∃ j_ : Int, (wrap64 (x4_1 - 1)) = j_ := ⟨_, rfl⟩
           replace H : (if 0 ≤ (ji10) then (if (ji10) < ((rdOf yad l0 x6_2).size : Int) then (if 0 ≤ x4_1 then (if x4_1 < ((rdOf yad l0 x6_2).size : Int) then (spec_l2Upright.j2 k2 l0 x3_2 x4_1 x5_2 x6_2 ((bt (rdOf yad l0 x6_2) (ji10)) != (bt (rdOf yad l0 x6_2) x4_1))) else (none)) else (none)) else (none)) else (none)) = some r := by first | (rw [hji10] at H; exact H) | (simp only [hji10] at H ⊢; exact H)
           have hji10w : (IntKind.i64.wrap (x4_1 - 1)) = ji10 := (zar _).trans hji10
           by_cases c11 : 0 ≤ (ji10)
           ·rw [if_pos c11] at H
            have c11b0 : decide (0 ≤ (ji10)) = true := decide_eq_true c11
            clear c11
            by_cases c12 : (ji10) < ((rdOf yad l0 x6_2).size : Int)
            ·rw [if_pos c12] at H
             have c12b0 : decide ((ji10) < ((rdOf yad l0 x6_2).size : Int)) = true := decide_eq_true c12
             clear c12
             by_cases c14 : 0 ≤ x4_1
             ·rw [if_pos c14] at H
              have c14b0 : decide (0 ≤ x4_1) = true := decide_eq_true c14
              clear c14
              by_cases c15 : x4_1 < ((rdOf yad l0 x6_2).size : Int)
              ·rw [if_pos c15] at H
               have c15b0 : decide (x4_1 < ((rdOf yad l0 x6_2).size : Int)) = true := decide_eq_true c15
               clear c15
               have H' := zaa.mk H
               clear H
               have p325 : 0 ≤ (x6_2 : Int) := of_decide_eq_true (by assumption)
               have q325 : x6_2 < (l0.length : Int) := of_decide_eq_true (by assumption)
               obtain ⟨ad325, e325, hx325_0⟩ := Kd.at_string HR0.out x6_2 p325 q325
               obtain rfl : ad324 = ad325 := (by injection e325)
               replace hx325_0 := (HB.out.cell (World.block_lt_of_cell? w _ hx325_0)).trans hx325_0
               replace p325 := eq_true p325
               replace q325 := eq_true q325
               have p13 : 0 ≤ ((ji10) : Int) := of_decide_eq_true (by assumption)
               have q13 : (ji10) < ((rdOf yad l0 x6_2).size : Int) := of_decide_eq_true (by assumption)
               have hx13 := bt_at (rdOf yad l0 x6_2) (ji10)
               replace p13 := eq_true p13
               replace q13 := eq_true q13
               have p326 : 0 ≤ (x6_2 : Int) := of_decide_eq_true (by assumption)
               have q326 : x6_2 < (l0.length : Int) := of_decide_eq_true (by assumption)
               obtain ⟨ad326, e326, hx326_0⟩ := Kd.at_string HR0.out x6_2 p326 q326
               obtain rfl : ad324 = ad326 := (by injection e326)
               replace hx326_0 := (HB.out.cell (World.block_lt_of_cell? w _ hx326_0)).trans hx326_0
               replace p326 := eq_true p326
               replace q326 := eq_true q326
               have p16 : 0 ≤ (x4_1 : Int) := of_decide_eq_true (by assumption)
               have q16 : x4_1 < ((rdOf yad l0 x6_2).size : Int) := of_decide_eq_true (by assumption)
               have hx16 := bt_at (rdOf yad l0 x6_2) x4_1
               replace p16 := eq_true p16
               replace q16 := eq_true q16
               go_wp2
               repeat (go_quiet (fail); try go_wp2)
               go_meet
               case rel => exact ⟨_, (((bt (rdOf yad l0 x6_2) (ji10)) != (bt (rdOf yad l0 x6_2) x4_1))), (by first | rfl | (simp; done) | (simp only [← hji10] <;> (first | rfl | simp)) | (simp [*]; done)), H', ⟨by have := HK1.out; have := HK2.out; first | omega | exact yag _⟩, ⟨by (with_reducible repeat (first | apply yak | apply yal | apply yam)); exact HO_3.out⟩, ⟨by repeat (first | (with_reducible first | exact HB.out | apply zac | apply zab | apply zad) | exact HB.out)⟩⟩
              ·rw [if_neg c15] at H
               exact absurd H (by simp)
             ·rw [if_neg c14] at H
              exact absurd H (by simp)
            ·rw [if_neg c12] at H
             exact absurd H (by simp)
           ·rw [if_neg c11] at H
            exact absurd H (by simp)
          ·rw [if_neg c9] at H
           exact absurd H (by simp)
         ·rw [if_neg c8] at H
          have c8b0 : decide (x6_2 < (l0.length : Int)) = false := decide_eq_false c8
          clear c8
          (first | rw [c8b0] | (simp only [zar, zas]; rw [c8b0]) | skip)
          have H' := zaa.mk H
          clear H
          go_wp2
          repeat (go_quiet (fail); try go_wp2)
          go_meet
          case rel => exact ⟨_, (false), (by first | rfl | (simp; done) | (simp [*]; done)), H', ⟨by have := HK1.out; have := HK2.out; first | omega | exact yag _⟩, ⟨by (with_reducible repeat (first | apply yak | apply yal | apply yam)); exact HO_3.out⟩, ⟨by repeat (first | (with_reducible first | exact HB.out | apply zac | apply zab | apply zad) | exact HB.out)⟩⟩
        case rest =>
         clear HC7
         try clear c1
         try clear p1
         try clear q1
         try clear hx1
         try clear p2
         try clear p3
         try clear q3
         try clear hx3
         try clear qi3
         try clear c4
         try clear c4b0
         try clear c4b1
         try clear c5
         try clear c5b0
         try clear c6
         try clear c6b0
         try clear p6
         try clear c8
         try clear c8b0
         try clear c9
         try clear c9b0
         try clear c11
         try clear c11b0
         try clear c12
         try clear c12b0
         try clear p13
         try clear q13
         try clear hx13
         try clear c14
         try clear c14b0
         try clear c15
         try clear c15b0
         try clear p16
         try clear q16
         try clear hx16
         try clear hx324_0
         try clear hx325_0
         try clear hx326_0
         try clear p13
         try clear p16
         try clear p2
         try clear p3
         try clear p324
         try clear p325
         try clear p326
         try clear q13
         try clear q16
         try clear q3
         try clear q324
         try clear q325
         try clear q326
         obtain ⟨kq, x7_6, rfl, HA, HJ6, HO_3, HB⟩ := hcut
         cases kq with
         | zero => exact absurd HA.out (by simp [spec_l2Upright.j2])
         | succ kj6 =>
          have H := HA.out
          clear HA
          simp only [spec_l2Upright.j2] at H
          have HC17 := zaa.mk H
          clear H
          go_upto_region 10 with (fail)
          repeat (go_quiet (fail); go_upto_region 10 with (fail))
          go_cut [47] (fun v47 wc => ∃ (kq : Nat) (x47_16 : Bool), v47 = .bool x47_16 ∧ zaa (spec_l2Upright.j3 kq l0 x3_2 x4_1 x5_2 x6_2 x7_6 x47_16 = some r) ∧ zaa (kq ≤ kj6) ∧ zaa (Kd.S (Kd.slice 3 (Kd.int .i64)) 39 wc w.heap.size (fun _ => True) u3 x3_2) ∧ zaa (Below w.heap.size w wc))
          case first =>
           have H := HC17.out
           clear HC17
           by_cases c18 : x7_6 = true
           ·subst c18
            have H1 : (spec_l2Upright.j3 kj6 l0 x3_2 x4_1 x5_2 x6_2 true (decide (x5_2 < 0))) = some r := by rw [if_pos rfl] at H; exact H
            clear H
            have H := H1
            clear H1
            have H' := zaa.mk H
            clear H
            go_wp2
            repeat (go_quiet (fail); try go_wp2)
            go_meet
            case rel => exact ⟨_, (decide (x5_2 < 0)), (by first | rfl | (simp; done) | (simp [*]; done)), H', ⟨by have := HK1.out; have := HK2.out; have := HJ6.out; first | omega | exact yag _⟩, ⟨by (with_reducible repeat (first | apply yak | apply yal | apply yam)); exact HO_3.out⟩, ⟨by repeat (first | (with_reducible first | exact HB.out | apply zac | apply zab | apply zad) | exact HB.out)⟩⟩
           ·replace c18 := Bool.eq_false_iff.mpr c18
            subst c18
            have H1 : (spec_l2Upright.j3 kj6 l0 x3_2 x4_1 x5_2 x6_2 false false) = some r := by rw [if_neg (show ¬ (false = true) by decide)] at H; exact H
            clear H
            have H := H1
            clear H1
            have H' := zaa.mk H
            clear H
            go_wp2
            repeat (go_quiet (fail); try go_wp2)
            go_meet
            case rel => exact ⟨_, (false), (by first | rfl | (simp; done) | (simp [*]; done)), H', ⟨by have := HK1.out; have := HK2.out; have := HJ6.out; first | omega | exact yag _⟩, ⟨by (with_reducible repeat (first | apply yak | apply yal | apply yam)); exact HO_3.out⟩, ⟨by repeat (first | (with_reducible first | exact HB.out | apply zac | apply zab | apply zad) | exact HB.out)⟩⟩
          case rest =>
           clear HC17
           try clear c1
           try clear p1
           try clear q1
           try clear hx1
           try clear p2
           try clear p3
           try clear q3
           try clear hx3
           try clear qi3
           try clear c4
           try clear c4b0
           try clear c4b1
           try clear c5
           try clear c5b0
           try clear c6
           try clear c6b0
           try clear p6
           try clear c8
           try clear c8b0
           try clear c9
           try clear c9b0
           try clear c11
           try clear c11b0
           try clear c12
           try clear c12b0
           try clear p13
           try clear q13
           try clear hx13
           try clear c14
           try clear c14b0
           try clear c15
           try clear c15b0
           try clear p16
           try clear q16
           try clear hx16
           try clear c18
           try clear hx324_0
           try clear hx325_0
           try clear hx326_0
           try clear p1
           try clear p13
           try clear p16
           try clear p2
           try clear p3
           try clear p324
           try clear p325
           try clear p326
           try clear p6
           try clear q1
           try clear q13
           try clear q16
           try clear q3
           try clear q324
           try clear q325
           try clear q326
           obtain ⟨kq, x47_16, rfl, HA, HJ16, HO_3, HB⟩ := hcut
           cases kq with
           | zero => exact absurd HA.out (by simp [spec_l2Upright.j3])
           | succ kj16 =>
            have H := HA.out
            clear HA
            simp only [spec_l2Upright.j3] at H
            by_cases c19 : x47_16 = true
            ·subst c19
             have H1 : (if x7_6 = true then (spec_l2Upright.l1 kj16 l0 x3_2 x4_1 x6_2 (wrap64 (x6_2 + 1))) else (if x6_2 ≥ 0 then (if x3_2.length < 5864062014805 then (spec_l2Upright.l1 kj16 l0 (x3_2 ++ [(([x4_1, x6_2, 0] : List Int))]) x4_1 (-1) (wrap64 (x6_2 + 1))) else (none)) else (spec_l2Upright.l1 kj16 l0 x3_2 x4_1 x6_2 (wrap64 (x6_2 + 1))))) = some r := by rw [if_pos rfl] at H; exact H
             clear H
             have H := H1
             clear H1
             by_cases c20 : x7_6 = true
             ·subst c20
              have H1 : (spec_l2Upright.l1 kj16 l0 x3_2 x4_1 x6_2 (wrap64 (x6_2 + 1))) = some r := by rw [if_pos rfl] at H; exact H
              clear H
              have H := H1
              clear H1
              have H' := zaa.mk H
              clear H
              go_wp2
              repeat (go_quiet (fail); try go_wp2)
              go_roundg kj16
              case measure => have := HK1.out; have := HK2.out; have := HJ6.out; have := HJ16.out; omega
              case rel => exact ⟨(x3_2), (x6_2), (wrap64 (x6_2 + 1)), (by first | rfl | (simp; done) | (simp [*]; done)), (by first | rfl | (simp; done) | (simp [*]; done)), H', ⟨by have := HK1.out; have := HK2.out; have := HJ6.out; have := HJ16.out; omega⟩, ⟨by (with_reducible repeat (first | apply yak | apply yal | apply yam)); exact HO_3.out⟩, ⟨by repeat (first | (with_reducible first | exact HB.out | apply zac | apply zab | apply zad) | exact HB.out)⟩⟩
             ·replace c20 := Bool.eq_false_iff.mpr c20
              subst c20
              have H1 : (if x6_2 ≥ 0 then (if x3_2.length < 5864062014805 then (spec_l2Upright.l1 kj16 l0 (x3_2 ++ [(([x4_1, x6_2, 0] : List Int))]) x4_1 (-1) (wrap64 (x6_2 + 1))) else (none)) else (spec_l2Upright.l1 kj16 l0 x3_2 x4_1 x6_2 (wrap64 (x6_2 + 1)))) = some r := by rw [if_neg (show ¬ (false = true) by decide)] at H; exact H
              clear H
              have H := H1
              clear H1
              by_cases c21 : x6_2 ≥ 0
              ·rw [if_pos c21] at H
               have c21b0 : decide (0 ≤ x6_2) = true := decide_eq_true c21
               clear c21
               obtain ⟨y327, hy327⟩ : ∃ y_ : List Int, y_ = (([x4_1, x6_2, 0] : List Int)) := ⟨_, rfl⟩
               replace H : (if x3_2.length < 5864062014805 then (spec_l2Upright.l1 kj16 l0 (x3_2 ++ [y327]) x4_1 (-1) (wrap64 (x6_2 + 1))) else (none)) = some r := by first | (rw [hy327]; with_reducible exact H) | (have H2_ := (yaf _ _).symm.trans H; rw [hy327]; with_reducible exact H2_) | (have H2_ := (yaf _ _).symm.trans H; with_reducible exact H2_) | with_reducible exact H | (rw [hy327]; exact H) | exact H
               have Ny327 := zaa.mk hy327
               clear hy327
               by_cases c22 : x3_2.length < 5864062014805
               ·rw [if_pos c22] at H
                have LMc22 := zaa.mk c22
                clear c22
                obtain ⟨y330, hy330⟩ : ∃ y_ : List (List Int), y_ = (x3_2 ++ [y327]) := ⟨_, rfl⟩
                replace H : (spec_l2Upright.l1 kj16 l0 y330 x4_1 (-1) (wrap64 (x6_2 + 1))) = some r := by first | (rw [hy330]; with_reducible exact H) | (have H2_ := (yaf _ _).symm.trans H; rw [hy330]; with_reducible exact H2_) | (have H2_ := (yaf _ _).symm.trans H; with_reducible exact H2_) | with_reducible exact H | (rw [hy330]; exact H) | exact H
                have Ny330 := zaa.mk hy330
                clear hy330
                have H' := zaa.mk H
                clear H
                go_wp2_with (first | ((with_reducible refine zbc (N := 61) rfl ?_); refine Kd.R_lit (Kd.int .i64) _ 3 ?hg (N := 61) ?hd (xs := ([x4_1, x6_2, 0] : List Int)) (inner := [.int .i64 x4_1, .int .i64 x6_2, .int .i64 0]) (ok := fun _ => True) (okp := fun _ => True) ?hr ?hp (fun _ hk => hk) trivial (Below.refl _ _) (yag _) (by simp) ?_; (case hd => rfl); (case hg => rfl); (case hr => first | (go_simp; done) | (go_simp; rfl)); (case hp => exact (Reps.one (show Kd.M (Kd.int .i64) _ _ _ x4_1 [.int .i64 x4_1] from rfl) (Reps.one (show Kd.M (Kd.int .i64) _ _ _ x6_2 [.int .i64 x6_2] from rfl) (Reps.one (show Kd.M (Kd.int .i64) _ _ _ 0 [.int .i64 0] from rfl) (Reps.none _ _))))); intro v328 w23 ho24 hb hg_ hnew_; clear hg_ hnew_; (first | rw [← Ny327.out] at ho24 | (simp only [Int.reduceToNat] at ho24; rw [← Ny327.out] at ho24)); have n0_ := zaa.mk (Kd.S_elder' (by (with_reducible repeat (first | apply yak | apply yal | apply yam)); exact HO_3.out) (Kd.R_base ho24) hb); have n1_ := zaa.mk (Kd.R_lower ho24 (zai (by repeat (first | (with_reducible first | exact HB.out | apply zac | apply zab | apply zad) | exact HB.out)))); have n2_ := zaa.mk (zag (by repeat (first | (with_reducible first | exact HB.out | apply zac | apply zab | apply zad) | exact HB.out)) hb); clear HO_3; clear HB; have HO_3 := n0_; have HO329 := n1_; have HB := n2_; clear n0_ n1_ n2_; clear hb ho24; obtain ⟨Ao26, co26, eo26⟩ := Kd.R_slice HO329.out; subst eo26) | ((with_reducible refine zay (b := .append) (xs := #[.tmp 55, .tmp 62]) rfl ?_); at_builtin; refine Kd.S_append (Kd.slice 3 (Kd.int .i64)) (w0 := w) w.heap.size rfl (.tmp 55) (.tmp 62) 36 39 (.slice none 0 0) 24 rfl Try.underlying36 info39 rfl (by decide) (by omega) u3 x3_2 y327 [.slice Ao26 y327.length co26] (fun _ => True) (fun k_ => some k_ = (.slice Ao26 y327.length co26 : Value).ownBlock) rfl rfl ?aP (fun k_ hk_ => ((Kd.R_mono (ok' := fun k_ => ((fun _ => True)) k_ ∧ some k_ ≠ (u3 : Value).ownBlock) (Kd.R_apart' (HO329.out) (Kd.S_typed HO_3.out) (by decide)) (fun k_ hk => ⟨trivial, hk.2⟩))).1 k_ hk_.symm) ?aF ?aO ?aB ?aS ?aL ?_; (case aP => exact Kd.M_row (Kd.R_mono (Kd.R_tight rfl (Kd.R_mono (ok' := fun k_ => ((fun _ => True)) k_ ∧ some k_ ≠ (u3 : Value).ownBlock) (Kd.R_apart' (HO329.out) (Kd.S_typed HO_3.out) (by decide)) (fun k_ hk => ⟨trivial, hk.2⟩))) (fun _ h_ => h_))); (case aB => exact (by repeat (first | (with_reducible first | exact HB.out | apply zac | apply zab | apply zad) | exact HB.out))); (case aF => exact (fun _ _ => trivial)); (case aO => exact (by (with_reducible repeat (first | apply yak | apply yal | apply yam)); exact Kd.S_mono HO_3.out (fun k_ hk => ⟨trivial, fun e_ => hk.2 e_⟩))); (case aS => exact (zai (by repeat (first | (with_reducible first | exact HB.out | apply zac | apply zab | apply zad) | exact HB.out)))); (case aL => have := LMc22.out; omega); intro v331 w25 ho hb hg hat; rw [← Ny330.out] at ho; have n0_ := zaa.mk (hb); have n1_ := zaa.mk (ho); clear HB; clear HO_3; clear HO329; have HB := n0_; have HO332 := n1_; clear n0_ n1_; clear ho hb hg hat))
                repeat (go_quiet (fail); try go_wp2_with (fail))
                go_roundg kj16
                case measure => have := HK1.out; have := HK2.out; have := HJ6.out; have := HJ16.out; omega
                case rel => exact ⟨(y330), ((-1)), (wrap64 (x6_2 + 1)), (by first | rfl | (simp; done) | (simp [*]; done)), (by first | rfl | (simp; done) | (simp [*]; done)), H', ⟨by have := HK1.out; have := HK2.out; have := HJ6.out; have := HJ16.out; omega⟩, ⟨by (with_reducible repeat (first | apply yak | apply yal | apply yam)); exact HO332.out⟩, ⟨by repeat (first | (with_reducible first | exact HB.out | apply zac | apply zab | apply zad) | exact HB.out)⟩⟩
               ·rw [if_neg c22] at H
                exact absurd H (by simp)
              ·rw [if_neg c21] at H
               have c21b0 : decide (0 ≤ x6_2) = false := decide_eq_false c21
               clear c21
               have H' := zaa.mk H
               clear H
               go_wp2
               repeat (go_quiet (fail); try go_wp2)
               go_roundg kj16
               case measure => have := HK1.out; have := HK2.out; have := HJ6.out; have := HJ16.out; omega
               case rel => exact ⟨(x3_2), (x6_2), (wrap64 (x6_2 + 1)), (by first | rfl | (simp; done) | (simp [*]; done)), (by first | rfl | (simp; done) | (simp [*]; done)), H', ⟨by have := HK1.out; have := HK2.out; have := HJ6.out; have := HJ16.out; omega⟩, ⟨by (with_reducible repeat (first | apply yak | apply yal | apply yam)); exact HO_3.out⟩, ⟨by repeat (first | (with_reducible first | exact HB.out | apply zac | apply zab | apply zad) | exact HB.out)⟩⟩
            ·replace c19 := Bool.eq_false_iff.mpr c19
             subst c19
             have H1 : (if x7_6 = true then (spec_l2Upright.l1 kj16 l0 x3_2 x4_1 x5_2 (wrap64 (x6_2 + 1))) else (if x5_2 ≥ 0 then (if x3_2.length < 5864062014805 then (spec_l2Upright.l1 kj16 l0 (x3_2 ++ [(([x4_1, x5_2, wrap64 (x6_2 - x5_2)] : List Int))]) x4_1 (-1) (wrap64 (x6_2 + 1))) else (none)) else (spec_l2Upright.l1 kj16 l0 x3_2 x4_1 x5_2 (wrap64 (x6_2 + 1))))) = some r := by rw [if_neg (show ¬ (false = true) by decide)] at H; exact H
             clear H
             have H := H1
             clear H1
             by_cases c27 : x7_6 = true
             ·subst c27
              have H1 : (spec_l2Upright.l1 kj16 l0 x3_2 x4_1 x5_2 (wrap64 (x6_2 + 1))) = some r := by rw [if_pos rfl] at H; exact H
              clear H
              have H := H1
              clear H1
              have H' := zaa.mk H
              clear H
              go_wp2
              repeat (go_quiet (fail); try go_wp2)
              go_roundg kj16
              case measure => have := HK1.out; have := HK2.out; have := HJ6.out; have := HJ16.out; omega
              case rel => exact ⟨(x3_2), (x5_2), (wrap64 (x6_2 + 1)), (by first | rfl | (simp; done) | (simp [*]; done)), (by first | rfl | (simp; done) | (simp [*]; done)), H', ⟨by have := HK1.out; have := HK2.out; have := HJ6.out; have := HJ16.out; omega⟩, ⟨by (with_reducible repeat (first | apply yak | apply yal | apply yam)); exact HO_3.out⟩, ⟨by repeat (first | (with_reducible first | exact HB.out | apply zac | apply zab | apply zad) | exact HB.out)⟩⟩
             ·replace c27 := Bool.eq_false_iff.mpr c27
              subst c27
              have H1 : (if x5_2 ≥ 0 then (if x3_2.length < 5864062014805 then (spec_l2Upright.l1 kj16 l0 (x3_2 ++ [(([x4_1, x5_2, wrap64 (x6_2 - x5_2)] : List Int))]) x4_1 (-1) (wrap64 (x6_2 + 1))) else (none)) else (spec_l2Upright.l1 kj16 l0 x3_2 x4_1 x5_2 (wrap64 (x6_2 + 1)))) = some r := by rw [if_neg (show ¬ (false = true) by decide)] at H; exact H
              clear H
              have H := H1
              clear H1
              by_cases c28 : x5_2 ≥ 0
              ·rw [if_pos c28] at H
               have c28b0 : decide (0 ≤ x5_2) = true := decide_eq_true c28
               clear c28
               obtain ⟨y333, hy333⟩ : ∃ y_ : List Int, y_ = (([x4_1, x5_2, wrap64 (x6_2 - x5_2)] : List Int)) := ⟨_, rfl⟩
               replace H : (if x3_2.length < 5864062014805 then (spec_l2Upright.l1 kj16 l0 (x3_2 ++ [y333]) x4_1 (-1) (wrap64 (x6_2 + 1))) else (none)) = some r := by first | (rw [hy333]; with_reducible exact H) | (have H2_ := (yaf _ _).symm.trans H; rw [hy333]; with_reducible exact H2_) | (have H2_ := (yaf _ _).symm.trans H; with_reducible exact H2_) | with_reducible exact H | (rw [hy333]; exact H) | exact H
               have Ny333 := zaa.mk hy333
               clear hy333
               by_cases c29 : x3_2.length < 5864062014805
               ·rw [if_pos c29] at H
                have LMc29 := zaa.mk c29
                clear c29
                obtain ⟨y336, hy336⟩ : ∃ y_ : List (List Int), y_ = (x3_2 ++ [y333]) := ⟨_, rfl⟩
                replace H : (spec_l2Upright.l1 kj16 l0 y336 x4_1 (-1) (wrap64 (x6_2 + 1))) = some r := by first | (rw [hy336]; with_reducible exact H) | (have H2_ := (yaf _ _).symm.trans H; rw [hy336]; with_reducible exact H2_) | (have H2_ := (yaf _ _).symm.trans H; with_reducible exact H2_) | with_reducible exact H | (rw [hy336]; exact H) | exact H
                have Ny336 := zaa.mk hy336
                clear hy336
                have H' := zaa.mk H
                clear H
                go_wp2_with (first | ((with_reducible refine zbc (N := 61) rfl ?_); refine Kd.R_lit (Kd.int .i64) _ 3 ?hg (N := 61) ?hd (xs := ([x4_1, x5_2, wrap64 (x6_2 - x5_2)] : List Int)) (inner := [.int .i64 x4_1, .int .i64 x5_2, .int .i64 (wrap64 (x6_2 - x5_2))]) (ok := fun _ => True) (okp := fun _ => True) ?hr ?hp (fun _ hk => hk) trivial (Below.refl _ _) (yag _) (by simp) ?_; (case hd => rfl); (case hg => rfl); (case hr => first | (go_simp; done) | (go_simp; rfl)); (case hp => exact (Reps.one (show Kd.M (Kd.int .i64) _ _ _ x4_1 [.int .i64 x4_1] from rfl) (Reps.one (show Kd.M (Kd.int .i64) _ _ _ x5_2 [.int .i64 x5_2] from rfl) (Reps.one (show Kd.M (Kd.int .i64) _ _ _ (wrap64 (x6_2 - x5_2)) [.int .i64 (wrap64 (x6_2 - x5_2))] from rfl) (Reps.none _ _))))); intro v334 w30 ho31 hb hg_ hnew_; clear hg_ hnew_; (first | rw [← Ny333.out] at ho31 | (simp only [Int.reduceToNat] at ho31; rw [← Ny333.out] at ho31)); have n0_ := zaa.mk (Kd.S_elder' (by (with_reducible repeat (first | apply yak | apply yal | apply yam)); exact HO_3.out) (Kd.R_base ho31) hb); have n1_ := zaa.mk (Kd.R_lower ho31 (zai (by repeat (first | (with_reducible first | exact HB.out | apply zac | apply zab | apply zad) | exact HB.out)))); have n2_ := zaa.mk (zag (by repeat (first | (with_reducible first | exact HB.out | apply zac | apply zab | apply zad) | exact HB.out)) hb); clear HO_3; clear HB; have HO_3 := n0_; have HO335 := n1_; have HB := n2_; clear n0_ n1_ n2_; clear hb ho31; obtain ⟨Ao33, co33, eo33⟩ := Kd.R_slice HO335.out; subst eo33) | ((with_reducible refine zay (b := .append) (xs := #[.tmp 55, .tmp 62]) rfl ?_); at_builtin; refine Kd.S_append (Kd.slice 3 (Kd.int .i64)) (w0 := w) w.heap.size rfl (.tmp 55) (.tmp 62) 36 39 (.slice none 0 0) 24 rfl Try.underlying36 info39 rfl (by decide) (by omega) u3 x3_2 y333 [.slice Ao33 y333.length co33] (fun _ => True) (fun k_ => some k_ = (.slice Ao33 y333.length co33 : Value).ownBlock) rfl rfl ?aP (fun k_ hk_ => ((Kd.R_mono (ok' := fun k_ => ((fun _ => True)) k_ ∧ some k_ ≠ (u3 : Value).ownBlock) (Kd.R_apart' (HO335.out) (Kd.S_typed HO_3.out) (by decide)) (fun k_ hk => ⟨trivial, hk.2⟩))).1 k_ hk_.symm) ?aF ?aO ?aB ?aS ?aL ?_; (case aP => exact Kd.M_row (Kd.R_mono (Kd.R_tight rfl (Kd.R_mono (ok' := fun k_ => ((fun _ => True)) k_ ∧ some k_ ≠ (u3 : Value).ownBlock) (Kd.R_apart' (HO335.out) (Kd.S_typed HO_3.out) (by decide)) (fun k_ hk => ⟨trivial, hk.2⟩))) (fun _ h_ => h_))); (case aB => exact (by repeat (first | (with_reducible first | exact HB.out | apply zac | apply zab | apply zad) | exact HB.out))); (case aF => exact (fun _ _ => trivial)); (case aO => exact (by (with_reducible repeat (first | apply yak | apply yal | apply yam)); exact Kd.S_mono HO_3.out (fun k_ hk => ⟨trivial, fun e_ => hk.2 e_⟩))); (case aS => exact (zai (by repeat (first | (with_reducible first | exact HB.out | apply zac | apply zab | apply zad) | exact HB.out)))); (case aL => have := LMc29.out; omega); intro v337 w32 ho hb hg hat; rw [← Ny336.out] at ho; have n0_ := zaa.mk (hb); have n1_ := zaa.mk (ho); clear HB; clear HO_3; clear HO335; have HB := n0_; have HO338 := n1_; clear n0_ n1_; clear ho hb hg hat))
                repeat (go_quiet (fail); try go_wp2_with (fail))
                go_roundg kj16
                case measure => have := HK1.out; have := HK2.out; have := HJ6.out; have := HJ16.out; omega
                case rel => exact ⟨(y336), ((-1)), (wrap64 (x6_2 + 1)), (by first | rfl | (simp; done) | (simp [*]; done)), (by first | rfl | (simp; done) | (simp [*]; done)), H', ⟨by have := HK1.out; have := HK2.out; have := HJ6.out; have := HJ16.out; omega⟩, ⟨by (with_reducible repeat (first | apply yak | apply yal | apply yam)); exact HO338.out⟩, ⟨by repeat (first | (with_reducible first | exact HB.out | apply zac | apply zab | apply zad) | exact HB.out)⟩⟩
               ·rw [if_neg c29] at H
                exact absurd H (by simp)
              ·rw [if_neg c28] at H
               have c28b0 : decide (0 ≤ x5_2) = false := decide_eq_false c28
               clear c28
               have H' := zaa.mk H
               clear H
               go_wp2
               repeat (go_quiet (fail); try go_wp2)
               go_roundg kj16
               case measure => have := HK1.out; have := HK2.out; have := HJ6.out; have := HJ16.out; omega
               case rel => exact ⟨(x3_2), (x5_2), (wrap64 (x6_2 + 1)), (by first | rfl | (simp; done) | (simp [*]; done)), (by first | rfl | (simp; done) | (simp [*]; done)), H', ⟨by have := HK1.out; have := HK2.out; have := HJ6.out; have := HJ16.out; omega⟩, ⟨by (with_reducible repeat (first | apply yak | apply yal | apply yam)); exact HO_3.out⟩, ⟨by repeat (first | (with_reducible first | exact HB.out | apply zac | apply zab | apply zad) | exact HB.out)⟩⟩
       ·rw [if_neg c6] at H
        have c6b0 : decide (x6_2 ≤ (l0.length : Int)) = false := decide_eq_false c6
        clear c6
        have H' := zaa.mk H
        clear H
        go_wp2
        repeat (go_quiet (fail); try go_wp2)
        go_roundg k2
        case measure => have := HK1.out; have := HK2.out; omega
        case rel => exact ⟨(x3_2), (wrap64 (x4_1 + 1)), (by first | rfl | (simp; done) | (simp [*]; done)), H', ⟨by have := HK1.out; have := HK2.out; omega⟩, ⟨by (with_reducible repeat (first | apply yak | apply yal | apply yam)); exact HO_3.out⟩, ⟨by repeat (first | (with_reducible first | exact HB.out | apply zac | apply zab | apply zad) | exact HB.out)⟩⟩
    ·rw [if_neg c5] at H
     have c5b0 : decide (x4_1 < ((rdOf yad l0 0).size : Int)) = false := decide_eq_false c5
     clear c5
     obtain rfl := Option.some.inj H
     have p324 : 0 ≤ (0 : Int) := (by omega)
     have q324 : 0 < (l0.length : Int) := of_decide_eq_true (by assumption)
     obtain ⟨ad324, e324, hx324_0⟩ := Kd.at_string HR0.out 0 p324 q324
     cases e324
     have qi324 : (0 < l0.length) = True := eq_true (by omega)
     (try rw [show ((0 : Int)).toNat = 0 from rfl] at hx324_0)
     (try rw [Addr.add_zero'] at hx324_0)
     replace hx324_0 := (HB.out.cell (World.block_lt_of_cell? w _ hx324_0)).trans hx324_0
     replace p324 := eq_true p324
     replace q324 := eq_true q324
     go_wp2
     repeat (go_quiet (fail); try go_wp2)
     go_ret
     exact ⟨_, by first | rfl | (simp [zan, zam] <;> rfl) | (simp [*, zan, zam] <;> rfl), by (with_reducible repeat (first | apply yak | apply yal | apply yam)); exact HO_3.out, by repeat (first | (with_reducible first | exact HB.out | apply zac | apply zab | apply zad) | exact HB.out)⟩
   ·rw [if_neg c4] at H
    exact absurd H (by simp)
end Go.Proofs.Ytaepgogafkmooaa.PB
namespace Go.Proofs.Ytaepgogafkmooaa.PB
open Go.RowKit Go.PW.PrintWords Go.PW.PrintLast Go.PW.PrintMore
attribute [local go_sem] zcb zbz max_two min_two zbs zbr zca zby   -- for this text's walks alone
mutual
def spec_l2Walls.l0 : Nat → List ByteArray → List (List Int) → List (List Int) → Int → Option ((List (List Int)))
 | 0, _, _, _, _ => none
 | k + 1, x0, x3, x4, x5 => if x5 < (x4.length : Int) then ((some (([0] : List Int) : List Int)).bind fun y345 => (if 0 ≤ x5 then (if y345.length + (zbo x4 x5).length < 17592186044416 then (if x3.length < 5864062014805 then (spec_l2Walls.l0 k x0 (x3 ++ [(y345 ++ (zbo x4 x5))]) x4 (wrap64 (x5 + 1))) else (none)) else (none)) else (none))) else ((spec_l1Trans.f k x0).bind fun t355 => ((spec_l2Upright.f k t355).bind fun t358 => (spec_l2Walls.l1 k x3 t358 0)))
def spec_l2Walls.l1 : Nat → List (List Int) → List (List Int) → Int → Option ((List (List Int)))
 | 0, _, _, _ => none
 | k + 1, x3, x6, x7 => if x7 < (x6.length : Int) then ((some (([1] : List Int) : List Int)).bind fun y361 => (if 0 ≤ x7 then (if y361.length + (zbo x6 x7).length < 17592186044416 then (if x3.length < 5864062014805 then (spec_l2Walls.l1 k (x3 ++ [(y361 ++ (zbo x6 x7))]) x6 (wrap64 (x7 + 1))) else (none)) else (none)) else (none))) else (some x3)
end
def spec_l2Walls.f (k : Nat) (l0 : List ByteArray) : Option ((List (List Int))) := (spec_l2Upright.f k l0).bind fun t342 => (spec_l2Walls.l0 k l0 (([] : List (List Int))) t342 0)
set_option maxHeartbeats 8000000 in
set_option maxRecDepth 100000 in
theorem spec_l2Walls.calls (k : Nat) (A0 : Option Addr) (c0 : Nat) (l0 : List ByteArray) (r : List (List Int)) (w : World) (hr0 : Kd.C Kd.string w A0 l0.length l0) (hc0 : l0.length ≤ c0) (h : spec_l2Walls.f k l0 = some r) :
  Calls Try.prog 82 #[.slice A0 l0.length c0] w fun e w' => ∃ v0_ : Value, e = .returned (v0_) ∧ Kd.S (Kd.slice 3 (Kd.int .i64)) 39 w' w.heap.size (fun _ => True) v0_ r ∧ Below w.heap.size w w' := by
 have HR0 := zaa.mk hr0
 have HC0 := zaa.mk hc0
 clear hr0 hc0
 have HB := zaa.mk (Below.refl w.heap.size w)
 have H : ((spec_l2Upright.f k l0).bind fun t342 => (spec_l2Walls.l0 k l0 (([] : List (List Int))) t342 0)) = some r := h
 clear h
 obtain ⟨y339, hy339⟩ : ∃ y_ : List (List Int), y_ = (([] : List (List Int))) := ⟨_, rfl⟩
 replace H : ((spec_l2Upright.f k l0).bind fun t342 => (spec_l2Walls.l0 k l0 y339 t342 0)) = some r := by first | (rw [hy339]; with_reducible exact H) | (have H2_ := (yaf _ _).symm.trans H; rw [hy339]; with_reducible exact H2_) | (have H2_ := (yaf _ _).symm.trans H; with_reducible exact H2_) | with_reducible exact H | (rw [hy339]; exact H) | exact H
 have Ny339 := zaa.mk hy339
 clear hy339
 replace H := yae.mp H
 obtain ⟨t342, A20, H⟩ := H
 replace H : (spec_l2Walls.l0 k l0 y339 t342 0) = some r := H
 have A2 := zaa.mk A20
 clear A20
 have H' := zaa.mk H
 clear H
 go_enter Try.func82, Try.ntmps82
 go_wp2_with (first | ((with_reducible refine zbc (N := 8) rfl ?_); refine Kd.S_lit (Kd.slice 3 (Kd.int .i64)) _ 39 ?hg (N := 8) ?hd (xs := ([] : List (List Int))) (inner := []) (ok := fun _ => True) (okp := fun _ => True) ?hr ?hp (fun _ hk => hk) trivial (Below.refl _ _) (yag _) (by simp) ?_; (case hd => rfl); (case hg => rfl); (case hr => first | (go_simp; done) | (go_simp; rfl)); (case hp => exact (Reps.none _ _)); intro v340 w3 ho4 hb hg_ hnew_; clear hg_ hnew_; (first | rw [← Ny339.out] at ho4 | (simp only [Int.reduceToNat] at ho4; rw [← Ny339.out] at ho4)); have n0_ := zaa.mk (Kd.S_lower ho4 (zai (by repeat (first | (with_reducible first | exact HB.out | apply zac | apply zab | apply zad) | exact HB.out)))); have n1_ := zaa.mk (zag (by repeat (first | (with_reducible first | exact HB.out | apply zac | apply zab | apply zad) | exact HB.out)) hb); clear HB; have HO341 := n0_; have HB := n1_; clear n0_ n1_; clear hb ho4) | ((with_reducible refine zaq (f := 85) rfl ?_); refine zbf (some 10) rfl rfl Try.func85 (by kernel_rfl) rfl #[.slice A0 l0.length c0] rfl (by (try simp only [yaa, List.map_cons, List.map_nil]); first | done | rfl | (simp only [yac, yab]; rfl)) ?_; (with_reducible refine (spec_l2Upright.calls k _ _ l0 t342 _ ?side1 ?side2 A2.out).mono ?_); (case side1 => repeat (first | exact (Kd.C_below HR0.out HB.out) | (with_reducible refine Kd.C_alloc ?_ _) | (with_reducible refine Kd.C_drewN ?_ _) | (with_reducible refine Kd.C_drew ?_))); (case side2 => exact HC0.out); rintro e w5 ⟨v343, rfl, ho0, hb⟩; refine ⟨_, rfl, ?_⟩; have n0_ := zaa.mk (Kd.S_elder' (by (with_reducible repeat (first | apply yak | apply yal | apply yam)); exact HO341.out) (Kd.S_base ho0) hb); have n1_ := zaa.mk (Kd.S_lower (Kd.S_new' ho0 (Kd.S_lt (by (with_reducible repeat (first | apply yak | apply yal | apply yam)); exact HO341.out))) (zai (by repeat (first | (with_reducible first | exact HB.out | apply zac | apply zab | apply zad) | exact HB.out)))); have n2_ := zaa.mk (zag (by repeat (first | (with_reducible first | exact HB.out | apply zac | apply zab | apply zad) | exact HB.out)) hb); clear HO341; clear HB; have HO341 := n0_; have HO344 := n1_; have HB := n2_; clear n0_ n1_ n2_; (try clear hb); (try clear hb2); (try clear hk); (try clear hi); (try clear ho0)))
 go_loopg [3, 5] k (fun kq v3 v5 w' => ∃ (x3_1 : List (List Int)) (x5_1 : Int), v5 = .int .i64 x5_1 ∧ zaa (spec_l2Walls.l0 kq l0 x3_1 t342 x5_1 = some r) ∧ zaa (kq ≤ k) ∧ zaa (Kd.S (Kd.slice 3 (Kd.int .i64)) 39 w' w.heap.size (fun k_ => some k_ ≠ (v343 : Value).ownBlock) v3 x3_1) ∧ zaa (Kd.S (Kd.slice 3 (Kd.int .i64)) 39 w' w.heap.size (fun k_ => some k_ ≠ (v3 : Value).ownBlock) v343 t342) ∧ zaa (Below w.heap.size w w'))
 case atStart => exact ⟨(y339), (0), (by first | rfl | (simp; done) | (simp [*]; done)), H', ⟨yag _⟩, ⟨by (with_reducible repeat (first | apply yak | apply yal | apply yam)); exact Kd.S_mono HO341.out (fun _ hk => hk.2)⟩, ⟨by (with_reducible repeat (first | apply yak | apply yal | apply yam)); exact Kd.S_mono HO344.out (fun _ hk => hk.2)⟩, ⟨by repeat (first | (with_reducible first | exact HB.out | apply zac | apply zab | apply zad) | exact HB.out)⟩⟩
 case round =>
  clear H'
  try clear p2
  obtain ⟨x3_1, x5_1, rfl, HA, HK1, HO_3, HO_4, HB⟩ := hrel
  cases gk with
  | zero => exact absurd HA.out (by simp [spec_l2Walls.l0])
  | succ k1 =>
   have H := HA.out
   clear HA
   simp only [spec_l2Walls.l0] at H
   by_cases c6 : x5_1 < (t342.length : Int)
   ·rw [if_pos c6] at H
    have c6b0 : decide (x5_1 < (t342.length : Int)) = true := decide_eq_true c6
    clear c6
    obtain ⟨y345, hy345⟩ : ∃ y_ : List Int, y_ = (([0] : List Int)) := ⟨_, rfl⟩
    replace H : (if 0 ≤ x5_1 then (if y345.length + (zbo t342 x5_1).length < 17592186044416 then (if x3_1.length < 5864062014805 then (spec_l2Walls.l0 k1 l0 (x3_1 ++ [(y345 ++ (zbo t342 x5_1))]) t342 (wrap64 (x5_1 + 1))) else (none)) else (none)) else (none)) = some r := by first | (rw [hy345]; with_reducible exact H) | (have H2_ := (yaf _ _).symm.trans H; rw [hy345]; with_reducible exact H2_) | (have H2_ := (yaf _ _).symm.trans H; with_reducible exact H2_) | with_reducible exact H | (rw [hy345]; exact H) | exact H
    have Ny345 := zaa.mk hy345
    clear hy345
    by_cases c7 : 0 ≤ x5_1
    ·rw [if_pos c7] at H
     have c7b0 : decide (0 ≤ x5_1) = true := decide_eq_true c7
     clear c7
     by_cases c8 : y345.length + (zbo t342 x5_1).length < 17592186044416
     ·rw [if_pos c8] at H
      have LMc8 := zaa.mk c8
      clear c8
      obtain ⟨y349, hy349⟩ : ∃ y_ : List Int, y_ = (y345 ++ (zbo t342 x5_1)) := ⟨_, rfl⟩
      replace H : (if x3_1.length < 5864062014805 then (spec_l2Walls.l0 k1 l0 (x3_1 ++ [y349]) t342 (wrap64 (x5_1 + 1))) else (none)) = some r := by first | (rw [hy349]; with_reducible exact H) | (have H2_ := (yaf _ _).symm.trans H; rw [hy349]; with_reducible exact H2_) | (have H2_ := (yaf _ _).symm.trans H; with_reducible exact H2_) | with_reducible exact H | (rw [hy349]; exact H) | exact H
      have Ny349 := zaa.mk hy349
      clear hy349
      by_cases c9 : x3_1.length < 5864062014805
      ·rw [if_pos c9] at H
       have LMc9 := zaa.mk c9
       clear c9
       obtain ⟨y352, hy352⟩ : ∃ y_ : List (List Int), y_ = (x3_1 ++ [y349]) := ⟨_, rfl⟩
       replace H : (spec_l2Walls.l0 k1 l0 y352 t342 (wrap64 (x5_1 + 1))) = some r := by first | (rw [hy352]; with_reducible exact H) | (have H2_ := (yaf _ _).symm.trans H; rw [hy352]; with_reducible exact H2_) | (have H2_ := (yaf _ _).symm.trans H; with_reducible exact H2_) | with_reducible exact H | (rw [hy352]; exact H) | exact H
       have Ny352 := zaa.mk hy352
       clear hy352
       have H' := zaa.mk H
       clear H
       obtain ⟨Ao10, co10, eo10⟩ := Kd.S_slice HO_4.out
       subst eo10
       go_wp2_with (first | ((with_reducible refine zbc (N := 18) rfl ?_); refine Kd.R_lit (Kd.int .i64) _ 3 ?hg (N := 18) ?hd (xs := ([0] : List Int)) (inner := [.int .i64 0]) (ok := fun _ => True) (okp := fun _ => True) ?hr ?hp (fun _ hk => hk) trivial (Below.refl _ _) (yag _) (by simp) ?_; (case hd => rfl); (case hg => rfl); (case hr => first | (go_simp; done) | (go_simp; rfl)); (case hp => exact (Reps.one (show Kd.M (Kd.int .i64) _ _ _ 0 [.int .i64 0] from rfl) (Reps.none _ _))); intro v346 w11 ho12 hb hg_ hnew_; clear hg_ hnew_; (first | rw [← Ny345.out] at ho12 | (simp only [Int.reduceToNat] at ho12; rw [← Ny345.out] at ho12)); have n0_ := zaa.mk (Kd.S_elder' (by (with_reducible repeat (first | apply yak | apply yal | apply yam)); exact HO_3.out) (Kd.R_base ho12) hb); have n1_ := zaa.mk (Kd.S_elder' (by (with_reducible repeat (first | apply yak | apply yal | apply yam)); exact HO_4.out) (Kd.R_base ho12) hb); have n2_ := zaa.mk (Kd.R_lower ho12 (zai (by repeat (first | (with_reducible first | exact HB.out | apply zac | apply zab | apply zad) | exact HB.out)))); have n3_ := zaa.mk (zag (by repeat (first | (with_reducible first | exact HB.out | apply zac | apply zab | apply zad) | exact HB.out)) hb); clear HO_3; clear HO_4; clear HB; have HO_3 := n0_; have HO_4 := n1_; have HO347 := n2_; have HB := n3_; clear n0_ n1_ n2_ n3_; clear hb ho12; have p348 : 0 ≤ (x5_1 : Int) := of_decide_eq_true (by assumption); have q348 : x5_1 < (t342.length : Int) := of_decide_eq_true (by assumption); obtain ⟨ad348, A348_0, c348_0, e348, hx348_0, hl348_0, hi348_0⟩ := at_L3 (Kd.S_reads' HO_4.out).2.2 x5_1 p348 q348; cases e348; obtain ⟨ce348, hce348, hMe348, hcc348⟩ := Kd.S_get HO_4.out [] x5_1 p348 (by first | exact q348 | exact of_decide_eq_true (by assumption) | (have e_ := (Kd.S_reads' HO_4.out).1; omega)); obtain ⟨ve348_0, rfl, ge348_0⟩ := hMe348; have hv348_0 := hcc348 0 _ rfl; rw [Nat.add_zero, show ((Kd.slice 3 (Kd.int .i64))).sz = 1 from rfl, Nat.mul_one] at hv348_0; replace hv348_0 := Option.some.inj (hv348_0.symm.trans hx348_0); rw [hv348_0] at ge348_0; have HL348_0 := zaa.mk (show Kd.R (Kd.int .i64) 3 _ _ _ _ (zbo t342 x5_1) from ge348_0); clear hv348_0 ge348_0; clear hcc348 hce348; have HR348_0 := zaa.mk hi348_0; have HC348_0 := zaa.mk hl348_0; clear hi348_0 hl348_0; replace p348 := eq_true p348; replace q348 := eq_true q348) | ((with_reducible refine zay (b := .append) (xs := #[.tmp 18, .tmp 22]) rfl ?_); at_builtin; refine Kd.R_append_rows (Kd.int .i64) (w0 := w) w.heap.size rfl (.tmp 18) (.tmp 22) 39 3 (.int .i64 0) 8 rfl Try.underlying39 info3 rfl (by decide) (by omega) v346 y345 (zbo t342 x5_1) _ _ _ (fun _ => True) (fun _ => False) rfl rfl ?aO ?aR (fun _ _ h => h) (fun _ h => h.elim) ?aF ?aB ?aS ?aL ?_; (case aR => repeat (first | exact (by repeat (first | (with_reducible exact HR348_0.out) | (with_reducible refine Kd.C_alloc ?_ _) | (with_reducible refine Kd.C_drewN ?_ _) | (with_reducible refine Kd.C_drew ?_) | exact HR348_0.out)) | (with_reducible refine Kd.C_alloc ?_ _) | (with_reducible refine Kd.C_drewN ?_ _) | (with_reducible refine Kd.C_drew ?_))); (case aB => exact (by repeat (first | (with_reducible first | exact HB.out | apply zac | apply zab | apply zad) | exact HB.out))); (case aF => exact (fun _ _ => trivial)); (case aO => exact (by (with_reducible repeat (first | apply yah | apply yai | apply yaj)); exact HO347.out)); (case aS => exact (zai (by repeat (first | (with_reducible first | exact HB.out | apply zac | apply zab | apply zad) | exact HB.out)))); (case aL => have := LMc8.out; omega); intro v350 w13 ho hb hg hat; rw [← Ny349.out] at ho; have n0_ := zaa.mk (Kd.S_after (ok := (fun k_ => some k_ ≠ (.slice (some ad348) t342.length co10 : Value).ownBlock)) (by (with_reducible repeat (first | apply yak | apply yal | apply yam)); exact HO_3.out) hg hat); have n1_ := zaa.mk (Kd.S_after (ok := (fun k_ => some k_ ≠ (u3 : Value).ownBlock)) (by (with_reducible repeat (first | apply yak | apply yal | apply yam)); exact HO_4.out) hg hat); have n2_ := zaa.mk (Kd.R_after (ok := (fun k_ => some k_ ≠ (u3 : Value).ownBlock ∧ some k_ ≠ (.slice (some ad348) t342.length co10 : Value).ownBlock)) (by (with_reducible repeat (first | apply yah | apply yai | apply yaj)); exact Kd.R_mono HL348_0.out (fun _ hk => ⟨⟨hk.1.1, hk.2⟩, hk.1.2⟩)) hg hat); have n3_ := zaa.mk (hb); have n4_ := zaa.mk (ho); clear HO_3; clear HO_4; clear HL348_0; clear HB; clear HO347; have HO_3 := n0_; have HO_4 := n1_; have HL348_0 := n2_; have HB := n3_; have HO351 := n4_; clear n0_ n1_ n2_ n3_ n4_; clear ho hb hg hat; obtain ⟨Ao15, co15, eo15⟩ := Kd.R_slice HO351.out; subst eo15) | ((with_reducible refine zay (b := .append) (xs := #[.tmp 17, .tmp 24]) rfl ?_); at_builtin; refine Kd.S_append (Kd.slice 3 (Kd.int .i64)) (w0 := w) w.heap.size rfl (.tmp 17) (.tmp 24) 36 39 (.slice none 0 0) 24 rfl Try.underlying36 info39 rfl (by decide) (by omega) u3 x3_1 y349 [.slice Ao15 y349.length co15] (fun k_ => some k_ ≠ (.slice (some ad348) t342.length co10 : Value).ownBlock) (fun k_ => some k_ = (.slice Ao15 y349.length co15 : Value).ownBlock) rfl rfl ?aP (fun k_ hk_ => ((Kd.R_mono (ok' := fun k_ => ((fun k_ => some k_ ≠ (.slice (some ad348) t342.length co10 : Value).ownBlock)) k_ ∧ some k_ ≠ (u3 : Value).ownBlock) (Kd.R_apart' (Kd.R_apart' (HO351.out) (Kd.S_typed HO_4.out) (by decide)) (Kd.S_typed HO_3.out) (by decide)) (fun k_ hk => ⟨hk.1.2, hk.2⟩))).1 k_ hk_.symm) ?aF ?aO ?aB ?aS ?aL ?_; (case aP => exact Kd.M_row (Kd.R_mono (Kd.R_tight rfl (Kd.R_mono (ok' := fun k_ => ((fun k_ => some k_ ≠ (.slice (some ad348) t342.length co10 : Value).ownBlock)) k_ ∧ some k_ ≠ (u3 : Value).ownBlock) (Kd.R_apart' (Kd.R_apart' (HO351.out) (Kd.S_typed HO_4.out) (by decide)) (Kd.S_typed HO_3.out) (by decide)) (fun k_ hk => ⟨hk.1.2, hk.2⟩))) (fun _ h_ => h_))); (case aB => exact (by repeat (first | (with_reducible first | exact HB.out | apply zac | apply zab | apply zad) | exact HB.out))); (case aF => exact (fun k_ hk => Kd.fresh' (Kd.S_lt (by (with_reducible repeat (first | apply yak | apply yal | apply yam)); exact HO_4.out)) k_ hk)); (case aO => exact (by (with_reducible repeat (first | apply yak | apply yal | apply yam)); exact Kd.S_mono HO_3.out (fun k_ hk => ⟨hk.1, fun e_ => hk.2 e_⟩))); (case aS => exact (zai (by repeat (first | (with_reducible first | exact HB.out | apply zac | apply zab | apply zad) | exact HB.out)))); (case aL => have := LMc9.out; omega); intro v353 w14 ho hb hg hat; rw [← Ny352.out] at ho; have n0_ := zaa.mk (Kd.S_after (ok := (fun k_ => some k_ ≠ (.slice Ao15 y349.length co15 : Value).ownBlock)) (by (with_reducible repeat (first | apply yak | apply yal | apply yam)); exact Kd.S_mono HO_4.out (fun _ hk => ⟨hk.2, hk.1⟩)) hg hat); have n1_ := zaa.mk (Kd.R_after (ok := (fun k_ => some k_ ≠ (.slice (some ad348) t342.length co10 : Value).ownBlock ∧ some k_ ≠ (.slice Ao15 y349.length co15 : Value).ownBlock)) (by (with_reducible repeat (first | apply yah | apply yai | apply yaj)); exact Kd.R_mono HL348_0.out (fun _ hk => ⟨⟨hk.1.2, hk.2⟩, hk.1.1⟩)) hg hat); have n2_ := zaa.mk (hb); have n3_ := zaa.mk (ho); clear HO_4; clear HL348_0; clear HB; clear HO_3; clear HO351; have HO_4 := n0_; have HL348_0 := n1_; have HB := n2_; have HO354 := n3_; clear n0_ n1_ n2_ n3_; clear ho hb hg hat))
       go_roundg k1
       case measure => have := HK1.out; omega
       case rel => exact ⟨(y352), (wrap64 (x5_1 + 1)), (by first | rfl | (simp; done) | (simp [*]; done)), H', ⟨by have := HK1.out; omega⟩, ⟨by (with_reducible repeat (first | apply yak | apply yal | apply yam)); exact HO354.out⟩, ⟨by (with_reducible repeat (first | apply yak | apply yal | apply yam)); exact Kd.S_mono HO_4.out (fun _ hk => hk.2)⟩, ⟨by repeat (first | (with_reducible first | exact HB.out | apply zac | apply zab | apply zad) | exact HB.out)⟩⟩
      ·rw [if_neg c9] at H
       exact absurd H (by simp)
     ·rw [if_neg c8] at H
      exact absurd H (by simp)
    ·rw [if_neg c7] at H
     exact absurd H (by simp)
   ·rw [if_neg c6] at H
    have c6b0 : decide (x5_1 < (t342.length : Int)) = false := decide_eq_false c6
    clear c6
    replace H := yae.mp H
    obtain ⟨t355, A160, H⟩ := H
    replace H : ((spec_l2Upright.f k1 t355).bind fun t358 => (spec_l2Walls.l1 k1 x3_1 t358 0)) = some r := H
    have A16 := zaa.mk A160
    clear A160
    replace H := yae.mp H
    obtain ⟨t358, A170, H⟩ := H
    replace H : (spec_l2Walls.l1 k1 x3_1 t358 0) = some r := H
    have A17 := zaa.mk A170
    clear A170
    have H' := zaa.mk H
    clear H
    obtain ⟨Ao18, co18, eo18⟩ := Kd.S_slice HO_4.out
    subst eo18
    go_wp2_with (first | ((with_reducible refine zaq (f := 86) rfl ?_); refine zbf (some 27) rfl rfl Try.func86 (by kernel_rfl) rfl #[.slice A0 l0.length c0] rfl (by (try simp only [yaa, List.map_cons, List.map_nil]); first | done | rfl | (simp only [yac, yab]; rfl)) ?_; (with_reducible refine (spec_l1Trans.calls k1 _ _ l0 t355 _ ?side1 ?side2 A16.out).mono ?_); (case side1 => repeat (first | exact (Kd.C_below HR0.out HB.out) | (with_reducible refine Kd.C_alloc ?_ _) | (with_reducible refine Kd.C_drewN ?_ _) | (with_reducible refine Kd.C_drew ?_))); (case side2 => exact HC0.out); rintro e w19 ⟨v356, rfl, ho0, hb⟩; refine ⟨_, rfl, ?_⟩; have n0_ := zaa.mk (Kd.S_below (by (with_reducible repeat (first | apply yak | apply yal | apply yam)); exact HO_3.out) hb); have n1_ := zaa.mk (Kd.S_below (by (with_reducible repeat (first | apply yak | apply yal | apply yam)); exact HO_4.out) hb); have n2_ := zaa.mk (Kd.R_lower ho0 (zai (by repeat (first | (with_reducible first | exact HB.out | apply zac | apply zab | apply zad) | exact HB.out)))); have n3_ := zaa.mk (zag (by repeat (first | (with_reducible first | exact HB.out | apply zac | apply zab | apply zad) | exact HB.out)) hb); clear HO_3; clear HO_4; clear HB; have HO_3 := n0_; have HO_4 := n1_; have HO357 := n2_; have HB := n3_; clear n0_ n1_ n2_ n3_; (try clear hb); (try clear hb2); (try clear hk); (try clear hi); (try clear ho0); obtain ⟨Ao20, co20, eo20⟩ := Kd.R_slice HO357.out; subst eo20) | ((with_reducible refine zaq (f := 85) rfl ?_); refine zbf (some 28) rfl rfl Try.func85 (by kernel_rfl) rfl #[.slice Ao20 t355.length co20] rfl (by (try simp only [yaa, List.map_cons, List.map_nil]); first | done | rfl | (simp only [yac, yab]; rfl)) ?_; (with_reducible refine (spec_l2Upright.calls k1 _ _ t355 t358 _ ?side1 ?side2 A17.out).mono ?_); (case side1 => repeat (first | exact (Kd.R_reads' HO357.out).2.2 | (with_reducible refine Kd.C_alloc ?_ _) | (with_reducible refine Kd.C_drewN ?_ _) | (with_reducible refine Kd.C_drew ?_))); (case side2 => exact (Kd.R_reads' HO357.out).2.1); rintro e w21 ⟨v359, rfl, ho0, hb⟩; refine ⟨_, rfl, ?_⟩; have n0_ := zaa.mk (Kd.S_elder' (by (with_reducible repeat (first | apply yak | apply yal | apply yam)); exact HO_3.out) (Kd.S_base ho0) hb); have n1_ := zaa.mk (Kd.S_elder' (by (with_reducible repeat (first | apply yak | apply yal | apply yam)); exact HO_4.out) (Kd.S_base ho0) hb); have n2_ := zaa.mk (Kd.R_below (by (with_reducible repeat (first | apply yah | apply yai | apply yaj)); exact HO357.out) hb); have n3_ := zaa.mk (Kd.S_lower (Kd.S_new' (Kd.S_new' ho0 (Kd.S_lt (by (with_reducible repeat (first | apply yak | apply yal | apply yam)); exact HO_3.out))) (Kd.S_lt (by (with_reducible repeat (first | apply yak | apply yal | apply yam)); exact HO_4.out))) (zai (by repeat (first | (with_reducible first | exact HB.out | apply zac | apply zab | apply zad) | exact HB.out)))); have n4_ := zaa.mk (zag (by repeat (first | (with_reducible first | exact HB.out | apply zac | apply zab | apply zad) | exact HB.out)) hb); clear HO_3; clear HO_4; clear HO357; clear HB; have HO_3 := n0_; have HO_4 := n1_; have HO357 := n2_; have HO360 := n3_; have HB := n4_; clear n0_ n1_ n2_ n3_ n4_; (try clear hb); (try clear hb2); (try clear hk); (try clear hi); (try clear ho0)))
    go_loopg [3, 7] k1 (fun kq v3 v7 w' => ∃ (x3_2 : List (List Int)) (x7_2 : Int), v7 = .int .i64 x7_2 ∧ zaa (spec_l2Walls.l1 kq x3_2 t358 x7_2 = some r) ∧ zaa (kq ≤ k1) ∧ zaa (Kd.S (Kd.slice 3 (Kd.int .i64)) 39 w' w.heap.size (fun k_ => some k_ ≠ (v359 : Value).ownBlock) v3 x3_2) ∧ zaa (Kd.S (Kd.slice 3 (Kd.int .i64)) 39 w' w.heap.size (fun k_ => some k_ ≠ (v3 : Value).ownBlock) v359 t358) ∧ zaa (Below w.heap.size w w'))
    case atStart => exact ⟨(x3_1), (0), (by first | rfl | (simp; done) | (simp [*]; done)), H', ⟨yag _⟩, ⟨by (with_reducible repeat (first | apply yak | apply yal | apply yam)); exact Kd.S_mono HO_3.out (fun _ hk => hk.2)⟩, ⟨by (with_reducible repeat (first | apply yak | apply yal | apply yam)); exact Kd.S_mono HO360.out (fun _ hk => hk.1.2)⟩, ⟨by repeat (first | (with_reducible first | exact HB.out | apply zac | apply zab | apply zad) | exact HB.out)⟩⟩
    case round =>
     clear H'
     try clear p2
     try clear c3
     try clear p3
     try clear q3
     try clear hx3
     try clear c6
     try clear c6b0
     try clear p6
     try clear c7
     try clear c7b0
     try clear c8
     try clear c9
     try clear hx348_0
     try clear p2
     try clear p348
     try clear q348
     obtain ⟨x3_2, x7_2, rfl, HA, HK2, HO_3, HO_6, HB⟩ := hrel
     cases gk with
     | zero => exact absurd HA.out (by simp [spec_l2Walls.l1])
     | succ k2 =>
      have H := HA.out
      clear HA
      simp only [spec_l2Walls.l1] at H
      by_cases c22 : x7_2 < (t358.length : Int)
      ·rw [if_pos c22] at H
       have c22b0 : decide (x7_2 < (t358.length : Int)) = true := decide_eq_true c22
       clear c22
       obtain ⟨y361, hy361⟩ : ∃ y_ : List Int, y_ = (([1] : List Int)) := ⟨_, rfl⟩
       replace H : (if 0 ≤ x7_2 then (if y361.length + (zbo t358 x7_2).length < 17592186044416 then (if x3_2.length < 5864062014805 then (spec_l2Walls.l1 k2 (x3_2 ++ [(y361 ++ (zbo t358 x7_2))]) t358 (wrap64 (x7_2 + 1))) else (none)) else (none)) else (none)) = some r := by first | (rw [hy361]; with_reducible exact H) | (have H2_ := (yaf _ _).symm.trans H; rw [hy361]; with_reducible exact H2_) | (have H2_ := (yaf _ _).symm.trans H; with_reducible exact H2_) | with_reducible exact H | (rw [hy361]; exact H) | exact H
       have Ny361 := zaa.mk hy361
       clear hy361
       by_cases c23 : 0 ≤ x7_2
       ·rw [if_pos c23] at H
        have c23b0 : decide (0 ≤ x7_2) = true := decide_eq_true c23
        clear c23
        by_cases c24 : y361.length + (zbo t358 x7_2).length < 17592186044416
        ·rw [if_pos c24] at H
         have LMc24 := zaa.mk c24
         clear c24
         obtain ⟨y365, hy365⟩ : ∃ y_ : List Int, y_ = (y361 ++ (zbo t358 x7_2)) := ⟨_, rfl⟩
         replace H : (if x3_2.length < 5864062014805 then (spec_l2Walls.l1 k2 (x3_2 ++ [y365]) t358 (wrap64 (x7_2 + 1))) else (none)) = some r := by first | (rw [hy365]; with_reducible exact H) | (have H2_ := (yaf _ _).symm.trans H; rw [hy365]; with_reducible exact H2_) | (have H2_ := (yaf _ _).symm.trans H; with_reducible exact H2_) | with_reducible exact H | (rw [hy365]; exact H) | exact H
         have Ny365 := zaa.mk hy365
         clear hy365
         by_cases c25 : x3_2.length < 5864062014805
         ·rw [if_pos c25] at H
          have LMc25 := zaa.mk c25
          clear c25
          obtain ⟨y368, hy368⟩ : ∃ y_ : List (List Int), y_ = (x3_2 ++ [y365]) := ⟨_, rfl⟩
          replace H : (spec_l2Walls.l1 k2 y368 t358 (wrap64 (x7_2 + 1))) = some r := by first | (rw [hy368]; with_reducible exact H) | (have H2_ := (yaf _ _).symm.trans H; rw [hy368]; with_reducible exact H2_) | (have H2_ := (yaf _ _).symm.trans H; with_reducible exact H2_) | with_reducible exact H | (rw [hy368]; exact H) | exact H
          have Ny368 := zaa.mk hy368
          clear hy368
          have H' := zaa.mk H
          clear H
          obtain ⟨Ao26, co26, eo26⟩ := Kd.S_slice HO_6.out
          subst eo26
          go_wp2_with (first | ((with_reducible refine zbc (N := 36) rfl ?_); refine Kd.R_lit (Kd.int .i64) _ 3 ?hg (N := 36) ?hd (xs := ([1] : List Int)) (inner := [.int .i64 1]) (ok := fun _ => True) (okp := fun _ => True) ?hr ?hp (fun _ hk => hk) trivial (Below.refl _ _) (yag _) (by simp) ?_; (case hd => rfl); (case hg => rfl); (case hr => first | (go_simp; done) | (go_simp; rfl)); (case hp => exact (Reps.one (show Kd.M (Kd.int .i64) _ _ _ 1 [.int .i64 1] from rfl) (Reps.none _ _))); intro v362 w27 ho28 hb hg_ hnew_; clear hg_ hnew_; (first | rw [← Ny361.out] at ho28 | (simp only [Int.reduceToNat] at ho28; rw [← Ny361.out] at ho28)); have n0_ := zaa.mk (Kd.S_elder' (by (with_reducible repeat (first | apply yak | apply yal | apply yam)); exact HO_3.out) (Kd.R_base ho28) hb); have n1_ := zaa.mk (Kd.S_elder' (by (with_reducible repeat (first | apply yak | apply yal | apply yam)); exact HO_6.out) (Kd.R_base ho28) hb); have n2_ := zaa.mk (Kd.R_lower ho28 (zai (by repeat (first | (with_reducible first | exact HB.out | apply zac | apply zab | apply zad) | exact HB.out)))); have n3_ := zaa.mk (zag (by repeat (first | (with_reducible first | exact HB.out | apply zac | apply zab | apply zad) | exact HB.out)) hb); clear HO_3; clear HO_6; clear HB; have HO_3 := n0_; have HO_6 := n1_; have HO363 := n2_; have HB := n3_; clear n0_ n1_ n2_ n3_; clear hb ho28; have p364 : 0 ≤ (x7_2 : Int) := of_decide_eq_true (by assumption); have q364 : x7_2 < (t358.length : Int) := of_decide_eq_true (by assumption); obtain ⟨ad364, A364_0, c364_0, e364, hx364_0, hl364_0, hi364_0⟩ := at_L3 (Kd.S_reads' HO_6.out).2.2 x7_2 p364 q364; cases e364; obtain ⟨ce364, hce364, hMe364, hcc364⟩ := Kd.S_get HO_6.out [] x7_2 p364 (by first | exact q364 | exact of_decide_eq_true (by assumption) | (have e_ := (Kd.S_reads' HO_6.out).1; omega)); obtain ⟨ve364_0, rfl, ge364_0⟩ := hMe364; have hv364_0 := hcc364 0 _ rfl; rw [Nat.add_zero, show ((Kd.slice 3 (Kd.int .i64))).sz = 1 from rfl, Nat.mul_one] at hv364_0; replace hv364_0 := Option.some.inj (hv364_0.symm.trans hx364_0); rw [hv364_0] at ge364_0; have HL364_0 := zaa.mk (show Kd.R (Kd.int .i64) 3 _ _ _ _ (zbo t358 x7_2) from ge364_0); clear hv364_0 ge364_0; clear hcc364 hce364; have HR364_0 := zaa.mk hi364_0; have HC364_0 := zaa.mk hl364_0; clear hi364_0 hl364_0; replace p364 := eq_true p364; replace q364 := eq_true q364) | ((with_reducible refine zay (b := .append) (xs := #[.tmp 36, .tmp 40]) rfl ?_); at_builtin; refine Kd.R_append_rows (Kd.int .i64) (w0 := w) w.heap.size rfl (.tmp 36) (.tmp 40) 39 3 (.int .i64 0) 8 rfl Try.underlying39 info3 rfl (by decide) (by omega) v362 y361 (zbo t358 x7_2) _ _ _ (fun _ => True) (fun _ => False) rfl rfl ?aO ?aR (fun _ _ h => h) (fun _ h => h.elim) ?aF ?aB ?aS ?aL ?_; (case aR => repeat (first | exact (by repeat (first | (with_reducible exact HR364_0.out) | (with_reducible refine Kd.C_alloc ?_ _) | (with_reducible refine Kd.C_drewN ?_ _) | (with_reducible refine Kd.C_drew ?_) | exact HR364_0.out)) | (with_reducible refine Kd.C_alloc ?_ _) | (with_reducible refine Kd.C_drewN ?_ _) | (with_reducible refine Kd.C_drew ?_))); (case aB => exact (by repeat (first | (with_reducible first | exact HB.out | apply zac | apply zab | apply zad) | exact HB.out))); (case aF => exact (fun _ _ => trivial)); (case aO => exact (by (with_reducible repeat (first | apply yah | apply yai | apply yaj)); exact HO363.out)); (case aS => exact (zai (by repeat (first | (with_reducible first | exact HB.out | apply zac | apply zab | apply zad) | exact HB.out)))); (case aL => have := LMc24.out; omega); intro v366 w29 ho hb hg hat; rw [← Ny365.out] at ho; have n0_ := zaa.mk (Kd.S_after (ok := (fun k_ => some k_ ≠ (.slice (some ad364) t358.length co26 : Value).ownBlock)) (by (with_reducible repeat (first | apply yak | apply yal | apply yam)); exact HO_3.out) hg hat); have n1_ := zaa.mk (Kd.S_after (ok := (fun k_ => some k_ ≠ (u3 : Value).ownBlock)) (by (with_reducible repeat (first | apply yak | apply yal | apply yam)); exact HO_6.out) hg hat); have n2_ := zaa.mk (Kd.R_after (ok := (fun k_ => some k_ ≠ (u3 : Value).ownBlock ∧ some k_ ≠ (.slice (some ad364) t358.length co26 : Value).ownBlock)) (by (with_reducible repeat (first | apply yah | apply yai | apply yaj)); exact Kd.R_mono HL364_0.out (fun _ hk => ⟨⟨hk.1.1, hk.2⟩, hk.1.2⟩)) hg hat); have n3_ := zaa.mk (hb); have n4_ := zaa.mk (ho); clear HO_3; clear HO_6; clear HL364_0; clear HB; clear HO363; have HO_3 := n0_; have HO_6 := n1_; have HL364_0 := n2_; have HB := n3_; have HO367 := n4_; clear n0_ n1_ n2_ n3_ n4_; clear ho hb hg hat; obtain ⟨Ao31, co31, eo31⟩ := Kd.R_slice HO367.out; subst eo31) | ((with_reducible refine zay (b := .append) (xs := #[.tmp 35, .tmp 42]) rfl ?_); at_builtin; refine Kd.S_append (Kd.slice 3 (Kd.int .i64)) (w0 := w) w.heap.size rfl (.tmp 35) (.tmp 42) 36 39 (.slice none 0 0) 24 rfl Try.underlying36 info39 rfl (by decide) (by omega) u3 x3_2 y365 [.slice Ao31 y365.length co31] (fun k_ => some k_ ≠ (.slice (some ad364) t358.length co26 : Value).ownBlock) (fun k_ => some k_ = (.slice Ao31 y365.length co31 : Value).ownBlock) rfl rfl ?aP (fun k_ hk_ => ((Kd.R_mono (ok' := fun k_ => ((fun k_ => some k_ ≠ (.slice (some ad364) t358.length co26 : Value).ownBlock)) k_ ∧ some k_ ≠ (u3 : Value).ownBlock) (Kd.R_apart' (Kd.R_apart' (HO367.out) (Kd.S_typed HO_6.out) (by decide)) (Kd.S_typed HO_3.out) (by decide)) (fun k_ hk => ⟨hk.1.2, hk.2⟩))).1 k_ hk_.symm) ?aF ?aO ?aB ?aS ?aL ?_; (case aP => exact Kd.M_row (Kd.R_mono (Kd.R_tight rfl (Kd.R_mono (ok' := fun k_ => ((fun k_ => some k_ ≠ (.slice (some ad364) t358.length co26 : Value).ownBlock)) k_ ∧ some k_ ≠ (u3 : Value).ownBlock) (Kd.R_apart' (Kd.R_apart' (HO367.out) (Kd.S_typed HO_6.out) (by decide)) (Kd.S_typed HO_3.out) (by decide)) (fun k_ hk => ⟨hk.1.2, hk.2⟩))) (fun _ h_ => h_))); (case aB => exact (by repeat (first | (with_reducible first | exact HB.out | apply zac | apply zab | apply zad) | exact HB.out))); (case aF => exact (fun k_ hk => Kd.fresh' (Kd.S_lt (by (with_reducible repeat (first | apply yak | apply yal | apply yam)); exact HO_6.out)) k_ hk)); (case aO => exact (by (with_reducible repeat (first | apply yak | apply yal | apply yam)); exact Kd.S_mono HO_3.out (fun k_ hk => ⟨hk.1, fun e_ => hk.2 e_⟩))); (case aS => exact (zai (by repeat (first | (with_reducible first | exact HB.out | apply zac | apply zab | apply zad) | exact HB.out)))); (case aL => have := LMc25.out; omega); intro v369 w30 ho hb hg hat; rw [← Ny368.out] at ho; have n0_ := zaa.mk (Kd.S_after (ok := (fun k_ => some k_ ≠ (.slice Ao31 y365.length co31 : Value).ownBlock)) (by (with_reducible repeat (first | apply yak | apply yal | apply yam)); exact Kd.S_mono HO_6.out (fun _ hk => ⟨hk.2, hk.1⟩)) hg hat); have n1_ := zaa.mk (Kd.R_after (ok := (fun k_ => some k_ ≠ (.slice (some ad364) t358.length co26 : Value).ownBlock ∧ some k_ ≠ (.slice Ao31 y365.length co31 : Value).ownBlock)) (by (with_reducible repeat (first | apply yah | apply yai | apply yaj)); exact Kd.R_mono HL364_0.out (fun _ hk => ⟨⟨hk.1.2, hk.2⟩, hk.1.1⟩)) hg hat); have n2_ := zaa.mk (hb); have n3_ := zaa.mk (ho); clear HO_6; clear HL364_0; clear HB; clear HO_3; clear HO367; have HO_6 := n0_; have HL364_0 := n1_; have HB := n2_; have HO370 := n3_; clear n0_ n1_ n2_ n3_; clear ho hb hg hat))
          go_roundg k2
          case measure => have := HK1.out; have := HK2.out; omega
          case rel => exact ⟨(y368), (wrap64 (x7_2 + 1)), (by first | rfl | (simp; done) | (simp [*]; done)), H', ⟨by have := HK1.out; have := HK2.out; omega⟩, ⟨by (with_reducible repeat (first | apply yak | apply yal | apply yam)); exact HO370.out⟩, ⟨by (with_reducible repeat (first | apply yak | apply yal | apply yam)); exact Kd.S_mono HO_6.out (fun _ hk => hk.2)⟩, ⟨by repeat (first | (with_reducible first | exact HB.out | apply zac | apply zab | apply zad) | exact HB.out)⟩⟩
         ·rw [if_neg c25] at H
          exact absurd H (by simp)
        ·rw [if_neg c24] at H
         exact absurd H (by simp)
       ·rw [if_neg c23] at H
        exact absurd H (by simp)
      ·rw [if_neg c22] at H
       have c22b0 : decide (x7_2 < (t358.length : Int)) = false := decide_eq_false c22
       clear c22
       obtain rfl := Option.some.inj H
       obtain ⟨Ao32, co32, eo32⟩ := Kd.S_slice HO_6.out
       subst eo32
       go_wp2
       go_ret
       exact ⟨_, by first | rfl | (simp [zan, zam] <;> rfl) | (simp [*, zan, zam] <;> rfl), by (with_reducible repeat (first | apply yak | apply yal | apply yam)); exact Kd.S_mono HO_3.out (fun _ hk => trivial), by repeat (first | (with_reducible first | exact HB.out | apply zac | apply zab | apply zad) | exact HB.out)⟩
end Go.Proofs.Ytaepgogafkmooaa.PB
namespace Go.Proofs.Ytaepgogafkmooaa.PB
open Go.RowKit Go.PW.PrintWords Go.PW.PrintLast Go.PW.PrintMore
attribute [local go_sem] zcb zbz max_two min_two zbs zbr zca zby   -- for this text's walks alone
mutual
def spec_l1Room.l0 : Nat → List ByteArray → Int → Int → Int → Int → Int → Int → Option (Int × Int × Int × Int)
 | 0, _, _, _, _, _, _, _ => none
 | k + 1, x0, x1, x8, x9, x10, x11, x12 => if x12 < (x0.length : Int) then (spec_l1Room.l1 k x0 x1 x8 x9 x10 x11 x12 0) else (some (x8, x9, wrap64 ((wrap64 (x10 - x8)) + 1), wrap64 ((wrap64 (x11 - x9)) + 1)))
def spec_l1Room.l1 : Nat → List ByteArray → Int → Int → Int → Int → Int → Int → Int → Option (Int × Int × Int × Int)
 | 0, _, _, _, _, _, _, _, _ => none
 | k + 1, x0, x1, x8, x9, x10, x11, x12, x13 => if 0 ≤ x12 then (if x12 < (x0.length : Int) then (if x13 < ((rdOf yad x0 x12).size : Int) then (if 0 ≤ x13 then (if (wrap64 ((wrap64 (bt (rdOf yad x0 x12) x13)) - 97)) = x1 then (spec_l1Room.l1 k x0 x1 (mn x8 x12) (mn x9 x13) (mx x10 x12) (mx x11 x13) x12 (wrap64 (x13 + 1))) else (spec_l1Room.l1 k x0 x1 x8 x9 x10 x11 x12 (wrap64 (x13 + 1)))) else (none)) else (spec_l1Room.l0 k x0 x1 x8 x9 x10 x11 (wrap64 (x12 + 1)))) else (none)) else (none)
end
def spec_l1Room.f (k : Nat) (l0 : List ByteArray) (a1 : Int) : Option (Int × Int × Int × Int) := if 0 < (l0.length : Int) then (spec_l1Room.l0 k l0 a1 (l0.length : Int) ((rdOf yad l0 0).size : Int) (-1) (-1) 0) else (none)
set_option maxHeartbeats 8000000 in
set_option maxRecDepth 100000 in
theorem spec_l1Room.calls (k : Nat) (A0 : Option Addr) (c0 : Nat) (l0 : List ByteArray) (a1 : Int) (r1 : Int) (r2 : Int) (r3 : Int) (r4 : Int) (w : World) (hr0 : Kd.C Kd.string w A0 l0.length l0) (hc0 : l0.length ≤ c0) (h : spec_l1Room.f k l0 a1 = some (r1, r2, r3, r4)) :
  Calls Try.prog 75 #[.slice A0 l0.length c0, .int .i64 a1] w fun e w' => e = .returned (.tuple #[.int .i64 r1, .int .i64 r2, .int .i64 r3, .int .i64 r4]) ∧ Below w.heap.size w w' := by
 have HR0 := zaa.mk hr0
 have HC0 := zaa.mk hc0
 clear hr0 hc0
 have HB := zaa.mk (Below.refl w.heap.size w)
 have H : (if 0 < (l0.length : Int) then (spec_l1Room.l0 k l0 a1 (l0.length : Int) ((rdOf yad l0 0).size : Int) (-1) (-1) 0) else (none)) = some (r1, r2, r3, r4) := h
 clear h
 by_cases c3 : 0 < (l0.length : Int)
 ·rw [if_pos c3] at H
  have c3b0 : decide (0 < (l0.length : Int)) = true := decide_eq_true c3
  have c3b1 : decide (0 < l0.length) = true := decide_eq_true (by omega)
  clear c3
  have H' := zaa.mk H
  clear H
  have p109 : 0 ≤ (0 : Int) := (by omega)
  have q109 : 0 < (l0.length : Int) := of_decide_eq_true (by assumption)
  obtain ⟨ad109, e109, hx109_0⟩ := Kd.at_string HR0.out 0 p109 q109
  cases e109
  have qi109 : (0 < l0.length) = True := eq_true (by omega)
  (try rw [show ((0 : Int)).toNat = 0 from rfl] at hx109_0)
  (try rw [Addr.add_zero'] at hx109_0)
  replace p109 := eq_true p109
  replace q109 := eq_true q109
  go_enter Try.func75, Try.ntmps75
  go_wp2
  go_loopg [8, 9, 10, 11, 12] k (fun kq v8 v9 v10 v11 v12 w' => ∃ (x8_1 : Int) (x9_1 : Int) (x10_1 : Int) (x11_1 : Int) (x12_1 : Int), v8 = .int .i64 x8_1 ∧ v9 = .int .i64 x9_1 ∧ v10 = .int .i64 x10_1 ∧ v11 = .int .i64 x11_1 ∧ v12 = .int .i64 x12_1 ∧ zaa (spec_l1Room.l0 kq l0 a1 x8_1 x9_1 x10_1 x11_1 x12_1 = some (r1, r2, r3, r4)) ∧ zaa (kq ≤ k) ∧ zaa (Below w.heap.size w w'))
  case atStart => exact ⟨((l0.length : Int)), (((rdOf yad l0 0).size : Int)), ((-1)), ((-1)), (0), (by first | rfl | (simp; done) | (simp [*]; done)), (by first | rfl | (simp; done) | (simp [*]; done)), (by first | rfl | (simp; done) | (simp [*]; done)), (by first | rfl | (simp; done) | (simp [*]; done)), (by first | rfl | (simp; done) | (simp [*]; done)), H', ⟨yag _⟩, ⟨by repeat (first | (with_reducible first | exact HB.out | apply zac | apply zab | apply zad) | exact HB.out)⟩⟩
  case round =>
   clear H'
   try clear p1
   try clear q1
   try clear hx1
   try clear qi1
   try clear p2
   try clear c3
   try clear c3b0
   try clear c3b1
   try clear hx109_0
   try clear p109
   try clear q109
   obtain ⟨x8_1, x9_1, x10_1, x11_1, x12_1, rfl, rfl, rfl, rfl, rfl, HA, HK1, HB⟩ := hrel
   cases gk with
   | zero => exact absurd HA.out (by simp [spec_l1Room.l0])
   | succ k1 =>
    have H := HA.out
    clear HA
    simp only [spec_l1Room.l0] at H
    by_cases c4 : x12_1 < (l0.length : Int)
    ·rw [if_pos c4] at H
     have c4b0 : decide (x12_1 < (l0.length : Int)) = true := decide_eq_true c4
     clear c4
     have H' := zaa.mk H
     clear H
     go_wp2
     go_loopg [8, 9, 10, 11, 13] k1 (fun kq v8 v9 v10 v11 v13 w' => ∃ (x8_2 : Int) (x9_2 : Int) (x10_2 : Int) (x11_2 : Int) (x13_2 : Int), v8 = .int .i64 x8_2 ∧ v9 = .int .i64 x9_2 ∧ v10 = .int .i64 x10_2 ∧ v11 = .int .i64 x11_2 ∧ v13 = .int .i64 x13_2 ∧ zaa (spec_l1Room.l1 kq l0 a1 x8_2 x9_2 x10_2 x11_2 x12_1 x13_2 = some (r1, r2, r3, r4)) ∧ zaa (kq ≤ k1) ∧ zaa (Below w.heap.size w w'))
     case atStart => exact ⟨(x8_1), (x9_1), (x10_1), (x11_1), (0), (by first | rfl | (simp; done) | (simp [*]; done)), (by first | rfl | (simp; done) | (simp [*]; done)), (by first | rfl | (simp; done) | (simp [*]; done)), (by first | rfl | (simp; done) | (simp [*]; done)), (by first | rfl | (simp; done) | (simp [*]; done)), H', ⟨yag _⟩, ⟨by repeat (first | (with_reducible first | exact HB.out | apply zac | apply zab | apply zad) | exact HB.out)⟩⟩
     case round =>
      clear H'
      try clear p1
      try clear q1
      try clear hx1
      try clear qi1
      try clear p2
      try clear c3
      try clear c3b0
      try clear c3b1
      try clear c4
      try clear c4b0
      try clear hx109_0
      try clear p1
      try clear p109
      try clear p2
      try clear q1
      try clear q109
      obtain ⟨x8_2, x9_2, x10_2, x11_2, x13_2, rfl, rfl, rfl, rfl, rfl, HA, HK2, HB⟩ := hrel
      cases gk with
      | zero => exact absurd HA.out (by simp [spec_l1Room.l1])
      | succ k2 =>
       have H := HA.out
       clear HA
       simp only [spec_l1Room.l1] at H
       by_cases c5 : 0 ≤ x12_1
       ·rw [if_pos c5] at H
        have c5b0 : decide (0 ≤ x12_1) = true := decide_eq_true c5
        clear c5
        by_cases c6 : x12_1 < (l0.length : Int)
        ·rw [if_pos c6] at H
         have c6b0 : decide (x12_1 < (l0.length : Int)) = true := decide_eq_true c6
         clear c6
         by_cases c7 : x13_2 < ((rdOf yad l0 x12_1).size : Int)
         ·rw [if_pos c7] at H
          have c7b0 : decide (x13_2 < ((rdOf yad l0 x12_1).size : Int)) = true := decide_eq_true c7
          clear c7
          by_cases c8 : 0 ≤ x13_2
          ·rw [if_pos c8] at H
           have c8b0 : decide (0 ≤ x13_2) = true := decide_eq_true c8
           clear c8
           by_cases c10 : (wrap64 ((wrap64 (bt (rdOf yad l0 x12_1) x13_2)) - 97)) = a1
           ·rw [if_pos c10] at H
            have c10b0 : ((wrap64 ((wrap64 (bt (rdOf yad l0 x12_1) x13_2)) - 97)) == a1) = true := beq_iff_eq.mpr c10
            have c10b1 : ((wrap64 ((wrap64 (bt (rdOf yad l0 x12_1) x13_2)) - 97)) != a1) = false := bne_eq_false_iff_eq.mpr c10
            clear c10
            obtain ⟨ji11, hji11⟩ : ∃ j_ : Int, (mn x8_2 x12_1) = j_ := ⟨_, rfl⟩
            replace H : (spec_l1Room.l1 k2 l0 a1 ji11 (mn x9_2 x13_2) (mx x10_2 x12_1) (mx x11_2 x13_2) x12_1 (wrap64 (x13_2 + 1))) = some (r1, r2, r3, r4) := by first | (rw [hji11] at H; exact H) | (simp only [hji11] at H ⊢; exact H)
            have hji11_ : (if x12_1 < x8_2 then x12_1 else x8_2) = ji11 := hji11
            obtain ⟨ji12, hji12⟩ : ∃ j_ : Int, (mn x9_2 x13_2) = j_ := ⟨_, rfl⟩
            replace H : (spec_l1Room.l1 k2 l0 a1 ji11 ji12 (mx x10_2 x12_1) (mx x11_2 x13_2) x12_1 (wrap64 (x13_2 + 1))) = some (r1, r2, r3, r4) := by first | (rw [hji12] at H; exact H) | (simp only [hji12] at H ⊢; exact H)
            have hji12_ : (if x13_2 < x9_2 then x13_2 else x9_2) = ji12 := hji12
            obtain ⟨ji13, hji13⟩ : ∃ j_ : Int, (mx x10_2 x12_1) = j_ := ⟨_, rfl⟩
            replace H : (spec_l1Room.l1 k2 l0 a1 ji11 ji12 ji13 (mx x11_2 x13_2) x12_1 (wrap64 (x13_2 + 1))) = some (r1, r2, r3, r4) := by first | (rw [hji13] at H; exact H) | (simp only [hji13] at H ⊢; exact H)
            have hji13_ : (if x10_2 < x12_1 then x12_1 else x10_2) = ji13 := hji13
            obtain ⟨ji14, hji14⟩ : ∃ j_ : Int, (mx x11_2 x13_2) = j_ := ⟨_, rfl⟩
            replace H : (spec_l1Room.l1 k2 l0 a1 ji11 ji12 ji13 ji14 x12_1 (wrap64 (x13_2 + 1))) = some (r1, r2, r3, r4) := by first | (rw [hji14] at H; exact H) | (simp only [hji14] at H ⊢; exact H)
            have hji14_ : (if x11_2 < x13_2 then x13_2 else x11_2) = ji14 := hji14
            have H' := zaa.mk H
            clear H
            have p110 : 0 ≤ (x12_1 : Int) := of_decide_eq_true (by assumption)
            have q110 : x12_1 < (l0.length : Int) := of_decide_eq_true (by assumption)
            obtain ⟨ad110, e110, hx110_0⟩ := Kd.at_string HR0.out x12_1 p110 q110
            obtain rfl : ad109 = ad110 := (by injection e110)
            replace hx110_0 := (HB.out.cell (World.block_lt_of_cell? w _ hx110_0)).trans hx110_0
            replace p110 := eq_true p110
            replace q110 := eq_true q110
            have p111 : 0 ≤ (x12_1 : Int) := of_decide_eq_true (by assumption)
            have q111 : x12_1 < (l0.length : Int) := of_decide_eq_true (by assumption)
            obtain ⟨ad111, e111, hx111_0⟩ := Kd.at_string HR0.out x12_1 p111 q111
            obtain rfl : ad109 = ad111 := (by injection e111)
            replace hx111_0 := (HB.out.cell (World.block_lt_of_cell? w _ hx111_0)).trans hx111_0
            replace p111 := eq_true p111
            replace q111 := eq_true q111
            have p9 : 0 ≤ (x13_2 : Int) := of_decide_eq_true (by assumption)
            have q9 : x13_2 < ((rdOf yad l0 x12_1).size : Int) := of_decide_eq_true (by assumption)
            have hx9 := bt_at (rdOf yad l0 x12_1) x13_2
            replace p9 := eq_true p9
            replace q9 := eq_true q9
            go_wp2
            go_roundg k2
            case measure => have := HK1.out; have := HK2.out; omega
            case rel => exact ⟨(ji11), (ji12), (ji13), (ji14), (wrap64 (x13_2 + 1)), (by first | rfl | (simp; done) | (simp only [← hji11] <;> (first | rfl | simp)) | (simp [*]; done)), (by first | rfl | (simp; done) | (simp only [← hji12] <;> (first | rfl | simp)) | (simp [*]; done)), (by first | rfl | (simp; done) | (simp only [← hji13] <;> (first | rfl | simp)) | (simp [*]; done)), (by first | rfl | (simp; done) | (simp only [← hji14] <;> (first | rfl | simp)) | (simp [*]; done)), (by first | rfl | (simp; done) | (simp [*]; done)), H', ⟨by have := HK1.out; have := HK2.out; omega⟩, ⟨by repeat (first | (with_reducible first | exact HB.out | apply zac | apply zab | apply zad) | exact HB.out)⟩⟩
           ·rw [if_neg c10] at H
            have c10b0 : ((wrap64 ((wrap64 (bt (rdOf yad l0 x12_1) x13_2)) - 97)) == a1) = false := beq_eq_false_iff_ne.mpr c10
            have c10b1 : ((wrap64 ((wrap64 (bt (rdOf yad l0 x12_1) x13_2)) - 97)) != a1) = true := bne_iff_ne.mpr c10
            have H' := zaa.mk H
            clear H
            have p110 : 0 ≤ (x12_1 : Int) := of_decide_eq_true (by assumption)
            have q110 : x12_1 < (l0.length : Int) := of_decide_eq_true (by assumption)
            obtain ⟨ad110, e110, hx110_0⟩ := Kd.at_string HR0.out x12_1 p110 q110
            obtain rfl : ad109 = ad110 := (by injection e110)
            replace hx110_0 := (HB.out.cell (World.block_lt_of_cell? w _ hx110_0)).trans hx110_0
            replace p110 := eq_true p110
            replace q110 := eq_true q110
            have p111 : 0 ≤ (x12_1 : Int) := of_decide_eq_true (by assumption)
            have q111 : x12_1 < (l0.length : Int) := of_decide_eq_true (by assumption)
            obtain ⟨ad111, e111, hx111_0⟩ := Kd.at_string HR0.out x12_1 p111 q111
            obtain rfl : ad109 = ad111 := (by injection e111)
            replace hx111_0 := (HB.out.cell (World.block_lt_of_cell? w _ hx111_0)).trans hx111_0
            replace p111 := eq_true p111
            replace q111 := eq_true q111
            have p9 : 0 ≤ (x13_2 : Int) := of_decide_eq_true (by assumption)
            have q9 : x13_2 < ((rdOf yad l0 x12_1).size : Int) := of_decide_eq_true (by assumption)
            have hx9 := bt_at (rdOf yad l0 x12_1) x13_2
            replace p9 := eq_true p9
            replace q9 := eq_true q9
            go_wp2
            go_roundg k2
            case measure => have := HK1.out; have := HK2.out; omega
            case rel => exact ⟨(x8_2), (x9_2), (x10_2), (x11_2), (wrap64 (x13_2 + 1)), (by first | rfl | (simp; done) | (simp [*]; done)), (by first | rfl | (simp; done) | (simp [*]; done)), (by first | rfl | (simp; done) | (simp [*]; done)), (by first | rfl | (simp; done) | (simp [*]; done)), (by first | rfl | (simp; done) | (simp [*]; done)), H', ⟨by have := HK1.out; have := HK2.out; omega⟩, ⟨by repeat (first | (with_reducible first | exact HB.out | apply zac | apply zab | apply zad) | exact HB.out)⟩⟩
          ·rw [if_neg c8] at H
           exact absurd H (by simp)
         ·rw [if_neg c7] at H
          have c7b0 : decide (x13_2 < ((rdOf yad l0 x12_1).size : Int)) = false := decide_eq_false c7
          clear c7
          have H' := zaa.mk H
          clear H
          have p110 : 0 ≤ (x12_1 : Int) := of_decide_eq_true (by assumption)
          have q110 : x12_1 < (l0.length : Int) := of_decide_eq_true (by assumption)
          obtain ⟨ad110, e110, hx110_0⟩ := Kd.at_string HR0.out x12_1 p110 q110
          obtain rfl : ad109 = ad110 := (by injection e110)
          replace hx110_0 := (HB.out.cell (World.block_lt_of_cell? w _ hx110_0)).trans hx110_0
          replace p110 := eq_true p110
          replace q110 := eq_true q110
          go_wp2
          go_roundg k2
          case measure => have := HK1.out; have := HK2.out; omega
          case rel => exact ⟨(x8_2), (x9_2), (x10_2), (x11_2), (wrap64 (x12_1 + 1)), (by first | rfl | (simp; done) | (simp [*]; done)), (by first | rfl | (simp; done) | (simp [*]; done)), (by first | rfl | (simp; done) | (simp [*]; done)), (by first | rfl | (simp; done) | (simp [*]; done)), (by first | rfl | (simp; done) | (simp [*]; done)), H', ⟨by have := HK1.out; have := HK2.out; omega⟩, ⟨by repeat (first | (with_reducible first | exact HB.out | apply zac | apply zab | apply zad) | exact HB.out)⟩⟩
        ·rw [if_neg c6] at H
         exact absurd H (by simp)
       ·rw [if_neg c5] at H
        exact absurd H (by simp)
    ·rw [if_neg c4] at H
     have c4b0 : decide (x12_1 < (l0.length : Int)) = false := decide_eq_false c4
     clear c4
     simp only [Option.some.injEq, Prod.mk.injEq] at H
     obtain ⟨rfl, rfl, rfl, rfl⟩ := H
     go_wp2
     refine bodyPost_ret (results_list (rs := [.tmp 4, .tmp 5, .tmp 6, .tmp 7]) rfl (by simp) (.tmp (.tmp (.tmp (.tmp .nil))))) rfl ?_
     exact ⟨by first | rfl | (simp [zan, zam] <;> rfl) | (simp [*, zan, zam] <;> rfl), by repeat (first | (with_reducible first | exact HB.out | apply zac | apply zab | apply zad) | exact HB.out)⟩
 ·rw [if_neg c3] at H
  exact absurd H (by simp)
def spec_l6In.f (a0 : Int) (a1 : Int) (a2 : Int) : Option (Bool) := if a0 ≥ a1 then (some (decide (a0 ≤ a2))) else (some false)
set_option maxHeartbeats 8000000 in
set_option maxRecDepth 100000 in
theorem spec_l6In.calls (a0 : Int) (a1 : Int) (a2 : Int) (r : Bool) (w : World) (h : spec_l6In.f a0 a1 a2 = some r) :
  Calls Try.prog 91 #[.int .i64 a0, .int .i64 a1, .int .i64 a2] w fun e w' => e = .returned (.bool r) ∧ zbe w w' := by
 have H : (if a0 ≥ a1 then (some (decide (a0 ≤ a2))) else (some false)) = some r := h
 clear h
 by_cases c4 : a0 ≥ a1
 ·rw [if_pos c4] at H
  have c4b0 : decide (a1 ≤ a0) = true := decide_eq_true c4
  clear c4
  obtain rfl := Option.some.inj H
  go_enter Try.func91, Try.ntmps91
  go_wp2
  go_ret
  exact ⟨by first | rfl | (simp; done) | (simp [*]; done), by repeat (first | exact zbe.refl _ | apply zbe.step)⟩
 ·rw [if_neg c4] at H
  have c4b0 : decide (a1 ≤ a0) = false := decide_eq_false c4
  clear c4
  obtain rfl := Option.some.inj H
  go_enter Try.func91, Try.ntmps91
  go_wp2
  go_ret
  exact ⟨by first | rfl | (simp; done) | (simp [*]; done), by repeat (first | exact zbe.refl _ | apply zbe.step)⟩
end Go.Proofs.Ytaepgogafkmooaa.PB
