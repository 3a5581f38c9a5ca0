/- Part 6 of the proof of FnWallList: what the program's functions and the reference's compute. -/
import Derived.Test.YtaepgogafkmooaaProg
import Derived.Below
import Derived.Deep.Draws
import Derived.Deep.AppendLies
import Derived.Maps.AppendAt
import Derived.OwnWalk
import Derived.Laws.BytesArg
import Derived.Laws.MakeOwn
import Derived.Laws.OwnMore
import Derived.Deep.OwnRows
import Derived.Tactics
import Derived.Lib.ConvBytes
import Derived.Laws.Slices
import Derived.WalkKit
import Derived.KernelRfl
import Derived.RowKit3
import Derived.Deep.LoopGhost
import Derived.Deep.QuietTactic
import Derived.BigQuiet
import Derived.WideLaws
import Derived.Deep.DeepCutAuto
import Derived.Deep.CutBlock
import Derived.Deep.RegionHeld3
import Derived.Laws.Rows
import Derived.Lib.AppendStr
import Derived.ArgAppend
import Derived.Laws.IdiomCopy
import Derived.OrdersHeld
import Derived.Laws.BitsLemmas
import Derived.RowKit
import Derived.Test.YtaepgogafkmooaaCPVAe
set_option linter.unusedSimpArgs false
set_option linter.unusedVariables false
namespace Go.Proofs.Ytaepgogafkmooaa.Hd
open Go.RowKit Go.PW.PrintWords Go.PW.PrintLast Go.PW.PrintMore Go.Proofs.Ytaepgogafkmooaa.PB
set_option maxHeartbeats 4000000 in
set_option maxRecDepth 100000 in
theorem WallList_calls (A0 : Option Addr) (c0 : Nat) (l0 : List ByteArray) (w : World) (hr0 : Kd.C Kd.string w A0 l0.length l0) (hc0 : l0.length ≤ c0) (hp : smallP l0) :
  Calls Try.prog 24 #[.slice A0 l0.length c0] w fun e w' => ∃ v0_ : Value, e = .returned (.tuple #[v0_, .bool (zcl l0).2]) ∧ Kd.S (Kd.slice 3 (Kd.int .i64)) 39 w' w.heap.size (fun _ => True) v0_ (zcl l0).1 ∧ Below w.heap.size w w' := by
 have HR := zab.mk hr0
 have HC := zab.mk hc0
 have HP := zab.mk hp
 clear hr0 hc0 hp
 generalize hM : zcl l0 = res
 have HM := zab.mk hM
 clear hM
 generalize hF : zcp l0 = t
 have HF := zab.mk hF
 clear hF
 rcases t with _ | ⟨cs, rs⟩
 ·have e : res = ([], false) := by rw [← HM.out]; unfold zcl; rw [HF.out]
  subst e
  go_enter Try.func24, Try.ntmps24
  go_wp2_with (first
   | (go_at_call 66; refine (floorOf_calls A0 c0 l0 _ HR.out HC.out HP.out).mono ?_; rw [HF.out]; rintro e w8 ⟨hb8, v8, b8, rfl, rfl⟩; have HB8 := zab.mk hb8; clear hb8))
  go_ret2
  exact ⟨_, rfl, Kd.S_nil _ _ _ _ _, HB8.out⟩
 ·have e : res = ((zbw cs).map fourW, true) := by rw [← HM.out, ← walls4_eq]; unfold zcl; rw [HF.out]
  have HE := zab.mk e
  have hok := floorF_ok HF.out
  obtain ⟨K, hK⟩ := walls_ev hok
  have HW := zab.mk (hK K (Nat.le_refl K))
  have HL := zab.mk (wallsOf_bound hok)
  clear hK e hok
  generalize zbw cs = ws at *
  have b1 : (ws.length : Int) ≤ 72 := by have := HL.out; omega
  go_enter Try.func24, Try.ntmps24
  go_wp2_with (first
   | (go_at_call 66; refine (floorOf_calls A0 c0 l0 _ HR.out HC.out HP.out).mono ?_; rw [HF.out]; rintro e w8 ⟨hb8, v8, b8, rfl, rfl, g, rfl, hfl⟩; have HB8 := zab.mk hb8; have HFl8 := zab.mk hfl; clear hb8 hfl)
   | (go_at_call 80; refine (impl_floor_walls.calls K g cs rs ws _ _ HFl8.out (Below.refl _ _) HW.out).mono ?_; rintro e w9 ⟨v9, rfl, hr9, -, hb9, -⟩; obtain ⟨A9, c9, e9⟩ := Kd.R_slice hr9; subst e9; have HB9 := zab.mk (zaj HB8.out hb9); have HR9 := zab.mk (Kd.R_lower hr9 HB8.out.size); clear hb9 hr9))
  go_loopg [6, 20] ws.length (fun kq v6 v20 w' => ∃ i : Nat, v20 = .int .i64 (i : Int) ∧ zab (i + kq = ws.length) ∧ zab (Kd.S (Kd.slice 3 (Kd.int .i64)) 39 w' w9.heap.size (fun _ => True) v6 ((ws.take i).map fourW)) ∧ zab (Below w9.heap.size w9 w'))
  case atStart => exact ⟨0, rfl, ⟨by omega⟩, ⟨Kd.S_nil _ _ _ _ _⟩, ⟨Below.refl _ _⟩⟩
  case round =>
   obtain ⟨i, rfl, HK, HO, HB⟩ := hrel
   by_cases hi : i < ws.length
   ·have hlt : (i : Int) < (ws.length : Int) := by omega
    have hi0 : (0 : Int) ≤ i := by omega
    obtain ⟨gr, cp, ev, -, -, -, -⟩ := Kd.R_form HR9.out (by omega)
    injection ev with ea en ec
    subst ea
    clear en ec
    obtain ⟨z0, z1, z2, z3⟩ := wl_cells (Kd.R_below HR9.out HB.out) i hi
    have HN := zab.mk (show (ws.take (i + 1)).map fourW = (ws.take i).map fourW ++ [fourW (ws.getD i zeroW)] by rw [take_snoc_w ws i hi, List.map_append]; rfl)
    have hln : ((ws.take i).map fourW).length ≤ 72 := by rw [List.length_map, List.length_take]; omega
    have LM := zab.mk hln
    clear hln
    generalize (ws.take i).map fourW = pre at *
    generalize ws.getD i zeroW = a at *
    obtain ⟨lv, f1, f2, f3⟩ := a
    dsimp only at z0 z1 z2 z3
    cases lv
    ·go_wp2_with (first | ((with_reducible refine zax (N := 34) rfl ?_); refine Kd.R_lit (Kd.int .i64) _ 3 ?hg (N := 34) ?hd (xs := ([0, f1, f2, f3] : List Int)) (inner := [.int .i64 0, .int .i64 f1, .int .i64 f2, .int .i64 f3]) (ok := fun _ => True) (okp := fun _ => True) ?hr ?hp (fun _ hk => hk) trivial (Below.refl _ _) (Nat.le_refl _) (by simp) ?_; (case hd => rfl); (case hg => rfl); (case hr => first | (go_simp; done) | (go_simp; rfl)); (case hp => exact (Reps.one (show Kd.M (Kd.int .i64) _ _ _ (0) [.int .i64 (0)] from rfl) (Reps.one (show Kd.M (Kd.int .i64) _ _ _ (f1) [.int .i64 (f1)] from rfl) (Reps.one (show Kd.M (Kd.int .i64) _ _ _ (f2) [.int .i64 (f2)] from rfl) (Reps.one (show Kd.M (Kd.int .i64) _ _ _ (f3) [.int .i64 (f3)] from rfl) (Reps.none _ _)))))); intro v187 w23 ho24 hb hg_ hnew_; clear hg_ hnew_; have n0_ := zab.mk (Kd.S_elder' (by (with_reducible repeat (first | apply Kd.S_alloc | apply Kd.S_drewN | apply Kd.S_drew)); exact HO.out) (Kd.R_base ho24) hb); have n1_ := zab.mk (Kd.R_lower ho24 (zai (by repeat (first | (with_reducible first | exact HB.out | apply zac | apply zaa | apply zad) | exact HB.out)))); have n2_ := zab.mk (zaj (by repeat (first | (with_reducible first | exact HB.out | apply zac | apply zaa | apply zad) | exact HB.out)) hb); clear HO; clear HB; have HO := n0_; have HO188 := n1_; have HB := n2_; clear n0_ n1_ n2_; clear hb ho24; obtain ⟨Ao26, co26, eo26⟩ := Kd.R_slice HO188.out; subst eo26) | ((with_reducible refine zau (b := .append) (xs := #[.tmp 26, .tmp 35]) rfl ?_); at_builtin; refine Kd.S_append (Kd.slice 3 (Kd.int .i64)) (w0 := w9) w9.heap.size rfl (.tmp 26) (.tmp 35) 36 39 (.slice none 0 0) 24 rfl Try.underlying36 info39 rfl (by decide) (by omega) u6 pre ([0, f1, f2, f3] : List Int) [.slice Ao26 ([0, f1, f2, f3] : List Int).length co26] (fun _ => True) (fun k_ => some k_ = (.slice Ao26 ([0, f1, f2, f3] : List Int).length co26 : Value).ownBlock) rfl rfl ?aP (fun k_ hk_ => ((Kd.R_mono (ok' := fun k_ => ((fun _ => True)) k_ ∧ some k_ ≠ (u6 : Value).ownBlock) (Kd.R_apart' (HO188.out) (Kd.S_typed HO.out) (by decide)) (fun k_ hk => ⟨trivial, hk.2⟩))).1 k_ hk_.symm) ?aF ?aO ?aB ?aS ?aL ?_; (case aP => exact Kd.M_row (Kd.R_mono (Kd.R_tight rfl (Kd.R_mono (ok' := fun k_ => ((fun _ => True)) k_ ∧ some k_ ≠ (u6 : Value).ownBlock) (Kd.R_apart' (HO188.out) (Kd.S_typed HO.out) (by decide)) (fun k_ hk => ⟨trivial, hk.2⟩))) (fun _ h_ => h_))); (case aB => exact (by repeat (first | (with_reducible first | exact HB.out | apply zac | apply zaa | apply zad) | exact HB.out))); (case aF => exact (fun _ _ => trivial)); (case aO => exact (by (with_reducible repeat (first | apply Kd.S_alloc | apply Kd.S_drewN | apply Kd.S_drew)); exact Kd.S_mono HO.out (fun k_ hk => ⟨trivial, fun e_ => hk.2 e_⟩))); (case aS => exact (zai (by repeat (first | (with_reducible first | exact HB.out | apply zac | apply zaa | apply zad) | exact HB.out)))); (case aL => have := LM.out; omega); intro v190 w25 ho hb hg hat; have n0_ := zab.mk (hb); have n1_ := zab.mk (ho); clear HB; clear HO; clear HO188; have HB := n0_; have HO191 := n1_; clear n0_ n1_; clear ho hb hg hat))
     go_roundg (ws.length - (i + 1))
     case measure => have := HK.out; omega
     case rel => exact ⟨i + 1, by first | rfl | (congr 1; omega), ⟨by have := HK.out; omega⟩, ⟨by rw [HN.out]; (with_reducible repeat (first | apply Kd.S_alloc | apply Kd.S_drewN | apply Kd.S_drew)); exact HO191.out⟩, ⟨by repeat (first | (with_reducible first | exact HB.out | apply zac | apply zaa | apply zad) | exact HB.out)⟩⟩
    ·go_wp2_with (first | ((with_reducible refine zax (N := 34) rfl ?_); refine Kd.R_lit (Kd.int .i64) _ 3 ?hg (N := 34) ?hd (xs := ([1, f1, f2, f3] : List Int)) (inner := [.int .i64 1, .int .i64 f1, .int .i64 f2, .int .i64 f3]) (ok := fun _ => True) (okp := fun _ => True) ?hr ?hp (fun _ hk => hk) trivial (Below.refl _ _) (Nat.le_refl _) (by simp) ?_; (case hd => rfl); (case hg => rfl); (case hr => first | (go_simp; done) | (go_simp; rfl)); (case hp => exact (Reps.one (show Kd.M (Kd.int .i64) _ _ _ (1) [.int .i64 (1)] from rfl) (Reps.one (show Kd.M (Kd.int .i64) _ _ _ (f1) [.int .i64 (f1)] from rfl) (Reps.one (show Kd.M (Kd.int .i64) _ _ _ (f2) [.int .i64 (f2)] from rfl) (Reps.one (show Kd.M (Kd.int .i64) _ _ _ (f3) [.int .i64 (f3)] from rfl) (Reps.none _ _)))))); intro v187 w23 ho24 hb hg_ hnew_; clear hg_ hnew_; have n0_ := zab.mk (Kd.S_elder' (by (with_reducible repeat (first | apply Kd.S_alloc | apply Kd.S_drewN | apply Kd.S_drew)); exact HO.out) (Kd.R_base ho24) hb); have n1_ := zab.mk (Kd.R_lower ho24 (zai (by repeat (first | (with_reducible first | exact HB.out | apply zac | apply zaa | apply zad) | exact HB.out)))); have n2_ := zab.mk (zaj (by repeat (first | (with_reducible first | exact HB.out | apply zac | apply zaa | apply zad) | exact HB.out)) hb); clear HO; clear HB; have HO := n0_; have HO188 := n1_; have HB := n2_; clear n0_ n1_ n2_; clear hb ho24; obtain ⟨Ao26, co26, eo26⟩ := Kd.R_slice HO188.out; subst eo26) | ((with_reducible refine zau (b := .append) (xs := #[.tmp 26, .tmp 35]) rfl ?_); at_builtin; refine Kd.S_append (Kd.slice 3 (Kd.int .i64)) (w0 := w9) w9.heap.size rfl (.tmp 26) (.tmp 35) 36 39 (.slice none 0 0) 24 rfl Try.underlying36 info39 rfl (by decide) (by omega) u6 pre ([1, f1, f2, f3] : List Int) [.slice Ao26 ([1, f1, f2, f3] : List Int).length co26] (fun _ => True) (fun k_ => some k_ = (.slice Ao26 ([1, f1, f2, f3] : List Int).length co26 : Value).ownBlock) rfl rfl ?aP (fun k_ hk_ => ((Kd.R_mono (ok' := fun k_ => ((fun _ => True)) k_ ∧ some k_ ≠ (u6 : Value).ownBlock) (Kd.R_apart' (HO188.out) (Kd.S_typed HO.out) (by decide)) (fun k_ hk => ⟨trivial, hk.2⟩))).1 k_ hk_.symm) ?aF ?aO ?aB ?aS ?aL ?_; (case aP => exact Kd.M_row (Kd.R_mono (Kd.R_tight rfl (Kd.R_mono (ok' := fun k_ => ((fun _ => True)) k_ ∧ some k_ ≠ (u6 : Value).ownBlock) (Kd.R_apart' (HO188.out) (Kd.S_typed HO.out) (by decide)) (fun k_ hk => ⟨trivial, hk.2⟩))) (fun _ h_ => h_))); (case aB => exact (by repeat (first | (with_reducible first | exact HB.out | apply zac | apply zaa | apply zad) | exact HB.out))); (case aF => exact (fun _ _ => trivial)); (case aO => exact (by (with_reducible repeat (first | apply Kd.S_alloc | apply Kd.S_drewN | apply Kd.S_drew)); exact Kd.S_mono HO.out (fun k_ hk => ⟨trivial, fun e_ => hk.2 e_⟩))); (case aS => exact (zai (by repeat (first | (with_reducible first | exact HB.out | apply zac | apply zaa | apply zad) | exact HB.out)))); (case aL => have := LM.out; omega); intro v190 w25 ho hb hg hat; have n0_ := zab.mk (hb); have n1_ := zab.mk (ho); clear HB; clear HO; clear HO188; have HB := n0_; have HO191 := n1_; clear n0_ n1_; clear ho hb hg hat))
     go_roundg (ws.length - (i + 1))
     case measure => have := HK.out; omega
     case rel => exact ⟨i + 1, by first | rfl | (congr 1; omega), ⟨by have := HK.out; omega⟩, ⟨by rw [HN.out]; (with_reducible repeat (first | apply Kd.S_alloc | apply Kd.S_drewN | apply Kd.S_drew)); exact HO191.out⟩, ⟨by repeat (first | (with_reducible first | exact HB.out | apply zac | apply zaa | apply zad) | exact HB.out)⟩⟩
   ·have hge : ¬ (i : Int) < (ws.length : Int) := by omega
    obtain rfl : i = ws.length := by have := HK.out; omega
    have HT := zab.mk (show (ws.take ws.length).map fourW = ws.map fourW by rw [List.take_length])
    go_wp2
    go_ret2
    rw [HE.out]
    exact ⟨_, rfl, by have := Kd.S_lower HO.out HB9.out.size; rw [HT.out] at this; (with_reducible repeat (first | apply Kd.S_alloc | apply Kd.S_drewN | apply Kd.S_drew)); exact this, zaj HB9.out HB.out⟩
def impl_WallList.f (l0 : List ByteArray) : Option (List (List Int) × Bool) := if smallB l0 = true then some (zcl l0) else none
theorem impl_WallList.calls (A0 : Option Addr) (c0 : Nat) (l0 : List ByteArray) (r1 : List (List Int)) (r2 : Bool) (w : World) (hr0 : Kd.C Kd.string w A0 l0.length l0) (hc0 : l0.length ≤ c0) (h : impl_WallList.f l0 = some (r1, r2)) :
  Calls Try.prog 24 #[.slice A0 l0.length c0] w fun e w' => ∃ v0_ : Value, e = .returned (.tuple #[v0_, .bool r2]) ∧ Kd.S (Kd.slice 3 (Kd.int .i64)) 39 w' w.heap.size (fun _ => True) v0_ r1 ∧ Below w.heap.size w w' := by
 unfold impl_WallList.f at h
 split at h
 ·rename_i hs
  have e := Option.some.inj h
  have := WallList_calls A0 c0 l0 w hr0 hc0 ((smallB_iff _).1 hs)
  rw [e] at this
  exact this
 ·cases h
def impl_WallMany.f (l0 : List ByteArray) : Option (Int × Int × Bool) := if smallB l0 = true then some (wallManyF l0) else none
theorem impl_WallMany.calls (A0 : Option Addr) (c0 : Nat) (l0 : List ByteArray) (r1 : Int) (r2 : Int) (r3 : Bool) (w : World) (hr0 : Kd.C Kd.string w A0 l0.length l0) (hc0 : l0.length ≤ c0) (h : impl_WallMany.f l0 = some (r1, r2, r3)) :
  Calls Try.prog 28 #[.slice A0 l0.length c0] w fun e w' => e = .returned (.tuple #[.int .i64 r1, .int .i64 r2, .bool r3]) ∧ Below w.heap.size w w' := by
 unfold impl_WallMany.f at h
 split at h
 ·rename_i hs
  have e := Option.some.inj h
  have := WallMany_calls A0 c0 l0 w hr0 hc0 ((smallB_iff _).1 hs)
  rw [e] at this
  exact this
 ·cases h
end Go.Proofs.Ytaepgogafkmooaa.Hd
namespace Go.Proofs.Ytaepgogafkmooaa.VA
open Go.Proofs.Ytaepgogafkmooaa.PB Go.Proofs.Ytaepgogafkmooaa.Hd Go.Proofs.Ytaepgogafkmooaa.SM
open Go.RowKit Go.PW.PrintWords Go.PW.PrintLast Go.PW.PrintMore
attribute [local go_sem] zce zcc zcn zcm zbs zbr zcd zcb   -- for this text's walks alone
def errW : Option Int → Value
 | none => .nilIface
 | some c => .iface 0 (.int .i64 c)
theorem zam : errW none = .nilIface := rfl
theorem zal (c : Int) : errW (some c) = .iface 0 (.int .i64 c) := rfl
theorem info3 : (Try.prog.info? 3).map (fun i => (i.zero, i.size, i.bytes)) = some (some (.int .i64 0), 1, 8) := by kernel_rfl
theorem info5 : (Try.prog.info? 5).map (fun i => (i.zero, i.size, i.bytes)) = some (some (.int .u8 0), 1, 1) := by kernel_rfl
theorem info9 : (Try.prog.info? 9).map (fun i => (i.zero, i.size, i.bytes)) = some (some (.string ⟨#[]⟩), 1, 16) := by kernel_rfl
theorem info39 : (Try.prog.info? 39).map (fun i => (i.zero, i.size, i.bytes)) = some (some (.slice none 0 0), 1, 24) := by kernel_rfl
theorem info79 : (Try.prog.info? 79).map (fun i => (i.zero, i.size, i.bytes)) = some (some (.agg #[(.bool false), (.int .i64 0), (.int .i64 0), (.int .i64 0)]), 4, 32) := by kernel_rfl
def rd_L1 (xs : List (List Int)) (i : Int) : (List Int) := xs.getD i.toNat ([] : List Int)
theorem at_L1 {w : World} {A : Option Addr} {n : Nat} {xs : List (List Int)} (h : Kd.C (Kd.slice 3 (Kd.int .i64)) w A n xs) (i : Int) (h0 : 0 ≤ i) (h1 : i < n) : ∃ ad A0 c0, A = some ad ∧ w.cell? (ad.add i.toNat) = some (.slice A0 (rd_L1 xs i).length c0) ∧ (rd_L1 xs i).length ≤ c0 ∧ (Kd.int .i64).C w A0 (rd_L1 xs i).length (rd_L1 xs i) := by
 obtain ⟨ad, c, e, _, hK, hc0⟩ := Kd.C_get h ([] : List Int) i h0 h1
 have hc : ∀ j u, c[j]? = some u → w.cell? (ad.add (i.toNat * 1 + j)) = some u := hc0
 obtain ⟨A0, c0, rfl, l0, g0⟩ := hK
 exact ⟨ad, A0, c0, e, by have hq := hc 0 _ rfl; rwa [Nat.mul_one, Nat.add_zero] at hq, l0, g0⟩
structure S131 where
 f0 : Int
 f1 : Int
 f2 : Int
 f3 : Int
def z131 : S131 := ⟨(0 : Int), (0 : Int), (0 : Int), (0 : Int)⟩
def k131 : Kd S131 := Kd.iso (Kd.pair (Kd.int .i64) (Kd.pair (Kd.int .i64) (Kd.pair (Kd.int .i64) (Kd.int .i64)))) (fun x : S131 => (x.f0, x.f1, x.f2, x.f3))
theorem k131_open {w : World} {x : S131} {cs : List Value} (h : k131.K w x cs) : cs = [.int .i64 x.f0, .int .i64 x.f1, .int .i64 x.f2, .int .i64 x.f3] := by
 obtain ⟨_, _, rfl, rfl, ⟨_, _, rfl, rfl, ⟨_, _, rfl, rfl, rfl⟩⟩⟩ := h
 exact rfl
theorem k131_mkM (w : World) (base : Nat) (ok : Nat → Prop) (x : S131)  : k131.M w base ok x [.int .i64 x.f0, .int .i64 x.f1, .int .i64 x.f2, .int .i64 x.f3] := ⟨[.int .i64 x.f0], [.int .i64 x.f1, .int .i64 x.f2, .int .i64 x.f3], rfl, rfl, ⟨[.int .i64 x.f1], [.int .i64 x.f2, .int .i64 x.f3], rfl, rfl, ⟨[.int .i64 x.f2], [.int .i64 x.f3], rfl, rfl, rfl⟩⟩⟩
def rd_T131 (xs : List S131) (i : Int) : S131 := xs.getD i.toNat z131
theorem at_T131 {w : World} {A : Option Addr} {n : Nat} {xs : List S131} (h : Kd.C k131 w A n xs) (i : Int) (h0 : 0 ≤ i) (h1 : i < n) : ∃ ad , A = some ad ∧ w.cell? (ad.add (i.toNat * 4)) = some (.int .i64 (rd_T131 xs i).f0) ∧ w.cell? ⟨(ad.add (i.toNat * 4)).block, (ad.add (i.toNat * 4)).off + 1, none⟩ = some (.int .i64 (rd_T131 xs i).f1) ∧ w.cell? ⟨(ad.add (i.toNat * 4)).block, (ad.add (i.toNat * 4)).off + 2, none⟩ = some (.int .i64 (rd_T131 xs i).f2) ∧ w.cell? ⟨(ad.add (i.toNat * 4)).block, (ad.add (i.toNat * 4)).off + 3, none⟩ = some (.int .i64 (rd_T131 xs i).f3) := by
 obtain ⟨ad, c, e, _, hK, hc0⟩ := Kd.C_get h z131 i h0 h1
 have hc : ∀ j u, c[j]? = some u → w.cell? (ad.add (i.toNat * 4 + j)) = some u := hc0
 obtain rfl := k131_open hK
 exact ⟨ad, e, hc 0 _ rfl, by rw [← add_field _ _ 1 (by omega)]; exact hc 1 _ rfl, by rw [← add_field _ _ 2 (by omega)]; exact hc 2 _ rfl, by rw [← add_field _ _ 3 (by omega)]; exact hc 3 _ rfl⟩
structure S79 where
 f0 : Bool
 f1 : Int
 f2 : Int
 f3 : Int
def z79 : S79 := ⟨false, (0 : Int), (0 : Int), (0 : Int)⟩
def k79 : Kd S79 := Kd.iso (Kd.pair Kd.bool (Kd.pair (Kd.int .i64) (Kd.pair (Kd.int .i64) (Kd.int .i64)))) (fun x : S79 => (x.f0, x.f1, x.f2, x.f3))
theorem k79_open {w : World} {x : S79} {cs : List Value} (h : k79.K w x cs) : cs = [.bool x.f0, .int .i64 x.f1, .int .i64 x.f2, .int .i64 x.f3] := by
 obtain ⟨_, _, rfl, rfl, ⟨_, _, rfl, rfl, ⟨_, _, rfl, rfl, rfl⟩⟩⟩ := h
 exact rfl
theorem k79_openM {w : World} {base : Nat} {ok : Nat → Prop} {x : S79} {cs : List Value} (h : k79.M w base ok x cs) : cs = [.bool x.f0, .int .i64 x.f1, .int .i64 x.f2, .int .i64 x.f3] := by
 obtain ⟨_, _, rfl, rfl, ⟨_, _, rfl, rfl, ⟨_, _, rfl, rfl, rfl⟩⟩⟩ := h
 exact rfl
theorem k79_mkM (w : World) (base : Nat) (ok : Nat → Prop) (x : S79)  : k79.M w base ok x [.bool x.f0, .int .i64 x.f1, .int .i64 x.f2, .int .i64 x.f3] := ⟨[.bool x.f0], [.int .i64 x.f1, .int .i64 x.f2, .int .i64 x.f3], rfl, rfl, ⟨[.int .i64 x.f1], [.int .i64 x.f2, .int .i64 x.f3], rfl, rfl, ⟨[.int .i64 x.f2], [.int .i64 x.f3], rfl, rfl, rfl⟩⟩⟩
def zbx (xs : List S79) (i : Int) : S79 := xs.getD i.toNat z79
theorem at_T79 {w : World} {A : Option Addr} {n : Nat} {xs : List S79} (h : Kd.C k79 w A n xs) (i : Int) (h0 : 0 ≤ i) (h1 : i < n) : ∃ ad , A = some ad ∧ w.cell? (ad.add (i.toNat * 4)) = some (.bool (zbx xs i).f0) ∧ w.cell? ⟨(ad.add (i.toNat * 4)).block, (ad.add (i.toNat * 4)).off + 1, none⟩ = some (.int .i64 (zbx xs i).f1) ∧ w.cell? ⟨(ad.add (i.toNat * 4)).block, (ad.add (i.toNat * 4)).off + 2, none⟩ = some (.int .i64 (zbx xs i).f2) ∧ w.cell? ⟨(ad.add (i.toNat * 4)).block, (ad.add (i.toNat * 4)).off + 3, none⟩ = some (.int .i64 (zbx xs i).f3) := by
 obtain ⟨ad, c, e, _, hK, hc0⟩ := Kd.C_get h z79 i h0 h1
 have hc : ∀ j u, c[j]? = some u → w.cell? (ad.add (i.toNat * 4 + j)) = some u := hc0
 obtain rfl := k79_open hK
 exact ⟨ad, e, hc 0 _ rfl, by rw [← add_field _ _ 1 (by omega)]; exact hc 1 _ rfl, by rw [← add_field _ _ 2 (by omega)]; exact hc 2 _ rfl, by rw [← add_field _ _ 3 (by omega)]; exact hc 3 _ rfl⟩
end Go.Proofs.Ytaepgogafkmooaa.VA
namespace Go.Proofs.Ytaepgogafkmooaa.VA
open Go.Proofs.Ytaepgogafkmooaa.PB Go.Proofs.Ytaepgogafkmooaa.Hd Go.Proofs.Ytaepgogafkmooaa.SM
open Go.RowKit Go.PW.PrintWords Go.PW.PrintLast Go.PW.PrintMore
attribute [local go_sem] zce zcc zcn zcm zbs zbr zcd zcb   -- for this text's walks alone
mutual
def laws_FnWallList.j0 : Nat → List ByteArray → List (List Int) → Bool → List (List Int) → Bool → Bool → Option (Bool)
 | 0, _, _, _, _, _, _ => none
 | k + 1, x3, x4, x5, x6, x7, x43 => if x43 = true then (if (x5 == x7) = true then ((laws_sameRows.f k x4 x6).bind fun t433 => (some t433)) else (some false)) else ((impl_WallMany.f x3).bind fun bt434 => (laws_FnWallList.l0 k x3 x4 bt434.1 bt434.2.1 bt434.2.2 0 0))
def laws_FnWallList.l0 : Nat → List ByteArray → List (List Int) → Int → Int → Bool → Int → Int → Option (Bool)
 | 0, _, _, _, _, _, _, _ => none
 | k + 1, x3, x4, x8, x9, x10, x11, x12 => if x12 < (x4.length : Int) then (if 0 ≤ x12 then (if 0 < (x3.length : Int) then (if 0 < ((rd_L1 x4 x12).length : Int) then (if (rd (rd_L1 x4 x12) 0) = 1 then (if 1 < ((rd_L1 x4 x12).length : Int) then (if (rd (rd_L1 x4 x12) 1) < 1 then (some false) else (if (rd (rd_L1 x4 x12) 1) ≥ (x3.length : Int) then (some false) else (if 2 < ((rd_L1 x4 x12).length : Int) then (if (rd (rd_L1 x4 x12) 2) < 0 then (some false) else (if 3 < ((rd_L1 x4 x12).length : Int) then (if (rd (rd_L1 x4 x12) 3) < 1 then (some false) else (if (wrap64 ((rd (rd_L1 x4 x12) 2) + (rd (rd_L1 x4 x12) 3))) > ((rdOf ByteArray.empty x3 0).size : Int) then (some false) else (if x12 > 0 then (if 0 ≤ (wrap64 (x12 - 1)) then (if (wrap64 (x12 - 1)) < (x4.length : Int) then (if 0 < ((rd_L1 x4 (wrap64 (x12 - 1))).length : Int) then (if (rd (rd_L1 x4 x12) 0) < (rd (rd_L1 x4 (wrap64 (x12 - 1))) 0) then (some false) else (laws_FnWallList.l0 k x3 x4 x8 x9 x10 x11 (wrap64 (x12 + 1)))) else (none)) else (none)) else (none)) else (laws_FnWallList.l0 k x3 x4 x8 x9 x10 x11 (wrap64 (x12 + 1)))))) else (none))) else (none)))) else (none)) else (if 1 < ((rd_L1 x4 x12).length : Int) then (if (rd (rd_L1 x4 x12) 1) < 1 then (some false) else (if (rd (rd_L1 x4 x12) 1) ≥ ((rdOf ByteArray.empty x3 0).size : Int) then (some false) else (if 2 < ((rd_L1 x4 x12).length : Int) then (if (rd (rd_L1 x4 x12) 2) < 0 then (some false) else (if 3 < ((rd_L1 x4 x12).length : Int) then (if (rd (rd_L1 x4 x12) 3) < 1 then (some false) else (if (wrap64 ((rd (rd_L1 x4 x12) 2) + (rd (rd_L1 x4 x12) 3))) > (x3.length : Int) then (some false) else (if x12 > 0 then (if 0 ≤ (wrap64 (x12 - 1)) then (if (wrap64 (x12 - 1)) < (x4.length : Int) then (if 0 < ((rd_L1 x4 (wrap64 (x12 - 1))).length : Int) then (if (rd (rd_L1 x4 x12) 0) < (rd (rd_L1 x4 (wrap64 (x12 - 1))) 0) then (some false) else (laws_FnWallList.l0 k x3 x4 x8 x9 x10 (wrap64 (x11 + 1)) (wrap64 (x12 + 1)))) else (none)) else (none)) else (none)) else (laws_FnWallList.l0 k x3 x4 x8 x9 x10 (wrap64 (x11 + 1)) (wrap64 (x12 + 1)))))) else (none))) else (none)))) else (none))) else (none)) else (none)) else (none)) else (if x10 = true then (if (x4.length : Int) = (wrap64 (x8 + x9)) then (some (x11 == x8)) else (some false)) else (some false))
end
def laws_FnWallList.f (k : Nat) (l0 : List Int) : Option (Bool) := if (l0.length : Int) > 1048576 then (some true) else ((spec_DrawWallList.f k l0).bind fun t421 => ((impl_WallList.f t421).bind fun bt424 => ((spec_WallList.f k t421).bind fun bt428 => (if (bt424.2 != bt428.2) = true then (laws_FnWallList.j0 k t421 bt424.1 bt424.2 bt428.1 bt428.2 true) else ((laws_sameRows.f k bt424.1 bt428.1).bind fun t432 => (if t432 = true then (laws_FnWallList.j0 k t421 bt424.1 bt424.2 bt428.1 bt428.2 (!bt424.2)) else (laws_FnWallList.j0 k t421 bt424.1 bt424.2 bt428.1 bt428.2 true)))))))
set_option maxHeartbeats 8000000 in
set_option maxRecDepth 100000 in
theorem laws_FnWallList.calls (k : Nat) (A0 : Option Addr) (c0 : Nat) (l0 : List Int) (r : Bool) (w : World) (hr0 : Kd.C (Kd.int .u8) w A0 l0.length l0) (hc0 : l0.length ≤ c0) (h : laws_FnWallList.f k l0 = some r) :
  Calls Try.prog 5 #[.slice A0 l0.length c0] w fun e w' => e = .returned (.bool r) ∧ Below w.heap.size w w' := by
 have HR0 := zab.mk hr0
 have HC0 := zab.mk hc0
 clear hr0 hc0
 have HB := zab.mk (Below.refl w.heap.size w)
 have H : (if (l0.length : Int) > 1048576 then (some true) else ((spec_DrawWallList.f k l0).bind fun t421 => ((impl_WallList.f t421).bind fun bt424 => ((spec_WallList.f k t421).bind fun bt428 => (if (bt424.2 != bt428.2) = true then (laws_FnWallList.j0 k t421 bt424.1 bt424.2 bt428.1 bt428.2 true) else ((laws_sameRows.f k bt424.1 bt428.1).bind fun t432 => (if t432 = true then (laws_FnWallList.j0 k t421 bt424.1 bt424.2 bt428.1 bt428.2 (!bt424.2)) else (laws_FnWallList.j0 k t421 bt424.1 bt424.2 bt428.1 bt428.2 true)))))))) = some r := h
 clear h
 by_cases c2 : (l0.length : Int) > 1048576
 ·rw [if_pos c2] at H
  have c2b0 : decide (1048576 < (l0.length : Int)) = true := decide_eq_true c2
  have c2b1 : decide (1048576 < l0.length) = true := decide_eq_true (by omega)
  clear c2
  obtain rfl := Option.some.inj H
  go_enter Try.func5, Try.ntmps5
  go_wp2
  repeat (go_quiet (fail); try go_wp2)
  go_ret
  exact ⟨by first | rfl | (simp [zam, zal] <;> rfl) | (simp [*, zam, zal] <;> rfl), by repeat (first | (with_reducible first | exact HB.out | apply zac | apply zaa | apply zad) | exact HB.out)⟩
 ·rw [if_neg c2] at H
  have c2b0 : decide (1048576 < (l0.length : Int)) = false := decide_eq_false c2
  have c2b1 : decide (1048576 < l0.length) = false := decide_eq_false (by omega)
  clear c2
  replace H := Option.bind_eq_some_iff.mp H
  obtain ⟨t421, A30, H⟩ := H
  replace H : ((impl_WallList.f t421).bind fun bt424 => ((spec_WallList.f k t421).bind fun bt428 => (if (bt424.2 != bt428.2) = true then (laws_FnWallList.j0 k t421 bt424.1 bt424.2 bt428.1 bt428.2 true) else ((laws_sameRows.f k bt424.1 bt428.1).bind fun t432 => (if t432 = true then (laws_FnWallList.j0 k t421 bt424.1 bt424.2 bt428.1 bt428.2 (!bt424.2)) else (laws_FnWallList.j0 k t421 bt424.1 bt424.2 bt428.1 bt428.2 true)))))) = some r := H
  have A3 := zab.mk A30
  clear A30
  replace H := Option.bind_eq_some_iff.mp H
  obtain ⟨⟨t424, t425⟩, A40, H⟩ := H
  replace H : ((spec_WallList.f k t421).bind fun bt428 => (if (t425 != bt428.2) = true then (laws_FnWallList.j0 k t421 t424 t425 bt428.1 bt428.2 true) else ((laws_sameRows.f k t424 bt428.1).bind fun t432 => (if t432 = true then (laws_FnWallList.j0 k t421 t424 t425 bt428.1 bt428.2 (!t425)) else (laws_FnWallList.j0 k t421 t424 t425 bt428.1 bt428.2 true))))) = some r := H
  have A4 := zab.mk A40
  clear A40
  replace H := Option.bind_eq_some_iff.mp H
  obtain ⟨⟨t428, t429⟩, A50, H⟩ := H
  replace H : (if (t425 != t429) = true then (laws_FnWallList.j0 k t421 t424 t425 t428 t429 true) else ((laws_sameRows.f k t424 t428).bind fun t432 => (if t432 = true then (laws_FnWallList.j0 k t421 t424 t425 t428 t429 (!t425)) else (laws_FnWallList.j0 k t421 t424 t425 t428 t429 true)))) = some r := H
  have A5 := zab.mk A50
  clear A50
  have HC6 := zab.mk H
  clear H
  go_enter Try.func5, Try.ntmps5
  go_upto_region 6 with (first | (go_at_call 25; (with_reducible refine (spec_DrawWallList.calls k _ _ l0 t421 _ ?side1 ?side2 A3.out).mono ?_); (case side1 => repeat (first | exact HR0.out | (with_reducible refine Kd.C_alloc ?_ _) | (with_reducible refine Kd.C_drewN ?_ _) | (with_reducible refine Kd.C_drew ?_))); (case side2 => exact HC0.out); rintro e w7 ⟨v422, rfl, ho0, hb⟩; have n0_ := zab.mk (Kd.V_lower (Kd.V_mono (ok' := fun k_ => True) ho0 (fun k_ hk_ => trivial)) (zai (by repeat (first | (with_reducible first | exact HB.out | apply zac | apply zaa | apply zad) | exact HB.out)))); have n1_ := zab.mk (zaj (by repeat (first | (with_reducible first | exact HB.out | apply zac | apply zaa | apply zad) | exact HB.out)) hb); clear HB; have HO423 := n0_; have HB := n1_; clear n0_ n1_; (try clear hb); (try clear hb2); (try clear hk); (try clear hi); (try clear ho0); obtain ⟨Ao8, co8, eo8⟩ := Kd.V_slice HO423.out; subst eo8) | (go_at_call 24; (with_reducible refine (impl_WallList.calls _ _ t421 t424 t425 _ ?side1 ?side2 A4.out).mono ?_); (case side1 => repeat (first | exact (Kd.V_reads' HO423.out).2.2 | (with_reducible refine Kd.C_alloc ?_ _) | (with_reducible refine Kd.C_drewN ?_ _) | (with_reducible refine Kd.C_drew ?_))); (case side2 => exact (Kd.V_reads' HO423.out).2.1); rintro e w9 ⟨v426, rfl, ho0, hb⟩; have n0_ := zab.mk (Kd.V_elder' (by (with_reducible repeat (first | apply Kd.V_alloc | apply Kd.V_drewN | apply Kd.V_drew)); exact HO423.out) (Kd.S_base ho0) hb); have n1_ := zab.mk (Kd.S_lower ho0 (zai (by repeat (first | (with_reducible first | exact HB.out | apply zac | apply zaa | apply zad) | exact HB.out)))); have n2_ := zab.mk (zaj (by repeat (first | (with_reducible first | exact HB.out | apply zac | apply zaa | apply zad) | exact HB.out)) hb); clear HO423; clear HB; have HO423 := n0_; have HO427 := n1_; have HB := n2_; clear n0_ n1_ n2_; (try clear hb); (try clear hb2); (try clear hk); (try clear hi); (try clear ho0)) | (go_at_call 26; (with_reducible refine (spec_WallList.calls k _ _ t421 t428 t429 _ ?side1 ?side2 A5.out).mono ?_); (case side1 => repeat (first | exact (Kd.V_reads' HO423.out).2.2 | (with_reducible refine Kd.C_alloc ?_ _) | (with_reducible refine Kd.C_drewN ?_ _) | (with_reducible refine Kd.C_drew ?_))); (case side2 => exact (Kd.V_reads' HO423.out).2.1); rintro e w10 ⟨v430, rfl, ho0, hb⟩; have n0_ := zab.mk (Kd.V_elder' (by (with_reducible repeat (first | apply Kd.V_alloc | apply Kd.V_drewN | apply Kd.V_drew)); exact HO423.out) (Kd.S_base ho0) hb); have n1_ := zab.mk (Kd.S_elder' (by (with_reducible repeat (first | apply Kd.S_alloc | apply Kd.S_drewN | apply Kd.S_drew)); exact HO427.out) (Kd.S_base ho0) hb); have n2_ := zab.mk (Kd.S_lower (Kd.S_new' ho0 (Kd.S_lt (by (with_reducible repeat (first | apply Kd.S_alloc | apply Kd.S_drewN | apply Kd.S_drew)); exact HO427.out))) (zai (by repeat (first | (with_reducible first | exact HB.out | apply zac | apply zaa | apply zad) | exact HB.out)))); have n3_ := zab.mk (zaj (by repeat (first | (with_reducible first | exact HB.out | apply zac | apply zaa | apply zad) | exact HB.out)) hb); clear HO423; clear HO427; clear HB; have HO423 := n0_; have HO427 := n1_; have HO431 := n2_; have HB := n3_; clear n0_ n1_ n2_ n3_; (try clear hb); (try clear hb2); (try clear hk); (try clear hi); (try clear ho0)))
  repeat (go_quiet (first | (go_at_call 25; (with_reducible refine (spec_DrawWallList.calls k _ _ l0 t421 _ ?side1 ?side2 A3.out).mono ?_); (case side1 => repeat (first | exact HR0.out | (with_reducible refine Kd.C_alloc ?_ _) | (with_reducible refine Kd.C_drewN ?_ _) | (with_reducible refine Kd.C_drew ?_))); (case side2 => exact HC0.out); rintro e w7 ⟨v422, rfl, ho0, hb⟩; have n0_ := zab.mk (Kd.V_lower (Kd.V_mono (ok' := fun k_ => True) ho0 (fun k_ hk_ => trivial)) (zai (by repeat (first | (with_reducible first | exact HB.out | apply zac | apply zaa | apply zad) | exact HB.out)))); have n1_ := zab.mk (zaj (by repeat (first | (with_reducible first | exact HB.out | apply zac | apply zaa | apply zad) | exact HB.out)) hb); clear HB; have HO423 := n0_; have HB := n1_; clear n0_ n1_; (try clear hb); (try clear hb2); (try clear hk); (try clear hi); (try clear ho0); obtain ⟨Ao8, co8, eo8⟩ := Kd.V_slice HO423.out; subst eo8) | (go_at_call 24; (with_reducible refine (impl_WallList.calls _ _ t421 t424 t425 _ ?side1 ?side2 A4.out).mono ?_); (case side1 => repeat (first | exact (Kd.V_reads' HO423.out).2.2 | (with_reducible refine Kd.C_alloc ?_ _) | (with_reducible refine Kd.C_drewN ?_ _) | (with_reducible refine Kd.C_drew ?_))); (case side2 => exact (Kd.V_reads' HO423.out).2.1); rintro e w9 ⟨v426, rfl, ho0, hb⟩; have n0_ := zab.mk (Kd.V_elder' (by (with_reducible repeat (first | apply Kd.V_alloc | apply Kd.V_drewN | apply Kd.V_drew)); exact HO423.out) (Kd.S_base ho0) hb); have n1_ := zab.mk (Kd.S_lower ho0 (zai (by repeat (first | (with_reducible first | exact HB.out | apply zac | apply zaa | apply zad) | exact HB.out)))); have n2_ := zab.mk (zaj (by repeat (first | (with_reducible first | exact HB.out | apply zac | apply zaa | apply zad) | exact HB.out)) hb); clear HO423; clear HB; have HO423 := n0_; have HO427 := n1_; have HB := n2_; clear n0_ n1_ n2_; (try clear hb); (try clear hb2); (try clear hk); (try clear hi); (try clear ho0)) | (go_at_call 26; (with_reducible refine (spec_WallList.calls k _ _ t421 t428 t429 _ ?side1 ?side2 A5.out).mono ?_); (case side1 => repeat (first | exact (Kd.V_reads' HO423.out).2.2 | (with_reducible refine Kd.C_alloc ?_ _) | (with_reducible refine Kd.C_drewN ?_ _) | (with_reducible refine Kd.C_drew ?_))); (case side2 => exact (Kd.V_reads' HO423.out).2.1); rintro e w10 ⟨v430, rfl, ho0, hb⟩; have n0_ := zab.mk (Kd.V_elder' (by (with_reducible repeat (first | apply Kd.V_alloc | apply Kd.V_drewN | apply Kd.V_drew)); exact HO423.out) (Kd.S_base ho0) hb); have n1_ := zab.mk (Kd.S_elder' (by (with_reducible repeat (first | apply Kd.S_alloc | apply Kd.S_drewN | apply Kd.S_drew)); exact HO427.out) (Kd.S_base ho0) hb); have n2_ := zab.mk (Kd.S_lower (Kd.S_new' ho0 (Kd.S_lt (by (with_reducible repeat (first | apply Kd.S_alloc | apply Kd.S_drewN | apply Kd.S_drew)); exact HO427.out))) (zai (by repeat (first | (with_reducible first | exact HB.out | apply zac | apply zaa | apply zad) | exact HB.out)))); have n3_ := zab.mk (zaj (by repeat (first | (with_reducible first | exact HB.out | apply zac | apply zaa | apply zad) | exact HB.out)) hb); clear HO423; clear HO427; clear HB; have HO423 := n0_; have HO427 := n1_; have HO431 := n2_; have HB := n3_; clear n0_ n1_ n2_ n3_; (try clear hb); (try clear hb2); (try clear hk); (try clear hi); (try clear ho0))); go_upto_region 6 with (first | (go_at_call 25; (with_reducible refine (spec_DrawWallList.calls k _ _ l0 t421 _ ?side1 ?side2 A3.out).mono ?_); (case side1 => repeat (first | exact HR0.out | (with_reducible refine Kd.C_alloc ?_ _) | (with_reducible refine Kd.C_drewN ?_ _) | (with_reducible refine Kd.C_drew ?_))); (case side2 => exact HC0.out); rintro e w7 ⟨v422, rfl, ho0, hb⟩; have n0_ := zab.mk (Kd.V_lower (Kd.V_mono (ok' := fun k_ => True) ho0 (fun k_ hk_ => trivial)) (zai (by repeat (first | (with_reducible first | exact HB.out | apply zac | apply zaa | apply zad) | exact HB.out)))); have n1_ := zab.mk (zaj (by repeat (first | (with_reducible first | exact HB.out | apply zac | apply zaa | apply zad) | exact HB.out)) hb); clear HB; have HO423 := n0_; have HB := n1_; clear n0_ n1_; (try clear hb); (try clear hb2); (try clear hk); (try clear hi); (try clear ho0); obtain ⟨Ao8, co8, eo8⟩ := Kd.V_slice HO423.out; subst eo8) | (go_at_call 24; (with_reducible refine (impl_WallList.calls _ _ t421 t424 t425 _ ?side1 ?side2 A4.out).mono ?_); (case side1 => repeat (first | exact (Kd.V_reads' HO423.out).2.2 | (with_reducible refine Kd.C_alloc ?_ _) | (with_reducible refine Kd.C_drewN ?_ _) | (with_reducible refine Kd.C_drew ?_))); (case side2 => exact (Kd.V_reads' HO423.out).2.1); rintro e w9 ⟨v426, rfl, ho0, hb⟩; have n0_ := zab.mk (Kd.V_elder' (by (with_reducible repeat (first | apply Kd.V_alloc | apply Kd.V_drewN | apply Kd.V_drew)); exact HO423.out) (Kd.S_base ho0) hb); have n1_ := zab.mk (Kd.S_lower ho0 (zai (by repeat (first | (with_reducible first | exact HB.out | apply zac | apply zaa | apply zad) | exact HB.out)))); have n2_ := zab.mk (zaj (by repeat (first | (with_reducible first | exact HB.out | apply zac | apply zaa | apply zad) | exact HB.out)) hb); clear HO423; clear HB; have HO423 := n0_; have HO427 := n1_; have HB := n2_; clear n0_ n1_ n2_; (try clear hb); (try clear hb2); (try clear hk); (try clear hi); (try clear ho0)) | (go_at_call 26; (with_reducible refine (spec_WallList.calls k _ _ t421 t428 t429 _ ?side1 ?side2 A5.out).mono ?_); (case side1 => repeat (first | exact (Kd.V_reads' HO423.out).2.2 | (with_reducible refine Kd.C_alloc ?_ _) | (with_reducible refine Kd.C_drewN ?_ _) | (with_reducible refine Kd.C_drew ?_))); (case side2 => exact (Kd.V_reads' HO423.out).2.1); rintro e w10 ⟨v430, rfl, ho0, hb⟩; have n0_ := zab.mk (Kd.V_elder' (by (with_reducible repeat (first | apply Kd.V_alloc | apply Kd.V_drewN | apply Kd.V_drew)); exact HO423.out) (Kd.S_base ho0) hb); have n1_ := zab.mk (Kd.S_elder' (by (with_reducible repeat (first | apply Kd.S_alloc | apply Kd.S_drewN | apply Kd.S_drew)); exact HO427.out) (Kd.S_base ho0) hb); have n2_ := zab.mk (Kd.S_lower (Kd.S_new' ho0 (Kd.S_lt (by (with_reducible repeat (first | apply Kd.S_alloc | apply Kd.S_drewN | apply Kd.S_drew)); exact HO427.out))) (zai (by repeat (first | (with_reducible first | exact HB.out | apply zac | apply zaa | apply zad) | exact HB.out)))); have n3_ := zab.mk (zaj (by repeat (first | (with_reducible first | exact HB.out | apply zac | apply zaa | apply zad) | exact HB.out)) hb); clear HO423; clear HO427; clear HB; have HO423 := n0_; have HO427 := n1_; have HO431 := n2_; have HB := n3_; clear n0_ n1_ n2_ n3_; (try clear hb); (try clear hb2); (try clear hk); (try clear hi); (try clear ho0))))
  (try simp only [Act.put, List.setIfInBounds_toArray, List.set_cons_zero, List.set_cons_succ])
  go_cut [43] (fun v43 wc => ∃ (kq : Nat) (x43_5 : Bool), v43 = .bool x43_5 ∧ zab (laws_FnWallList.j0 kq t421 t424 t425 t428 t429 x43_5 = some r) ∧ zab (kq ≤ k) ∧ zab (Kd.V Kd.string 9 wc w.heap.size (fun k_ => some k_ ≠ (v426 : Value).ownBlock ∧ some k_ ≠ (v430 : Value).ownBlock) (.slice Ao8 t421.length co8) t421) ∧ zab (Kd.S (Kd.slice 3 (Kd.int .i64)) 39 wc w.heap.size (fun k_ => some k_ ≠ (v430 : Value).ownBlock) v426 t424) ∧ zab (Kd.S (Kd.slice 3 (Kd.int .i64)) 39 wc w.heap.size (fun k_ => some k_ ≠ (v426 : Value).ownBlock) v430 t428) ∧ zab (Below w.heap.size w wc))
  case first =>
   have H := HC6.out
   clear HC6
   by_cases c11 : (t425 != t429) = true
   ·rw [if_pos c11] at H
    have c11b0 : (t425 != t429) = true := c11
    (try (have c11b1 : decide (t425 = t429) = false := by simpa using c11))
    (try (have c11b2 : (t425 == t429) = false := by simpa using c11))
    (try (have c11b3 : ¬ (t425 = t429) := by simpa using c11))
    clear c11
    (first | rw [c11b0] | (simp only [zba, zbb]; rw [c11b0]) | skip)
    have H' := zab.mk H
    clear H
    go_wp2
    repeat (go_quiet (fail); try go_wp2)
    go_meet
    case rel => exact ⟨_, (true), (by first | rfl | (simp; done) | (simp [*]; done)), H', ⟨by first | omega | exact Nat.le_refl _⟩, ⟨by (with_reducible repeat (first | apply Kd.V_alloc | apply Kd.V_drewN | apply Kd.V_drew)); exact Kd.V_mono HO423.out (fun _ hk => ⟨hk.1.2, hk.2⟩)⟩, ⟨by (with_reducible repeat (first | apply Kd.S_alloc | apply Kd.S_drewN | apply Kd.S_drew)); exact Kd.S_mono HO427.out (fun _ hk => hk.2)⟩, ⟨by (with_reducible repeat (first | apply Kd.S_alloc | apply Kd.S_drewN | apply Kd.S_drew)); exact Kd.S_mono HO431.out (fun _ hk => hk.2)⟩, ⟨by repeat (first | (with_reducible first | exact HB.out | apply zac | apply zaa | apply zad) | exact HB.out)⟩⟩
   ·rw [if_neg c11] at H
    have c11b0 : (t425 != t429) = false := by simpa using c11
    (try (have c11b1 : decide (t425 = t429) = true := by simpa using c11))
    (try (have c11b2 : (t425 == t429) = true := by simpa using c11))
    clear c11
    (first | rw [c11b0] | (simp only [zba, zbb]; rw [c11b0]) | skip)
    replace H := Option.bind_eq_some_iff.mp H
    obtain ⟨t432, A120, H⟩ := H
    replace H : (if t432 = true then (laws_FnWallList.j0 k t421 t424 t425 t428 t429 (!t425)) else (laws_FnWallList.j0 k t421 t424 t425 t428 t429 true)) = some r := H
    have A12 := zab.mk A120
    clear A120
    by_cases c13 : t432 = true
    ·subst c13
     have H1 : (laws_FnWallList.j0 k t421 t424 t425 t428 t429 (!t425)) = some r := by rw [if_pos rfl] at H; exact H
     clear H
     have H := H1
     clear H1
     have H' := zab.mk H
     clear H
     obtain ⟨Ao14, co14, eo14⟩ := Kd.S_slice HO427.out
     subst eo14
     obtain ⟨Ao15, co15, eo15⟩ := Kd.S_slice HO431.out
     subst eo15
     go_wp2_with (first | (go_at_call 27; (with_reducible refine (laws_sameRows.calls k _ _ t424 _ _ t428 true _ ?side1 ?side2 ?side3 ?side4 A12.out).mono ?_); (case side1 => repeat (first | exact (Kd.S_reads' HO427.out).2.2 | (with_reducible refine Kd.C_alloc ?_ _) | (with_reducible refine Kd.C_drewN ?_ _) | (with_reducible refine Kd.C_drew ?_))); (case side2 => exact (Kd.S_reads' HO427.out).2.1); (case side3 => repeat (first | exact (Kd.S_reads' HO431.out).2.2 | (with_reducible refine Kd.C_alloc ?_ _) | (with_reducible refine Kd.C_drewN ?_ _) | (with_reducible refine Kd.C_drew ?_))); (case side4 => exact (Kd.S_reads' HO431.out).2.1); rintro e w' ⟨rfl, ⟨nd, rfl⟩⟩; (try first | exact ⟨rfl, _, World.drewN_drewN _ _ _⟩ | exact ⟨rfl, _, Eq.trans (World.drewN_drewN _ _ _) (congrArg (World.drewN _) (Nat.add_assoc _ _ _))⟩)))
     repeat (go_quiet (first | (go_at_call 27; (with_reducible refine (laws_sameRows.calls k _ _ t424 _ _ t428 true _ ?side1 ?side2 ?side3 ?side4 A12.out).mono ?_); (case side1 => repeat (first | exact (Kd.S_reads' HO427.out).2.2 | (with_reducible refine Kd.C_alloc ?_ _) | (with_reducible refine Kd.C_drewN ?_ _) | (with_reducible refine Kd.C_drew ?_))); (case side2 => exact (Kd.S_reads' HO427.out).2.1); (case side3 => repeat (first | exact (Kd.S_reads' HO431.out).2.2 | (with_reducible refine Kd.C_alloc ?_ _) | (with_reducible refine Kd.C_drewN ?_ _) | (with_reducible refine Kd.C_drew ?_))); (case side4 => exact (Kd.S_reads' HO431.out).2.1); rintro e w' ⟨rfl, ⟨nd, rfl⟩⟩; (try first | exact ⟨rfl, _, World.drewN_drewN _ _ _⟩ | exact ⟨rfl, _, Eq.trans (World.drewN_drewN _ _ _) (congrArg (World.drewN _) (Nat.add_assoc _ _ _))⟩))); try go_wp2_with (first | (go_at_call 27; (with_reducible refine (laws_sameRows.calls k _ _ t424 _ _ t428 true _ ?side1 ?side2 ?side3 ?side4 A12.out).mono ?_); (case side1 => repeat (first | exact (Kd.S_reads' HO427.out).2.2 | (with_reducible refine Kd.C_alloc ?_ _) | (with_reducible refine Kd.C_drewN ?_ _) | (with_reducible refine Kd.C_drew ?_))); (case side2 => exact (Kd.S_reads' HO427.out).2.1); (case side3 => repeat (first | exact (Kd.S_reads' HO431.out).2.2 | (with_reducible refine Kd.C_alloc ?_ _) | (with_reducible refine Kd.C_drewN ?_ _) | (with_reducible refine Kd.C_drew ?_))); (case side4 => exact (Kd.S_reads' HO431.out).2.1); rintro e w' ⟨rfl, ⟨nd, rfl⟩⟩; (try first | exact ⟨rfl, _, World.drewN_drewN _ _ _⟩ | exact ⟨rfl, _, Eq.trans (World.drewN_drewN _ _ _) (congrArg (World.drewN _) (Nat.add_assoc _ _ _))⟩))))
     go_meet
     case rel => exact ⟨_, (!t425), (by first | rfl | (simp; done) | (simp [*]; done)), H', ⟨by first | omega | exact Nat.le_refl _⟩, ⟨by (with_reducible repeat (first | apply Kd.V_alloc | apply Kd.V_drewN | apply Kd.V_drew)); exact Kd.V_mono HO423.out (fun _ hk => ⟨hk.1.2, hk.2⟩)⟩, ⟨by (with_reducible repeat (first | apply Kd.S_alloc | apply Kd.S_drewN | apply Kd.S_drew)); exact Kd.S_mono HO427.out (fun _ hk => hk.2)⟩, ⟨by (with_reducible repeat (first | apply Kd.S_alloc | apply Kd.S_drewN | apply Kd.S_drew)); exact Kd.S_mono HO431.out (fun _ hk => hk.2)⟩, ⟨by repeat (first | (with_reducible first | exact HB.out | apply zac | apply zaa | apply zad) | exact HB.out)⟩⟩
    ·replace c13 := Bool.eq_false_iff.mpr c13
     subst c13
     have H1 : (laws_FnWallList.j0 k t421 t424 t425 t428 t429 true) = some r := by rw [if_neg (show ¬ (false = true) by decide)] at H; exact H
     clear H
     have H := H1
     clear H1
     have H' := zab.mk H
     clear H
     obtain ⟨Ao16, co16, eo16⟩ := Kd.S_slice HO427.out
     subst eo16
     obtain ⟨Ao17, co17, eo17⟩ := Kd.S_slice HO431.out
     subst eo17
     go_wp2_with (first | (go_at_call 27; (with_reducible refine (laws_sameRows.calls k _ _ t424 _ _ t428 false _ ?side1 ?side2 ?side3 ?side4 A12.out).mono ?_); (case side1 => repeat (first | exact (Kd.S_reads' HO427.out).2.2 | (with_reducible refine Kd.C_alloc ?_ _) | (with_reducible refine Kd.C_drewN ?_ _) | (with_reducible refine Kd.C_drew ?_))); (case side2 => exact (Kd.S_reads' HO427.out).2.1); (case side3 => repeat (first | exact (Kd.S_reads' HO431.out).2.2 | (with_reducible refine Kd.C_alloc ?_ _) | (with_reducible refine Kd.C_drewN ?_ _) | (with_reducible refine Kd.C_drew ?_))); (case side4 => exact (Kd.S_reads' HO431.out).2.1); rintro e w' ⟨rfl, ⟨nd, rfl⟩⟩; (try first | exact ⟨rfl, _, World.drewN_drewN _ _ _⟩ | exact ⟨rfl, _, Eq.trans (World.drewN_drewN _ _ _) (congrArg (World.drewN _) (Nat.add_assoc _ _ _))⟩)))
     repeat (go_quiet (first | (go_at_call 27; (with_reducible refine (laws_sameRows.calls k _ _ t424 _ _ t428 false _ ?side1 ?side2 ?side3 ?side4 A12.out).mono ?_); (case side1 => repeat (first | exact (Kd.S_reads' HO427.out).2.2 | (with_reducible refine Kd.C_alloc ?_ _) | (with_reducible refine Kd.C_drewN ?_ _) | (with_reducible refine Kd.C_drew ?_))); (case side2 => exact (Kd.S_reads' HO427.out).2.1); (case side3 => repeat (first | exact (Kd.S_reads' HO431.out).2.2 | (with_reducible refine Kd.C_alloc ?_ _) | (with_reducible refine Kd.C_drewN ?_ _) | (with_reducible refine Kd.C_drew ?_))); (case side4 => exact (Kd.S_reads' HO431.out).2.1); rintro e w' ⟨rfl, ⟨nd, rfl⟩⟩; (try first | exact ⟨rfl, _, World.drewN_drewN _ _ _⟩ | exact ⟨rfl, _, Eq.trans (World.drewN_drewN _ _ _) (congrArg (World.drewN _) (Nat.add_assoc _ _ _))⟩))); try go_wp2_with (first | (go_at_call 27; (with_reducible refine (laws_sameRows.calls k _ _ t424 _ _ t428 false _ ?side1 ?side2 ?side3 ?side4 A12.out).mono ?_); (case side1 => repeat (first | exact (Kd.S_reads' HO427.out).2.2 | (with_reducible refine Kd.C_alloc ?_ _) | (with_reducible refine Kd.C_drewN ?_ _) | (with_reducible refine Kd.C_drew ?_))); (case side2 => exact (Kd.S_reads' HO427.out).2.1); (case side3 => repeat (first | exact (Kd.S_reads' HO431.out).2.2 | (with_reducible refine Kd.C_alloc ?_ _) | (with_reducible refine Kd.C_drewN ?_ _) | (with_reducible refine Kd.C_drew ?_))); (case side4 => exact (Kd.S_reads' HO431.out).2.1); rintro e w' ⟨rfl, ⟨nd, rfl⟩⟩; (try first | exact ⟨rfl, _, World.drewN_drewN _ _ _⟩ | exact ⟨rfl, _, Eq.trans (World.drewN_drewN _ _ _) (congrArg (World.drewN _) (Nat.add_assoc _ _ _))⟩))))
     go_meet
     case rel => exact ⟨_, (true), (by first | rfl | (simp; done) | (simp [*]; done)), H', ⟨by first | omega | exact Nat.le_refl _⟩, ⟨by (with_reducible repeat (first | apply Kd.V_alloc | apply Kd.V_drewN | apply Kd.V_drew)); exact Kd.V_mono HO423.out (fun _ hk => ⟨hk.1.2, hk.2⟩)⟩, ⟨by (with_reducible repeat (first | apply Kd.S_alloc | apply Kd.S_drewN | apply Kd.S_drew)); exact Kd.S_mono HO427.out (fun _ hk => hk.2)⟩, ⟨by (with_reducible repeat (first | apply Kd.S_alloc | apply Kd.S_drewN | apply Kd.S_drew)); exact Kd.S_mono HO431.out (fun _ hk => hk.2)⟩, ⟨by repeat (first | (with_reducible first | exact HB.out | apply zac | apply zaa | apply zad) | exact HB.out)⟩⟩
  case rest =>
   clear HC6
   try clear c1
   try clear c2
   try clear c2b0
   try clear c2b1
   try clear p2
   try clear c5
   try clear c11
   try clear c11b0
   try clear c11b1
   try clear c11b2
   try clear c13
   obtain ⟨kq, x43_5, rfl, HA, HJ5, HO_3, HO_4, HO_6, HB⟩ := hcut
   cases kq with
   | zero => exact absurd HA.out (by simp [laws_FnWallList.j0])
   | succ kj5 =>
    have H := HA.out
    clear HA
    simp only [laws_FnWallList.j0] at H
    by_cases c18 : x43_5 = true
    ·subst c18
     have H1 : (if (t425 == t429) = true then ((laws_sameRows.f kj5 t424 t428).bind fun t433 => (some t433)) else (some false)) = some r := by rw [if_pos rfl] at H; exact H
     clear H
     have H := H1
     clear H1
     by_cases c19 : (t425 == t429) = true
     ·rw [if_pos c19] at H
      have c19b0 : (t425 == t429) = true := c19
      (try (have c19b1 : decide (t425 = t429) = true := by simpa using c19))
      (try (have c19b2 : (t425 == t429) = true := by simpa using c19))
      clear c19
      replace H := Option.bind_eq_some_iff.mp H
      obtain ⟨t433, A200, H⟩ := H
      replace H : (some t433) = some r := H
      have A20 := zab.mk A200
      clear A200
      obtain rfl := Option.some.inj H
      obtain ⟨Ao21, co21, eo21⟩ := Kd.S_slice HO_4.out
      subst eo21
      obtain ⟨Ao22, co22, eo22⟩ := Kd.S_slice HO_6.out
      subst eo22
      go_wp2_with (first | (go_at_call 27; (with_reducible refine (laws_sameRows.calls kj5 _ _ t424 _ _ t428 t433 _ ?side1 ?side2 ?side3 ?side4 A20.out).mono ?_); (case side1 => repeat (first | exact (Kd.S_reads' HO_4.out).2.2 | (with_reducible refine Kd.C_alloc ?_ _) | (with_reducible refine Kd.C_drewN ?_ _) | (with_reducible refine Kd.C_drew ?_))); (case side2 => exact (Kd.S_reads' HO_4.out).2.1); (case side3 => repeat (first | exact (Kd.S_reads' HO_6.out).2.2 | (with_reducible refine Kd.C_alloc ?_ _) | (with_reducible refine Kd.C_drewN ?_ _) | (with_reducible refine Kd.C_drew ?_))); (case side4 => exact (Kd.S_reads' HO_6.out).2.1); rintro e w' ⟨rfl, ⟨nd, rfl⟩⟩; (try first | exact ⟨rfl, _, World.drewN_drewN _ _ _⟩ | exact ⟨rfl, _, Eq.trans (World.drewN_drewN _ _ _) (congrArg (World.drewN _) (Nat.add_assoc _ _ _))⟩)))
      repeat (go_quiet (first | (go_at_call 27; (with_reducible refine (laws_sameRows.calls kj5 _ _ t424 _ _ t428 t433 _ ?side1 ?side2 ?side3 ?side4 A20.out).mono ?_); (case side1 => repeat (first | exact (Kd.S_reads' HO_4.out).2.2 | (with_reducible refine Kd.C_alloc ?_ _) | (with_reducible refine Kd.C_drewN ?_ _) | (with_reducible refine Kd.C_drew ?_))); (case side2 => exact (Kd.S_reads' HO_4.out).2.1); (case side3 => repeat (first | exact (Kd.S_reads' HO_6.out).2.2 | (with_reducible refine Kd.C_alloc ?_ _) | (with_reducible refine Kd.C_drewN ?_ _) | (with_reducible refine Kd.C_drew ?_))); (case side4 => exact (Kd.S_reads' HO_6.out).2.1); rintro e w' ⟨rfl, ⟨nd, rfl⟩⟩; (try first | exact ⟨rfl, _, World.drewN_drewN _ _ _⟩ | exact ⟨rfl, _, Eq.trans (World.drewN_drewN _ _ _) (congrArg (World.drewN _) (Nat.add_assoc _ _ _))⟩))); try go_wp2_with (first | (go_at_call 27; (with_reducible refine (laws_sameRows.calls kj5 _ _ t424 _ _ t428 t433 _ ?side1 ?side2 ?side3 ?side4 A20.out).mono ?_); (case side1 => repeat (first | exact (Kd.S_reads' HO_4.out).2.2 | (with_reducible refine Kd.C_alloc ?_ _) | (with_reducible refine Kd.C_drewN ?_ _) | (with_reducible refine Kd.C_drew ?_))); (case side2 => exact (Kd.S_reads' HO_4.out).2.1); (case side3 => repeat (first | exact (Kd.S_reads' HO_6.out).2.2 | (with_reducible refine Kd.C_alloc ?_ _) | (with_reducible refine Kd.C_drewN ?_ _) | (with_reducible refine Kd.C_drew ?_))); (case side4 => exact (Kd.S_reads' HO_6.out).2.1); rintro e w' ⟨rfl, ⟨nd, rfl⟩⟩; (try first | exact ⟨rfl, _, World.drewN_drewN _ _ _⟩ | exact ⟨rfl, _, Eq.trans (World.drewN_drewN _ _ _) (congrArg (World.drewN _) (Nat.add_assoc _ _ _))⟩))))
      go_ret
      exact ⟨by first | rfl | (simp [zam, zal] <;> rfl) | (simp [*, zam, zal] <;> rfl), by repeat (first | (with_reducible first | exact HB.out | apply zac | apply zaa | apply zad) | exact HB.out)⟩
     ·rw [if_neg c19] at H
      have c19b0 : (t425 == t429) = false := by simpa using c19
      (try (have c19b1 : decide (t425 = t429) = false := by simpa using c19))
      (try (have c19b2 : (t425 == t429) = false := by simpa using c19))
      (try (have c19b3 : ¬ (t425 = t429) := by simpa using c19))
      clear c19
      obtain rfl := Option.some.inj H
      go_wp2
      repeat (go_quiet (fail); try go_wp2)
      go_ret
      exact ⟨by first | rfl | (simp [zam, zal] <;> rfl) | (simp [*, zam, zal] <;> rfl), by repeat (first | (with_reducible first | exact HB.out | apply zac | apply zaa | apply zad) | exact HB.out)⟩
    ·replace c18 := Bool.eq_false_iff.mpr c18
     subst c18
     have H1 : ((impl_WallMany.f t421).bind fun bt434 => (laws_FnWallList.l0 kj5 t421 t424 bt434.1 bt434.2.1 bt434.2.2 0 0)) = some r := by rw [if_neg (show ¬ (false = true) by decide)] at H; exact H
     clear H
     have H := H1
     clear H1
     replace H := Option.bind_eq_some_iff.mp H
     obtain ⟨⟨t434, t435, t436⟩, A230, H⟩ := H
     replace H : (laws_FnWallList.l0 kj5 t421 t424 t434 t435 t436 0 0) = some r := H
     have A23 := zab.mk A230
     clear A230
     have H' := zab.mk H
     clear H
     go_wp2_with (first | (go_at_call 28; (with_reducible refine (impl_WallMany.calls _ _ t421 t434 t435 t436 _ ?side1 ?side2 A23.out).mono ?_); (case side1 => repeat (first | exact (Kd.V_reads' HO_3.out).2.2 | (with_reducible refine Kd.C_alloc ?_ _) | (with_reducible refine Kd.C_drewN ?_ _) | (with_reducible refine Kd.C_drew ?_))); (case side2 => exact (Kd.V_reads' HO_3.out).2.1); rintro e w24 ⟨rfl, hb⟩; have n0_ := zab.mk (Kd.V_below (by (with_reducible repeat (first | apply Kd.V_alloc | apply Kd.V_drewN | apply Kd.V_drew)); exact HO_3.out) hb); have n1_ := zab.mk (Kd.S_below (by (with_reducible repeat (first | apply Kd.S_alloc | apply Kd.S_drewN | apply Kd.S_drew)); exact HO_4.out) hb); have n2_ := zab.mk (Kd.S_below (by (with_reducible repeat (first | apply Kd.S_alloc | apply Kd.S_drewN | apply Kd.S_drew)); exact HO_6.out) hb); have n3_ := zab.mk (zaj (by repeat (first | (with_reducible first | exact HB.out | apply zac | apply zaa | apply zad) | exact HB.out)) hb); clear HO_3; clear HO_4; clear HO_6; clear HB; have HO_3 := n0_; have HO_4 := n1_; have HO_6 := n2_; have HB := n3_; clear n0_ n1_ n2_ n3_; (try clear hb); (try clear hb2); (try clear hk); (try clear hi)))
     repeat (go_quiet (first | (go_at_call 28; (with_reducible refine (impl_WallMany.calls _ _ t421 t434 t435 t436 _ ?side1 ?side2 A23.out).mono ?_); (case side1 => repeat (first | exact (Kd.V_reads' HO_3.out).2.2 | (with_reducible refine Kd.C_alloc ?_ _) | (with_reducible refine Kd.C_drewN ?_ _) | (with_reducible refine Kd.C_drew ?_))); (case side2 => exact (Kd.V_reads' HO_3.out).2.1); rintro e w24 ⟨rfl, hb⟩; have n0_ := zab.mk (Kd.V_below (by (with_reducible repeat (first | apply Kd.V_alloc | apply Kd.V_drewN | apply Kd.V_drew)); exact HO_3.out) hb); have n1_ := zab.mk (Kd.S_below (by (with_reducible repeat (first | apply Kd.S_alloc | apply Kd.S_drewN | apply Kd.S_drew)); exact HO_4.out) hb); have n2_ := zab.mk (Kd.S_below (by (with_reducible repeat (first | apply Kd.S_alloc | apply Kd.S_drewN | apply Kd.S_drew)); exact HO_6.out) hb); have n3_ := zab.mk (zaj (by repeat (first | (with_reducible first | exact HB.out | apply zac | apply zaa | apply zad) | exact HB.out)) hb); clear HO_3; clear HO_4; clear HO_6; clear HB; have HO_3 := n0_; have HO_4 := n1_; have HO_6 := n2_; have HB := n3_; clear n0_ n1_ n2_ n3_; (try clear hb); (try clear hb2); (try clear hk); (try clear hi))); try go_wp2_with (first | (go_at_call 28; (with_reducible refine (impl_WallMany.calls _ _ t421 t434 t435 t436 _ ?side1 ?side2 A23.out).mono ?_); (case side1 => repeat (first | exact (Kd.V_reads' HO_3.out).2.2 | (with_reducible refine Kd.C_alloc ?_ _) | (with_reducible refine Kd.C_drewN ?_ _) | (with_reducible refine Kd.C_drew ?_))); (case side2 => exact (Kd.V_reads' HO_3.out).2.1); rintro e w24 ⟨rfl, hb⟩; have n0_ := zab.mk (Kd.V_below (by (with_reducible repeat (first | apply Kd.V_alloc | apply Kd.V_drewN | apply Kd.V_drew)); exact HO_3.out) hb); have n1_ := zab.mk (Kd.S_below (by (with_reducible repeat (first | apply Kd.S_alloc | apply Kd.S_drewN | apply Kd.S_drew)); exact HO_4.out) hb); have n2_ := zab.mk (Kd.S_below (by (with_reducible repeat (first | apply Kd.S_alloc | apply Kd.S_drewN | apply Kd.S_drew)); exact HO_6.out) hb); have n3_ := zab.mk (zaj (by repeat (first | (with_reducible first | exact HB.out | apply zac | apply zaa | apply zad) | exact HB.out)) hb); clear HO_3; clear HO_4; clear HO_6; clear HB; have HO_3 := n0_; have HO_4 := n1_; have HO_6 := n2_; have HB := n3_; clear n0_ n1_ n2_ n3_; (try clear hb); (try clear hb2); (try clear hk); (try clear hi))))
     go_loopg [11, 12] kj5 (fun kq v11 v12 w' => ∃ (x11_2 : Int) (x12_2 : Int), v11 = .int .i64 x11_2 ∧ v12 = .int .i64 x12_2 ∧ zab (laws_FnWallList.l0 kq t421 t424 t434 t435 t436 x11_2 x12_2 = some r) ∧ zab (kq ≤ kj5) ∧ zab (Kd.V Kd.string 9 w' w.heap.size (fun k_ => some k_ ≠ (v426 : Value).ownBlock) (.slice Ao8 t421.length co8) t421) ∧ zab (Kd.S (Kd.slice 3 (Kd.int .i64)) 39 w' w.heap.size (fun _ => True) v426 t424) ∧ zab (Below w.heap.size w w'))
     case atStart => exact ⟨(0), (0), (by first | rfl | (simp; done) | (simp [*]; done)), (by first | rfl | (simp; done) | (simp [*]; done)), H', ⟨Nat.le_refl _⟩, ⟨by (with_reducible repeat (first | apply Kd.V_alloc | apply Kd.V_drewN | apply Kd.V_drew)); exact Kd.V_mono HO_3.out (fun _ hk => hk.1)⟩, ⟨by (with_reducible repeat (first | apply Kd.S_alloc | apply Kd.S_drewN | apply Kd.S_drew)); exact Kd.S_mono HO_4.out (fun _ hk => trivial)⟩, ⟨by repeat (first | (with_reducible first | exact HB.out | apply zac | apply zaa | apply zad) | exact HB.out)⟩⟩
     case round =>
      clear H'
      try clear c1
      try clear c2
      try clear c2b0
      try clear c2b1
      try clear p2
      try clear c5
      try clear c11
      try clear c11b0
      try clear c11b1
      try clear c11b2
      try clear c13
      try clear c18
      try clear c19
      try clear c19b0
      try clear c19b1
      try clear c19b2
      try clear p2
      obtain ⟨x11_2, x12_2, rfl, rfl, HA, HK2, HO_3, HO_4, HB⟩ := hrel
      cases gk with
      | zero => exact absurd HA.out (by simp [laws_FnWallList.l0])
      | succ k2 =>
       have H := HA.out
       clear HA
       simp only [laws_FnWallList.l0] at H
       by_cases c25 : x12_2 < (t424.length : Int)
       ·rw [if_pos c25] at H
        have c25b0 : decide (x12_2 < (t424.length : Int)) = true := decide_eq_true c25
        clear c25
        by_cases c26 : 0 ≤ x12_2
        ·rw [if_pos c26] at H
         have c26b0 : decide (0 ≤ x12_2) = true := decide_eq_true c26
         clear c26
         by_cases c27 : 0 < (t421.length : Int)
         ·rw [if_pos c27] at H
          have c27b0 : decide (0 < (t421.length : Int)) = true := decide_eq_true c27
          have c27b1 : decide (0 < t421.length) = true := decide_eq_true (by omega)
          clear c27
          by_cases c28 : 0 < ((rd_L1 t424 x12_2).length : Int)
          ·rw [if_pos c28] at H
           have c28b0 : decide (0 < ((rd_L1 t424 x12_2).length : Int)) = true := decide_eq_true c28
           have c28b1 : decide (0 < (rd_L1 t424 x12_2).length) = true := decide_eq_true (by omega)
           clear c28
           by_cases c29 : (rd (rd_L1 t424 x12_2) 0) = 1
           ·rw [if_pos c29] at H
            have c29b0 : ((rd (rd_L1 t424 x12_2) 0) == 1) = true := beq_iff_eq.mpr c29
            have c29b1 : ((rd (rd_L1 t424 x12_2) 0) != 1) = false := bne_eq_false_iff_eq.mpr c29
            clear c29
            by_cases c30 : 1 < ((rd_L1 t424 x12_2).length : Int)
            ·rw [if_pos c30] at H
             have c30b0 : decide (1 < ((rd_L1 t424 x12_2).length : Int)) = true := decide_eq_true c30
             have c30b1 : decide (1 < (rd_L1 t424 x12_2).length) = true := decide_eq_true (by omega)
             clear c30
             by_cases c31 : (rd (rd_L1 t424 x12_2) 1) < 1
             ·rw [if_pos c31] at H
              have c31b0 : decide ((rd (rd_L1 t424 x12_2) 1) < 1) = true := decide_eq_true c31
              clear c31
              obtain rfl := Option.some.inj H
              obtain ⟨Ao32, co32, eo32⟩ := Kd.S_slice HO_4.out
              subst eo32
              have p437 : 0 ≤ (x12_2 : Int) := of_decide_eq_true (by first | (with_reducible assumption) | assumption)
              have q437 : x12_2 < (t424.length : Int) := of_decide_eq_true (by first | (with_reducible assumption) | assumption)
              obtain ⟨ad437, A437_0, c437_0, e437, hx437_0, hl437_0, hi437_0⟩ := at_L1 (Kd.S_reads' HO_4.out).2.2 x12_2 p437 q437
              cases e437
              obtain ⟨ce437, hce437, hMe437, hcc437⟩ := Kd.S_get HO_4.out [] x12_2 p437 (by first | exact q437 | exact of_decide_eq_true (by first | (with_reducible assumption) | assumption) | (have e_ := (Kd.S_reads' HO_4.out).1; omega))
              obtain ⟨ve437_0, rfl, ge437_0⟩ := hMe437
              have hv437_0 := hcc437 0 _ rfl
              rw [Nat.add_zero, show ((Kd.slice 3 (Kd.int .i64))).sz = 1 from rfl, Nat.mul_one] at hv437_0
              replace hv437_0 := Option.some.inj (hv437_0.symm.trans hx437_0)
              rw [hv437_0] at ge437_0
              have HL437_0 := zab.mk (show Kd.R (Kd.int .i64) 3 _ _ _ _ (rd_L1 t424 x12_2) from ge437_0)
              clear hv437_0 ge437_0
              clear hcc437 hce437
              have HR437_0 := zab.mk hi437_0
              have HC437_0 := zab.mk hl437_0
              clear hi437_0 hl437_0
              replace p437 := eq_true p437
              replace q437 := eq_true q437
              have p438 : 0 ≤ (0 : Int) := (by omega)
              have q438 : 0 < (t421.length : Int) := of_decide_eq_true (by first | (with_reducible assumption) | assumption)
              obtain ⟨ad438, e438, hx438_0⟩ := Kd.at_string (Kd.V_reads' HO_3.out).2.2 0 p438 q438
              cases e438
              have qi438 : (0 < t421.length) = True := eq_true (by omega)
              (try rw [show ((0 : Int)).toNat = 0 from rfl] at hx438_0)
              (try rw [Addr.add_zero'] at hx438_0)
              replace p438 := eq_true p438
              replace q438 := eq_true q438
              have p439 : 0 ≤ (0 : Int) := (by omega)
              have q439 : 0 < ((rd_L1 t424 x12_2).length : Int) := of_decide_eq_true (by first | (with_reducible assumption) | assumption)
              obtain ⟨ad439, e439, hx439_0⟩ := Kd.at_int (by repeat (first | (with_reducible exact HR437_0.out) | (with_reducible refine Kd.C_alloc ?_ _) | (with_reducible refine Kd.C_drewN ?_ _) | (with_reducible refine Kd.C_drew ?_) | exact HR437_0.out)) 0 p439 q439
              cases e439
              have qi439 : (0 < (rd_L1 t424 x12_2).length) = True := eq_true (by omega)
              (try rw [show ((0 : Int)).toNat = 0 from rfl] at hx439_0)
              (try rw [Addr.add_zero'] at hx439_0)
              replace p439 := eq_true p439
              replace q439 := eq_true q439
              have p440 : 0 ≤ (0 : Int) := (by omega)
              have q440 : 0 < (t421.length : Int) := of_decide_eq_true (by first | (with_reducible assumption) | assumption)
              obtain ⟨ad440, e440, hx440_0⟩ := Kd.at_string (Kd.V_reads' HO_3.out).2.2 0 p440 q440
              obtain rfl : ad438 = ad440 := (by injection e440)
              have qi440 : (0 < t421.length) = True := eq_true (by omega)
              (try rw [show ((0 : Int)).toNat = 0 from rfl] at hx440_0)
              (try rw [Addr.add_zero'] at hx440_0)
              replace p440 := eq_true p440
              replace q440 := eq_true q440
              have p441 : 0 ≤ (1 : Int) := (by omega)
              have q441 : 1 < ((rd_L1 t424 x12_2).length : Int) := of_decide_eq_true (by first | (with_reducible assumption) | assumption)
              obtain ⟨ad441, e441, hx441_0⟩ := Kd.at_int (by repeat (first | (with_reducible exact HR437_0.out) | (with_reducible refine Kd.C_alloc ?_ _) | (with_reducible refine Kd.C_drewN ?_ _) | (with_reducible refine Kd.C_drew ?_) | exact HR437_0.out)) 1 p441 q441
              obtain rfl : ad439 = ad441 := (by injection e441)
              (try simp only [show (1 : Int).toNat = 1 from rfl, Nat.reduceMul, Nat.reduceEqDiff, Go.Addr.add, ↓reduceIte] at hx441_0)
              have qi441 : (1 < (rd_L1 t424 x12_2).length) = True := eq_true (by omega)
              (try rw [show ((1 : Int)).toNat = 1 from rfl] at hx441_0)
              replace p441 := eq_true p441
              replace q441 := eq_true q441
              go_wp2
              repeat (go_quiet (fail); try go_wp2)
              go_ret
              exact ⟨by first | rfl | (simp [zam, zal] <;> rfl) | (simp [*, zam, zal] <;> rfl), by repeat (first | (with_reducible first | exact HB.out | apply zac | apply zaa | apply zad) | exact HB.out)⟩
             ·rw [if_neg c31] at H
              have c31b0 : decide ((rd (rd_L1 t424 x12_2) 1) < 1) = false := decide_eq_false c31
              clear c31
              by_cases c33 : (rd (rd_L1 t424 x12_2) 1) ≥ (t421.length : Int)
              ·rw [if_pos c33] at H
               have c33b0 : decide ((t421.length : Int) ≤ (rd (rd_L1 t424 x12_2) 1)) = true := decide_eq_true c33
               clear c33
               obtain rfl := Option.some.inj H
               obtain ⟨Ao34, co34, eo34⟩ := Kd.S_slice HO_4.out
               subst eo34
               have p437 : 0 ≤ (x12_2 : Int) := of_decide_eq_true (by first | (with_reducible assumption) | assumption)
               have q437 : x12_2 < (t424.length : Int) := of_decide_eq_true (by first | (with_reducible assumption) | assumption)
               obtain ⟨ad437, A437_0, c437_0, e437, hx437_0, hl437_0, hi437_0⟩ := at_L1 (Kd.S_reads' HO_4.out).2.2 x12_2 p437 q437
               cases e437
               obtain ⟨ce437, hce437, hMe437, hcc437⟩ := Kd.S_get HO_4.out [] x12_2 p437 (by first | exact q437 | exact of_decide_eq_true (by first | (with_reducible assumption) | assumption) | (have e_ := (Kd.S_reads' HO_4.out).1; omega))
               obtain ⟨ve437_0, rfl, ge437_0⟩ := hMe437
               have hv437_0 := hcc437 0 _ rfl
               rw [Nat.add_zero, show ((Kd.slice 3 (Kd.int .i64))).sz = 1 from rfl, Nat.mul_one] at hv437_0
               replace hv437_0 := Option.some.inj (hv437_0.symm.trans hx437_0)
               rw [hv437_0] at ge437_0
               have HL437_0 := zab.mk (show Kd.R (Kd.int .i64) 3 _ _ _ _ (rd_L1 t424 x12_2) from ge437_0)
               clear hv437_0 ge437_0
               clear hcc437 hce437
               have HR437_0 := zab.mk hi437_0
               have HC437_0 := zab.mk hl437_0
               clear hi437_0 hl437_0
               replace p437 := eq_true p437
               replace q437 := eq_true q437
               have p438 : 0 ≤ (0 : Int) := (by omega)
               have q438 : 0 < (t421.length : Int) := of_decide_eq_true (by first | (with_reducible assumption) | assumption)
               obtain ⟨ad438, e438, hx438_0⟩ := Kd.at_string (Kd.V_reads' HO_3.out).2.2 0 p438 q438
               cases e438
               have qi438 : (0 < t421.length) = True := eq_true (by omega)
               (try rw [show ((0 : Int)).toNat = 0 from rfl] at hx438_0)
               (try rw [Addr.add_zero'] at hx438_0)
               replace p438 := eq_true p438
               replace q438 := eq_true q438
               have p439 : 0 ≤ (0 : Int) := (by omega)
               have q439 : 0 < ((rd_L1 t424 x12_2).length : Int) := of_decide_eq_true (by first | (with_reducible assumption) | assumption)
               obtain ⟨ad439, e439, hx439_0⟩ := Kd.at_int (by repeat (first | (with_reducible exact HR437_0.out) | (with_reducible refine Kd.C_alloc ?_ _) | (with_reducible refine Kd.C_drewN ?_ _) | (with_reducible refine Kd.C_drew ?_) | exact HR437_0.out)) 0 p439 q439
               cases e439
               have qi439 : (0 < (rd_L1 t424 x12_2).length) = True := eq_true (by omega)
               (try rw [show ((0 : Int)).toNat = 0 from rfl] at hx439_0)
               (try rw [Addr.add_zero'] at hx439_0)
               replace p439 := eq_true p439
               replace q439 := eq_true q439
               have p440 : 0 ≤ (0 : Int) := (by omega)
               have q440 : 0 < (t421.length : Int) := of_decide_eq_true (by first | (with_reducible assumption) | assumption)
               obtain ⟨ad440, e440, hx440_0⟩ := Kd.at_string (Kd.V_reads' HO_3.out).2.2 0 p440 q440
               obtain rfl : ad438 = ad440 := (by injection e440)
               have qi440 : (0 < t421.length) = True := eq_true (by omega)
               (try rw [show ((0 : Int)).toNat = 0 from rfl] at hx440_0)
               (try rw [Addr.add_zero'] at hx440_0)
               replace p440 := eq_true p440
               replace q440 := eq_true q440
               have p441 : 0 ≤ (1 : Int) := (by omega)
               have q441 : 1 < ((rd_L1 t424 x12_2).length : Int) := of_decide_eq_true (by first | (with_reducible assumption) | assumption)
               obtain ⟨ad441, e441, hx441_0⟩ := Kd.at_int (by repeat (first | (with_reducible exact HR437_0.out) | (with_reducible refine Kd.C_alloc ?_ _) | (with_reducible refine Kd.C_drewN ?_ _) | (with_reducible refine Kd.C_drew ?_) | exact HR437_0.out)) 1 p441 q441
               obtain rfl : ad439 = ad441 := (by injection e441)
               (try simp only [show (1 : Int).toNat = 1 from rfl, Nat.reduceMul, Nat.reduceEqDiff, Go.Addr.add, ↓reduceIte] at hx441_0)
               have qi441 : (1 < (rd_L1 t424 x12_2).length) = True := eq_true (by omega)
               (try rw [show ((1 : Int)).toNat = 1 from rfl] at hx441_0)
               replace p441 := eq_true p441
               replace q441 := eq_true q441
               have p442 : 0 ≤ (1 : Int) := (by omega)
               have q442 : 1 < ((rd_L1 t424 x12_2).length : Int) := of_decide_eq_true (by first | (with_reducible assumption) | assumption)
               obtain ⟨ad442, e442, hx442_0⟩ := Kd.at_int (by repeat (first | (with_reducible exact HR437_0.out) | (with_reducible refine Kd.C_alloc ?_ _) | (with_reducible refine Kd.C_drewN ?_ _) | (with_reducible refine Kd.C_drew ?_) | exact HR437_0.out)) 1 p442 q442
               obtain rfl : ad439 = ad442 := (by injection e442)
               (try simp only [show (1 : Int).toNat = 1 from rfl, Nat.reduceMul, Nat.reduceEqDiff, Go.Addr.add, ↓reduceIte] at hx442_0)
               have qi442 : (1 < (rd_L1 t424 x12_2).length) = True := eq_true (by omega)
               (try rw [show ((1 : Int)).toNat = 1 from rfl] at hx442_0)
               replace p442 := eq_true p442
               replace q442 := eq_true q442
               go_wp2
               repeat (go_quiet (fail); try go_wp2)
               go_ret
               exact ⟨by first | rfl | (simp [zam, zal] <;> rfl) | (simp [*, zam, zal] <;> rfl), by repeat (first | (with_reducible first | exact HB.out | apply zac | apply zaa | apply zad) | exact HB.out)⟩
              ·rw [if_neg c33] at H
               have c33b0 : decide ((t421.length : Int) ≤ (rd (rd_L1 t424 x12_2) 1)) = false := decide_eq_false c33
               clear c33
               by_cases c35 : 2 < ((rd_L1 t424 x12_2).length : Int)
               ·rw [if_pos c35] at H
                have c35b0 : decide (2 < ((rd_L1 t424 x12_2).length : Int)) = true := decide_eq_true c35
                have c35b1 : decide (2 < (rd_L1 t424 x12_2).length) = true := decide_eq_true (by omega)
                clear c35
                by_cases c36 : (rd (rd_L1 t424 x12_2) 2) < 0
                ·rw [if_pos c36] at H
                 have c36b0 : decide ((rd (rd_L1 t424 x12_2) 2) < 0) = true := decide_eq_true c36
                 clear c36
                 obtain rfl := Option.some.inj H
                 obtain ⟨Ao37, co37, eo37⟩ := Kd.S_slice HO_4.out
                 subst eo37
                 have p437 : 0 ≤ (x12_2 : Int) := of_decide_eq_true (by first | (with_reducible assumption) | assumption)
                 have q437 : x12_2 < (t424.length : Int) := of_decide_eq_true (by first | (with_reducible assumption) | assumption)
                 obtain ⟨ad437, A437_0, c437_0, e437, hx437_0, hl437_0, hi437_0⟩ := at_L1 (Kd.S_reads' HO_4.out).2.2 x12_2 p437 q437
                 cases e437
                 obtain ⟨ce437, hce437, hMe437, hcc437⟩ := Kd.S_get HO_4.out [] x12_2 p437 (by first | exact q437 | exact of_decide_eq_true (by first | (with_reducible assumption) | assumption) | (have e_ := (Kd.S_reads' HO_4.out).1; omega))
                 obtain ⟨ve437_0, rfl, ge437_0⟩ := hMe437
                 have hv437_0 := hcc437 0 _ rfl
                 rw [Nat.add_zero, show ((Kd.slice 3 (Kd.int .i64))).sz = 1 from rfl, Nat.mul_one] at hv437_0
                 replace hv437_0 := Option.some.inj (hv437_0.symm.trans hx437_0)
                 rw [hv437_0] at ge437_0
                 have HL437_0 := zab.mk (show Kd.R (Kd.int .i64) 3 _ _ _ _ (rd_L1 t424 x12_2) from ge437_0)
                 clear hv437_0 ge437_0
                 clear hcc437 hce437
                 have HR437_0 := zab.mk hi437_0
                 have HC437_0 := zab.mk hl437_0
                 clear hi437_0 hl437_0
                 replace p437 := eq_true p437
                 replace q437 := eq_true q437
                 have p438 : 0 ≤ (0 : Int) := (by omega)
                 have q438 : 0 < (t421.length : Int) := of_decide_eq_true (by first | (with_reducible assumption) | assumption)
                 obtain ⟨ad438, e438, hx438_0⟩ := Kd.at_string (Kd.V_reads' HO_3.out).2.2 0 p438 q438
                 cases e438
                 have qi438 : (0 < t421.length) = True := eq_true (by omega)
                 (try rw [show ((0 : Int)).toNat = 0 from rfl] at hx438_0)
                 (try rw [Addr.add_zero'] at hx438_0)
                 replace p438 := eq_true p438
                 replace q438 := eq_true q438
                 have p439 : 0 ≤ (0 : Int) := (by omega)
                 have q439 : 0 < ((rd_L1 t424 x12_2).length : Int) := of_decide_eq_true (by first | (with_reducible assumption) | assumption)
                 obtain ⟨ad439, e439, hx439_0⟩ := Kd.at_int (by repeat (first | (with_reducible exact HR437_0.out) | (with_reducible refine Kd.C_alloc ?_ _) | (with_reducible refine Kd.C_drewN ?_ _) | (with_reducible refine Kd.C_drew ?_) | exact HR437_0.out)) 0 p439 q439
                 cases e439
                 have qi439 : (0 < (rd_L1 t424 x12_2).length) = True := eq_true (by omega)
                 (try rw [show ((0 : Int)).toNat = 0 from rfl] at hx439_0)
                 (try rw [Addr.add_zero'] at hx439_0)
                 replace p439 := eq_true p439
                 replace q439 := eq_true q439
                 have p440 : 0 ≤ (0 : Int) := (by omega)
                 have q440 : 0 < (t421.length : Int) := of_decide_eq_true (by first | (with_reducible assumption) | assumption)
                 obtain ⟨ad440, e440, hx440_0⟩ := Kd.at_string (Kd.V_reads' HO_3.out).2.2 0 p440 q440
                 obtain rfl : ad438 = ad440 := (by injection e440)
                 have qi440 : (0 < t421.length) = True := eq_true (by omega)
                 (try rw [show ((0 : Int)).toNat = 0 from rfl] at hx440_0)
                 (try rw [Addr.add_zero'] at hx440_0)
                 replace p440 := eq_true p440
                 replace q440 := eq_true q440
                 have p441 : 0 ≤ (1 : Int) := (by omega)
                 have q441 : 1 < ((rd_L1 t424 x12_2).length : Int) := of_decide_eq_true (by first | (with_reducible assumption) | assumption)
                 obtain ⟨ad441, e441, hx441_0⟩ := Kd.at_int (by repeat (first | (with_reducible exact HR437_0.out) | (with_reducible refine Kd.C_alloc ?_ _) | (with_reducible refine Kd.C_drewN ?_ _) | (with_reducible refine Kd.C_drew ?_) | exact HR437_0.out)) 1 p441 q441
                 obtain rfl : ad439 = ad441 := (by injection e441)
                 (try simp only [show (1 : Int).toNat = 1 from rfl, Nat.reduceMul, Nat.reduceEqDiff, Go.Addr.add, ↓reduceIte] at hx441_0)
                 have qi441 : (1 < (rd_L1 t424 x12_2).length) = True := eq_true (by omega)
                 (try rw [show ((1 : Int)).toNat = 1 from rfl] at hx441_0)
                 replace p441 := eq_true p441
                 replace q441 := eq_true q441
                 have p442 : 0 ≤ (1 : Int) := (by omega)
                 have q442 : 1 < ((rd_L1 t424 x12_2).length : Int) := of_decide_eq_true (by first | (with_reducible assumption) | assumption)
                 obtain ⟨ad442, e442, hx442_0⟩ := Kd.at_int (by repeat (first | (with_reducible exact HR437_0.out) | (with_reducible refine Kd.C_alloc ?_ _) | (with_reducible refine Kd.C_drewN ?_ _) | (with_reducible refine Kd.C_drew ?_) | exact HR437_0.out)) 1 p442 q442
                 obtain rfl : ad439 = ad442 := (by injection e442)
                 (try simp only [show (1 : Int).toNat = 1 from rfl, Nat.reduceMul, Nat.reduceEqDiff, Go.Addr.add, ↓reduceIte] at hx442_0)
                 have qi442 : (1 < (rd_L1 t424 x12_2).length) = True := eq_true (by omega)
                 (try rw [show ((1 : Int)).toNat = 1 from rfl] at hx442_0)
                 replace p442 := eq_true p442
                 replace q442 := eq_true q442
                 have p443 : 0 ≤ (2 : Int) := (by omega)
                 have q443 : 2 < ((rd_L1 t424 x12_2).length : Int) := of_decide_eq_true (by first | (with_reducible assumption) | assumption)
                 obtain ⟨ad443, e443, hx443_0⟩ := Kd.at_int (by repeat (first | (with_reducible exact HR437_0.out) | (with_reducible refine Kd.C_alloc ?_ _) | (with_reducible refine Kd.C_drewN ?_ _) | (with_reducible refine Kd.C_drew ?_) | exact HR437_0.out)) 2 p443 q443
                 obtain rfl : ad439 = ad443 := (by injection e443)
                 (try simp only [show (2 : Int).toNat = 2 from rfl, Nat.reduceMul, Nat.reduceEqDiff, Go.Addr.add, ↓reduceIte] at hx443_0)
                 have qi443 : (2 < (rd_L1 t424 x12_2).length) = True := eq_true (by omega)
                 (try rw [show ((2 : Int)).toNat = 2 from rfl] at hx443_0)
                 replace p443 := eq_true p443
                 replace q443 := eq_true q443
                 go_wp2
                 repeat (go_quiet (fail); try go_wp2)
                 go_ret
                 exact ⟨by first | rfl | (simp [zam, zal] <;> rfl) | (simp [*, zam, zal] <;> rfl), by repeat (first | (with_reducible first | exact HB.out | apply zac | apply zaa | apply zad) | exact HB.out)⟩
                ·rw [if_neg c36] at H
                 have c36b0 : decide ((rd (rd_L1 t424 x12_2) 2) < 0) = false := decide_eq_false c36
                 clear c36
                 by_cases c38 : 3 < ((rd_L1 t424 x12_2).length : Int)
                 ·rw [if_pos c38] at H
                  have c38b0 : decide (3 < ((rd_L1 t424 x12_2).length : Int)) = true := decide_eq_true c38
                  have c38b1 : decide (3 < (rd_L1 t424 x12_2).length) = true := decide_eq_true (by omega)
                  clear c38
                  by_cases c39 : (rd (rd_L1 t424 x12_2) 3) < 1
                  ·rw [if_pos c39] at H
                   have c39b0 : decide ((rd (rd_L1 t424 x12_2) 3) < 1) = true := decide_eq_true c39
                   clear c39
                   obtain rfl := Option.some.inj H
                   obtain ⟨Ao40, co40, eo40⟩ := Kd.S_slice HO_4.out
                   subst eo40
                   have p437 : 0 ≤ (x12_2 : Int) := of_decide_eq_true (by first | (with_reducible assumption) | assumption)
                   have q437 : x12_2 < (t424.length : Int) := of_decide_eq_true (by first | (with_reducible assumption) | assumption)
                   obtain ⟨ad437, A437_0, c437_0, e437, hx437_0, hl437_0, hi437_0⟩ := at_L1 (Kd.S_reads' HO_4.out).2.2 x12_2 p437 q437
                   cases e437
                   obtain ⟨ce437, hce437, hMe437, hcc437⟩ := Kd.S_get HO_4.out [] x12_2 p437 (by first | exact q437 | exact of_decide_eq_true (by first | (with_reducible assumption) | assumption) | (have e_ := (Kd.S_reads' HO_4.out).1; omega))
                   obtain ⟨ve437_0, rfl, ge437_0⟩ := hMe437
                   have hv437_0 := hcc437 0 _ rfl
                   rw [Nat.add_zero, show ((Kd.slice 3 (Kd.int .i64))).sz = 1 from rfl, Nat.mul_one] at hv437_0
                   replace hv437_0 := Option.some.inj (hv437_0.symm.trans hx437_0)
                   rw [hv437_0] at ge437_0
                   have HL437_0 := zab.mk (show Kd.R (Kd.int .i64) 3 _ _ _ _ (rd_L1 t424 x12_2) from ge437_0)
                   clear hv437_0 ge437_0
                   clear hcc437 hce437
                   have HR437_0 := zab.mk hi437_0
                   have HC437_0 := zab.mk hl437_0
                   clear hi437_0 hl437_0
                   replace p437 := eq_true p437
                   replace q437 := eq_true q437
                   have p438 : 0 ≤ (0 : Int) := (by omega)
                   have q438 : 0 < (t421.length : Int) := of_decide_eq_true (by first | (with_reducible assumption) | assumption)
                   obtain ⟨ad438, e438, hx438_0⟩ := Kd.at_string (Kd.V_reads' HO_3.out).2.2 0 p438 q438
                   cases e438
                   have qi438 : (0 < t421.length) = True := eq_true (by omega)
                   (try rw [show ((0 : Int)).toNat = 0 from rfl] at hx438_0)
                   (try rw [Addr.add_zero'] at hx438_0)
                   replace p438 := eq_true p438
                   replace q438 := eq_true q438
                   have p439 : 0 ≤ (0 : Int) := (by omega)
                   have q439 : 0 < ((rd_L1 t424 x12_2).length : Int) := of_decide_eq_true (by first | (with_reducible assumption) | assumption)
                   obtain ⟨ad439, e439, hx439_0⟩ := Kd.at_int (by repeat (first | (with_reducible exact HR437_0.out) | (with_reducible refine Kd.C_alloc ?_ _) | (with_reducible refine Kd.C_drewN ?_ _) | (with_reducible refine Kd.C_drew ?_) | exact HR437_0.out)) 0 p439 q439
                   cases e439
                   have qi439 : (0 < (rd_L1 t424 x12_2).length) = True := eq_true (by omega)
                   (try rw [show ((0 : Int)).toNat = 0 from rfl] at hx439_0)
                   (try rw [Addr.add_zero'] at hx439_0)
                   replace p439 := eq_true p439
                   replace q439 := eq_true q439
                   have p440 : 0 ≤ (0 : Int) := (by omega)
                   have q440 : 0 < (t421.length : Int) := of_decide_eq_true (by first | (with_reducible assumption) | assumption)
                   obtain ⟨ad440, e440, hx440_0⟩ := Kd.at_string (Kd.V_reads' HO_3.out).2.2 0 p440 q440
                   obtain rfl : ad438 = ad440 := (by injection e440)
                   have qi440 : (0 < t421.length) = True := eq_true (by omega)
                   (try rw [show ((0 : Int)).toNat = 0 from rfl] at hx440_0)
                   (try rw [Addr.add_zero'] at hx440_0)
                   replace p440 := eq_true p440
                   replace q440 := eq_true q440
                   have p441 : 0 ≤ (1 : Int) := (by omega)
                   have q441 : 1 < ((rd_L1 t424 x12_2).length : Int) := of_decide_eq_true (by first | (with_reducible assumption) | assumption)
                   obtain ⟨ad441, e441, hx441_0⟩ := Kd.at_int (by repeat (first | (with_reducible exact HR437_0.out) | (with_reducible refine Kd.C_alloc ?_ _) | (with_reducible refine Kd.C_drewN ?_ _) | (with_reducible refine Kd.C_drew ?_) | exact HR437_0.out)) 1 p441 q441
                   obtain rfl : ad439 = ad441 := (by injection e441)
                   (try simp only [show (1 : Int).toNat = 1 from rfl, Nat.reduceMul, Nat.reduceEqDiff, Go.Addr.add, ↓reduceIte] at hx441_0)
                   have qi441 : (1 < (rd_L1 t424 x12_2).length) = True := eq_true (by omega)
                   (try rw [show ((1 : Int)).toNat = 1 from rfl] at hx441_0)
                   replace p441 := eq_true p441
                   replace q441 := eq_true q441
                   have p442 : 0 ≤ (1 : Int) := (by omega)
                   have q442 : 1 < ((rd_L1 t424 x12_2).length : Int) := of_decide_eq_true (by first | (with_reducible assumption) | assumption)
                   obtain ⟨ad442, e442, hx442_0⟩ := Kd.at_int (by repeat (first | (with_reducible exact HR437_0.out) | (with_reducible refine Kd.C_alloc ?_ _) | (with_reducible refine Kd.C_drewN ?_ _) | (with_reducible refine Kd.C_drew ?_) | exact HR437_0.out)) 1 p442 q442
                   obtain rfl : ad439 = ad442 := (by injection e442)
                   (try simp only [show (1 : Int).toNat = 1 from rfl, Nat.reduceMul, Nat.reduceEqDiff, Go.Addr.add, ↓reduceIte] at hx442_0)
                   have qi442 : (1 < (rd_L1 t424 x12_2).length) = True := eq_true (by omega)
                   (try rw [show ((1 : Int)).toNat = 1 from rfl] at hx442_0)
                   replace p442 := eq_true p442
                   replace q442 := eq_true q442
                   have p443 : 0 ≤ (2 : Int) := (by omega)
                   have q443 : 2 < ((rd_L1 t424 x12_2).length : Int) := of_decide_eq_true (by first | (with_reducible assumption) | assumption)
                   obtain ⟨ad443, e443, hx443_0⟩ := Kd.at_int (by repeat (first | (with_reducible exact HR437_0.out) | (with_reducible refine Kd.C_alloc ?_ _) | (with_reducible refine Kd.C_drewN ?_ _) | (with_reducible refine Kd.C_drew ?_) | exact HR437_0.out)) 2 p443 q443
                   obtain rfl : ad439 = ad443 := (by injection e443)
                   (try simp only [show (2 : Int).toNat = 2 from rfl, Nat.reduceMul, Nat.reduceEqDiff, Go.Addr.add, ↓reduceIte] at hx443_0)
                   have qi443 : (2 < (rd_L1 t424 x12_2).length) = True := eq_true (by omega)
                   (try rw [show ((2 : Int)).toNat = 2 from rfl] at hx443_0)
                   replace p443 := eq_true p443
                   replace q443 := eq_true q443
                   have p444 : 0 ≤ (3 : Int) := (by omega)
                   have q444 : 3 < ((rd_L1 t424 x12_2).length : Int) := of_decide_eq_true (by first | (with_reducible assumption) | assumption)
                   obtain ⟨ad444, e444, hx444_0⟩ := Kd.at_int (by repeat (first | (with_reducible exact HR437_0.out) | (with_reducible refine Kd.C_alloc ?_ _) | (with_reducible refine Kd.C_drewN ?_ _) | (with_reducible refine Kd.C_drew ?_) | exact HR437_0.out)) 3 p444 q444
                   obtain rfl : ad439 = ad444 := (by injection e444)
                   (try simp only [show (3 : Int).toNat = 3 from rfl, Nat.reduceMul, Nat.reduceEqDiff, Go.Addr.add, ↓reduceIte] at hx444_0)
                   have qi444 : (3 < (rd_L1 t424 x12_2).length) = True := eq_true (by omega)
                   (try rw [show ((3 : Int)).toNat = 3 from rfl] at hx444_0)
                   replace p444 := eq_true p444
                   replace q444 := eq_true q444
                   go_wp2
                   repeat (go_quiet (fail); try go_wp2)
                   go_ret
                   exact ⟨by first | rfl | (simp [zam, zal] <;> rfl) | (simp [*, zam, zal] <;> rfl), by repeat (first | (with_reducible first | exact HB.out | apply zac | apply zaa | apply zad) | exact HB.out)⟩
                  ·rw [if_neg c39] at H
                   have c39b0 : decide ((rd (rd_L1 t424 x12_2) 3) < 1) = false := decide_eq_false c39
                   clear c39
                   by_cases c41 : (wrap64 ((rd (rd_L1 t424 x12_2) 2) + (rd (rd_L1 t424 x12_2) 3))) > ((rdOf ByteArray.empty t421 0).size : Int)
                   ·rw [if_pos c41] at H
                    have c41b0 : decide (((rdOf ByteArray.empty t421 0).size : Int) < (wrap64 ((rd (rd_L1 t424 x12_2) 2) + (rd (rd_L1 t424 x12_2) 3)))) = true := decide_eq_true c41
                    clear c41
                    obtain rfl := Option.some.inj H
                    obtain ⟨Ao42, co42, eo42⟩ := Kd.S_slice HO_4.out
                    subst eo42
                    have p437 : 0 ≤ (x12_2 : Int) := of_decide_eq_true (by first | (with_reducible assumption) | assumption)
                    have q437 : x12_2 < (t424.length : Int) := of_decide_eq_true (by first | (with_reducible assumption) | assumption)
                    obtain ⟨ad437, A437_0, c437_0, e437, hx437_0, hl437_0, hi437_0⟩ := at_L1 (Kd.S_reads' HO_4.out).2.2 x12_2 p437 q437
                    cases e437
                    obtain ⟨ce437, hce437, hMe437, hcc437⟩ := Kd.S_get HO_4.out [] x12_2 p437 (by first | exact q437 | exact of_decide_eq_true (by first | (with_reducible assumption) | assumption) | (have e_ := (Kd.S_reads' HO_4.out).1; omega))
                    obtain ⟨ve437_0, rfl, ge437_0⟩ := hMe437
                    have hv437_0 := hcc437 0 _ rfl
                    rw [Nat.add_zero, show ((Kd.slice 3 (Kd.int .i64))).sz = 1 from rfl, Nat.mul_one] at hv437_0
                    replace hv437_0 := Option.some.inj (hv437_0.symm.trans hx437_0)
                    rw [hv437_0] at ge437_0
                    have HL437_0 := zab.mk (show Kd.R (Kd.int .i64) 3 _ _ _ _ (rd_L1 t424 x12_2) from ge437_0)
                    clear hv437_0 ge437_0
                    clear hcc437 hce437
                    have HR437_0 := zab.mk hi437_0
                    have HC437_0 := zab.mk hl437_0
                    clear hi437_0 hl437_0
                    replace p437 := eq_true p437
                    replace q437 := eq_true q437
                    have p438 : 0 ≤ (0 : Int) := (by omega)
                    have q438 : 0 < (t421.length : Int) := of_decide_eq_true (by first | (with_reducible assumption) | assumption)
                    obtain ⟨ad438, e438, hx438_0⟩ := Kd.at_string (Kd.V_reads' HO_3.out).2.2 0 p438 q438
                    cases e438
                    have qi438 : (0 < t421.length) = True := eq_true (by omega)
                    (try rw [show ((0 : Int)).toNat = 0 from rfl] at hx438_0)
                    (try rw [Addr.add_zero'] at hx438_0)
                    replace p438 := eq_true p438
                    replace q438 := eq_true q438
                    have p439 : 0 ≤ (0 : Int) := (by omega)
                    have q439 : 0 < ((rd_L1 t424 x12_2).length : Int) := of_decide_eq_true (by first | (with_reducible assumption) | assumption)
                    obtain ⟨ad439, e439, hx439_0⟩ := Kd.at_int (by repeat (first | (with_reducible exact HR437_0.out) | (with_reducible refine Kd.C_alloc ?_ _) | (with_reducible refine Kd.C_drewN ?_ _) | (with_reducible refine Kd.C_drew ?_) | exact HR437_0.out)) 0 p439 q439
                    cases e439
                    have qi439 : (0 < (rd_L1 t424 x12_2).length) = True := eq_true (by omega)
                    (try rw [show ((0 : Int)).toNat = 0 from rfl] at hx439_0)
                    (try rw [Addr.add_zero'] at hx439_0)
                    replace p439 := eq_true p439
                    replace q439 := eq_true q439
                    have p440 : 0 ≤ (0 : Int) := (by omega)
                    have q440 : 0 < (t421.length : Int) := of_decide_eq_true (by first | (with_reducible assumption) | assumption)
                    obtain ⟨ad440, e440, hx440_0⟩ := Kd.at_string (Kd.V_reads' HO_3.out).2.2 0 p440 q440
                    obtain rfl : ad438 = ad440 := (by injection e440)
                    have qi440 : (0 < t421.length) = True := eq_true (by omega)
                    (try rw [show ((0 : Int)).toNat = 0 from rfl] at hx440_0)
                    (try rw [Addr.add_zero'] at hx440_0)
                    replace p440 := eq_true p440
                    replace q440 := eq_true q440
                    have p441 : 0 ≤ (1 : Int) := (by omega)
                    have q441 : 1 < ((rd_L1 t424 x12_2).length : Int) := of_decide_eq_true (by first | (with_reducible assumption) | assumption)
                    obtain ⟨ad441, e441, hx441_0⟩ := Kd.at_int (by repeat (first | (with_reducible exact HR437_0.out) | (with_reducible refine Kd.C_alloc ?_ _) | (with_reducible refine Kd.C_drewN ?_ _) | (with_reducible refine Kd.C_drew ?_) | exact HR437_0.out)) 1 p441 q441
                    obtain rfl : ad439 = ad441 := (by injection e441)
                    (try simp only [show (1 : Int).toNat = 1 from rfl, Nat.reduceMul, Nat.reduceEqDiff, Go.Addr.add, ↓reduceIte] at hx441_0)
                    have qi441 : (1 < (rd_L1 t424 x12_2).length) = True := eq_true (by omega)
                    (try rw [show ((1 : Int)).toNat = 1 from rfl] at hx441_0)
                    replace p441 := eq_true p441
                    replace q441 := eq_true q441
                    have p442 : 0 ≤ (1 : Int) := (by omega)
                    have q442 : 1 < ((rd_L1 t424 x12_2).length : Int) := of_decide_eq_true (by first | (with_reducible assumption) | assumption)
                    obtain ⟨ad442, e442, hx442_0⟩ := Kd.at_int (by repeat (first | (with_reducible exact HR437_0.out) | (with_reducible refine Kd.C_alloc ?_ _) | (with_reducible refine Kd.C_drewN ?_ _) | (with_reducible refine Kd.C_drew ?_) | exact HR437_0.out)) 1 p442 q442
                    obtain rfl : ad439 = ad442 := (by injection e442)
                    (try simp only [show (1 : Int).toNat = 1 from rfl, Nat.reduceMul, Nat.reduceEqDiff, Go.Addr.add, ↓reduceIte] at hx442_0)
                    have qi442 : (1 < (rd_L1 t424 x12_2).length) = True := eq_true (by omega)
                    (try rw [show ((1 : Int)).toNat = 1 from rfl] at hx442_0)
                    replace p442 := eq_true p442
                    replace q442 := eq_true q442
                    have p443 : 0 ≤ (2 : Int) := (by omega)
                    have q443 : 2 < ((rd_L1 t424 x12_2).length : Int) := of_decide_eq_true (by first | (with_reducible assumption) | assumption)
                    obtain ⟨ad443, e443, hx443_0⟩ := Kd.at_int (by repeat (first | (with_reducible exact HR437_0.out) | (with_reducible refine Kd.C_alloc ?_ _) | (with_reducible refine Kd.C_drewN ?_ _) | (with_reducible refine Kd.C_drew ?_) | exact HR437_0.out)) 2 p443 q443
                    obtain rfl : ad439 = ad443 := (by injection e443)
                    (try simp only [show (2 : Int).toNat = 2 from rfl, Nat.reduceMul, Nat.reduceEqDiff, Go.Addr.add, ↓reduceIte] at hx443_0)
                    have qi443 : (2 < (rd_L1 t424 x12_2).length) = True := eq_true (by omega)
                    (try rw [show ((2 : Int)).toNat = 2 from rfl] at hx443_0)
                    replace p443 := eq_true p443
                    replace q443 := eq_true q443
                    have p444 : 0 ≤ (3 : Int) := (by omega)
                    have q444 : 3 < ((rd_L1 t424 x12_2).length : Int) := of_decide_eq_true (by first | (with_reducible assumption) | assumption)
                    obtain ⟨ad444, e444, hx444_0⟩ := Kd.at_int (by repeat (first | (with_reducible exact HR437_0.out) | (with_reducible refine Kd.C_alloc ?_ _) | (with_reducible refine Kd.C_drewN ?_ _) | (with_reducible refine Kd.C_drew ?_) | exact HR437_0.out)) 3 p444 q444
                    obtain rfl : ad439 = ad444 := (by injection e444)
                    (try simp only [show (3 : Int).toNat = 3 from rfl, Nat.reduceMul, Nat.reduceEqDiff, Go.Addr.add, ↓reduceIte] at hx444_0)
                    have qi444 : (3 < (rd_L1 t424 x12_2).length) = True := eq_true (by omega)
                    (try rw [show ((3 : Int)).toNat = 3 from rfl] at hx444_0)
                    replace p444 := eq_true p444
                    replace q444 := eq_true q444
                    have p445 : 0 ≤ (2 : Int) := (by omega)
                    have q445 : 2 < ((rd_L1 t424 x12_2).length : Int) := of_decide_eq_true (by first | (with_reducible assumption) | assumption)
                    obtain ⟨ad445, e445, hx445_0⟩ := Kd.at_int (by repeat (first | (with_reducible exact HR437_0.out) | (with_reducible refine Kd.C_alloc ?_ _) | (with_reducible refine Kd.C_drewN ?_ _) | (with_reducible refine Kd.C_drew ?_) | exact HR437_0.out)) 2 p445 q445
                    obtain rfl : ad439 = ad445 := (by injection e445)
                    (try simp only [show (2 : Int).toNat = 2 from rfl, Nat.reduceMul, Nat.reduceEqDiff, Go.Addr.add, ↓reduceIte] at hx445_0)
                    have qi445 : (2 < (rd_L1 t424 x12_2).length) = True := eq_true (by omega)
                    (try rw [show ((2 : Int)).toNat = 2 from rfl] at hx445_0)
                    replace p445 := eq_true p445
                    replace q445 := eq_true q445
                    have p446 : 0 ≤ (3 : Int) := (by omega)
                    have q446 : 3 < ((rd_L1 t424 x12_2).length : Int) := of_decide_eq_true (by first | (with_reducible assumption) | assumption)
                    obtain ⟨ad446, e446, hx446_0⟩ := Kd.at_int (by repeat (first | (with_reducible exact HR437_0.out) | (with_reducible refine Kd.C_alloc ?_ _) | (with_reducible refine Kd.C_drewN ?_ _) | (with_reducible refine Kd.C_drew ?_) | exact HR437_0.out)) 3 p446 q446
                    obtain rfl : ad439 = ad446 := (by injection e446)
                    (try simp only [show (3 : Int).toNat = 3 from rfl, Nat.reduceMul, Nat.reduceEqDiff, Go.Addr.add, ↓reduceIte] at hx446_0)
                    have qi446 : (3 < (rd_L1 t424 x12_2).length) = True := eq_true (by omega)
                    (try rw [show ((3 : Int)).toNat = 3 from rfl] at hx446_0)
                    replace p446 := eq_true p446
                    replace q446 := eq_true q446
                    go_wp2
                    repeat (go_quiet (fail); try go_wp2)
                    go_ret
                    exact ⟨by first | rfl | (simp [zam, zal] <;> rfl) | (simp [*, zam, zal] <;> rfl), by repeat (first | (with_reducible first | exact HB.out | apply zac | apply zaa | apply zad) | exact HB.out)⟩
                   ·rw [if_neg c41] at H
                    have c41b0 : decide (((rdOf ByteArray.empty t421 0).size : Int) < (wrap64 ((rd (rd_L1 t424 x12_2) 2) + (rd (rd_L1 t424 x12_2) 3)))) = false := decide_eq_false c41
                    clear c41
                    by_cases c43 : x12_2 > 0
                    ·rw [if_pos c43] at H
                     have c43b0 : decide (0 < x12_2) = true := decide_eq_true c43
                     clear c43
                     obtain ⟨ji44, hji44⟩ : ∃ j_ : Int, (wrap64 (x12_2 - 1)) = j_ := ⟨_, rfl⟩
                     replace H : (if 0 ≤ (ji44) then (if (ji44) < (t424.length : Int) then (if 0 < ((rd_L1 t424 (ji44)).length : Int) then (if (rd (rd_L1 t424 x12_2) 0) < (rd (rd_L1 t424 (ji44)) 0) then (some false) else (laws_FnWallList.l0 k2 t421 t424 t434 t435 t436 x11_2 (wrap64 (x12_2 + 1)))) else (none)) else (none)) else (none)) = some r := by first | (rw [hji44] at H; exact H) | (simp only [hji44] at H ⊢; exact H)
                     have hji44w : (IntKind.i64.wrap (x12_2 - 1)) = ji44 := (zba _).trans hji44
                     by_cases c45 : 0 ≤ (ji44)
                     ·rw [if_pos c45] at H
                      have c45b0 : decide (0 ≤ (ji44)) = true := decide_eq_true c45
                      clear c45
                      by_cases c46 : (ji44) < (t424.length : Int)
                      ·rw [if_pos c46] at H
                       have c46b0 : decide ((ji44) < (t424.length : Int)) = true := decide_eq_true c46
                       clear c46
                       by_cases c47 : 0 < ((rd_L1 t424 (ji44)).length : Int)
                       ·rw [if_pos c47] at H
                        have c47b0 : decide (0 < ((rd_L1 t424 (ji44)).length : Int)) = true := decide_eq_true c47
                        have c47b1 : decide (0 < (rd_L1 t424 (ji44)).length) = true := decide_eq_true (by omega)
                        clear c47
                        by_cases c48 : (rd (rd_L1 t424 x12_2) 0) < (rd (rd_L1 t424 (ji44)) 0)
                        ·rw [if_pos c48] at H
                         have c48b0 : decide ((rd (rd_L1 t424 x12_2) 0) < (rd (rd_L1 t424 (ji44)) 0)) = true := decide_eq_true c48
                         clear c48
                         obtain rfl := Option.some.inj H
                         obtain ⟨Ao49, co49, eo49⟩ := Kd.S_slice HO_4.out
                         subst eo49
                         have p437 : 0 ≤ (x12_2 : Int) := of_decide_eq_true (by first | (with_reducible assumption) | assumption)
                         have q437 : x12_2 < (t424.length : Int) := of_decide_eq_true (by first | (with_reducible assumption) | assumption)
                         obtain ⟨ad437, A437_0, c437_0, e437, hx437_0, hl437_0, hi437_0⟩ := at_L1 (Kd.S_reads' HO_4.out).2.2 x12_2 p437 q437
                         cases e437
                         obtain ⟨ce437, hce437, hMe437, hcc437⟩ := Kd.S_get HO_4.out [] x12_2 p437 (by first | exact q437 | exact of_decide_eq_true (by first | (with_reducible assumption) | assumption) | (have e_ := (Kd.S_reads' HO_4.out).1; omega))
                         obtain ⟨ve437_0, rfl, ge437_0⟩ := hMe437
                         have hv437_0 := hcc437 0 _ rfl
                         rw [Nat.add_zero, show ((Kd.slice 3 (Kd.int .i64))).sz = 1 from rfl, Nat.mul_one] at hv437_0
                         replace hv437_0 := Option.some.inj (hv437_0.symm.trans hx437_0)
                         rw [hv437_0] at ge437_0
                         have HL437_0 := zab.mk (show Kd.R (Kd.int .i64) 3 _ _ _ _ (rd_L1 t424 x12_2) from ge437_0)
                         clear hv437_0 ge437_0
                         clear hcc437 hce437
                         have HR437_0 := zab.mk hi437_0
                         have HC437_0 := zab.mk hl437_0
                         clear hi437_0 hl437_0
                         replace p437 := eq_true p437
                         replace q437 := eq_true q437
                         have p438 : 0 ≤ (0 : Int) := (by omega)
                         have q438 : 0 < (t421.length : Int) := of_decide_eq_true (by first | (with_reducible assumption) | assumption)
                         obtain ⟨ad438, e438, hx438_0⟩ := Kd.at_string (Kd.V_reads' HO_3.out).2.2 0 p438 q438
                         cases e438
                         have qi438 : (0 < t421.length) = True := eq_true (by omega)
                         (try rw [show ((0 : Int)).toNat = 0 from rfl] at hx438_0)
                         (try rw [Addr.add_zero'] at hx438_0)
                         replace p438 := eq_true p438
                         replace q438 := eq_true q438
                         have p439 : 0 ≤ (0 : Int) := (by omega)
                         have q439 : 0 < ((rd_L1 t424 x12_2).length : Int) := of_decide_eq_true (by first | (with_reducible assumption) | assumption)
                         obtain ⟨ad439, e439, hx439_0⟩ := Kd.at_int (by repeat (first | (with_reducible exact HR437_0.out) | (with_reducible refine Kd.C_alloc ?_ _) | (with_reducible refine Kd.C_drewN ?_ _) | (with_reducible refine Kd.C_drew ?_) | exact HR437_0.out)) 0 p439 q439
                         cases e439
                         have qi439 : (0 < (rd_L1 t424 x12_2).length) = True := eq_true (by omega)
                         (try rw [show ((0 : Int)).toNat = 0 from rfl] at hx439_0)
                         (try rw [Addr.add_zero'] at hx439_0)
                         replace p439 := eq_true p439
                         replace q439 := eq_true q439
                         have p440 : 0 ≤ (0 : Int) := (by omega)
                         have q440 : 0 < (t421.length : Int) := of_decide_eq_true (by first | (with_reducible assumption) | assumption)
                         obtain ⟨ad440, e440, hx440_0⟩ := Kd.at_string (Kd.V_reads' HO_3.out).2.2 0 p440 q440
                         obtain rfl : ad438 = ad440 := (by injection e440)
                         have qi440 : (0 < t421.length) = True := eq_true (by omega)
                         (try rw [show ((0 : Int)).toNat = 0 from rfl] at hx440_0)
                         (try rw [Addr.add_zero'] at hx440_0)
                         replace p440 := eq_true p440
                         replace q440 := eq_true q440
                         have p441 : 0 ≤ (1 : Int) := (by omega)
                         have q441 : 1 < ((rd_L1 t424 x12_2).length : Int) := of_decide_eq_true (by first | (with_reducible assumption) | assumption)
                         obtain ⟨ad441, e441, hx441_0⟩ := Kd.at_int (by repeat (first | (with_reducible exact HR437_0.out) | (with_reducible refine Kd.C_alloc ?_ _) | (with_reducible refine Kd.C_drewN ?_ _) | (with_reducible refine Kd.C_drew ?_) | exact HR437_0.out)) 1 p441 q441
                         obtain rfl : ad439 = ad441 := (by injection e441)
                         (try simp only [show (1 : Int).toNat = 1 from rfl, Nat.reduceMul, Nat.reduceEqDiff, Go.Addr.add, ↓reduceIte] at hx441_0)
                         have qi441 : (1 < (rd_L1 t424 x12_2).length) = True := eq_true (by omega)
                         (try rw [show ((1 : Int)).toNat = 1 from rfl] at hx441_0)
                         replace p441 := eq_true p441
                         replace q441 := eq_true q441
                         have p442 : 0 ≤ (1 : Int) := (by omega)
                         have q442 : 1 < ((rd_L1 t424 x12_2).length : Int) := of_decide_eq_true (by first | (with_reducible assumption) | assumption)
                         obtain ⟨ad442, e442, hx442_0⟩ := Kd.at_int (by repeat (first | (with_reducible exact HR437_0.out) | (with_reducible refine Kd.C_alloc ?_ _) | (with_reducible refine Kd.C_drewN ?_ _) | (with_reducible refine Kd.C_drew ?_) | exact HR437_0.out)) 1 p442 q442
                         obtain rfl : ad439 = ad442 := (by injection e442)
                         (try simp only [show (1 : Int).toNat = 1 from rfl, Nat.reduceMul, Nat.reduceEqDiff, Go.Addr.add, ↓reduceIte] at hx442_0)
                         have qi442 : (1 < (rd_L1 t424 x12_2).length) = True := eq_true (by omega)
                         (try rw [show ((1 : Int)).toNat = 1 from rfl] at hx442_0)
                         replace p442 := eq_true p442
                         replace q442 := eq_true q442
                         have p443 : 0 ≤ (2 : Int) := (by omega)
                         have q443 : 2 < ((rd_L1 t424 x12_2).length : Int) := of_decide_eq_true (by first | (with_reducible assumption) | assumption)
                         obtain ⟨ad443, e443, hx443_0⟩ := Kd.at_int (by repeat (first | (with_reducible exact HR437_0.out) | (with_reducible refine Kd.C_alloc ?_ _) | (with_reducible refine Kd.C_drewN ?_ _) | (with_reducible refine Kd.C_drew ?_) | exact HR437_0.out)) 2 p443 q443
                         obtain rfl : ad439 = ad443 := (by injection e443)
                         (try simp only [show (2 : Int).toNat = 2 from rfl, Nat.reduceMul, Nat.reduceEqDiff, Go.Addr.add, ↓reduceIte] at hx443_0)
                         have qi443 : (2 < (rd_L1 t424 x12_2).length) = True := eq_true (by omega)
                         (try rw [show ((2 : Int)).toNat = 2 from rfl] at hx443_0)
                         replace p443 := eq_true p443
                         replace q443 := eq_true q443
                         have p444 : 0 ≤ (3 : Int) := (by omega)
                         have q444 : 3 < ((rd_L1 t424 x12_2).length : Int) := of_decide_eq_true (by first | (with_reducible assumption) | assumption)
                         obtain ⟨ad444, e444, hx444_0⟩ := Kd.at_int (by repeat (first | (with_reducible exact HR437_0.out) | (with_reducible refine Kd.C_alloc ?_ _) | (with_reducible refine Kd.C_drewN ?_ _) | (with_reducible refine Kd.C_drew ?_) | exact HR437_0.out)) 3 p444 q444
                         obtain rfl : ad439 = ad444 := (by injection e444)
                         (try simp only [show (3 : Int).toNat = 3 from rfl, Nat.reduceMul, Nat.reduceEqDiff, Go.Addr.add, ↓reduceIte] at hx444_0)
                         have qi444 : (3 < (rd_L1 t424 x12_2).length) = True := eq_true (by omega)
                         (try rw [show ((3 : Int)).toNat = 3 from rfl] at hx444_0)
                         replace p444 := eq_true p444
                         replace q444 := eq_true q444
                         have p445 : 0 ≤ (2 : Int) := (by omega)
                         have q445 : 2 < ((rd_L1 t424 x12_2).length : Int) := of_decide_eq_true (by first | (with_reducible assumption) | assumption)
                         obtain ⟨ad445, e445, hx445_0⟩ := Kd.at_int (by repeat (first | (with_reducible exact HR437_0.out) | (with_reducible refine Kd.C_alloc ?_ _) | (with_reducible refine Kd.C_drewN ?_ _) | (with_reducible refine Kd.C_drew ?_) | exact HR437_0.out)) 2 p445 q445
                         obtain rfl : ad439 = ad445 := (by injection e445)
                         (try simp only [show (2 : Int).toNat = 2 from rfl, Nat.reduceMul, Nat.reduceEqDiff, Go.Addr.add, ↓reduceIte] at hx445_0)
                         have qi445 : (2 < (rd_L1 t424 x12_2).length) = True := eq_true (by omega)
                         (try rw [show ((2 : Int)).toNat = 2 from rfl] at hx445_0)
                         replace p445 := eq_true p445
                         replace q445 := eq_true q445
                         have p446 : 0 ≤ (3 : Int) := (by omega)
                         have q446 : 3 < ((rd_L1 t424 x12_2).length : Int) := of_decide_eq_true (by first | (with_reducible assumption) | assumption)
                         obtain ⟨ad446, e446, hx446_0⟩ := Kd.at_int (by repeat (first | (with_reducible exact HR437_0.out) | (with_reducible refine Kd.C_alloc ?_ _) | (with_reducible refine Kd.C_drewN ?_ _) | (with_reducible refine Kd.C_drew ?_) | exact HR437_0.out)) 3 p446 q446
                         obtain rfl : ad439 = ad446 := (by injection e446)
                         (try simp only [show (3 : Int).toNat = 3 from rfl, Nat.reduceMul, Nat.reduceEqDiff, Go.Addr.add, ↓reduceIte] at hx446_0)
                         have qi446 : (3 < (rd_L1 t424 x12_2).length) = True := eq_true (by omega)
                         (try rw [show ((3 : Int)).toNat = 3 from rfl] at hx446_0)
                         replace p446 := eq_true p446
                         replace q446 := eq_true q446
                         have p447 : 0 ≤ (0 : Int) := (by omega)
                         have q447 : 0 < ((rd_L1 t424 x12_2).length : Int) := of_decide_eq_true (by first | (with_reducible assumption) | assumption)
                         obtain ⟨ad447, e447, hx447_0⟩ := Kd.at_int (by repeat (first | (with_reducible exact HR437_0.out) | (with_reducible refine Kd.C_alloc ?_ _) | (with_reducible refine Kd.C_drewN ?_ _) | (with_reducible refine Kd.C_drew ?_) | exact HR437_0.out)) 0 p447 q447
                         obtain rfl : ad439 = ad447 := (by injection e447)
                         have qi447 : (0 < (rd_L1 t424 x12_2).length) = True := eq_true (by omega)
                         (try rw [show ((0 : Int)).toNat = 0 from rfl] at hx447_0)
                         (try rw [Addr.add_zero'] at hx447_0)
                         replace p447 := eq_true p447
                         replace q447 := eq_true q447
                         have p448 : 0 ≤ ((ji44) : Int) := of_decide_eq_true (by first | (with_reducible assumption) | assumption)
                         have q448 : (ji44) < (t424.length : Int) := of_decide_eq_true (by first | (with_reducible assumption) | assumption)
                         obtain ⟨ad448, A448_0, c448_0, e448, hx448_0, hl448_0, hi448_0⟩ := at_L1 (Kd.S_reads' HO_4.out).2.2 (ji44) p448 q448
                         obtain rfl : ad437 = ad448 := (by injection e448)
                         obtain ⟨ce448, hce448, hMe448, hcc448⟩ := Kd.S_get HO_4.out [] (ji44) p448 (by first | exact q448 | exact of_decide_eq_true (by first | (with_reducible assumption) | assumption) | (have e_ := (Kd.S_reads' HO_4.out).1; omega))
                         obtain ⟨ve448_0, rfl, ge448_0⟩ := hMe448
                         have hv448_0 := hcc448 0 _ rfl
                         rw [Nat.add_zero, show ((Kd.slice 3 (Kd.int .i64))).sz = 1 from rfl, Nat.mul_one] at hv448_0
                         replace hv448_0 := Option.some.inj (hv448_0.symm.trans hx448_0)
                         rw [hv448_0] at ge448_0
                         have HL448_0 := zab.mk (show Kd.R (Kd.int .i64) 3 _ _ _ _ (rd_L1 t424 (ji44)) from ge448_0)
                         clear hv448_0 ge448_0
                         clear hcc448 hce448
                         have HR448_0 := zab.mk hi448_0
                         have HC448_0 := zab.mk hl448_0
                         clear hi448_0 hl448_0
                         replace p448 := eq_true p448
                         replace q448 := eq_true q448
                         have p449 : 0 ≤ (0 : Int) := (by omega)
                         have q449 : 0 < ((rd_L1 t424 (ji44)).length : Int) := of_decide_eq_true (by first | (with_reducible assumption) | assumption)
                         obtain ⟨ad449, e449, hx449_0⟩ := Kd.at_int (by repeat (first | (with_reducible exact HR448_0.out) | (with_reducible refine Kd.C_alloc ?_ _) | (with_reducible refine Kd.C_drewN ?_ _) | (with_reducible refine Kd.C_drew ?_) | exact HR448_0.out)) 0 p449 q449
                         cases e449
                         have qi449 : (0 < (rd_L1 t424 (ji44)).length) = True := eq_true (by omega)
                         (try rw [show ((0 : Int)).toNat = 0 from rfl] at hx449_0)
                         (try rw [Addr.add_zero'] at hx449_0)
                         replace p449 := eq_true p449
                         replace q449 := eq_true q449
                         go_wp2
                         repeat (go_quiet (fail); try go_wp2)
                         go_ret
                         exact ⟨by first | rfl | (simp [zam, zal] <;> rfl) | (simp only [← hji44]; first | rfl | (simp [zam, zal] <;> rfl)) | (simp [*, zam, zal] <;> rfl), by repeat (first | (with_reducible first | exact HB.out | apply zac | apply zaa | apply zad) | exact HB.out)⟩
                        ·rw [if_neg c48] at H
                         have c48b0 : decide ((rd (rd_L1 t424 x12_2) 0) < (rd (rd_L1 t424 (ji44)) 0)) = false := decide_eq_false c48
                         clear c48
                         have H' := zab.mk H
                         clear H
                         obtain ⟨Ao50, co50, eo50⟩ := Kd.S_slice HO_4.out
                         subst eo50
                         have p437 : 0 ≤ (x12_2 : Int) := of_decide_eq_true (by first | (with_reducible assumption) | assumption)
                         have q437 : x12_2 < (t424.length : Int) := of_decide_eq_true (by first | (with_reducible assumption) | assumption)
                         obtain ⟨ad437, A437_0, c437_0, e437, hx437_0, hl437_0, hi437_0⟩ := at_L1 (Kd.S_reads' HO_4.out).2.2 x12_2 p437 q437
                         cases e437
                         obtain ⟨ce437, hce437, hMe437, hcc437⟩ := Kd.S_get HO_4.out [] x12_2 p437 (by first | exact q437 | exact of_decide_eq_true (by first | (with_reducible assumption) | assumption) | (have e_ := (Kd.S_reads' HO_4.out).1; omega))
                         obtain ⟨ve437_0, rfl, ge437_0⟩ := hMe437
                         have hv437_0 := hcc437 0 _ rfl
                         rw [Nat.add_zero, show ((Kd.slice 3 (Kd.int .i64))).sz = 1 from rfl, Nat.mul_one] at hv437_0
                         replace hv437_0 := Option.some.inj (hv437_0.symm.trans hx437_0)
                         rw [hv437_0] at ge437_0
                         have HL437_0 := zab.mk (show Kd.R (Kd.int .i64) 3 _ _ _ _ (rd_L1 t424 x12_2) from ge437_0)
                         clear hv437_0 ge437_0
                         clear hcc437 hce437
                         have HR437_0 := zab.mk hi437_0
                         have HC437_0 := zab.mk hl437_0
                         clear hi437_0 hl437_0
                         replace p437 := eq_true p437
                         replace q437 := eq_true q437
                         have p438 : 0 ≤ (0 : Int) := (by omega)
                         have q438 : 0 < (t421.length : Int) := of_decide_eq_true (by first | (with_reducible assumption) | assumption)
                         obtain ⟨ad438, e438, hx438_0⟩ := Kd.at_string (Kd.V_reads' HO_3.out).2.2 0 p438 q438
                         cases e438
                         have qi438 : (0 < t421.length) = True := eq_true (by omega)
                         (try rw [show ((0 : Int)).toNat = 0 from rfl] at hx438_0)
                         (try rw [Addr.add_zero'] at hx438_0)
                         replace p438 := eq_true p438
                         replace q438 := eq_true q438
                         have p439 : 0 ≤ (0 : Int) := (by omega)
                         have q439 : 0 < ((rd_L1 t424 x12_2).length : Int) := of_decide_eq_true (by first | (with_reducible assumption) | assumption)
                         obtain ⟨ad439, e439, hx439_0⟩ := Kd.at_int (by repeat (first | (with_reducible exact HR437_0.out) | (with_reducible refine Kd.C_alloc ?_ _) | (with_reducible refine Kd.C_drewN ?_ _) | (with_reducible refine Kd.C_drew ?_) | exact HR437_0.out)) 0 p439 q439
                         cases e439
                         have qi439 : (0 < (rd_L1 t424 x12_2).length) = True := eq_true (by omega)
                         (try rw [show ((0 : Int)).toNat = 0 from rfl] at hx439_0)
                         (try rw [Addr.add_zero'] at hx439_0)
                         replace p439 := eq_true p439
                         replace q439 := eq_true q439
                         have p440 : 0 ≤ (0 : Int) := (by omega)
                         have q440 : 0 < (t421.length : Int) := of_decide_eq_true (by first | (with_reducible assumption) | assumption)
                         obtain ⟨ad440, e440, hx440_0⟩ := Kd.at_string (Kd.V_reads' HO_3.out).2.2 0 p440 q440
                         obtain rfl : ad438 = ad440 := (by injection e440)
                         have qi440 : (0 < t421.length) = True := eq_true (by omega)
                         (try rw [show ((0 : Int)).toNat = 0 from rfl] at hx440_0)
                         (try rw [Addr.add_zero'] at hx440_0)
                         replace p440 := eq_true p440
                         replace q440 := eq_true q440
                         have p441 : 0 ≤ (1 : Int) := (by omega)
                         have q441 : 1 < ((rd_L1 t424 x12_2).length : Int) := of_decide_eq_true (by first | (with_reducible assumption) | assumption)
                         obtain ⟨ad441, e441, hx441_0⟩ := Kd.at_int (by repeat (first | (with_reducible exact HR437_0.out) | (with_reducible refine Kd.C_alloc ?_ _) | (with_reducible refine Kd.C_drewN ?_ _) | (with_reducible refine Kd.C_drew ?_) | exact HR437_0.out)) 1 p441 q441
                         obtain rfl : ad439 = ad441 := (by injection e441)
                         (try simp only [show (1 : Int).toNat = 1 from rfl, Nat.reduceMul, Nat.reduceEqDiff, Go.Addr.add, ↓reduceIte] at hx441_0)
                         have qi441 : (1 < (rd_L1 t424 x12_2).length) = True := eq_true (by omega)
                         (try rw [show ((1 : Int)).toNat = 1 from rfl] at hx441_0)
                         replace p441 := eq_true p441
                         replace q441 := eq_true q441
                         have p442 : 0 ≤ (1 : Int) := (by omega)
                         have q442 : 1 < ((rd_L1 t424 x12_2).length : Int) := of_decide_eq_true (by first | (with_reducible assumption) | assumption)
                         obtain ⟨ad442, e442, hx442_0⟩ := Kd.at_int (by repeat (first | (with_reducible exact HR437_0.out) | (with_reducible refine Kd.C_alloc ?_ _) | (with_reducible refine Kd.C_drewN ?_ _) | (with_reducible refine Kd.C_drew ?_) | exact HR437_0.out)) 1 p442 q442
                         obtain rfl : ad439 = ad442 := (by injection e442)
                         (try simp only [show (1 : Int).toNat = 1 from rfl, Nat.reduceMul, Nat.reduceEqDiff, Go.Addr.add, ↓reduceIte] at hx442_0)
                         have qi442 : (1 < (rd_L1 t424 x12_2).length) = True := eq_true (by omega)
                         (try rw [show ((1 : Int)).toNat = 1 from rfl] at hx442_0)
                         replace p442 := eq_true p442
                         replace q442 := eq_true q442
                         have p443 : 0 ≤ (2 : Int) := (by omega)
                         have q443 : 2 < ((rd_L1 t424 x12_2).length : Int) := of_decide_eq_true (by first | (with_reducible assumption) | assumption)
                         obtain ⟨ad443, e443, hx443_0⟩ := Kd.at_int (by repeat (first | (with_reducible exact HR437_0.out) | (with_reducible refine Kd.C_alloc ?_ _) | (with_reducible refine Kd.C_drewN ?_ _) | (with_reducible refine Kd.C_drew ?_) | exact HR437_0.out)) 2 p443 q443
                         obtain rfl : ad439 = ad443 := (by injection e443)
                         (try simp only [show (2 : Int).toNat = 2 from rfl, Nat.reduceMul, Nat.reduceEqDiff, Go.Addr.add, ↓reduceIte] at hx443_0)
                         have qi443 : (2 < (rd_L1 t424 x12_2).length) = True := eq_true (by omega)
                         (try rw [show ((2 : Int)).toNat = 2 from rfl] at hx443_0)
                         replace p443 := eq_true p443
                         replace q443 := eq_true q443
                         have p444 : 0 ≤ (3 : Int) := (by omega)
                         have q444 : 3 < ((rd_L1 t424 x12_2).length : Int) := of_decide_eq_true (by first | (with_reducible assumption) | assumption)
                         obtain ⟨ad444, e444, hx444_0⟩ := Kd.at_int (by repeat (first | (with_reducible exact HR437_0.out) | (with_reducible refine Kd.C_alloc ?_ _) | (with_reducible refine Kd.C_drewN ?_ _) | (with_reducible refine Kd.C_drew ?_) | exact HR437_0.out)) 3 p444 q444
                         obtain rfl : ad439 = ad444 := (by injection e444)
                         (try simp only [show (3 : Int).toNat = 3 from rfl, Nat.reduceMul, Nat.reduceEqDiff, Go.Addr.add, ↓reduceIte] at hx444_0)
                         have qi444 : (3 < (rd_L1 t424 x12_2).length) = True := eq_true (by omega)
                         (try rw [show ((3 : Int)).toNat = 3 from rfl] at hx444_0)
                         replace p444 := eq_true p444
                         replace q444 := eq_true q444
                         have p445 : 0 ≤ (2 : Int) := (by omega)
                         have q445 : 2 < ((rd_L1 t424 x12_2).length : Int) := of_decide_eq_true (by first | (with_reducible assumption) | assumption)
                         obtain ⟨ad445, e445, hx445_0⟩ := Kd.at_int (by repeat (first | (with_reducible exact HR437_0.out) | (with_reducible refine Kd.C_alloc ?_ _) | (with_reducible refine Kd.C_drewN ?_ _) | (with_reducible refine Kd.C_drew ?_) | exact HR437_0.out)) 2 p445 q445
                         obtain rfl : ad439 = ad445 := (by injection e445)
                         (try simp only [show (2 : Int).toNat = 2 from rfl, Nat.reduceMul, Nat.reduceEqDiff, Go.Addr.add, ↓reduceIte] at hx445_0)
                         have qi445 : (2 < (rd_L1 t424 x12_2).length) = True := eq_true (by omega)
                         (try rw [show ((2 : Int)).toNat = 2 from rfl] at hx445_0)
                         replace p445 := eq_true p445
                         replace q445 := eq_true q445
                         have p446 : 0 ≤ (3 : Int) := (by omega)
                         have q446 : 3 < ((rd_L1 t424 x12_2).length : Int) := of_decide_eq_true (by first | (with_reducible assumption) | assumption)
                         obtain ⟨ad446, e446, hx446_0⟩ := Kd.at_int (by repeat (first | (with_reducible exact HR437_0.out) | (with_reducible refine Kd.C_alloc ?_ _) | (with_reducible refine Kd.C_drewN ?_ _) | (with_reducible refine Kd.C_drew ?_) | exact HR437_0.out)) 3 p446 q446
                         obtain rfl : ad439 = ad446 := (by injection e446)
                         (try simp only [show (3 : Int).toNat = 3 from rfl, Nat.reduceMul, Nat.reduceEqDiff, Go.Addr.add, ↓reduceIte] at hx446_0)
                         have qi446 : (3 < (rd_L1 t424 x12_2).length) = True := eq_true (by omega)
                         (try rw [show ((3 : Int)).toNat = 3 from rfl] at hx446_0)
                         replace p446 := eq_true p446
                         replace q446 := eq_true q446
                         have p447 : 0 ≤ (0 : Int) := (by omega)
                         have q447 : 0 < ((rd_L1 t424 x12_2).length : Int) := of_decide_eq_true (by first | (with_reducible assumption) | assumption)
                         obtain ⟨ad447, e447, hx447_0⟩ := Kd.at_int (by repeat (first | (with_reducible exact HR437_0.out) | (with_reducible refine Kd.C_alloc ?_ _) | (with_reducible refine Kd.C_drewN ?_ _) | (with_reducible refine Kd.C_drew ?_) | exact HR437_0.out)) 0 p447 q447
                         obtain rfl : ad439 = ad447 := (by injection e447)
                         have qi447 : (0 < (rd_L1 t424 x12_2).length) = True := eq_true (by omega)
                         (try rw [show ((0 : Int)).toNat = 0 from rfl] at hx447_0)
                         (try rw [Addr.add_zero'] at hx447_0)
                         replace p447 := eq_true p447
                         replace q447 := eq_true q447
                         have p448 : 0 ≤ ((ji44) : Int) := of_decide_eq_true (by first | (with_reducible assumption) | assumption)
                         have q448 : (ji44) < (t424.length : Int) := of_decide_eq_true (by first | (with_reducible assumption) | assumption)
                         obtain ⟨ad448, A448_0, c448_0, e448, hx448_0, hl448_0, hi448_0⟩ := at_L1 (Kd.S_reads' HO_4.out).2.2 (ji44) p448 q448
                         obtain rfl : ad437 = ad448 := (by injection e448)
                         obtain ⟨ce448, hce448, hMe448, hcc448⟩ := Kd.S_get HO_4.out [] (ji44) p448 (by first | exact q448 | exact of_decide_eq_true (by first | (with_reducible assumption) | assumption) | (have e_ := (Kd.S_reads' HO_4.out).1; omega))
                         obtain ⟨ve448_0, rfl, ge448_0⟩ := hMe448
                         have hv448_0 := hcc448 0 _ rfl
                         rw [Nat.add_zero, show ((Kd.slice 3 (Kd.int .i64))).sz = 1 from rfl, Nat.mul_one] at hv448_0
                         replace hv448_0 := Option.some.inj (hv448_0.symm.trans hx448_0)
                         rw [hv448_0] at ge448_0
                         have HL448_0 := zab.mk (show Kd.R (Kd.int .i64) 3 _ _ _ _ (rd_L1 t424 (ji44)) from ge448_0)
                         clear hv448_0 ge448_0
                         clear hcc448 hce448
                         have HR448_0 := zab.mk hi448_0
                         have HC448_0 := zab.mk hl448_0
                         clear hi448_0 hl448_0
                         replace p448 := eq_true p448
                         replace q448 := eq_true q448
                         have p449 : 0 ≤ (0 : Int) := (by omega)
                         have q449 : 0 < ((rd_L1 t424 (ji44)).length : Int) := of_decide_eq_true (by first | (with_reducible assumption) | assumption)
                         obtain ⟨ad449, e449, hx449_0⟩ := Kd.at_int (by repeat (first | (with_reducible exact HR448_0.out) | (with_reducible refine Kd.C_alloc ?_ _) | (with_reducible refine Kd.C_drewN ?_ _) | (with_reducible refine Kd.C_drew ?_) | exact HR448_0.out)) 0 p449 q449
                         cases e449
                         have qi449 : (0 < (rd_L1 t424 (ji44)).length) = True := eq_true (by omega)
                         (try rw [show ((0 : Int)).toNat = 0 from rfl] at hx449_0)
                         (try rw [Addr.add_zero'] at hx449_0)
                         replace p449 := eq_true p449
                         replace q449 := eq_true q449
                         go_wp2
                         repeat (go_quiet (fail); try go_wp2)
                         go_roundg k2
                         case measure => have := HJ5.out; have := HK2.out; omega
                         case rel => exact ⟨(x11_2), (wrap64 (x12_2 + 1)), (by first | rfl | (simp; done) | (simp [*]; done)), (by first | rfl | (simp; done) | (simp [*]; done)), H', ⟨by have := HJ5.out; have := HK2.out; omega⟩, ⟨by (with_reducible repeat (first | apply Kd.V_alloc | apply Kd.V_drewN | apply Kd.V_drew)); exact HO_3.out⟩, ⟨by (with_reducible repeat (first | apply Kd.S_alloc | apply Kd.S_drewN | apply Kd.S_drew)); exact HO_4.out⟩, ⟨by repeat (first | (with_reducible first | exact HB.out | apply zac | apply zaa | apply zad) | exact HB.out)⟩⟩
                       ·rw [if_neg c47] at H
                        exact absurd H (by simp)
                      ·rw [if_neg c46] at H
                       exact absurd H (by simp)
                     ·rw [if_neg c45] at H
                      exact absurd H (by simp)
                    ·rw [if_neg c43] at H
                     have c43b0 : decide (0 < x12_2) = false := decide_eq_false c43
                     clear c43
                     have H' := zab.mk H
                     clear H
                     obtain ⟨Ao51, co51, eo51⟩ := Kd.S_slice HO_4.out
                     subst eo51
                     have p437 : 0 ≤ (x12_2 : Int) := of_decide_eq_true (by first | (with_reducible assumption) | assumption)
                     have q437 : x12_2 < (t424.length : Int) := of_decide_eq_true (by first | (with_reducible assumption) | assumption)
                     obtain ⟨ad437, A437_0, c437_0, e437, hx437_0, hl437_0, hi437_0⟩ := at_L1 (Kd.S_reads' HO_4.out).2.2 x12_2 p437 q437
                     cases e437
                     obtain ⟨ce437, hce437, hMe437, hcc437⟩ := Kd.S_get HO_4.out [] x12_2 p437 (by first | exact q437 | exact of_decide_eq_true (by first | (with_reducible assumption) | assumption) | (have e_ := (Kd.S_reads' HO_4.out).1; omega))
                     obtain ⟨ve437_0, rfl, ge437_0⟩ := hMe437
                     have hv437_0 := hcc437 0 _ rfl
                     rw [Nat.add_zero, show ((Kd.slice 3 (Kd.int .i64))).sz = 1 from rfl, Nat.mul_one] at hv437_0
                     replace hv437_0 := Option.some.inj (hv437_0.symm.trans hx437_0)
                     rw [hv437_0] at ge437_0
                     have HL437_0 := zab.mk (show Kd.R (Kd.int .i64) 3 _ _ _ _ (rd_L1 t424 x12_2) from ge437_0)
                     clear hv437_0 ge437_0
                     clear hcc437 hce437
                     have HR437_0 := zab.mk hi437_0
                     have HC437_0 := zab.mk hl437_0
                     clear hi437_0 hl437_0
                     replace p437 := eq_true p437
                     replace q437 := eq_true q437
                     have p438 : 0 ≤ (0 : Int) := (by omega)
                     have q438 : 0 < (t421.length : Int) := of_decide_eq_true (by first | (with_reducible assumption) | assumption)
                     obtain ⟨ad438, e438, hx438_0⟩ := Kd.at_string (Kd.V_reads' HO_3.out).2.2 0 p438 q438
                     cases e438
                     have qi438 : (0 < t421.length) = True := eq_true (by omega)
                     (try rw [show ((0 : Int)).toNat = 0 from rfl] at hx438_0)
                     (try rw [Addr.add_zero'] at hx438_0)
                     replace p438 := eq_true p438
                     replace q438 := eq_true q438
                     have p439 : 0 ≤ (0 : Int) := (by omega)
                     have q439 : 0 < ((rd_L1 t424 x12_2).length : Int) := of_decide_eq_true (by first | (with_reducible assumption) | assumption)
                     obtain ⟨ad439, e439, hx439_0⟩ := Kd.at_int (by repeat (first | (with_reducible exact HR437_0.out) | (with_reducible refine Kd.C_alloc ?_ _) | (with_reducible refine Kd.C_drewN ?_ _) | (with_reducible refine Kd.C_drew ?_) | exact HR437_0.out)) 0 p439 q439
                     cases e439
                     have qi439 : (0 < (rd_L1 t424 x12_2).length) = True := eq_true (by omega)
                     (try rw [show ((0 : Int)).toNat = 0 from rfl] at hx439_0)
                     (try rw [Addr.add_zero'] at hx439_0)
                     replace p439 := eq_true p439
                     replace q439 := eq_true q439
                     have p440 : 0 ≤ (0 : Int) := (by omega)
                     have q440 : 0 < (t421.length : Int) := of_decide_eq_true (by first | (with_reducible assumption) | assumption)
                     obtain ⟨ad440, e440, hx440_0⟩ := Kd.at_string (Kd.V_reads' HO_3.out).2.2 0 p440 q440
                     obtain rfl : ad438 = ad440 := (by injection e440)
                     have qi440 : (0 < t421.length) = True := eq_true (by omega)
                     (try rw [show ((0 : Int)).toNat = 0 from rfl] at hx440_0)
                     (try rw [Addr.add_zero'] at hx440_0)
                     replace p440 := eq_true p440
                     replace q440 := eq_true q440
                     have p441 : 0 ≤ (1 : Int) := (by omega)
                     have q441 : 1 < ((rd_L1 t424 x12_2).length : Int) := of_decide_eq_true (by first | (with_reducible assumption) | assumption)
                     obtain ⟨ad441, e441, hx441_0⟩ := Kd.at_int (by repeat (first | (with_reducible exact HR437_0.out) | (with_reducible refine Kd.C_alloc ?_ _) | (with_reducible refine Kd.C_drewN ?_ _) | (with_reducible refine Kd.C_drew ?_) | exact HR437_0.out)) 1 p441 q441
                     obtain rfl : ad439 = ad441 := (by injection e441)
                     (try simp only [show (1 : Int).toNat = 1 from rfl, Nat.reduceMul, Nat.reduceEqDiff, Go.Addr.add, ↓reduceIte] at hx441_0)
                     have qi441 : (1 < (rd_L1 t424 x12_2).length) = True := eq_true (by omega)
                     (try rw [show ((1 : Int)).toNat = 1 from rfl] at hx441_0)
                     replace p441 := eq_true p441
                     replace q441 := eq_true q441
                     have p442 : 0 ≤ (1 : Int) := (by omega)
                     have q442 : 1 < ((rd_L1 t424 x12_2).length : Int) := of_decide_eq_true (by first | (with_reducible assumption) | assumption)
                     obtain ⟨ad442, e442, hx442_0⟩ := Kd.at_int (by repeat (first | (with_reducible exact HR437_0.out) | (with_reducible refine Kd.C_alloc ?_ _) | (with_reducible refine Kd.C_drewN ?_ _) | (with_reducible refine Kd.C_drew ?_) | exact HR437_0.out)) 1 p442 q442
                     obtain rfl : ad439 = ad442 := (by injection e442)
                     (try simp only [show (1 : Int).toNat = 1 from rfl, Nat.reduceMul, Nat.reduceEqDiff, Go.Addr.add, ↓reduceIte] at hx442_0)
                     have qi442 : (1 < (rd_L1 t424 x12_2).length) = True := eq_true (by omega)
                     (try rw [show ((1 : Int)).toNat = 1 from rfl] at hx442_0)
                     replace p442 := eq_true p442
                     replace q442 := eq_true q442
                     have p443 : 0 ≤ (2 : Int) := (by omega)
                     have q443 : 2 < ((rd_L1 t424 x12_2).length : Int) := of_decide_eq_true (by first | (with_reducible assumption) | assumption)
                     obtain ⟨ad443, e443, hx443_0⟩ := Kd.at_int (by repeat (first | (with_reducible exact HR437_0.out) | (with_reducible refine Kd.C_alloc ?_ _) | (with_reducible refine Kd.C_drewN ?_ _) | (with_reducible refine Kd.C_drew ?_) | exact HR437_0.out)) 2 p443 q443
                     obtain rfl : ad439 = ad443 := (by injection e443)
                     (try simp only [show (2 : Int).toNat = 2 from rfl, Nat.reduceMul, Nat.reduceEqDiff, Go.Addr.add, ↓reduceIte] at hx443_0)
                     have qi443 : (2 < (rd_L1 t424 x12_2).length) = True := eq_true (by omega)
                     (try rw [show ((2 : Int)).toNat = 2 from rfl] at hx443_0)
                     replace p443 := eq_true p443
                     replace q443 := eq_true q443
                     have p444 : 0 ≤ (3 : Int) := (by omega)
                     have q444 : 3 < ((rd_L1 t424 x12_2).length : Int) := of_decide_eq_true (by first | (with_reducible assumption) | assumption)
                     obtain ⟨ad444, e444, hx444_0⟩ := Kd.at_int (by repeat (first | (with_reducible exact HR437_0.out) | (with_reducible refine Kd.C_alloc ?_ _) | (with_reducible refine Kd.C_drewN ?_ _) | (with_reducible refine Kd.C_drew ?_) | exact HR437_0.out)) 3 p444 q444
                     obtain rfl : ad439 = ad444 := (by injection e444)
                     (try simp only [show (3 : Int).toNat = 3 from rfl, Nat.reduceMul, Nat.reduceEqDiff, Go.Addr.add, ↓reduceIte] at hx444_0)
                     have qi444 : (3 < (rd_L1 t424 x12_2).length) = True := eq_true (by omega)
                     (try rw [show ((3 : Int)).toNat = 3 from rfl] at hx444_0)
                     replace p444 := eq_true p444
                     replace q444 := eq_true q444
                     have p445 : 0 ≤ (2 : Int) := (by omega)
                     have q445 : 2 < ((rd_L1 t424 x12_2).length : Int) := of_decide_eq_true (by first | (with_reducible assumption) | assumption)
                     obtain ⟨ad445, e445, hx445_0⟩ := Kd.at_int (by repeat (first | (with_reducible exact HR437_0.out) | (with_reducible refine Kd.C_alloc ?_ _) | (with_reducible refine Kd.C_drewN ?_ _) | (with_reducible refine Kd.C_drew ?_) | exact HR437_0.out)) 2 p445 q445
                     obtain rfl : ad439 = ad445 := (by injection e445)
                     (try simp only [show (2 : Int).toNat = 2 from rfl, Nat.reduceMul, Nat.reduceEqDiff, Go.Addr.add, ↓reduceIte] at hx445_0)
                     have qi445 : (2 < (rd_L1 t424 x12_2).length) = True := eq_true (by omega)
                     (try rw [show ((2 : Int)).toNat = 2 from rfl] at hx445_0)
                     replace p445 := eq_true p445
                     replace q445 := eq_true q445
                     have p446 : 0 ≤ (3 : Int) := (by omega)
                     have q446 : 3 < ((rd_L1 t424 x12_2).length : Int) := of_decide_eq_true (by first | (with_reducible assumption) | assumption)
                     obtain ⟨ad446, e446, hx446_0⟩ := Kd.at_int (by repeat (first | (with_reducible exact HR437_0.out) | (with_reducible refine Kd.C_alloc ?_ _) | (with_reducible refine Kd.C_drewN ?_ _) | (with_reducible refine Kd.C_drew ?_) | exact HR437_0.out)) 3 p446 q446
                     obtain rfl : ad439 = ad446 := (by injection e446)
                     (try simp only [show (3 : Int).toNat = 3 from rfl, Nat.reduceMul, Nat.reduceEqDiff, Go.Addr.add, ↓reduceIte] at hx446_0)
                     have qi446 : (3 < (rd_L1 t424 x12_2).length) = True := eq_true (by omega)
                     (try rw [show ((3 : Int)).toNat = 3 from rfl] at hx446_0)
                     replace p446 := eq_true p446
                     replace q446 := eq_true q446
                     go_wp2
                     repeat (go_quiet (fail); try go_wp2)
                     go_roundg k2
                     case measure => have := HJ5.out; have := HK2.out; omega
                     case rel => exact ⟨(x11_2), (wrap64 (x12_2 + 1)), (by first | rfl | (simp; done) | (simp [*]; done)), (by first | rfl | (simp; done) | (simp [*]; done)), H', ⟨by have := HJ5.out; have := HK2.out; omega⟩, ⟨by (with_reducible repeat (first | apply Kd.V_alloc | apply Kd.V_drewN | apply Kd.V_drew)); exact HO_3.out⟩, ⟨by (with_reducible repeat (first | apply Kd.S_alloc | apply Kd.S_drewN | apply Kd.S_drew)); exact HO_4.out⟩, ⟨by repeat (first | (with_reducible first | exact HB.out | apply zac | apply zaa | apply zad) | exact HB.out)⟩⟩
                 ·rw [if_neg c38] at H
                  exact absurd H (by simp)
               ·rw [if_neg c35] at H
                exact absurd H (by simp)
            ·rw [if_neg c30] at H
             exact absurd H (by simp)
           ·rw [if_neg c29] at H
            have c29b0 : ((rd (rd_L1 t424 x12_2) 0) == 1) = false := beq_eq_false_iff_ne.mpr c29
            have c29b1 : ((rd (rd_L1 t424 x12_2) 0) != 1) = true := bne_iff_ne.mpr c29
            by_cases c52 : 1 < ((rd_L1 t424 x12_2).length : Int)
            ·rw [if_pos c52] at H
             have c52b0 : decide (1 < ((rd_L1 t424 x12_2).length : Int)) = true := decide_eq_true c52
             have c52b1 : decide (1 < (rd_L1 t424 x12_2).length) = true := decide_eq_true (by omega)
             clear c52
             by_cases c53 : (rd (rd_L1 t424 x12_2) 1) < 1
             ·rw [if_pos c53] at H
              have c53b0 : decide ((rd (rd_L1 t424 x12_2) 1) < 1) = true := decide_eq_true c53
              clear c53
              obtain rfl := Option.some.inj H
              obtain ⟨Ao54, co54, eo54⟩ := Kd.S_slice HO_4.out
              subst eo54
              have p437 : 0 ≤ (x12_2 : Int) := of_decide_eq_true (by first | (with_reducible assumption) | assumption)
              have q437 : x12_2 < (t424.length : Int) := of_decide_eq_true (by first | (with_reducible assumption) | assumption)
              obtain ⟨ad437, A437_0, c437_0, e437, hx437_0, hl437_0, hi437_0⟩ := at_L1 (Kd.S_reads' HO_4.out).2.2 x12_2 p437 q437
              cases e437
              obtain ⟨ce437, hce437, hMe437, hcc437⟩ := Kd.S_get HO_4.out [] x12_2 p437 (by first | exact q437 | exact of_decide_eq_true (by first | (with_reducible assumption) | assumption) | (have e_ := (Kd.S_reads' HO_4.out).1; omega))
              obtain ⟨ve437_0, rfl, ge437_0⟩ := hMe437
              have hv437_0 := hcc437 0 _ rfl
              rw [Nat.add_zero, show ((Kd.slice 3 (Kd.int .i64))).sz = 1 from rfl, Nat.mul_one] at hv437_0
              replace hv437_0 := Option.some.inj (hv437_0.symm.trans hx437_0)
              rw [hv437_0] at ge437_0
              have HL437_0 := zab.mk (show Kd.R (Kd.int .i64) 3 _ _ _ _ (rd_L1 t424 x12_2) from ge437_0)
              clear hv437_0 ge437_0
              clear hcc437 hce437
              have HR437_0 := zab.mk hi437_0
              have HC437_0 := zab.mk hl437_0
              clear hi437_0 hl437_0
              replace p437 := eq_true p437
              replace q437 := eq_true q437
              have p438 : 0 ≤ (0 : Int) := (by omega)
              have q438 : 0 < (t421.length : Int) := of_decide_eq_true (by first | (with_reducible assumption) | assumption)
              obtain ⟨ad438, e438, hx438_0⟩ := Kd.at_string (Kd.V_reads' HO_3.out).2.2 0 p438 q438
              cases e438
              have qi438 : (0 < t421.length) = True := eq_true (by omega)
              (try rw [show ((0 : Int)).toNat = 0 from rfl] at hx438_0)
              (try rw [Addr.add_zero'] at hx438_0)
              replace p438 := eq_true p438
              replace q438 := eq_true q438
              have p439 : 0 ≤ (0 : Int) := (by omega)
              have q439 : 0 < ((rd_L1 t424 x12_2).length : Int) := of_decide_eq_true (by first | (with_reducible assumption) | assumption)
              obtain ⟨ad439, e439, hx439_0⟩ := Kd.at_int (by repeat (first | (with_reducible exact HR437_0.out) | (with_reducible refine Kd.C_alloc ?_ _) | (with_reducible refine Kd.C_drewN ?_ _) | (with_reducible refine Kd.C_drew ?_) | exact HR437_0.out)) 0 p439 q439
              cases e439
              have qi439 : (0 < (rd_L1 t424 x12_2).length) = True := eq_true (by omega)
              (try rw [show ((0 : Int)).toNat = 0 from rfl] at hx439_0)
              (try rw [Addr.add_zero'] at hx439_0)
              replace p439 := eq_true p439
              replace q439 := eq_true q439
              have p450 : 0 ≤ (1 : Int) := (by omega)
              have q450 : 1 < ((rd_L1 t424 x12_2).length : Int) := of_decide_eq_true (by first | (with_reducible assumption) | assumption)
              obtain ⟨ad450, e450, hx450_0⟩ := Kd.at_int (by repeat (first | (with_reducible exact HR437_0.out) | (with_reducible refine Kd.C_alloc ?_ _) | (with_reducible refine Kd.C_drewN ?_ _) | (with_reducible refine Kd.C_drew ?_) | exact HR437_0.out)) 1 p450 q450
              obtain rfl : ad439 = ad450 := (by injection e450)
              (try simp only [show (1 : Int).toNat = 1 from rfl, Nat.reduceMul, Nat.reduceEqDiff, Go.Addr.add, ↓reduceIte] at hx450_0)
              have qi450 : (1 < (rd_L1 t424 x12_2).length) = True := eq_true (by omega)
              (try rw [show ((1 : Int)).toNat = 1 from rfl] at hx450_0)
              replace p450 := eq_true p450
              replace q450 := eq_true q450
              go_wp2
              repeat (go_quiet (fail); try go_wp2)
              go_ret
              exact ⟨by first | rfl | (simp [zam, zal] <;> rfl) | (simp [*, zam, zal] <;> rfl), by repeat (first | (with_reducible first | exact HB.out | apply zac | apply zaa | apply zad) | exact HB.out)⟩
             ·rw [if_neg c53] at H
              have c53b0 : decide ((rd (rd_L1 t424 x12_2) 1) < 1) = false := decide_eq_false c53
              clear c53
              by_cases c55 : (rd (rd_L1 t424 x12_2) 1) ≥ ((rdOf ByteArray.empty t421 0).size : Int)
              ·rw [if_pos c55] at H
               have c55b0 : decide (((rdOf ByteArray.empty t421 0).size : Int) ≤ (rd (rd_L1 t424 x12_2) 1)) = true := decide_eq_true c55
               clear c55
               obtain rfl := Option.some.inj H
               obtain ⟨Ao56, co56, eo56⟩ := Kd.S_slice HO_4.out
               subst eo56
               have p437 : 0 ≤ (x12_2 : Int) := of_decide_eq_true (by first | (with_reducible assumption) | assumption)
               have q437 : x12_2 < (t424.length : Int) := of_decide_eq_true (by first | (with_reducible assumption) | assumption)
               obtain ⟨ad437, A437_0, c437_0, e437, hx437_0, hl437_0, hi437_0⟩ := at_L1 (Kd.S_reads' HO_4.out).2.2 x12_2 p437 q437
               cases e437
               obtain ⟨ce437, hce437, hMe437, hcc437⟩ := Kd.S_get HO_4.out [] x12_2 p437 (by first | exact q437 | exact of_decide_eq_true (by first | (with_reducible assumption) | assumption) | (have e_ := (Kd.S_reads' HO_4.out).1; omega))
               obtain ⟨ve437_0, rfl, ge437_0⟩ := hMe437
               have hv437_0 := hcc437 0 _ rfl
               rw [Nat.add_zero, show ((Kd.slice 3 (Kd.int .i64))).sz = 1 from rfl, Nat.mul_one] at hv437_0
               replace hv437_0 := Option.some.inj (hv437_0.symm.trans hx437_0)
               rw [hv437_0] at ge437_0
               have HL437_0 := zab.mk (show Kd.R (Kd.int .i64) 3 _ _ _ _ (rd_L1 t424 x12_2) from ge437_0)
               clear hv437_0 ge437_0
               clear hcc437 hce437
               have HR437_0 := zab.mk hi437_0
               have HC437_0 := zab.mk hl437_0
               clear hi437_0 hl437_0
               replace p437 := eq_true p437
               replace q437 := eq_true q437
               have p438 : 0 ≤ (0 : Int) := (by omega)
               have q438 : 0 < (t421.length : Int) := of_decide_eq_true (by first | (with_reducible assumption) | assumption)
               obtain ⟨ad438, e438, hx438_0⟩ := Kd.at_string (Kd.V_reads' HO_3.out).2.2 0 p438 q438
               cases e438
               have qi438 : (0 < t421.length) = True := eq_true (by omega)
               (try rw [show ((0 : Int)).toNat = 0 from rfl] at hx438_0)
               (try rw [Addr.add_zero'] at hx438_0)
               replace p438 := eq_true p438
               replace q438 := eq_true q438
               have p439 : 0 ≤ (0 : Int) := (by omega)
               have q439 : 0 < ((rd_L1 t424 x12_2).length : Int) := of_decide_eq_true (by first | (with_reducible assumption) | assumption)
               obtain ⟨ad439, e439, hx439_0⟩ := Kd.at_int (by repeat (first | (with_reducible exact HR437_0.out) | (with_reducible refine Kd.C_alloc ?_ _) | (with_reducible refine Kd.C_drewN ?_ _) | (with_reducible refine Kd.C_drew ?_) | exact HR437_0.out)) 0 p439 q439
               cases e439
               have qi439 : (0 < (rd_L1 t424 x12_2).length) = True := eq_true (by omega)
               (try rw [show ((0 : Int)).toNat = 0 from rfl] at hx439_0)
               (try rw [Addr.add_zero'] at hx439_0)
               replace p439 := eq_true p439
               replace q439 := eq_true q439
               have p450 : 0 ≤ (1 : Int) := (by omega)
               have q450 : 1 < ((rd_L1 t424 x12_2).length : Int) := of_decide_eq_true (by first | (with_reducible assumption) | assumption)
               obtain ⟨ad450, e450, hx450_0⟩ := Kd.at_int (by repeat (first | (with_reducible exact HR437_0.out) | (with_reducible refine Kd.C_alloc ?_ _) | (with_reducible refine Kd.C_drewN ?_ _) | (with_reducible refine Kd.C_drew ?_) | exact HR437_0.out)) 1 p450 q450
               obtain rfl : ad439 = ad450 := (by injection e450)
               (try simp only [show (1 : Int).toNat = 1 from rfl, Nat.reduceMul, Nat.reduceEqDiff, Go.Addr.add, ↓reduceIte] at hx450_0)
               have qi450 : (1 < (rd_L1 t424 x12_2).length) = True := eq_true (by omega)
               (try rw [show ((1 : Int)).toNat = 1 from rfl] at hx450_0)
               replace p450 := eq_true p450
               replace q450 := eq_true q450
               have p451 : 0 ≤ (1 : Int) := (by omega)
               have q451 : 1 < ((rd_L1 t424 x12_2).length : Int) := of_decide_eq_true (by first | (with_reducible assumption) | assumption)
               obtain ⟨ad451, e451, hx451_0⟩ := Kd.at_int (by repeat (first | (with_reducible exact HR437_0.out) | (with_reducible refine Kd.C_alloc ?_ _) | (with_reducible refine Kd.C_drewN ?_ _) | (with_reducible refine Kd.C_drew ?_) | exact HR437_0.out)) 1 p451 q451
               obtain rfl : ad439 = ad451 := (by injection e451)
               (try simp only [show (1 : Int).toNat = 1 from rfl, Nat.reduceMul, Nat.reduceEqDiff, Go.Addr.add, ↓reduceIte] at hx451_0)
               have qi451 : (1 < (rd_L1 t424 x12_2).length) = True := eq_true (by omega)
               (try rw [show ((1 : Int)).toNat = 1 from rfl] at hx451_0)
               replace p451 := eq_true p451
               replace q451 := eq_true q451
               go_wp2
               repeat (go_quiet (fail); try go_wp2)
               go_ret
               exact ⟨by first | rfl | (simp [zam, zal] <;> rfl) | (simp [*, zam, zal] <;> rfl), by repeat (first | (with_reducible first | exact HB.out | apply zac | apply zaa | apply zad) | exact HB.out)⟩
              ·rw [if_neg c55] at H
               have c55b0 : decide (((rdOf ByteArray.empty t421 0).size : Int) ≤ (rd (rd_L1 t424 x12_2) 1)) = false := decide_eq_false c55
               clear c55
               by_cases c57 : 2 < ((rd_L1 t424 x12_2).length : Int)
               ·rw [if_pos c57] at H
                have c57b0 : decide (2 < ((rd_L1 t424 x12_2).length : Int)) = true := decide_eq_true c57
                have c57b1 : decide (2 < (rd_L1 t424 x12_2).length) = true := decide_eq_true (by omega)
                clear c57
                by_cases c58 : (rd (rd_L1 t424 x12_2) 2) < 0
                ·rw [if_pos c58] at H
                 have c58b0 : decide ((rd (rd_L1 t424 x12_2) 2) < 0) = true := decide_eq_true c58
                 clear c58
                 obtain rfl := Option.some.inj H
                 obtain ⟨Ao59, co59, eo59⟩ := Kd.S_slice HO_4.out
                 subst eo59
                 have p437 : 0 ≤ (x12_2 : Int) := of_decide_eq_true (by first | (with_reducible assumption) | assumption)
                 have q437 : x12_2 < (t424.length : Int) := of_decide_eq_true (by first | (with_reducible assumption) | assumption)
                 obtain ⟨ad437, A437_0, c437_0, e437, hx437_0, hl437_0, hi437_0⟩ := at_L1 (Kd.S_reads' HO_4.out).2.2 x12_2 p437 q437
                 cases e437
                 obtain ⟨ce437, hce437, hMe437, hcc437⟩ := Kd.S_get HO_4.out [] x12_2 p437 (by first | exact q437 | exact of_decide_eq_true (by first | (with_reducible assumption) | assumption) | (have e_ := (Kd.S_reads' HO_4.out).1; omega))
                 obtain ⟨ve437_0, rfl, ge437_0⟩ := hMe437
                 have hv437_0 := hcc437 0 _ rfl
                 rw [Nat.add_zero, show ((Kd.slice 3 (Kd.int .i64))).sz = 1 from rfl, Nat.mul_one] at hv437_0
                 replace hv437_0 := Option.some.inj (hv437_0.symm.trans hx437_0)
                 rw [hv437_0] at ge437_0
                 have HL437_0 := zab.mk (show Kd.R (Kd.int .i64) 3 _ _ _ _ (rd_L1 t424 x12_2) from ge437_0)
                 clear hv437_0 ge437_0
                 clear hcc437 hce437
                 have HR437_0 := zab.mk hi437_0
                 have HC437_0 := zab.mk hl437_0
                 clear hi437_0 hl437_0
                 replace p437 := eq_true p437
                 replace q437 := eq_true q437
                 have p438 : 0 ≤ (0 : Int) := (by omega)
                 have q438 : 0 < (t421.length : Int) := of_decide_eq_true (by first | (with_reducible assumption) | assumption)
                 obtain ⟨ad438, e438, hx438_0⟩ := Kd.at_string (Kd.V_reads' HO_3.out).2.2 0 p438 q438
                 cases e438
                 have qi438 : (0 < t421.length) = True := eq_true (by omega)
                 (try rw [show ((0 : Int)).toNat = 0 from rfl] at hx438_0)
                 (try rw [Addr.add_zero'] at hx438_0)
                 replace p438 := eq_true p438
                 replace q438 := eq_true q438
                 have p439 : 0 ≤ (0 : Int) := (by omega)
                 have q439 : 0 < ((rd_L1 t424 x12_2).length : Int) := of_decide_eq_true (by first | (with_reducible assumption) | assumption)
                 obtain ⟨ad439, e439, hx439_0⟩ := Kd.at_int (by repeat (first | (with_reducible exact HR437_0.out) | (with_reducible refine Kd.C_alloc ?_ _) | (with_reducible refine Kd.C_drewN ?_ _) | (with_reducible refine Kd.C_drew ?_) | exact HR437_0.out)) 0 p439 q439
                 cases e439
                 have qi439 : (0 < (rd_L1 t424 x12_2).length) = True := eq_true (by omega)
                 (try rw [show ((0 : Int)).toNat = 0 from rfl] at hx439_0)
                 (try rw [Addr.add_zero'] at hx439_0)
                 replace p439 := eq_true p439
                 replace q439 := eq_true q439
                 have p450 : 0 ≤ (1 : Int) := (by omega)
                 have q450 : 1 < ((rd_L1 t424 x12_2).length : Int) := of_decide_eq_true (by first | (with_reducible assumption) | assumption)
                 obtain ⟨ad450, e450, hx450_0⟩ := Kd.at_int (by repeat (first | (with_reducible exact HR437_0.out) | (with_reducible refine Kd.C_alloc ?_ _) | (with_reducible refine Kd.C_drewN ?_ _) | (with_reducible refine Kd.C_drew ?_) | exact HR437_0.out)) 1 p450 q450
                 obtain rfl : ad439 = ad450 := (by injection e450)
                 (try simp only [show (1 : Int).toNat = 1 from rfl, Nat.reduceMul, Nat.reduceEqDiff, Go.Addr.add, ↓reduceIte] at hx450_0)
                 have qi450 : (1 < (rd_L1 t424 x12_2).length) = True := eq_true (by omega)
                 (try rw [show ((1 : Int)).toNat = 1 from rfl] at hx450_0)
                 replace p450 := eq_true p450
                 replace q450 := eq_true q450
                 have p451 : 0 ≤ (1 : Int) := (by omega)
                 have q451 : 1 < ((rd_L1 t424 x12_2).length : Int) := of_decide_eq_true (by first | (with_reducible assumption) | assumption)
                 obtain ⟨ad451, e451, hx451_0⟩ := Kd.at_int (by repeat (first | (with_reducible exact HR437_0.out) | (with_reducible refine Kd.C_alloc ?_ _) | (with_reducible refine Kd.C_drewN ?_ _) | (with_reducible refine Kd.C_drew ?_) | exact HR437_0.out)) 1 p451 q451
                 obtain rfl : ad439 = ad451 := (by injection e451)
                 (try simp only [show (1 : Int).toNat = 1 from rfl, Nat.reduceMul, Nat.reduceEqDiff, Go.Addr.add, ↓reduceIte] at hx451_0)
                 have qi451 : (1 < (rd_L1 t424 x12_2).length) = True := eq_true (by omega)
                 (try rw [show ((1 : Int)).toNat = 1 from rfl] at hx451_0)
                 replace p451 := eq_true p451
                 replace q451 := eq_true q451
                 have p452 : 0 ≤ (2 : Int) := (by omega)
                 have q452 : 2 < ((rd_L1 t424 x12_2).length : Int) := of_decide_eq_true (by first | (with_reducible assumption) | assumption)
                 obtain ⟨ad452, e452, hx452_0⟩ := Kd.at_int (by repeat (first | (with_reducible exact HR437_0.out) | (with_reducible refine Kd.C_alloc ?_ _) | (with_reducible refine Kd.C_drewN ?_ _) | (with_reducible refine Kd.C_drew ?_) | exact HR437_0.out)) 2 p452 q452
                 obtain rfl : ad439 = ad452 := (by injection e452)
                 (try simp only [show (2 : Int).toNat = 2 from rfl, Nat.reduceMul, Nat.reduceEqDiff, Go.Addr.add, ↓reduceIte] at hx452_0)
                 have qi452 : (2 < (rd_L1 t424 x12_2).length) = True := eq_true (by omega)
                 (try rw [show ((2 : Int)).toNat = 2 from rfl] at hx452_0)
                 replace p452 := eq_true p452
                 replace q452 := eq_true q452
                 go_wp2
                 repeat (go_quiet (fail); try go_wp2)
                 go_ret
                 exact ⟨by first | rfl | (simp [zam, zal] <;> rfl) | (simp [*, zam, zal] <;> rfl), by repeat (first | (with_reducible first | exact HB.out | apply zac | apply zaa | apply zad) | exact HB.out)⟩
                ·rw [if_neg c58] at H
                 have c58b0 : decide ((rd (rd_L1 t424 x12_2) 2) < 0) = false := decide_eq_false c58
                 clear c58
                 by_cases c60 : 3 < ((rd_L1 t424 x12_2).length : Int)
                 ·rw [if_pos c60] at H
                  have c60b0 : decide (3 < ((rd_L1 t424 x12_2).length : Int)) = true := decide_eq_true c60
                  have c60b1 : decide (3 < (rd_L1 t424 x12_2).length) = true := decide_eq_true (by omega)
                  clear c60
                  by_cases c61 : (rd (rd_L1 t424 x12_2) 3) < 1
                  ·rw [if_pos c61] at H
                   have c61b0 : decide ((rd (rd_L1 t424 x12_2) 3) < 1) = true := decide_eq_true c61
                   clear c61
                   obtain rfl := Option.some.inj H
                   obtain ⟨Ao62, co62, eo62⟩ := Kd.S_slice HO_4.out
                   subst eo62
                   have p437 : 0 ≤ (x12_2 : Int) := of_decide_eq_true (by first | (with_reducible assumption) | assumption)
                   have q437 : x12_2 < (t424.length : Int) := of_decide_eq_true (by first | (with_reducible assumption) | assumption)
                   obtain ⟨ad437, A437_0, c437_0, e437, hx437_0, hl437_0, hi437_0⟩ := at_L1 (Kd.S_reads' HO_4.out).2.2 x12_2 p437 q437
                   cases e437
                   obtain ⟨ce437, hce437, hMe437, hcc437⟩ := Kd.S_get HO_4.out [] x12_2 p437 (by first | exact q437 | exact of_decide_eq_true (by first | (with_reducible assumption) | assumption) | (have e_ := (Kd.S_reads' HO_4.out).1; omega))
                   obtain ⟨ve437_0, rfl, ge437_0⟩ := hMe437
                   have hv437_0 := hcc437 0 _ rfl
                   rw [Nat.add_zero, show ((Kd.slice 3 (Kd.int .i64))).sz = 1 from rfl, Nat.mul_one] at hv437_0
                   replace hv437_0 := Option.some.inj (hv437_0.symm.trans hx437_0)
                   rw [hv437_0] at ge437_0
                   have HL437_0 := zab.mk (show Kd.R (Kd.int .i64) 3 _ _ _ _ (rd_L1 t424 x12_2) from ge437_0)
                   clear hv437_0 ge437_0
                   clear hcc437 hce437
                   have HR437_0 := zab.mk hi437_0
                   have HC437_0 := zab.mk hl437_0
                   clear hi437_0 hl437_0
                   replace p437 := eq_true p437
                   replace q437 := eq_true q437
                   have p438 : 0 ≤ (0 : Int) := (by omega)
                   have q438 : 0 < (t421.length : Int) := of_decide_eq_true (by first | (with_reducible assumption) | assumption)
                   obtain ⟨ad438, e438, hx438_0⟩ := Kd.at_string (Kd.V_reads' HO_3.out).2.2 0 p438 q438
                   cases e438
                   have qi438 : (0 < t421.length) = True := eq_true (by omega)
                   (try rw [show ((0 : Int)).toNat = 0 from rfl] at hx438_0)
                   (try rw [Addr.add_zero'] at hx438_0)
                   replace p438 := eq_true p438
                   replace q438 := eq_true q438
                   have p439 : 0 ≤ (0 : Int) := (by omega)
                   have q439 : 0 < ((rd_L1 t424 x12_2).length : Int) := of_decide_eq_true (by first | (with_reducible assumption) | assumption)
                   obtain ⟨ad439, e439, hx439_0⟩ := Kd.at_int (by repeat (first | (with_reducible exact HR437_0.out) | (with_reducible refine Kd.C_alloc ?_ _) | (with_reducible refine Kd.C_drewN ?_ _) | (with_reducible refine Kd.C_drew ?_) | exact HR437_0.out)) 0 p439 q439
                   cases e439
                   have qi439 : (0 < (rd_L1 t424 x12_2).length) = True := eq_true (by omega)
                   (try rw [show ((0 : Int)).toNat = 0 from rfl] at hx439_0)
                   (try rw [Addr.add_zero'] at hx439_0)
                   replace p439 := eq_true p439
                   replace q439 := eq_true q439
                   have p450 : 0 ≤ (1 : Int) := (by omega)
                   have q450 : 1 < ((rd_L1 t424 x12_2).length : Int) := of_decide_eq_true (by first | (with_reducible assumption) | assumption)
                   obtain ⟨ad450, e450, hx450_0⟩ := Kd.at_int (by repeat (first | (with_reducible exact HR437_0.out) | (with_reducible refine Kd.C_alloc ?_ _) | (with_reducible refine Kd.C_drewN ?_ _) | (with_reducible refine Kd.C_drew ?_) | exact HR437_0.out)) 1 p450 q450
                   obtain rfl : ad439 = ad450 := (by injection e450)
                   (try simp only [show (1 : Int).toNat = 1 from rfl, Nat.reduceMul, Nat.reduceEqDiff, Go.Addr.add, ↓reduceIte] at hx450_0)
                   have qi450 : (1 < (rd_L1 t424 x12_2).length) = True := eq_true (by omega)
                   (try rw [show ((1 : Int)).toNat = 1 from rfl] at hx450_0)
                   replace p450 := eq_true p450
                   replace q450 := eq_true q450
                   have p451 : 0 ≤ (1 : Int) := (by omega)
                   have q451 : 1 < ((rd_L1 t424 x12_2).length : Int) := of_decide_eq_true (by first | (with_reducible assumption) | assumption)
                   obtain ⟨ad451, e451, hx451_0⟩ := Kd.at_int (by repeat (first | (with_reducible exact HR437_0.out) | (with_reducible refine Kd.C_alloc ?_ _) | (with_reducible refine Kd.C_drewN ?_ _) | (with_reducible refine Kd.C_drew ?_) | exact HR437_0.out)) 1 p451 q451
                   obtain rfl : ad439 = ad451 := (by injection e451)
                   (try simp only [show (1 : Int).toNat = 1 from rfl, Nat.reduceMul, Nat.reduceEqDiff, Go.Addr.add, ↓reduceIte] at hx451_0)
                   have qi451 : (1 < (rd_L1 t424 x12_2).length) = True := eq_true (by omega)
                   (try rw [show ((1 : Int)).toNat = 1 from rfl] at hx451_0)
                   replace p451 := eq_true p451
                   replace q451 := eq_true q451
                   have p452 : 0 ≤ (2 : Int) := (by omega)
                   have q452 : 2 < ((rd_L1 t424 x12_2).length : Int) := of_decide_eq_true (by first | (with_reducible assumption) | assumption)
                   obtain ⟨ad452, e452, hx452_0⟩ := Kd.at_int (by repeat (first | (with_reducible exact HR437_0.out) | (with_reducible refine Kd.C_alloc ?_ _) | (with_reducible refine Kd.C_drewN ?_ _) | (with_reducible refine Kd.C_drew ?_) | exact HR437_0.out)) 2 p452 q452
                   obtain rfl : ad439 = ad452 := (by injection e452)
                   (try simp only [show (2 : Int).toNat = 2 from rfl, Nat.reduceMul, Nat.reduceEqDiff, Go.Addr.add, ↓reduceIte] at hx452_0)
                   have qi452 : (2 < (rd_L1 t424 x12_2).length) = True := eq_true (by omega)
                   (try rw [show ((2 : Int)).toNat = 2 from rfl] at hx452_0)
                   replace p452 := eq_true p452
                   replace q452 := eq_true q452
                   have p453 : 0 ≤ (3 : Int) := (by omega)
                   have q453 : 3 < ((rd_L1 t424 x12_2).length : Int) := of_decide_eq_true (by first | (with_reducible assumption) | assumption)
                   obtain ⟨ad453, e453, hx453_0⟩ := Kd.at_int (by repeat (first | (with_reducible exact HR437_0.out) | (with_reducible refine Kd.C_alloc ?_ _) | (with_reducible refine Kd.C_drewN ?_ _) | (with_reducible refine Kd.C_drew ?_) | exact HR437_0.out)) 3 p453 q453
                   obtain rfl : ad439 = ad453 := (by injection e453)
                   (try simp only [show (3 : Int).toNat = 3 from rfl, Nat.reduceMul, Nat.reduceEqDiff, Go.Addr.add, ↓reduceIte] at hx453_0)
                   have qi453 : (3 < (rd_L1 t424 x12_2).length) = True := eq_true (by omega)
                   (try rw [show ((3 : Int)).toNat = 3 from rfl] at hx453_0)
                   replace p453 := eq_true p453
                   replace q453 := eq_true q453
                   go_wp2
                   repeat (go_quiet (fail); try go_wp2)
                   go_ret
                   exact ⟨by first | rfl | (simp [zam, zal] <;> rfl) | (simp [*, zam, zal] <;> rfl), by repeat (first | (with_reducible first | exact HB.out | apply zac | apply zaa | apply zad) | exact HB.out)⟩
                  ·rw [if_neg c61] at H
                   have c61b0 : decide ((rd (rd_L1 t424 x12_2) 3) < 1) = false := decide_eq_false c61
                   clear c61
                   by_cases c63 : (wrap64 ((rd (rd_L1 t424 x12_2) 2) + (rd (rd_L1 t424 x12_2) 3))) > (t421.length : Int)
                   ·rw [if_pos c63] at H
                    have c63b0 : decide ((t421.length : Int) < (wrap64 ((rd (rd_L1 t424 x12_2) 2) + (rd (rd_L1 t424 x12_2) 3)))) = true := decide_eq_true c63
                    clear c63
                    obtain rfl := Option.some.inj H
                    obtain ⟨Ao64, co64, eo64⟩ := Kd.S_slice HO_4.out
                    subst eo64
                    have p437 : 0 ≤ (x12_2 : Int) := of_decide_eq_true (by first | (with_reducible assumption) | assumption)
                    have q437 : x12_2 < (t424.length : Int) := of_decide_eq_true (by first | (with_reducible assumption) | assumption)
                    obtain ⟨ad437, A437_0, c437_0, e437, hx437_0, hl437_0, hi437_0⟩ := at_L1 (Kd.S_reads' HO_4.out).2.2 x12_2 p437 q437
                    cases e437
                    obtain ⟨ce437, hce437, hMe437, hcc437⟩ := Kd.S_get HO_4.out [] x12_2 p437 (by first | exact q437 | exact of_decide_eq_true (by first | (with_reducible assumption) | assumption) | (have e_ := (Kd.S_reads' HO_4.out).1; omega))
                    obtain ⟨ve437_0, rfl, ge437_0⟩ := hMe437
                    have hv437_0 := hcc437 0 _ rfl
                    rw [Nat.add_zero, show ((Kd.slice 3 (Kd.int .i64))).sz = 1 from rfl, Nat.mul_one] at hv437_0
                    replace hv437_0 := Option.some.inj (hv437_0.symm.trans hx437_0)
                    rw [hv437_0] at ge437_0
                    have HL437_0 := zab.mk (show Kd.R (Kd.int .i64) 3 _ _ _ _ (rd_L1 t424 x12_2) from ge437_0)
                    clear hv437_0 ge437_0
                    clear hcc437 hce437
                    have HR437_0 := zab.mk hi437_0
                    have HC437_0 := zab.mk hl437_0
                    clear hi437_0 hl437_0
                    replace p437 := eq_true p437
                    replace q437 := eq_true q437
                    have p438 : 0 ≤ (0 : Int) := (by omega)
                    have q438 : 0 < (t421.length : Int) := of_decide_eq_true (by first | (with_reducible assumption) | assumption)
                    obtain ⟨ad438, e438, hx438_0⟩ := Kd.at_string (Kd.V_reads' HO_3.out).2.2 0 p438 q438
                    cases e438
                    have qi438 : (0 < t421.length) = True := eq_true (by omega)
                    (try rw [show ((0 : Int)).toNat = 0 from rfl] at hx438_0)
                    (try rw [Addr.add_zero'] at hx438_0)
                    replace p438 := eq_true p438
                    replace q438 := eq_true q438
                    have p439 : 0 ≤ (0 : Int) := (by omega)
                    have q439 : 0 < ((rd_L1 t424 x12_2).length : Int) := of_decide_eq_true (by first | (with_reducible assumption) | assumption)
                    obtain ⟨ad439, e439, hx439_0⟩ := Kd.at_int (by repeat (first | (with_reducible exact HR437_0.out) | (with_reducible refine Kd.C_alloc ?_ _) | (with_reducible refine Kd.C_drewN ?_ _) | (with_reducible refine Kd.C_drew ?_) | exact HR437_0.out)) 0 p439 q439
                    cases e439
                    have qi439 : (0 < (rd_L1 t424 x12_2).length) = True := eq_true (by omega)
                    (try rw [show ((0 : Int)).toNat = 0 from rfl] at hx439_0)
                    (try rw [Addr.add_zero'] at hx439_0)
                    replace p439 := eq_true p439
                    replace q439 := eq_true q439
                    have p450 : 0 ≤ (1 : Int) := (by omega)
                    have q450 : 1 < ((rd_L1 t424 x12_2).length : Int) := of_decide_eq_true (by first | (with_reducible assumption) | assumption)
                    obtain ⟨ad450, e450, hx450_0⟩ := Kd.at_int (by repeat (first | (with_reducible exact HR437_0.out) | (with_reducible refine Kd.C_alloc ?_ _) | (with_reducible refine Kd.C_drewN ?_ _) | (with_reducible refine Kd.C_drew ?_) | exact HR437_0.out)) 1 p450 q450
                    obtain rfl : ad439 = ad450 := (by injection e450)
                    (try simp only [show (1 : Int).toNat = 1 from rfl, Nat.reduceMul, Nat.reduceEqDiff, Go.Addr.add, ↓reduceIte] at hx450_0)
                    have qi450 : (1 < (rd_L1 t424 x12_2).length) = True := eq_true (by omega)
                    (try rw [show ((1 : Int)).toNat = 1 from rfl] at hx450_0)
                    replace p450 := eq_true p450
                    replace q450 := eq_true q450
                    have p451 : 0 ≤ (1 : Int) := (by omega)
                    have q451 : 1 < ((rd_L1 t424 x12_2).length : Int) := of_decide_eq_true (by first | (with_reducible assumption) | assumption)
                    obtain ⟨ad451, e451, hx451_0⟩ := Kd.at_int (by repeat (first | (with_reducible exact HR437_0.out) | (with_reducible refine Kd.C_alloc ?_ _) | (with_reducible refine Kd.C_drewN ?_ _) | (with_reducible refine Kd.C_drew ?_) | exact HR437_0.out)) 1 p451 q451
                    obtain rfl : ad439 = ad451 := (by injection e451)
                    (try simp only [show (1 : Int).toNat = 1 from rfl, Nat.reduceMul, Nat.reduceEqDiff, Go.Addr.add, ↓reduceIte] at hx451_0)
                    have qi451 : (1 < (rd_L1 t424 x12_2).length) = True := eq_true (by omega)
                    (try rw [show ((1 : Int)).toNat = 1 from rfl] at hx451_0)
                    replace p451 := eq_true p451
                    replace q451 := eq_true q451
                    have p452 : 0 ≤ (2 : Int) := (by omega)
                    have q452 : 2 < ((rd_L1 t424 x12_2).length : Int) := of_decide_eq_true (by first | (with_reducible assumption) | assumption)
                    obtain ⟨ad452, e452, hx452_0⟩ := Kd.at_int (by repeat (first | (with_reducible exact HR437_0.out) | (with_reducible refine Kd.C_alloc ?_ _) | (with_reducible refine Kd.C_drewN ?_ _) | (with_reducible refine Kd.C_drew ?_) | exact HR437_0.out)) 2 p452 q452
                    obtain rfl : ad439 = ad452 := (by injection e452)
                    (try simp only [show (2 : Int).toNat = 2 from rfl, Nat.reduceMul, Nat.reduceEqDiff, Go.Addr.add, ↓reduceIte] at hx452_0)
                    have qi452 : (2 < (rd_L1 t424 x12_2).length) = True := eq_true (by omega)
                    (try rw [show ((2 : Int)).toNat = 2 from rfl] at hx452_0)
                    replace p452 := eq_true p452
                    replace q452 := eq_true q452
                    have p453 : 0 ≤ (3 : Int) := (by omega)
                    have q453 : 3 < ((rd_L1 t424 x12_2).length : Int) := of_decide_eq_true (by first | (with_reducible assumption) | assumption)
                    obtain ⟨ad453, e453, hx453_0⟩ := Kd.at_int (by repeat (first | (with_reducible exact HR437_0.out) | (with_reducible refine Kd.C_alloc ?_ _) | (with_reducible refine Kd.C_drewN ?_ _) | (with_reducible refine Kd.C_drew ?_) | exact HR437_0.out)) 3 p453 q453
                    obtain rfl : ad439 = ad453 := (by injection e453)
                    (try simp only [show (3 : Int).toNat = 3 from rfl, Nat.reduceMul, Nat.reduceEqDiff, Go.Addr.add, ↓reduceIte] at hx453_0)
                    have qi453 : (3 < (rd_L1 t424 x12_2).length) = True := eq_true (by omega)
                    (try rw [show ((3 : Int)).toNat = 3 from rfl] at hx453_0)
                    replace p453 := eq_true p453
                    replace q453 := eq_true q453
                    have p454 : 0 ≤ (2 : Int) := (by omega)
                    have q454 : 2 < ((rd_L1 t424 x12_2).length : Int) := of_decide_eq_true (by first | (with_reducible assumption) | assumption)
                    obtain ⟨ad454, e454, hx454_0⟩ := Kd.at_int (by repeat (first | (with_reducible exact HR437_0.out) | (with_reducible refine Kd.C_alloc ?_ _) | (with_reducible refine Kd.C_drewN ?_ _) | (with_reducible refine Kd.C_drew ?_) | exact HR437_0.out)) 2 p454 q454
                    obtain rfl : ad439 = ad454 := (by injection e454)
                    (try simp only [show (2 : Int).toNat = 2 from rfl, Nat.reduceMul, Nat.reduceEqDiff, Go.Addr.add, ↓reduceIte] at hx454_0)
                    have qi454 : (2 < (rd_L1 t424 x12_2).length) = True := eq_true (by omega)
                    (try rw [show ((2 : Int)).toNat = 2 from rfl] at hx454_0)
                    replace p454 := eq_true p454
                    replace q454 := eq_true q454
                    have p455 : 0 ≤ (3 : Int) := (by omega)
                    have q455 : 3 < ((rd_L1 t424 x12_2).length : Int) := of_decide_eq_true (by first | (with_reducible assumption) | assumption)
                    obtain ⟨ad455, e455, hx455_0⟩ := Kd.at_int (by repeat (first | (with_reducible exact HR437_0.out) | (with_reducible refine Kd.C_alloc ?_ _) | (with_reducible refine Kd.C_drewN ?_ _) | (with_reducible refine Kd.C_drew ?_) | exact HR437_0.out)) 3 p455 q455
                    obtain rfl : ad439 = ad455 := (by injection e455)
                    (try simp only [show (3 : Int).toNat = 3 from rfl, Nat.reduceMul, Nat.reduceEqDiff, Go.Addr.add, ↓reduceIte] at hx455_0)
                    have qi455 : (3 < (rd_L1 t424 x12_2).length) = True := eq_true (by omega)
                    (try rw [show ((3 : Int)).toNat = 3 from rfl] at hx455_0)
                    replace p455 := eq_true p455
                    replace q455 := eq_true q455
                    go_wp2
                    repeat (go_quiet (fail); try go_wp2)
                    go_ret
                    exact ⟨by first | rfl | (simp [zam, zal] <;> rfl) | (simp [*, zam, zal] <;> rfl), by repeat (first | (with_reducible first | exact HB.out | apply zac | apply zaa | apply zad) | exact HB.out)⟩
                   ·rw [if_neg c63] at H
                    have c63b0 : decide ((t421.length : Int) < (wrap64 ((rd (rd_L1 t424 x12_2) 2) + (rd (rd_L1 t424 x12_2) 3)))) = false := decide_eq_false c63
                    clear c63
                    by_cases c65 : x12_2 > 0
                    ·rw [if_pos c65] at H
                     have c65b0 : decide (0 < x12_2) = true := decide_eq_true c65
                     clear c65
                     obtain ⟨ji66, hji66⟩ : ∃ j_ : Int, (wrap64 (x12_2 - 1)) = j_ := ⟨_, rfl⟩
                     replace H : (if 0 ≤ (ji66) then (if (ji66) < (t424.length : Int) then (if 0 < ((rd_L1 t424 (ji66)).length : Int) then (if (rd (rd_L1 t424 x12_2) 0) < (rd (rd_L1 t424 (ji66)) 0) then (some false) else (laws_FnWallList.l0 k2 t421 t424 t434 t435 t436 (wrap64 (x11_2 + 1)) (wrap64 (x12_2 + 1)))) else (none)) else (none)) else (none)) = some r := by first | (rw [hji66] at H; exact H) | (simp only [hji66] at H ⊢; exact H)
                     have hji66w : (IntKind.i64.wrap (x12_2 - 1)) = ji66 := (zba _).trans hji66
                     by_cases c67 : 0 ≤ (ji66)
                     ·rw [if_pos c67] at H
                      have c67b0 : decide (0 ≤ (ji66)) = true := decide_eq_true c67
                      clear c67
                      by_cases c68 : (ji66) < (t424.length : Int)
                      ·rw [if_pos c68] at H
                       have c68b0 : decide ((ji66) < (t424.length : Int)) = true := decide_eq_true c68
                       clear c68
                       by_cases c69 : 0 < ((rd_L1 t424 (ji66)).length : Int)
                       ·rw [if_pos c69] at H
                        have c69b0 : decide (0 < ((rd_L1 t424 (ji66)).length : Int)) = true := decide_eq_true c69
                        have c69b1 : decide (0 < (rd_L1 t424 (ji66)).length) = true := decide_eq_true (by omega)
                        clear c69
                        by_cases c70 : (rd (rd_L1 t424 x12_2) 0) < (rd (rd_L1 t424 (ji66)) 0)
                        ·rw [if_pos c70] at H
                         have c70b0 : decide ((rd (rd_L1 t424 x12_2) 0) < (rd (rd_L1 t424 (ji66)) 0)) = true := decide_eq_true c70
                         clear c70
                         obtain rfl := Option.some.inj H
                         obtain ⟨Ao71, co71, eo71⟩ := Kd.S_slice HO_4.out
                         subst eo71
                         have p437 : 0 ≤ (x12_2 : Int) := of_decide_eq_true (by first | (with_reducible assumption) | assumption)
                         have q437 : x12_2 < (t424.length : Int) := of_decide_eq_true (by first | (with_reducible assumption) | assumption)
                         obtain ⟨ad437, A437_0, c437_0, e437, hx437_0, hl437_0, hi437_0⟩ := at_L1 (Kd.S_reads' HO_4.out).2.2 x12_2 p437 q437
                         cases e437
                         obtain ⟨ce437, hce437, hMe437, hcc437⟩ := Kd.S_get HO_4.out [] x12_2 p437 (by first | exact q437 | exact of_decide_eq_true (by first | (with_reducible assumption) | assumption) | (have e_ := (Kd.S_reads' HO_4.out).1; omega))
                         obtain ⟨ve437_0, rfl, ge437_0⟩ := hMe437
                         have hv437_0 := hcc437 0 _ rfl
                         rw [Nat.add_zero, show ((Kd.slice 3 (Kd.int .i64))).sz = 1 from rfl, Nat.mul_one] at hv437_0
                         replace hv437_0 := Option.some.inj (hv437_0.symm.trans hx437_0)
                         rw [hv437_0] at ge437_0
                         have HL437_0 := zab.mk (show Kd.R (Kd.int .i64) 3 _ _ _ _ (rd_L1 t424 x12_2) from ge437_0)
                         clear hv437_0 ge437_0
                         clear hcc437 hce437
                         have HR437_0 := zab.mk hi437_0
                         have HC437_0 := zab.mk hl437_0
                         clear hi437_0 hl437_0
                         replace p437 := eq_true p437
                         replace q437 := eq_true q437
                         have p438 : 0 ≤ (0 : Int) := (by omega)
                         have q438 : 0 < (t421.length : Int) := of_decide_eq_true (by first | (with_reducible assumption) | assumption)
                         obtain ⟨ad438, e438, hx438_0⟩ := Kd.at_string (Kd.V_reads' HO_3.out).2.2 0 p438 q438
                         cases e438
                         have qi438 : (0 < t421.length) = True := eq_true (by omega)
                         (try rw [show ((0 : Int)).toNat = 0 from rfl] at hx438_0)
                         (try rw [Addr.add_zero'] at hx438_0)
                         replace p438 := eq_true p438
                         replace q438 := eq_true q438
                         have p439 : 0 ≤ (0 : Int) := (by omega)
                         have q439 : 0 < ((rd_L1 t424 x12_2).length : Int) := of_decide_eq_true (by first | (with_reducible assumption) | assumption)
                         obtain ⟨ad439, e439, hx439_0⟩ := Kd.at_int (by repeat (first | (with_reducible exact HR437_0.out) | (with_reducible refine Kd.C_alloc ?_ _) | (with_reducible refine Kd.C_drewN ?_ _) | (with_reducible refine Kd.C_drew ?_) | exact HR437_0.out)) 0 p439 q439
                         cases e439
                         have qi439 : (0 < (rd_L1 t424 x12_2).length) = True := eq_true (by omega)
                         (try rw [show ((0 : Int)).toNat = 0 from rfl] at hx439_0)
                         (try rw [Addr.add_zero'] at hx439_0)
                         replace p439 := eq_true p439
                         replace q439 := eq_true q439
                         have p450 : 0 ≤ (1 : Int) := (by omega)
                         have q450 : 1 < ((rd_L1 t424 x12_2).length : Int) := of_decide_eq_true (by first | (with_reducible assumption) | assumption)
                         obtain ⟨ad450, e450, hx450_0⟩ := Kd.at_int (by repeat (first | (with_reducible exact HR437_0.out) | (with_reducible refine Kd.C_alloc ?_ _) | (with_reducible refine Kd.C_drewN ?_ _) | (with_reducible refine Kd.C_drew ?_) | exact HR437_0.out)) 1 p450 q450
                         obtain rfl : ad439 = ad450 := (by injection e450)
                         (try simp only [show (1 : Int).toNat = 1 from rfl, Nat.reduceMul, Nat.reduceEqDiff, Go.Addr.add, ↓reduceIte] at hx450_0)
                         have qi450 : (1 < (rd_L1 t424 x12_2).length) = True := eq_true (by omega)
                         (try rw [show ((1 : Int)).toNat = 1 from rfl] at hx450_0)
                         replace p450 := eq_true p450
                         replace q450 := eq_true q450
                         have p451 : 0 ≤ (1 : Int) := (by omega)
                         have q451 : 1 < ((rd_L1 t424 x12_2).length : Int) := of_decide_eq_true (by first | (with_reducible assumption) | assumption)
                         obtain ⟨ad451, e451, hx451_0⟩ := Kd.at_int (by repeat (first | (with_reducible exact HR437_0.out) | (with_reducible refine Kd.C_alloc ?_ _) | (with_reducible refine Kd.C_drewN ?_ _) | (with_reducible refine Kd.C_drew ?_) | exact HR437_0.out)) 1 p451 q451
                         obtain rfl : ad439 = ad451 := (by injection e451)
                         (try simp only [show (1 : Int).toNat = 1 from rfl, Nat.reduceMul, Nat.reduceEqDiff, Go.Addr.add, ↓reduceIte] at hx451_0)
                         have qi451 : (1 < (rd_L1 t424 x12_2).length) = True := eq_true (by omega)
                         (try rw [show ((1 : Int)).toNat = 1 from rfl] at hx451_0)
                         replace p451 := eq_true p451
                         replace q451 := eq_true q451
                         have p452 : 0 ≤ (2 : Int) := (by omega)
                         have q452 : 2 < ((rd_L1 t424 x12_2).length : Int) := of_decide_eq_true (by first | (with_reducible assumption) | assumption)
                         obtain ⟨ad452, e452, hx452_0⟩ := Kd.at_int (by repeat (first | (with_reducible exact HR437_0.out) | (with_reducible refine Kd.C_alloc ?_ _) | (with_reducible refine Kd.C_drewN ?_ _) | (with_reducible refine Kd.C_drew ?_) | exact HR437_0.out)) 2 p452 q452
                         obtain rfl : ad439 = ad452 := (by injection e452)
                         (try simp only [show (2 : Int).toNat = 2 from rfl, Nat.reduceMul, Nat.reduceEqDiff, Go.Addr.add, ↓reduceIte] at hx452_0)
                         have qi452 : (2 < (rd_L1 t424 x12_2).length) = True := eq_true (by omega)
                         (try rw [show ((2 : Int)).toNat = 2 from rfl] at hx452_0)
                         replace p452 := eq_true p452
                         replace q452 := eq_true q452
                         have p453 : 0 ≤ (3 : Int) := (by omega)
                         have q453 : 3 < ((rd_L1 t424 x12_2).length : Int) := of_decide_eq_true (by first | (with_reducible assumption) | assumption)
                         obtain ⟨ad453, e453, hx453_0⟩ := Kd.at_int (by repeat (first | (with_reducible exact HR437_0.out) | (with_reducible refine Kd.C_alloc ?_ _) | (with_reducible refine Kd.C_drewN ?_ _) | (with_reducible refine Kd.C_drew ?_) | exact HR437_0.out)) 3 p453 q453
                         obtain rfl : ad439 = ad453 := (by injection e453)
                         (try simp only [show (3 : Int).toNat = 3 from rfl, Nat.reduceMul, Nat.reduceEqDiff, Go.Addr.add, ↓reduceIte] at hx453_0)
                         have qi453 : (3 < (rd_L1 t424 x12_2).length) = True := eq_true (by omega)
                         (try rw [show ((3 : Int)).toNat = 3 from rfl] at hx453_0)
                         replace p453 := eq_true p453
                         replace q453 := eq_true q453
                         have p454 : 0 ≤ (2 : Int) := (by omega)
                         have q454 : 2 < ((rd_L1 t424 x12_2).length : Int) := of_decide_eq_true (by first | (with_reducible assumption) | assumption)
                         obtain ⟨ad454, e454, hx454_0⟩ := Kd.at_int (by repeat (first | (with_reducible exact HR437_0.out) | (with_reducible refine Kd.C_alloc ?_ _) | (with_reducible refine Kd.C_drewN ?_ _) | (with_reducible refine Kd.C_drew ?_) | exact HR437_0.out)) 2 p454 q454
                         obtain rfl : ad439 = ad454 := (by injection e454)
                         (try simp only [show (2 : Int).toNat = 2 from rfl, Nat.reduceMul, Nat.reduceEqDiff, Go.Addr.add, ↓reduceIte] at hx454_0)
                         have qi454 : (2 < (rd_L1 t424 x12_2).length) = True := eq_true (by omega)
                         (try rw [show ((2 : Int)).toNat = 2 from rfl] at hx454_0)
                         replace p454 := eq_true p454
                         replace q454 := eq_true q454
                         have p455 : 0 ≤ (3 : Int) := (by omega)
                         have q455 : 3 < ((rd_L1 t424 x12_2).length : Int) := of_decide_eq_true (by first | (with_reducible assumption) | assumption)
                         obtain ⟨ad455, e455, hx455_0⟩ := Kd.at_int (by repeat (first | (with_reducible exact HR437_0.out) | (with_reducible refine Kd.C_alloc ?_ _) | (with_reducible refine Kd.C_drewN ?_ _) | (with_reducible refine Kd.C_drew ?_) | exact HR437_0.out)) 3 p455 q455
                         obtain rfl : ad439 = ad455 := (by injection e455)
                         (try simp only [show (3 : Int).toNat = 3 from rfl, Nat.reduceMul, Nat.reduceEqDiff, Go.Addr.add, ↓reduceIte] at hx455_0)
                         have qi455 : (3 < (rd_L1 t424 x12_2).length) = True := eq_true (by omega)
                         (try rw [show ((3 : Int)).toNat = 3 from rfl] at hx455_0)
                         replace p455 := eq_true p455
                         replace q455 := eq_true q455
                         have p456 : 0 ≤ (0 : Int) := (by omega)
                         have q456 : 0 < ((rd_L1 t424 x12_2).length : Int) := of_decide_eq_true (by first | (with_reducible assumption) | assumption)
                         obtain ⟨ad456, e456, hx456_0⟩ := Kd.at_int (by repeat (first | (with_reducible exact HR437_0.out) | (with_reducible refine Kd.C_alloc ?_ _) | (with_reducible refine Kd.C_drewN ?_ _) | (with_reducible refine Kd.C_drew ?_) | exact HR437_0.out)) 0 p456 q456
                         obtain rfl : ad439 = ad456 := (by injection e456)
                         have qi456 : (0 < (rd_L1 t424 x12_2).length) = True := eq_true (by omega)
                         (try rw [show ((0 : Int)).toNat = 0 from rfl] at hx456_0)
                         (try rw [Addr.add_zero'] at hx456_0)
                         replace p456 := eq_true p456
                         replace q456 := eq_true q456
                         have p457 : 0 ≤ ((ji66) : Int) := of_decide_eq_true (by first | (with_reducible assumption) | assumption)
                         have q457 : (ji66) < (t424.length : Int) := of_decide_eq_true (by first | (with_reducible assumption) | assumption)
                         obtain ⟨ad457, A457_0, c457_0, e457, hx457_0, hl457_0, hi457_0⟩ := at_L1 (Kd.S_reads' HO_4.out).2.2 (ji66) p457 q457
                         obtain rfl : ad437 = ad457 := (by injection e457)
                         obtain ⟨ce457, hce457, hMe457, hcc457⟩ := Kd.S_get HO_4.out [] (ji66) p457 (by first | exact q457 | exact of_decide_eq_true (by first | (with_reducible assumption) | assumption) | (have e_ := (Kd.S_reads' HO_4.out).1; omega))
                         obtain ⟨ve457_0, rfl, ge457_0⟩ := hMe457
                         have hv457_0 := hcc457 0 _ rfl
                         rw [Nat.add_zero, show ((Kd.slice 3 (Kd.int .i64))).sz = 1 from rfl, Nat.mul_one] at hv457_0
                         replace hv457_0 := Option.some.inj (hv457_0.symm.trans hx457_0)
                         rw [hv457_0] at ge457_0
                         have HL457_0 := zab.mk (show Kd.R (Kd.int .i64) 3 _ _ _ _ (rd_L1 t424 (ji66)) from ge457_0)
                         clear hv457_0 ge457_0
                         clear hcc457 hce457
                         have HR457_0 := zab.mk hi457_0
                         have HC457_0 := zab.mk hl457_0
                         clear hi457_0 hl457_0
                         replace p457 := eq_true p457
                         replace q457 := eq_true q457
                         have p458 : 0 ≤ (0 : Int) := (by omega)
                         have q458 : 0 < ((rd_L1 t424 (ji66)).length : Int) := of_decide_eq_true (by first | (with_reducible assumption) | assumption)
                         obtain ⟨ad458, e458, hx458_0⟩ := Kd.at_int (by repeat (first | (with_reducible exact HR457_0.out) | (with_reducible refine Kd.C_alloc ?_ _) | (with_reducible refine Kd.C_drewN ?_ _) | (with_reducible refine Kd.C_drew ?_) | exact HR457_0.out)) 0 p458 q458
                         cases e458
                         have qi458 : (0 < (rd_L1 t424 (ji66)).length) = True := eq_true (by omega)
                         (try rw [show ((0 : Int)).toNat = 0 from rfl] at hx458_0)
                         (try rw [Addr.add_zero'] at hx458_0)
                         replace p458 := eq_true p458
                         replace q458 := eq_true q458
                         go_wp2
                         repeat (go_quiet (fail); try go_wp2)
                         go_ret
                         exact ⟨by first | rfl | (simp [zam, zal] <;> rfl) | (simp only [← hji66]; first | rfl | (simp [zam, zal] <;> rfl)) | (simp [*, zam, zal] <;> rfl), by repeat (first | (with_reducible first | exact HB.out | apply zac | apply zaa | apply zad) | exact HB.out)⟩
                        ·rw [if_neg c70] at H
                         have c70b0 : decide ((rd (rd_L1 t424 x12_2) 0) < (rd (rd_L1 t424 (ji66)) 0)) = false := decide_eq_false c70
                         clear c70
                         have H' := zab.mk H
                         clear H
                         obtain ⟨Ao72, co72, eo72⟩ := Kd.S_slice HO_4.out
                         subst eo72
                         have p437 : 0 ≤ (x12_2 : Int) := of_decide_eq_true (by first | (with_reducible assumption) | assumption)
                         have q437 : x12_2 < (t424.length : Int) := of_decide_eq_true (by first | (with_reducible assumption) | assumption)
                         obtain ⟨ad437, A437_0, c437_0, e437, hx437_0, hl437_0, hi437_0⟩ := at_L1 (Kd.S_reads' HO_4.out).2.2 x12_2 p437 q437
                         cases e437
                         obtain ⟨ce437, hce437, hMe437, hcc437⟩ := Kd.S_get HO_4.out [] x12_2 p437 (by first | exact q437 | exact of_decide_eq_true (by first | (with_reducible assumption) | assumption) | (have e_ := (Kd.S_reads' HO_4.out).1; omega))
                         obtain ⟨ve437_0, rfl, ge437_0⟩ := hMe437
                         have hv437_0 := hcc437 0 _ rfl
                         rw [Nat.add_zero, show ((Kd.slice 3 (Kd.int .i64))).sz = 1 from rfl, Nat.mul_one] at hv437_0
                         replace hv437_0 := Option.some.inj (hv437_0.symm.trans hx437_0)
                         rw [hv437_0] at ge437_0
                         have HL437_0 := zab.mk (show Kd.R (Kd.int .i64) 3 _ _ _ _ (rd_L1 t424 x12_2) from ge437_0)
                         clear hv437_0 ge437_0
                         clear hcc437 hce437
                         have HR437_0 := zab.mk hi437_0
                         have HC437_0 := zab.mk hl437_0
                         clear hi437_0 hl437_0
                         replace p437 := eq_true p437
                         replace q437 := eq_true q437
                         have p438 : 0 ≤ (0 : Int) := (by omega)
                         have q438 : 0 < (t421.length : Int) := of_decide_eq_true (by first | (with_reducible assumption) | assumption)
                         obtain ⟨ad438, e438, hx438_0⟩ := Kd.at_string (Kd.V_reads' HO_3.out).2.2 0 p438 q438
                         cases e438
                         have qi438 : (0 < t421.length) = True := eq_true (by omega)
                         (try rw [show ((0 : Int)).toNat = 0 from rfl] at hx438_0)
                         (try rw [Addr.add_zero'] at hx438_0)
                         replace p438 := eq_true p438
                         replace q438 := eq_true q438
                         have p439 : 0 ≤ (0 : Int) := (by omega)
                         have q439 : 0 < ((rd_L1 t424 x12_2).length : Int) := of_decide_eq_true (by first | (with_reducible assumption) | assumption)
                         obtain ⟨ad439, e439, hx439_0⟩ := Kd.at_int (by repeat (first | (with_reducible exact HR437_0.out) | (with_reducible refine Kd.C_alloc ?_ _) | (with_reducible refine Kd.C_drewN ?_ _) | (with_reducible refine Kd.C_drew ?_) | exact HR437_0.out)) 0 p439 q439
                         cases e439
                         have qi439 : (0 < (rd_L1 t424 x12_2).length) = True := eq_true (by omega)
                         (try rw [show ((0 : Int)).toNat = 0 from rfl] at hx439_0)
                         (try rw [Addr.add_zero'] at hx439_0)
                         replace p439 := eq_true p439
                         replace q439 := eq_true q439
                         have p450 : 0 ≤ (1 : Int) := (by omega)
                         have q450 : 1 < ((rd_L1 t424 x12_2).length : Int) := of_decide_eq_true (by first | (with_reducible assumption) | assumption)
                         obtain ⟨ad450, e450, hx450_0⟩ := Kd.at_int (by repeat (first | (with_reducible exact HR437_0.out) | (with_reducible refine Kd.C_alloc ?_ _) | (with_reducible refine Kd.C_drewN ?_ _) | (with_reducible refine Kd.C_drew ?_) | exact HR437_0.out)) 1 p450 q450
                         obtain rfl : ad439 = ad450 := (by injection e450)
                         (try simp only [show (1 : Int).toNat = 1 from rfl, Nat.reduceMul, Nat.reduceEqDiff, Go.Addr.add, ↓reduceIte] at hx450_0)
                         have qi450 : (1 < (rd_L1 t424 x12_2).length) = True := eq_true (by omega)
                         (try rw [show ((1 : Int)).toNat = 1 from rfl] at hx450_0)
                         replace p450 := eq_true p450
                         replace q450 := eq_true q450
                         have p451 : 0 ≤ (1 : Int) := (by omega)
                         have q451 : 1 < ((rd_L1 t424 x12_2).length : Int) := of_decide_eq_true (by first | (with_reducible assumption) | assumption)
                         obtain ⟨ad451, e451, hx451_0⟩ := Kd.at_int (by repeat (first | (with_reducible exact HR437_0.out) | (with_reducible refine Kd.C_alloc ?_ _) | (with_reducible refine Kd.C_drewN ?_ _) | (with_reducible refine Kd.C_drew ?_) | exact HR437_0.out)) 1 p451 q451
                         obtain rfl : ad439 = ad451 := (by injection e451)
                         (try simp only [show (1 : Int).toNat = 1 from rfl, Nat.reduceMul, Nat.reduceEqDiff, Go.Addr.add, ↓reduceIte] at hx451_0)
                         have qi451 : (1 < (rd_L1 t424 x12_2).length) = True := eq_true (by omega)
                         (try rw [show ((1 : Int)).toNat = 1 from rfl] at hx451_0)
                         replace p451 := eq_true p451
                         replace q451 := eq_true q451
                         have p452 : 0 ≤ (2 : Int) := (by omega)
                         have q452 : 2 < ((rd_L1 t424 x12_2).length : Int) := of_decide_eq_true (by first | (with_reducible assumption) | assumption)
                         obtain ⟨ad452, e452, hx452_0⟩ := Kd.at_int (by repeat (first | (with_reducible exact HR437_0.out) | (with_reducible refine Kd.C_alloc ?_ _) | (with_reducible refine Kd.C_drewN ?_ _) | (with_reducible refine Kd.C_drew ?_) | exact HR437_0.out)) 2 p452 q452
                         obtain rfl : ad439 = ad452 := (by injection e452)
                         (try simp only [show (2 : Int).toNat = 2 from rfl, Nat.reduceMul, Nat.reduceEqDiff, Go.Addr.add, ↓reduceIte] at hx452_0)
                         have qi452 : (2 < (rd_L1 t424 x12_2).length) = True := eq_true (by omega)
                         (try rw [show ((2 : Int)).toNat = 2 from rfl] at hx452_0)
                         replace p452 := eq_true p452
                         replace q452 := eq_true q452
                         have p453 : 0 ≤ (3 : Int) := (by omega)
                         have q453 : 3 < ((rd_L1 t424 x12_2).length : Int) := of_decide_eq_true (by first | (with_reducible assumption) | assumption)
                         obtain ⟨ad453, e453, hx453_0⟩ := Kd.at_int (by repeat (first | (with_reducible exact HR437_0.out) | (with_reducible refine Kd.C_alloc ?_ _) | (with_reducible refine Kd.C_drewN ?_ _) | (with_reducible refine Kd.C_drew ?_) | exact HR437_0.out)) 3 p453 q453
                         obtain rfl : ad439 = ad453 := (by injection e453)
                         (try simp only [show (3 : Int).toNat = 3 from rfl, Nat.reduceMul, Nat.reduceEqDiff, Go.Addr.add, ↓reduceIte] at hx453_0)
                         have qi453 : (3 < (rd_L1 t424 x12_2).length) = True := eq_true (by omega)
                         (try rw [show ((3 : Int)).toNat = 3 from rfl] at hx453_0)
                         replace p453 := eq_true p453
                         replace q453 := eq_true q453
                         have p454 : 0 ≤ (2 : Int) := (by omega)
                         have q454 : 2 < ((rd_L1 t424 x12_2).length : Int) := of_decide_eq_true (by first | (with_reducible assumption) | assumption)
                         obtain ⟨ad454, e454, hx454_0⟩ := Kd.at_int (by repeat (first | (with_reducible exact HR437_0.out) | (with_reducible refine Kd.C_alloc ?_ _) | (with_reducible refine Kd.C_drewN ?_ _) | (with_reducible refine Kd.C_drew ?_) | exact HR437_0.out)) 2 p454 q454
                         obtain rfl : ad439 = ad454 := (by injection e454)
                         (try simp only [show (2 : Int).toNat = 2 from rfl, Nat.reduceMul, Nat.reduceEqDiff, Go.Addr.add, ↓reduceIte] at hx454_0)
                         have qi454 : (2 < (rd_L1 t424 x12_2).length) = True := eq_true (by omega)
                         (try rw [show ((2 : Int)).toNat = 2 from rfl] at hx454_0)
                         replace p454 := eq_true p454
                         replace q454 := eq_true q454
                         have p455 : 0 ≤ (3 : Int) := (by omega)
                         have q455 : 3 < ((rd_L1 t424 x12_2).length : Int) := of_decide_eq_true (by first | (with_reducible assumption) | assumption)
                         obtain ⟨ad455, e455, hx455_0⟩ := Kd.at_int (by repeat (first | (with_reducible exact HR437_0.out) | (with_reducible refine Kd.C_alloc ?_ _) | (with_reducible refine Kd.C_drewN ?_ _) | (with_reducible refine Kd.C_drew ?_) | exact HR437_0.out)) 3 p455 q455
                         obtain rfl : ad439 = ad455 := (by injection e455)
                         (try simp only [show (3 : Int).toNat = 3 from rfl, Nat.reduceMul, Nat.reduceEqDiff, Go.Addr.add, ↓reduceIte] at hx455_0)
                         have qi455 : (3 < (rd_L1 t424 x12_2).length) = True := eq_true (by omega)
                         (try rw [show ((3 : Int)).toNat = 3 from rfl] at hx455_0)
                         replace p455 := eq_true p455
                         replace q455 := eq_true q455
                         have p456 : 0 ≤ (0 : Int) := (by omega)
                         have q456 : 0 < ((rd_L1 t424 x12_2).length : Int) := of_decide_eq_true (by first | (with_reducible assumption) | assumption)
                         obtain ⟨ad456, e456, hx456_0⟩ := Kd.at_int (by repeat (first | (with_reducible exact HR437_0.out) | (with_reducible refine Kd.C_alloc ?_ _) | (with_reducible refine Kd.C_drewN ?_ _) | (with_reducible refine Kd.C_drew ?_) | exact HR437_0.out)) 0 p456 q456
                         obtain rfl : ad439 = ad456 := (by injection e456)
                         have qi456 : (0 < (rd_L1 t424 x12_2).length) = True := eq_true (by omega)
                         (try rw [show ((0 : Int)).toNat = 0 from rfl] at hx456_0)
                         (try rw [Addr.add_zero'] at hx456_0)
                         replace p456 := eq_true p456
                         replace q456 := eq_true q456
                         have p457 : 0 ≤ ((ji66) : Int) := of_decide_eq_true (by first | (with_reducible assumption) | assumption)
                         have q457 : (ji66) < (t424.length : Int) := of_decide_eq_true (by first | (with_reducible assumption) | assumption)
                         obtain ⟨ad457, A457_0, c457_0, e457, hx457_0, hl457_0, hi457_0⟩ := at_L1 (Kd.S_reads' HO_4.out).2.2 (ji66) p457 q457
                         obtain rfl : ad437 = ad457 := (by injection e457)
                         obtain ⟨ce457, hce457, hMe457, hcc457⟩ := Kd.S_get HO_4.out [] (ji66) p457 (by first | exact q457 | exact of_decide_eq_true (by first | (with_reducible assumption) | assumption) | (have e_ := (Kd.S_reads' HO_4.out).1; omega))
                         obtain ⟨ve457_0, rfl, ge457_0⟩ := hMe457
                         have hv457_0 := hcc457 0 _ rfl
                         rw [Nat.add_zero, show ((Kd.slice 3 (Kd.int .i64))).sz = 1 from rfl, Nat.mul_one] at hv457_0
                         replace hv457_0 := Option.some.inj (hv457_0.symm.trans hx457_0)
                         rw [hv457_0] at ge457_0
                         have HL457_0 := zab.mk (show Kd.R (Kd.int .i64) 3 _ _ _ _ (rd_L1 t424 (ji66)) from ge457_0)
                         clear hv457_0 ge457_0
                         clear hcc457 hce457
                         have HR457_0 := zab.mk hi457_0
                         have HC457_0 := zab.mk hl457_0
                         clear hi457_0 hl457_0
                         replace p457 := eq_true p457
                         replace q457 := eq_true q457
                         have p458 : 0 ≤ (0 : Int) := (by omega)
                         have q458 : 0 < ((rd_L1 t424 (ji66)).length : Int) := of_decide_eq_true (by first | (with_reducible assumption) | assumption)
                         obtain ⟨ad458, e458, hx458_0⟩ := Kd.at_int (by repeat (first | (with_reducible exact HR457_0.out) | (with_reducible refine Kd.C_alloc ?_ _) | (with_reducible refine Kd.C_drewN ?_ _) | (with_reducible refine Kd.C_drew ?_) | exact HR457_0.out)) 0 p458 q458
                         cases e458
                         have qi458 : (0 < (rd_L1 t424 (ji66)).length) = True := eq_true (by omega)
                         (try rw [show ((0 : Int)).toNat = 0 from rfl] at hx458_0)
                         (try rw [Addr.add_zero'] at hx458_0)
                         replace p458 := eq_true p458
                         replace q458 := eq_true q458
                         go_wp2
                         repeat (go_quiet (fail); try go_wp2)
                         go_roundg k2
                         case measure => have := HJ5.out; have := HK2.out; omega
                         case rel => exact ⟨(wrap64 (x11_2 + 1)), (wrap64 (x12_2 + 1)), (by first | rfl | (simp; done) | (simp [*]; done)), (by first | rfl | (simp; done) | (simp [*]; done)), H', ⟨by have := HJ5.out; have := HK2.out; omega⟩, ⟨by (with_reducible repeat (first | apply Kd.V_alloc | apply Kd.V_drewN | apply Kd.V_drew)); exact HO_3.out⟩, ⟨by (with_reducible repeat (first | apply Kd.S_alloc | apply Kd.S_drewN | apply Kd.S_drew)); exact HO_4.out⟩, ⟨by repeat (first | (with_reducible first | exact HB.out | apply zac | apply zaa | apply zad) | exact HB.out)⟩⟩
                       ·rw [if_neg c69] at H
                        exact absurd H (by simp)
                      ·rw [if_neg c68] at H
                       exact absurd H (by simp)
                     ·rw [if_neg c67] at H
                      exact absurd H (by simp)
                    ·rw [if_neg c65] at H
                     have c65b0 : decide (0 < x12_2) = false := decide_eq_false c65
                     clear c65
                     have H' := zab.mk H
                     clear H
                     obtain ⟨Ao73, co73, eo73⟩ := Kd.S_slice HO_4.out
                     subst eo73
                     have p437 : 0 ≤ (x12_2 : Int) := of_decide_eq_true (by first | (with_reducible assumption) | assumption)
                     have q437 : x12_2 < (t424.length : Int) := of_decide_eq_true (by first | (with_reducible assumption) | assumption)
                     obtain ⟨ad437, A437_0, c437_0, e437, hx437_0, hl437_0, hi437_0⟩ := at_L1 (Kd.S_reads' HO_4.out).2.2 x12_2 p437 q437
                     cases e437
                     obtain ⟨ce437, hce437, hMe437, hcc437⟩ := Kd.S_get HO_4.out [] x12_2 p437 (by first | exact q437 | exact of_decide_eq_true (by first | (with_reducible assumption) | assumption) | (have e_ := (Kd.S_reads' HO_4.out).1; omega))
                     obtain ⟨ve437_0, rfl, ge437_0⟩ := hMe437
                     have hv437_0 := hcc437 0 _ rfl
                     rw [Nat.add_zero, show ((Kd.slice 3 (Kd.int .i64))).sz = 1 from rfl, Nat.mul_one] at hv437_0
                     replace hv437_0 := Option.some.inj (hv437_0.symm.trans hx437_0)
                     rw [hv437_0] at ge437_0
                     have HL437_0 := zab.mk (show Kd.R (Kd.int .i64) 3 _ _ _ _ (rd_L1 t424 x12_2) from ge437_0)
                     clear hv437_0 ge437_0
                     clear hcc437 hce437
                     have HR437_0 := zab.mk hi437_0
                     have HC437_0 := zab.mk hl437_0
                     clear hi437_0 hl437_0
                     replace p437 := eq_true p437
                     replace q437 := eq_true q437
                     have p438 : 0 ≤ (0 : Int) := (by omega)
                     have q438 : 0 < (t421.length : Int) := of_decide_eq_true (by first | (with_reducible assumption) | assumption)
                     obtain ⟨ad438, e438, hx438_0⟩ := Kd.at_string (Kd.V_reads' HO_3.out).2.2 0 p438 q438
                     cases e438
                     have qi438 : (0 < t421.length) = True := eq_true (by omega)
                     (try rw [show ((0 : Int)).toNat = 0 from rfl] at hx438_0)
                     (try rw [Addr.add_zero'] at hx438_0)
                     replace p438 := eq_true p438
                     replace q438 := eq_true q438
                     have p439 : 0 ≤ (0 : Int) := (by omega)
                     have q439 : 0 < ((rd_L1 t424 x12_2).length : Int) := of_decide_eq_true (by first | (with_reducible assumption) | assumption)
                     obtain ⟨ad439, e439, hx439_0⟩ := Kd.at_int (by repeat (first | (with_reducible exact HR437_0.out) | (with_reducible refine Kd.C_alloc ?_ _) | (with_reducible refine Kd.C_drewN ?_ _) | (with_reducible refine Kd.C_drew ?_) | exact HR437_0.out)) 0 p439 q439
                     cases e439
                     have qi439 : (0 < (rd_L1 t424 x12_2).length) = True := eq_true (by omega)
                     (try rw [show ((0 : Int)).toNat = 0 from rfl] at hx439_0)
                     (try rw [Addr.add_zero'] at hx439_0)
                     replace p439 := eq_true p439
                     replace q439 := eq_true q439
                     have p450 : 0 ≤ (1 : Int) := (by omega)
                     have q450 : 1 < ((rd_L1 t424 x12_2).length : Int) := of_decide_eq_true (by first | (with_reducible assumption) | assumption)
                     obtain ⟨ad450, e450, hx450_0⟩ := Kd.at_int (by repeat (first | (with_reducible exact HR437_0.out) | (with_reducible refine Kd.C_alloc ?_ _) | (with_reducible refine Kd.C_drewN ?_ _) | (with_reducible refine Kd.C_drew ?_) | exact HR437_0.out)) 1 p450 q450
                     obtain rfl : ad439 = ad450 := (by injection e450)
                     (try simp only [show (1 : Int).toNat = 1 from rfl, Nat.reduceMul, Nat.reduceEqDiff, Go.Addr.add, ↓reduceIte] at hx450_0)
                     have qi450 : (1 < (rd_L1 t424 x12_2).length) = True := eq_true (by omega)
                     (try rw [show ((1 : Int)).toNat = 1 from rfl] at hx450_0)
                     replace p450 := eq_true p450
                     replace q450 := eq_true q450
                     have p451 : 0 ≤ (1 : Int) := (by omega)
                     have q451 : 1 < ((rd_L1 t424 x12_2).length : Int) := of_decide_eq_true (by first | (with_reducible assumption) | assumption)
                     obtain ⟨ad451, e451, hx451_0⟩ := Kd.at_int (by repeat (first | (with_reducible exact HR437_0.out) | (with_reducible refine Kd.C_alloc ?_ _) | (with_reducible refine Kd.C_drewN ?_ _) | (with_reducible refine Kd.C_drew ?_) | exact HR437_0.out)) 1 p451 q451
                     obtain rfl : ad439 = ad451 := (by injection e451)
                     (try simp only [show (1 : Int).toNat = 1 from rfl, Nat.reduceMul, Nat.reduceEqDiff, Go.Addr.add, ↓reduceIte] at hx451_0)
                     have qi451 : (1 < (rd_L1 t424 x12_2).length) = True := eq_true (by omega)
                     (try rw [show ((1 : Int)).toNat = 1 from rfl] at hx451_0)
                     replace p451 := eq_true p451
                     replace q451 := eq_true q451
                     have p452 : 0 ≤ (2 : Int) := (by omega)
                     have q452 : 2 < ((rd_L1 t424 x12_2).length : Int) := of_decide_eq_true (by first | (with_reducible assumption) | assumption)
                     obtain ⟨ad452, e452, hx452_0⟩ := Kd.at_int (by repeat (first | (with_reducible exact HR437_0.out) | (with_reducible refine Kd.C_alloc ?_ _) | (with_reducible refine Kd.C_drewN ?_ _) | (with_reducible refine Kd.C_drew ?_) | exact HR437_0.out)) 2 p452 q452
                     obtain rfl : ad439 = ad452 := (by injection e452)
                     (try simp only [show (2 : Int).toNat = 2 from rfl, Nat.reduceMul, Nat.reduceEqDiff, Go.Addr.add, ↓reduceIte] at hx452_0)
                     have qi452 : (2 < (rd_L1 t424 x12_2).length) = True := eq_true (by omega)
                     (try rw [show ((2 : Int)).toNat = 2 from rfl] at hx452_0)
                     replace p452 := eq_true p452
                     replace q452 := eq_true q452
                     have p453 : 0 ≤ (3 : Int) := (by omega)
                     have q453 : 3 < ((rd_L1 t424 x12_2).length : Int) := of_decide_eq_true (by first | (with_reducible assumption) | assumption)
                     obtain ⟨ad453, e453, hx453_0⟩ := Kd.at_int (by repeat (first | (with_reducible exact HR437_0.out) | (with_reducible refine Kd.C_alloc ?_ _) | (with_reducible refine Kd.C_drewN ?_ _) | (with_reducible refine Kd.C_drew ?_) | exact HR437_0.out)) 3 p453 q453
                     obtain rfl : ad439 = ad453 := (by injection e453)
                     (try simp only [show (3 : Int).toNat = 3 from rfl, Nat.reduceMul, Nat.reduceEqDiff, Go.Addr.add, ↓reduceIte] at hx453_0)
                     have qi453 : (3 < (rd_L1 t424 x12_2).length) = True := eq_true (by omega)
                     (try rw [show ((3 : Int)).toNat = 3 from rfl] at hx453_0)
                     replace p453 := eq_true p453
                     replace q453 := eq_true q453
                     have p454 : 0 ≤ (2 : Int) := (by omega)
                     have q454 : 2 < ((rd_L1 t424 x12_2).length : Int) := of_decide_eq_true (by first | (with_reducible assumption) | assumption)
                     obtain ⟨ad454, e454, hx454_0⟩ := Kd.at_int (by repeat (first | (with_reducible exact HR437_0.out) | (with_reducible refine Kd.C_alloc ?_ _) | (with_reducible refine Kd.C_drewN ?_ _) | (with_reducible refine Kd.C_drew ?_) | exact HR437_0.out)) 2 p454 q454
                     obtain rfl : ad439 = ad454 := (by injection e454)
                     (try simp only [show (2 : Int).toNat = 2 from rfl, Nat.reduceMul, Nat.reduceEqDiff, Go.Addr.add, ↓reduceIte] at hx454_0)
                     have qi454 : (2 < (rd_L1 t424 x12_2).length) = True := eq_true (by omega)
                     (try rw [show ((2 : Int)).toNat = 2 from rfl] at hx454_0)
                     replace p454 := eq_true p454
                     replace q454 := eq_true q454
                     have p455 : 0 ≤ (3 : Int) := (by omega)
                     have q455 : 3 < ((rd_L1 t424 x12_2).length : Int) := of_decide_eq_true (by first | (with_reducible assumption) | assumption)
                     obtain ⟨ad455, e455, hx455_0⟩ := Kd.at_int (by repeat (first | (with_reducible exact HR437_0.out) | (with_reducible refine Kd.C_alloc ?_ _) | (with_reducible refine Kd.C_drewN ?_ _) | (with_reducible refine Kd.C_drew ?_) | exact HR437_0.out)) 3 p455 q455
                     obtain rfl : ad439 = ad455 := (by injection e455)
                     (try simp only [show (3 : Int).toNat = 3 from rfl, Nat.reduceMul, Nat.reduceEqDiff, Go.Addr.add, ↓reduceIte] at hx455_0)
                     have qi455 : (3 < (rd_L1 t424 x12_2).length) = True := eq_true (by omega)
                     (try rw [show ((3 : Int)).toNat = 3 from rfl] at hx455_0)
                     replace p455 := eq_true p455
                     replace q455 := eq_true q455
                     go_wp2
                     repeat (go_quiet (fail); try go_wp2)
                     go_roundg k2
                     case measure => have := HJ5.out; have := HK2.out; omega
                     case rel => exact ⟨(wrap64 (x11_2 + 1)), (wrap64 (x12_2 + 1)), (by first | rfl | (simp; done) | (simp [*]; done)), (by first | rfl | (simp; done) | (simp [*]; done)), H', ⟨by have := HJ5.out; have := HK2.out; omega⟩, ⟨by (with_reducible repeat (first | apply Kd.V_alloc | apply Kd.V_drewN | apply Kd.V_drew)); exact HO_3.out⟩, ⟨by (with_reducible repeat (first | apply Kd.S_alloc | apply Kd.S_drewN | apply Kd.S_drew)); exact HO_4.out⟩, ⟨by repeat (first | (with_reducible first | exact HB.out | apply zac | apply zaa | apply zad) | exact HB.out)⟩⟩
                 ·rw [if_neg c60] at H
                  exact absurd H (by simp)
               ·rw [if_neg c57] at H
                exact absurd H (by simp)
            ·rw [if_neg c52] at H
             exact absurd H (by simp)
          ·rw [if_neg c28] at H
           exact absurd H (by simp)
         ·rw [if_neg c27] at H
          exact absurd H (by simp)
        ·rw [if_neg c26] at H
         exact absurd H (by simp)
       ·rw [if_neg c25] at H
        have c25b0 : decide (x12_2 < (t424.length : Int)) = false := decide_eq_false c25
        clear c25
        by_cases c74 : t436 = true
        ·subst c74
         have H1 : (if (t424.length : Int) = (wrap64 (t434 + t435)) then (some (x11_2 == t434)) else (some false)) = some r := by rw [if_pos rfl] at H; exact H
         clear H
         have H := H1
         clear H1
         by_cases c75 : (t424.length : Int) = (wrap64 (t434 + t435))
         ·rw [if_pos c75] at H
          have c75b0 : ((t424.length : Int) == (wrap64 (t434 + t435))) = true := beq_iff_eq.mpr c75
          have c75b1 : ((t424.length : Int) != (wrap64 (t434 + t435))) = false := bne_eq_false_iff_eq.mpr c75
          clear c75
          obtain rfl := Option.some.inj H
          obtain ⟨Ao76, co76, eo76⟩ := Kd.S_slice HO_4.out
          subst eo76
          go_wp2
          repeat (go_quiet (fail); try go_wp2)
          go_ret
          exact ⟨by first | rfl | (simp [zam, zal] <;> rfl) | (simp [*, zam, zal] <;> rfl), by repeat (first | (with_reducible first | exact HB.out | apply zac | apply zaa | apply zad) | exact HB.out)⟩
         ·rw [if_neg c75] at H
          have c75b0 : ((t424.length : Int) == (wrap64 (t434 + t435))) = false := beq_eq_false_iff_ne.mpr c75
          have c75b1 : ((t424.length : Int) != (wrap64 (t434 + t435))) = true := bne_iff_ne.mpr c75
          obtain rfl := Option.some.inj H
          obtain ⟨Ao77, co77, eo77⟩ := Kd.S_slice HO_4.out
          subst eo77
          go_wp2
          repeat (go_quiet (fail); try go_wp2)
          go_ret
          exact ⟨by first | rfl | (simp [zam, zal] <;> rfl) | (simp [*, zam, zal] <;> rfl), by repeat (first | (with_reducible first | exact HB.out | apply zac | apply zaa | apply zad) | exact HB.out)⟩
        ·replace c74 := Bool.eq_false_iff.mpr c74
         subst c74
         have H1 : (some false) = some r := by rw [if_neg (show ¬ (false = true) by decide)] at H; exact H
         clear H
         have H := H1
         clear H1
         obtain rfl := Option.some.inj H
         obtain ⟨Ao78, co78, eo78⟩ := Kd.S_slice HO_4.out
         subst eo78
         go_wp2
         repeat (go_quiet (fail); try go_wp2)
         go_ret
         exact ⟨by first | rfl | (simp [zam, zal] <;> rfl) | (simp [*, zam, zal] <;> rfl), by repeat (first | (with_reducible first | exact HB.out | apply zac | apply zaa | apply zad) | exact HB.out)⟩
def laws_FnWallList.Pure : Prop := ∀ (l0 : List Int), l0.length ≤ maxLen → l0.length * 1 ≤ 140737488351232 → (∀ x ∈ l0, (Lit.int .u8 x).wf = true) → ∃ k, laws_FnWallList.f k l0 = some true
theorem laws_FnWallList.walk (P : laws_FnWallList.Pure) (a0 : Option Addr) (len0 cap0 : Nat) (z0 : List Int) (w : World) (w0 : (a0 = none ∧ len0 = 0 ∧ cap0 = 0 ∧ z0 = []) ∨ ∃ x, a0 = some x ∧ len0 ≤ cap0 ∧ cap0 ≤ maxLen ∧ z0.length = cap0 ∧ (∀ i, i < z0.length → w.cell? (x.add i) = some (.int .u8 (z0.getD i 0))) ∧ ∀ n ∈ z0, (Lit.int .u8 n).wf = true) (y0 : len0 * 1 ≤ 140737488351232) :
  Calls Try.prog 5 #[.slice a0 len0 cap0] w fun e w' => e = .returned (.bool true) ∧ Below w.heap.size w w' := by
 obtain ⟨l0, rfl, hr0, hm0, hw0, hc0⟩ := zbz.ofRowC w0
 obtain ⟨k, h⟩ := P l0 hm0 y0 hw0
 refine (laws_FnWallList.calls k _ _ l0 true w (Kd.C_of_reads (d := (0 : Int)) (h1 := fun _ => rfl) hr0) hc0 h).mono ?_
 rintro e w' ⟨rfl, hd⟩
 exact ⟨rfl, hd⟩
end Go.Proofs.Ytaepgogafkmooaa.VA
namespace Go.Proofs.Ytaepgogafkmooaa.Hd
open Go.RowKit Go.PW.PrintWords Go.PW.PrintLast Go.PW.PrintMore Go.Proofs.Ytaepgogafkmooaa.PB
def givenB (p : List ByteArray) (a : Int) : Bool := match zcp p with
 | none => false
 | some (_, rs) => hasB rs a
theorem l1Given_ev (p : List ByteArray) (a : Int) (hp : smallP p) : Evs (fun k => spec_l1Given.f k p a) (givenB p a) := by
 have h1 := PlanIn_ev p hp
 rcases planB_cases p with ⟨e1, f1⟩ | ⟨e1, cs, rs, f1⟩
 ·rw [e1] at h1
  have : givenB p a = false := by unfold givenB; rw [f1]
  rw [this]
  refine Evs.bind h1 ?_
  refine Evs.congr (h := fun _ => some false) (fun k => ?_) (Evs.const _)
  rw [if_neg (by simp)]
 ·rw [e1] at h1
  have F := floor_facts f1
  have hg : givenB p a = hasB rs a := by unfold givenB; rw [f1]
  have hR := l1Rooms_ev p _ (gridOk_small F.canon.grid)
  rw [F.canon.max, ← F.rooms] at hR
  have h9 := F.ok.many
  rw [hg]
  refine Evs.bind h1 ?_
  refine Evs.congr (h := fun k => (spec_l1Rooms.f k p).bind fun t167 => ((spec_l6In.f a 0 (wrap64 (t167 - 1))).bind fun t168 => (some t168))) (fun k => ?_) (Evs.bind hR ?_)
  ·rw [if_pos rfl]
  ·refine Evs.congr (h := fun _ => some (hasB rs a)) (fun k => ?_) (Evs.const _)
   rw [zar (by omega) (by omega), l6In_f]
   simp only [Option.bind_some]
   unfold hasB
   congr 2
   congr 1
   exact propext ⟨fun h => by omega, fun h => by omega⟩
theorem floor_sum {p : List ByteArray} {cs : List (List Int)} {rs : List Rc} (h : zcp p = some (cs, rs)) : zbv rs = (p.length : Int) * (zap (zao p) : Int) := by
 have F := floor_facts h
 rw [floorF_grid F.canon.grid] at h
 split at h
 ·rename_i hc
  rw [F.rooms]
  exact hc.2.1
 ·cases h
theorem count_conv (rows : List (List Int)) (wi : Nat) (x : Int) (b : Rc) : ∀ n, (∀ m, m < n → zco rows wi m = x → inBox b wi m) → zci rows wi x n = countB b wi n → ∀ m, m < n → inBox b wi m → zco rows wi m = x
 | 0, _, _, m, hm, _ => by omega
 | n + 1, h, he, m, hm, hb => by
  have hle := countN_le_B rows wi x b n (fun m hm => h m (by omega))
  simp only [zci, countB] at he
  by_cases hx : zco rows wi n = x
  ·rw [if_pos hx, if_pos (h n (by omega) hx)] at he
   rcases Nat.lt_or_eq_of_le (Nat.lt_succ_iff.1 hm) with h1 | h1
   ·exact count_conv rows wi x b n (fun m hm => h m (by omega)) (by omega) m h1 hb
   ·subst h1; exact hx
  ·rw [if_neg hx] at he
   by_cases hbn : inBox b wi n
   ·rw [if_pos hbn] at he; omega
   ·rw [if_neg hbn] at he
    rcases Nat.lt_or_eq_of_le (Nat.lt_succ_iff.1 hm) with h1 | h1
    ·exact count_conv rows wi x b n (fun m hm => h m (by omega)) he m h1 hb
    ·subst h1; exact absurd hb hbn
theorem room_cells {p : List ByteArray} {cs : List (List Int)} {rs : List Rc} (h : zcp p = some (cs, rs)) (i : Nat) (hi : i < rs.length) (r c : Nat) (hr : r < cs.length) (hc : c < zap cs) :
  zbd cs r c = (i : Int) ↔ ((rs.getD i zcg).f0 ≤ r ∧ (r : Int) < (rs.getD i zcg).f0 + (rs.getD i zcg).f2 ∧ (rs.getD i zcg).f1 ≤ c ∧ (c : Int) < (rs.getD i zcg).f1 + (rs.getD i zcg).f3) := by
 have F := floor_facts h
 have hsum := floor_sum h
 have hrs := F.rooms
 have hfull := full_iff F.canon
 rw [← hrs, decide_eq_true hsum, List.all_eq_true] at hfull
 have hf := of_decide_eq_true (hfull i (List.mem_range.2 hi))
 rw [← hrs] at hf
 have hs := F.canon.shape
 obtain ⟨x, hx, hb, hbd⟩ := rooms_box hs i (by rw [← hrs]; exact hi)
 rw [zbm, ← hrs] at hb hbd
 have hiff : ∀ m, m < p.length * zap (zao p) → (zco (zao p) (zap (zao p)) m = (i : Int) ↔ zbd (zao p) (m / zap (zao p)) (m % zap (zao p)) = x) := fun m hm => by
  rw [F.canon.cell m hm]
  exact idx_iff (ordAll_nodup _) hx (cell_mem hs m (by rw [zbm]; exact hm))
 have hin : ∀ m, m < p.length * zap (zao p) → zco (zao p) (zap (zao p)) m = (i : Int) → inBox (rs.getD i zcg) (zap (zao p)) m := fun m hm hv => hb.ins m hm ((hiff m hm).1 hv)
 have hcb := countB_all (rs.getD i zcg) p.length (zap (zao p)) hbd
 have hconv := count_conv _ _ _ _ _ hin (hf.trans hcb.symm)
 rw [F.wide] at hin hconv
 have hm : r * zap cs + c < p.length * zap cs := by
  rw [F.len]
  have : (r + 1) * zap cs ≤ cs.length * zap cs := Nat.mul_le_mul_right _ hr
  rw [Nat.succ_mul] at this
  omega
 obtain ⟨d1, d2⟩ := divmod_of (r := r) hc
 have hcell : zco (zao p) (zap cs) (r * zap cs + c) = zbd cs r c := by
  unfold zco
  rw [d1, d2, F.nums, valAt_map F.ok.rect _ hr hc]
  omega
 have hib : inBox (rs.getD i zcg) (zap cs) (r * zap cs + c) ↔ ((rs.getD i zcg).f0 ≤ r ∧ (r : Int) < (rs.getD i zcg).f0 + (rs.getD i zcg).f2 ∧ (rs.getD i zcg).f1 ≤ c ∧ (c : Int) < (rs.getD i zcg).f1 + (rs.getD i zcg).f3) := by unfold inBox; rw [d1, d2]
 rw [← hcell, ← hib]
 exact ⟨hin _ hm, hconv _ hm⟩
structure Lil (p : List ByteArray) : Prop where
 high : p.length ≤ 100
 row : ∀ s ∈ p, s.size ≤ 100
theorem Lil.small {p : List ByteArray} (h : Lil p) : smallP p := ⟨by have := h.high; omega, fun s hs => by have := h.row s hs; omega⟩
theorem Mid.lil {p : List ByteArray} {wi : Nat} (h : Mid p wi) : Lil p := ⟨h.high, fun s hs => by rw [h.row s hs]; exact h.wide⟩
theorem bt_range (s : ByteArray) (j : Nat) (hj : j < s.size) : 0 ≤ bt s (j : Int) ∧ bt s (j : Int) ≤ 255 := by
 obtain ⟨x, hx⟩ : ∃ x, (bytesOf s)[j]? = some x := ⟨_, List.getElem?_eq_getElem (by rw [zbf]; omega)⟩
 have hr := bytesOf_range s x (List.mem_of_getElem? hx)
 rw [← bt_get hx] at hr
 exact hr
theorem roomsA_l1 (p : List ByteArray) (h : Lil p) (i : Nat) (s : ByteArray) (hs : p[i]? = some s) (hnext : ∀ v, 0 ≤ v → v ≤ 255 → ∃ r, 0 ≤ r ∧ r ≤ 255 ∧ Evs (fun k => spec_l1Rooms.l0 k p v ((i + 1 : Nat) : Int)) r) :
  ∀ m j v, j + m = s.size → 0 ≤ v → v ≤ 255 → ∃ r, 0 ≤ r ∧ r ≤ 255 ∧ Evs (fun k => spec_l1Rooms.l1 k p v (i : Int) (j : Int)) r := by
 have h6 := h.high
 have w6 := h.row s (List.mem_of_getElem? hs)
 have hi := (List.getElem?_eq_some_iff.1 hs).1
 intro m
 induction m with
 | zero =>
  intro j v hj v0 v1
  obtain ⟨r, r0, r1, hr⟩ := hnext v v0 v1
  refine ⟨r, r0, r1, Evs.step (fun k => ?_) hr⟩
  conv => lhs; unfold spec_l1Rooms.l1
  rw [if_pos (by omega), if_pos (by omega), zck hs, if_neg (by omega), zbc (by omega)]
 | succ m ih =>
  intro j v hj v0 v1
  have hb := bt_range s j (by omega)
  obtain ⟨r, r0, r1, hr⟩ := ih (j + 1) (max v (bt s (j : Int) - 97 + 1)) (by omega) (by omega) (by omega)
  refine ⟨r, r0, r1, Evs.step (fun k => ?_) hr⟩
  conv => lhs; unfold spec_l1Rooms.l1
  rw [if_pos (by omega), if_pos (by omega), zck hs, if_pos (by omega), if_pos (by omega), zar (x := bt s (j : Int)) (by omega) (by omega), zar (x := bt s (j : Int) - 97) (by omega) (by omega), zar (x := bt s (j : Int) - 97 + 1) (by omega) (by omega), zbc (by omega), mx_max]
theorem roomsA_l0 (p : List ByteArray) (h : Lil p) : ∀ m i v, i + m = p.length → 0 ≤ v → v ≤ 255 → ∃ r, 0 ≤ r ∧ r ≤ 255 ∧ Evs (fun k => spec_l1Rooms.l0 k p v (i : Int)) r := by
 have h6 := h.high
 intro m
 induction m with
 | zero =>
  intro i v hi v0 v1
  refine ⟨v, v0, v1, Evs.step (h := fun _ => some v) (fun k => ?_) (Evs.const _)⟩
  conv => lhs; unfold spec_l1Rooms.l0
  rw [if_neg (by omega)]
 | succ m ih =>
  intro i v hi v0 v1
  obtain ⟨s, hs⟩ : ∃ s, p[i]? = some s := ⟨_, List.getElem?_eq_getElem (by omega)⟩
  obtain ⟨r, r0, r1, hr⟩ := roomsA_l1 p h i s hs (fun v v0 v1 => ih (i + 1) v (by omega) v0 v1) s.size 0 v (by omega) v0 v1
  refine ⟨r, r0, r1, Evs.step (fun k => ?_) hr⟩
  conv => lhs; unfold spec_l1Rooms.l0
  rw [if_pos (by omega)]
  rfl
theorem l1Rooms_any (p : List ByteArray) (h : Lil p) : ∃ r, 0 ≤ r ∧ r ≤ 255 ∧ Evs (fun k => spec_l1Rooms.f k p) r := roomsA_l0 p h p.length 0 0 (by omega) (by omega) (by omega)
theorem bytesOf_putS (s : ByteArray) (l n : Nat) (c : Int) (h0 : 0 ≤ c) (h1 : c ≤ 255) : bytesOf (putS s l n c) = putN (bytesOf s) l n c := by
 unfold putS
 refine bytesOf_strOfNums _ fun x hx => ?_
 unfold putN at hx
 obtain ⟨i, hi, e⟩ := List.mem_iff_getElem.1 hx
 rw [List.getElem_mapIdx] at e
 subst e
 split
 ·exact ⟨h0, h1⟩
 ·exact bytesOf_range s _ (List.getElem_mem _)
def putB (t l h m : Nat) (r c : Nat) : Prop := (t ≤ r ∧ r < t + h) ∧ (l ≤ c ∧ c < l + m)
instance (t l h m r c : Nat) : Decidable (putB t l h m r c) := by unfold putB; exact inferInstance
theorem numsOf_put {p : List ByteArray} {wi : Nat} (hs : Small p wi) (t l h m : Nat) (x : Int) (h0 : 0 ≤ x) (h1 : x ≤ 255) : zao (putR p t h l m x) = zbn p.length wi (fun r c => if putB t l h m r c then x else zbd (zao p) r c) := by
 apply List.ext_getElem?
 intro r
 by_cases hr : r < p.length
 ·rw [gridOf_get hr]
  unfold zao putR
  rw [List.getElem?_map, List.getElem?_mapIdx, List.getElem?_eq_getElem hr]
  simp only [Option.map_some]
  congr 1
  have hsz := hs.row _ (List.getElem_mem hr)
  have hrow : ∀ c, c < wi → (bytesOf p[r])[c]? = some (zbd (zao p) r c) := fun c hc => by
   obtain ⟨row, e1, e2⟩ := valAt_get hs.rect (by rw [zbm]; exact hr) hc
   unfold zao at e1
   rw [List.getElem?_map, List.getElem?_eq_getElem hr] at e1
   have e1 := Option.some.inj e1
   rw [e1]
   exact e2
  apply List.ext_getElem?
  intro c
  by_cases hc : c < wi
  ·rw [List.getElem?_map, List.getElem?_range hc]
   simp only [Option.map_some]
   by_cases ht : t ≤ r ∧ r < t + h
   ·rw [if_pos ht, bytesOf_putS _ _ _ _ h0 h1]
    unfold putN
    rw [List.getElem?_mapIdx, hrow c hc]
    simp only [Option.map_some]
    congr 1
    by_cases hl : l ≤ c ∧ c < l + m
    ·rw [if_pos hl, if_pos ⟨ht, hl⟩]
    ·rw [if_neg hl, if_neg (fun z => hl z.2)]; rfl
   ·rw [if_neg ht, if_neg (fun z => ht z.1)]
    exact hrow c hc
  ·rw [List.getElem?_eq_none (by
    split
    ·rw [bytesOf_putS _ _ _ _ h0 h1, putN_length, zbf]; omega
    ·rw [zbf]; omega), List.getElem?_eq_none (by simp; omega)]
 ·rw [List.getElem?_eq_none (by simp [zao, putR]; omega), List.getElem?_eq_none (by rw [zbp]; omega)]
theorem put_f {p : List ByteArray} {wi : Nat} (hs : Small p wi) (t l h m x : Int) (t0 : 0 ≤ t) (l0 : 0 ≤ l) (h0 : 0 ≤ h) (m0 : 0 ≤ m) (th : t + h ≤ p.length) (lm : l + m ≤ wi) (x0 : 0 ≤ x) (x1 : x ≤ 255) : spec_l1Put.f p t l h m x = some (putR p t.toNat h.toNat l.toNat m.toNat x) := by
 have hh := hs.high
 have hw := hs.wide
 have hall : (p.all fun s => decide (l + m ≤ s.size) && decide (s.size ≤ 1048576)) = true := by
  rw [List.all_eq_true]
  intro s hss
  rw [hs.row s hss, decide_eq_true lm, decide_eq_true (show wi ≤ 1048576 by omega)]
  rfl
 unfold spec_l1Put.f
 rw [if_pos]
 unfold putOk
 rw [hall, decide_eq_true t0, decide_eq_true l0, decide_eq_true h0, decide_eq_true m0, decide_eq_true x0, decide_eq_true x1, decide_eq_true (show p.length ≤ 1048576 by omega), decide_eq_true th, decide_eq_true (show l ≤ 1048576 by omega), decide_eq_true (show m ≤ 1048576 by omega)]
 rfl
theorem small_put {p : List ByteArray} {wi : Nat} (hs : Small p wi) (t h l m : Nat) (x : Int) : smallP (putR p t h l m x) := by
 have hh := hs.high
 have hw := hs.wide
 refine ⟨by rw [putR_length]; omega, fun s hss => ?_⟩
 unfold putR at hss
 obtain ⟨i, hi, e⟩ := List.mem_iff_getElem.1 hss
 rw [List.length_mapIdx] at hi
 rw [List.getElem_mapIdx] at e
 have hr := hs.row _ (List.getElem_mem hi)
 subst e
 split
 ·have hl := zbf p[i]
  show (List.map _ (putN (bytesOf p[i]) l m x)).toArray.size ≤ _
  simp [putN_length]
  omega
 ·rw [hr]; omega
theorem put_done {p : List ByteArray} {cs : List (List Int)} {rs : List Rc} (F : PlanFacts p cs rs) (t h l m : Nat) (x : Int) (x0 : 97 ≤ x) (x1 : x ≤ 122) (f : Int → Int) (hf : ∀ S, InjOn f S) (g : Nat → Nat → Int) (hg : ∀ r c, r < cs.length → c < zap cs → f (g r c) = if putB t l h m r c then x else 97 + zbd cs r c) : doneF (putR p t h l m x) = planF (zbn cs.length (zap cs) g) := by
 have hsm := gridOk_small F.canon.grid
 rw [F.wide] at hsm
 have hn := numsOf_put hsm t l h m x (by omega) (by omega)
 have hv : zao (putR p t h l m x) = mapG f (zbn cs.length (zap cs) g) := by
  rw [hn, mapG_gridOf, F.len]
  refine gridOf_congr fun r c hr hc => ?_
  rw [hg r c hr hc, F.nums, valAt_map F.ok.rect _ hr hc]
 have hok : (putR p t h l m x).all okText = true := by
  rw [List.all_eq_true]
  intro s hs
  refine okText_of fun y hy => ?_
  have hm : bytesOf s ∈ zao (putR p t h l m x) := List.mem_map.2 ⟨s, hs, rfl⟩
  rw [hn, F.len] at hm
  unfold zbn at hm
  obtain ⟨i, hi, e⟩ := List.mem_map.1 hm
  rw [← e] at hy
  obtain ⟨j, hj, rfl⟩ := List.mem_map.1 hy
  have hi := List.mem_range.1 hi
  have hj := List.mem_range.1 hj
  have h1 := valAt_range F.ok i j hi hj
  have h2 := F.ok.many
  dsimp only
  rw [F.nums, valAt_map F.ok.rect _ hi hj]
  split <;> omega
 unfold doneF
 rw [if_pos hok, hv]
 exact plan_map (hf _)
def isH (letter : ByteArray) : Bool := letter.toList == [104]
def isV (letter : ByteArray) : Bool := letter.toList == [118]
theorem isHV {letter : ByteArray} (h : isH letter = true) : isV letter = false := by
 unfold isH at h
 unfold isV
 rw [beq_iff_eq] at h
 rw [h]
 rfl
def behindB (b : Rc) (letter : ByteArray) (k : Int) (r c : Nat) : Bool := (isH letter && decide (b.f0 + k ≤ r)) || (isV letter && decide (b.f1 + k ≤ c))
def splitG (cs : List (List Int)) (rs : List Rc) (room : Int) (letter : ByteArray) (k : Int) (r c : Nat) : Int :=
 if zbd cs r c = room ∧ behindB (rs.getD room.toNat zcg) letter k r c = true then rs.length else zbd cs r c
def splitF (p : List ByteArray) (room : Int) (letter : ByteArray) (k : Int) : List ByteArray × Bool := match zcp p with
 | none => ([], false)
 | some (cs, rs) =>
  if hasB rs room && (isH letter || isV letter) then
   if 1 ≤ k ∧ k < (if isH letter then (rs.getD room.toNat zcg).f2 else (rs.getD room.toNat zcg).f3) then planF (zbn cs.length (zap cs) (splitG cs rs room letter k)) else ([], false)
  else ([], false)
end Go.Proofs.Ytaepgogafkmooaa.Hd
namespace Go.Proofs.Ytaepgogafkmooaa.Hd
open Go.RowKit Go.PW.PrintWords Go.PW.PrintLast Go.PW.PrintMore Go.Proofs.Ytaepgogafkmooaa.PB Go.Proofs.Ytaepgogafkmooaa.SM
theorem isH_iff (t : ByteArray) : isH t = true ↔ t.toList = ([104] : List UInt8) := by unfold isH; rw [beq_iff_eq]
theorem isV_iff (t : ByteArray) : isV t = true ↔ t.toList = ([118] : List UInt8) := by unfold isV; rw [beq_iff_eq]
def newName (n : Nat) (x : Int) : Int := if x = n then 122 else if x = 25 then 97 + n else 97 + x
theorem newName_inj (n : Nat) (S : Int → Prop) : InjOn (newName n) S := by
 intro a b _ _ e
 unfold newName at e
 by_cases h1 : a = n <;> by_cases h2 : a = 25 <;> by_cases h3 : b = n <;> by_cases h4 : b = 25 <;> simp only [h1, h2, h3, h4, if_true, if_false] at e <;> omega
theorem split_j1_false (p : List ByteArray) (k a b c d : Int) : Evs (fun q => spec_PlanSplit.j1 q p k a b c d false) ([], false) := by
 refine Evs.step (h := fun _ => some ([], false)) (fun q => ?_) (Evs.const _)
 show spec_PlanSplit.j1 (q + 1) p k a b c d false = _
 simp only [spec_PlanSplit.j1, Bool.false_eq_true, if_false, l1None_f, Option.bind_some]
theorem split_j0_none (p : List ByteArray) (t : ByteArray) (hV : isV t = false) (k a b c d : Int) : Evs (fun q => spec_PlanSplit.j0 q p t k a b c d false) ([], false) := by
 have hv : ¬ t.toList = ([118] : List UInt8) := fun h => by rw [(isV_iff t).2 h] at hV; cases hV
 refine Evs.step (h := fun q => spec_PlanSplit.j1 q p k a b c d false) (fun q => ?_) (split_j1_false p k a b c d)
 show spec_PlanSplit.j0 (q + 1) p t k a b c d false = _
 simp only [spec_PlanSplit.j0, Bool.false_eq_true, if_false, if_neg hv]
theorem split_none {p : List ByteArray} (a : Int) (t : ByteArray) (k : Int) : Evs (fun q => if (false = true) then ((spec_l1Room.f q p a).bind fun bt205 => (if t.toList = ([104] : List UInt8) then ((spec_l6In.f k 1 (wrap64 (bt205.2.2.1 - 1))).bind fun t209 => (spec_PlanSplit.j0 q p t k bt205.1 bt205.2.1 bt205.2.2.1 bt205.2.2.2 t209)) else (spec_PlanSplit.j0 q p t k bt205.1 bt205.2.1 bt205.2.2.1 bt205.2.2.2 false))) else ((spec_l1None.f).bind fun bt201 => (some (bt201.1, bt201.2)))) ([], false) := by
 refine Evs.congr (h := fun _ => some ([], false)) (fun q => ?_) (Evs.const _)
 rw [if_neg (by simp), l1None_f]
 rfl
theorem split_val {p : List ByteArray} {cs : List (List Int)} {rs : List Rc} (F : PlanFacts p cs rs) (room : Int) (t : ByteArray) (k : Int) (T H L M : Nat) (hcell : ∀ r c, r < cs.length → c < zap cs → ((zbd cs r c = room ∧ behindB (rs.getD room.toNat zcg) t k r c = true) ↔ putB T L H M r c)) :
  doneF (putR p T H L M 122) = planF (zbn cs.length (zap cs) (splitG cs rs room t k)) := by
 have h9 := F.ok.many
 refine put_done F T H L M 122 (by omega) (by omega) (newName rs.length) (newName_inj rs.length) (splitG cs rs room t k) (fun r c hr hc => ?_)
 have hc2 := hcell r c hr hc
 have hv := valAt_range F.ok r c hr hc
 unfold splitG
 by_cases h : zbd cs r c = room ∧ behindB (rs.getD room.toNat zcg) t k r c = true
 ·rw [if_pos h, if_pos (hc2.1 h)]
  unfold newName
  rw [if_pos rfl]
 ·rw [if_neg h, if_neg (fun z => h (hc2.2 z))]
  unfold newName
  rw [if_neg (by omega), if_neg (by omega)]
theorem PlanSplit_ev (p : List ByteArray) (a : Int) (t : ByteArray) (k : Int) (hp : smallP p) : Evs (fun q => spec_PlanSplit.f q p a t k) (splitF p a t k) := by
 have ha := l1Given_ev p a hp
 cases hF : zcp p with
 | none =>
  have e1 : givenB p a = false := by unfold givenB; rw [hF]
  have e2 : splitF p a t k = ([], false) := by unfold splitF; rw [hF]
  rw [e1] at ha
  rw [e2]
  exact Evs.bind ha (split_none a t k)
 | some z =>
  obtain ⟨cs, rs⟩ := z
  have e1 : givenB p a = hasB rs a := by unfold givenB; rw [hF]
  have e2 : splitF p a t k = if hasB rs a && (isH t || isV t) then
   if 1 ≤ k ∧ k < (if isH t then (rs.getD a.toNat zcg).f2 else (rs.getD a.toNat zcg).f3) then planF (zbn cs.length (zap cs) (splitG cs rs a t k)) else ([], false)
   else ([], false) := by unfold splitF; rw [hF]
  rw [e1] at ha
  rw [e2]
  cases hA : hasB rs a with
  | false =>
   rw [hA] at ha
   exact Evs.bind ha (split_none a t k)
  | true =>
   rw [hA] at ha
   have F := floor_facts hF
   have hsm := gridOk_small F.canon.grid
   have hL := F.ok.many
   have o1 := F.ok.h1
   have o6 := F.ok.h6
   have q1 := F.len
   unfold hasB at hA
   rw [Bool.and_eq_true, decide_eq_true_eq, decide_eq_true_eq] at hA
   obtain ⟨i, rfl⟩ := Int.eq_ofNat_of_zero_le hA.1
   have hi : i < rs.length := by omega
   have hR := l1Room_ev p _ hsm (by omega) (i : Int)
   obtain ⟨c1, c2, c3⟩ := F.canon.room i (by rw [← F.rooms]; exact hi)
   rw [← F.rooms] at c1 c3
   rw [c1] at hR
   have hcell := room_cells hF i hi
   obtain ⟨b1, b2, b3, b4, b5, b6⟩ := c3
   have w6 := hsm.wide
   rw [F.wide] at b6 w6
   rw [F.wide] at hsm
   rw [Int.toNat_natCast]
   have hvalue := fun T H L M h => split_val F (i : Int) t k T H L M h
   rw [Int.toNat_natCast] at hvalue
   unfold behindB at hvalue
   generalize rs.getD i zcg = bx at *
   refine Evs.bind ha ?_
   refine Evs.congr (h := fun q => (spec_l1Room.f q p (i : Int)).bind fun bt205 => (if t.toList = ([104] : List UInt8) then ((spec_l6In.f k 1 (wrap64 (bt205.2.2.1 - 1))).bind fun t209 => (spec_PlanSplit.j0 q p t k bt205.1 bt205.2.1 bt205.2.2.1 bt205.2.2.2 t209)) else (spec_PlanSplit.j0 q p t k bt205.1 bt205.2.1 bt205.2.2.1 bt205.2.2.2 false))) (fun q => by rw [if_pos rfl]) (Evs.bind hR ?_)
   dsimp only
   cases hH : isH t with
   | true =>
    have hV := isHV hH
    rw [hV] at hvalue
    refine Evs.pos ((isH_iff t).1 hH) ?_
    rw [zar (x := bx.f2 - 1) (by omega) (by omega)]
    refine Evs.bindS (l6In_f k 1 (bx.f2 - 1)) ?_
    simp only [Bool.true_or, Bool.and_self, if_true]
    by_cases hk : 1 ≤ k ∧ k < bx.f2
    ·rw [if_pos hk, show (decide (1 ≤ k) && decide (k ≤ bx.f2 - 1)) = true by rw [Bool.and_eq_true, decide_eq_true_eq, decide_eq_true_eq]; omega]
     have hput := put_f hsm (bx.f0 + k) bx.f1 (bx.f2 - k) bx.f3 122 (by omega) b2 (by omega) (by omega) (by omega) b6 (by omega) (by omega)
     have hd := hvalue (bx.f0 + k).toNat (bx.f2 - k).toNat bx.f1.toNat bx.f3.toNat (fun r c hr hc => by
      have hc2 := hcell r c hr hc
      rw [hc2, hH]
      simp only [Bool.true_and, Bool.false_and, Bool.or_false, decide_eq_true_eq]
      unfold putB
      omega)
     have hdn := l1Done_ev _ (small_put hsm (bx.f0 + k).toNat (bx.f2 - k).toNat bx.f1.toNat bx.f3.toNat 122)
     rw [hd] at hdn
     refine Evs.step (h := fun q => (spec_l1Put.f p (wrap64 (bx.f0 + k)) bx.f1 (wrap64 (bx.f2 - k)) bx.f3 122).bind fun t210 => ((spec_l1Done.f q t210).bind fun bt213 => (some (bt213.1, bt213.2)))) (fun q => ?_) ?_
     ·show spec_PlanSplit.j0 (q + 1) p t k bx.f0 bx.f1 bx.f2 bx.f3 true = _
      simp only [spec_PlanSplit.j0, if_true]
     ·rw [zar (x := bx.f0 + k) (by omega) (by omega), zar (x := bx.f2 - k) (by omega) (by omega), hput]
      simp only [Option.bind_some]
      exact Evs.bind hdn (Evs.const _)
    ·rw [if_neg hk, show (decide (1 ≤ k) && decide (k ≤ bx.f2 - 1)) = false by rw [← Bool.not_eq_true, Bool.and_eq_true, decide_eq_true_eq, decide_eq_true_eq]; omega]
     exact split_j0_none p t hV k _ _ _ _
   | false =>
    have hnh : ¬ t.toList = ([104] : List UInt8) := fun h => by rw [(isH_iff t).2 h] at hH; cases hH
    refine Evs.neg hnh ?_
    cases hV : isV t with
    | false =>
     simp only [Bool.false_or, Bool.and_false, Bool.false_eq_true, if_false]
     exact split_j0_none p t hV k _ _ _ _
    | true =>
     rw [hV] at hvalue
     simp only [Bool.false_or, Bool.and_self, if_true, Bool.false_eq_true, if_false]
     refine Evs.step (h := fun q => (spec_l6In.f k 1 (wrap64 (bx.f3 - 1))).bind fun t217 => (spec_PlanSplit.j1 q p k bx.f0 bx.f1 bx.f2 bx.f3 t217)) (fun q => ?_) ?_
     ·show spec_PlanSplit.j0 (q + 1) p t k bx.f0 bx.f1 bx.f2 bx.f3 false = _
      simp only [spec_PlanSplit.j0, Bool.false_eq_true, if_false, if_pos ((isV_iff t).1 hV)]
     rw [zar (x := bx.f3 - 1) (by omega) (by omega)]
     refine Evs.bindS (l6In_f k 1 (bx.f3 - 1)) ?_
     by_cases hk : 1 ≤ k ∧ k < bx.f3
     ·rw [if_pos hk, show (decide (1 ≤ k) && decide (k ≤ bx.f3 - 1)) = true by rw [Bool.and_eq_true, decide_eq_true_eq, decide_eq_true_eq]; omega]
      have hput := put_f hsm bx.f0 (bx.f1 + k) bx.f2 (bx.f3 - k) 122 b1 (by omega) (by omega) (by omega) b5 (by omega) (by omega) (by omega)
      have hd := hvalue bx.f0.toNat bx.f2.toNat (bx.f1 + k).toNat (bx.f3 - k).toNat (fun r c hr hc => by
       have hc2 := hcell r c hr hc
       rw [hc2, hH]
       simp only [Bool.true_and, Bool.false_and, Bool.false_or, decide_eq_true_eq]
       unfold putB
       omega)
      have hdn := l1Done_ev _ (small_put hsm bx.f0.toNat bx.f2.toNat (bx.f1 + k).toNat (bx.f3 - k).toNat 122)
      rw [hd] at hdn
      refine Evs.step (h := fun q => (spec_l1Put.f p bx.f0 (wrap64 (bx.f1 + k)) bx.f2 (wrap64 (bx.f3 - k)) 122).bind fun t218 => ((spec_l1Done.f q t218).bind fun bt221 => (some (bt221.1, bt221.2)))) (fun q => ?_) ?_
      ·show spec_PlanSplit.j1 (q + 1) p k bx.f0 bx.f1 bx.f2 bx.f3 true = _
       simp only [spec_PlanSplit.j1, if_true]
      ·rw [zar (x := bx.f1 + k) (by omega) (by omega), zar (x := bx.f3 - k) (by omega) (by omega), hput]
       simp only [Option.bind_some]
       exact Evs.bind hdn (Evs.const _)
     ·rw [if_neg hk, show (decide (1 ≤ k) && decide (k ≤ bx.f3 - 1)) = false by rw [← Bool.not_eq_true, Bool.and_eq_true, decide_eq_true_eq, decide_eq_true_eq]; omega]
      exact split_j1_false p k _ _ _ _
end Go.Proofs.Ytaepgogafkmooaa.Hd
namespace Go.Proofs.Ytaepgogafkmooaa.Hd
open Go.RowKit Go.PW.PrintWords Go.PW.PrintLast Go.PW.PrintMore Go.Proofs.Ytaepgogafkmooaa.PB
def Conv (hi wi : Nat) (g : Nat → Nat → Int) : Prop := ∀ r c r' c' i j, r < hi → c < wi → r' < hi → c' < wi → g r c = g r' c' → min r r' ≤ i → i ≤ max r r' → min c c' ≤ j → j ≤ max c c' → g i j = g r c
def ConvG (rows : List (List Int)) : Prop := Conv rows.length (zap rows) (zbd rows)
theorem Conv.congr {hi wi : Nat} {g g' : Nat → Nat → Int} (h : Conv hi wi g) (e : ∀ r c, r < hi → c < wi → g r c = g' r c) : Conv hi wi g' := by
 intro r c r' c' i j h1 h2 h3 h4 hv k1 k2 k3 k4
 rw [← e i j (by omega) (by omega), ← e r c h1 h2]
 exact h r c r' c' i j h1 h2 h3 h4 (by rw [e r c h1 h2, e r' c' h3 h4]; exact hv) k1 k2 k3 k4
theorem Conv.map {hi wi : Nat} {g : Nat → Nat → Int} (h : Conv hi wi g) (f : Int → Int) (hf : ∀ r c r' c', r < hi → c < wi → r' < hi → c' < wi → f (g r c) = f (g r' c') → g r c = g r' c') : Conv hi wi (fun r c => f (g r c)) := by
 intro r c r' c' i j h1 h2 h3 h4 hv k1 k2 k3 k4
 show f _ = f _
 rw [h r c r' c' i j h1 h2 h3 h4 (hf _ _ _ _ h1 h2 h3 h4 hv) k1 k2 k3 k4]
theorem names_canon {rows : List (List Int)} (hs : zbo rows = true) (h9 : (zay rows).length ≤ 9) : Canon (zbq (canon rows)) := by
 have hn := names_nums hs
 have hinj := names_inj rows
 have hL := rooms_len hs
 refine ⟨?_, ?_⟩
 ·unfold gridOk
  rw [Bool.and_eq_true, hn, mapG_shape]
  refine ⟨hs, ?_⟩
  rw [List.all_eq_true]
  intro s hss
  obtain ⟨r, hr, rfl⟩ := List.mem_map.1 hss
  unfold okText
  rw [bytesOf_rowText r (canon_val hs r hr), List.all_eq_true]
  intro x hx
  obtain ⟨y, hy, rfl⟩ := List.mem_map.1 hx
  unfold canon canonL at hr
  obtain ⟨r0, hr0, rfl⟩ := List.mem_map.1 hr
  obtain ⟨z, hz, rfl⟩ := List.mem_map.1 hy
  have h3 : (zbu rows).idxOf z < (zbu rows).length := List.idxOf_lt_length_of_mem (ordL_mem rows.flatten [] z (List.mem_flatten.2 ⟨r0, hr0, hz⟩))
  simp only [okLetter, Bool.not_eq_true', Bool.or_eq_false_iff, decide_eq_false_iff_not]
  omega
 ·unfold namesOf
  rw [hn, canon_map hinj]
theorem text_length (rows : List (List Int)) : (zbq (canon rows)).length = rows.length := by simp [zbq, canon, canonL]
theorem canon_length (rows : List (List Int)) : (canon rows).length = rows.length := by simp [canon, canonL]
theorem names_floor {rows : List (List Int)} (hs : zbo rows = true) (h9 : (zay rows).length ≤ 9) : zcp (zbq (canon rows)) = if zbv (zay rows) = (rows.length : Int) * (zap rows : Int) then some (canon rows, zay rows) else none := by
 have hC := names_canon hs h9
 have hn := names_nums hs
 have hinj := names_inj rows
 rw [floorF_grid hC.grid, hn, rooms_map hs hinj, mapG_wide, text_length, canon_map hinj]
 by_cases h : zbv (zay rows) = (rows.length : Int) * (zap rows : Int)
 ·rw [if_pos h, if_pos ⟨h9, h, hC.names⟩]
 ·rw [if_neg h, if_neg (fun z => h z.2.1)]
theorem canon_wide (rows : List (List Int)) : zap (canon rows) = zap rows := by
 unfold zap canon canonL
 cases rows with
 | nil => rfl
 | cons a r => simp
theorem canon_at {rows : List (List Int)} (hs : zbo rows = true) {r c : Nat} (hr : r < rows.length) (hc : c < zap rows) : zbd (canon rows) r c = ((zbu rows).idxOf (zbd rows r c) : Int) := by
 have e := congrArg (fun R => zbd R r c) (rect_map (zcr hs) (fun x => ((zbu rows).idxOf x : Int)))
 exact Eq.trans e (valAt_gridOf hr hc)
theorem idxOf_inj {L : List Int} {x y : Int} (hx : x ∈ L) (hy : y ∈ L) (e : L.idxOf x = L.idxOf y) : x = y := by
 have h1 := List.idxOf_lt_length_of_mem hx
 have h2 := List.idxOf_lt_length_of_mem hy
 have e1 : L[L.idxOf x] = x := List.getElem_idxOf h1
 have e2 : L[L.idxOf y] = y := List.getElem_idxOf h2
 rw [← e1, ← e2]
 congr 1
theorem val_ord {rows : List (List Int)} (hs : zbo rows = true) {r c : Nat} (hr : r < rows.length) (hc : c < zap rows) : zbd rows r c ∈ zbu rows := ordL_mem rows.flatten [] _ (val_mem (zcr hs) hr hc)
theorem canon_eq_iff {rows : List (List Int)} (hs : zbo rows = true) {r c r' c' : Nat} (hr : r < rows.length) (hc : c < zap rows) (hr' : r' < rows.length) (hc' : c' < zap rows) : zbd (canon rows) r c = zbd (canon rows) r' c' ↔ zbd rows r c = zbd rows r' c' := by
 rw [canon_at hs hr hc, canon_at hs hr' hc']
 constructor
 ·exact fun h => idxOf_inj (val_ord hs hr hc) (val_ord hs hr' hc') (by omega)
 ·intro h
  rw [h]
theorem conv_canon {rows : List (List Int)} (hs : zbo rows = true) : ConvG (canon rows) ↔ ConvG rows := by
 unfold ConvG
 rw [canon_length, canon_wide]
 constructor
 ·intro h r c r' c' i j h1 h2 h3 h4 hv k1 k2 k3 k4
  exact (canon_eq_iff hs (by omega) (by omega) h1 h2).1 (h r c r' c' i j h1 h2 h3 h4 ((canon_eq_iff hs h1 h2 h3 h4).2 hv) k1 k2 k3 k4)
 ·intro h r c r' c' i j h1 h2 h3 h4 hv k1 k2 k3 k4
  exact (canon_eq_iff hs (by omega) (by omega) h1 h2).2 (h r c r' c' i j h1 h2 h3 h4 ((canon_eq_iff hs h1 h2 h3 h4).1 hv) k1 k2 k3 k4)
theorem countN_conv (rows : List (List Int)) (wi : Nat) (x : Int) (b : Rc) : ∀ n, (∀ m, m < n → (zco rows wi m = x ↔ inBox b wi m)) → zci rows wi x n = countB b wi n
 | 0, _ => rfl
 | n + 1, h => by
  have ih := countN_conv rows wi x b n (fun m hm => h m (by omega))
  simp only [zci, countB]
  by_cases hx : zco rows wi n = x
  ·rw [if_pos hx, if_pos ((h n (by omega)).1 hx), ih]
  ·rw [if_neg hx, if_neg (fun z => hx ((h n (by omega)).2 z)), ih]
theorem conv_sum {rows : List (List Int)} (hs : zbo rows = true) (h9 : (zay rows).length ≤ 9) : zbv (zay rows) = (rows.length : Int) * (zap rows : Int) ↔ ConvG rows := by
 have hfl := names_floor hs h9
 constructor
 ·intro h
  rw [if_pos h] at hfl
  have F := floor_facts hfl
  rw [← conv_canon hs]
  intro r c r' c' i j h1 h2 h3 h4 hv k1 k2 k3 k4
  have hv1 := valAt_range F.ok r c h1 h2
  obtain ⟨q, hq⟩ := Int.eq_ofNat_of_zero_le hv1.1
  have hq2 : q < (zay rows).length := by omega
  have hc := fun r c hr hc => room_cells hfl q hq2 r c hr hc
  have a1 := (hc r c h1 h2).1 hq
  have a2 := (hc r' c' h3 h4).1 (by rw [← hv]; exact hq)
  rw [hq]
  exact (hc i j (by omega) (by omega)).2 (by omega)
 ·intro h
  have hC := names_canon hs h9
  have hn := names_nums hs
  have hinj := names_inj rows
  have hiff := full_iff hC
  rw [hn, rooms_map hs hinj, mapG_wide, text_length] at hiff
  have hall : (List.range (zay rows).length).all (fullB (zbq (canon rows))) = true := by
   rw [List.all_eq_true]
   intro x hx
   have hx := List.mem_range.1 hx
   unfold fullB
   rw [decide_eq_true_eq, hn, rooms_map hs hinj, mapG_wide, text_length]
   obtain ⟨v, hv, hb, hbd⟩ := rooms_box hs x hx
   rw [← countB_all _ _ _ hbd]
   obtain ⟨s1, s2, s3, s4, s5⟩ := (zch _).1 hs
   have hR := zcr hs
   refine countN_conv _ _ _ _ _ fun m hm => ?_
   have hr : m / zap rows < rows.length := by rw [Nat.div_lt_iff_lt_mul (by omega)]; exact hm
   have hc := Nat.mod_lt m (show 0 < zap rows by omega)
   have hcell : zco (mapG (fun x => 97 + ((zbu rows).idxOf x : Int)) rows) (zap rows) m = ((zbu rows).idxOf (zbd rows (m / zap rows) (m % zap rows)) : Int) := by
    unfold zco
    rw [valAt_map hR _ hr hc]
    omega
   rw [hcell, idx_iff (ordAll_nodup rows) hv (val_ord hs hr hc)]
   constructor
   ·exact fun h => hb.ins m hm h
   ·intro hin
    obtain ⟨i1, i2, i3, i4⟩ := hin
    obtain ⟨mt, nt, vt, et⟩ := hb.top
    obtain ⟨ml, nl, vl, el⟩ := hb.left
    obtain ⟨mw, nw, vw, ew⟩ := hb.low
    obtain ⟨mr, nr, vr, er⟩ := hb.right
    have rr : ∀ m, m < rows.length * zap rows → m / zap rows < rows.length ∧ m % zap rows < zap rows := fun m hm => ⟨by rw [Nat.div_lt_iff_lt_mul (by omega)]; exact hm, Nat.mod_lt m (by omega)⟩
    obtain ⟨t1, t2⟩ := rr mt nt
    obtain ⟨l1, l2⟩ := rr ml nl
    obtain ⟨w1, w2⟩ := rr mw nw
    obtain ⟨r1, r2⟩ := rr mr nr
    have gt := hb.ins mt nt vt
    have gl := hb.ins ml nl vl
    have gw := hb.ins mw nw vw
    have gr := hb.ins mr nr vr
    generalize hbx : (zay rows).getD x zcg = bx at *
    -- the upper left and the lower right corner
    have c1 := h (mt / zap rows) (mt % zap rows) (ml / zap rows) (ml % zap rows) (mt / zap rows) (ml % zap rows) t1 t2 l1 l2 (vt.trans vl.symm) (by omega) (by omega) (by omega) (by omega)
    have c2 := h (mw / zap rows) (mw % zap rows) (mr / zap rows) (mr % zap rows) (mw / zap rows) (mr % zap rows) w1 w2 r1 r2 (vw.trans vr.symm) (by omega) (by omega) (by omega) (by omega)
    have c3 := h (mt / zap rows) (ml % zap rows) (mw / zap rows) (mr % zap rows) (m / zap rows) (m % zap rows) t1 l2 w1 r2 (by rw [c1, c2, vt, vw]) (by omega) (by omega) (by omega) (by omega)
    rw [c3, c1, vt]
  rw [hall] at hiff
  exact of_decide_eq_true hiff.symm
structure OkG (rows : List (List Int)) : Prop where
 shape : zbo rows = true
 many : (zbu rows).length ≤ 9
 conv : ConvG rows
theorem OkG.plan {rows : List (List Int)} (h : OkG rows) : planF rows = (zbq (canon rows), true) := by
 have h9 : (zay rows).length ≤ 9 := by rw [← rooms_len h.shape]; exact h.many
 rw [planF_shape h.shape, if_pos ⟨h9, (conv_sum h.shape h9).2 h.conv⟩]
theorem OkG.floor {rows : List (List Int)} (h : OkG rows) : zcp (zbq (canon rows)) = some (canon rows, zay rows) := by
 have h9 : (zay rows).length ≤ 9 := by rw [← rooms_len h.shape]; exact h.many
 rw [names_floor h.shape h9, if_pos ((conv_sum h.shape h9).2 h.conv)]
theorem planF_cases (rows : List (List Int)) : (OkG rows ∧ planF rows = (zbq (canon rows), true)) ∨ (¬ OkG rows ∧ planF rows = ([], false)) := by
 by_cases h : OkG rows
 ·exact .inl ⟨h, h.plan⟩
 ·refine .inr ⟨h, ?_⟩
  cases hs : zbo rows with
  | false => exact planF_noshape hs
  | true =>
   rw [planF_shape hs]
   by_cases hc : (zay rows).length ≤ 9 ∧ zbv (zay rows) = (rows.length : Int) * (zap rows : Int)
   ·exact absurd ⟨hs, by rw [rooms_len hs]; exact hc.1, (conv_sum hs hc.1).1 hc.2⟩ h
   ·rw [if_neg hc]
theorem floor_shape {cs : List (List Int)} {rs : List Rc} (h : FloorOk cs rs) : zbo cs = true := (zch _).2 ⟨h.h1, h.h6, h.w1, h.w6, h.rect⟩
theorem add_inj (a : Int) (S : Int → Prop) : InjOn (fun x => a + x) S := fun x y _ _ e => by have : a + x = a + y := e; omega
theorem floor_okG {p : List ByteArray} {cs : List (List Int)} {rs : List Rc} (h : zcp p = some (cs, rs)) : OkG cs ∧ canon cs = cs ∧ rs = zay cs ∧ p = zbq cs := by
 have F := floor_facts h
 have hs := floor_shape F.ok
 have e1 : canon cs = cs := by
  have e2 : canon (mapG (fun x => 97 + x) cs) = canon cs := canon_map (add_inj 97 _)
  rw [← F.nums, ← F.cells] at e2
  exact e2.symm
 have e2 : rs = zay cs := by rw [F.rooms, F.nums, rooms_map hs (add_inj 97 _)]
 have h9 : (zay cs).length ≤ 9 := by rw [← e2]; exact F.ok.many
 have hsum := floor_sum h
 rw [F.wide, F.len, e2] at hsum
 exact ⟨⟨hs, by rw [rooms_len hs]; exact h9, (conv_sum hs h9).1 hsum⟩, e1, e2, F.text⟩
end Go.Proofs.Ytaepgogafkmooaa.Hd
namespace Go.Proofs.Ytaepgogafkmooaa.Hd
open Go.RowKit Go.PW.PrintWords Go.PW.PrintLast Go.PW.PrintMore Go.Proofs.Ytaepgogafkmooaa.PB Go.Proofs.Ytaepgogafkmooaa.SM
theorem xor_nonneg {a b : Int} (ha : 0 ≤ a) (hb : 0 ≤ b) (ha' : a < 1099511627776) (hb' : b < 1099511627776) : 0 ≤ Go.bits .xor .i64 a b := by
 obtain ⟨x, rfl⟩ := Int.eq_ofNat_of_zero_le ha
 obtain ⟨y, rfl⟩ := Int.eq_ofNat_of_zero_le hb
 have hx : x < 2 ^ 40 := by omega
 have hy : y < 2 ^ 40 := by omega
 have h := Nat.xor_lt_two_pow hx hy
 simp only [Go.bits, BitVec.ofInt_natCast, BitVec.toNat_xor, BitVec.toNat_ofNat]
 rw [Nat.mod_eq_of_lt (show x < 2 ^ IntKind.i64.bits by show x < 2 ^ 64; omega), Nat.mod_eq_of_lt (show y < 2 ^ IntKind.i64.bits by show y < 2 ^ 64; omega), IntKind.wrap_i64]
 omega
theorem tmod_in {x n : Int} (hx : 0 ≤ x) (hn : 1 ≤ n) : 0 ≤ Int.tmod x n ∧ Int.tmod x n < n := ⟨Int.tmod_nonneg _ hx, Int.tmod_lt_of_pos _ (by omega)⟩
structure RdB (b : List Int) : Prop where
 len : b.length ≤ 2000
 val : ∀ x ∈ b, 0 ≤ x ∧ x ≤ 255
theorem RdB.byte {b : List Int} (h : RdB b) (i : Int) : 0 ≤ rd b i ∧ rd b i ≤ 255 := by
 unfold rd
 rw [List.getD_eq_getElem?_getD]
 cases e : b[i.toNat]? with
 | none => simp
 | some x => exact h.val x (List.mem_of_getElem? e)
theorem pick_j0_true (b : List Int) (q n : Int) : Evs (fun k => spec_l6Rd_pick.j0 k n true b q) (0, q) := by
 refine Evs.step (h := fun _ => some (0, q)) (fun k => ?_) (Evs.const _)
 show spec_l6Rd_pick.j0 (k + 1) n true b q = _
 simp only [spec_l6Rd_pick.j0, if_true]
theorem pick_ev (b : List Int) (h : RdB b) (q : Nat) (hq : q ≤ 1000000) (n : Int) : ∃ v, Evs (fun k => spec_l6Rd_pick.f k b (q : Int) n) (v, ((q + 1 : Nat) : Int)) ∧ 0 ≤ v ∧ (1 ≤ n → v < n) ∧ (n < 1 → v = 0) := by
 have hw : wrap64 ((q : Int) + 1) = ((q + 1 : Nat) : Int) := by rw [zar (by omega) (by omega)]; omega
 by_cases hn : n < 1
 ·refine ⟨0, ?_, Int.le_refl _, fun h => by omega, fun _ => rfl⟩
  refine Evs.congr (fun k => ?_) (pick_j0_true b ((q + 1 : Nat) : Int) n)
  unfold spec_l6Rd_pick.f
  rw [if_pos hn, hw]
 ·by_cases hl : b.length = 0
  ·refine ⟨0, ?_, Int.le_refl _, fun h => by omega, fun h => absurd h hn⟩
   refine Evs.congr (fun k => ?_) (pick_j0_true b ((q + 1 : Nat) : Int) n)
   unfold spec_l6Rd_pick.f
   rw [if_neg hn, hw, show ((b.length : Int) == 0) = true by rw [beq_iff_eq]; omega]
  ·have hlen := h.len
   have e1 : wrap64 (((q + 1 : Nat) : Int) - 1) = (q : Int) := by rw [zar (by omega) (by omega)]; omega
   have main : ∃ v, (∀ k, spec_l6Rd_pick.j0 (k + 1) n false b ((q + 1 : Nat) : Int) = some (v, ((q + 1 : Nat) : Int))) ∧ 0 ≤ v ∧ v < n := by
    by_cases hql : (q : Int) < (b.length : Int)
    ·have hr := h.byte (q : Int)
     obtain ⟨t0, t1⟩ := tmod_in (x := rd b (q : Int)) (n := n) hr.1 (by omega)
     refine ⟨Int.tmod (rd b (q : Int)) n, fun k => ?_, t0, t1⟩
     simp only [spec_l6Rd_pick.j0, Bool.false_eq_true, if_false]
     rw [e1, if_pos hql, if_pos (by omega), if_neg (by omega), zar (x := rd b (q : Int)) (by omega) (by omega)]
    ·have i1 := tmod_in (x := (q : Int)) (n := (b.length : Int)) (by omega) (by omega)
     have e2 : wrap64 (wrap64 ((q : Int) * 7) + 3) = (q : Int) * 7 + 3 := by rw [zar (x := (q : Int) * 7) (by omega) (by omega), zar (by omega) (by omega)]
     have i2 := tmod_in (x := (q : Int) * 7 + 3) (n := (b.length : Int)) (by omega) (by omega)
     have r1 := h.byte (Int.tmod (q : Int) (b.length : Int))
     have r2 := h.byte (Int.tmod ((q : Int) * 7 + 3) (b.length : Int))
     have d1 : 0 ≤ Int.tdiv (q : Int) (b.length : Int) ∧ Int.tdiv (q : Int) (b.length : Int) ≤ 1000000 := by
      rw [Int.tdiv_eq_ediv_of_nonneg (by omega)]
      refine ⟨Int.ediv_nonneg (by omega) (by omega), Int.le_trans (Int.ediv_le_self _ (by omega)) (by omega)⟩
     have key : ∃ v, (∀ k, spec_l6Rd_pick.j0 (k + 1) n false b ((q + 1 : Nat) : Int) = some (v, ((q + 1 : Nat) : Int))) ∧ 0 ≤ v ∧ v < n := by
      have hform : ∀ k, spec_l6Rd_pick.j0 (k + 1) n false b ((q + 1 : Nat) : Int) = some (Int.tmod (Go.bits .xor .i64 (rd b (Int.tmod (q : Int) (b.length : Int)) * 131 + rd b (Int.tmod ((q : Int) * 7 + 3) (b.length : Int)) * 1117 + (q : Int) * 29 + Int.tdiv (q : Int) (b.length : Int) * 53) (wrap64 (Int.tdiv (rd b (Int.tmod (q : Int) (b.length : Int)) * 131 + rd b (Int.tmod ((q : Int) * 7 + 3) (b.length : Int)) * 1117 + (q : Int) * 29 + Int.tdiv (q : Int) (b.length : Int) * 53) 64))) n, ((q + 1 : Nat) : Int)) := fun k => by
       simp only [spec_l6Rd_pick.j0, Bool.false_eq_true, if_false]
       rw [e1, if_neg hql, if_neg (by omega), if_pos i1.1, if_pos i1.2, e2, if_pos i2.1, if_pos i2.2, if_neg (by omega)]
       generalize rd b (Int.tmod (q : Int) (b.length : Int)) = a at *
       generalize rd b (Int.tmod ((q : Int) * 7 + 3) (b.length : Int)) = c at *
       generalize Int.tdiv (q : Int) (b.length : Int) = d at *
       rw [zar (x := a) (by omega) (by omega), zar (x := a * 131) (by omega) (by omega), zar (x := c) (by omega) (by omega), zar (x := c * 1117) (by omega) (by omega), zar (x := a * 131 + c * 1117) (by omega) (by omega), zar (x := (q : Int) * 29) (by omega) (by omega), zar (x := a * 131 + c * 1117 + (q : Int) * 29) (by omega) (by omega), zar (x := d) (by omega) (by omega), zar (x := d * 53) (by omega) (by omega), zar (x := a * 131 + c * 1117 + (q : Int) * 29 + d * 53) (by omega) (by omega)]
      have hX : 0 ≤ rd b (Int.tmod (q : Int) (b.length : Int)) * 131 + rd b (Int.tmod ((q : Int) * 7 + 3) (b.length : Int)) * 1117 + (q : Int) * 29 + Int.tdiv (q : Int) (b.length : Int) * 53 ∧ rd b (Int.tmod (q : Int) (b.length : Int)) * 131 + rd b (Int.tmod ((q : Int) * 7 + 3) (b.length : Int)) * 1117 + (q : Int) * 29 + Int.tdiv (q : Int) (b.length : Int) * 53 < 1099511627776 := by omega
      generalize rd b (Int.tmod (q : Int) (b.length : Int)) * 131 + rd b (Int.tmod ((q : Int) * 7 + 3) (b.length : Int)) * 1117 + (q : Int) * 29 + Int.tdiv (q : Int) (b.length : Int) * 53 = X at *
      have hd : 0 ≤ Int.tdiv X 64 ∧ Int.tdiv X 64 ≤ X := by
       rw [Int.tdiv_eq_ediv_of_nonneg hX.1]
       exact ⟨Int.ediv_nonneg hX.1 (by omega), Int.ediv_le_self _ hX.1⟩
      rw [zar (x := Int.tdiv X 64) (by omega) (by omega)] at hform
      obtain ⟨t0, t1⟩ := tmod_in (n := n) (xor_nonneg hX.1 hd.1 hX.2 (by omega)) (by omega)
      exact ⟨_, hform, t0, t1⟩
     exact key
   obtain ⟨v, hv, v0, v1⟩ := main
   refine ⟨v, ?_, v0, fun _ => v1, fun h => absurd h hn⟩
   refine Evs.congr (h := fun k => spec_l6Rd_pick.j0 k n false b ((q + 1 : Nat) : Int)) (fun k => ?_) (Evs.step (h := fun _ => some (v, ((q + 1 : Nat) : Int))) hv (Evs.const _))
   unfold spec_l6Rd_pick.f
   rw [if_neg hn, hw, show ((b.length : Int) == 0) = false by rw [beq_eq_false_iff_ne]; omega]
theorem of_ev (b : List Int) (h : RdB b) (q : Nat) (hq : q ≤ 1000000) (L : List ByteArray) (hL : 1 ≤ L.length) : ∃ s, Evs (fun k => spec_l6Rd_of.f k b (q : Int) L) (s, ((q + 1 : Nat) : Int)) ∧ s ∈ L := by
 obtain ⟨v, hv, v0, v1, -⟩ := pick_ev b h q hq (L.length : Int)
 have hv1 := v1 (by omega)
 obtain ⟨i, rfl⟩ := Int.eq_ofNat_of_zero_le v0
 refine ⟨rdOf ByteArray.empty L (i : Int), Evs.bind hv (Evs.pos (by omega) (Evs.pos hv1 (Evs.const _))), ?_⟩
 rw [rdOf_get L i (by omega)]
 exact List.getElem_mem _
theorem open_ev (l : List Int) (hv : ∀ x ∈ l, 0 ≤ x ∧ x ≤ 255) : ∃ b, spec_l6Open.f l = some (b, 0) ∧ RdB b := by
 unfold spec_l6Open.f
 by_cases h : (l.length : Int) > 2000
 ·rw [if_pos h, if_pos (by omega)]
  exact ⟨_, rfl, by simp; omega, fun x hx => hv x (List.mem_of_mem_take hx)⟩
 ·rw [if_neg h]
  exact ⟨_, rfl, by omega, hv⟩
theorem empty_l1 (n m : Nat) (hm : m ≤ 100) (i : Nat) (hi : i ≤ 100) (x5 : List ByteArray) (h5 : x5.length ≤ 100) (r : List ByteArray) (hnext : Evs (fun k => spec_l91Empty.l0 k (n : Int) (m : Int) (x5 ++ [strOfNums (List.replicate m 97)]) ((i + 1 : Nat) : Int)) r) :
  ∀ d j, j + d = m → Evs (fun k => spec_l91Empty.l1 k (n : Int) (m : Int) x5 (i : Int) (List.replicate j 97) (j : Int)) r := by
 intro d
 induction d with
 | zero =>
  intro j hj
  obtain rfl : j = m := by omega
  refine Evs.step (fun k => ?_) hnext
  conv => lhs; unfold spec_l91Empty.l1
  rw [if_neg (by omega), if_pos (by omega), zbc (by omega)]
 | succ d ih =>
  intro j hj
  have hnx := ih (j + 1) (by omega)
  rw [List.replicate_succ'] at hnx
  refine Evs.step (fun k => ?_) hnx
  conv => lhs; unfold spec_l91Empty.l1
  rw [if_pos (by omega), if_pos (by simp; omega), zbc (by omega)]
theorem empty_l0 (n m : Nat) (hn : n ≤ 100) (hm : m ≤ 100) : ∀ d i, i + d = n → Evs (fun k => spec_l91Empty.l0 k (n : Int) (m : Int) (List.replicate i (strOfNums (List.replicate m 97))) (i : Int)) (List.replicate n (strOfNums (List.replicate m 97))) := by
 intro d
 induction d with
 | zero =>
  intro i hi
  obtain rfl : i = n := by omega
  refine Evs.step (h := fun _ => some (List.replicate i (strOfNums (List.replicate m 97)))) (fun k => ?_) (Evs.const _)
  conv => lhs; unfold spec_l91Empty.l0
  rw [if_neg (by omega)]
 | succ d ih =>
  intro i hi
  have hnx := ih (i + 1) (by omega)
  rw [List.replicate_succ'] at hnx
  have := empty_l1 n m hm i (by omega) (List.replicate i (strOfNums (List.replicate m 97))) (by simp; omega) _ hnx m 0 (by omega)
  refine Evs.step (fun k => ?_) this
  conv => lhs; unfold spec_l91Empty.l0
  rw [if_pos (by omega)]
  rfl
theorem Empty_ev (n m : Nat) (hn : n ≤ 100) (hm : m ≤ 100) : ∃ p, Evs (fun k => spec_l91Empty.f k (n : Int) (m : Int)) p ∧ Mid p m ∧ p.length = n := by
 refine ⟨_, empty_l0 n m hn hm n 0 (by omega), ⟨by simp; omega, hm, fun s hs => ?_⟩, by simp⟩
 rw [List.eq_of_mem_replicate hs]
 show (List.map _ (List.replicate m (97 : Int))).toArray.size = m
 simp
theorem rowText_size (row : List Int) : (rowText row).size = row.length := by
 show (List.map letterOf row).toArray.size = _
 simp
theorem planF_mid {h w : Nat} {g : Nat → Nat → Int} {p : List ByteArray} (h1 : 1 ≤ h) (e : planF (zbn h w g) = (p, true)) : Mid p w ∧ p.length = h := by
 rcases planF_cases (zbn h w g) with ⟨hO, hp⟩ | ⟨_, hp⟩
 ·rw [hp] at e
  injection e with e1 _
  subst e1
  obtain ⟨s1, s2, s3, s4, s5⟩ := (zch _).1 hO.shape
  rw [zbp] at s1 s2
  have hw : zap (zbn h w g) = w := by
   have := gridOf_get (hi := h) (wi := w) (g := g) (r := 0) (by omega)
   unfold zap
   rw [List.getD_eq_getElem?_getD, this]
   simp
  rw [hw] at s3 s4
  have hl : (zbq (canon (zbn h w g))).length = h := by rw [text_length, zbp]
  refine ⟨⟨by omega, by omega, fun s hs => ?_⟩, hl⟩
  obtain ⟨r, hr, rfl⟩ := List.mem_map.1 hs
  rw [rowText_size]
  unfold canon canonL at hr
  obtain ⟨r0, hr0, rfl⟩ := List.mem_map.1 hr
  rw [List.length_map]
  exact gridOf_row r0 hr0
 ·rw [hp] at e
  injection e with _ e2
  cases e2
theorem split_mid {p : List ByteArray} {m : Nat} (h : Mid p m) (h1 : 1 ≤ p.length) {a k : Int} {t : ByteArray} {r : List ByteArray} (e : splitF p a t k = (r, true)) : Mid r m ∧ r.length = p.length := by
 unfold splitF at e
 cases hF : zcp p with
 | none => rw [hF] at e; injection e with _ e; cases e
 | some z =>
  obtain ⟨cs, rs⟩ := z
  rw [hF] at e
  have F := floor_facts hF
  dsimp only at e
  split at e
  ·by_cases hc : 1 ≤ k ∧ k < (if isH t = true then (rs.getD a.toNat zcg).f2 else (rs.getD a.toNat zcg).f3)
   ·rw [if_pos hc] at e
    have hw : zap cs = m := by
     rw [← F.wide, wideOf_numsOf]
     refine h.row _ ?_
     rw [List.getD_eq_getElem?_getD, List.getElem?_eq_getElem (by omega)]
     exact List.getElem_mem _
    obtain ⟨q1, q2⟩ := planF_mid F.ok.h1 e
    rw [hw] at q1
    exact ⟨q1, by rw [q2, F.len]⟩
   ·rw [if_neg hc] at e
    injection e with _ e
    cases e
  ·injection e with _ e
   cases e
theorem cut_l0 (b : List Int) (hb : RdB b) (many m n : Nat) (hmany : many ≤ 1000) (hn : 1 ≤ n) : ∀ d t (p : List ByteArray) (q : Nat), t + d = many → Mid p m → p.length = n → q + 3 * d ≤ 100000 → ∃ p' q', Evs (fun k => spec_l91Cut.l0 k p (many : Int) (t : Int) b (q : Int)) (p', ((q' : Nat) : Int)) ∧ Mid p' m ∧ p'.length = n ∧ q' ≤ q + 3 * d := by
 intro d
 induction d with
 | zero =>
  intro t p q ht hp hl hq
  refine ⟨p, q, Evs.step (h := fun _ => some (p, (q : Int))) (fun k => ?_) (Evs.const _), hp, hl, by omega⟩
  conv => lhs; unfold spec_l91Cut.l0
  rw [if_neg (by omega)]
 | succ d ih =>
  intro t p q ht hp hl hq
  obtain ⟨rm, _, _, hrm⟩ := l1Rooms_any p hp.lil
  obtain ⟨v1, hv1, -, -, -⟩ := pick_ev b hb q (by omega) rm
  obtain ⟨s, hs, -⟩ := of_ev b hb (q + 1) (by omega) [(⟨#[104]⟩ : ByteArray), (⟨#[118]⟩ : ByteArray)] (by simp)
  obtain ⟨v2, hv2, -, -, -⟩ := pick_ev b hb (q + 1 + 1) (by omega) 3
  have hsp := PlanSplit_ev p v1 s (wrap64 (1 + v2)) hp.lil.small
  rcases hr : splitF p v1 s (wrap64 (1 + v2)) with ⟨r, ok⟩
  rw [hr] at hsp
  cases ok with
  | true =>
   obtain ⟨m1, m2⟩ := split_mid hp (by omega) hr
   obtain ⟨p', q', hE, h1, h2, h3⟩ := ih (t + 1) r (q + 1 + 1 + 1) (by omega) m1 (by omega) (by omega)
   refine ⟨p', q', Evs.step (h := fun k => ((spec_l1Rooms.f k p).bind fun t221 => ((spec_l6Rd_pick.f k b (q : Int) t221).bind fun bt222 => ((spec_l6Rd_of.f k b bt222.2 (([(⟨#[104]⟩ : ByteArray), (⟨#[118]⟩ : ByteArray)] : List ByteArray))).bind fun bt227 => ((spec_l6Rd_pick.f k b bt227.2 3).bind fun bt229 => ((spec_PlanSplit.f k p bt222.1 bt227.1 (wrap64 (1 + bt229.1))).bind fun bt231 => (if bt231.2 = true then (spec_l91Cut.l0 k bt231.1 (many : Int) (wrap64 ((t : Int) + 1)) b bt229.2) else (spec_l91Cut.l0 k p (many : Int) (wrap64 ((t : Int) + 1)) b bt229.2)))))))) (fun k => ?_) (Evs.bind hrm (Evs.bind hv1 (Evs.bind hs (Evs.bind hv2 (Evs.bind hsp (Evs.pos rfl ?_)))))), h1, h2, by omega⟩
   ·conv => lhs; unfold spec_l91Cut.l0
    rw [if_pos (by omega)]
   ·rw [zbc (by omega)]
    exact hE
  | false =>
   obtain ⟨p', q', hE, h1, h2, h3⟩ := ih (t + 1) p (q + 1 + 1 + 1) (by omega) hp hl (by omega)
   refine ⟨p', q', Evs.step (h := fun k => ((spec_l1Rooms.f k p).bind fun t221 => ((spec_l6Rd_pick.f k b (q : Int) t221).bind fun bt222 => ((spec_l6Rd_of.f k b bt222.2 (([(⟨#[104]⟩ : ByteArray), (⟨#[118]⟩ : ByteArray)] : List ByteArray))).bind fun bt227 => ((spec_l6Rd_pick.f k b bt227.2 3).bind fun bt229 => ((spec_PlanSplit.f k p bt222.1 bt227.1 (wrap64 (1 + bt229.1))).bind fun bt231 => (if bt231.2 = true then (spec_l91Cut.l0 k bt231.1 (many : Int) (wrap64 ((t : Int) + 1)) b bt229.2) else (spec_l91Cut.l0 k p (many : Int) (wrap64 ((t : Int) + 1)) b bt229.2)))))))) (fun k => ?_) (Evs.bind hrm (Evs.bind hv1 (Evs.bind hs (Evs.bind hv2 (Evs.bind hsp (Evs.neg (by simp) ?_)))))), h1, h2, by omega⟩
   ·conv => lhs; unfold spec_l91Cut.l0
    rw [if_pos (by omega)]
   ·rw [zbc (by omega)]
    exact hE
theorem Cut_ev (b : List Int) (hb : RdB b) (q : Nat) (hq : q ≤ 10000) (p : List ByteArray) (m : Nat) (hp : Mid p m) (h1 : 1 ≤ p.length) (many : Int) (h0 : 0 ≤ many) (hm : many ≤ 100) : ∃ p' q', Evs (fun k => spec_l91Cut.f k b (q : Int) p many) (p', ((q' : Nat) : Int)) ∧ Mid p' m ∧ p'.length = p.length ∧ q' ≤ q + 300 := by
 obtain ⟨n, rfl⟩ := Int.eq_ofNat_of_zero_le h0
 obtain ⟨p', q', hE, h1, h2, h3⟩ := cut_l0 b hb n m p.length (by omega) h1 n 0 p q (by omega) hp rfl (by omega)
 exact ⟨p', q', hE, h1, h2, by omega⟩
theorem plan_j1 (b : List Int) (hb : RdB b) (q : Nat) (hq : q ≤ 1000) (n m : Nat) (n1 : 1 ≤ n) (n7 : n ≤ 10) (m7 : m ≤ 10) (c : Bool) (hc : c = true → n = 4 ∧ m = 4) : ∃ p q', Evs (fun k => spec_l91Plan.j1 k (n : Int) (m : Int) c b (q : Int)) (p, ((q' : Nat) : Int)) ∧ Mid p m ∧ p.length = n ∧ q' ≤ q + 400 := by
 cases c with
 | true =>
  obtain ⟨rfl, rfl⟩ := hc rfl
  obtain ⟨v, hv, v0, v1, -⟩ := pick_ev b hb q (by omega) 4
  obtain ⟨p, q', hE, h1, h2, h3⟩ := Cut_ev b hb (q + 1) (by omega) [(⟨#[97, 97, 97, 98]⟩ : ByteArray), (⟨#[99, 100, 100, 98]⟩ : ByteArray), (⟨#[99, 100, 100, 98]⟩ : ByteArray), (⟨#[99, 101, 101, 101]⟩ : ByteArray)] 4 ⟨by simp, by omega, fun s hs => by simp at hs; rcases hs with rfl | rfl | rfl <;> rfl⟩ (by simp) v v0 (by have := v1 (by omega); omega)
  refine ⟨p, q', Evs.step (h := fun k => (spec_l6Rd_pick.f k b (q : Int) 4).bind fun bt263 => ((spec_l91Cut.f k b bt263.2 (([(⟨#[97, 97, 97, 98]⟩ : ByteArray), (⟨#[99, 100, 100, 98]⟩ : ByteArray), (⟨#[99, 100, 100, 98]⟩ : ByteArray), (⟨#[99, 101, 101, 101]⟩ : ByteArray)] : List ByteArray)) bt263.1).bind fun bt265 => (some (bt265.1, bt265.2)))) (fun k => ?_) (Evs.bind hv (Evs.bind hE (Evs.const _))), h1, h2, by omega⟩
  show spec_l91Plan.j1 (k + 1) _ _ true b (q : Int) = _
  simp only [spec_l91Plan.j1, if_true]
 | false =>
  obtain ⟨e, hE0, e1, e2⟩ := Empty_ev n m (by omega) (by omega)
  obtain ⟨v, hv, v0, v1, -⟩ := pick_ev b hb q (by omega) 9
  obtain ⟨p, q', hE, h1, h2, h3⟩ := Cut_ev b hb (q + 1) (by omega) e m e1 (by omega) v v0 (by have := v1 (by omega); omega)
  refine ⟨p, q', Evs.step (h := fun k => (spec_l91Empty.f k (n : Int) (m : Int)).bind fun t269 => ((spec_l6Rd_pick.f k b (q : Int) 9).bind fun bt272 => ((spec_l91Cut.f k b bt272.2 t269 bt272.1).bind fun bt274 => (some (bt274.1, bt274.2))))) (fun k => ?_) (Evs.bind hE0 (Evs.bind hv (Evs.bind hE (Evs.const _)))), h1, by omega, by omega⟩
  show spec_l91Plan.j1 (k + 1) _ _ false b (q : Int) = _
  simp only [spec_l91Plan.j1, Bool.false_eq_true, if_false]
theorem plan_j0 (b : List Int) (hb : RdB b) (q : Nat) (hq : q ≤ 900) (n m : Nat) (n1 : 1 ≤ n) (n7 : n ≤ 10) (m7 : m ≤ 10) (c : Bool) (hc : c = true → n = 3 ∧ m = 3) : ∃ p q', Evs (fun k => spec_l91Plan.j0 k (n : Int) (m : Int) c b (q : Int)) (p, ((q' : Nat) : Int)) ∧ Mid p m ∧ p.length = n ∧ q' ≤ q + 500 := by
 cases c with
 | true =>
  obtain ⟨rfl, rfl⟩ := hc rfl
  obtain ⟨v, hv, v0, v1, -⟩ := pick_ev b hb q (by omega) 2
  obtain ⟨p, q', hE, h1, h2, h3⟩ := Cut_ev b hb (q + 1) (by omega) [(⟨#[97, 97, 98]⟩ : ByteArray), (⟨#[99, 100, 98]⟩ : ByteArray), (⟨#[99, 101, 101]⟩ : ByteArray)] 3 ⟨by simp, by omega, fun s hs => by simp at hs; rcases hs with rfl | rfl | rfl <;> rfl⟩ (by simp) v v0 (by have := v1 (by omega); omega)
  refine ⟨p, q', Evs.step (h := fun k => (spec_l6Rd_pick.f k b (q : Int) 2).bind fun bt252 => ((spec_l91Cut.f k b bt252.2 (([(⟨#[97, 97, 98]⟩ : ByteArray), (⟨#[99, 100, 98]⟩ : ByteArray), (⟨#[99, 101, 101]⟩ : ByteArray)] : List ByteArray)) bt252.1).bind fun bt254 => (some (bt254.1, bt254.2)))) (fun k => ?_) (Evs.bind hv (Evs.bind hE (Evs.const _))), h1, h2, by omega⟩
  show spec_l91Plan.j0 (k + 1) _ _ true b (q : Int) = _
  simp only [spec_l91Plan.j0, if_true]
 | false =>
  by_cases h4 : (n : Int) = 4 ∧ (m : Int) = 4
  ·obtain ⟨v, hv, v0, v1, -⟩ := pick_ev b hb q (by omega) 2
   obtain ⟨p, q', hE, h1, h2, h3⟩ := plan_j1 b hb (q + 1) (by omega) n m n1 n7 m7 (v == 0) (fun _ => by omega)
   refine ⟨p, q', Evs.step (h := fun k => (spec_l6Rd_pick.f k b (q : Int) 2).bind fun bt258 => (spec_l91Plan.j1 k (n : Int) (m : Int) (bt258.1 == 0) b bt258.2)) (fun k => ?_) (Evs.bind hv hE), h1, h2, by omega⟩
   show spec_l91Plan.j0 (k + 1) _ _ false b (q : Int) = _
   simp only [spec_l91Plan.j0, Bool.false_eq_true, if_false]
   rw [if_pos h4.1, if_pos h4.2]
  ·obtain ⟨p, q', hE, h1, h2, h3⟩ := plan_j1 b hb q (by omega) n m n1 n7 m7 false (fun h => by cases h)
   refine ⟨p, q', Evs.step (fun k => ?_) hE, h1, h2, by omega⟩
   show spec_l91Plan.j0 (k + 1) _ _ false b (q : Int) = _
   simp only [spec_l91Plan.j0, Bool.false_eq_true, if_false]
   by_cases hn : (n : Int) = 4
   ·rw [if_pos hn, if_neg (fun h => h4 ⟨hn, h⟩)]
   ·rw [if_neg hn]
theorem Plan_ev (b : List Int) (hb : RdB b) (q : Nat) (hq : q ≤ 800) (n m : Nat) (n1 : 1 ≤ n) (n7 : n ≤ 10) (m7 : m ≤ 10) : ∃ p q', Evs (fun k => spec_l91Plan.f k b (q : Int) (n : Int) (m : Int)) (p, ((q' : Nat) : Int)) ∧ Mid p m ∧ p.length = n ∧ q' ≤ q + 600 := by
 by_cases h3 : (n : Int) = 3 ∧ (m : Int) = 3
 ·obtain ⟨v, hv, v0, v1, -⟩ := pick_ev b hb q (by omega) 2
  obtain ⟨p, q', hE, h1, h2, h3'⟩ := plan_j0 b hb (q + 1) (by omega) n m n1 n7 m7 (v == 0) (fun _ => by omega)
  refine ⟨p, q', Evs.congr (h := fun k => (spec_l6Rd_pick.f k b (q : Int) 2).bind fun bt247 => (spec_l91Plan.j0 k (n : Int) (m : Int) (bt247.1 == 0) b bt247.2)) (fun k => ?_) (Evs.bind hv hE), h1, h2, by omega⟩
  unfold spec_l91Plan.f
  rw [if_pos h3.1, if_pos h3.2]
 ·obtain ⟨p, q', hE, h1, h2, h3'⟩ := plan_j0 b hb q (by omega) n m n1 n7 m7 false (fun h => by cases h)
  refine ⟨p, q', Evs.congr (fun k => ?_) hE, h1, h2, by omega⟩
  unfold spec_l91Plan.f
  by_cases hn : (n : Int) = 3
  ·rw [if_pos hn, if_neg (fun h => h3 ⟨hn, h⟩)]
  ·rw [if_neg hn]
theorem Some_ev (b : List Int) (hb : RdB b) (q : Nat) (hq : q ≤ 700) (rows cols : Int) (r1 : 1 ≤ rows) (r7 : rows ≤ 9) (c1 : 1 ≤ cols) (c7 : cols ≤ 9) : ∃ p q', Evs (fun k => spec_l91Some.f k b (q : Int) rows cols) (p, ((q' : Nat) : Int)) ∧ Lil p ∧ q' ≤ 2000 := by
 obtain ⟨v1, hv1, a0, a1, -⟩ := pick_ev b hb q (by omega) rows
 obtain ⟨v2, hv2, b0, b1, -⟩ := pick_ev b hb (q + 1) (by omega) cols
 have a1 := a1 r1
 have b1 := b1 c1
 obtain ⟨i, rfl⟩ := Int.eq_ofNat_of_zero_le a0
 obtain ⟨j, rfl⟩ := Int.eq_ofNat_of_zero_le b0
 have e1 : wrap64 (1 + (i : Int)) = ((i + 1 : Nat) : Int) := by rw [zar (by omega) (by omega)]; omega
 have e2 : wrap64 (1 + (j : Int)) = ((j + 1 : Nat) : Int) := by rw [zar (by omega) (by omega)]; omega
 obtain ⟨p, q', hE, h1, h2, h3⟩ := Plan_ev b hb (q + 1 + 1) (by omega) (i + 1) (j + 1) (by omega) (by omega) (by omega)
 obtain ⟨v3, hv3, c0, -, -⟩ := pick_ev b hb q' (by omega) 50
 have hlast : wrap64 (((i + 1 : Nat) : Int) - 1) = (i : Int) := by rw [zar (by omega) (by omega)]; omega
 have hsz : ∀ k (hk : k < p.length), (p[k]'hk).size = j + 1 := fun k hk => h1.row _ (List.getElem_mem hk)
 by_cases z0 : v3 = 0
 ·refine ⟨p.set i (rdOf ByteArray.empty p (i : Int) ++ (⟨#[97]⟩ : ByteArray)), q' + 1, Evs.bind hv1 (Evs.bind hv2 ?_), ⟨by rw [List.length_set]; omega, fun s hs => ?_⟩, by omega⟩
  ·dsimp only
   rw [e1, e2]
   refine Evs.bind hE (Evs.bind hv3 (Evs.pos z0 ?_))
   simp only [Option.bind_some, List.nil_append, List.length_nil]
   refine Evs.pos (by omega) ?_
   rw [hlast]
   refine Evs.pos (by omega) (Evs.pos (by omega) (Evs.pos ?_ ?_))
   ·rw [rdOf_get p i (by omega), hsz i (by omega)]; omega
   ·rw [Int.toNat_natCast]; exact Evs.const _
  ·rcases List.mem_or_eq_of_mem_set hs with h | h
   ·rw [h1.row s h]; omega
   ·subst h
    rw [rdOf_get p i (by omega), ByteArray.size_append, hsz i (by omega)]
    show j + 1 + 1 ≤ 100
    omega
 ·by_cases z1 : v3 = 1
  ·refine ⟨p.set 0 ((⟨#[122]⟩ : ByteArray) ++ ((rdOf ByteArray.empty p 0).extract 1 (rdOf ByteArray.empty p 0).size)), q' + 1, Evs.bind hv1 (Evs.bind hv2 ?_), ⟨by rw [List.length_set]; omega, fun s hs => ?_⟩, by omega⟩
   ·dsimp only
    rw [e1, e2]
    refine Evs.bind hE (Evs.bind hv3 (Evs.neg z0 (Evs.pos z1 ?_)))
    simp only [Option.bind_some, List.nil_append, List.length_nil]
    have hr0 : rdOf ByteArray.empty p 0 = p[0]'(by omega) := rdOf_get p 0 (by omega)
    refine Evs.pos (by omega) (Evs.pos (by omega) (Evs.pos ?_ (Evs.pos ?_ ?_)))
    ·rw [hr0, hsz 0 (by omega)]; omega
    ·rw [hr0, ByteArray.size_extract, hsz 0 (by omega)]; omega
    ·exact Evs.const _
   ·rcases List.mem_or_eq_of_mem_set hs with h | h
    ·rw [h1.row s h]; omega
    ·subst h
     have hr0 : rdOf ByteArray.empty p 0 = p[0]'(by omega) := rdOf_get p 0 (by omega)
     rw [ByteArray.size_append, ByteArray.size_extract, hr0, hsz 0 (by omega)]
     show 1 + _ ≤ 100
     omega
  ·refine ⟨p, q' + 1, Evs.bind hv1 (Evs.bind hv2 ?_), h1.lil, by omega⟩
   dsimp only
   rw [e1, e2]
   exact Evs.bind hE (Evs.bind hv3 (Evs.neg z0 (Evs.neg z1 (Evs.const _))))
theorem One_ev (l : List Int) (hv : ∀ x ∈ l, 0 ≤ x ∧ x ≤ 255) : ∃ p, Evs (fun k => spec_l91One.f k l) p ∧ Lil p := by
 obtain ⟨b, ho, hb⟩ := open_ev l hv
 obtain ⟨p, q, hE, h1, -⟩ := Some_ev b hb 0 (by omega) 5 5 (by omega) (by omega) (by omega) (by omega)
 exact ⟨p, Evs.bindS ho (Evs.bind hE (Evs.const _)), h1⟩
end Go.Proofs.Ytaepgogafkmooaa.Hd
namespace Go.Proofs.Ytaepgogafkmooaa.Hd
open Go.RowKit Go.PW.PrintWords Go.PW.PrintLast Go.PW.PrintMore Go.Proofs.Ytaepgogafkmooaa.PB
theorem OkG.canon {X : List (List Int)} (h : OkG X) : OkG (canon X) := (floor_okG h.floor).1
theorem rd_at {p : List Int} {i : Nat} {s : Int} (h : p[i]? = some s) : rd p (i : Int) = s := by
 unfold rd; rw [Int.toNat_natCast, List.getD_eq_getElem?_getD, h]; rfl
theorem sameInts_l0 (a b : List Int) (hl : a.length = b.length) (ha : a.length ≤ 1000000) : ∀ m i, i + m = a.length → Evs (fun k => laws_sameInts.l0 k a b (i : Int)) (decide (a.drop i = b.drop i)) := by
 intro m
 induction m with
 | zero =>
  intro i hi
  refine Evs.step (h := fun _ => some (decide (a.drop i = b.drop i))) (fun k => ?_) (Evs.const _)
  conv => lhs; unfold laws_sameInts.l0
  rw [if_neg (by omega), List.drop_eq_nil_of_le (by omega), List.drop_eq_nil_of_le (by omega)]
  rfl
 | succ m ih =>
  intro i hi
  obtain ⟨s, hs⟩ : ∃ s, a[i]? = some s := ⟨_, List.getElem?_eq_getElem (by omega)⟩
  obtain ⟨t, ht⟩ : ∃ t, b[i]? = some t := ⟨_, List.getElem?_eq_getElem (by omega)⟩
  have hsd : a.drop i = s :: a.drop (i + 1) := by rw [List.drop_eq_getElem_cons (by omega)]; rw [List.getElem?_eq_getElem (by omega)] at hs; rw [Option.some.inj hs]
  have htd : b.drop i = t :: b.drop (i + 1) := by rw [List.drop_eq_getElem_cons (by omega)]; rw [List.getElem?_eq_getElem (by omega)] at ht; rw [Option.some.inj ht]
  by_cases e : s = t
  ·have hd : decide (a.drop i = b.drop i) = decide (a.drop (i + 1) = b.drop (i + 1)) := by rw [hsd, htd, e]; simp
   rw [hd]
   refine Evs.step (h := fun k => laws_sameInts.l0 k a b ((i + 1 : Nat) : Int)) (fun k => ?_) (ih (i + 1) (by omega))
   conv => lhs; unfold laws_sameInts.l0
   rw [if_pos (by omega), if_pos (by omega), if_pos (by omega), rd_at hs, rd_at ht, if_pos e, zbc (by omega)]
  ·have hd : decide (a.drop i = b.drop i) = false := by rw [hsd, htd]; simp [e]
   rw [hd]
   refine Evs.step (h := fun _ => some false) (fun k => ?_) (Evs.const _)
   conv => lhs; unfold laws_sameInts.l0
   rw [if_pos (by omega), if_pos (by omega), if_pos (by omega), rd_at hs, rd_at ht, if_neg e]
theorem sameInts_ev (a b : List Int) (ha : a.length ≤ 1000000) : Evs (fun k => laws_sameInts.f k a b) (decide (a = b)) := by
 by_cases hl : a.length = b.length
 ·refine Evs.congr (h := fun k => laws_sameInts.l0 k a b ((0 : Nat) : Int)) (fun k => ?_) (sameInts_l0 a b hl ha a.length 0 (by omega))
  unfold laws_sameInts.f
  rw [if_pos (by omega)]; rfl
 ·have : decide (a = b) = false := by simp; intro h; rw [h] at hl; exact hl rfl
  rw [this]
  refine Evs.congr (h := fun _ => some false) (fun k => ?_) (Evs.const _)
  unfold laws_sameInts.f
  rw [if_neg (by omega)]
theorem sameInts_refl (a : List Int) (ha : a.length ≤ 1000000) : Evs (fun k => laws_sameInts.f k a a) true := by
 have := sameInts_ev a a ha
 simpa using this
end Go.Proofs.Ytaepgogafkmooaa.Hd
