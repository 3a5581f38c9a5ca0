/- Part 5 of the proof of FnExactNearFar: what the program's functions and the reference's compute. -/
import Derived.Test.YtoijjkhdfooapaaProg
import Derived.Below
import Derived.Deep.Draws
import Derived.Deep.AppendLies
import Derived.Maps.AppendAt
import Derived.OwnWalk
import Derived.Laws.BytesArg
import Derived.Laws.MakeOwn
import Derived.Laws.OwnMore
import Derived.Deep.OwnRows
import Derived.Tactics
import Derived.Lib.ConvBytes
import Derived.Laws.Slices
import Derived.WalkKit
import Derived.KernelRfl
import Derived.RowKit3
import Derived.Deep.LoopGhost
import Derived.Deep.QuietTactic
import Derived.BigQuiet
import Derived.WideLaws
import Derived.Deep.DeepCutAuto
import Derived.Deep.CutBlock
import Derived.Deep.RegionHeld3
import Derived.Laws.Rows
import Derived.Lib.AppendStr
import Derived.ArgAppend
import Derived.Laws.IdiomCopy
import Derived.OrdersHeld
import Derived.Laws.BitsLemmas
import Derived.RowKit
import Derived.Test.YtoijjkhdfooapaaCNRd
set_option linter.unusedSimpArgs false
set_option linter.unusedVariables false
namespace Go.Proofs.Ytoijjkhdfooapaa.PB
open Go.RowKit Go.PW.PrintWords Go.PW.PrintLast Go.PW.PrintMore
attribute [local go_sem] zbq zbo zby zbx zbj zbi zbp zbn   -- for this text's walks alone
def impl_near.l0 : Nat → List Int → List Int → Int → Int → Option (List Int)
 | 0, _, _, _, _ => none
 | k + 1, x5, x11, x12, x13 => if x13 < x12 then (if 0 ≤ x13 then (if x13 < (x11.length : Int) then (if (rd x11 x13) > 0 then (if x5.length < 17592186044416 then (impl_near.l0 k (x5 ++ [x13]) x11 x12 (wrap64 (x13 + 1))) else (none)) else (impl_near.l0 k x5 x11 x12 (wrap64 (x13 + 1)))) else (none)) else (none)) else (some x5)
def impl_near.f (k : Nat) (l0 : List (List Int)) (a1 : Int) : Option (List Int) := if 0 ≤ a1 then (if a1 < (l0.length : Int) then (impl_near.l0 k ([] : List Int) (zbm l0 a1) ((zbm l0 a1).length : Int) 0) else (none)) else (none)
set_option maxHeartbeats 8000000 in
set_option maxRecDepth 100000 in
theorem impl_near.calls (k : Nat) (A0 : Option Addr) (c0 : Nat) (l0 : List (List Int)) (a1 : Int) (r : List Int) (w : World) (hr0 : Kd.C (Kd.slice 3 (Kd.int .i64)) w A0 l0.length l0) (hc0 : l0.length ≤ c0) (h : impl_near.f k l0 a1 = some r) :
  Calls Try.prog 72 #[.slice A0 l0.length c0, .int .i64 a1] w fun e w' => ∃ v0_ : Value, e = .returned (v0_) ∧ Kd.R (Kd.int .i64) 3 w' w.heap.size (fun _ => True) v0_ r ∧ Below w.heap.size w w' := by
 have HR0 := zaa.mk hr0
 have HC0 := zaa.mk hc0
 clear hr0 hc0
 have HB := zaa.mk (Below.refl w.heap.size w)
 have H : (if 0 ≤ a1 then (if a1 < (l0.length : Int) then (impl_near.l0 k ([] : List Int) (zbm l0 a1) ((zbm l0 a1).length : Int) 0) else (none)) else (none)) = some r := h
 clear h
 by_cases c3 : 0 ≤ a1
 ·rw [if_pos c3] at H
  have c3b0 : decide (0 ≤ a1) = true := decide_eq_true c3
  clear c3
  by_cases c4 : a1 < (l0.length : Int)
  ·rw [if_pos c4] at H
   have c4b0 : decide (a1 < (l0.length : Int)) = true := decide_eq_true c4
   clear c4
   have H' := zaa.mk H
   clear H
   have p489 : 0 ≤ (a1 : Int) := of_decide_eq_true (by first | (with_reducible assumption) | assumption)
   have q489 : a1 < (l0.length : Int) := of_decide_eq_true (by first | (with_reducible assumption) | assumption)
   obtain ⟨ad489, A489_0, c489_0, e489, hx489_0, hl489_0, hi489_0⟩ := at_L3 HR0.out a1 p489 q489
   cases e489
   have HR489_0 := zaa.mk hi489_0
   have HC489_0 := zaa.mk hl489_0
   clear hi489_0 hl489_0
   replace p489 := eq_true p489
   replace q489 := eq_true q489
   go_enter Try.func72, Try.ntmps72
   go_wp2
   go_loopg [5, 13] k (fun kq v5 v13 w' => ∃ (x5_1 : List Int) (x13_1 : Int), v13 = .int .i64 x13_1 ∧ zaa (impl_near.l0 kq x5_1 (zbm l0 a1) ((zbm l0 a1).length : Int) x13_1 = some r) ∧ zaa (kq ≤ k) ∧ zaa (Kd.R (Kd.int .i64) 3 w' w.heap.size (fun _ => True) v5 x5_1) ∧ zaa (Below w.heap.size w w'))
   case atStart => exact ⟨(([] : List Int)), (0), (by first | rfl | (simp; done) | (simp [*]; done)), H', ⟨Nat.le_refl _⟩, ⟨by first | exact Kd.R_nil _ _ _ _ _ | exact Kd.N_nil _ _ _ _ _ | exact Kd.V_nil _ _ _ _ _ | exact Kd.Q_nil _ _ _ _ _ | exact Kd.S_nil _ _ _ _ _⟩, ⟨by repeat (first | (with_reducible first | exact HB.out | apply zac | apply zab | apply zad) | exact HB.out)⟩⟩
   case round =>
    clear H'
    try clear p2
    try clear c3
    try clear c3b0
    try clear c4
    try clear c4b0
    try clear p4
    try clear q4
    try clear hx4
    try clear hx489_0
    try clear p489
    try clear q489
    obtain ⟨x5_1, x13_1, rfl, HA, HK1, HO_5, HB⟩ := hrel
    cases gk with
    | zero => exact absurd HA.out (by simp [impl_near.l0])
    | succ k1 =>
     have H := HA.out
     clear HA
     simp only [impl_near.l0] at H
     by_cases c5 : x13_1 < ((zbm l0 a1).length : Int)
     ·rw [if_pos c5] at H
      have c5b0 : decide (x13_1 < ((zbm l0 a1).length : Int)) = true := decide_eq_true c5
      clear c5
      by_cases c6 : 0 ≤ x13_1
      ·rw [if_pos c6] at H
       have c6b0 : decide (0 ≤ x13_1) = true := decide_eq_true c6
       clear c6
       by_cases c7 : x13_1 < ((zbm l0 a1).length : Int)
       ·rw [if_pos c7] at H
        have c7b0 : decide (x13_1 < ((zbm l0 a1).length : Int)) = true := decide_eq_true c7
        clear c7
        by_cases c8 : (rd (zbm l0 a1) x13_1) > 0
        ·rw [if_pos c8] at H
         have c8b0 : decide (0 < (rd (zbm l0 a1) x13_1)) = true := decide_eq_true c8
         clear c8
         by_cases c9 : x5_1.length < 17592186044416
         ·rw [if_pos c9] at H
          have LMc9 := zaa.mk c9
          clear c9
          obtain ⟨y491, hy491⟩ : ∃ y_ : List Int, y_ = (x5_1 ++ [x13_1]) := ⟨_, rfl⟩
          replace H : (impl_near.l0 k1 y491 (zbm l0 a1) ((zbm l0 a1).length : Int) (wrap64 (x13_1 + 1))) = some r := by first | (rw [hy491]; with_reducible exact H) | (have H2_ := (Option.bind_some _ _).symm.trans H; rw [hy491]; with_reducible exact H2_) | (have H2_ := (Option.bind_some _ _).symm.trans H; with_reducible exact H2_) | with_reducible exact H | (rw [hy491]; exact H) | exact H
          have Ny491 := zaa.mk hy491
          clear hy491
          have H' := zaa.mk H
          clear H
          have p490 : 0 ≤ (x13_1 : Int) := of_decide_eq_true (by first | (with_reducible assumption) | assumption)
          have q490 : x13_1 < ((zbm l0 a1).length : Int) := of_decide_eq_true (by first | (with_reducible assumption) | assumption)
          obtain ⟨ad490, e490, hx490_0⟩ := Kd.at_int HR489_0.out x13_1 p490 q490
          cases e490
          replace hx490_0 := (HB.out.cell (World.block_lt_of_cell? w _ hx490_0)).trans hx490_0
          replace p490 := eq_true p490
          replace q490 := eq_true q490
          go_wp2_with (first | ((with_reducible refine zav (b := .append) (xs := #[.tmp 20, .tmp 22]) rfl ?_); at_builtin; refine Kd.R_append (Kd.int .i64) (w0 := w) w.heap.size rfl (.tmp 20) (.tmp 22) 34 3 (.int .i64 0) 8 rfl Try.underlying34 info3 rfl (by decide) (by omega) u5 x5_1 x13_1 [.int .i64 x13_1] (fun _ => True) (fun _ => False) rfl rfl ?aP (fun _ hk => hk.elim) ?aF ?aO ?aB ?aS ?aL ?_; (case aP => exact rfl); (case aB => exact (by repeat (first | (with_reducible first | exact HB.out | apply zac | apply zab | apply zad) | exact HB.out))); (case aF => exact (fun _ _ => trivial)); (case aO => exact (by (with_reducible repeat (first | apply Kd.R_alloc | apply Kd.R_drewN | apply Kd.R_drew)); exact HO_5.out)); (case aS => exact (zag (by repeat (first | (with_reducible first | exact HB.out | apply zac | apply zab | apply zad) | exact HB.out)))); (case aL => have := LMc9.out; omega); intro v492 w10 ho hb hg hat; rw [← Ny491.out] at ho; have n0_ := zaa.mk (hb); have n1_ := zaa.mk (ho); clear HB; clear HO_5; have HB := n0_; have HO493 := n1_; clear n0_ n1_; clear ho hb hg hat))
          go_roundg k1
          case measure => have := HK1.out; omega
          case rel => exact ⟨(y491), (wrap64 (x13_1 + 1)), (by first | rfl | (simp; done) | (simp [*]; done)), H', ⟨by have := HK1.out; omega⟩, ⟨by (with_reducible repeat (first | apply Kd.R_alloc | apply Kd.R_drewN | apply Kd.R_drew)); exact HO493.out⟩, ⟨by repeat (first | (with_reducible first | exact HB.out | apply zac | apply zab | apply zad) | exact HB.out)⟩⟩
         ·rw [if_neg c9] at H
          exact absurd H (by simp)
        ·rw [if_neg c8] at H
         have c8b0 : decide (0 < (rd (zbm l0 a1) x13_1)) = false := decide_eq_false c8
         clear c8
         have H' := zaa.mk H
         clear H
         have p490 : 0 ≤ (x13_1 : Int) := of_decide_eq_true (by first | (with_reducible assumption) | assumption)
         have q490 : x13_1 < ((zbm l0 a1).length : Int) := of_decide_eq_true (by first | (with_reducible assumption) | assumption)
         obtain ⟨ad490, e490, hx490_0⟩ := Kd.at_int HR489_0.out x13_1 p490 q490
         cases e490
         replace hx490_0 := (HB.out.cell (World.block_lt_of_cell? w _ hx490_0)).trans hx490_0
         replace p490 := eq_true p490
         replace q490 := eq_true q490
         go_wp2
         go_roundg k1
         case measure => have := HK1.out; omega
         case rel => exact ⟨(x5_1), (wrap64 (x13_1 + 1)), (by first | rfl | (simp; done) | (simp [*]; done)), H', ⟨by have := HK1.out; omega⟩, ⟨by (with_reducible repeat (first | apply Kd.R_alloc | apply Kd.R_drewN | apply Kd.R_drew)); exact HO_5.out⟩, ⟨by repeat (first | (with_reducible first | exact HB.out | apply zac | apply zab | apply zad) | exact HB.out)⟩⟩
       ·rw [if_neg c7] at H
        exact absurd H (by simp)
      ·rw [if_neg c6] at H
       exact absurd H (by simp)
     ·rw [if_neg c5] at H
      have c5b0 : decide (x13_1 < ((zbm l0 a1).length : Int)) = false := decide_eq_false c5
      clear c5
      obtain rfl := Option.some.inj H
      go_wp2
      go_ret
      exact ⟨_, by first | rfl | (simp [zaj, zai] <;> rfl) | (simp [*, zaj, zai] <;> rfl), by (with_reducible repeat (first | apply Kd.R_alloc | apply Kd.R_drewN | apply Kd.R_drew)); exact HO_5.out, by repeat (first | (with_reducible first | exact HB.out | apply zac | apply zab | apply zad) | exact HB.out)⟩
  ·rw [if_neg c4] at H
   exact absurd H (by simp)
 ·rw [if_neg c3] at H
  exact absurd H (by simp)
end Go.Proofs.Ytoijjkhdfooapaa.PB
namespace Go.Proofs.Ytoijjkhdfooapaa.Hd
open Go.RowKit Go.PW.PrintWords Go.PW.PrintLast Go.PW.PrintMore Go.Proofs.Ytoijjkhdfooapaa.PB
theorem hit_diag (x : Int × Int) (a : Int) (h : x.1 ≠ x.2) : hit x a a = 0 := by
 unfold hit
 rw [if_neg (fun e => by subst e; exact h rfl)]
 rfl
theorem hits_trip_diag (cs : List (List Int)) (lv : Bool) (n : Nat) (a : Int) : ∀ j, hits ((trip (difB cs lv) n j).flatMap (touchW cs lv)) a a = 0
 | 0 => rfl
 | j + 1 => by
  simp only [trip]
  rw [List.flatMap_append, hits_append, hits_trip_diag cs lv n a j, hits_runs, sum_runs]
  rw [sumI_congr (g := fun _ => 0) n (fun i hi => by
   split
   ·rename_i h
    rw [dif_sides, bne_iff_ne] at h
    exact hit_diag _ a h
   ·rfl), sumI_zero]
  rfl
theorem hits_diag (cs : List (List Int)) (a : Int) : hits (touchL cs) a a = 0 := by
 unfold touchL upT levT
 rw [hits_append, hits_trip_diag, hits_trip_diag]
 rfl
theorem besN_hits (cs : List (List Int)) (a b : Int) : besN cs a b = hits (touchL cs) a b := by
 unfold besN
 split
 ·rename_i h
  subst h
  exact (hits_diag cs a).symm
 ·rfl
theorem l1Rooms_plan {p : List ByteArray} {cs : List (List Int)} {rs : List Rc} (F : PlanFacts p cs rs) : Evs (fun k => spec_l1Rooms.f k p) (rs.length : Int) := by
 have hR := l1Rooms_ev p _ (gridOk_small F.canon.grid)
 rw [F.canon.max, ← F.rooms] at hR
 exact hR
def touchM (cs : List (List Int)) (n : Nat) : List (List Int) := zbr n n fun a b => hits (touchL cs) a b
def nearL (cs : List (List Int)) (n : Nat) (a : Int) : List Int := ((List.range n).filter fun (b : Nat) => decide (besN cs a (b : Int) > 0)).map fun (b : Nat) => (b : Int)
theorem near_l0 (row : List Int) (hr : row.length ≤ 1000) : ∀ m i, i + m = row.length → Evs (fun k => impl_near.l0 k (((List.range i).filter fun b => decide (row.getD b 0 > 0)).map fun (b : Nat) => (b : Int)) row (row.length : Int) (i : Int)) (((List.range row.length).filter fun b => decide (row.getD b 0 > 0)).map fun (b : Nat) => (b : Int)) := by
 intro m
 induction m with
 | zero =>
  intro i hi
  obtain rfl : i = row.length := by omega
  refine Evs.step (h := fun _ => some (((List.range row.length).filter fun b => decide (row.getD b 0 > 0)).map fun (b : Nat) => (b : Int))) (fun k => ?_) (Evs.const _)
  conv => lhs; unfold impl_near.l0
  rw [if_neg (by omega)]
 | succ m ih =>
  intro i hi
  have hnx := ih (i + 1) (by omega)
  have hl : (((List.range i).filter fun b => decide (row.getD b 0 > 0)).map fun (b : Nat) => (b : Int)).length ≤ 1000 := by
   rw [List.length_map]
   have := List.length_filter_le (fun b => decide (row.getD b 0 > 0)) (List.range i)
   rw [List.length_range] at this
   omega
  rw [List.range_succ, List.filter_append, List.map_append] at hnx
  have hrd : rd row (i : Int) = row.getD i 0 := by unfold rd; rw [Int.toNat_natCast]
  refine Evs.step (fun k => ?_) hnx
  conv => lhs; unfold impl_near.l0
  rw [if_pos (by omega), if_pos (by omega), if_pos (by omega), hrd, zay (by omega)]
  by_cases h : row.getD i 0 > 0
  ·rw [if_pos h, if_pos (by omega)]
   simp only [List.filter_cons, h, decide_true, if_true, List.filter_nil, List.map_cons, List.map_nil]
  ·rw [if_neg h]
   simp only [List.filter_cons, h, decide_false, Bool.false_eq_true, if_false, List.filter_nil, List.map_nil, List.append_nil]
theorem touchM_row (cs : List (List Int)) (n a : Nat) (ha : a < n) : zbm (touchM cs n) (a : Int) = (List.range n).map fun (b : Nat) => hits (touchL cs) a b := by
 unfold zbm touchM
 rw [Int.toNat_natCast, List.getD_eq_getElem?_getD, gridOf_get ha]
 rfl
theorem near_ev (cs : List (List Int)) (n a : Nat) (hn : n ≤ 9) (ha : a < n) : Evs (fun k => impl_near.f k (touchM cs n) (a : Int)) (nearL cs n a) := by
 have hlen : (touchM cs n).length = n := zaz _ _ _
 have hrow := touchM_row cs n a ha
 have := near_l0 ((List.range n).map fun (b : Nat) => hits (touchL cs) a b) (by simp; omega) n 0 (by simp)
 have e : (((List.range ((List.range n).map fun (b : Nat) => hits (touchL cs) a b).length).filter fun b => decide (((List.range n).map fun (b : Nat) => hits (touchL cs) a b).getD b 0 > 0)).map fun (b : Nat) => (b : Int)) = nearL cs n a := by
  unfold nearL
  rw [List.length_map, List.length_range]
  congr 1
  refine List.filter_congr fun b hb => ?_
  have hb := List.mem_range.1 hb
  rw [List.getD_eq_getElem?_getD, List.getElem?_map, List.getElem?_range hb, besN_hits]
  rfl
 rw [e] at this
 refine Evs.congr (fun k => ?_) this
 unfold impl_near.f
 rw [if_pos (by omega), if_pos (by omega), hrow]
 simp
theorem l4Of_l0 {p : List ByteArray} {cs : List (List Int)} {rs : List Rc} (F : PlanFacts p cs rs) (a : Int) : ∀ m i, i + m = rs.length → Evs (fun k => spec_l4Of.l0 k p a (((List.range i).filter fun (b : Nat) => decide (besN cs a (b : Int) > 0)).map fun (b : Nat) => (b : Int)) (i : Int)) (nearL cs rs.length a) := by
 have h9 := F.ok.many
 have hr := l1Rooms_plan F
 intro m
 induction m with
 | zero =>
  intro i hi
  obtain rfl : i = rs.length := by omega
  refine Evs.step (h := fun k => (spec_l1Rooms.f k p).bind fun t477 => (if (rs.length : Int) < t477 then ((spec_l4Beside.f k p a (rs.length : Int)).bind fun t478 => (if t478 > 0 then (if (((List.range rs.length).filter fun (b : Nat) => decide (besN cs a (b : Int) > 0)).map fun (b : Nat) => (b : Int)).length < 17592186044416 then (spec_l4Of.l0 k p a ((((List.range rs.length).filter fun (b : Nat) => decide (besN cs a (b : Int) > 0)).map fun (b : Nat) => (b : Int)) ++ [(rs.length : Int)]) (wrap64 ((rs.length : Int) + 1))) else (none)) else (spec_l4Of.l0 k p a (((List.range rs.length).filter fun (b : Nat) => decide (besN cs a (b : Int) > 0)).map fun (b : Nat) => (b : Int)) (wrap64 ((rs.length : Int) + 1))))) else (some (((List.range rs.length).filter fun (b : Nat) => decide (besN cs a (b : Int) > 0)).map fun (b : Nat) => (b : Int))))) (fun k => ?_) (Evs.bind hr (Evs.neg (by omega) (Evs.const _)))
  conv => lhs; unfold spec_l4Of.l0
 | succ m ih =>
  intro i hi
  have hnx := ih (i + 1) (by omega)
  rw [List.range_succ, List.filter_append, List.filter_cons, List.filter_nil, List.map_append] at hnx
  have hl : (((List.range i).filter fun (b : Nat) => decide (besN cs a (b : Int) > 0)).map fun (b : Nat) => (b : Int)).length ≤ 9 := by
   have := List.length_filter_le (fun (b : Nat) => decide (besN cs a (b : Int) > 0)) (List.range i)
   rw [List.length_range] at this
   rw [List.length_map]
   omega
  generalize ((List.range i).filter fun (b : Nat) => decide (besN cs a (b : Int) > 0)).map (fun (b : Nat) => (b : Int)) = L at *
  refine Evs.step (h := fun k => (spec_l1Rooms.f k p).bind fun t477 => (if (i : Int) < t477 then ((spec_l4Beside.f k p a (i : Int)).bind fun t478 => (if t478 > 0 then (if L.length < 17592186044416 then (spec_l4Of.l0 k p a (L ++ [(i : Int)]) (wrap64 ((i : Int) + 1))) else (none)) else (spec_l4Of.l0 k p a L (wrap64 ((i : Int) + 1))))) else (some L))) (fun k => ?_) ?_
  ·conv => lhs; unfold spec_l4Of.l0
  ·rw [zay (by omega)]
   refine Evs.bind hr (Evs.pos (by omega) (Evs.bind (l4Beside_ev F a i) ?_))
   by_cases hc : besN cs a (i : Int) > 0
   ·refine Evs.pos hc (Evs.pos (by omega) ?_)
    rw [decide_eq_true hc, if_pos rfl] at hnx
    exact hnx
   ·refine Evs.neg hc ?_
    rw [decide_eq_false hc, if_neg (by simp), List.map_nil, List.append_nil] at hnx
    exact hnx
theorem l4Of_ev {p : List ByteArray} {cs : List (List Int)} {rs : List Rc} (F : PlanFacts p cs rs) (a : Int) : Evs (fun k => spec_l4Of.f k p a) (nearL cs rs.length a) := l4Of_l0 F a rs.length 0 (by omega)
theorem nearL_length (cs : List (List Int)) (n : Nat) (a : Int) : (nearL cs n a).length ≤ n := by
 unfold nearL
 have := List.length_filter_le (fun (b : Nat) => decide (besN cs a (b : Int) > 0)) (List.range n)
 rw [List.length_range] at this
 rw [List.length_map]
 exact this
theorem nearL_mem (cs : List (List Int)) (n : Nat) (a x : Int) : x ∈ nearL cs n a ↔ ∃ b : Nat, x = (b : Int) ∧ b < n ∧ besN cs a (b : Int) > 0 := by
 unfold nearL
 rw [List.mem_map]
 constructor
 ·rintro ⟨b, hb, rfl⟩
  obtain ⟨h1, h2⟩ := List.mem_filter.1 hb
  exact ⟨b, rfl, List.mem_range.1 h1, of_decide_eq_true h2⟩
 ·rintro ⟨b, rfl, h1, h2⟩
  exact ⟨b, List.mem_filter.2 ⟨List.mem_range.2 h1, decide_eq_true h2⟩, rfl⟩
end Go.Proofs.Ytoijjkhdfooapaa.Hd
namespace Go.Proofs.Ytoijjkhdfooapaa.SM
open Go.Proofs.Ytoijjkhdfooapaa.PB Go.Proofs.Ytoijjkhdfooapaa.Hd
open Go.RowKit Go.PW.PrintWords Go.PW.PrintLast Go.PW.PrintMore
attribute [local go_sem] zbq zbo zby zbx zbj zbi zbp zbn   -- for this text's walks alone
def errW : Option Int → Value
 | none => .nilIface
 | some c => .iface 0 (.int .i64 c)
theorem zaj : errW none = .nilIface := rfl
theorem zai (c : Int) : errW (some c) = .iface 0 (.int .i64 c) := rfl
theorem info5 : (Try.prog.info? 5).map (fun i => (i.zero, i.size, i.bytes)) = some (some (.int .u8 0), 1, 1) := by kernel_rfl
theorem info9 : (Try.prog.info? 9).map (fun i => (i.zero, i.size, i.bytes)) = some (some (.string ⟨#[]⟩), 1, 16) := by kernel_rfl
end Go.Proofs.Ytoijjkhdfooapaa.SM
namespace Go.Proofs.Ytoijjkhdfooapaa.Hd
open Go.RowKit Go.PW.PrintWords Go.PW.PrintLast Go.PW.PrintMore Go.Proofs.Ytoijjkhdfooapaa.PB
theorem mul_one_f : ∀ n : Nat, n ≤ 9 → bits_Mul.f 1 (n : Int) = some (0, (n : Int)) := by
 intro n hn
 have : n = 0 ∨ n = 1 ∨ n = 2 ∨ n = 3 ∨ n = 4 ∨ n = 5 ∨ n = 6 ∨ n = 7 ∨ n = 8 ∨ n = 9 := by omega
 rcases this with rfl | rfl | rfl | rfl | rfl | rfl | rfl | rfl | rfl | rfl <;> decide
def RepAt (W : World) (g m n : Nat) (x : Int) (e : TypeId) : Prop := W.heap[g]? = some (.cells (List.replicate m (Value.int .i64 x) ++ List.replicate (n - m) (Value.int .i64 0)).toArray e (0, 0))
theorem rep_set (m n : Nat) (a b : Value) (h : m < n) : (List.replicate m a ++ List.replicate (n - m) b).set m a = List.replicate (m + 1) a ++ List.replicate (n - (m + 1)) b := by
 rw [List.set_append_right _ _ (by simp), List.length_replicate, Nat.sub_self]
 obtain ⟨k, hk⟩ : ∃ k, n - m = k + 1 := ⟨n - m - 1, by omega⟩
 rw [hk, List.replicate_succ, List.set_cons_zero, show n - (m + 1) = k by omega, List.replicate_succ', List.append_assoc]
 rfl
theorem RepAt.set {W : World} {g m n : Nat} {x : Int} {e : TypeId} (h : RepAt W g m n x e) (hm : m < n) : RepAt (W.setCell ⟨g, m, none⟩ (.int .i64 x)) g (m + 1) n x e := by
 unfold RepAt
 simp only [World.setCell, Array.getElem?_modify, if_true]
 rw [h]
 simp only [Option.map_some]
 rw [← rep_set m n _ _ hm]
 simp
theorem RepAt.sets {g n : Nat} {x : Int} {e : TypeId} : ∀ (k m : Nat) (W : World), RepAt W g m n x e → m + k ≤ n → RepAt (W.setCells g m (List.replicate k (.int .i64 x))) g (m + k) n x e
 | 0, m, W, h, _ => h
 | k + 1, m, W, h, hm => by
  rw [List.replicate_succ, World.setCells]
  have := RepAt.sets k (m + 1) _ (h.set (by omega)) (by omega)
  rwa [show m + (k + 1) = m + 1 + k by omega]
theorem below_sets {w : World} {g : Nat} (hg : w.heap.size ≤ g) : ∀ (vs : List Value) (o : Nat) (W : World), Below w.heap.size w W → Below w.heap.size w (W.setCells g o vs)
 | [], _, _, h => h
 | v :: r, o, W, h => below_sets hg r (o + 1) _ (zak h hg)
theorem RepAt.cell {W : World} {g m n : Nat} {x : Int} {e : TypeId} (h : RepAt W g m n x e) (j : Nat) (hj : j < m) : W.cell? ⟨g, j, none⟩ = some (.int .i64 x) := by
 have h0 := h
 unfold RepAt at h0
 rw [cell_of_row W g j _ e (0, 0) h0]
 simp [List.getElem?_append, hj]
theorem RepAt.has {W : World} {g m n : Nat} {x : Int} {e : TypeId} (h : RepAt W g m n x e) (hm : m ≤ n) (j : Nat) (hj : j < n) : (W.cell? ⟨g, j, none⟩).isSome = true := by
 have h0 := h
 unfold RepAt at h0
 rw [cell_of_row W g j _ e (0, 0) h0]
 simp
 omega
theorem RepAt.row {W : World} {g n : Nat} {x : Int} {e base : Nat} (h : RepAt W g n n x e) (hb : base ≤ g) (hn : n ≤ 9) : Kd.R (Kd.int .i64) e W base (fun _ => True) (.slice (some ⟨g, 0, none⟩) n n) (List.replicate n x) := by
 refine Kd.R_of_own ⟨by rw [encs_length, Nat.mul_one], .inr ⟨g, n, _, by simp, hb, h, by simp, by unfold maxLen; omega, by simp, ?_⟩⟩ (fun _ _ => trivial)
 simp [encs]
theorem rep_make (w : World) (n : Nat) (h9 : n ≤ 9) : (Instr.makeSlice 34 (.int .i64 (n : Int)) (.int .i64 (n : Int))).run Try.prog w = .ok (.slice (some ⟨w.heap.size, 0, none⟩) n n) (w.alloc (.cells (List.replicate 0 (Value.int .i64 7) ++ List.replicate (n - 0) (Value.int .i64 0)).toArray 3)) := by
 have i3 : (Try.prog.info? 3).map (fun i => (i.zero, i.size, i.bytes)) = some (some (.int .i64 0), 1, 8) := by kernel_rfl
 obtain ⟨i0, hi, hzz⟩ := Option.map_eq_some_iff.1 i3
 simp only [Prod.mk.injEq] at hzz
 obtain ⟨hz0, hz1, hz2⟩ := hzz
 have hr := run_make (P := Try.prog) w 34 3 i0 (.int .i64 0) (by kernel_rfl) hi hz0 .i64 .i64 (n : Int) (n : Int) (by omega) (by omega) (by rw [hz2]; omega) (by omega)
 simp only [Int.toNat_natCast] at hr
 have hc : madeCells (Value.int .i64 0).cells (n * 1) = (List.replicate 0 (Value.int .i64 7) ++ List.replicate (n - 0) (Value.int .i64 0)).toArray := by
  apply Array.ext
  ·simp [size_madeCells]
  ·intro i h1 h2
   have hi1 : i < n := by simpa using h2
   simp [madeCells, Value.cells, Nat.mod_one]
 rw [hr, hz1, hc]
theorem rep_copy (W : World) (g m n k : Nat) (x : Int) (hR : RepAt W g m n x 3) (hk : m + k ≤ n) (a : Addr) (sLen sCap dLen dCap : Nat) (hsrc : ∀ j, j < k → W.cell? (a.add j) = some (.int .i64 x)) (hm : k = Nat.min sLen dLen) :
  (Builtin.copy_ #[34, 34] 3 #[.slice (some ⟨g, m, none⟩) dLen dCap, .slice (some a) sLen sCap]).run Try.prog W = .ok (.int .i64 (k : Int)) (W.setCells g m (List.replicate k (.int .i64 x))) := by
 have h := run_copy_cells (P := Try.prog) W 34 34 3 3 g m dLen dCap a sLen sCap (List.replicate k (.int .i64 x)) (by kernel_rfl) (by kernel_rfl) (by rw [List.length_replicate]; exact hm)
  (fun j v hv => by
   rw [List.getElem?_replicate] at hv
   split at hv
   ·rename_i hj
    injection hv with hv
    subst hv
    exact hsrc j hj
   ·cases hv) (fun j hj => hR.has (by omega) (m + j) (by rw [List.length_replicate] at hj; omega)) (fun j hj => zas hR _) (fun v hv => by rw [List.eq_of_mem_replicate hv]; rfl)
 rw [h, List.length_replicate]
 rfl
theorem val_step {P : Program} {ops : Array Oper} {o : Oper} {a : Act} {Q : Exit → Act → World → Prop} {Kc : Act → World → Prop} {N : Option Tmp} {W w1 : World} {v : Value} (hw : Region.wanted o (yielded ops a.tmps) = true) (hrun : (execOp a.eval o).run P W = .ok (.value v) w1) (h : Kc (a.put o.dst v) w1) : if Region.wanted o (yielded ops a.tmps) = true then Oper.wp P o a W Kc Q else Kc (a.put N undef) W := by
 rw [if_pos hw]
 unfold Oper.wp
 rw [hrun, Oper.upon_value]
 exact h
set_option maxHeartbeats 4000000 in
set_option maxRecDepth 100000 in
theorem Repeat_calls (A0 : Option Addr) (c0 : Nat) (x : Int) (n : Nat) (h1 : 1 ≤ n) (h9 : n ≤ 9) (w : World) (hr0 : (Kd.int .i64).C w A0 1 [x]) (hc0 : 1 ≤ c0) :
  Calls Try.prog 97 #[.slice A0 1 c0, .int .i64 (n : Int)] w fun e w' => ∃ v0_ : Value, e = .returned v0_ ∧ Kd.R (Kd.int .i64) 3 w' w.heap.size (fun _ => True) v0_ (List.replicate n x) ∧ Below w.heap.size w w' := by
 obtain ⟨hl0, hm0, hx0⟩ := hr0
 obtain ⟨ad, rfl, hx1⟩ := hx0 (by decide)
 obtain ⟨cs, hcs, hcl, hcc⟩ := hx1 0 x rfl
 have hcs' : cs = [.int .i64 x] := hcl
 subst hcs'
 have hx : w.cell? (ad.add 0) = some (.int .i64 x) := hcc 0 (.int .i64 x) rfl
 rw [Addr.add_zero'] at hx
 have HX := zaa.mk hx
 have HM := zaa.mk (mul_one_f n h9)
 have i3 : (Try.prog.info? 3).map (fun i => (i.zero, i.size, i.bytes)) = some (some (.int .i64 0), 1, 8) := by kernel_rfl
 have I3 := zaa.mk i3
 have b0 : (0 : Int) ≤ (n : Int) := by omega
 have b1 : (n : Int) ≤ 9 := by omega
 have w1 : IntKind.u64.wrap (n : Int) = (n : Int) := by unfold IntKind.wrap; simp [IntKind.signed, IntKind.bits]; omega
 have w2 : IntKind.i64.wrap (n : Int) = (n : Int) := by rw [zat]; exact zaq (by omega) (by omega)
 clear hl0 hm0 hx0 hx1 hcc hcs hcl hx hc0 i3
 go_enter Try.func97, Try.ntmps97
 go_wp2_with (first
  | (go_at_call 110; refine (bits_Mul.calls 1 (n : Int) 0 (n : Int) _ HM.out).mono ?_; rintro e w8 ⟨rfl, hd8⟩))
 rw [rep_make w8 n h9]
 have hR0 : RepAt (w8.alloc (.cells (List.replicate 0 (Value.int .i64 7) ++ List.replicate (n - 0) (Value.int .i64 0)).toArray 3)) w8.heap.size 0 n x 3 := heap_alloc_new w8 _
 have hB := zac (hd8.below) (.cells (List.replicate 0 (Value.int .i64 7) ++ List.replicate (n - 0) (Value.int .i64 0)).toArray 3)
 have hs := hd8.below.size
 generalize w8.alloc (.cells (List.replicate 0 (Value.int .i64 7) ++ List.replicate (n - 0) (Value.int .i64 0)).toArray 3) = wM at *
 generalize w8.heap.size = g at *
 have HR0 := zaa.mk hR0
 have HB := zaa.mk hB
 have HS := zaa.mk hs
 clear hR0 hB hs hd8 w8
 have hx0 : wM.cell? (ad.add 0) = some (.int .i64 x) := by rw [Addr.add_zero']; exact zah HB.out HX.out
 go_wp2
 rw [rep_copy wM g 0 n 1 x HR0.out (by omega) ad 1 c0 n n (fun j hj => by rw [show j = 0 by omega]; exact hx0) (by simp only [Nat.min_def]; split <;> omega)]
 have hR1 : RepAt (wM.setCells g 0 (List.replicate 1 (.int .i64 x))) g 1 n x 3 := HR0.out.sets 1 0 wM (by omega)
 have hB1 : Below w.heap.size w (wM.setCells g 0 (List.replicate 1 (.int .i64 x))) := below_sets HS.out _ _ _ HB.out
 generalize wM.setCells g 0 (List.replicate 1 (.int .i64 x)) = w1 at *
 have HR1 := zaa.mk hR1
 have HB1 := zaa.mk hB1
 clear hx0 hR1 hB1 HR0 HB HX wM
 go_wp2
 go_loopg [8] (n - 1) (fun kq v8 w' => ∃ m : Nat, v8 = .int .i64 (m : Int) ∧ zaa (m + kq = n) ∧ zaa (1 ≤ m) ∧ zaa (RepAt w' g m n x 3) ∧ zaa (Below w.heap.size w w'))
 case atStart => exact ⟨1, rfl, ⟨by omega⟩, ⟨Nat.le_refl _⟩, HR1, HB1⟩
 case round =>
  obtain ⟨m, rfl, HK, H1, HRm, HBm⟩ := hrel
  have HK' := HK.out
  have H1' := H1.out
  by_cases hm : m < n
  ·have hlt : (m : Int) < (n : Int) := by omega
   have c0 : (0 : Int) ≤ (m : Int) := by omega
   have c1 : (m : Int) ≤ (n : Int) := by omega
   have hne : ¬ n = m := by omega
   obtain ⟨k, hk, hkn, hk1, hkm⟩ : ∃ k, k = Nat.min m (n - m) ∧ m + k ≤ n ∧ 1 ≤ k ∧ k ≤ m := by
    by_cases hq : m ≤ n - m
    ·exact ⟨m, (Nat.min_eq_left hq).symm, by omega, H1', Nat.le_refl _⟩
    ·exact ⟨n - m, (Nat.min_eq_right (by omega)).symm, by omega, by omega, by omega⟩
   have w5 : wrap64 ((m : Int) + (k : Int)) = ((m + k : Nat) : Int) := by rw [zaq (by omega) (by omega)]; omega
   go_wp2
   refine start_ (n := 10) (S := fun w' => True) (ds := []) #[false, false, false, false, false, false, false, false, false, false] (by kernel_rfl) rfl rfl (trivial) (fun hHeld => ?_)
   refine zba (i := 0) (N := some 38) (v := ?_) (a' := ?_) #[true, false, false, false, false, false, false, false, false, false] rfl rfl (by kernel_rfl) (fun _ _ _ h => h) (Or.inl ⟨by rfl, ?_⟩) ?_ ?_
   rotate_left
   ·intro w'
    go_simp
    with_reducible rfl
   rotate_left
   ·simp only [Act.put, List.setIfInBounds_toArray, List.set_cons_zero, List.set_cons_succ, zat, zau]
    rfl
   refine zba (i := 1) (N := some 39) (v := ?_) (a' := ?_) #[true, true, false, false, false, false, false, false, false, false] rfl rfl (by kernel_rfl) (fun _ _ _ h => h) (Or.inl ⟨by rfl, ?_⟩) ?_ ?_
   rotate_left
   ·intro w'
    go_simp
    with_reducible rfl
   rotate_left
   ·simp only [Act.put, List.setIfInBounds_toArray, List.set_cons_zero, List.set_cons_succ, zat, zau]
    rfl
   refine zba (i := 2) (N := some 40) (v := ?_) (a' := ?_) #[true, true, true, false, false, false, false, false, false, false] rfl rfl (by kernel_rfl) (fun _ _ _ h => h) (Or.inl ⟨by rfl, ?_⟩) ?_ ?_
   rotate_left
   ·intro w'
    go_simp
    with_reducible rfl
   rotate_left
   ·simp only [Act.put, List.setIfInBounds_toArray, List.set_cons_zero, List.set_cons_succ, zat, zau]
    rfl
   refine zba (i := 3) (N := some 41) (v := ?_) (a' := ?_) #[true, true, true, true, false, false, false, false, false, false] rfl rfl (by kernel_rfl) (fun _ _ _ h => h) (Or.inl ⟨by rfl, ?_⟩) ?_ ?_
   rotate_left
   ·intro w'
    go_simp
    with_reducible rfl
   rotate_left
   ·simp only [Act.put, List.setIfInBounds_toArray, List.set_cons_zero, List.set_cons_succ, zat, zau]
    rfl
   refine zba (i := 4) (N := some 42) (v := ?_) (a' := ?_) #[true, true, true, true, true, false, false, false, false, false] rfl rfl (by kernel_rfl) (fun _ _ _ h => h) (Or.inl ⟨by rfl, ?_⟩) ?_ ?_
   rotate_left
   ·intro w'
    go_simp
    with_reducible rfl
   rotate_left
   ·simp only [Act.put, List.setIfInBounds_toArray, List.set_cons_zero, List.set_cons_succ, zat, zau]
    rfl
   refine zba (i := 5) (N := some 43) (v := ?_) (a' := ?_) #[true, true, true, true, true, true, false, false, false, false] rfl rfl (by kernel_rfl) (fun _ _ _ h => h) (Or.inl ⟨by rfl, ?_⟩) ?_ ?_
   rotate_left
   ·intro w'
    go_simp
    with_reducible rfl
   rotate_left
   ·simp only [Act.put, List.setIfInBounds_toArray, List.set_cons_zero, List.set_cons_succ, zat, zau]
    rfl
   refine zba (i := 6) (N := some 44) (v := ?_) (a' := ?_) #[true, true, true, true, true, true, true, false, false, false] rfl rfl (by kernel_rfl) (fun _ _ _ h => h) (Or.inl ⟨by rfl, ?_⟩) ?_ ?_
   rotate_left
   ·intro w'
    go_simp
    with_reducible rfl
   rotate_left
   ·simp only [Act.put, List.setIfInBounds_toArray, List.set_cons_zero, List.set_cons_succ, zat, zau]
    rfl
   refine one_ (i := 7) (N := some 45) #[true, true, true, true, true, true, true, true, false, false] rfl rfl (by kernel_rfl) (by decide) (fun K hK => ?_)
   refine val_step (by rfl) (v := .int .i64 (k : Int)) (w1 := wr.drew.setCells g m (List.replicate k (.int .i64 x))) ?_ ?_
   ·have hcp := rep_copy wr.drew g m n k x HRm.out hkn ⟨g, 0, none⟩ m n (n - m) (n - m) (fun j hj => by rw [zbz]; exact RepAt.cell HRm.out j (by omega)) hk
    go_simp
   have hR1 : RepAt (wr.drew.setCells g m (List.replicate k (.int .i64 x))) g (m + k) n x 3 := RepAt.sets k m wr.drew HRm.out hkn
   have hB1 : Below w.heap.size w (wr.drew.setCells g m (List.replicate k (.int .i64 x))) := below_sets HS.out _ _ _ ⟨HBm.out.os, HBm.out.tape, HBm.out.output, HBm.out.size, HBm.out.block⟩
   generalize wr.drew.setCells g m (List.replicate k (.int .i64 x)) = w3 at *
   refine hK.out _ _ trivial (fun hHeld => ?_)
   clear hK K hk
   refine norm_ (a' := ?_) ?_ ?_
   rotate_left
   ·show Act.put _ (some 45) _ = _
    simp only [Act.put, List.setIfInBounds_toArray, List.set_cons_zero, List.set_cons_succ, zat, zau]
    rfl
   refine zba (i := 8) (N := some 46) (v := ?_) (a' := ?_) #[true, true, true, true, true, true, true, true, true, false] rfl rfl (by kernel_rfl) (fun _ _ _ h => h) (Or.inl ⟨by rfl, ?_⟩) ?_ ?_
   rotate_left
   ·intro w'
    go_simp
    with_reducible rfl
   rotate_left
   ·simp only [Act.put, List.setIfInBounds_toArray, List.set_cons_zero, List.set_cons_succ, zat, zau]
    rfl
   refine zba (i := 9) (N := some 8) (v := ?_) (a' := ?_) #[true, true, true, true, true, true, true, true, true, true] rfl rfl (by kernel_rfl) (fun _ _ _ h => h) (Or.inl ⟨by rfl, ?_⟩) ?_ ?_
   rotate_left
   ·intro w'
    go_simp
    with_reducible rfl
   rotate_left
   ·simp only [Act.put, List.setIfInBounds_toArray, List.set_cons_zero, List.set_cons_succ, zat, zau]
    rfl
   refine done_ (by kernel_rfl) ?_
   go_wp2
   go_roundg (n - (m + k))
   case measure => omega
   case rel => exact ⟨m + k, by first | rfl | rw [w5], ⟨by omega⟩, ⟨by omega⟩, ⟨hR1⟩, ⟨hB1⟩⟩
  ·have hge : ¬ (m : Int) < (n : Int) := by omega
   obtain rfl : m = n := by omega
   go_wp2
   go_ret
   exact ⟨_, rfl, HRm.out.row HS.out h9, HBm.out⟩
def slices_Repeat_int_int.f (l0 : List Int) (a1 : Int) : Option (List Int) := if l0.length = 1 ∧ 1 ≤ a1 ∧ a1 ≤ 9 then some (List.replicate a1.toNat (l0.getD 0 0)) else none
theorem slices_Repeat_int_int.calls (A0 : Option Addr) (c0 : Nat) (l0 : List Int) (a1 : Int) (r : List Int) (w : World) (hr0 : Kd.C (Kd.int .i64) w A0 l0.length l0) (hc0 : l0.length ≤ c0) (h : slices_Repeat_int_int.f l0 a1 = some r) :
  Calls Try.prog 97 #[.slice A0 l0.length c0, .int .i64 a1] w fun e w' => ∃ v0_ : Value, e = .returned (v0_) ∧ Kd.R (Kd.int .i64) 3 w' w.heap.size (fun _ => True) v0_ r ∧ Below w.heap.size w w' := by
 unfold slices_Repeat_int_int.f at h
 split at h
 ·rename_i hh
  obtain ⟨h1, h2, h3⟩ := hh
  obtain ⟨x, rfl⟩ : ∃ x, l0 = [x] := by
   cases l0 with
   | nil => cases h1
   | cons x l => cases l with
    | nil => exact ⟨x, rfl⟩
    | cons y l => simp at h1
  obtain ⟨n, rfl⟩ : ∃ n : Nat, a1 = (n : Int) := ⟨a1.toNat, by omega⟩
  have e := Option.some.inj h
  have := Repeat_calls A0 c0 x n (by omega) (by omega) w hr0 hc0
  rw [← e]
  simpa using this
 ·cases h
end Go.Proofs.Ytoijjkhdfooapaa.Hd
namespace Go.Proofs.Ytoijjkhdfooapaa.ST
open Go.Proofs.Ytoijjkhdfooapaa.PB Go.Proofs.Ytoijjkhdfooapaa.Hd Go.Proofs.Ytoijjkhdfooapaa.SM
open Go.RowKit Go.PW.PrintWords Go.PW.PrintLast Go.PW.PrintMore
attribute [local go_sem] zbq zbo zby zbx zbj zbi zbp zbn   -- for this text's walks alone
def errW : Option Int → Value
 | none => .nilIface
 | some c => .iface 0 (.int .i64 c)
theorem zaj : errW none = .nilIface := rfl
theorem zai (c : Int) : errW (some c) = .iface 0 (.int .i64 c) := rfl
theorem info3 : (Try.prog.info? 3).map (fun i => (i.zero, i.size, i.bytes)) = some (some (.int .i64 0), 1, 8) := by kernel_rfl
end Go.Proofs.Ytoijjkhdfooapaa.ST
namespace Go.Proofs.Ytoijjkhdfooapaa.ST
open Go.Proofs.Ytoijjkhdfooapaa.PB Go.Proofs.Ytoijjkhdfooapaa.Hd Go.Proofs.Ytoijjkhdfooapaa.SM
open Go.RowKit Go.PW.PrintWords Go.PW.PrintLast Go.PW.PrintMore
attribute [local go_sem] zbq zbo zby zbx zbj zbi zbp zbn   -- for this text's walks alone
mutual
def impl_steps.l0 : Nat → List (List Int) → List Int → List Int → Option (List Int)
 | 0, _, _, _ => none
 | k + 1, x0, x5, x6 => if (x6.length : Int) > 0 then (if 0 < (x6.length : Int) then ((impl_near.f k x0 (rd x6 0)).bind fun t119 => (impl_steps.l1 k x0 x5 x6 t119 (t119.length : Int) 0)) else (none)) else (some x5)
def impl_steps.l1 : Nat → List (List Int) → List Int → List Int → List Int → Int → Int → Option (List Int)
 | 0, _, _, _, _, _, _ => none
 | k + 1, x0, x5, x6, x27, x28, x29 => if x29 < x28 then (if 0 ≤ x29 then (if x29 < (x27.length : Int) then (if 0 ≤ (rd x27 x29) then (if (rd x27 x29) < (x5.length : Int) then (if (rd x5 (rd x27 x29)) < 0 then (if 0 < (x6.length : Int) then (if 0 ≤ (rd x6 0) then (if (rd x6 0) < (x5.length : Int) then (if x6.length < 17592186044416 then (impl_steps.l1 k x0 (x5.set ((rd x27 x29) : Int).toNat (wrap64 ((rd x5 (rd x6 0)) + 1))) (x6 ++ [rd x27 x29]) x27 x28 (wrap64 (x29 + 1))) else (none)) else (none)) else (none)) else (none)) else (impl_steps.l1 k x0 x5 x6 x27 x28 (wrap64 (x29 + 1)))) else (none)) else (none)) else (none)) else (none)) else (if 1 ≤ (x6.length : Int) then (impl_steps.l0 k x0 x5 (x6.drop (1 : Int).toNat)) else (none))
end
def impl_steps.f (k : Nat) (l0 : List (List Int)) (a1 : Int) : Option (List Int) := (slices_Repeat_int_int.f (([(-1)] : List Int)) (l0.length : Int)).bind fun t111 => (if 0 ≤ a1 then (if a1 < (t111.length : Int) then (impl_steps.l0 k l0 (t111.set (a1 : Int).toNat 0) (([a1] : List Int))) else (none)) else (none))
set_option maxHeartbeats 8000000 in
set_option maxRecDepth 100000 in
theorem impl_steps.calls (k : Nat) (A0 : Option Addr) (c0 : Nat) (l0 : List (List Int)) (a1 : Int) (r : List Int) (w : World) (hr0 : Kd.C (Kd.slice 3 (Kd.int .i64)) w A0 l0.length l0) (hc0 : l0.length ≤ c0) (h : impl_steps.f k l0 a1 = some r) :
  Calls Try.prog 74 #[.slice A0 l0.length c0, .int .i64 a1] w fun e w' => ∃ v0_ : Value, e = .returned (v0_) ∧ Kd.R (Kd.int .i64) 3 w' w.heap.size (fun _ => True) v0_ r ∧ Below w.heap.size w w' := by
 have HR0 := zaa.mk hr0
 have HC0 := zaa.mk hc0
 clear hr0 hc0
 have HB := zaa.mk (Below.refl w.heap.size w)
 have H : ((slices_Repeat_int_int.f (([(-1)] : List Int)) (l0.length : Int)).bind fun t111 => (if 0 ≤ a1 then (if a1 < (t111.length : Int) then (impl_steps.l0 k l0 (t111.set (a1 : Int).toNat 0) (([a1] : List Int))) else (none)) else (none))) = some r := h
 clear h
 obtain ⟨y108, hy108⟩ : ∃ y_ : List Int, y_ = (([(-1)] : List Int)) := ⟨_, rfl⟩
 replace H : ((slices_Repeat_int_int.f y108 (l0.length : Int)).bind fun t111 => (if 0 ≤ a1 then (if a1 < (t111.length : Int) then (impl_steps.l0 k l0 (t111.set (a1 : Int).toNat 0) (([a1] : List Int))) else (none)) else (none))) = some r := by first | (rw [hy108]; with_reducible exact H) | (have H2_ := (Option.bind_some _ _).symm.trans H; rw [hy108]; with_reducible exact H2_) | (have H2_ := (Option.bind_some _ _).symm.trans H; with_reducible exact H2_) | with_reducible exact H | (rw [hy108]; exact H) | exact H
 have Ny108 := zaa.mk hy108
 clear hy108
 replace H := Option.bind_eq_some_iff.mp H
 obtain ⟨t111, A30, H⟩ := H
 replace H : (if 0 ≤ a1 then (if a1 < (t111.length : Int) then (impl_steps.l0 k l0 (t111.set (a1 : Int).toNat 0) (([a1] : List Int))) else (none)) else (none)) = some r := H
 have A3 := zaa.mk A30
 clear A30
 by_cases c4 : 0 ≤ a1
 ·rw [if_pos c4] at H
  have c4b0 : decide (0 ≤ a1) = true := decide_eq_true c4
  clear c4
  by_cases c5 : a1 < (t111.length : Int)
  ·rw [if_pos c5] at H
   have c5b0 : decide (a1 < (t111.length : Int)) = true := decide_eq_true c5
   clear c5
   obtain ⟨y114, hy114⟩ : ∃ y_ : List Int, y_ = (t111.set (a1 : Int).toNat 0) := ⟨_, rfl⟩
   replace H : (impl_steps.l0 k l0 y114 (([a1] : List Int))) = some r := by first | (rw [hy114]; with_reducible exact H) | (have H2_ := (Option.bind_some _ _).symm.trans H; rw [hy114]; with_reducible exact H2_) | (have H2_ := (Option.bind_some _ _).symm.trans H; with_reducible exact H2_) | with_reducible exact H | (rw [hy114]; exact H) | exact H
   have Ny114 := zaa.mk hy114
   clear hy114
   obtain ⟨y115, hy115⟩ : ∃ y_ : List Int, y_ = (([a1] : List Int)) := ⟨_, rfl⟩
   replace H : (impl_steps.l0 k l0 y114 y115) = some r := by first | (rw [hy115]; with_reducible exact H) | (have H2_ := (Option.bind_some _ _).symm.trans H; rw [hy115]; with_reducible exact H2_) | (have H2_ := (Option.bind_some _ _).symm.trans H; with_reducible exact H2_) | with_reducible exact H | (rw [hy115]; exact H) | exact H
   have Ny115 := zaa.mk hy115
   clear hy115
   have H' := zaa.mk H
   clear H
   go_enter Try.func74, Try.ntmps74
   go_wp2_with (first | ((with_reducible refine zax (N := 9) rfl ?_); refine Kd.R_lit (Kd.int .i64) _ 3 ?hg (N := 9) ?hd (xs := ([(-1)] : List Int)) (inner := [.int .i64 (-1)]) (ok := fun _ => True) (okp := fun _ => True) ?hr ?hp (fun _ hk => hk) trivial (Below.refl _ _) (Nat.le_refl _) (by simp) ?_; (case hd => rfl); (case hg => rfl); (case hr => first | (go_simp; done) | (go_simp; rfl)); (case hp => exact (Reps.one (show Kd.M (Kd.int .i64) _ _ _ (-1) [.int .i64 (-1)] from rfl) (Reps.none _ _))); intro v109 w7 ho8 hb hg_ hnew_; clear hg_ hnew_; (first | rw [← Ny108.out] at ho8 | (simp only [Int.reduceToNat] at ho8; rw [← Ny108.out] at ho8)); have n0_ := zaa.mk (Kd.R_lower ho8 (zag (by repeat (first | (with_reducible first | exact HB.out | apply zac | apply zab | apply zad) | exact HB.out)))); have n1_ := zaa.mk (zaf (by repeat (first | (with_reducible first | exact HB.out | apply zac | apply zab | apply zad) | exact HB.out)) hb); clear HB; have HO110 := n0_; have HB := n1_; clear n0_ n1_; clear hb ho8; obtain ⟨Ao9, co9, eo9⟩ := Kd.R_slice HO110.out; subst eo9) | ((with_reducible refine zap (f := 97) rfl ?_); refine zbt (some 12) rfl rfl Try.func97 (by kernel_rfl) rfl #[.slice Ao9 y108.length co9, .int .i64 (l0.length : Int)] rfl (by (try simp only [List.map_toArray, List.map_cons, List.map_nil]); first | done | rfl | (simp only [List.length_drop, List.length_take]; rfl)) ?_; (with_reducible refine (slices_Repeat_int_int.calls _ _ y108 (l0.length : Int) t111 _ ?side1 ?side2 A3.out).mono ?_); (case side1 => repeat (first | exact (Kd.R_reads' HO110.out).2.2 | (with_reducible refine Kd.C_alloc ?_ _) | (with_reducible refine Kd.C_drewN ?_ _) | (with_reducible refine Kd.C_drew ?_))); (case side2 => exact (Kd.R_reads' HO110.out).2.1); rintro e w10 ⟨v112, rfl, ho0, hb⟩; refine ⟨_, rfl, ?_⟩; have n0_ := zaa.mk (Kd.R_elder' (by (with_reducible repeat (first | apply Kd.R_alloc | apply Kd.R_drewN | apply Kd.R_drew)); exact HO110.out) (Kd.R_base ho0) hb); have n1_ := zaa.mk (Kd.R_lower (Kd.R_new' ho0 (Kd.R_lt (by (with_reducible repeat (first | apply Kd.R_alloc | apply Kd.R_drewN | apply Kd.R_drew)); exact HO110.out))) (zag (by repeat (first | (with_reducible first | exact HB.out | apply zac | apply zab | apply zad) | exact HB.out)))); have n2_ := zaa.mk (zaf (by repeat (first | (with_reducible first | exact HB.out | apply zac | apply zab | apply zad) | exact HB.out)) hb); clear HO110; clear HB; have HO110 := n0_; have HO113 := n1_; have HB := n2_; clear n0_ n1_ n2_; (try clear hb); (try clear hb2); (try clear hk); (try clear hi); (try clear ho0); have p6 : 0 ≤ (a1 : Int) := of_decide_eq_true (by first | (with_reducible assumption) | assumption); have q6 : (a1 : Int) < ((t111.length : Int) : Int) := of_decide_eq_true (by first | (with_reducible assumption) | assumption); obtain ⟨go6, co6, eo6, gb6, gl6, cl6, HG6⟩ := Kd.R_form HO113.out (by omega); (first | cases eo6 | (injection eo6 with ea_ en_ ec_; (first | subst ea_ | (injection ea_ with ea_; subst ea_)); subst ec_; clear en_)); have GB6 := zaa.mk gb6; have GG6 := zaa.mk HG6; clear gb6 gl6 HG6; obtain ⟨hx6_0, hf6_0⟩ := Kd.R_celln 0 HO113.out (a1 : Int) p6 q6; replace p6 := eq_true p6; replace q6 := eq_true q6; have n_ := zaa.mk (Kd.R_mono (ok' := (fun k_ => some k_ ≠ (.slice Ao9 y108.length co9 : Value).ownBlock)) HO113.out (fun k_ hk => hk.2)); clear HO113; have HO113 := n_; clear n_; obtain ⟨hy11_, hz11_⟩ := Kd.R_celln 0 HO113.out (a1 : Int) (of_decide_eq_true (by first | (with_reducible assumption) | assumption)) (of_decide_eq_true (by first | (with_reducible assumption) | assumption)); have HP11 := Kd.R_putg HO113.out (a1 : Int) 0) | ((with_reducible refine gate_store (t := 3) (p := 15) rfl ?_); refine store_event (t := 3) (p := 15) (v := ?vo_w12) (w1 := (w10.setCell ⟨go6, (a1 : Int).toNat, none⟩ (.int .i64 0))) ?hg ?ho ?hn ?hr ?_; (case ho => rfl); (case hg => rfl); (case hn => rfl); (case hr => first | (go_simp; done) | (go_simp; rfl)); intro w12 hw; have hg : w10.grownBy w12 (some go6) := (by rw [hw]; exact HP11.2); have hp_ : Kd.R (Kd.int .i64) 3 w12 w.heap.size (fun k_ => some k_ ≠ (.slice Ao9 y108.length co9 : Value).ownBlock) (.slice (some ⟨go6, 0, none⟩) t111.length co6) y114 := (by rw [hw, Ny114.out]; exact HP11.1); clear HP11; have n0_ := zaa.mk (Kd.R_after (v := (.slice (some ⟨go6, 0, none⟩) t111.length co6)) (v1 := (.slice (some ⟨go6, 0, none⟩) t111.length co6)) (ok := (fun _ => True)) (by (with_reducible repeat (first | apply Kd.R_alloc | apply Kd.R_drewN | apply Kd.R_drew)); exact HO110.out) hg (.inl rfl)); have n1_ := zaa.mk (hp_); have n2_ := zaa.mk ((by rw [hw]; exact zak (HB.out) GB6.out : Below w.heap.size w w12)); clear HO110; clear HO113; clear HB; have HO110 := n0_; have HO113 := n1_; have HB := n2_; clear n0_ n1_ n2_; clear hg hw hp_) | ((with_reducible refine zax (N := 17) rfl ?_); refine Kd.R_lit (Kd.int .i64) _ 3 ?hg (N := 17) ?hd (xs := ([a1] : List Int)) (inner := [.int .i64 a1]) (ok := fun _ => True) (okp := fun _ => True) ?hr ?hp (fun _ hk => hk) trivial (Below.refl _ _) (Nat.le_refl _) (by simp) ?_; (case hd => rfl); (case hg => rfl); (case hr => first | (go_simp; done) | (go_simp; rfl)); (case hp => exact (Reps.one (show Kd.M (Kd.int .i64) _ _ _ a1 [.int .i64 a1] from rfl) (Reps.none _ _))); intro v116 w13 ho14 hb hg_ hnew_; clear hg_ hnew_; (first | rw [← Ny115.out] at ho14 | (simp only [Int.reduceToNat] at ho14; rw [← Ny115.out] at ho14)); have n0_ := zaa.mk (Kd.R_elder' (by (with_reducible repeat (first | apply Kd.R_alloc | apply Kd.R_drewN | apply Kd.R_drew)); exact HO110.out) (Kd.R_base ho14) hb); have n1_ := zaa.mk (Kd.R_elder' (by (with_reducible repeat (first | apply Kd.R_alloc | apply Kd.R_drewN | apply Kd.R_drew)); exact HO113.out) (Kd.R_base ho14) hb); have n2_ := zaa.mk (Kd.R_lower (Kd.R_new' (Kd.R_new' ho14 (Kd.R_lt (by (with_reducible repeat (first | apply Kd.R_alloc | apply Kd.R_drewN | apply Kd.R_drew)); exact HO110.out))) (Kd.R_lt (by (with_reducible repeat (first | apply Kd.R_alloc | apply Kd.R_drewN | apply Kd.R_drew)); exact HO113.out))) (zag (by repeat (first | (with_reducible first | exact HB.out | apply zac | apply zab | apply zad) | exact HB.out)))); have n3_ := zaa.mk (zaf (by repeat (first | (with_reducible first | exact HB.out | apply zac | apply zab | apply zad) | exact HB.out)) hb); clear HO110; clear HO113; clear HB; have HO110 := n0_; have HO113 := n1_; have HO117 := n2_; have HB := n3_; clear n0_ n1_ n2_ n3_; clear hb ho14))
   go_loopg [6] k (fun kq v6 w' => ∃ (x5_1 : List Int) (x6_1 : List Int), zaa (impl_steps.l0 kq l0 x5_1 x6_1 = some r) ∧ zaa (kq ≤ k) ∧ zaa (Kd.R (Kd.int .i64) 3 w' w.heap.size (fun k_ => some k_ ≠ (v6 : Value).ownBlock) (.slice (some ⟨go6, 0, none⟩) t111.length co6) x5_1) ∧ zaa (Kd.Q (Kd.int .i64) 3 w' w.heap.size (fun k_ => some k_ ≠ ((.slice (some ⟨go6, 0, none⟩) t111.length co6) : Value).ownBlock) v6 x6_1) ∧ zaa (Below w.heap.size w w'))
   case atStart => exact ⟨(y114), (y115), H', ⟨Nat.le_refl _⟩, ⟨by (with_reducible repeat (first | apply Kd.R_alloc | apply Kd.R_drewN | apply Kd.R_drew)); exact Kd.R_mono HO113.out (fun _ hk => hk.2)⟩, ⟨Kd.Q_of_R (by (with_reducible repeat (first | apply Kd.R_alloc | apply Kd.R_drewN | apply Kd.R_drew)); exact Kd.R_mono HO117.out (fun _ hk => hk.2))⟩, ⟨by repeat (first | (with_reducible first | exact HB.out | apply zac | apply zab | apply zad) | exact HB.out)⟩⟩
   case round =>
    clear H'
    try clear p2
    try clear c4
    try clear c4b0
    try clear c5
    try clear c5b0
    try clear p6
    try clear q6
    try clear hx6
    try clear hf6
    try clear c7
    try clear c9
    try clear hx6_0
    try clear p6
    try clear q6
    obtain ⟨x5_1, x6_1, HA, HK1, HO_5, HO_6, HB⟩ := hrel
    have hl5_1 := (Kd.R_reads' HO_5.out).1
    rw [hl5_1] at HO_5
    (try simp only [hl5_1])
    (try simp only [hl5_1] at HO_6)
    cases gk with
    | zero => exact absurd HA.out (by simp [impl_steps.l0])
    | succ k1 =>
     have H := HA.out
     clear HA
     simp only [impl_steps.l0] at H
     by_cases c15 : (x6_1.length : Int) > 0
     ·rw [if_pos c15] at H
      have c15b0 : decide (0 < (x6_1.length : Int)) = true := decide_eq_true c15
      have c15b1 : decide (0 < x6_1.length) = true := decide_eq_true (by omega)
      clear c15
      by_cases c16 : 0 < (x6_1.length : Int)
      ·rw [if_pos c16] at H
       have c16b0 : decide (0 < (x6_1.length : Int)) = true := decide_eq_true c16
       have c16b1 : decide (0 < x6_1.length) = true := decide_eq_true (by omega)
       clear c16
       replace H := Option.bind_eq_some_iff.mp H
       obtain ⟨t119, A170, H⟩ := H
       replace H : (impl_steps.l1 k1 l0 x5_1 x6_1 t119 (t119.length : Int) 0) = some r := H
       have A17 := zaa.mk A170
       clear A170
       have H' := zaa.mk H
       clear H
       obtain ⟨Ao18, co18, eo18, _⟩ := Kd.Q_slice HO_6.out
       subst eo18
       have p118 : 0 ≤ (0 : Int) := (by omega)
       have q118 : 0 < (x6_1.length : Int) := of_decide_eq_true (by first | (with_reducible assumption) | assumption)
       obtain ⟨ad118, e118, hx118_0⟩ := Kd.at_int (Kd.Q_reads' HO_6.out).2.2 0 p118 q118
       cases e118
       have qi118 : (0 < x6_1.length) = True := eq_true (by omega)
       (try rw [show ((0 : Int)).toNat = 0 from rfl] at hx118_0)
       (try rw [Addr.add_zero'] at hx118_0)
       replace p118 := eq_true p118
       replace q118 := eq_true q118
       go_wp2_with (first | ((with_reducible refine zap (f := 72) rfl ?_); refine zbt (some 27) rfl rfl Try.func72 (by kernel_rfl) rfl #[.slice A0 l0.length c0, .int .i64 (rd x6_1 0)] rfl (by (try simp only [List.map_toArray, List.map_cons, List.map_nil]); first | done | rfl | (simp only [List.length_drop, List.length_take]; rfl)) ?_; (with_reducible refine (impl_near.calls k1 _ _ l0 (rd x6_1 0) t119 _ ?side1 ?side2 A17.out).mono ?_); (case side1 => repeat (first | exact (Kd.C_below HR0.out HB.out) | (with_reducible refine Kd.C_alloc ?_ _) | (with_reducible refine Kd.C_drewN ?_ _) | (with_reducible refine Kd.C_drew ?_))); (case side2 => exact HC0.out); rintro e w19 ⟨v120, rfl, ho0, hb⟩; refine ⟨_, rfl, ?_⟩; have n0_ := zaa.mk (Kd.R_elder' (by (with_reducible repeat (first | apply Kd.R_alloc | apply Kd.R_drewN | apply Kd.R_drew)); exact HO_5.out) (Kd.R_base ho0) hb); have n1_ := zaa.mk (Kd.Q_elder' (by (with_reducible repeat (first | apply Kd.Q_alloc | apply Kd.Q_drewN | apply Kd.Q_drew)); exact HO_6.out) (Kd.R_base ho0) hb); have n2_ := zaa.mk (Kd.R_lower (Kd.R_new' (Kd.R_new' ho0 (Kd.R_lt (by (with_reducible repeat (first | apply Kd.R_alloc | apply Kd.R_drewN | apply Kd.R_drew)); exact HO_5.out))) (Kd.Q_lt (by (with_reducible repeat (first | apply Kd.Q_alloc | apply Kd.Q_drewN | apply Kd.Q_drew)); exact HO_6.out))) (zag (by repeat (first | (with_reducible first | exact HB.out | apply zac | apply zab | apply zad) | exact HB.out)))); have n3_ := zaa.mk (zaf (by repeat (first | (with_reducible first | exact HB.out | apply zac | apply zab | apply zad) | exact HB.out)) hb); clear HO_5; clear HO_6; clear HB; have HO_5 := n0_; have HO_6 := n1_; have HO121 := n2_; have HB := n3_; clear n0_ n1_ n2_ n3_; (try clear hb); (try clear hb2); (try clear hk); (try clear hi); (try clear ho0); obtain ⟨Ao20, co20, eo20⟩ := Kd.R_slice HO121.out; subst eo20))
       go_loopg [6, 29] k1 (fun kq v6 v29 w' => ∃ (x5_2 : List Int) (x6_2 : List Int) (x29_2 : Int), v29 = .int .i64 x29_2 ∧ zaa (impl_steps.l1 kq l0 x5_2 x6_2 t119 (t119.length : Int) x29_2 = some r) ∧ zaa (kq ≤ k1) ∧ zaa (Kd.R (Kd.int .i64) 3 w' w.heap.size (fun k_ => some k_ ≠ (v6 : Value).ownBlock ∧ some k_ ≠ ((.slice Ao20 t119.length co20) : Value).ownBlock) (.slice (some ⟨go6, 0, none⟩) x5_1.length co6) x5_2) ∧ zaa (Kd.Q (Kd.int .i64) 3 w' w.heap.size (fun k_ => some k_ ≠ ((.slice (some ⟨go6, 0, none⟩) x5_1.length co6) : Value).ownBlock ∧ some k_ ≠ ((.slice Ao20 t119.length co20) : Value).ownBlock) v6 x6_2) ∧ zaa (Kd.R (Kd.int .i64) 3 w' w.heap.size (fun k_ => some k_ ≠ ((.slice (some ⟨go6, 0, none⟩) x5_1.length co6) : Value).ownBlock ∧ some k_ ≠ (v6 : Value).ownBlock) (.slice Ao20 t119.length co20) t119) ∧ zaa (Below w.heap.size w w'))
       case atStart => exact ⟨(x5_1), (x6_1), (0), (by first | rfl | (simp; done) | (simp [*]; done)), H', ⟨Nat.le_refl _⟩, ⟨by (try simp only [hl5_1]); (with_reducible repeat (first | apply Kd.R_alloc | apply Kd.R_drewN | apply Kd.R_drew)); exact HO_5.out⟩, ⟨by (try simp only [hl5_1]); (with_reducible repeat (first | apply Kd.Q_alloc | apply Kd.Q_drewN | apply Kd.Q_drew)); exact HO_6.out⟩, ⟨by (try simp only [hl5_1]); (with_reducible repeat (first | apply Kd.R_alloc | apply Kd.R_drewN | apply Kd.R_drew)); exact Kd.R_mono HO121.out (fun _ hk => ⟨hk.1.2, hk.2⟩)⟩, ⟨by repeat (first | (with_reducible first | exact HB.out | apply zac | apply zab | apply zad) | exact HB.out)⟩⟩
       case round =>
        clear H'
        try clear c1
        try clear p1
        try clear q1
        try clear hx1
        try clear qi1
        try clear p2
        try clear c4
        try clear c4b0
        try clear c5
        try clear c5b0
        try clear p6
        try clear q6
        try clear hx6
        try clear hf6
        try clear c7
        try clear c9
        try clear p11
        try clear q11
        try clear hx11
        try clear qi11
        try clear c15
        try clear c15b0
        try clear c15b1
        try clear c16
        try clear c16b0
        try clear c16b1
        try clear hx118_0
        try clear hx6_0
        try clear p118
        try clear p2
        try clear p6
        try clear q118
        try clear q6
        obtain ⟨x5_2, x6_2, x29_2, rfl, HA, HK2, HO_5, HO_6, HO_27, HB⟩ := hrel
        have hl5_2 := (Kd.R_reads' HO_5.out).1
        rw [hl5_2] at HO_5
        (try simp only [hl5_2])
        (try simp only [hl5_2] at HO_6)
        (try simp only [hl5_2] at HO_27)
        cases gk with
        | zero => exact absurd HA.out (by simp [impl_steps.l1])
        | succ k2 =>
         have H := HA.out
         clear HA
         simp only [impl_steps.l1] at H
         by_cases c21 : x29_2 < (t119.length : Int)
         ·rw [if_pos c21] at H
          have c21b0 : decide (x29_2 < (t119.length : Int)) = true := decide_eq_true c21
          clear c21
          by_cases c22 : 0 ≤ x29_2
          ·rw [if_pos c22] at H
           have c22b0 : decide (0 ≤ x29_2) = true := decide_eq_true c22
           clear c22
           by_cases c23 : x29_2 < (t119.length : Int)
           ·rw [if_pos c23] at H
            have c23b0 : decide (x29_2 < (t119.length : Int)) = true := decide_eq_true c23
            clear c23
            by_cases c24 : 0 ≤ (rd t119 x29_2)
            ·rw [if_pos c24] at H
             have c24b0 : decide (0 ≤ (rd t119 x29_2)) = true := decide_eq_true c24
             clear c24
             by_cases c25 : (rd t119 x29_2) < (x5_2.length : Int)
             ·rw [if_pos c25] at H
              have c25b0 : decide ((rd t119 x29_2) < (x5_2.length : Int)) = true := decide_eq_true c25
              clear c25
              by_cases c26 : (rd x5_2 (rd t119 x29_2)) < 0
              ·rw [if_pos c26] at H
               have c26b0 : decide ((rd x5_2 (rd t119 x29_2)) < 0) = true := decide_eq_true c26
               clear c26
               by_cases c27 : 0 < (x6_2.length : Int)
               ·rw [if_pos c27] at H
                have c27b0 : decide (0 < (x6_2.length : Int)) = true := decide_eq_true c27
                have c27b1 : decide (0 < x6_2.length) = true := decide_eq_true (by omega)
                clear c27
                by_cases c28 : 0 ≤ (rd x6_2 0)
                ·rw [if_pos c28] at H
                 have c28b0 : decide (0 ≤ (rd x6_2 0)) = true := decide_eq_true c28
                 clear c28
                 by_cases c29 : (rd x6_2 0) < (x5_2.length : Int)
                 ·rw [if_pos c29] at H
                  have c29b0 : decide ((rd x6_2 0) < (x5_2.length : Int)) = true := decide_eq_true c29
                  clear c29
                  obtain ⟨y126, hy126⟩ : ∃ y_ : List Int, y_ = (x5_2.set ((rd t119 x29_2) : Int).toNat (wrap64 ((rd x5_2 (rd x6_2 0)) + 1))) := ⟨_, rfl⟩
                  replace H : (if x6_2.length < 17592186044416 then (impl_steps.l1 k2 l0 y126 (x6_2 ++ [rd t119 x29_2]) t119 (t119.length : Int) (wrap64 (x29_2 + 1))) else (none)) = some r := by first | (rw [hy126]; with_reducible exact H) | (have H2_ := (Option.bind_some _ _).symm.trans H; rw [hy126]; with_reducible exact H2_) | (have H2_ := (Option.bind_some _ _).symm.trans H; with_reducible exact H2_) | with_reducible exact H | (rw [hy126]; exact H) | exact H
                  have Ny126 := zaa.mk hy126
                  clear hy126
                  by_cases c31 : x6_2.length < 17592186044416
                  ·rw [if_pos c31] at H
                   have LMc31 := zaa.mk c31
                   clear c31
                   obtain ⟨y127, hy127⟩ : ∃ y_ : List Int, y_ = (x6_2 ++ [rd t119 x29_2]) := ⟨_, rfl⟩
                   replace H : (impl_steps.l1 k2 l0 y126 y127 t119 (t119.length : Int) (wrap64 (x29_2 + 1))) = some r := by first | (rw [hy127]; with_reducible exact H) | (have H2_ := (Option.bind_some _ _).symm.trans H; rw [hy127]; with_reducible exact H2_) | (have H2_ := (Option.bind_some _ _).symm.trans H; with_reducible exact H2_) | with_reducible exact H | (rw [hy127]; exact H) | exact H
                   have Ny127 := zaa.mk hy127
                   clear hy127
                   have H' := zaa.mk H
                   clear H
                   have p122 : 0 ≤ (x29_2 : Int) := of_decide_eq_true (by first | (with_reducible assumption) | assumption)
                   have q122 : x29_2 < (t119.length : Int) := of_decide_eq_true (by first | (with_reducible assumption) | assumption)
                   obtain ⟨ad122, e122, hx122_0⟩ := Kd.at_int (Kd.R_reads' HO_27.out).2.2 x29_2 p122 q122
                   cases e122
                   replace p122 := eq_true p122
                   replace q122 := eq_true q122
                   have p123 : 0 ≤ ((rd t119 x29_2) : Int) := of_decide_eq_true (by first | (with_reducible assumption) | assumption)
                   have q123 : (rd t119 x29_2) < (x5_2.length : Int) := of_decide_eq_true (by first | (with_reducible assumption) | assumption)
                   obtain ⟨ad123, e123, hx123_0⟩ := Kd.at_int (Kd.R_reads' HO_5.out).2.2 (rd t119 x29_2) p123 q123
                   obtain rfl : (⟨go6, 0, none⟩ : Addr) = ad123 := (by injection e123)
                   (first | simp only [zbz] at hx123_0 | simp only [add_at] at hx123_0 | simp only [Addr.add, Nat.zero_add] at hx123_0 | skip)
                   replace p123 := eq_true p123
                   replace q123 := eq_true q123
                   obtain ⟨Ao32, co32, eo32, _⟩ := Kd.Q_slice HO_6.out
                   subst eo32
                   have p124 : 0 ≤ (0 : Int) := (by omega)
                   have q124 : 0 < (x6_2.length : Int) := of_decide_eq_true (by first | (with_reducible assumption) | assumption)
                   obtain ⟨ad124, e124, hx124_0⟩ := Kd.at_int (Kd.Q_reads' HO_6.out).2.2 0 p124 q124
                   cases e124
                   have qi124 : (0 < x6_2.length) = True := eq_true (by omega)
                   (try rw [show ((0 : Int)).toNat = 0 from rfl] at hx124_0)
                   (try rw [Addr.add_zero'] at hx124_0)
                   replace p124 := eq_true p124
                   replace q124 := eq_true q124
                   have p125 : 0 ≤ ((rd x6_2 0) : Int) := of_decide_eq_true (by first | (with_reducible assumption) | assumption)
                   have q125 : (rd x6_2 0) < (x5_2.length : Int) := of_decide_eq_true (by first | (with_reducible assumption) | assumption)
                   obtain ⟨ad125, e125, hx125_0⟩ := Kd.at_int (Kd.R_reads' HO_5.out).2.2 (rd x6_2 0) p125 q125
                   obtain rfl : (⟨go6, 0, none⟩ : Addr) = ad125 := (by injection e125)
                   (first | simp only [zbz] at hx125_0 | simp only [add_at] at hx125_0 | simp only [Addr.add, Nat.zero_add] at hx125_0 | skip)
                   replace p125 := eq_true p125
                   replace q125 := eq_true q125
                   have p30 : 0 ≤ ((rd t119 x29_2) : Int) := of_decide_eq_true (by first | (with_reducible assumption) | assumption)
                   have q30 : ((rd t119 x29_2) : Int) < ((x5_2.length : Int) : Int) := of_decide_eq_true (by first | (with_reducible assumption) | assumption)
                   obtain ⟨hx30_0, hf30_0⟩ := Kd.R_celln 0 HO_5.out ((rd t119 x29_2) : Int) p30 q30
                   replace p30 := eq_true p30
                   replace q30 := eq_true q30
                   have HP33 := Kd.R_putg HO_5.out ((rd t119 x29_2) : Int) (wrap64 ((rd x5_2 (rd x6_2 0)) + 1))
                   go_wp2_with (first | ((with_reducible refine gate_store (t := 3) (p := 47) rfl ?_); refine store_event (t := 3) (p := 47) (v := ?vo_w34) (w1 := (wr.setCell ⟨go6, ((rd t119 x29_2) : Int).toNat, none⟩ (.int .i64 (wrap64 ((rd x5_2 (rd x6_2 0)) + 1))))) ?hg ?ho ?hn ?hr ?_; (case ho => rfl); (case hg => rfl); (case hn => rfl); (case hr => first | (go_simp; done) | (go_simp; rfl)); intro w34 hw; have hg : wr.grownBy w34 (some go6) := (by rw [hw]; exact HP33.2); have hp_ : Kd.R (Kd.int .i64) 3 w34 w.heap.size (fun k_ => some k_ ≠ (.slice (some ad124) x6_2.length co32 : Value).ownBlock ∧ some k_ ≠ (.slice (some ad122) t119.length co20 : Value).ownBlock) (.slice (some ⟨go6, 0, none⟩) x5_2.length co6) y126 := (by rw [hw, Ny126.out]; exact HP33.1); clear HP33; have n0_ := zaa.mk (hp_); have n1_ := zaa.mk (Kd.Q_after (v := (.slice (some ⟨go6, 0, none⟩) x5_2.length co6)) (v1 := (.slice (some ⟨go6, 0, none⟩) x5_2.length co6)) (ok := (fun k_ => some k_ ≠ (.slice (some ad122) t119.length co20 : Value).ownBlock)) (by (with_reducible repeat (first | apply Kd.Q_alloc | apply Kd.Q_drewN | apply Kd.Q_drew)); exact Kd.Q_mono HO_6.out (fun _ hk => ⟨hk.2, hk.1⟩)) hg (.inl rfl)); have n2_ := zaa.mk (Kd.R_after (v := (.slice (some ⟨go6, 0, none⟩) x5_2.length co6)) (v1 := (.slice (some ⟨go6, 0, none⟩) x5_2.length co6)) (ok := (fun k_ => some k_ ≠ (.slice (some ad124) x6_2.length co32 : Value).ownBlock)) (by (with_reducible repeat (first | apply Kd.R_alloc | apply Kd.R_drewN | apply Kd.R_drew)); exact Kd.R_mono HO_27.out (fun _ hk => ⟨hk.2, hk.1⟩)) hg (.inl rfl)); have n3_ := zaa.mk ((by rw [hw]; exact zak (HB.out) GB6.out : Below w.heap.size w w34)); clear HO_5; clear HO_6; clear HO_27; clear HB; have HO_5 := n0_; have HO_6 := n1_; have HO_27 := n2_; have HB := n3_; clear n0_ n1_ n2_ n3_; clear hg hw hp_) | ((with_reducible refine zav (b := .append) (xs := #[.tmp 48, .tmp 50]) rfl ?_); at_builtin; refine Kd.Q_append (Kd.int .i64) (w0 := w) w.heap.size rfl (.tmp 48) (.tmp 50) 34 3 (.int .i64 0) 8 rfl Try.underlying34 info3 rfl (by decide) (by omega) (.slice (some ad124) x6_2.length co32) x6_2 (rd t119 x29_2) [.int .i64 (rd t119 x29_2)] (fun k_ => some k_ ≠ (.slice (some ⟨go6, 0, none⟩) x5_2.length co6 : Value).ownBlock ∧ some k_ ≠ (.slice (some ad122) t119.length co20 : Value).ownBlock) (fun _ => False) rfl rfl ?aP (fun _ hk => hk.elim) ?aF ?aO ?aB ?aS ?aL ?_; (case aP => exact rfl); (case aB => exact (by repeat (first | (with_reducible first | exact HB.out | apply zac | apply zab | apply zad) | exact HB.out))); (case aF => exact (fun k_ hk => ⟨Kd.fresh' (Kd.R_lt (by (with_reducible repeat (first | apply Kd.R_alloc | apply Kd.R_drewN | apply Kd.R_drew)); exact HO_5.out)) k_ hk, Kd.fresh' (Kd.R_lt (by (with_reducible repeat (first | apply Kd.R_alloc | apply Kd.R_drewN | apply Kd.R_drew)); exact HO_27.out)) k_ hk⟩)); (case aO => exact (by (with_reducible repeat (first | apply Kd.Q_alloc | apply Kd.Q_drewN | apply Kd.Q_drew)); exact Kd.Q_mono HO_6.out (fun _ hk => ⟨hk.2, hk.1⟩))); (case aS => exact (zag (by repeat (first | (with_reducible first | exact HB.out | apply zac | apply zab | apply zad) | exact HB.out)))); (case aL => have := LMc31.out; omega); intro v128 w35 ho hb hg hat; rw [← Ny127.out] at ho; have n0_ := zaa.mk (Kd.R_after (ok := (fun k_ => some k_ ≠ (.slice (some ad122) t119.length co20 : Value).ownBlock)) (by (with_reducible repeat (first | apply Kd.R_alloc | apply Kd.R_drewN | apply Kd.R_drew)); exact Kd.R_mono HO_5.out (fun _ hk => ⟨hk.2, hk.1⟩)) hg hat); have n1_ := zaa.mk (Kd.R_after (ok := (fun k_ => some k_ ≠ (.slice (some ⟨go6, 0, none⟩) x5_2.length co6 : Value).ownBlock)) (by (with_reducible repeat (first | apply Kd.R_alloc | apply Kd.R_drewN | apply Kd.R_drew)); exact Kd.R_mono HO_27.out (fun _ hk => ⟨hk.2, hk.1⟩)) hg hat); have n2_ := zaa.mk (hb); have n3_ := zaa.mk (ho); clear HO_5; clear HO_27; clear HB; clear HO_6; have HO_5 := n0_; have HO_27 := n1_; have HB := n2_; have HO129 := n3_; clear n0_ n1_ n2_ n3_; clear ho hb hg hat))
                   (try simp only [← hl5_2])
                   go_roundg k2
                   case measure => have := HK1.out; have := HK2.out; omega
                   case rel => exact ⟨(y126), (y127), (wrap64 (x29_2 + 1)), (by first | rfl | (simp; done) | (simp [*]; done)), H', ⟨by have := HK1.out; have := HK2.out; omega⟩, ⟨by (try simp only [hl5_1]); (try simp only [hl5_2]); (with_reducible repeat (first | apply Kd.R_alloc | apply Kd.R_drewN | apply Kd.R_drew)); exact Kd.R_mono HO_5.out (fun _ hk => ⟨hk.2, hk.1⟩)⟩, ⟨by (try simp only [hl5_1]); (try simp only [hl5_2]); (with_reducible repeat (first | apply Kd.Q_alloc | apply Kd.Q_drewN | apply Kd.Q_drew)); exact HO129.out⟩, ⟨by (try simp only [hl5_1]); (try simp only [hl5_2]); (with_reducible repeat (first | apply Kd.R_alloc | apply Kd.R_drewN | apply Kd.R_drew)); exact HO_27.out⟩, ⟨by repeat (first | (with_reducible first | exact HB.out | apply zac | apply zab | apply zad) | exact HB.out)⟩⟩
                  ·rw [if_neg c31] at H
                   exact absurd H (by simp)
                 ·rw [if_neg c29] at H
                  exact absurd H (by simp)
                ·rw [if_neg c28] at H
                 exact absurd H (by simp)
               ·rw [if_neg c27] at H
                exact absurd H (by simp)
              ·rw [if_neg c26] at H
               have c26b0 : decide ((rd x5_2 (rd t119 x29_2)) < 0) = false := decide_eq_false c26
               clear c26
               have H' := zaa.mk H
               clear H
               have p122 : 0 ≤ (x29_2 : Int) := of_decide_eq_true (by first | (with_reducible assumption) | assumption)
               have q122 : x29_2 < (t119.length : Int) := of_decide_eq_true (by first | (with_reducible assumption) | assumption)
               obtain ⟨ad122, e122, hx122_0⟩ := Kd.at_int (Kd.R_reads' HO_27.out).2.2 x29_2 p122 q122
               cases e122
               replace p122 := eq_true p122
               replace q122 := eq_true q122
               have p123 : 0 ≤ ((rd t119 x29_2) : Int) := of_decide_eq_true (by first | (with_reducible assumption) | assumption)
               have q123 : (rd t119 x29_2) < (x5_2.length : Int) := of_decide_eq_true (by first | (with_reducible assumption) | assumption)
               obtain ⟨ad123, e123, hx123_0⟩ := Kd.at_int (Kd.R_reads' HO_5.out).2.2 (rd t119 x29_2) p123 q123
               obtain rfl : (⟨go6, 0, none⟩ : Addr) = ad123 := (by injection e123)
               (first | simp only [zbz] at hx123_0 | simp only [add_at] at hx123_0 | simp only [Addr.add, Nat.zero_add] at hx123_0 | skip)
               replace p123 := eq_true p123
               replace q123 := eq_true q123
               go_wp2
               (try simp only [← hl5_2])
               go_roundg k2
               case measure => have := HK1.out; have := HK2.out; omega
               case rel => exact ⟨(x5_2), (x6_2), (wrap64 (x29_2 + 1)), (by first | rfl | (simp; done) | (simp [*]; done)), H', ⟨by have := HK1.out; have := HK2.out; omega⟩, ⟨by (try simp only [hl5_1]); (try simp only [hl5_2]); (with_reducible repeat (first | apply Kd.R_alloc | apply Kd.R_drewN | apply Kd.R_drew)); exact HO_5.out⟩, ⟨by (try simp only [hl5_1]); (try simp only [hl5_2]); (with_reducible repeat (first | apply Kd.Q_alloc | apply Kd.Q_drewN | apply Kd.Q_drew)); exact HO_6.out⟩, ⟨by (try simp only [hl5_1]); (try simp only [hl5_2]); (with_reducible repeat (first | apply Kd.R_alloc | apply Kd.R_drewN | apply Kd.R_drew)); exact HO_27.out⟩, ⟨by repeat (first | (with_reducible first | exact HB.out | apply zac | apply zab | apply zad) | exact HB.out)⟩⟩
             ·rw [if_neg c25] at H
              exact absurd H (by simp)
            ·rw [if_neg c24] at H
             exact absurd H (by simp)
           ·rw [if_neg c23] at H
            exact absurd H (by simp)
          ·rw [if_neg c22] at H
           exact absurd H (by simp)
         ·rw [if_neg c21] at H
          have c21b0 : decide (x29_2 < (t119.length : Int)) = false := decide_eq_false c21
          clear c21
          by_cases c36 : 1 ≤ (x6_2.length : Int)
          ·rw [if_pos c36] at H
           have c36b0 := eq_true c36
           have c36b1 : decide (1 ≤ (x6_2.length : Int)) = true := decide_eq_true c36
           clear c36
           obtain ⟨y130, hy130⟩ : ∃ y_ : List Int, y_ = (x6_2.drop (1 : Int).toNat) := ⟨_, rfl⟩
           replace H : (impl_steps.l0 k2 l0 x5_2 y130) = some r := by first | (rw [hy130]; with_reducible exact H) | (have H2_ := (Option.bind_some _ _).symm.trans H; rw [hy130]; with_reducible exact H2_) | (have H2_ := (Option.bind_some _ _).symm.trans H; with_reducible exact H2_) | with_reducible exact H | (rw [hy130]; exact H) | exact H
           have Ny130 := zaa.mk hy130
           clear hy130
           have H' := zaa.mk H
           clear H
           obtain ⟨Ao37, co37, eo37, _⟩ := Kd.Q_slice HO_6.out
           subst eo37
           have q38 : (1 : Int) ≤ ((x6_2.length : Int) : Int) := of_decide_eq_true (by first | (with_reducible assumption) | assumption)
           obtain ⟨i038, hi038, _, hsz38, _⟩ := info_parts info3
           have hcut38 := cut_from (P := Try.prog) 34 3 .i64 Try.underlying34 hi038 1 hsz38 Ao37 x6_2.length co37 1 (by omega) q38
           have hr38 := Kd.Q_drop (k := (1 : Int).toNat) HO_6.out (by omega)
           obtain ⟨A38, hA38⟩ : ∃ A1, A1 = (if co37 = (1 : Int).toNat then Ao37 else (Ao37 : Option Addr).map (·.add ((1 : Int).toNat * 1))) := ⟨_, rfl⟩
           obtain ⟨c38, hc38⟩ : ∃ c1, c1 = co37 - (1 : Int).toNat := ⟨_, rfl⟩
           have hy38 : y130.length = x6_2.length - (1 : Int).toNat := (by rw [Ny130.out, List.length_drop])
           rw [← Ny130.out] at hr38
           rw [← hy38, ← hA38, ← hc38] at hcut38
           replace hr38 : Kd.Q (Kd.int .i64) 3 wr w.heap.size (fun k_ => some k_ ≠ (.slice (some ⟨go6, 0, none⟩) x5_2.length co6 : Value).ownBlock ∧ some k_ ≠ (.slice Ao20 t119.length co20 : Value).ownBlock) (.slice A38 y130.length c38) y130 := (by rw [hA38, hc38, hy38]; exact hr38)
           have HE38 : zaa ((Value.slice A38 y130.length c38).ownBlock = (.slice Ao37 x6_2.length co37 : Value).ownBlock) := ⟨by rw [hA38]; split <;> (cases (Ao37 : Option Addr) <;> rfl)⟩
           clear hy38 hi038 hsz38 HO_6 hA38 hc38
           have HO132 := zaa.mk hr38
           clear hr38
           replace q38 := eq_true q38
           have n_ := zaa.mk (Kd.R_mono (ok' := fun k_ => (some k_ ≠ (.slice A38 y130.length c38 : Value).ownBlock ∧ some k_ ≠ (.slice Ao20 t119.length co20 : Value).ownBlock)) HO_5.out (fun k_ hk => ⟨(by rw [HE38.out]; exact hk.1), hk.2⟩))
           clear HO_5
           have HO_5 := n_
           clear n_
           have n_ := zaa.mk (Kd.R_mono (ok' := fun k_ => (some k_ ≠ (.slice (some ⟨go6, 0, none⟩) x5_2.length co6 : Value).ownBlock ∧ some k_ ≠ (.slice A38 y130.length c38 : Value).ownBlock)) HO_27.out (fun k_ hk => ⟨hk.1, (by rw [HE38.out]; exact hk.2)⟩))
           clear HO_27
           have HO_27 := n_
           clear n_
           go_wp2
           (try simp only [← hl5_1, ← hl5_2])
           go_roundg k2
           case measure => have := HK1.out; have := HK2.out; omega
           case rel => exact ⟨(x5_2), (y130), H', ⟨by have := HK1.out; have := HK2.out; omega⟩, ⟨by (try simp only [hl5_1]); (try simp only [hl5_2]); (with_reducible repeat (first | apply Kd.R_alloc | apply Kd.R_drewN | apply Kd.R_drew)); exact Kd.R_mono HO_5.out (fun _ hk => hk.1)⟩, ⟨by (try simp only [hl5_1]); (try simp only [hl5_2]); (with_reducible repeat (first | apply Kd.Q_alloc | apply Kd.Q_drewN | apply Kd.Q_drew)); exact Kd.Q_mono HO132.out (fun _ hk => hk.1)⟩, ⟨by repeat (first | (with_reducible first | exact HB.out | apply zac | apply zab | apply zad) | exact HB.out)⟩⟩
          ·rw [if_neg c36] at H
           exact absurd H (by simp)
      ·rw [if_neg c16] at H
       exact absurd H (by simp)
     ·rw [if_neg c15] at H
      have c15b0 : decide (0 < (x6_1.length : Int)) = false := decide_eq_false c15
      have c15b1 : decide (0 < x6_1.length) = false := decide_eq_false (by omega)
      clear c15
      obtain rfl := Option.some.inj H
      obtain ⟨Ao39, co39, eo39, _⟩ := Kd.Q_slice HO_6.out
      subst eo39
      go_wp2
      go_ret
      exact ⟨_, by first | rfl | (simp [zaj, zai] <;> rfl) | (simp [*, zaj, zai] <;> rfl), by (with_reducible repeat (first | apply Kd.R_alloc | apply Kd.R_drewN | apply Kd.R_drew)); exact Kd.R_mono HO_5.out (fun _ hk => trivial), by repeat (first | (with_reducible first | exact HB.out | apply zac | apply zab | apply zad) | exact HB.out)⟩
  ·rw [if_neg c5] at H
   exact absurd H (by simp)
 ·rw [if_neg c4] at H
  exact absurd H (by simp)
end Go.Proofs.Ytoijjkhdfooapaa.ST
namespace Go.Proofs.Ytoijjkhdfooapaa.Hd
open Go.RowKit Go.PW.PrintWords Go.PW.PrintLast Go.PW.PrintMore Go.Proofs.Ytoijjkhdfooapaa.PB Go.Proofs.Ytoijjkhdfooapaa.ST
def zcg (c : Int) (st : List Int × List Int) (x : Int) : List Int × List Int := if rd st.1 x < 0 then (st.1.set x.toNat (wrap64 (rd st.1 c + 1)), st.2 ++ [x]) else st
def bfsL (nb : Int → List Int) : Nat → List Int → List Int → List Int
 | 0, d, _ => d
 | _ + 1, d, [] => d
 | m + 1, d, c :: q => bfsL nb m ((nb c).foldl (zcg c) (d, q)).1 ((nb c).foldl (zcg c) (d, q)).2
def unR (d : List Int) : Nat := (d.filter fun e => decide (e < 0)).length
theorem unR_set : ∀ (d : List Int) (i : Nat) (v : Int), i < d.length → d.getD i 0 < 0 → 0 ≤ v → unR (d.set i v) + 1 = unR d
 | [], i, v, hi, _, _ => by simp at hi
 | e :: d, 0, v, _, h, hv => by
  have h : e < 0 := h
  simp only [unR, List.set_cons_zero, List.filter_cons]
  rw [decide_eq_true h, decide_eq_false (show ¬ v < 0 by omega)]
  simp
 | e :: d, i + 1, v, hi, h, hv => by
  have ih := unR_set d i v (by simpa using hi) h hv
  simp only [unR, List.set_cons_succ, List.filter_cons] at ih ⊢
  split
  ·simp only [List.length_cons]; omega
  ·exact ih
structure BI (n : Nat) (d : List Int) : Prop where
 len : d.length = n
 all : ∀ e ∈ d, e = -1 ∨ (0 ≤ e ∧ e + (unR d : Int) + 1 ≤ n)
theorem rd_mem {d : List Int} {x : Int} (h0 : 0 ≤ x) (h1 : x < (d.length : Int)) : rd d x ∈ d := by
 unfold rd
 have hx : x.toNat < d.length := by omega
 rw [List.getD_eq_getElem?_getD, List.getElem?_eq_getElem hx]
 exact List.getElem_mem hx
theorem unR_le (d : List Int) : unR d ≤ d.length := List.length_filter_le _ _
def InN (n : Nat) (L : List Int) : Prop := ∀ x ∈ L, 0 ≤ x ∧ x < (n : Int)
theorem step_inv {n : Nat} (hn : n ≤ 9) {d q : List Int} {c x : Int} (H : BI n d) (hq : InN n q) (hc : 0 ≤ c ∧ c < (n : Int)) (hx : 0 ≤ x ∧ x < (n : Int)) :
  BI n (zcg c (d, q) x).1 ∧ InN n (zcg c (d, q) x).2 ∧ unR (zcg c (d, q) x).1 + (zcg c (d, q) x).2.length = unR d + q.length ∧ 2 * unR (zcg c (d, q) x).1 + (zcg c (d, q) x).2.length ≤ 2 * unR d + q.length := by
 unfold zcg
 dsimp only
 by_cases h : rd d x < 0
 ·rw [if_pos h]
  have hl := H.len
  have hcm := H.all _ (rd_mem hc.1 (by rw [hl]; exact hc.2))
  have hU := unR_le d
  have hv : wrap64 (rd d c + 1) = rd d c + 1 := zaq (by omega) (by omega)
  rw [hv]
  dsimp only
  have hS := unR_set d x.toNat (rd d c + 1) (by omega) h (by omega)
  refine ⟨⟨by rw [List.length_set]; exact hl, fun e he => ?_⟩, ?_, ?_, ?_⟩
  ·rcases List.mem_or_eq_of_mem_set he with h1 | h1
   ·rcases H.all e h1 with h2 | ⟨h2, h3⟩
    ·exact .inl h2
    ·exact .inr ⟨h2, by omega⟩
   ·rw [h1]
    exact .inr ⟨by omega, by omega⟩
  ·intro y hy
   rcases List.mem_append.1 hy with h1 | h1
   ·exact hq y h1
   ·rw [List.mem_singleton.1 h1]; exact hx
  ·rw [List.length_append]; simp; omega
  ·rw [List.length_append]; simp; omega
 ·rw [if_neg h]
  exact ⟨H, hq, rfl, Nat.le_refl _⟩
theorem fold_inv {n : Nat} (hn : n ≤ 9) {c : Int} (hc : 0 ≤ c ∧ c < (n : Int)) : ∀ (L d q : List Int), InN n L → BI n d → InN n q →
  BI n (L.foldl (zcg c) (d, q)).1 ∧ InN n (L.foldl (zcg c) (d, q)).2 ∧ unR (L.foldl (zcg c) (d, q)).1 + (L.foldl (zcg c) (d, q)).2.length = unR d + q.length ∧ 2 * unR (L.foldl (zcg c) (d, q)).1 + (L.foldl (zcg c) (d, q)).2.length ≤ 2 * unR d + q.length
 | [], d, q, _, H, hq => ⟨H, hq, rfl, Nat.le_refl _⟩
 | x :: L, d, q, hL, H, hq => by
  obtain ⟨h1, h2, h3, h4⟩ := step_inv hn H hq hc (hL x List.mem_cons_self)
  obtain ⟨k1, k2, k3, k4⟩ := fold_inv hn hc L _ _ (fun y hy => hL y (List.mem_cons_of_mem _ hy)) h1 h2
  rw [List.foldl_cons]
  exact ⟨k1, k2, k3.trans h3, Nat.le_trans k4 h4⟩
theorem fold_app (c : Int) : ∀ (L d A B : List Int), L.foldl (zcg c) (d, A ++ B) = ((L.foldl (zcg c) (d, B)).1, A ++ (L.foldl (zcg c) (d, B)).2)
 | [], _, _, _ => rfl
 | x :: L, d, A, B => by
  rw [List.foldl_cons, List.foldl_cons]
  have e : zcg c (d, A ++ B) x = ((zcg c (d, B) x).1, A ++ (zcg c (d, B) x).2) := by
   unfold zcg
   dsimp only
   split
   ·rw [List.append_assoc]
   ·rfl
  rw [e]
  exact fold_app c L _ A _
theorem rd_drop {L : List Int} {i : Nat} (h : i < L.length) : L.drop i = rd L (i : Int) :: L.drop (i + 1) := by
 rw [List.drop_eq_getElem_cons h]
 unfold rd
 rw [Int.toNat_natCast, List.getD_eq_getElem?_getD, List.getElem?_eq_getElem h]
 rfl
theorem rd_memN {L : List Int} {i : Nat} (h : i < L.length) : rd L (i : Int) ∈ L := rd_mem (by omega) (by omega)
theorem isteps_l1 {n : Nat} (hn : n ≤ 9) (x0 : List (List Int)) (c : Int) (hc : 0 ≤ c ∧ c < (n : Int)) (L : List Int) (hL : InN n L) (hl9 : L.length ≤ 9) (r : List Int) : ∀ m i d Q, i + m = L.length → BI n d → InN n Q → Q.length + unR d ≤ 9 →
  Evs (fun k => impl_steps.l0 k x0 ((L.drop i).foldl (zcg c) (d, Q)).1 ((L.drop i).foldl (zcg c) (d, Q)).2) r → Evs (fun k => impl_steps.l1 k x0 d (c :: Q) L (L.length : Int) (i : Int)) r := by
 intro m
 induction m with
 | zero =>
  intro i d Q hi H hQ hU hr
  obtain rfl : i = L.length := by omega
  rw [List.drop_length] at hr
  refine Evs.step (fun k => ?_) hr
  conv => lhs; unfold impl_steps.l1
  rw [if_neg (by omega), if_pos (by simp only [List.length_cons]; omega)]
  rfl
 | succ m ih =>
  intro i d Q hi H hQ hU hr
  have hlt : i < L.length := by omega
  rw [rd_drop hlt, List.foldl_cons] at hr
  have hx := hL _ (rd_memN hlt)
  have hst := step_inv hn H hQ hc hx
  have hd := H.len
  generalize hxx : rd L (i : Int) = x at *
  have hnx := ih (i + 1) (zcg c (d, Q) x).1 (zcg c (d, Q) x).2 (by omega) hst.1 hst.2.1 (by omega) hr
  refine Evs.step (fun k => ?_) hnx
  conv => lhs; unfold impl_steps.l1
  rw [if_pos (by omega), if_pos (by omega), if_pos (by omega), hxx, if_pos hx.1, if_pos (by omega), zay (by omega)]
  unfold zcg
  dsimp only
  by_cases h : rd d x < 0
  ·rw [if_pos h, if_pos h, if_pos (by simp only [List.length_cons]; omega), if_pos (show 0 ≤ rd (c :: Q) 0 from hc.1), if_pos (show rd (c :: Q) 0 < _ by show c < _; omega), if_pos (by simp only [List.length_cons]; omega)]
   rfl
  ·rw [if_neg h, if_neg h]
theorem isteps_l0 {n : Nat} (hn : n ≤ 9) (x0 : List (List Int)) (nb : Int → List Int) (hnb : ∀ c : Int, 0 ≤ c ∧ c < (n : Int) → Evs (fun k => impl_near.f k x0 c) (nb c) ∧ InN n (nb c) ∧ (nb c).length ≤ 9) : ∀ m d q, BI n d → InN n q → q.length + unR d ≤ 9 → 2 * unR d + q.length ≤ m → Evs (fun k => impl_steps.l0 k x0 d q) (bfsL nb m d q) := by
 have nil : ∀ m d, Evs (fun k => impl_steps.l0 k x0 d []) (bfsL nb m d []) := by
  intro m d
  have e : bfsL nb m d [] = d := by cases m <;> rfl
  rw [e]
  refine Evs.step (h := fun _ => some d) (fun k => ?_) (Evs.const d)
  conv => lhs; unfold impl_steps.l0
  rw [if_neg (by simp)]
 intro m
 induction m with
 | zero =>
  intro d q H hq hU hm
  obtain rfl : q = [] := List.length_eq_zero_iff.1 (by omega)
  exact nil _ _
 | succ m ih =>
  intro d q H hq hU hm
  cases q with
  | nil => exact nil _ _
  | cons c q =>
   have hc := hq c List.mem_cons_self
   have hq' : InN n q := fun y hy => hq y (List.mem_cons_of_mem _ hy)
   obtain ⟨h1, h2, h3⟩ := hnb c hc
   obtain ⟨k1, k2, k3, k4⟩ := fold_inv hn hc (nb c) d q h2 H hq'
   simp only [List.length_cons] at hU hm
   have hnx := ih _ _ k1 k2 (by omega) (by omega)
   refine Evs.step (h := fun k => (impl_near.f k x0 c).bind fun t => impl_steps.l1 k x0 d (c :: q) t (t.length : Int) 0) (fun k => ?_) (Evs.bind h1 (isteps_l1 hn x0 c hc (nb c) h2 h3 _ (nb c).length 0 d q (by omega) H hq' (by omega) hnx))
   conv => lhs; unfold impl_steps.l0
   rw [if_pos (by simp only [List.length_cons]; omega), if_pos (by simp only [List.length_cons]; omega)]
   rfl
theorem ssteps_l2 {n : Nat} (hn : n ≤ 9) (p : List ByteArray) (j : Nat) (c : Int) (hc : 0 ≤ c ∧ c < (n : Int)) (L : List Int) (hL : InN n L) (hl9 : L.length ≤ 9) (r : List Int) : ∀ m i d X, i + m = L.length → BI n d → InN n X → X.length + unR d ≤ 9 → j < X.length → rd X (j : Int) = c →
  Evs (fun k => spec_l4Steps.l1 k p ((L.drop i).foldl (zcg c) (d, X)).1 ((L.drop i).foldl (zcg c) (d, X)).2 ((j + 1 : Nat) : Int)) r → Evs (fun k => spec_l4Steps.l2 k p d X (j : Int) L (i : Int)) r := by
 intro m
 induction m with
 | zero =>
  intro i d X hi H hX hU hj hcj hr
  obtain rfl : i = L.length := by omega
  rw [List.drop_length] at hr
  refine Evs.step (fun k => ?_) hr
  conv => lhs; unfold spec_l4Steps.l2
  rw [if_neg (by omega), zay (by omega)]
  rfl
 | succ m ih =>
  intro i d X hi H hX hU hj hcj hr
  have hlt : i < L.length := by omega
  rw [rd_drop hlt, List.foldl_cons] at hr
  have hx := hL _ (rd_memN hlt)
  have hst := step_inv hn H hX hc hx
  have hd := H.len
  generalize hxx : rd L (i : Int) = x at *
  have hj2 : j < (zcg c (d, X) x).2.length := by
   unfold zcg; split
   ·dsimp only; rw [List.length_append]; omega
   ·exact hj
  have hcj2 : rd (zcg c (d, X) x).2 (j : Int) = c := by
   unfold zcg; split
   ·rw [← hcj]
    unfold rd
    simp only [Int.toNat_natCast, List.getD_eq_getElem?_getD]
    rw [List.getElem?_append_left hj]
   ·exact hcj
  have hnx := ih (i + 1) (zcg c (d, X) x).1 (zcg c (d, X) x).2 (by omega) hst.1 hst.2.1 (by omega) hj2 hcj2 hr
  refine Evs.step (fun k => ?_) hnx
  conv => lhs; unfold spec_l4Steps.l2
  rw [if_pos (by omega), if_pos (by omega), hxx, if_pos hx.1, if_pos (by omega), zay (by omega), hcj]
  unfold zcg
  dsimp only
  by_cases h : rd d x < 0
  ·rw [if_pos h, if_pos h, if_pos (by omega), if_pos (by omega), if_pos hc.1, if_pos (by omega), if_pos (by omega)]
  ·rw [if_neg h, if_neg h]
theorem ssteps_l1 {n : Nat} (hn : n ≤ 9) (p : List ByteArray) (nb : Int → List Int) (hnb : ∀ c : Int, 0 ≤ c ∧ c < (n : Int) → Evs (fun k => spec_l4Of.f k p c) (nb c) ∧ InN n (nb c) ∧ (nb c).length ≤ 9) : ∀ m d X j, BI n d → InN n X → X.length + unR d ≤ 9 → j ≤ X.length → 2 * unR d + (X.drop j).length ≤ m → Evs (fun k => spec_l4Steps.l1 k p d X (j : Int)) (bfsL nb m d (X.drop j)) := by
 have nil : ∀ m d (X : List Int), Evs (fun k => spec_l4Steps.l1 k p d X (X.length : Int)) (bfsL nb m d []) := by
  intro m d X
  have e : bfsL nb m d [] = d := by cases m <;> rfl
  rw [e]
  refine Evs.step (h := fun _ => some d) (fun k => ?_) (Evs.const d)
  conv => lhs; unfold spec_l4Steps.l1
  rw [if_neg (by omega)]
 intro m
 induction m with
 | zero =>
  intro d X j H hX hU hj hm
  rw [List.length_drop] at hm
  obtain rfl : j = X.length := by omega
  rw [List.drop_length]
  exact nil _ _ _
 | succ m ih =>
  intro d X j H hX hU hj hm
  by_cases hjl : j = X.length
  ·subst hjl
   rw [List.drop_length]
   exact nil _ _ _
  ·have hlt : j < X.length := by omega
   have hcm := hX _ (rd_memN hlt)
   have hXs : X = X.take (j + 1) ++ X.drop (j + 1) := (List.take_append_drop _ _).symm
   rw [rd_drop hlt]
   rw [rd_drop hlt, List.length_cons] at hm
   generalize hcc : rd X (j : Int) = c at *
   obtain ⟨h1, h2, h3⟩ := hnb c hcm
   have hq' : InN n (X.drop (j + 1)) := fun y hy => hX y (List.mem_of_mem_drop hy)
   obtain ⟨k1, k2, k3, k4⟩ := fold_inv hn hcm (nb c) d (X.drop (j + 1)) h2 H hq'
   obtain ⟨g1, g2, g3, g4⟩ := fold_inv hn hcm (nb c) d X h2 H hX
   have hf := fold_app c (nb c) d (X.take (j + 1)) (X.drop (j + 1))
   rw [← hXs] at hf
   have htl : (X.take (j + 1)).length = j + 1 := by rw [List.length_take]; omega
   have e1 : (((nb c).foldl (zcg c) (d, X)).2).drop (j + 1) = ((nb c).foldl (zcg c) (d, X.drop (j + 1))).2 := by
    rw [hf]
    dsimp only
    rw [List.drop_append_of_le_length (by omega), List.drop_eq_nil_of_le (by omega)]
    rfl
   have e2 : ((nb c).foldl (zcg c) (d, X)).1 = ((nb c).foldl (zcg c) (d, X.drop (j + 1))).1 := by rw [hf]
   have hle : j + 1 ≤ (((nb c).foldl (zcg c) (d, X)).2).length := by rw [hf]; dsimp only; rw [List.length_append]; omega
   have hnx := ih _ _ (j + 1) g1 g2 (by omega) hle (by rw [e1, e2]; omega)
   rw [e1] at hnx
   have e3 : bfsL nb (m + 1) d (c :: X.drop (j + 1)) = bfsL nb m ((nb c).foldl (zcg c) (d, X)).1 ((nb c).foldl (zcg c) (d, X.drop (j + 1))).2 := by rw [e2]; rfl
   rw [e3]
   refine Evs.step (h := fun k => (spec_l4Of.f k p c).bind fun t => spec_l4Steps.l2 k p d X (j : Int) t 0) (fun k => ?_) (Evs.bind h1 (ssteps_l2 hn p j c hcm (nb c) h2 h3 _ (nb c).length 0 d X (by omega) H hX hU hlt hcc hnx))
   conv => lhs; unfold spec_l4Steps.l1
   rw [if_pos (by omega), if_pos (by omega), hcc]
theorem BI_start {n : Nat} (hn : n ≤ 9) (a : Nat) (ha : a < n) : BI n ((List.replicate n (-1 : Int)).set a 0) ∧ unR ((List.replicate n (-1 : Int)).set a 0) + 1 = n := by
 have hU : unR (List.replicate n (-1 : Int)) = n := by
  unfold unR
  rw [List.filter_eq_self.2 (fun e he => by rw [List.eq_of_mem_replicate he]; rfl), List.length_replicate]
 have hS := unR_set (List.replicate n (-1 : Int)) a 0 (by rw [List.length_replicate]; exact ha) (by simp [List.getD_eq_getElem?_getD, ha]) (Int.le_refl _)
 rw [hU] at hS
 refine ⟨⟨by simp, fun e he => ?_⟩, hS⟩
 rcases List.mem_or_eq_of_mem_set he with h1 | h1
 ·exact .inl (List.eq_of_mem_replicate h1)
 ·rw [h1]; exact .inr ⟨Int.le_refl _, by omega⟩
def stepsL (cs : List (List Int)) (n : Nat) (a : Nat) : List Int := bfsL (nearL cs n) (2 * n) ((List.replicate n (-1 : Int)).set a 0) [(a : Int)]
theorem nearL_in (cs : List (List Int)) (n : Nat) (a : Int) : InN n (nearL cs n a) := by
 intro x hx
 obtain ⟨b, rfl, h1, h2⟩ := (nearL_mem cs n a x).1 hx
 exact ⟨by omega, by omega⟩
theorem isteps_ev (cs : List (List Int)) (n a : Nat) (hn : n ≤ 9) (ha : a < n) : Evs (fun k => impl_steps.f k (touchM cs n) (a : Int)) (stepsL cs n a) := by
 have hlen : (touchM cs n).length = n := zaz _ _ _
 obtain ⟨h1, h2⟩ := BI_start hn a ha
 have h0 := isteps_l0 hn (touchM cs n) (nearL cs n) (fun c hc => by
  have := nearL_length cs n c
  refine ⟨?_, nearL_in cs n c, by omega⟩
  have h := near_ev cs n c.toNat hn (by omega)
  rwa [Int.toNat_of_nonneg hc.1] at h) (2 * n) _ [(a : Int)] h1 (by intro x hx; rw [List.mem_singleton.1 hx]; omega) (by simp; omega) (by simp; omega)
 have hrep : slices_Repeat_int_int.f [(-1 : Int)] ((touchM cs n).length : Int) = some (List.replicate n (-1 : Int)) := by
  rw [hlen]
  unfold slices_Repeat_int_int.f
  rw [if_pos ⟨rfl, by omega, by omega⟩]
  simp
 refine Evs.congr (fun k => ?_) h0
 conv => lhs; unfold impl_steps.f
 rw [hrep]
 rw [Option.bind_some, if_pos (by omega), if_pos (by rw [List.length_replicate]; omega)]
 rfl
theorem ssteps_l0 {p : List ByteArray} {cs : List (List Int)} {rs : List Rc} (F : PlanFacts p cs rs) (a : Nat) (ha : a < rs.length) : ∀ m i, i + m = rs.length → Evs (fun k => spec_l4Steps.l0 k p (a : Int) (List.replicate i (-1 : Int)) (i : Int)) (stepsL cs rs.length a) := by
 have h9 := F.ok.many
 intro m
 induction m with
 | zero =>
  intro i hi
  obtain rfl : i = rs.length := by omega
  obtain ⟨h1, h2⟩ := BI_start h9 a ha
  have h0 := ssteps_l1 h9 p (nearL cs rs.length) (fun c hc => by
   have := nearL_length cs rs.length c
   exact ⟨l4Of_ev F c, nearL_in cs _ c, by omega⟩) (2 * rs.length) _ [(a : Int)] 0 h1 (by intro x hx; rw [List.mem_singleton.1 hx]; omega) (by simp; omega) (by simp) (by simp; omega)
  refine Evs.step (h := fun k => (spec_l1Rooms.f k p).bind fun t508 => (if (rs.length : Int) < t508 then (if (List.replicate rs.length (-1 : Int)).length < 17592186044416 then (spec_l4Steps.l0 k p (a : Int) ((List.replicate rs.length (-1 : Int)) ++ [(-1)]) (wrap64 ((rs.length : Int) + 1))) else (none)) else (if 0 ≤ (a : Int) then (if (a : Int) < ((List.replicate rs.length (-1 : Int)).length : Int) then (spec_l4Steps.l1 k p ((List.replicate rs.length (-1 : Int)).set ((a : Int) : Int).toNat 0) (([(a : Int)] : List Int)) 0) else (none)) else (none)))) (fun k => ?_)
   (Evs.bind (l1Rooms_plan F) (Evs.neg (by omega) (Evs.pos (by omega) (Evs.pos (by rw [List.length_replicate]; omega) h0))))
  conv => lhs; unfold spec_l4Steps.l0
 | succ m ih =>
  intro i hi
  have hnx := ih (i + 1) (by omega)
  rw [List.replicate_succ'] at hnx
  refine Evs.step (h := fun k => (spec_l1Rooms.f k p).bind fun t508 => (if (i : Int) < t508 then (if (List.replicate i (-1 : Int)).length < 17592186044416 then (spec_l4Steps.l0 k p (a : Int) ((List.replicate i (-1 : Int)) ++ [(-1)]) (wrap64 ((i : Int) + 1))) else (none)) else (if 0 ≤ (a : Int) then (if (a : Int) < ((List.replicate i (-1 : Int)).length : Int) then (spec_l4Steps.l1 k p ((List.replicate i (-1 : Int)).set ((a : Int) : Int).toNat 0) (([(a : Int)] : List Int)) 0) else (none)) else (none)))) (fun k => ?_)
   (Evs.bind (l1Rooms_plan F) (Evs.pos (by omega) (Evs.pos (by rw [List.length_replicate]; omega) (by rw [zay (by omega)]; exact hnx))))
  conv => lhs; unfold spec_l4Steps.l0
theorem l4Steps_ev {p : List ByteArray} {cs : List (List Int)} {rs : List Rc} (F : PlanFacts p cs rs) (a : Nat) (ha : a < rs.length) : Evs (fun k => spec_l4Steps.f k p (a : Int)) (stepsL cs rs.length a) := ssteps_l0 F a ha rs.length 0 (by omega)
theorem bfs_len {n : Nat} (hn : n ≤ 9) (nb : Int → List Int) (hnb : ∀ c : Int, 0 ≤ c ∧ c < (n : Int) → InN n (nb c)) : ∀ m d q, BI n d → InN n q → BI n (bfsL nb m d q)
 | 0, d, q, H, _ => H
 | m + 1, d, [], H, _ => H
 | m + 1, d, c :: q, H, hq => by
  have hc := hq c List.mem_cons_self
  obtain ⟨k1, k2, _, _⟩ := fold_inv hn hc (nb c) d q (hnb c hc) H (fun y hy => hq y (List.mem_cons_of_mem _ hy))
  exact bfs_len hn nb hnb m _ _ k1 k2
theorem stepsL_inv (cs : List (List Int)) (n a : Nat) (hn : n ≤ 9) (ha : a < n) : BI n (stepsL cs n a) :=
 bfs_len hn _ (fun c _ => nearL_in cs n c) _ _ _ (BI_start hn a ha).1 (by intro x hx; rw [List.mem_singleton.1 hx]; omega)
end Go.Proofs.Ytoijjkhdfooapaa.Hd
namespace Go.Proofs.Ytoijjkhdfooapaa.Hd
open Go.RowKit Go.PW.PrintWords Go.PW.PrintLast Go.PW.PrintMore Go.Proofs.Ytoijjkhdfooapaa.PB
abbrev kWl := k60
def zeroW : Wl := ⟨false, 0, 0, 0⟩
theorem wl_cells {W : World} {B g n cap : Nat} {ok : Nat → Prop} {ws : List Wl} (h : Kd.R kWl 60 W B ok (.slice (some ⟨g, 0, none⟩) n cap) ws) (k : Nat) (hk : k < ws.length) :
  W.cell? ⟨g, k * 4, none⟩ = some (.bool (ws.getD k zeroW).f0) ∧ W.cell? ⟨g, k * 4 + 1, none⟩ = some (.int .i64 (ws.getD k zeroW).f1) ∧ W.cell? ⟨g, k * 4 + 2, none⟩ = some (.int .i64 (ws.getD k zeroW).f2) ∧ W.cell? ⟨g, k * 4 + 3, none⟩ = some (.int .i64 (ws.getD k zeroW).f3) := by
 obtain ⟨A, c, e, hl, hC⟩ := Kd.R_reads h
 injection e with e1 e2 e3
 subst e1; subst e2
 obtain ⟨ad, e4, h0, h1, h2, h3⟩ := at_T60 hC (k : Int) (by omega) (by omega)
 injection e4 with e4
 subst e4
 have e5 : zbs ws (k : Int) = ws.getD k zeroW := by
  unfold zbs
  rw [show ((k : Int).toNat) = k by omega]
  rfl
 rw [show ((k : Int).toNat) = k by omega, zbz, e5] at h0 h1 h2 h3
 exact ⟨h0, h1, h2, h3⟩
theorem wallsOf_length (cs : List (List Int)) : (wallsOf cs).length = (allT cs).length := by simp [wallsOf_eq, allT]
theorem wallsOf_bound {cs : List (List Int)} {rs : List Rc} (h : zcn cs rs) : (wallsOf cs).length ≤ 72 := by
 have := wall_bound h
 rw [wallsOf_length]
 unfold allT
 rw [List.length_append]
 omega
def wallsP (cs : List (List Int)) : List (Bool × Nat × Nat × Nat) := (upT cs).map (fun t => (false, t)) ++ (levT cs).map (fun t => (true, t))
theorem wallsP_walls (cs : List (List Int)) : wallsOf cs = (wallsP cs).map fun x => mkW x.1 x.2 := by
 unfold wallsP
 rw [wallsOf_eq, List.map_append, List.map_map, List.map_map]
 rfl
theorem wallsP_touch (cs : List (List Int)) : touchL cs = (wallsP cs).flatMap fun x => touchW cs x.1 x.2 := by
 unfold wallsP touchL
 rw [List.flatMap_append, List.flatMap_map, List.flatMap_map]
theorem wallsP_ok {cs : List (List Int)} {rs : List Rc} (h : zcn cs rs) (i : Nat) (hi : i < (wallsP cs).length) : ∃ lv l f n, (wallsP cs)[i]? = some (lv, l, f, n) ∧ 1 ≤ l ∧ l < zcq cs lv ∧ f + n ≤ zbv cs lv ∧ 1 ≤ n ∧ zcq cs lv ≤ 6 ∧ zbv cs lv ≤ 6 := by
 have q1 := h.h6
 have q2 := h.w6
 have q3 := h.h1
 have q4 := h.w1
 have hm := List.getElem_mem hi
 rw [List.getElem?_eq_getElem hi]
 generalize (wallsP cs)[i] = x at *
 unfold wallsP at hm
 rcases List.mem_append.1 hm with hm | hm
 ·obtain ⟨⟨l, f, n⟩, hx, rfl⟩ := List.mem_map.1 hm
  have := trip_in _ _ _ _ hx
  exact ⟨false, l, f, n, rfl, by simp only [zcq, zbv, Bool.false_eq_true, if_false]; dsimp only at this; omega⟩
 ·obtain ⟨⟨l, f, n⟩, hx, rfl⟩ := List.mem_map.1 hm
  have := trip_in _ _ _ _ hx
  exact ⟨true, l, f, n, rfl, by simp only [zcq, zbv, if_true]; dsimp only at this; omega⟩
def touchP (cs : List (List Int)) (i : Nat) : List (Int × Int) := ((wallsP cs).take i).flatMap fun x => touchW cs x.1 x.2
theorem touchW_length (cs : List (List Int)) (lv : Bool) (x : Nat × Nat × Nat) : (touchW cs lv x).length = x.2.2 := by simp [touchW]
theorem touchP_succ (cs : List (List Int)) (i : Nat) (lv : Bool) (t : Nat × Nat × Nat) (h : (wallsP cs)[i]? = some (lv, t)) : touchP cs (i + 1) = touchP cs i ++ touchW cs lv t := by
 unfold touchP
 rw [List.take_add_one, h, List.flatMap_append]
 simp
theorem touchP_length {cs : List (List Int)} {rs : List Rc} (h : zcn cs rs) : ∀ i, i ≤ (wallsP cs).length → (touchP cs i).length ≤ i * 6
 | 0, _ => by simp [touchP]
 | i + 1, hi => by
  obtain ⟨lv, l, f, n, e, h1, h2, h3, h4, h5, h6⟩ := wallsP_ok h i (by omega)
  have ih := touchP_length h i (by omega)
  rw [touchP_succ cs i lv _ e, List.length_append, touchW_length, Nat.succ_mul]
  dsimp only
  omega
theorem touchP_all (cs : List (List Int)) : touchP cs (wallsP cs).length = touchL cs := by
 unfold touchP
 rw [List.take_length, wallsP_touch]
theorem touchW_take (cs : List (List Int)) (lv : Bool) (l f n j : Nat) (hj : j < n) : (touchW cs lv (l, f, n)).take (j + 1) = (touchW cs lv (l, f, n)).take j ++ [sidesOf cs lv l (f + j)] := by
 unfold touchW
 rw [List.take_add_one, List.getElem?_map, List.getElem?_range hj]
 rfl
theorem sides_range {cs : List (List Int)} {rs : List Rc} (h : zcn cs rs) (lv : Bool) (line i : Nat) (h1 : 1 ≤ line) (h2 : line < zcq cs lv) (h3 : i < zbv cs lv) : ∃ a b : Nat, sidesOf cs lv line i = ((a : Int), (b : Int)) ∧ a < rs.length ∧ b < rs.length := by
 unfold sidesOf
 cases lv with
 | true =>
  simp only [zcq, zbv, if_true] at h2 h3
  have v1 := valAt_range h (line - 1) i (by omega) h3
  have v2 := valAt_range h line i h2 h3
  rw [if_pos rfl]
  exact ⟨(zbf cs (line - 1) i).toNat, (zbf cs line i).toNat, by rw [Int.toNat_of_nonneg v1.1, Int.toNat_of_nonneg v2.1], by omega, by omega⟩
 | false =>
  simp only [zcq, zbv, Bool.false_eq_true, if_false] at h2 h3
  have v1 := valAt_range h i (line - 1) h3 (by omega)
  have v2 := valAt_range h i line h3 h2
  rw [if_neg (by simp)]
  exact ⟨(zbf cs i (line - 1)).toNat, (zbf cs i line).toNat, by rw [Int.toNat_of_nonneg v1.1, Int.toNat_of_nonneg v2.1], by omega, by omega⟩
def incG (G : Nat → Nat → Int) (i j r c : Nat) : Int := if r = i ∧ c = j then G r c + 1 else G r c
def hitG (T : List (Int × Int)) (r c : Nat) : Int := hits T (r : Int) (c : Int)
theorem hitG_snoc (T : List (Int × Int)) (a b r c : Nat) : incG (incG (hitG T) a b) b a r c = hitG (T ++ [((a : Int), (b : Int))]) r c := by
 unfold hitG
 rw [hits_append]
 have e : hits [((a : Int), (b : Int))] (r : Int) (c : Int) = (if r = a ∧ c = b then 1 else 0) + (if r = b ∧ c = a then 1 else 0) := by
  unfold hits hit
  simp only [List.map_cons, List.map_nil, sumZ, Prod.mk.injEq]
  have e1 : ((a : Int) = (r : Int) ∧ (b : Int) = (c : Int)) ↔ (r = a ∧ c = b) := by omega
  have e2 : ((a : Int) = (c : Int) ∧ (b : Int) = (r : Int)) ↔ (r = b ∧ c = a) := by omega
  simp only [e1, e2]
  omega
 rw [e]
 unfold incG
 dsimp only
 split <;> split <;> omega
theorem grid_inc {n : Nat} (G : Nat → Nat → Int) (i j : Nat) (hi : i < n) (hj : j < n) : (zbr n n G).set i (((List.range n).map fun c => G i c).set j (G i j + 1)) = zbr n n (incG G i j) := by
 apply List.ext_getElem?
 intro r
 by_cases hr : r < n
 ·rw [gridOf_get hr, List.getElem?_set]
  by_cases e : i = r
  ·subst e
   rw [if_pos rfl, if_pos (by rw [zaz]; exact hi)]
   congr 1
   apply List.ext_getElem?
   intro c
   rw [List.getElem?_set]
   by_cases hc : c < n
   ·rw [List.getElem?_map, List.getElem?_range hc]
    by_cases e2 : j = c
    ·subst e2
     rw [if_pos rfl, if_pos (by simp; exact hj), List.getElem?_map, List.getElem?_range hj]
     simp [incG]
    ·rw [if_neg e2, List.getElem?_map, List.getElem?_range hc]
     simp only [Option.map_some, incG]
     rw [if_neg (fun z => e2 z.2.symm)]
   ·rw [List.getElem?_eq_none (by simp; omega : ((List.range n).map fun c => incG G i j i c).length ≤ c), if_neg (by omega), List.getElem?_eq_none (by simp; omega)]
  ·rw [if_neg e, gridOf_get hr]
   congr 1
   apply List.map_congr_left
   intro c _
   unfold incG
   rw [if_neg (fun z => e z.1.symm)]
 ·rw [List.getElem?_eq_none (by rw [List.length_set, zaz]; omega), List.getElem?_eq_none (by rw [zaz]; omega)]
theorem mat_inc {W : World} {g0 n : Nat} {bs : List Nat} {G : Nat → Nat → Int} (HM : MatAt W g0 n bs (zbr n n G)) (i j : Nat) (hi : i < n) (hj : j < n) :
  ∃ b, b ∈ bs ∧ W.cell? ⟨g0, i, none⟩ = some (.slice (some ⟨b, 0, none⟩) n n) ∧ W.cell? ⟨b, j, none⟩ = some (.int .i64 (G i j)) ∧ W.frozen? ⟨b, j, none⟩ = false ∧ ∀ p : Int, p = G i j + 1 → MatAt (W.setCell ⟨b, j, none⟩ (.int .i64 p)) g0 n bs (zbr n n (incG G i j)) := by
 have hr := gridOf_get (hi := n) (wi := n) (g := G) hi
 obtain ⟨b, hb⟩ : ∃ b, bs[i]? = some b := ⟨_, List.getElem?_eq_getElem (by rw [HM.len, zaz]; exact hi)⟩
 have hx : ((List.range n).map fun c => G i c)[j]? = some (G i j) := by rw [List.getElem?_map, List.getElem?_range hj]; rfl
 have h1 := HM.topCell i b _ hb hr
 have h2 := HM.rowCell i j b _ _ hb hr hx
 have h3 := HM.set i j b _ (G i j + 1) hb hr
 rw [grid_inc G i j hi hj] at h3
 simp only [List.length_map, List.length_range] at h1
 exact ⟨b, List.mem_of_getElem? hb, h1, h2.1, h2.2, fun p hp => by subst hp; exact h3⟩
theorem wallsP_get {cs : List (List Int)} {i : Nat} {x : Bool × Nat × Nat × Nat} (h : (wallsP cs)[i]? = some x) : (wallsOf cs).getD i zeroW = mkW x.1 x.2 := by
 rw [wallsP_walls, List.getD_eq_getElem?_getD, List.getElem?_map, h]
 rfl
theorem wallsP_length (cs : List (List Int)) : (wallsP cs).length = (wallsOf cs).length := by rw [wallsP_walls]; simp
set_option maxHeartbeats 4000000 in
set_option maxRecDepth 100000 in
theorem touching1_read (w : World) (n : Nat) : ReadFn Try.prog 98 #[] w n n (fun _ _ => 0) := by
 intro W r c hr hc hS
 clear hS
 show Calls _ _ #[.int .i64 r, .int .i64 c] W _
 go_enter Try.func98, Try.ntmps98
 go_wp2
 go_ret
 exact ⟨rfl, Below.refl _ _⟩
theorem block_ne {W : World} {a b t s : Nat} {x y : Array Value} {u v : Nat × Nat} (ha : W.heap[a]? = some (.cells x t u)) (hb : W.heap[b]? = some (.cells y s v)) (h : t ≠ s) : a ≠ b := by
 rintro rfl
 rw [ha] at hb
 injection hb with hb
 injection hb with _ hb
 exact h hb
theorem MatAt.typed {W : World} {g n : Nat} {bs : List Nat} {rows : List (List Int)} (h : MatAt W g n bs rows) {b : Nat} (hb : b ∈ bs) : ∃ x, W.heap[b]? = some (.cells x 3 (0, 0)) := by
 obtain ⟨i, hi, e⟩ := List.mem_iff_getElem.1 hb
 have hr : i < rows.length := by rw [← h.len]; exact hi
 exact ⟨_, h.row i b _ (by rw [List.getElem?_eq_getElem hi, e]) (List.getElem?_eq_getElem hr)⟩
set_option maxHeartbeats 8000000 in
set_option maxRecDepth 100000 in
theorem touching_calls (g : Nat) (cs : List (List Int)) (rs : List Rc) (w : World) (hf : FloorAt w g cs rs) (hk : zcn cs rs) :
  Calls Try.prog 76 #[.pointer (some ⟨g, 0, none⟩)] w (GridRes w (touchM cs rs.length)) := by
 have HF := zaa.mk hf
 have HK := zaa.mk hk
 obtain ⟨Ar, cr, hrm, -⟩ := hf.rooms
 have h9 := hk.many
 clear hf hk
 have b9 : (rs.length : Int) ≤ 9 := by omega
 go_enter Try.func76, Try.ntmps76
 go_wp2
 refine start_ (n := 12) (S := fun w' => (w'.cell? ⟨g, 1, none⟩ = some (.slice Ar rs.length cr)) ∧ (Below w.heap.size w w')) (ds := []) #[false, false, false, false, false, false, false, false, false, false, false, false] (by kernel_rfl) rfl rfl (⟨hrm, ⟨rfl, rfl, rfl, Nat.le_refl _, fun _ _ => rfl⟩⟩) (fun hHeld => ?_)
 clear hrm
 refine zba (i := 0) (N := some 9) (v := ?_) (a' := ?_) #[true, false, false, false, false, false, false, false, false, false, false, false] rfl rfl (by kernel_rfl) (fun _ _ _ h => h) (Or.inl ⟨by rfl, ?_⟩) ?_ ?_
 rotate_left
 ·intro w'
  go_simp
  with_reducible rfl
 rotate_left
 ·simp only [Act.put, List.setIfInBounds_toArray, List.set_cons_zero, List.set_cons_succ, zat, zau]
  rfl
 refine zba (i := 1) (N := some 10) (v := ?_) (a' := ?_) #[true, true, false, false, false, false, false, false, false, false, false, false] rfl rfl (by kernel_rfl) (fun _ _ _ h => h) (Or.inl ⟨by rfl, ?_⟩) ?_ ?_
 rotate_left
 ·intro w'
  go_simp
  with_reducible rfl
 rotate_left
 ·simp only [Act.put, List.setIfInBounds_toArray, List.set_cons_zero, List.set_cons_succ, zat, zau]
  rfl
 refine zba (i := 2) (N := some 11) (v := ?_) (a' := ?_) #[true, true, true, false, false, false, false, false, false, false, false, false] rfl rfl (by kernel_rfl) (fun _ _ _ h => h) (Or.inl ⟨by rfl, ?_⟩) ?_ ?_
 rotate_left
 ·intro w'
  go_simp
  with_reducible rfl
 rotate_left
 ·simp only [Act.put, List.setIfInBounds_toArray, List.set_cons_zero, List.set_cons_succ, zat, zau]
  rfl
 refine zcl (i := 3) (N := some 12) (v := ?_) (a' := ?_) #[true, true, true, true, false, false, false, false, false, false, false, false] rfl rfl (by kernel_rfl) (fun _ _ _ h => h) (Or.inl ⟨by rfl, ?_⟩) hHeld ?_ ?_
 rotate_left
 ·rintro w' ⟨s0, s1⟩
  go_simp
  with_reducible rfl
 rotate_left
 ·simp only [Act.put, List.setIfInBounds_toArray, List.set_cons_zero, List.set_cons_succ, zat, zau]
  rfl
 refine zba (i := 4) (N := some 13) (v := ?_) (a' := ?_) #[true, true, true, true, true, false, false, false, false, false, false, false] rfl rfl (by kernel_rfl) (fun _ _ _ h => h) (Or.inl ⟨by rfl, ?_⟩) ?_ ?_
 rotate_left
 ·intro w'
  go_simp
  with_reducible rfl
 rotate_left
 ·simp only [Act.put, List.setIfInBounds_toArray, List.set_cons_zero, List.set_cons_succ, zat, zau]
  rfl
 refine zba (i := 5) (N := some 14) (v := ?_) (a' := ?_) #[true, true, true, true, true, true, false, false, false, false, false, false] rfl rfl (by kernel_rfl) (fun _ _ _ h => h) (Or.inl ⟨by rfl, ?_⟩) ?_ ?_
 rotate_left
 ·intro w'
  go_simp
  with_reducible rfl
 rotate_left
 ·simp only [Act.put, List.setIfInBounds_toArray, List.set_cons_zero, List.set_cons_succ, zat, zau]
  rfl
 refine zba (i := 6) (N := some 15) (v := ?_) (a' := ?_) #[true, true, true, true, true, true, true, false, false, false, false, false] rfl rfl (by kernel_rfl) (fun _ _ _ h => h) (Or.inl ⟨by rfl, ?_⟩) ?_ ?_
 rotate_left
 ·intro w'
  go_simp
  with_reducible rfl
 rotate_left
 ·simp only [Act.put, List.setIfInBounds_toArray, List.set_cons_zero, List.set_cons_succ, zat, zau]
  rfl
 refine zba (i := 7) (N := some 16) (v := ?_) (a' := ?_) #[true, true, true, true, true, true, true, true, false, false, false, false] rfl rfl (by kernel_rfl) (fun _ _ _ h => h) (Or.inl ⟨by rfl, ?_⟩) ?_ ?_
 rotate_left
 ·intro w'
  go_simp
  with_reducible rfl
 rotate_left
 ·simp only [Act.put, List.setIfInBounds_toArray, List.set_cons_zero, List.set_cons_succ, zat, zau]
  rfl
 refine zcl (i := 8) (N := some 17) (v := ?_) (a' := ?_) #[true, true, true, true, true, true, true, true, true, false, false, false] rfl rfl (by kernel_rfl) (fun _ _ _ h => h) (Or.inl ⟨by rfl, ?_⟩) hHeld ?_ ?_
 rotate_left
 ·rintro w' ⟨s0, s1⟩
  go_simp
  with_reducible rfl
 rotate_left
 ·simp only [Act.put, List.setIfInBounds_toArray, List.set_cons_zero, List.set_cons_succ, zat, zau]
  rfl
 refine zba (i := 9) (N := some 18) (v := ?_) (a' := ?_) #[true, true, true, true, true, true, true, true, true, true, false, false] rfl rfl (by kernel_rfl) (fun _ _ _ h => h) (Or.inl ⟨by rfl, ?_⟩) ?_ ?_
 rotate_left
 ·intro w'
  go_simp
  with_reducible rfl
 rotate_left
 ·simp only [Act.put, List.setIfInBounds_toArray, List.set_cons_zero, List.set_cons_succ, zat, zau]
  rfl
 refine one_ (i := 10) (N := some 19) #[true, true, true, true, true, true, true, true, true, true, true, false] rfl rfl (by kernel_rfl) (by decide) (fun K hK => ?_)
 refine goes_ Try.func95 (by kernel_rfl) rfl #[.int .i64 (rs.length : Int), .int .i64 (rs.length : Int), .func (.func 98) #[] #[]] (by rfl) rfl rfl (by (try simp only [List.map_toArray, List.map_cons, List.map_nil]); first | done | rfl) ?_
 have hs_ := hHeld
 obtain ⟨s0, s1⟩ := hs_
 refine (blank_calls 98 Try.f98 Try.func98 (by kernel_rfl) rfl _ rs.length rs.length _ _ (readFn_cell (touching1_read _ rs.length)) (fun k => k < _) _ ⟨fun _ => Iff.rfl, Sees.refl _⟩ (by omega) (by omega)).mono ?_
 rintro e w13 ⟨g0, bs, F', rfl, hM, hfar, ⟨hF, hS⟩, hF', hO⟩
 have hb : Below _ _ w13 := ⟨hO.os, hO.tape, hO.output, hS.1, hS.2⟩
 have HM13 := zaa.mk hM
 have HLow := zaa.mk (fun k hk => Nat.le_trans s1.size (hfar k hk).1)
 have HB13 := zaa.mk (zaf s1 hb)
 clear hM hfar hF hS hF' hO
 refine ⟨_, rfl, ?_⟩
 refine hK.out _ _ ⟨zah hb s0, zaf s1 hb⟩ (fun hHeld => ?_)
 clear hK K hb s0 s1
 refine norm_ (a' := ?_) ?_ ?_
 rotate_left
 ·show Act.put _ (some 19) _ = _
  simp only [Act.put, List.setIfInBounds_toArray, List.set_cons_zero, List.set_cons_succ, zat, zau]
  rfl
 refine zba (i := 11) (N := some 3) (v := ?_) (a' := ?_) #[true, true, true, true, true, true, true, true, true, true, true, true] rfl rfl (by kernel_rfl) (fun _ _ _ h => h) (Or.inl ⟨by rfl, ?_⟩) ?_ ?_
 rotate_left
 ·intro w'
  go_simp
  with_reducible rfl
 rotate_left
 ·simp only [Act.put, List.setIfInBounds_toArray, List.set_cons_zero, List.set_cons_succ, zat, zau]
  rfl
 refine done_ (by kernel_rfl) ?_
 clear hHeld
 obtain ⟨K, hK⟩ := walls_ev HK.out
 have HW := zaa.mk (hK K (Nat.le_refl K))
 have HL := zaa.mk (wallsOf_bound HK.out)
 have HPL := zaa.mk (wallsP_length cs)
 have HPG := zaa.mk (fun i x h => wallsP_get (cs := cs) (i := i) (x := x) h)
 have hM0 : touchM cs rs.length = zbr rs.length rs.length (hitG (touchP cs (wallsOf cs).length)) := by
  rw [← wallsP_length, touchP_all]
  rfl
 have HM0 := zaa.mk hM0
 have HZ := zaa.mk (show zbr rs.length rs.length (fun _ _ => 0) = zbr rs.length rs.length (hitG (touchP cs 0)) from gridOf_congr fun r c _ _ => rfl)
 clear hK hM0
 generalize wallsOf cs = ws at *
 generalize touchM cs rs.length = tm at *
 have b1 : (ws.length : Int) ≤ 72 := by have := HL.out; omega
 go_wp2_with (first
  | (go_at_call 57; refine (impl_floor_walls.calls K g cs rs ws _ _ (HF.out.below HB13.out) (Below.refl _ _) HW.out).mono ?_; rintro e w9 ⟨v9, rfl, hr9, -, hb9, -⟩; obtain ⟨A9, c9, e9⟩ := Kd.R_slice hr9; subst e9; have HB9 := zaa.mk (zaf HB13.out hb9); have HR9 := zaa.mk (Kd.R_lower hr9 HB13.out.size); have HM9 := zaa.mk (HM13.out.move (fun k hk => hb9.block k (HM13.out.lt k hk))); clear hb9 hr9))
 go_loopg [23] ws.length (fun kq v23 w' => ∃ i : Nat, v23 = .int .i64 (i : Int) ∧ zaa (i + kq = ws.length) ∧ zaa (MatAt w' g0 rs.length bs (zbr rs.length rs.length (hitG (touchP cs i)))) ∧ zaa (Kd.R kWl 60 w' w.heap.size (fun _ => True) (.slice A9 ws.length c9) ws) ∧ zaa (Below w.heap.size w w'))
 case atStart => exact ⟨0, rfl, ⟨by omega⟩, ⟨HZ.out ▸ HM9.out⟩, HR9, HB9⟩
 case round =>
  clear HR9 HB9 HM9
  obtain ⟨i, rfl, HKi, HM, HO, HB⟩ := hrel
  by_cases hi : i < ws.length
  ·have hlt : (i : Int) < (ws.length : Int) := by omega
   have hi0 : (0 : Int) ≤ i := by omega
   obtain ⟨gr, cp, ev, hgr, hltg, cells, hcells⟩ := Kd.R_form HO.out (by omega)
   injection ev with ea en ec
   subst ea
   clear en ec hcells hltg hgr
   obtain ⟨z0, z1, z2, z3⟩ := wl_cells HO.out i hi
   obtain ⟨lv, l, f, n, hP, k1, k2, k3, k4, k5, k6⟩ := wallsP_ok HK.out i (by rw [HPL.out]; exact hi)
   rw [HPG.out i _ hP] at z0 z1 z2 z3
   simp only [mkW] at z0 z1 z2 z3
   have HTS := zaa.mk (touchP_succ cs i lv _ hP)
   have HTL := zaa.mk (touchP_length HK.out i (by rw [HPL.out]; omega))
   have HSd := zaa.mk (fun j (hj : j < n) => sides_range HK.out lv l (f + j) k1 k2 (by omega))
   have HSf := zaa.mk (fun j (hj : j < n) => sides_f HK.out lv l (f + j) k1 k2 (by omega))
   obtain ⟨fn, hw, hfn⟩ : ∃ fn : Int, wrap64 ((f : Int) + (n : Int)) = fn ∧ fn = (f : Int) + (n : Int) := ⟨_, rfl, zaq (by omega) (by omega)⟩
   have HFN := zaa.mk hfn
   have HN6 := zaa.mk (show f + n ≤ 6 ∧ n ≤ 6 by omega)
   clear hP k1 k2 k3 k4 k5 k6 hfn
   have HNw := zaa.mk (heap_alloc_new wr (.cells #[.bool lv, .int .i64 (l : Int), .int .i64 (f : Int), .int .i64 (n : Int)] 60))
   have HBa := zaa.mk (zac HB.out (.cells #[.bool lv, .int .i64 (l : Int), .int .i64 (f : Int), .int .i64 (n : Int)] 60))
   have HOa := zaa.mk (Kd.R_below HO.out (zac (Below.refl _ _) (.cells #[.bool lv, .int .i64 (l : Int), .int .i64 (f : Int), .int .i64 (n : Int)] 60)))
   have HMa := zaa.mk (HM.out.move (fun k hk => Below.heap_alloc wr (.cells #[.bool lv, .int .i64 (l : Int), .int .i64 (f : Int), .int .i64 (n : Int)] 60) k (HM.out.lt k hk)))
   clear HB HM HO
   go_wp2
   generalize wr.alloc (.cells #[.bool lv, .int .i64 (l : Int), .int .i64 (f : Int), .int .i64 (n : Int)] 60) = wz at *
   generalize wr.heap.size = gw at *
   clear z0 z1 z2 z3
   go_loopg [6] n (fun kq v6 w' => ∃ (j : Nat) (x : Int), v6 = .int .i64 x ∧ zaa (x = (f : Int) + (j : Int)) ∧ zaa (j + kq = n) ∧ zaa (MatAt w' g0 rs.length bs (zbr rs.length rs.length (hitG (touchP cs i ++ (touchW cs lv (l, f, n)).take j)))) ∧ zaa (w'.heap[gw]? = some (.cells #[.bool lv, .int .i64 (l : Int), .int .i64 (f : Int), .int .i64 (n : Int)] 60 (0, 0))) ∧ zaa (Kd.R kWl 60 w' w.heap.size (fun _ => True) (.slice (some ⟨gr, 0, none⟩) ws.length c9) ws) ∧ zaa (Below w.heap.size w w'))
   case atStart => exact ⟨0, (f : Int), rfl, ⟨by omega⟩, ⟨by omega⟩, ⟨by simpa using HMa.out⟩, HNw, HOa, HBa⟩
   case round =>
    clear HMa HNw HOa HBa
    obtain ⟨j, x, rfl, HX, HKj, HM, HNw, HO, HB⟩ := hrel
    have y0 := (zan HNw.out 0).trans rfl
    have y1 := (zan HNw.out 1).trans rfl
    have y2 := (zan HNw.out 2).trans rfl
    have y3 := (zan HNw.out 3).trans rfl
    by_cases hj : j < n
    ·have hlt2 : x < fn := by have := HX.out; have := HFN.out; omega
     obtain ⟨a, b, hs, ha, hb⟩ := HSd.out j hj
     have hsf := HSf.out j hj
     rw [hs, show ((f + j : Nat) : Int) = x by have := HX.out; omega] at hsf
     have HSF := zaa.mk hsf
     have HS := zaa.mk hs
     have HTT := zaa.mk (touchW_take cs lv l f n j hj)
     have hTl : (touchP cs i ++ (touchW cs lv (l, f, n)).take j).length ≤ 500 := by
      have := HTL.out
      have := HN6.out
      rw [List.length_append, List.length_take, touchW_length]
      dsimp only
      omega
     obtain ⟨x', hw3, hx'⟩ : ∃ x' : Int, wrap64 (x + 1) = x' ∧ x' = (f : Int) + ((j + 1 : Nat) : Int) := ⟨_, rfl, by have := HX.out; have := HN6.out; rw [zaq (by omega) (by omega)]; omega⟩
     have HX' := zaa.mk hx'
     have a0 : (0 : Int) ≤ (a : Int) := by omega
     have b0 : (0 : Int) ≤ (b : Int) := by omega
     have a1 : (a : Int) < (rs.length : Int) := by omega
     have b2 : (b : Int) < (rs.length : Int) := by omega
     obtain ⟨T, hT⟩ : ∃ T, T = touchP cs i ++ (touchW cs lv (l, f, n)).take j := ⟨_, rfl⟩
     rw [← hT] at HM hTl
     have HTn := zaa.mk (show touchP cs i ++ (touchW cs lv (l, f, n)).take (j + 1) = T ++ [((a : Int), (b : Int))] by rw [HTT.out, HS.out, ← List.append_assoc, hT])
     have HTB := zaa.mk (fun r c => hits_range' T r c)
     have HTLn := zaa.mk hTl
     clear hs hsf hx' hTl hT
     go_wp2_with (first
      | (go_at_call 94; refine (impl_floor_sides.calls g cs rs lv (l : Int) x (a : Int) (b : Int) _ _ (HF.out.below HB.out) (Below.refl _ _) HSF.out).mono ?_; rintro e w12 ⟨rfl, -, hb12, -⟩; have hm12 := HM.out.move (fun k hk => hb12.block k (HM.out.lt k hk)); obtain ⟨p1, hp1, q1, q2, q3, hm1⟩ := mat_inc hm12 a b ha hb; obtain ⟨v1, hv1, hv1'⟩ : ∃ v1 : Int, wrap64 (hitG T a b + 1) = v1 ∧ v1 = hitG T a b + 1 := ⟨_, rfl, by have := HTB.out a b; have := HTLn.out; unfold hitG; exact zaq (by omega) (by omega)⟩; replace hm1 := hm1 v1 hv1'; obtain ⟨p2, hp2, r1, r2, r3, hm2⟩ := mat_inc hm1 b a hb ha; obtain ⟨v2, hv2, hv2'⟩ : ∃ v2 : Int, wrap64 (incG (hitG T) a b b a + 1) = v2 ∧ v2 = incG (hitG T) a b b a + 1 := ⟨_, rfl, by have := HTB.out b a; have := HTLn.out; unfold incG hitG; split <;> exact zaq (by omega) (by omega)⟩; replace hm2 := hm2 v2 hv2'; obtain ⟨X1, ht1⟩ := hm12.typed hp1; obtain ⟨X2, ht2⟩ := hm1.typed hp2; have hn12 := (hb12.block gw (Array.getElem?_eq_some_iff.1 HNw.out).1).trans HNw.out; have HNw2 := zaa.mk ((Below.heap_setCell (w12.setCell ⟨p1, b, none⟩ (.int .i64 v1)) ⟨p2, a, none⟩ (.int .i64 v2) gw (by show gw ≠ p2; exact block_ne ((Below.heap_setCell w12 ⟨p1, b, none⟩ (.int .i64 v1) gw (by show gw ≠ p1; exact block_ne hn12 ht1 (by decide))).trans hn12) ht2 (by decide))).trans ((Below.heap_setCell w12 ⟨p1, b, none⟩ (.int .i64 v1) gw (by show gw ≠ p1; exact block_ne hn12 ht1 (by decide))).trans hn12)); have HO2 := zaa.mk (R_setF (R_setF (Kd.R_below HO.out hb12) ht1 (by decide) b (.int .i64 v1)) ht2 (by decide) a (.int .i64 v2)); have HB2 := zaa.mk (zak (zak (zaf HB.out hb12) (g := p1) (j := b) (v := .int .i64 v1) (HLow.out p1 (List.mem_cons_of_mem _ hp1))) (g := p2) (j := a) (v := .int .i64 v2) (HLow.out p2 (List.mem_cons_of_mem _ hp2))); have HM2 := zaa.mk hm2; clear hm12 hm1 hm2 hp1 hp2 ht1 ht2 hn12 hb12 hv1' hv2' HO HB HM HNw; generalize hitG T a b = g1 at q2 hv1; generalize incG (hitG T) a b b a = g2 at r2 hv2))
     go_roundg (n - (j + 1))
     case measure => have := HKj.out; omega
     case rel => exact ⟨j + 1, x', congrArg (Value.int .i64) hw3, HX', ⟨by have := HKj.out; omega⟩, ⟨by rw [HTn.out, ← gridOf_congr (fun r c _ _ => hitG_snoc T a b r c)]; exact HM2.out⟩, HNw2, HO2, HB2⟩
    ·have hge2 : ¬ x < fn := by have := HX.out; have := HFN.out; omega
     obtain rfl : j = n := by have := HKj.out; omega
     go_wp2
     go_roundg (ws.length - (i + 1))
     case measure => have := HKi.out; omega
     case rel => exact ⟨i + 1, by first | rfl | (congr 1; omega), ⟨by have := HKi.out; omega⟩, ⟨by rw [HTS.out]; have := HM.out; rwa [List.take_of_length_le (by rw [touchW_length]; exact Nat.le_refl _)] at this⟩, HO, HB⟩
  ·have hge : ¬ (i : Int) < (ws.length : Int) := by omega
   obtain rfl : i = ws.length := by have := HKi.out; omega
   go_wp2
   go_ret
   have hl := zaz rs.length rs.length (hitG (touchP cs ws.length))
   rw [HM0.out]
   exact ⟨some ⟨g0, 0, none⟩, rs.length, by rw [hl]; rfl, by rw [hl]; exact Nat.le_refl _, HM.out.reads (by rw [hl]; omega) (fun r hr => by rw [gridOf_row r hr]; omega), HB.out⟩
theorem touchM_length (cs : List (List Int)) (n : Nat) : (touchM cs n).length = n := zaz _ _ _
end Go.Proofs.Ytoijjkhdfooapaa.Hd
namespace Go.Proofs.Ytoijjkhdfooapaa.SX
open Go.Proofs.Ytoijjkhdfooapaa.PB Go.Proofs.Ytoijjkhdfooapaa.Hd Go.Proofs.Ytoijjkhdfooapaa.SM
open Go.RowKit Go.PW.PrintWords Go.PW.PrintLast Go.PW.PrintMore
attribute [local go_sem] zbq zbo zby zbx zbj zbi zbp zbn   -- for this text's walks alone
def errW : Option Int → Value
 | none => .nilIface
 | some c => .iface 0 (.int .i64 c)
theorem zaj : errW none = .nilIface := rfl
theorem zai (c : Int) : errW (some c) = .iface 0 (.int .i64 c) := rfl
end Go.Proofs.Ytoijjkhdfooapaa.SX
namespace Go.Proofs.Ytoijjkhdfooapaa.SX
open Go.Proofs.Ytoijjkhdfooapaa.PB Go.Proofs.Ytoijjkhdfooapaa.Hd Go.Proofs.Ytoijjkhdfooapaa.SM
open Go.RowKit Go.PW.PrintWords Go.PW.PrintLast Go.PW.PrintMore
attribute [local go_sem] zbq zbo zby zbx zbj zbi zbp zbn   -- for this text's walks alone
def slices_Max_int_int.l0 : Nat → List Int → Int → Int → Option (Int)
 | 0, _, _, _ => none
 | k + 1, x0, x3, x4 => if x4 < (x0.length : Int) then (if 0 ≤ x4 then (slices_Max_int_int.l0 k x0 (mx x3 (rd x0 x4)) (wrap64 (x4 + 1))) else (none)) else (some x3)
def slices_Max_int_int.f (k : Nat) (l0 : List Int) : Option (Int) := if (l0.length : Int) < 1 then (none) else (if 0 < (l0.length : Int) then (slices_Max_int_int.l0 k l0 (rd l0 0) 1) else (none))
set_option maxHeartbeats 8000000 in
set_option maxRecDepth 100000 in
theorem slices_Max_int_int.calls (k : Nat) (A0 : Option Addr) (c0 : Nat) (l0 : List Int) (r : Int) (w : World) (hr0 : Kd.C (Kd.int .i64) w A0 l0.length l0) (hc0 : l0.length ≤ c0) (h : slices_Max_int_int.f k l0 = some r) :
  Calls Try.prog 77 #[.slice A0 l0.length c0] w fun e w' => e = .returned (.int .i64 r) ∧ Below w.heap.size w w' := by
 have HR0 := zaa.mk hr0
 have HC0 := zaa.mk hc0
 clear hr0 hc0
 have HB := zaa.mk (Below.refl w.heap.size w)
 have H : (if (l0.length : Int) < 1 then (none) else (if 0 < (l0.length : Int) then (slices_Max_int_int.l0 k l0 (rd l0 0) 1) else (none))) = some r := h
 clear h
 by_cases c2 : (l0.length : Int) < 1
 ·rw [if_pos c2] at H
  exact absurd H (by simp)
 ·rw [if_neg c2] at H
  have c2b0 : decide ((l0.length : Int) < 1) = false := decide_eq_false c2
  have c2b1 : decide (l0.length < 1) = false := decide_eq_false (by omega)
  clear c2
  by_cases c3 : 0 < (l0.length : Int)
  ·rw [if_pos c3] at H
   have c3b0 : decide (0 < (l0.length : Int)) = true := decide_eq_true c3
   have c3b1 : decide (0 < l0.length) = true := decide_eq_true (by omega)
   clear c3
   have H' := zaa.mk H
   clear H
   have p101 : 0 ≤ (0 : Int) := (by omega)
   have q101 : 0 < (l0.length : Int) := of_decide_eq_true (by first | (with_reducible assumption) | assumption)
   obtain ⟨ad101, e101, hx101_0⟩ := Kd.at_int HR0.out 0 p101 q101
   cases e101
   have qi101 : (0 < l0.length) = True := eq_true (by omega)
   (try rw [show ((0 : Int)).toNat = 0 from rfl] at hx101_0)
   (try rw [Addr.add_zero'] at hx101_0)
   replace p101 := eq_true p101
   replace q101 := eq_true q101
   go_enter Try.func77, Try.ntmps77
   go_wp2
   go_loopg [3, 4] k (fun kq v3 v4 w' => ∃ (x3_1 : Int) (x4_1 : Int), v3 = .int .i64 x3_1 ∧ v4 = .int .i64 x4_1 ∧ zaa (slices_Max_int_int.l0 kq l0 x3_1 x4_1 = some r) ∧ zaa (kq ≤ k) ∧ zaa (Below w.heap.size w w'))
   case atStart => exact ⟨(rd l0 0), (1), (by first | rfl | (simp; done) | (simp [*]; done)), (by first | rfl | (simp; done) | (simp [*]; done)), H', ⟨Nat.le_refl _⟩, ⟨by repeat (first | (with_reducible first | exact HB.out | apply zac | apply zab | apply zad) | exact HB.out)⟩⟩
   case round =>
    clear H'
    try clear p1
    try clear q1
    try clear hx1
    try clear qi1
    try clear c2
    try clear c2b0
    try clear c2b1
    try clear p2
    try clear c3
    try clear c3b0
    try clear c3b1
    try clear hx101_0
    try clear p101
    try clear q101
    obtain ⟨x3_1, x4_1, rfl, rfl, HA, HK1, HB⟩ := hrel
    cases gk with
    | zero => exact absurd HA.out (by simp [slices_Max_int_int.l0])
    | succ k1 =>
     have H := HA.out
     clear HA
     simp only [slices_Max_int_int.l0] at H
     by_cases c4 : x4_1 < (l0.length : Int)
     ·rw [if_pos c4] at H
      have c4b0 : decide (x4_1 < (l0.length : Int)) = true := decide_eq_true c4
      clear c4
      by_cases c5 : 0 ≤ x4_1
      ·rw [if_pos c5] at H
       have c5b0 : decide (0 ≤ x4_1) = true := decide_eq_true c5
       clear c5
       obtain ⟨ji6, hji6⟩ : ∃ j_ : Int, (mx x3_1 (rd l0 x4_1)) = j_ := ⟨_, rfl⟩
       replace H : (slices_Max_int_int.l0 k1 l0 ji6 (wrap64 (x4_1 + 1))) = some r := by first | (rw [hji6] at H; exact H) | (simp only [hji6] at H ⊢; exact H)
       have hji6_ : (if x3_1 < (rd l0 x4_1) then (rd l0 x4_1) else x3_1) = ji6 := hji6
       have H' := zaa.mk H
       clear H
       have p102 : 0 ≤ (x4_1 : Int) := of_decide_eq_true (by first | (with_reducible assumption) | assumption)
       have q102 : x4_1 < (l0.length : Int) := of_decide_eq_true (by first | (with_reducible assumption) | assumption)
       obtain ⟨ad102, e102, hx102_0⟩ := Kd.at_int HR0.out x4_1 p102 q102
       obtain rfl : ad101 = ad102 := (by injection e102)
       replace hx102_0 := (HB.out.cell (World.block_lt_of_cell? w _ hx102_0)).trans hx102_0
       replace p102 := eq_true p102
       replace q102 := eq_true q102
       go_wp2
       go_roundg k1
       case measure => have := HK1.out; omega
       case rel => exact ⟨(ji6), (wrap64 (x4_1 + 1)), (by first | rfl | (simp; done) | (simp only [← hji6] <;> (first | rfl | simp)) | (simp [*]; done)), (by first | rfl | (simp; done) | (simp [*]; done)), H', ⟨by have := HK1.out; omega⟩, ⟨by repeat (first | (with_reducible first | exact HB.out | apply zac | apply zab | apply zad) | exact HB.out)⟩⟩
      ·rw [if_neg c5] at H
       exact absurd H (by simp)
     ·rw [if_neg c4] at H
      have c4b0 : decide (x4_1 < (l0.length : Int)) = false := decide_eq_false c4
      clear c4
      obtain rfl := Option.some.inj H
      go_wp2
      go_ret
      exact ⟨by first | rfl | (simp [zaj, zai] <;> rfl) | (simp [*, zaj, zai] <;> rfl), by repeat (first | (with_reducible first | exact HB.out | apply zac | apply zab | apply zad) | exact HB.out)⟩
  ·rw [if_neg c3] at H
   exact absurd H (by simp)
end Go.Proofs.Ytoijjkhdfooapaa.SX
namespace Go.Proofs.Ytoijjkhdfooapaa.Hd
open Go.RowKit Go.PW.PrintWords Go.PW.PrintLast Go.PW.PrintMore Go.Proofs.Ytoijjkhdfooapaa.PB Go.Proofs.Ytoijjkhdfooapaa.ST Go.Proofs.Ytoijjkhdfooapaa.SX
theorem mx_assoc (a b c : Int) : mx a (mx b c) = mx (mx a b) c := by
 unfold mx
 by_cases h1 : a < b <;> by_cases h2 : b < c <;> by_cases h3 : a < c <;> simp [h1, h2, h3] <;> omega
theorem max_mx (a b : Int) : max a b = mx a b := by unfold mx; split <;> omega
theorem mx_fold (m : Int) : ∀ (t : List Int) (h : Int), mx m (t.foldl mx h) = t.foldl mx (mx m h)
 | [], _ => rfl
 | x :: t, h => by rw [List.foldl_cons, List.foldl_cons, mx_fold m t, mx_assoc]
def farN (cs : List (List Int)) (n : Nat) : Nat → Int
 | 0 => 0
 | a + 1 => (stepsL cs n a).foldl mx (farN cs n a)
def nearFarF (p : List ByteArray) : Int × Bool := match floorF p with
 | none => (0, false)
 | some (cs, rs) => (farN cs rs.length rs.length, true)
theorem far_l1 (p : List ByteArray) (a : Int) (L : List Int) (hl : L.length ≤ 9) (r : Int × Bool) : ∀ m i x, i + m = L.length → Evs (fun k => spec_NearFar.l0 k p ((L.drop i).foldl mx x) (wrap64 (a + 1))) r → Evs (fun k => spec_NearFar.l1 k p x a L (i : Int)) r := by
 intro m
 induction m with
 | zero =>
  intro i x hi hr
  obtain rfl : i = L.length := by omega
  rw [List.drop_length] at hr
  refine Evs.step (fun k => ?_) hr
  conv => lhs; unfold spec_NearFar.l1
  rw [if_neg (by omega)]
  rfl
 | succ m ih =>
  intro i x hi hr
  have hlt : i < L.length := by omega
  rw [rd_drop hlt, List.foldl_cons] at hr
  refine Evs.step (fun k => ?_) (ih (i + 1) _ (by omega) hr)
  conv => lhs; unfold spec_NearFar.l1
  rw [if_pos (by omega), if_pos (by omega), zay (by omega)]
theorem far_l0 {p : List ByteArray} {cs : List (List Int)} {rs : List Rc} (F : PlanFacts p cs rs) : ∀ m a, a + m = rs.length → Evs (fun k => spec_NearFar.l0 k p (farN cs rs.length a) (a : Int)) (farN cs rs.length rs.length, true) := by
 have h9 := F.ok.many
 intro m
 induction m with
 | zero =>
  intro a ha
  obtain rfl : a = rs.length := by omega
  refine Evs.step (h := fun k => (spec_l1Rooms.f k p).bind fun t551 => (if ((rs.length : Nat) : Int) < t551 then ((spec_l4Steps.f k p (rs.length : Int)).bind fun t552 => (spec_NearFar.l1 k p (farN cs rs.length rs.length) (rs.length : Int) t552 0)) else (some (farN cs rs.length rs.length, true)))) (fun k => ?_) (Evs.bind (l1Rooms_plan F) (Evs.neg (by omega) (Evs.const _)))
  conv => lhs; unfold spec_NearFar.l0
 | succ m ih =>
  intro a ha
  have hlt : a < rs.length := by omega
  have hnx := ih (a + 1) (by omega)
  have hl := (stepsL_inv cs rs.length a h9 hlt).len
  have h1 := far_l1 p (a : Int) (stepsL cs rs.length a) (by omega) (farN cs rs.length rs.length, true) _ 0 (farN cs rs.length a) (Nat.zero_add _) (by rw [zay (by omega)]; exact hnx)
  refine Evs.step (h := fun k => (spec_l1Rooms.f k p).bind fun t551 => (if (a : Int) < t551 then ((spec_l4Steps.f k p (a : Int)).bind fun t552 => (spec_NearFar.l1 k p (farN cs rs.length a) (a : Int) t552 0)) else (some (farN cs rs.length a, true)))) (fun k => ?_) (Evs.bind (l1Rooms_plan F) (Evs.pos (by omega) (Evs.bind (l4Steps_ev F a hlt) h1)))
  conv => lhs; unfold spec_NearFar.l0
theorem NearFar_ev (p : List ByteArray) (hp : smallP p) : Evs (fun k => spec_NearFar.f k p) (nearFarF p) := by
 have h1 := PlanIn_ev p hp
 rcases planB_cases p with ⟨e1, f1⟩ | ⟨e1, cs, rs, f1⟩
 ·rw [e1] at h1
  have : nearFarF p = (0, false) := by unfold nearFarF; rw [f1]
  rw [this]
  exact Evs.bind h1 (Evs.neg (by simp) (Evs.const _))
 ·rw [e1] at h1
  have : nearFarF p = (farN cs rs.length rs.length, true) := by unfold nearFarF; rw [f1]
  rw [this]
  exact Evs.bind h1 (Evs.pos rfl (far_l0 (floor_facts f1) rs.length 0 (by omega)))
theorem max_l0 (L : List Int) (hl : L.length ≤ 1000) : ∀ m i x, i + m = L.length → Evs (fun k => slices_Max_int_int.l0 k L x (i : Int)) ((L.drop i).foldl mx x) := by
 intro m
 induction m with
 | zero =>
  intro i x hi
  obtain rfl : i = L.length := by omega
  rw [List.drop_length]
  refine Evs.step (h := fun _ => some x) (fun k => ?_) (Evs.const _)
  conv => lhs; unfold slices_Max_int_int.l0
  rw [if_neg (by omega)]
 | succ m ih =>
  intro i x hi
  have hlt : i < L.length := by omega
  rw [rd_drop hlt, List.foldl_cons]
  refine Evs.step (fun k => ?_) (ih (i + 1) _ (by omega))
  conv => lhs; unfold slices_Max_int_int.l0
  rw [if_pos (by omega), if_pos (by omega), zay (by omega)]
theorem max_ev (h : Int) (t : List Int) (hl : t.length ≤ 100) : Evs (fun k => slices_Max_int_int.f k (h :: t)) (t.foldl mx h) := by
 have := max_l0 (h :: t) (by simp; omega) t.length 1 h (by simp; omega)
 refine Evs.congr (fun k => ?_) this
 conv => lhs; unfold slices_Max_int_int.f
 rw [if_neg (by simp only [List.length_cons]; omega), if_pos (by simp only [List.length_cons]; omega)]
 rfl
set_option maxHeartbeats 4000000 in
set_option maxRecDepth 100000 in
theorem NearFar_calls (A0 : Option Addr) (c0 : Nat) (l0 : List ByteArray) (w : World) (hr0 : Kd.C Kd.string w A0 l0.length l0) (hc0 : l0.length ≤ c0) (hp : smallP l0) :
  Calls Try.prog 40 #[.slice A0 l0.length c0] w fun e w' => e = .returned (.tuple #[.int .i64 (nearFarF l0).1, .bool (nearFarF l0).2]) ∧ Below w.heap.size w w' := by
 have HR := zaa.mk hr0
 have HC := zaa.mk hc0
 have HP := zaa.mk hp
 clear hr0 hc0 hp
 generalize hM : nearFarF l0 = res
 have HM := zaa.mk hM
 clear hM
 generalize hF : floorF l0 = t
 have HF := zaa.mk hF
 clear hF
 rcases t with _ | ⟨cs, rs⟩
 ·have e : res = (0, false) := by rw [← HM.out]; unfold nearFarF; rw [HF.out]
  subst e
  go_enter Try.func40, Try.ntmps40
  go_wp2_with (first
   | (go_at_call 55; refine (floorOf_calls A0 c0 l0 _ HR.out HC.out HP.out).mono ?_; rw [HF.out]; rintro e w8 ⟨hb8, v8, b8, rfl, rfl⟩; have HB8 := zaa.mk hb8; clear hb8))
  go_ret2
  exact ⟨rfl, HB8.out⟩
 ·have e : res = (farN cs rs.length rs.length, true) := by rw [← HM.out]; unfold nearFarF; rw [HF.out]
  have HE := zaa.mk e
  have HK := zaa.mk (floorF_ok HF.out)
  have h9 := HK.out.many
  have HTl := zaa.mk (touchM_length cs rs.length)
  clear e
  have b1 : (rs.length : Int) ≤ 9 := by omega
  go_enter Try.func40, Try.ntmps40
  go_wp2_with (first
   | (go_at_call 55; refine (floorOf_calls A0 c0 l0 _ HR.out HC.out HP.out).mono ?_; rw [HF.out]; rintro e w8 ⟨hb8, v8, b8, rfl, rfl, g, rfl, hfl⟩; have HB8 := zaa.mk hb8; have HFl8 := zaa.mk hfl; clear hb8 hfl)
   | (go_at_call 76; refine (touching_calls g cs rs _ HFl8.out HK.out).mono ?_; rintro e w11 ⟨A11, c11, rfl, hl11, hC11, hb11⟩; rw [HTl.out]; have HB11 := zaa.mk (zaf HB8.out hb11); have HL11 := zaa.mk hl11; have HC11 := zaa.mk hC11; clear hb11 hl11 hC11))
  go_loopg [6, 8, 20] rs.length (fun kq v6 v8 v20 w' => ∃ i : Nat, v6 = .int .i64 (farN cs rs.length i) ∧ v20 = .int .i64 (i : Int) ∧ zaa (i + kq = rs.length) ∧ zaa (Below w11.heap.size w11 w'))
  case atStart => exact ⟨0, rfl, rfl, ⟨by omega⟩, ⟨Below.refl _ _⟩⟩
  case round =>
   obtain ⟨i, rfl, rfl, HKi, HB⟩ := hrel
   by_cases hi : i < rs.length
   ·have hlt : (i : Int) < (rs.length : Int) := by omega
    have hi0 : (0 : Int) ≤ i := by omega
    obtain ⟨K, hK⟩ := isteps_ev cs rs.length i h9 hi
    have HSt := zaa.mk (hK K (Nat.le_refl K))
    have hl := (stepsL_inv cs rs.length i h9 hi).len
    have hS : farN cs rs.length (i + 1) = (stepsL cs rs.length i).foldl mx (farN cs rs.length i) := rfl
    clear hK
    generalize stepsL cs rs.length i = sl at *
    cases sl with
    | nil => simp at hl; omega
    | cons h t =>
     obtain ⟨K2, hK2⟩ := max_ev h t (by simp at hl; omega)
     have HMx := zaa.mk (hK2 K2 (Nat.le_refl K2))
     rw [List.foldl_cons, ← mx_fold] at hS
     have HS := zaa.mk hS
     clear hS hK2 hl
     generalize t.foldl mx h = mt at *
     generalize farN cs rs.length i = fm at *
     go_wp2_with (first
      | (go_at_call 74; refine calls_of_args (args' := #[.slice A11 (touchM cs rs.length).length c11, .int .i64 (i : Int)]) (by rw [HTl.out]) ?_; refine (impl_steps.calls K A11 c11 (touchM cs rs.length) (i : Int) (h :: t) _ (Kd.C_below HC11.out HB.out) HL11.out HSt.out).mono ?_; rintro e w12 ⟨v12, rfl, hr12, hb12⟩; obtain ⟨A12, c12, e12⟩ := Kd.R_slice hr12; subst e12; have HR12 := zaa.mk hr12; have HB12 := zaa.mk (zaf HB.out hb12); clear hr12 hb12)
      | (go_at_call 77; refine (slices_Max_int_int.calls K2 A12 c12 (h :: t) mt _ (Kd.R_reads' HR12.out).2.2 (by have := (Kd.R_reads' HR12.out).2.1; exact this) HMx.out).mono ?_; rintro e w13 ⟨rfl, hb13⟩; have HB13 := zaa.mk (zaf HB12.out hb13); clear hb13))
     go_roundg (rs.length - (i + 1))
     case measure => have := HKi.out; omega
     case rel => exact ⟨i + 1, by rw [HS.out, max_mx], by first | rfl | (congr 1; omega), ⟨by have := HKi.out; omega⟩, HB13⟩
   ·have hge : ¬ (i : Int) < (rs.length : Int) := by omega
    obtain rfl : i = rs.length := by have := HKi.out; omega
    go_wp2
    go_ret2
    rw [HE.out]
    exact ⟨rfl, zaf HB11.out HB.out⟩
end Go.Proofs.Ytoijjkhdfooapaa.Hd
namespace Go.Proofs.Ytoijjkhdfooapaa.Hd
open Go.RowKit Go.PW.PrintWords Go.PW.PrintLast Go.PW.PrintMore Go.Proofs.Ytoijjkhdfooapaa.PB
def impl_NearFar.f (l0 : List ByteArray) : Option (Int × Bool) := if smallB l0 = true then some (nearFarF l0) else none
theorem impl_NearFar.calls (A0 : Option Addr) (c0 : Nat) (l0 : List ByteArray) (r1 : Int) (r2 : Bool) (w : World) (hr0 : Kd.C Kd.string w A0 l0.length l0) (hc0 : l0.length ≤ c0) (h : impl_NearFar.f l0 = some (r1, r2)) :
  Calls Try.prog 40 #[.slice A0 l0.length c0] w fun e w' => e = .returned (.tuple #[.int .i64 r1, .bool r2]) ∧ Below w.heap.size w w' := by
 unfold impl_NearFar.f at h
 split at h
 ·rename_i hs
  have e := Option.some.inj h
  have := NearFar_calls A0 c0 l0 w hr0 hc0 ((smallB_iff _).1 hs)
  rw [e] at this
  exact this
 ·cases h
end Go.Proofs.Ytoijjkhdfooapaa.Hd
namespace Go.Proofs.Ytoijjkhdfooapaa.NR
open Go.Proofs.Ytoijjkhdfooapaa.PB Go.Proofs.Ytoijjkhdfooapaa.Hd
open Go.RowKit Go.PW.PrintWords Go.PW.PrintLast Go.PW.PrintMore
attribute [local go_sem] zbq zbo zby zbx zbj zbi zbp zbn   -- for this text's walks alone
def errW : Option Int → Value
 | none => .nilIface
 | some c => .iface 0 (.int .i64 c)
theorem zaj : errW none = .nilIface := rfl
theorem zai (c : Int) : errW (some c) = .iface 0 (.int .i64 c) := rfl
theorem info3 : (Try.prog.info? 3).map (fun i => (i.zero, i.size, i.bytes)) = some (some (.int .i64 0), 1, 8) := by kernel_rfl
theorem info5 : (Try.prog.info? 5).map (fun i => (i.zero, i.size, i.bytes)) = some (some (.int .u8 0), 1, 1) := by kernel_rfl
theorem info9 : (Try.prog.info? 9).map (fun i => (i.zero, i.size, i.bytes)) = some (some (.string ⟨#[]⟩), 1, 16) := by kernel_rfl
theorem info60 : (Try.prog.info? 60).map (fun i => (i.zero, i.size, i.bytes)) = some (some (.agg #[(.bool false), (.int .i64 0), (.int .i64 0), (.int .i64 0)]), 4, 32) := by kernel_rfl
def zbm (xs : List (List Int)) (i : Int) : (List Int) := xs.getD i.toNat ([] : List Int)
theorem at_L3 {w : World} {A : Option Addr} {n : Nat} {xs : List (List Int)} (h : Kd.C (Kd.slice 3 (Kd.int .i64)) w A n xs) (i : Int) (h0 : 0 ≤ i) (h1 : i < n) : ∃ ad A0 c0, A = some ad ∧ w.cell? (ad.add i.toNat) = some (.slice A0 (zbm xs i).length c0) ∧ (zbm xs i).length ≤ c0 ∧ (Kd.int .i64).C w A0 (zbm xs i).length (zbm xs i) := by
 obtain ⟨ad, c, e, _, hK, hc0⟩ := Kd.C_get h ([] : List Int) i h0 h1
 have hc : ∀ j u, c[j]? = some u → w.cell? (ad.add (i.toNat * 1 + j)) = some u := hc0
 obtain ⟨A0, c0, rfl, l0, g0⟩ := hK
 exact ⟨ad, A0, c0, e, by have hq := hc 0 _ rfl; rwa [Nat.mul_one, Nat.add_zero] at hq, l0, g0⟩
structure S87 where
 f0 : Int
 f1 : Int
 f2 : Int
 f3 : Int
def z87 : S87 := ⟨(0 : Int), (0 : Int), (0 : Int), (0 : Int)⟩
def k87 : Kd S87 := Kd.iso (Kd.pair (Kd.int .i64) (Kd.pair (Kd.int .i64) (Kd.pair (Kd.int .i64) (Kd.int .i64)))) (fun x : S87 => (x.f0, x.f1, x.f2, x.f3))
theorem k87_open {w : World} {x : S87} {cs : List Value} (h : k87.K w x cs) : cs = [.int .i64 x.f0, .int .i64 x.f1, .int .i64 x.f2, .int .i64 x.f3] := by
 obtain ⟨_, _, rfl, rfl, ⟨_, _, rfl, rfl, ⟨_, _, rfl, rfl, rfl⟩⟩⟩ := h
 exact rfl
theorem k87_mkM (w : World) (base : Nat) (ok : Nat → Prop) (x : S87)  : k87.M w base ok x [.int .i64 x.f0, .int .i64 x.f1, .int .i64 x.f2, .int .i64 x.f3] := ⟨[.int .i64 x.f0], [.int .i64 x.f1, .int .i64 x.f2, .int .i64 x.f3], rfl, rfl, ⟨[.int .i64 x.f1], [.int .i64 x.f2, .int .i64 x.f3], rfl, rfl, ⟨[.int .i64 x.f2], [.int .i64 x.f3], rfl, rfl, rfl⟩⟩⟩
def rd_T87 (xs : List S87) (i : Int) : S87 := xs.getD i.toNat z87
theorem at_T87 {w : World} {A : Option Addr} {n : Nat} {xs : List S87} (h : Kd.C k87 w A n xs) (i : Int) (h0 : 0 ≤ i) (h1 : i < n) : ∃ ad , A = some ad ∧ w.cell? (ad.add (i.toNat * 4)) = some (.int .i64 (rd_T87 xs i).f0) ∧ w.cell? ⟨(ad.add (i.toNat * 4)).block, (ad.add (i.toNat * 4)).off + 1, none⟩ = some (.int .i64 (rd_T87 xs i).f1) ∧ w.cell? ⟨(ad.add (i.toNat * 4)).block, (ad.add (i.toNat * 4)).off + 2, none⟩ = some (.int .i64 (rd_T87 xs i).f2) ∧ w.cell? ⟨(ad.add (i.toNat * 4)).block, (ad.add (i.toNat * 4)).off + 3, none⟩ = some (.int .i64 (rd_T87 xs i).f3) := by
 obtain ⟨ad, c, e, _, hK, hc0⟩ := Kd.C_get h z87 i h0 h1
 have hc : ∀ j u, c[j]? = some u → w.cell? (ad.add (i.toNat * 4 + j)) = some u := hc0
 obtain rfl := k87_open hK
 exact ⟨ad, e, hc 0 _ rfl, by rw [← zcp _ _ 1 (by omega)]; exact hc 1 _ rfl, by rw [← zcp _ _ 2 (by omega)]; exact hc 2 _ rfl, by rw [← zcp _ _ 3 (by omega)]; exact hc 3 _ rfl⟩
structure S60 where
 f0 : Bool
 f1 : Int
 f2 : Int
 f3 : Int
def z60 : S60 := ⟨false, (0 : Int), (0 : Int), (0 : Int)⟩
def k60 : Kd S60 := Kd.iso (Kd.pair Kd.bool (Kd.pair (Kd.int .i64) (Kd.pair (Kd.int .i64) (Kd.int .i64)))) (fun x : S60 => (x.f0, x.f1, x.f2, x.f3))
theorem k60_open {w : World} {x : S60} {cs : List Value} (h : k60.K w x cs) : cs = [.bool x.f0, .int .i64 x.f1, .int .i64 x.f2, .int .i64 x.f3] := by
 obtain ⟨_, _, rfl, rfl, ⟨_, _, rfl, rfl, ⟨_, _, rfl, rfl, rfl⟩⟩⟩ := h
 exact rfl
theorem k60_openM {w : World} {base : Nat} {ok : Nat → Prop} {x : S60} {cs : List Value} (h : k60.M w base ok x cs) : cs = [.bool x.f0, .int .i64 x.f1, .int .i64 x.f2, .int .i64 x.f3] := by
 obtain ⟨_, _, rfl, rfl, ⟨_, _, rfl, rfl, ⟨_, _, rfl, rfl, rfl⟩⟩⟩ := h
 exact rfl
theorem k60_mkM (w : World) (base : Nat) (ok : Nat → Prop) (x : S60)  : k60.M w base ok x [.bool x.f0, .int .i64 x.f1, .int .i64 x.f2, .int .i64 x.f3] := ⟨[.bool x.f0], [.int .i64 x.f1, .int .i64 x.f2, .int .i64 x.f3], rfl, rfl, ⟨[.int .i64 x.f1], [.int .i64 x.f2, .int .i64 x.f3], rfl, rfl, ⟨[.int .i64 x.f2], [.int .i64 x.f3], rfl, rfl, rfl⟩⟩⟩
def zbs (xs : List S60) (i : Int) : S60 := xs.getD i.toNat z60
theorem at_T60 {w : World} {A : Option Addr} {n : Nat} {xs : List S60} (h : Kd.C k60 w A n xs) (i : Int) (h0 : 0 ≤ i) (h1 : i < n) : ∃ ad , A = some ad ∧ w.cell? (ad.add (i.toNat * 4)) = some (.bool (zbs xs i).f0) ∧ w.cell? ⟨(ad.add (i.toNat * 4)).block, (ad.add (i.toNat * 4)).off + 1, none⟩ = some (.int .i64 (zbs xs i).f1) ∧ w.cell? ⟨(ad.add (i.toNat * 4)).block, (ad.add (i.toNat * 4)).off + 2, none⟩ = some (.int .i64 (zbs xs i).f2) ∧ w.cell? ⟨(ad.add (i.toNat * 4)).block, (ad.add (i.toNat * 4)).off + 3, none⟩ = some (.int .i64 (zbs xs i).f3) := by
 obtain ⟨ad, c, e, _, hK, hc0⟩ := Kd.C_get h z60 i h0 h1
 have hc : ∀ j u, c[j]? = some u → w.cell? (ad.add (i.toNat * 4 + j)) = some u := hc0
 obtain rfl := k60_open hK
 exact ⟨ad, e, hc 0 _ rfl, by rw [← zcp _ _ 1 (by omega)]; exact hc 1 _ rfl, by rw [← zcp _ _ 2 (by omega)]; exact hc 2 _ rfl, by rw [← zcp _ _ 3 (by omega)]; exact hc 3 _ rfl⟩
end Go.Proofs.Ytoijjkhdfooapaa.NR
namespace Go.Proofs.Ytoijjkhdfooapaa.NR
open Go.Proofs.Ytoijjkhdfooapaa.PB Go.Proofs.Ytoijjkhdfooapaa.Hd
open Go.RowKit Go.PW.PrintWords Go.PW.PrintLast Go.PW.PrintMore
attribute [local go_sem] zbq zbo zby zbx zbj zbi zbp zbn   -- for this text's walks alone
def slices_Max_int_int.l0 : Nat → List Int → Int → Int → Option (Int)
 | 0, _, _, _ => none
 | k + 1, x0, x3, x4 => if x4 < (x0.length : Int) then (if 0 ≤ x4 then (slices_Max_int_int.l0 k x0 (mx x3 (rd x0 x4)) (wrap64 (x4 + 1))) else (none)) else (some x3)
def slices_Max_int_int.f (k : Nat) (l0 : List Int) : Option (Int) := if (l0.length : Int) < 1 then (none) else (if 0 < (l0.length : Int) then (slices_Max_int_int.l0 k l0 (rd l0 0) 1) else (none))
set_option maxHeartbeats 8000000 in
set_option maxRecDepth 100000 in
theorem slices_Max_int_int.calls (k : Nat) (A0 : Option Addr) (c0 : Nat) (l0 : List Int) (r : Int) (w : World) (hr0 : Kd.C (Kd.int .i64) w A0 l0.length l0) (hc0 : l0.length ≤ c0) (h : slices_Max_int_int.f k l0 = some r) :
  Calls Try.prog 77 #[.slice A0 l0.length c0] w fun e w' => e = .returned (.int .i64 r) ∧ Below w.heap.size w w' := by
 have HR0 := zaa.mk hr0
 have HC0 := zaa.mk hc0
 clear hr0 hc0
 have HB := zaa.mk (Below.refl w.heap.size w)
 have H : (if (l0.length : Int) < 1 then (none) else (if 0 < (l0.length : Int) then (slices_Max_int_int.l0 k l0 (rd l0 0) 1) else (none))) = some r := h
 clear h
 by_cases c2 : (l0.length : Int) < 1
 ·rw [if_pos c2] at H
  exact absurd H (by simp)
 ·rw [if_neg c2] at H
  have c2b0 : decide ((l0.length : Int) < 1) = false := decide_eq_false c2
  have c2b1 : decide (l0.length < 1) = false := decide_eq_false (by omega)
  clear c2
  by_cases c3 : 0 < (l0.length : Int)
  ·rw [if_pos c3] at H
   have c3b0 : decide (0 < (l0.length : Int)) = true := decide_eq_true c3
   have c3b1 : decide (0 < l0.length) = true := decide_eq_true (by omega)
   clear c3
   have H' := zaa.mk H
   clear H
   have p280 : 0 ≤ (0 : Int) := (by omega)
   have q280 : 0 < (l0.length : Int) := of_decide_eq_true (by first | (with_reducible assumption) | assumption)
   obtain ⟨ad280, e280, hx280_0⟩ := Kd.at_int HR0.out 0 p280 q280
   cases e280
   have qi280 : (0 < l0.length) = True := eq_true (by omega)
   (try rw [show ((0 : Int)).toNat = 0 from rfl] at hx280_0)
   (try rw [Addr.add_zero'] at hx280_0)
   replace p280 := eq_true p280
   replace q280 := eq_true q280
   go_enter Try.func77, Try.ntmps77
   go_wp2
   go_loopg [3, 4] k (fun kq v3 v4 w' => ∃ (x3_1 : Int) (x4_1 : Int), v3 = .int .i64 x3_1 ∧ v4 = .int .i64 x4_1 ∧ zaa (slices_Max_int_int.l0 kq l0 x3_1 x4_1 = some r) ∧ zaa (kq ≤ k) ∧ zaa (Below w.heap.size w w'))
   case atStart => exact ⟨(rd l0 0), (1), (by first | rfl | (simp; done) | (simp [*]; done)), (by first | rfl | (simp; done) | (simp [*]; done)), H', ⟨Nat.le_refl _⟩, ⟨by repeat (first | (with_reducible first | exact HB.out | apply zac | apply zab | apply zad) | exact HB.out)⟩⟩
   case round =>
    clear H'
    try clear c2
    try clear c2b0
    try clear c2b1
    try clear p2
    try clear q2
    try clear hx2
    try clear qi2
    try clear c3
    try clear c3b0
    try clear c3b1
    try clear hx280_0
    try clear p280
    try clear q280
    obtain ⟨x3_1, x4_1, rfl, rfl, HA, HK1, HB⟩ := hrel
    cases gk with
    | zero => exact absurd HA.out (by simp [slices_Max_int_int.l0])
    | succ k1 =>
     have H := HA.out
     clear HA
     simp only [slices_Max_int_int.l0] at H
     by_cases c4 : x4_1 < (l0.length : Int)
     ·rw [if_pos c4] at H
      have c4b0 : decide (x4_1 < (l0.length : Int)) = true := decide_eq_true c4
      clear c4
      by_cases c5 : 0 ≤ x4_1
      ·rw [if_pos c5] at H
       have c5b0 : decide (0 ≤ x4_1) = true := decide_eq_true c5
       clear c5
       obtain ⟨ji6, hji6⟩ : ∃ j_ : Int, (mx x3_1 (rd l0 x4_1)) = j_ := ⟨_, rfl⟩
       replace H : (slices_Max_int_int.l0 k1 l0 ji6 (wrap64 (x4_1 + 1))) = some r := by first | (rw [hji6] at H; exact H) | (simp only [hji6] at H ⊢; exact H)
       have hji6_ : (if x3_1 < (rd l0 x4_1) then (rd l0 x4_1) else x3_1) = ji6 := hji6
       have H' := zaa.mk H
       clear H
       have p281 : 0 ≤ (x4_1 : Int) := of_decide_eq_true (by first | (with_reducible assumption) | assumption)
       have q281 : x4_1 < (l0.length : Int) := of_decide_eq_true (by first | (with_reducible assumption) | assumption)
       obtain ⟨ad281, e281, hx281_0⟩ := Kd.at_int HR0.out x4_1 p281 q281
       obtain rfl : ad280 = ad281 := (by injection e281)
       replace hx281_0 := (HB.out.cell (World.block_lt_of_cell? w _ hx281_0)).trans hx281_0
       replace p281 := eq_true p281
       replace q281 := eq_true q281
       go_wp2
       go_roundg k1
       case measure => have := HK1.out; omega
       case rel => exact ⟨(ji6), (wrap64 (x4_1 + 1)), (by first | rfl | (simp; done) | (simp only [← hji6] <;> (first | rfl | simp)) | (simp [*]; done)), (by first | rfl | (simp; done) | (simp [*]; done)), H', ⟨by have := HK1.out; omega⟩, ⟨by repeat (first | (with_reducible first | exact HB.out | apply zac | apply zab | apply zad) | exact HB.out)⟩⟩
      ·rw [if_neg c5] at H
       exact absurd H (by simp)
     ·rw [if_neg c4] at H
      have c4b0 : decide (x4_1 < (l0.length : Int)) = false := decide_eq_false c4
      clear c4
      obtain rfl := Option.some.inj H
      go_wp2
      go_ret
      exact ⟨by first | rfl | (simp [zaj, zai] <;> rfl) | (simp [*, zaj, zai] <;> rfl), by repeat (first | (with_reducible first | exact HB.out | apply zac | apply zab | apply zad) | exact HB.out)⟩
  ·rw [if_neg c3] at H
   exact absurd H (by simp)
def laws_FnExactNearFar.j0 : Nat → List ByteArray → List ByteArray → Bool → Option (Bool)
 | 0, _, _, _ => none
 | k + 1, x0, x6, x34 => if x34 = true then (some false) else ((laws_toStringS.f k x0).bind fun t293 => ((laws_eqStringS.f k x6 t293).bind fun t296 => (if t296 = true then (some true) else (some false))))
def laws_FnExactNearFar.f (k : Nat) (l0 : List ByteArray) : Option (Bool) := (laws_szStringS.f k l0 1048576).bind fun t282 => (if t282 < 0 then (some true) else ((laws_toStringS.f k l0).bind fun t283 => ((spec_NearFar.f k t283).bind fun bt286 => ((laws_toStringS.f k l0).bind fun t288 => ((impl_NearFar.f t288).bind fun bt291 => (if bt291.1 = bt286.1 then (laws_FnExactNearFar.j0 k l0 t288 (bt291.2 != bt286.2)) else (laws_FnExactNearFar.j0 k l0 t288 true)))))))
set_option maxHeartbeats 8000000 in
set_option maxRecDepth 100000 in
theorem laws_FnExactNearFar.calls (k : Nat) (A0 : Option Addr) (c0 : Nat) (l0 : List ByteArray) (r : Bool) (w : World) (hr0 : Kd.C Kd.string w A0 l0.length l0) (hc0 : l0.length ≤ c0) (h : laws_FnExactNearFar.f k l0 = some r) :
  Calls Try.prog 10 #[.slice A0 l0.length c0] w fun e w' => e = .returned (.bool r) ∧ Below w.heap.size w w' := by
 have HR0 := zaa.mk hr0
 have HC0 := zaa.mk hc0
 clear hr0 hc0
 have HB := zaa.mk (Below.refl w.heap.size w)
 have H : ((laws_szStringS.f k l0 1048576).bind fun t282 => (if t282 < 0 then (some true) else ((laws_toStringS.f k l0).bind fun t283 => ((spec_NearFar.f k t283).bind fun bt286 => ((laws_toStringS.f k l0).bind fun t288 => ((impl_NearFar.f t288).bind fun bt291 => (if bt291.1 = bt286.1 then (laws_FnExactNearFar.j0 k l0 t288 (bt291.2 != bt286.2)) else (laws_FnExactNearFar.j0 k l0 t288 true)))))))) = some r := h
 clear h
 replace H := Option.bind_eq_some_iff.mp H
 obtain ⟨t282, A20, H⟩ := H
 replace H : (if t282 < 0 then (some true) else ((laws_toStringS.f k l0).bind fun t283 => ((spec_NearFar.f k t283).bind fun bt286 => ((laws_toStringS.f k l0).bind fun t288 => ((impl_NearFar.f t288).bind fun bt291 => (if bt291.1 = bt286.1 then (laws_FnExactNearFar.j0 k l0 t288 (bt291.2 != bt286.2)) else (laws_FnExactNearFar.j0 k l0 t288 true))))))) = some r := H
 have A2 := zaa.mk A20
 clear A20
 by_cases c3 : t282 < 0
 ·rw [if_pos c3] at H
  have c3b0 : decide (t282 < 0) = true := decide_eq_true c3
  clear c3
  obtain rfl := Option.some.inj H
  go_enter Try.func10, Try.ntmps10
  go_wp2_with (first | ((with_reducible refine zap (f := 15) rfl ?_); refine zbt (some 11) rfl rfl Try.func15 (by kernel_rfl) rfl #[.slice A0 l0.length c0, .int .i64 1048576] rfl (by (try simp only [List.map_toArray, List.map_cons, List.map_nil]); first | done | rfl | (simp only [List.length_drop, List.length_take]; rfl)) ?_; (with_reducible refine (laws_szStringS.calls k _ _ l0 1048576 t282 _ ?side1 ?side2 A2.out).mono ?_); (case side1 => repeat (first | exact HR0.out | (with_reducible refine Kd.C_alloc ?_ _) | (with_reducible refine Kd.C_drewN ?_ _) | (with_reducible refine Kd.C_drew ?_))); (case side2 => exact HC0.out); rintro e w' ⟨rfl, ⟨nd, rfl⟩⟩; refine ⟨_, rfl, ?_⟩))
  go_ret
  exact ⟨by first | rfl | (simp [zaj, zai] <;> rfl) | (simp [*, zaj, zai] <;> rfl), by repeat (first | (with_reducible first | exact HB.out | apply zac | apply zab | apply zad) | exact HB.out)⟩
 ·rw [if_neg c3] at H
  have c3b0 : decide (t282 < 0) = false := decide_eq_false c3
  clear c3
  replace H := Option.bind_eq_some_iff.mp H
  obtain ⟨t283, A40, H⟩ := H
  replace H : ((spec_NearFar.f k t283).bind fun bt286 => ((laws_toStringS.f k l0).bind fun t288 => ((impl_NearFar.f t288).bind fun bt291 => (if bt291.1 = bt286.1 then (laws_FnExactNearFar.j0 k l0 t288 (bt291.2 != bt286.2)) else (laws_FnExactNearFar.j0 k l0 t288 true))))) = some r := H
  have A4 := zaa.mk A40
  clear A40
  replace H := Option.bind_eq_some_iff.mp H
  obtain ⟨⟨t286, t287⟩, A50, H⟩ := H
  replace H : ((laws_toStringS.f k l0).bind fun t288 => ((impl_NearFar.f t288).bind fun bt291 => (if bt291.1 = t286 then (laws_FnExactNearFar.j0 k l0 t288 (bt291.2 != t287)) else (laws_FnExactNearFar.j0 k l0 t288 true)))) = some r := H
  have A5 := zaa.mk A50
  clear A50
  replace H := Option.bind_eq_some_iff.mp H
  obtain ⟨t288, A60, H⟩ := H
  replace H : ((impl_NearFar.f t288).bind fun bt291 => (if bt291.1 = t286 then (laws_FnExactNearFar.j0 k l0 t288 (bt291.2 != t287)) else (laws_FnExactNearFar.j0 k l0 t288 true))) = some r := H
  have A6 := zaa.mk A60
  clear A60
  replace H := Option.bind_eq_some_iff.mp H
  obtain ⟨⟨t291, t292⟩, A70, H⟩ := H
  replace H : (if t291 = t286 then (laws_FnExactNearFar.j0 k l0 t288 (t292 != t287)) else (laws_FnExactNearFar.j0 k l0 t288 true)) = some r := H
  have A7 := zaa.mk A70
  clear A70
  have HC8 := zaa.mk H
  clear H
  go_enter Try.func10, Try.ntmps10
  go_upto_region 8 with (first | ((with_reducible refine zap (f := 15) rfl ?_); refine zbt (some 11) rfl rfl Try.func15 (by kernel_rfl) rfl #[.slice A0 l0.length c0, .int .i64 1048576] rfl (by (try simp only [List.map_toArray, List.map_cons, List.map_nil]); first | done | rfl | (simp only [List.length_drop, List.length_take]; rfl)) ?_; (with_reducible refine (laws_szStringS.calls k _ _ l0 1048576 t282 _ ?side1 ?side2 A2.out).mono ?_); (case side1 => repeat (first | exact HR0.out | (with_reducible refine Kd.C_alloc ?_ _) | (with_reducible refine Kd.C_drewN ?_ _) | (with_reducible refine Kd.C_drew ?_))); (case side2 => exact HC0.out); rintro e w' ⟨rfl, ⟨nd, rfl⟩⟩; refine ⟨_, rfl, ?_⟩) | ((with_reducible refine zap (f := 17) rfl ?_); refine zbt (some 16) rfl rfl Try.func17 (by kernel_rfl) rfl #[.slice A0 l0.length c0] rfl (by (try simp only [List.map_toArray, List.map_cons, List.map_nil]); first | done | rfl | (simp only [List.length_drop, List.length_take]; rfl)) ?_; (with_reducible refine (laws_toStringS.calls k _ _ l0 t283 _ ?side1 ?side2 A4.out).mono ?_); (case side1 => repeat (first | exact HR0.out | (with_reducible refine Kd.C_alloc ?_ _) | (with_reducible refine Kd.C_drewN ?_ _) | (with_reducible refine Kd.C_drew ?_))); (case side2 => exact HC0.out); rintro e w9 ⟨v284, rfl, ho0, hb⟩; refine ⟨_, rfl, ?_⟩; have n0_ := zaa.mk (Kd.R_lower ho0 (zag (by repeat (first | (with_reducible first | exact HB.out | apply zac | apply zab | apply zad) | exact HB.out)))); have n1_ := zaa.mk (zaf (by repeat (first | (with_reducible first | exact HB.out | apply zac | apply zab | apply zad) | exact HB.out)) hb); clear HB; have HO285 := n0_; have HB := n1_; clear n0_ n1_; (try clear hb); (try clear hb2); (try clear hk); (try clear hi); (try clear ho0); obtain ⟨Ao10, co10, eo10⟩ := Kd.R_slice HO285.out; subst eo10) | ((with_reducible refine zap (f := 39) rfl ?_); refine zbt (some 17) rfl rfl Try.func39 (by kernel_rfl) rfl #[.slice Ao10 t283.length co10] rfl (by (try simp only [List.map_toArray, List.map_cons, List.map_nil]); first | done | rfl | (simp only [List.length_drop, List.length_take]; rfl)) ?_; (with_reducible refine (spec_NearFar.calls k _ _ t283 t286 t287 _ ?side1 ?side2 A5.out).mono ?_); (case side1 => repeat (first | exact (Kd.R_reads' HO285.out).2.2 | (with_reducible refine Kd.C_alloc ?_ _) | (with_reducible refine Kd.C_drewN ?_ _) | (with_reducible refine Kd.C_drew ?_))); (case side2 => exact (Kd.R_reads' HO285.out).2.1); rintro e w11 ⟨rfl, hb⟩; refine ⟨_, rfl, ?_⟩; have n0_ := zaa.mk (Kd.R_below (by (with_reducible repeat (first | apply Kd.R_alloc | apply Kd.R_drewN | apply Kd.R_drew)); exact HO285.out) hb); have n1_ := zaa.mk (zaf (by repeat (first | (with_reducible first | exact HB.out | apply zac | apply zab | apply zad) | exact HB.out)) hb); clear HO285; clear HB; have HO285 := n0_; have HB := n1_; clear n0_ n1_; (try clear hb); (try clear hb2); (try clear hk); (try clear hi)) | ((with_reducible refine zap (f := 17) rfl ?_); refine zbt (some 21) rfl rfl Try.func17 (by kernel_rfl) rfl #[.slice A0 l0.length c0] rfl (by (try simp only [List.map_toArray, List.map_cons, List.map_nil]); first | done | rfl | (simp only [List.length_drop, List.length_take]; rfl)) ?_; (with_reducible refine (laws_toStringS.calls k _ _ l0 t288 _ ?side1 ?side2 A6.out).mono ?_); (case side1 => repeat (first | exact (Kd.C_below HR0.out HB.out) | (with_reducible refine Kd.C_alloc ?_ _) | (with_reducible refine Kd.C_drewN ?_ _) | (with_reducible refine Kd.C_drew ?_))); (case side2 => exact HC0.out); rintro e w12 ⟨v289, rfl, ho0, hb⟩; refine ⟨_, rfl, ?_⟩; have n0_ := zaa.mk (Kd.R_elder' (by (with_reducible repeat (first | apply Kd.R_alloc | apply Kd.R_drewN | apply Kd.R_drew)); exact HO285.out) (Kd.R_base ho0) hb); have n1_ := zaa.mk (Kd.R_lower (Kd.R_new' ho0 (Kd.R_lt (by (with_reducible repeat (first | apply Kd.R_alloc | apply Kd.R_drewN | apply Kd.R_drew)); exact HO285.out))) (zag (by repeat (first | (with_reducible first | exact HB.out | apply zac | apply zab | apply zad) | exact HB.out)))); have n2_ := zaa.mk (zaf (by repeat (first | (with_reducible first | exact HB.out | apply zac | apply zab | apply zad) | exact HB.out)) hb); clear HO285; clear HB; have HO285 := n0_; have HO290 := n1_; have HB := n2_; clear n0_ n1_ n2_; (try clear hb); (try clear hb2); (try clear hk); (try clear hi); (try clear ho0); obtain ⟨Ao13, co13, eo13⟩ := Kd.R_slice HO290.out; subst eo13) | ((with_reducible refine zap (f := 40) rfl ?_); refine zbt (some 24) rfl rfl Try.func40 (by kernel_rfl) rfl #[.slice Ao13 t288.length co13] rfl (by (try simp only [List.map_toArray, List.map_cons, List.map_nil]); first | done | rfl | (simp only [List.length_drop, List.length_take]; rfl)) ?_; (with_reducible refine (impl_NearFar.calls _ _ t288 t291 t292 _ ?side1 ?side2 A7.out).mono ?_); (case side1 => repeat (first | exact (Kd.R_reads' HO290.out).2.2 | (with_reducible refine Kd.C_alloc ?_ _) | (with_reducible refine Kd.C_drewN ?_ _) | (with_reducible refine Kd.C_drew ?_))); (case side2 => exact (Kd.R_reads' HO290.out).2.1); rintro e w14 ⟨rfl, hb⟩; refine ⟨_, rfl, ?_⟩; have n0_ := zaa.mk (Kd.R_below (by (with_reducible repeat (first | apply Kd.R_alloc | apply Kd.R_drewN | apply Kd.R_drew)); exact HO285.out) hb); have n1_ := zaa.mk (Kd.R_below (by (with_reducible repeat (first | apply Kd.R_alloc | apply Kd.R_drewN | apply Kd.R_drew)); exact HO290.out) hb); have n2_ := zaa.mk (zaf (by repeat (first | (with_reducible first | exact HB.out | apply zac | apply zab | apply zad) | exact HB.out)) hb); clear HO285; clear HO290; clear HB; have HO285 := n0_; have HO290 := n1_; have HB := n2_; clear n0_ n1_ n2_; (try clear hb); (try clear hb2); (try clear hk); (try clear hi)))
  (try simp only [Act.put, List.setIfInBounds_toArray, List.set_cons_zero, List.set_cons_succ])
  go_cut [34] (fun v34 wc => ∃ (kq : Nat) (x34_7 : Bool), v34 = .bool x34_7 ∧ zaa (laws_FnExactNearFar.j0 kq l0 t288 x34_7 = some r) ∧ zaa (kq ≤ k) ∧ zaa (Kd.R Kd.string 9 wc w.heap.size (fun _ => True) (.slice Ao13 t288.length co13) t288) ∧ zaa (Below w.heap.size w wc))
  case first =>
   have H := HC8.out
   clear HC8
   by_cases c15 : t291 = t286
   ·rw [if_pos c15] at H
    have c15b0 : (t291 == t286) = true := beq_iff_eq.mpr c15
    have c15b1 : (t291 != t286) = false := bne_eq_false_iff_eq.mpr c15
    clear c15
    (first | rw [c15b0] | (simp only [zat, zau]; rw [c15b0]) | skip)
    have H' := zaa.mk H
    clear H
    go_wp2
    go_meet
    case rel => exact ⟨_, ((t292 != t287)), (by first | rfl | (simp; done) | (simp [*]; done)), H', ⟨by first | omega | exact Nat.le_refl _⟩, ⟨by (with_reducible repeat (first | apply Kd.R_alloc | apply Kd.R_drewN | apply Kd.R_drew)); exact Kd.R_mono HO290.out (fun _ hk => trivial)⟩, ⟨by repeat (first | (with_reducible first | exact HB.out | apply zac | apply zab | apply zad) | exact HB.out)⟩⟩
   ·rw [if_neg c15] at H
    have c15b0 : (t291 == t286) = false := beq_eq_false_iff_ne.mpr c15
    have c15b1 : (t291 != t286) = true := bne_iff_ne.mpr c15
    (first | rw [c15b0] | (simp only [zat, zau]; rw [c15b0]) | skip)
    have H' := zaa.mk H
    clear H
    go_wp2
    go_meet
    case rel => exact ⟨_, (true), (by first | rfl | (simp; done) | (simp [*]; done)), H', ⟨by first | omega | exact Nat.le_refl _⟩, ⟨by (with_reducible repeat (first | apply Kd.R_alloc | apply Kd.R_drewN | apply Kd.R_drew)); exact Kd.R_mono HO290.out (fun _ hk => trivial)⟩, ⟨by repeat (first | (with_reducible first | exact HB.out | apply zac | apply zab | apply zad) | exact HB.out)⟩⟩
  case rest =>
   clear HC8
   try clear c1
   try clear p2
   try clear c3
   try clear c3b0
   try clear c4
   try clear c10
   try clear c15
   try clear c15b0
   try clear c15b1
   obtain ⟨kq, x34_7, rfl, HA, HJ7, HO_6, HB⟩ := hcut
   cases kq with
   | zero => exact absurd HA.out (by simp [laws_FnExactNearFar.j0])
   | succ kj7 =>
    have H := HA.out
    clear HA
    simp only [laws_FnExactNearFar.j0] at H
    by_cases c16 : x34_7 = true
    ·subst c16
     have H1 : (some false) = some r := by rw [if_pos rfl] at H; exact H
     clear H
     have H := H1
     clear H1
     obtain rfl := Option.some.inj H
     go_wp2
     go_ret
     exact ⟨by first | rfl | (simp [zaj, zai] <;> rfl) | (simp [*, zaj, zai] <;> rfl), by repeat (first | (with_reducible first | exact HB.out | apply zac | apply zab | apply zad) | exact HB.out)⟩
    ·replace c16 := Bool.eq_false_iff.mpr c16
     subst c16
     have H1 : ((laws_toStringS.f kj7 l0).bind fun t293 => ((laws_eqStringS.f kj7 t288 t293).bind fun t296 => (if t296 = true then (some true) else (some false)))) = some r := by rw [if_neg (show ¬ (false = true) by decide)] at H; exact H
     clear H
     have H := H1
     clear H1
     replace H := Option.bind_eq_some_iff.mp H
     obtain ⟨t293, A170, H⟩ := H
     replace H : ((laws_eqStringS.f kj7 t288 t293).bind fun t296 => (if t296 = true then (some true) else (some false))) = some r := H
     have A17 := zaa.mk A170
     clear A170
     replace H := Option.bind_eq_some_iff.mp H
     obtain ⟨t296, A180, H⟩ := H
     replace H : (if t296 = true then (some true) else (some false)) = some r := H
     have A18 := zaa.mk A180
     clear A180
     by_cases c19 : t296 = true
     ·subst c19
      have H1 : (some true) = some r := by rw [if_pos rfl] at H; exact H
      clear H
      have H := H1
      clear H1
      obtain rfl := Option.some.inj H
      go_wp2_with (first | ((with_reducible refine zap (f := 17) rfl ?_); refine zbt (some 37) rfl rfl Try.func17 (by kernel_rfl) rfl #[.slice A0 l0.length c0] rfl (by (try simp only [List.map_toArray, List.map_cons, List.map_nil]); first | done | rfl | (simp only [List.length_drop, List.length_take]; rfl)) ?_; (with_reducible refine (laws_toStringS.calls kj7 _ _ l0 t293 _ ?side1 ?side2 A17.out).mono ?_); (case side1 => repeat (first | exact (Kd.C_below HR0.out HB.out) | (with_reducible refine Kd.C_alloc ?_ _) | (with_reducible refine Kd.C_drewN ?_ _) | (with_reducible refine Kd.C_drew ?_))); (case side2 => exact HC0.out); rintro e w20 ⟨v294, rfl, ho0, hb⟩; refine ⟨_, rfl, ?_⟩; have n0_ := zaa.mk (Kd.R_elder' (by (with_reducible repeat (first | apply Kd.R_alloc | apply Kd.R_drewN | apply Kd.R_drew)); exact HO_6.out) (Kd.R_base ho0) hb); have n1_ := zaa.mk (Kd.R_lower (Kd.R_new' ho0 (Kd.R_lt (by (with_reducible repeat (first | apply Kd.R_alloc | apply Kd.R_drewN | apply Kd.R_drew)); exact HO_6.out))) (zag (by repeat (first | (with_reducible first | exact HB.out | apply zac | apply zab | apply zad) | exact HB.out)))); have n2_ := zaa.mk (zaf (by repeat (first | (with_reducible first | exact HB.out | apply zac | apply zab | apply zad) | exact HB.out)) hb); clear HO_6; clear HB; have HO_6 := n0_; have HO295 := n1_; have HB := n2_; clear n0_ n1_ n2_; (try clear hb); (try clear hb2); (try clear hk); (try clear hi); (try clear ho0); obtain ⟨Ao21, co21, eo21⟩ := Kd.R_slice HO295.out; subst eo21) | ((with_reducible refine zap (f := 19) rfl ?_); refine zbt (some 38) rfl rfl Try.func19 (by kernel_rfl) rfl #[.slice Ao13 t288.length co13, .slice Ao21 t293.length co21] rfl (by (try simp only [List.map_toArray, List.map_cons, List.map_nil]); first | done | rfl | (simp only [List.length_drop, List.length_take]; rfl)) ?_; (with_reducible refine (laws_eqStringS.calls kj7 _ _ t288 _ _ t293 true _ ?side1 ?side2 ?side3 ?side4 A18.out).mono ?_); (case side1 => repeat (first | exact (Kd.R_reads' HO_6.out).2.2 | (with_reducible refine Kd.C_alloc ?_ _) | (with_reducible refine Kd.C_drewN ?_ _) | (with_reducible refine Kd.C_drew ?_))); (case side2 => exact (Kd.R_reads' HO_6.out).2.1); (case side3 => repeat (first | exact (Kd.R_reads' HO295.out).2.2 | (with_reducible refine Kd.C_alloc ?_ _) | (with_reducible refine Kd.C_drewN ?_ _) | (with_reducible refine Kd.C_drew ?_))); (case side4 => exact (Kd.R_reads' HO295.out).2.1); rintro e w' ⟨rfl, ⟨nd, rfl⟩⟩; refine ⟨_, rfl, ?_⟩))
      go_ret
      exact ⟨by first | rfl | (simp [zaj, zai] <;> rfl) | (simp [*, zaj, zai] <;> rfl), by repeat (first | (with_reducible first | exact HB.out | apply zac | apply zab | apply zad) | exact HB.out)⟩
     ·replace c19 := Bool.eq_false_iff.mpr c19
      subst c19
      have H1 : (some false) = some r := by rw [if_neg (show ¬ (false = true) by decide)] at H; exact H
      clear H
      have H := H1
      clear H1
      obtain rfl := Option.some.inj H
      go_wp2_with (first | ((with_reducible refine zap (f := 17) rfl ?_); refine zbt (some 37) rfl rfl Try.func17 (by kernel_rfl) rfl #[.slice A0 l0.length c0] rfl (by (try simp only [List.map_toArray, List.map_cons, List.map_nil]); first | done | rfl | (simp only [List.length_drop, List.length_take]; rfl)) ?_; (with_reducible refine (laws_toStringS.calls kj7 _ _ l0 t293 _ ?side1 ?side2 A17.out).mono ?_); (case side1 => repeat (first | exact (Kd.C_below HR0.out HB.out) | (with_reducible refine Kd.C_alloc ?_ _) | (with_reducible refine Kd.C_drewN ?_ _) | (with_reducible refine Kd.C_drew ?_))); (case side2 => exact HC0.out); rintro e w22 ⟨v294, rfl, ho0, hb⟩; refine ⟨_, rfl, ?_⟩; have n0_ := zaa.mk (Kd.R_elder' (by (with_reducible repeat (first | apply Kd.R_alloc | apply Kd.R_drewN | apply Kd.R_drew)); exact HO_6.out) (Kd.R_base ho0) hb); have n1_ := zaa.mk (Kd.R_lower (Kd.R_new' ho0 (Kd.R_lt (by (with_reducible repeat (first | apply Kd.R_alloc | apply Kd.R_drewN | apply Kd.R_drew)); exact HO_6.out))) (zag (by repeat (first | (with_reducible first | exact HB.out | apply zac | apply zab | apply zad) | exact HB.out)))); have n2_ := zaa.mk (zaf (by repeat (first | (with_reducible first | exact HB.out | apply zac | apply zab | apply zad) | exact HB.out)) hb); clear HO_6; clear HB; have HO_6 := n0_; have HO295 := n1_; have HB := n2_; clear n0_ n1_ n2_; (try clear hb); (try clear hb2); (try clear hk); (try clear hi); (try clear ho0); obtain ⟨Ao23, co23, eo23⟩ := Kd.R_slice HO295.out; subst eo23) | ((with_reducible refine zap (f := 19) rfl ?_); refine zbt (some 38) rfl rfl Try.func19 (by kernel_rfl) rfl #[.slice Ao13 t288.length co13, .slice Ao23 t293.length co23] rfl (by (try simp only [List.map_toArray, List.map_cons, List.map_nil]); first | done | rfl | (simp only [List.length_drop, List.length_take]; rfl)) ?_; (with_reducible refine (laws_eqStringS.calls kj7 _ _ t288 _ _ t293 false _ ?side1 ?side2 ?side3 ?side4 A18.out).mono ?_); (case side1 => repeat (first | exact (Kd.R_reads' HO_6.out).2.2 | (with_reducible refine Kd.C_alloc ?_ _) | (with_reducible refine Kd.C_drewN ?_ _) | (with_reducible refine Kd.C_drew ?_))); (case side2 => exact (Kd.R_reads' HO_6.out).2.1); (case side3 => repeat (first | exact (Kd.R_reads' HO295.out).2.2 | (with_reducible refine Kd.C_alloc ?_ _) | (with_reducible refine Kd.C_drewN ?_ _) | (with_reducible refine Kd.C_drew ?_))); (case side4 => exact (Kd.R_reads' HO295.out).2.1); rintro e w' ⟨rfl, ⟨nd, rfl⟩⟩; refine ⟨_, rfl, ?_⟩))
      go_ret
      exact ⟨by first | rfl | (simp [zaj, zai] <;> rfl) | (simp [*, zaj, zai] <;> rfl), by repeat (first | (with_reducible first | exact HB.out | apply zac | apply zab | apply zad) | exact HB.out)⟩
end Go.Proofs.Ytoijjkhdfooapaa.NR
namespace Go.Proofs.Ytoijjkhdfooapaa.Hd
open Go.RowKit Go.PW.PrintWords Go.PW.PrintLast Go.PW.PrintMore Go.Proofs.Ytoijjkhdfooapaa.PB
theorem sz_loop (l : List ByteArray) (hl : l.length ≤ 1048576) (hs : ∀ s ∈ l, s.size ≤ 9223372036854775807) : ∀ m i (a : Int), i + m = l.length → 0 ≤ a → a ≤ 1048576 → (∀ j, j < i → ∀ s, l[j]? = some s → s.size ≤ 1048576) → ∃ v, Evs (fun k => laws_szStringS.l0 k l a (i : Int)) v ∧ (v < 0 ∨ (smallP l ∧ 0 ≤ v ∧ v ≤ a)) := by
 intro m
 induction m with
 | zero =>
  intro i a hi h0 h1 hj
  refine ⟨a, Evs.step (h := fun _ => some a) (fun k => ?_) (Evs.const _), .inr ⟨⟨hl, fun s hs => ?_⟩, h0, Int.le_refl _⟩⟩
  ·conv => lhs; unfold laws_szStringS.l0
   rw [if_neg (by omega)]
  ·obtain ⟨j, hj2, e⟩ := List.mem_iff_getElem.1 hs
   exact hj j (by omega) s (by rw [List.getElem?_eq_getElem hj2, e])
 | succ m ih =>
  intro i a hi h0 h1 hj
  obtain ⟨s, hsi⟩ : ∃ s, l[i]? = some s := ⟨_, List.getElem?_eq_getElem (by omega)⟩
  have hsz := hs s (List.mem_of_getElem? hsi)
  by_cases hneg : a - (s.size : Int) < 0
  ·refine ⟨-1, Evs.step (h := fun _ => some (-1)) (fun k => ?_) (Evs.const _), .inl (by omega)⟩
   conv => lhs; unfold laws_szStringS.l0
   rw [if_pos (by omega), if_pos (by omega), zca hsi, zaq (by omega) (by omega), if_pos hneg]
  ·obtain ⟨v, hv, hor⟩ := ih (i + 1) (a - (s.size : Int)) (by omega) (by omega) (by omega) (fun j hj1 s1 h1 => by
    rcases Nat.lt_or_eq_of_le (Nat.lt_succ_iff.1 hj1) with h2 | h2
    ·exact hj j h2 s1 h1
    ·subst h2
     rw [hsi] at h1
     have := Option.some.inj h1
     subst this
     omega)
   refine ⟨v, Evs.step (h := fun k => laws_szStringS.l0 k l (a - (s.size : Int)) ((i + 1 : Nat) : Int)) (fun k => ?_) hv, ?_⟩
   ·conv => lhs; unfold laws_szStringS.l0
    rw [if_pos (by omega), if_pos (by omega), zca hsi, zaq (x := a - (s.size : Int)) (by omega) (by omega), if_neg hneg, zay (by omega)]
   ·rcases hor with h | ⟨h2, h3, h4⟩
    ·exact .inl h
    ·exact .inr ⟨h2, h3, by omega⟩
theorem sz_ev (l : List ByteArray) (hf : fits l) (a : Int) (h0 : 0 ≤ a) (h1 : a ≤ 1048576) : ∃ v, Evs (fun k => laws_szStringS.f k l a) v ∧ (v < 0 ∨ (smallP l ∧ 0 ≤ v ∧ v ≤ a)) := by
 have hl := hf.1
 by_cases hneg : a - (l.length : Int) < 0
 ·refine ⟨-1, Evs.congr (h := fun _ => some (-1)) (fun k => ?_) (Evs.const _), .inl (by omega)⟩
  unfold laws_szStringS.f
  rw [zaq (by omega) (by omega), if_pos hneg]
 ·obtain ⟨v, hv, hor⟩ := sz_loop l (by omega) hf.2 l.length 0 (a - (l.length : Int)) (by omega) (by omega) (by omega) (fun j hj => by omega)
  refine ⟨v, Evs.congr (fun k => ?_) hv, ?_⟩
  ·unfold laws_szStringS.f
   rw [zaq (by omega) (by omega), if_neg hneg]
   rfl
  ·rcases hor with h | ⟨h2, h3, h4⟩
   ·exact .inl h
   ·exact .inr ⟨h2, h3, by omega⟩
theorem to_loop (l : List ByteArray) (hl : l.length ≤ 1048576) : ∀ m i, i + m = l.length → Evs (fun k => laws_toStringS.l0 k l (l.take i ++ List.replicate m (⟨#[]⟩ : ByteArray)) (i : Int)) l := by
 intro m
 induction m with
 | zero =>
  intro i hi
  refine Evs.step (h := fun _ => some l) (fun k => ?_) (Evs.const _)
  conv => lhs; unfold laws_toStringS.l0
  rw [if_neg (by omega), List.take_of_length_le (by omega)]
  simp
 | succ m ih =>
  intro i hi
  obtain ⟨s, hsi⟩ : ∃ s, l[i]? = some s := ⟨_, List.getElem?_eq_getElem (by omega)⟩
  refine Evs.step (h := fun k => laws_toStringS.l0 k l (l.take (i + 1) ++ List.replicate m (⟨#[]⟩ : ByteArray)) ((i + 1 : Nat) : Int)) (fun k => ?_) (ih (i + 1) (by omega))
  conv => lhs; unfold laws_toStringS.l0
  have hset : (l.take i ++ List.replicate (m + 1) (⟨#[]⟩ : ByteArray)).set i s = l.take (i + 1) ++ List.replicate m (⟨#[]⟩ : ByteArray) := by
   rw [List.set_append_right _ _ (by simp; omega), show i - (l.take i).length = 0 by simp; omega, List.replicate_succ, List.set_cons_zero, List.take_add_one, hsi]
   simp
  rw [if_pos (by omega), if_pos (by omega), if_pos (by simp; omega), zca hsi, Int.toNat_natCast, hset, zay (by omega)]
theorem toS_ev (l : List ByteArray) (hl : l.length ≤ 1048576) : Evs (fun k => laws_toStringS.f k l) l := by
 refine Evs.congr (fun k => ?_) (to_loop l hl l.length 0 (by omega))
 unfold laws_toStringS.f
 rw [if_pos (by omega), if_pos (by omega), Int.toNat_natCast]
 simp
theorem eq_loop (p q : List ByteArray) (hl : p.length = q.length) (hb : p.length ≤ 1048576) : ∀ m i, i + m = p.length → p.take i = q.take i → Evs (fun k => laws_eqStringS.l0 k p q (i : Int)) (decide (p = q)) := by
 intro m
 induction m with
 | zero =>
  intro i hi ht
  have e : p = q := by
   rw [show i = p.length by omega, List.take_length, hl, List.take_length] at ht
   exact ht
  refine Evs.step (h := fun _ => some (decide (p = q))) (fun k => ?_) (Evs.const _)
  conv => lhs; unfold laws_eqStringS.l0
  rw [if_neg (by omega), decide_eq_true e]
 | succ m ih =>
  intro i hi ht
  by_cases he : p[i] = q[i]
  ·refine Evs.step (h := fun k => laws_eqStringS.l0 k p q ((i + 1 : Nat) : Int)) (fun k => ?_) (ih (i + 1) (by omega) (by
    rw [List.take_add_one, List.take_add_one, ht, List.getElem?_eq_getElem (by omega), List.getElem?_eq_getElem (by omega), he]))
   conv => lhs; unfold laws_eqStringS.l0
   rw [if_pos (by omega), if_pos (by omega), if_pos (by omega), rdOf_get p i (by omega), rdOf_get q i (by omega), if_pos (toList_inj.2 he), zay (by omega)]
  ·have hne : p ≠ q := by rintro rfl; exact he rfl
   refine Evs.step (h := fun _ => some (decide (p = q))) (fun k => ?_) (Evs.const _)
   conv => lhs; unfold laws_eqStringS.l0
   rw [if_pos (by omega), if_pos (by omega), if_pos (by omega), rdOf_get p i (by omega), rdOf_get q i (by omega), if_neg (fun h => he (toList_inj.1 h)), decide_eq_false hne]
theorem eqS_ev (p q : List ByteArray) (hb : p.length ≤ 1048576) : Evs (fun k => laws_eqStringS.f k p q) (decide (p = q)) := by
 by_cases h : p.length = q.length
 ·refine Evs.congr (fun k => ?_) (eq_loop p q h hb p.length 0 (by omega) (by simp))
  unfold laws_eqStringS.f
  rw [if_pos (by omega)]
  rfl
 ·have hne : p ≠ q := by rintro rfl; exact h rfl
  refine Evs.congr (h := fun _ => some (decide (p = q))) (fun k => ?_) (Evs.const _)
  unfold laws_eqStringS.f
  rw [if_neg (by omega), decide_eq_false hne]
theorem eqS_same (p : List ByteArray) (hb : p.length ≤ 1048576) : Evs (fun k => laws_eqStringS.f k p p) true := by
 have := eqS_ev p p hb
 rwa [decide_eq_true rfl] at this
end Go.Proofs.Ytoijjkhdfooapaa.Hd
namespace Go.Proofs.Ytoijjkhdfooapaa.NR
open Go.RowKit Go.PW.PrintWords Go.PW.PrintLast Go.PW.PrintMore Go.Proofs.Ytoijjkhdfooapaa.PB Go.Proofs.Ytoijjkhdfooapaa.Hd
theorem laws_FnExactNearFar.j0_eq (k : Nat) (x0 : List ByteArray) (x6 : List ByteArray) (x34 : Bool) : laws_FnExactNearFar.j0 (k + 1) x0 x6 x34 = (if x34 = true then (some false) else ((laws_toStringS.f k x0).bind fun t293 => ((laws_eqStringS.f k x6 t293).bind fun t296 => (if t296 = true then (some true) else (some false))))) := by simp only [laws_FnExactNearFar.j0]
theorem impl_res (l0 : List ByteArray) (hs_l0 : smallP l0) : impl_NearFar.f l0 = some (nearFarF l0) := by
 unfold impl_NearFar.f
 rw [if_pos ((smallB_iff _).2 hs_l0)]
theorem law_ev (l0 : List ByteArray) (hf_l0 : fits l0) : Evs (fun k => laws_FnExactNearFar.f k l0) true := by
 unfold laws_FnExactNearFar.f
 obtain ⟨v0, e0, h0⟩ := sz_ev l0 hf_l0 1048576 (by omega) (by omega)
 refine Evs.bind e0 ?_
 rcases h0 with h0 | ⟨hs_l0, g0, k0⟩
 ·exact Evs.pos h0 (Evs.const _)
 refine Evs.neg (by omega) ?_
 have hi := impl_res l0 hs_l0
 refine Evs.bind (toS_ev l0 hs_l0.1) (Evs.bind (NearFar_ev l0 hs_l0) (Evs.bind (toS_ev l0 hs_l0.1) (Evs.bindS hi ?_)))
 try dsimp only
 try simp only [if_true, bne_self_eq_false, eq_self_iff_true]
 refine Evs.step (fun k => laws_FnExactNearFar.j0_eq k _ _ _) ?_
 refine Evs.neg (by simp) ?_
 exact Evs.bind (toS_ev l0 hs_l0.1) (Evs.bind (eqS_same l0 hs_l0.1) (Evs.pos rfl (Evs.const _)))
end Go.Proofs.Ytoijjkhdfooapaa.NR
