/- Part 5 of the proof of FnExactNearFirst: what the program's functions and the reference's compute. -/
import Derived.Lib.SliceRun
import Derived.Test.YtickdcegnlldjaaProg
import Derived.Below
import Derived.Deep.Draws
import Derived.Deep.AppendLies
import Derived.Maps.AppendAt
import Derived.OwnWalk
import Derived.Laws.BytesArg
import Derived.Laws.MakeOwn
import Derived.Laws.OwnMore
import Derived.Deep.OwnRows
import Derived.Tactics
import Derived.Lib.ConvBytes
import Derived.Laws.Slices
import Derived.WalkKit
import Derived.KernelRfl
import Derived.RowKit3
import Derived.Deep.LoopGhost
import Derived.Deep.QuietTactic
import Derived.BigQuiet
import Derived.WideLaws
import Derived.Deep.DeepCutAuto
import Derived.Deep.CutBlock
import Derived.Deep.RegionHeld3
import Derived.Laws.Rows
import Derived.Lib.AppendStr
import Derived.ArgAppend
import Derived.Laws.IdiomCopy
import Derived.OrdersHeld
import Derived.Laws.BitsLemmas
import Derived.RowKit
import Derived.Test.YtickdcegnlldjaaCLFd
set_option linter.unusedSimpArgs false
set_option linter.unusedVariables false
namespace Go.Proofs.Ytickdcegnlldjaa.PB
open Go.RowKit Go.PW.PrintWords Go.PW.PrintLast Go.PW.PrintMore
attribute [local go_sem] zbx zbv zcb zca zbn zbm zbw zbu   -- for this text's walks alone
def impl_near.l0 : Nat → List Int → List Int → Int → Int → Option (List Int)
 | 0, _, _, _, _ => none
 | k + 1, x5, x11, x12, x13 => if x13 < x12 then (if 0 ≤ x13 then (if x13 < (x11.length : Int) then (if (rd x11 x13) > 0 then (if x5.length < 17592186044416 then (impl_near.l0 k (x5 ++ [x13]) x11 x12 (wrap64 (x13 + 1))) else (none)) else (impl_near.l0 k x5 x11 x12 (wrap64 (x13 + 1)))) else (none)) else (none)) else (some x5)
def impl_near.f (k : Nat) (l0 : List (List Int)) (a1 : Int) : Option (List Int) := if 0 ≤ a1 then (if a1 < (l0.length : Int) then (impl_near.l0 k ([] : List Int) (zbk l0 a1) ((zbk l0 a1).length : Int) 0) else (none)) else (none)
set_option maxHeartbeats 8000000 in
set_option maxRecDepth 100000 in
theorem impl_near.calls (k : Nat) (A0 : Option Addr) (c0 : Nat) (l0 : List (List Int)) (a1 : Int) (r : List Int) (w : World) (hr0 : Kd.C (Kd.slice 3 (Kd.int .i64)) w A0 l0.length l0) (hc0 : l0.length ≤ c0) (h : impl_near.f k l0 a1 = some r) :
  Calls Try.prog 106 #[.slice A0 l0.length c0, .int .i64 a1] w fun e w' => ∃ v0_ : Value, e = .returned (v0_) ∧ Kd.R (Kd.int .i64) 3 w' w.heap.size (fun _ => True) v0_ r ∧ Below w.heap.size w w' := by
 have HR0 := zaa.mk hr0
 have HC0 := zaa.mk hc0
 clear hr0 hc0
 have HB := zaa.mk (Below.refl w.heap.size w)
 have H : (if 0 ≤ a1 then (if a1 < (l0.length : Int) then (impl_near.l0 k ([] : List Int) (zbk l0 a1) ((zbk l0 a1).length : Int) 0) else (none)) else (none)) = some r := h
 clear h
 by_cases c3 : 0 ≤ a1
 ·rw [if_pos c3] at H
  have c3b0 : decide (0 ≤ a1) = true := decide_eq_true c3
  clear c3
  by_cases c4 : a1 < (l0.length : Int)
  ·rw [if_pos c4] at H
   have c4b0 : decide (a1 < (l0.length : Int)) = true := decide_eq_true c4
   clear c4
   have H' := zaa.mk H
   clear H
   have p574 : 0 ≤ (a1 : Int) := of_decide_eq_true (by first | (with_reducible assumption) | assumption)
   have q574 : a1 < (l0.length : Int) := of_decide_eq_true (by first | (with_reducible assumption) | assumption)
   obtain ⟨ad574, A574_0, c574_0, e574, hx574_0, hl574_0, hi574_0⟩ := at_L3 HR0.out a1 p574 q574
   cases e574
   have HR574_0 := zaa.mk hi574_0
   have HC574_0 := zaa.mk hl574_0
   clear hi574_0 hl574_0
   replace p574 := eq_true p574
   replace q574 := eq_true q574
   go_enter Try.func106, Try.ntmps106
   go_wp2
   go_loopg [5, 13] k (fun kq v5 v13 w' => ∃ (x5_1 : List Int) (x13_1 : Int), v13 = .int .i64 x13_1 ∧ zaa (impl_near.l0 kq x5_1 (zbk l0 a1) ((zbk l0 a1).length : Int) x13_1 = some r) ∧ zaa (kq ≤ k) ∧ zaa (Kd.R (Kd.int .i64) 3 w' w.heap.size (fun _ => True) v5 x5_1) ∧ zaa (Below w.heap.size w w'))
   case atStart => exact ⟨(([] : List Int)), (0), (by first | rfl | (simp; done) | (simp [*]; done)), H', ⟨Nat.le_refl _⟩, ⟨by first | exact Kd.R_nil _ _ _ _ _ | exact Kd.N_nil _ _ _ _ _ | exact Kd.V_nil _ _ _ _ _ | exact Kd.Q_nil _ _ _ _ _ | exact Kd.S_nil _ _ _ _ _⟩, ⟨by repeat (first | (with_reducible first | exact HB.out | apply zac | apply zab | apply zad) | exact HB.out)⟩⟩
   case round =>
    clear H'
    try clear c1
    try clear p2
    try clear c3
    try clear c3b0
    try clear c4
    try clear c4b0
    try clear hx574_0
    try clear p574
    try clear q574
    obtain ⟨x5_1, x13_1, rfl, HA, HK1, HO_5, HB⟩ := hrel
    cases gk with
    | zero => exact absurd HA.out (by simp [impl_near.l0])
    | succ k1 =>
     have H := HA.out
     clear HA
     simp only [impl_near.l0] at H
     by_cases c5 : x13_1 < ((zbk l0 a1).length : Int)
     ·rw [if_pos c5] at H
      have c5b0 : decide (x13_1 < ((zbk l0 a1).length : Int)) = true := decide_eq_true c5
      clear c5
      by_cases c6 : 0 ≤ x13_1
      ·rw [if_pos c6] at H
       have c6b0 : decide (0 ≤ x13_1) = true := decide_eq_true c6
       clear c6
       by_cases c7 : x13_1 < ((zbk l0 a1).length : Int)
       ·rw [if_pos c7] at H
        have c7b0 : decide (x13_1 < ((zbk l0 a1).length : Int)) = true := decide_eq_true c7
        clear c7
        by_cases c8 : (rd (zbk l0 a1) x13_1) > 0
        ·rw [if_pos c8] at H
         have c8b0 : decide (0 < (rd (zbk l0 a1) x13_1)) = true := decide_eq_true c8
         clear c8
         by_cases c9 : x5_1.length < 17592186044416
         ·rw [if_pos c9] at H
          have LMc9 := zaa.mk c9
          clear c9
          obtain ⟨y576, hy576⟩ : ∃ y_ : List Int, y_ = (x5_1 ++ [x13_1]) := ⟨_, rfl⟩
          replace H : (impl_near.l0 k1 y576 (zbk l0 a1) ((zbk l0 a1).length : Int) (wrap64 (x13_1 + 1))) = some r := by first | (rw [hy576]; with_reducible exact H) | (have H2_ := (Option.bind_some _ _).symm.trans H; rw [hy576]; with_reducible exact H2_) | (have H2_ := (Option.bind_some _ _).symm.trans H; with_reducible exact H2_) | with_reducible exact H | (rw [hy576]; exact H) | exact H
          have Ny576 := zaa.mk hy576
          clear hy576
          have H' := zaa.mk H
          clear H
          have p575 : 0 ≤ (x13_1 : Int) := of_decide_eq_true (by first | (with_reducible assumption) | assumption)
          have q575 : x13_1 < ((zbk l0 a1).length : Int) := of_decide_eq_true (by first | (with_reducible assumption) | assumption)
          obtain ⟨ad575, e575, hx575_0⟩ := Kd.at_int HR574_0.out x13_1 p575 q575
          cases e575
          replace hx575_0 := (HB.out.cell (World.block_lt_of_cell? w _ hx575_0)).trans hx575_0
          replace p575 := eq_true p575
          replace q575 := eq_true q575
          go_wp2_with (first | ((with_reducible refine zav (b := .append) (xs := #[.tmp 20, .tmp 22]) rfl ?_); at_builtin; refine Kd.R_append (Kd.int .i64) (w0 := w) w.heap.size rfl (.tmp 20) (.tmp 22) 24 3 (.int .i64 0) 8 rfl Try.underlying24 info3 rfl (by decide) (by omega) u5 x5_1 x13_1 [.int .i64 x13_1] (fun _ => True) (fun _ => False) rfl rfl ?aP (fun _ hk => hk.elim) ?aF ?aO ?aB ?aS ?aL ?_; (case aP => exact rfl); (case aB => exact (by repeat (first | (with_reducible first | exact HB.out | apply zac | apply zab | apply zad) | exact HB.out))); (case aF => exact (fun _ _ => trivial)); (case aO => exact (by (with_reducible repeat (first | apply Kd.R_alloc | apply Kd.R_drewN | apply Kd.R_drew)); exact HO_5.out)); (case aS => exact (zah (by repeat (first | (with_reducible first | exact HB.out | apply zac | apply zab | apply zad) | exact HB.out)))); (case aL => have := LMc9.out; omega); intro v577 w10 ho hb hg hat; rw [← Ny576.out] at ho; have n0_ := zaa.mk (hb); have n1_ := zaa.mk (ho); clear HB; clear HO_5; have HB := n0_; have HO578 := n1_; clear n0_ n1_; clear ho hb hg hat))
          go_roundg k1
          case measure => have := HK1.out; omega
          case rel => exact ⟨(y576), (wrap64 (x13_1 + 1)), (by first | rfl | (simp; done) | (simp [*]; done)), H', ⟨by have := HK1.out; omega⟩, ⟨by (with_reducible repeat (first | apply Kd.R_alloc | apply Kd.R_drewN | apply Kd.R_drew)); exact HO578.out⟩, ⟨by repeat (first | (with_reducible first | exact HB.out | apply zac | apply zab | apply zad) | exact HB.out)⟩⟩
         ·rw [if_neg c9] at H
          exact absurd H (by simp)
        ·rw [if_neg c8] at H
         have c8b0 : decide (0 < (rd (zbk l0 a1) x13_1)) = false := decide_eq_false c8
         clear c8
         have H' := zaa.mk H
         clear H
         have p575 : 0 ≤ (x13_1 : Int) := of_decide_eq_true (by first | (with_reducible assumption) | assumption)
         have q575 : x13_1 < ((zbk l0 a1).length : Int) := of_decide_eq_true (by first | (with_reducible assumption) | assumption)
         obtain ⟨ad575, e575, hx575_0⟩ := Kd.at_int HR574_0.out x13_1 p575 q575
         cases e575
         replace hx575_0 := (HB.out.cell (World.block_lt_of_cell? w _ hx575_0)).trans hx575_0
         replace p575 := eq_true p575
         replace q575 := eq_true q575
         go_wp2
         go_roundg k1
         case measure => have := HK1.out; omega
         case rel => exact ⟨(x5_1), (wrap64 (x13_1 + 1)), (by first | rfl | (simp; done) | (simp [*]; done)), H', ⟨by have := HK1.out; omega⟩, ⟨by (with_reducible repeat (first | apply Kd.R_alloc | apply Kd.R_drewN | apply Kd.R_drew)); exact HO_5.out⟩, ⟨by repeat (first | (with_reducible first | exact HB.out | apply zac | apply zab | apply zad) | exact HB.out)⟩⟩
       ·rw [if_neg c7] at H
        exact absurd H (by simp)
      ·rw [if_neg c6] at H
       exact absurd H (by simp)
     ·rw [if_neg c5] at H
      have c5b0 : decide (x13_1 < ((zbk l0 a1).length : Int)) = false := decide_eq_false c5
      clear c5
      obtain rfl := Option.some.inj H
      go_wp2
      go_ret
      exact ⟨_, by first | rfl | (simp [zaj, zai] <;> rfl) | (simp [*, zaj, zai] <;> rfl), by (with_reducible repeat (first | apply Kd.R_alloc | apply Kd.R_drewN | apply Kd.R_drew)); exact HO_5.out, by repeat (first | (with_reducible first | exact HB.out | apply zac | apply zab | apply zad) | exact HB.out)⟩
  ·rw [if_neg c4] at H
   exact absurd H (by simp)
 ·rw [if_neg c3] at H
  exact absurd H (by simp)
end Go.Proofs.Ytickdcegnlldjaa.PB
namespace Go.Proofs.Ytickdcegnlldjaa.Hd
open Go.RowKit Go.PW.PrintWords Go.PW.PrintLast Go.PW.PrintMore Go.Proofs.Ytickdcegnlldjaa.PB
theorem hit_diag (x : Int × Int) (a : Int) (h : x.1 ≠ x.2) : hit x a a = 0 := by
 unfold hit
 rw [if_neg (fun e => by subst e; exact h rfl)]
 rfl
theorem hits_trip_diag (cs : List (List Int)) (lv : Bool) (n : Nat) (a : Int) : ∀ j, hits ((trip (difB cs lv) n j).flatMap (touchW cs lv)) a a = 0
 | 0 => rfl
 | j + 1 => by
  simp only [trip]
  rw [List.flatMap_append, hits_append, hits_trip_diag cs lv n a j, hits_runs, sum_runs]
  rw [sumI_congr (g := fun _ => 0) n (fun i hi => by
   split
   ·rename_i h
    rw [dif_sides, bne_iff_ne] at h
    exact hit_diag _ a h
   ·rfl), sumI_zero]
  rfl
theorem hits_diag (cs : List (List Int)) (a : Int) : hits (touchL cs) a a = 0 := by
 unfold touchL upT levT
 rw [hits_append, hits_trip_diag, hits_trip_diag]
 rfl
theorem besN_hits (cs : List (List Int)) (a b : Int) : besN cs a b = hits (touchL cs) a b := by
 unfold besN
 split
 ·rename_i h
  subst h
  exact (hits_diag cs a).symm
 ·rfl
theorem l1Rooms_plan {p : List ByteArray} {cs : List (List Int)} {rs : List Rc} (F : PlanFacts p cs rs) : Evs (fun k => spec_l1Rooms.f k p) (rs.length : Int) := by
 have hR := l1Rooms_ev p _ (gridOk_small F.canon.grid)
 rw [F.canon.max, ← F.rooms] at hR
 exact hR
def zcq (cs : List (List Int)) (n : Nat) : List (List Int) := zbo n n fun a b => hits (touchL cs) a b
def nearL (cs : List (List Int)) (n : Nat) (a : Int) : List Int := ((List.range n).filter fun (b : Nat) => decide (besN cs a (b : Int) > 0)).map fun (b : Nat) => (b : Int)
theorem near_l0 (row : List Int) (hr : row.length ≤ 1000) : ∀ m i, i + m = row.length → Evs (fun k => impl_near.l0 k (((List.range i).filter fun b => decide (row.getD b 0 > 0)).map fun (b : Nat) => (b : Int)) row (row.length : Int) (i : Int)) (((List.range row.length).filter fun b => decide (row.getD b 0 > 0)).map fun (b : Nat) => (b : Int)) := by
 intro m
 induction m with
 | zero =>
  intro i hi
  obtain rfl : i = row.length := by omega
  refine Evs.step (h := fun _ => some (((List.range row.length).filter fun b => decide (row.getD b 0 > 0)).map fun (b : Nat) => (b : Int))) (fun k => ?_) (Evs.const _)
  conv => lhs; unfold impl_near.l0
  rw [if_neg (by omega)]
 | succ m ih =>
  intro i hi
  have hnx := ih (i + 1) (by omega)
  have hl : (((List.range i).filter fun b => decide (row.getD b 0 > 0)).map fun (b : Nat) => (b : Int)).length ≤ 1000 := by
   rw [List.length_map]
   have := List.length_filter_le (fun b => decide (row.getD b 0 > 0)) (List.range i)
   rw [List.length_range] at this
   omega
  rw [List.range_succ, List.filter_append, List.map_append] at hnx
  have hrd : rd row (i : Int) = row.getD i 0 := by unfold rd; rw [Int.toNat_natCast]
  refine Evs.step (fun k => ?_) hnx
  conv => lhs; unfold impl_near.l0
  rw [if_pos (by omega), if_pos (by omega), if_pos (by omega), hrd, zay (by omega)]
  by_cases h : row.getD i 0 > 0
  ·rw [if_pos h, if_pos (by omega)]
   simp only [List.filter_cons, h, decide_true, if_true, List.filter_nil, List.map_cons, List.map_nil]
  ·rw [if_neg h]
   simp only [List.filter_cons, h, decide_false, Bool.false_eq_true, if_false, List.filter_nil, List.map_nil, List.append_nil]
theorem touchM_row (cs : List (List Int)) (n a : Nat) (ha : a < n) : zbk (zcq cs n) (a : Int) = (List.range n).map fun (b : Nat) => hits (touchL cs) a b := by
 unfold zbk zcq
 rw [Int.toNat_natCast, List.getD_eq_getElem?_getD, gridOf_get ha]
 rfl
theorem near_ev (cs : List (List Int)) (n a : Nat) (hn : n ≤ 9) (ha : a < n) : Evs (fun k => impl_near.f k (zcq cs n) (a : Int)) (nearL cs n a) := by
 have hlen : (zcq cs n).length = n := zbf _ _ _
 have hrow := touchM_row cs n a ha
 have := near_l0 ((List.range n).map fun (b : Nat) => hits (touchL cs) a b) (by simp; omega) n 0 (by simp)
 have e : (((List.range ((List.range n).map fun (b : Nat) => hits (touchL cs) a b).length).filter fun b => decide (((List.range n).map fun (b : Nat) => hits (touchL cs) a b).getD b 0 > 0)).map fun (b : Nat) => (b : Int)) = nearL cs n a := by
  unfold nearL
  rw [List.length_map, List.length_range]
  congr 1
  refine List.filter_congr fun b hb => ?_
  have hb := List.mem_range.1 hb
  rw [List.getD_eq_getElem?_getD, List.getElem?_map, List.getElem?_range hb, besN_hits]
  rfl
 rw [e] at this
 refine Evs.congr (fun k => ?_) this
 unfold impl_near.f
 rw [if_pos (by omega), if_pos (by omega), hrow]
 simp
theorem nearL_mem (cs : List (List Int)) (n : Nat) (a x : Int) : x ∈ nearL cs n a ↔ ∃ b : Nat, x = (b : Int) ∧ b < n ∧ besN cs a (b : Int) > 0 := by
 unfold nearL
 rw [List.mem_map]
 constructor
 ·rintro ⟨b, hb, rfl⟩
  obtain ⟨h1, h2⟩ := List.mem_filter.1 hb
  exact ⟨b, rfl, List.mem_range.1 h1, of_decide_eq_true h2⟩
 ·rintro ⟨b, rfl, h1, h2⟩
  exact ⟨b, List.mem_filter.2 ⟨List.mem_range.2 h1, decide_eq_true h2⟩, rfl⟩
theorem Evs.stepNeg {α : Type} {c : Prop} {inst : Decidable c} {a h g : Nat → Option α} {r : α} (e : ∀ k, g (k + 1) = @ite _ c inst (a k) (h k)) (hc : ¬ c) (hh : Evs h r) : Evs g r := Evs.step (fun k => (e k).trans (if_neg hc)) hh
theorem Evs.stepPos {α : Type} {c : Prop} {inst : Decidable c} {a h g : Nat → Option α} {r : α} (e : ∀ k, g (k + 1) = @ite _ c inst (a k) (h k)) (hc : c) (hh : Evs a r) : Evs g r := Evs.step (fun k => (e k).trans (if_pos hc)) hh
def okTo (cs : List (List Int)) (L : List Int) (c : Int) (m : Nat) : Bool := (List.range m).all fun b => !(rd L (b : Int) == c && decide (besN cs (L.length : Int) (b : Int) > 0))
def okC (cs : List (List Int)) (L : List Int) (c : Int) : Bool := okTo cs L c L.length
def colG (cs : List (List Int)) (many : Nat) : Nat → List Int → Option (List Int)
 | 0, L => some L
 | f + 1, L => (List.range' 0 many).findSome? fun (c : Nat) => if okC cs L (c : Int) = true then colG cs many f (L ++ [(c : Int)]) else none
def colR : Option (List Int) → List Int × Bool
 | some r => (r, true)
 | none => ([], false)
theorem okTo_succ (cs : List (List Int)) (L : List Int) (c : Int) (m : Nat) : okTo cs L c (m + 1) = (okTo cs L c m && !(rd L (m : Int) == c && decide (besN cs (L.length : Int) (m : Int) > 0))) := by
 unfold okTo
 rw [List.range_succ, List.all_append]
 simp
theorem colour_l1 {p : List ByteArray} {cs : List (List Int)} {rs : List Rc} (F : PlanFacts p cs rs) (many c : Int) (L : List Int) (hL : L.length ≤ 9) (r : List Int × Bool)
  (hyes : okC cs L c = true → Evs (fun k => (spec_l4Colour.f k p (L ++ [c]) many).bind fun bt521 => (if bt521.2 = true then (some (bt521.1, true)) else (spec_l4Colour.l0 k p L many (L.length : Int) (wrap64 (c + 1))))) r)
  (hno : okC cs L c = false → Evs (fun k => spec_l4Colour.l0 k p L many (L.length : Int) (wrap64 (c + 1))) r) :
  ∀ m b, b + m = L.length → Evs (fun k => spec_l4Colour.l1 k p L many (L.length : Int) c (okTo cs L c b) (b : Int)) r := by
 intro m
 induction m with
 | zero =>
  intro b hb
  obtain rfl : b = L.length := by omega
  refine Evs.stepNeg (fun k => by conv => lhs; unfold spec_l4Colour.l1) (by omega) ?_
  cases h : okC cs L c with
  | true =>
   have h' : okTo cs L c L.length = true := h
   rw [h']
   refine Evs.pos rfl (Evs.bindS rfl (Evs.pos (by simp; omega) (Evs.bindS rfl (Evs.pos (by simp; omega) ?_))))
   rw [List.nil_append]
   exact hyes h
  | false =>
   have h' : okTo cs L c L.length = false := h
   rw [h']
   exact Evs.neg (by simp) (hno h)
 | succ m ih =>
  intro b hb
  have hnx := ih (b + 1) (by omega)
  rw [okTo_succ] at hnx
  refine Evs.stepPos (fun k => by conv => lhs; unfold spec_l4Colour.l1) (by omega) ?_
  cases h : okTo cs L c b with
  | false =>
   rw [h, Bool.false_and] at hnx
   refine Evs.neg (by simp) ?_
   rw [zay (by omega)]
   exact hnx
  | true =>
   rw [h, Bool.true_and] at hnx
   refine Evs.pos rfl (Evs.pos (by omega) (Evs.pos (by omega) ?_))
   rw [zay (by omega)]
   by_cases hc : rd L (b : Int) = c
   ·refine Evs.pos hc (Evs.bind (l4Beside_ev F _ _) ?_)
    have e : (besN cs (L.length : Int) (b : Int) == 0) = (!(rd L (b : Int) == c && decide (besN cs (L.length : Int) (b : Int) > 0))) := by
     have := besN_range F.ok (L.length : Int) (b : Int)
     rw [hc]
     by_cases hz : besN cs (L.length : Int) (b : Int) = 0
     ·simp [hz]
     ·have : besN cs (L.length : Int) (b : Int) > 0 := by omega
      simp [hz, this]
    rw [e]
    exact hnx
   ·refine Evs.neg hc ?_
    have e : (!(rd L (b : Int) == c && decide (besN cs (L.length : Int) (b : Int) > 0))) = true := by simp [hc]
    rw [e] at hnx
    exact hnx
theorem colour_ev {p : List ByteArray} {cs : List (List Int)} {rs : List Rc} (F : PlanFacts p cs rs) (many : Nat) (hm : many ≤ 9) : ∀ f L, L.length + f = rs.length → Evs (fun k => spec_l4Colour.f k p L (many : Int)) (colR (colG cs many f L)) := by
 have h9 := F.ok.many
 have hr := l1Rooms_plan F
 intro f
 induction f with
 | zero =>
  intro L hL
  refine Evs.step (h := fun k => (spec_l1Rooms.f k p).bind fun t506 => (if (L.length : Int) = t506 then (some (L, true)) else (spec_l4Colour.l0 k p L (many : Int) (L.length : Int) 0))) (fun k => by conv => lhs; unfold spec_l4Colour.f) ?_
  exact Evs.bind hr (Evs.pos (by omega) (Evs.const _))
 | succ f ih =>
  intro L hL
  refine Evs.step (h := fun k => (spec_l1Rooms.f k p).bind fun t506 => (if (L.length : Int) = t506 then (some (L, true)) else (spec_l4Colour.l0 k p L (many : Int) (L.length : Int) 0))) (fun k => by conv => lhs; unfold spec_l4Colour.f) ?_
  refine Evs.bind hr (Evs.neg (by omega) ?_)
  have key : ∀ m c, c + m = many → Evs (fun k => spec_l4Colour.l0 k p L (many : Int) (L.length : Int) (c : Int)) (colR ((List.range' c m).findSome? fun (c : Nat) => if okC cs L (c : Int) = true then colG cs many f (L ++ [(c : Int)]) else none)) := by
   intro m
   induction m with
   | zero =>
    intro c hc
    refine Evs.stepNeg (fun k => by conv => lhs; unfold spec_l4Colour.l0) (by omega) ?_
    exact Evs.const _
   | succ m ihm =>
    intro c hc
    have hnx := ihm (c + 1) (by omega)
    refine Evs.stepPos (fun k => by conv => lhs; unfold spec_l4Colour.l0) (by omega) ?_
    have e0 : okTo cs L (c : Int) 0 = true := rfl
    have := colour_l1 F (many : Int) (c : Int) L (by omega) (colR ((List.range' c (m + 1)).findSome? fun (c : Nat) => if okC cs L (c : Int) = true then colG cs many f (L ++ [(c : Int)]) else none)) ?_ ?_ L.length 0 (by omega)
    ·rw [e0] at this
     exact this
    ·intro hok
     rw [List.range'_succ, List.findSome?_cons, if_pos hok]
     have hc1 := ih (L ++ [(c : Int)]) (by simp; omega)
     refine Evs.bind hc1 ?_
     cases hg : colG cs many f (L ++ [(c : Int)]) with
     | some r => exact Evs.pos rfl (Evs.const _)
     | none =>
      refine Evs.neg (by simp [colR]) ?_
      rw [zay (by omega)]
      exact hnx
    ·intro hok
     rw [List.range'_succ, List.findSome?_cons, if_neg (by rw [hok]; simp)]
     rw [zay (by omega)]
     exact hnx
  exact key many 0 (by omega)
def leastG (cs : List (List Int)) (n : Nat) : Nat → Nat → Nat × List Int
 | 0, m => (m, [])
 | f + 1, m => match colG cs m n [] with
  | some r => (m, r)
  | none => leastG cs n f (m + 1)
def leastI (cs : List (List Int)) (n f m : Nat) : Int × List Int := (((leastG cs n f m).1 : Int), (leastG cs n f m).2)
theorem leastG_some {cs : List (List Int)} {n f m : Nat} {r : List Int} (h : colG cs m n [] = some r) : leastG cs n (f + 1) m = (m, r) := by rw [leastG, h]
theorem leastG_none {cs : List (List Int)} {n f m : Nat} (h : colG cs m n [] = none) : leastG cs n (f + 1) m = leastG cs n f (m + 1) := by rw [leastG, h]
theorem colG_iota (cs : List (List Int)) (many : Nat) : ∀ (f : Nat) (L : List Int), (∀ b : Nat, b < L.length → rd L (b : Int) < (many : Int) - (f : Nat)) → f ≤ many → ∃ r, colG cs many f L = some r
 | 0, L, _, _ => ⟨L, rfl⟩
 | f + 1, L, h, hf => by
  cases hg : colG cs many (f + 1) L with
  | some r => exact ⟨r, rfl⟩
  | none =>
   exfalso
   unfold colG at hg
   rw [List.findSome?_eq_none_iff] at hg
   have h1 := hg (many - (f + 1)) (List.mem_range'_1.2 ⟨by omega, by omega⟩)
   have hok : okC cs L ((many - (f + 1) : Nat) : Int) = true := by
    unfold okC okTo
    rw [List.all_eq_true]
    intro b hb
    have := h b (List.mem_range.1 hb)
    have hne : ¬ rd L (b : Int) = ((many - (f + 1) : Nat) : Int) := by omega
    simp [hne]
   rw [if_pos hok] at h1
   obtain ⟨r, hr⟩ := colG_iota cs many f (L ++ [((many - (f + 1) : Nat) : Int)]) (fun b hb => by
    rw [List.length_append, List.length_singleton] at hb
    unfold rd
    rw [Int.toNat_natCast, List.getD_eq_getElem?_getD]
    by_cases e : b = L.length
    ·subst e
     rw [List.getElem?_concat_length]
     simp
     omega
    ·rw [List.getElem?_append_left (by omega)]
     have := h b (by omega)
     unfold rd at this
     rw [Int.toNat_natCast, List.getD_eq_getElem?_getD] at this
     omega) (by omega)
   rw [hr] at h1
   cases h1
theorem colG_all (cs : List (List Int)) (n : Nat) : ∃ r, colG cs n n [] = some r := colG_iota cs n n [] (fun b hb => by simp at hb) (Nat.le_refl n)
theorem least_ev {p : List ByteArray} {cs : List (List Int)} {rs : List Rc} (F : PlanFacts p cs rs) (h1 : 1 ≤ rs.length) : Evs (fun k => spec_l4Least.f k p) (leastI cs rs.length 9 1) := by
 have h9 := F.ok.many
 have key : ∀ f m, m + f = 10 → 1 ≤ m → m ≤ rs.length → Evs (fun k => spec_l4Least.l0 k p (m : Int) (colR (colG cs m rs.length [])).1 (colR (colG cs m rs.length [])).2) (leastI cs rs.length f m) := by
  intro f
  induction f with
  | zero => intro m hm h1 h2; omega
  | succ f ih =>
   intro m hm h1 h2
   unfold leastI
   cases hg : colG cs m rs.length [] with
   | some r =>
    rw [leastG_some hg]
    refine Evs.stepPos (fun k => by conv => lhs; unfold spec_l4Least.l0) (show (colR (some r)).2 = true from rfl) ?_
    exact Evs.const _
   | none =>
    rw [leastG_none hg]
    refine Evs.stepNeg (fun k => by conv => lhs; unfold spec_l4Least.l0) (by simp [colR]) ?_
    have hlt : m < rs.length := by
     rcases Nat.lt_or_ge m rs.length with h | h
     ·exact h
     ·obtain rfl : m = rs.length := by omega
      obtain ⟨r, hr⟩ := colG_all cs rs.length
      rw [hr] at hg
      cases hg
    rw [zay (by omega)]
    exact Evs.bind (colour_ev F (m + 1) (by omega) rs.length [] (by simp)) (ih (m + 1) (by omega) (by omega) (by omega))
 refine Evs.bind (colour_ev F 1 (by omega) rs.length [] (by simp)) ?_
 exact key 9 1 (by omega) (by omega) h1
def zcf (p : List ByteArray) : List Int × Bool := match floorF p with
 | none => ([], false)
 | some (cs, rs) => ((leastG cs rs.length 9 1).2, true)
theorem rooms_some {cs : List (List Int)} {rs : List Rc} (h : zcg cs rs) : 1 ≤ rs.length := by
 have h1 := h.h1
 have w1 := h.w1
 have := valAt_range h 0 0 (by omega) (by omega)
 omega
theorem NearFirst_ev (p : List ByteArray) (hp : smallP p) : Evs (fun k => spec_NearFirst.f k p) (zcf p) := by
 have h1 := PlanIn_ev p hp
 rcases planB_cases p with ⟨e1, f1⟩ | ⟨e1, cs, rs, f1⟩
 ·rw [e1] at h1
  have e : zcf p = ([], false) := by unfold zcf; rw [f1]
  rw [e]
  exact Evs.bind h1 (Evs.neg (by simp) (Evs.const _))
 ·rw [e1] at h1
  have F := floor_facts f1
  have e : zcf p = ((leastG cs rs.length 9 1).2, true) := by unfold zcf; rw [f1]
  rw [e]
  exact Evs.bind h1 (Evs.pos rfl (Evs.bind (least_ev F (rooms_some F.ok)) (Evs.const _)))
theorem rd_at {p : List Int} {i : Nat} {s : Int} (h : p[i]? = some s) : rd p (i : Int) = s := by
 unfold rd; rw [Int.toNat_natCast, List.getD_eq_getElem?_getD, h]; rfl
def PredI (P : Program) (f : FuncId) (caps : Array Value) (w : World) (xs : List Int) (p : Int → Bool) : Prop :=
 ∀ (W : World) (x : Int), x ∈ xs → Below w.heap.size w W → Calls P f (#[.int .i64 x] ++ caps) W fun e W' => e = .returned (.bool (p x)) ∧ Below W.heap.size W W'
def IndexIPost (w : World) (xs : List Int) (p : Int → Bool) (e : Ending) (w' : World) : Prop := ∃ i : Int, e = .returned (.int .i64 i) ∧ decide (0 ≤ i) = xs.any p ∧ Below w.heap.size w w'
set_option maxHeartbeats 4000000 in
set_option maxRecDepth 100000 in
theorem indexI_calls (f : FuncId) (fn : Func) (hf : Try.prog.funcs[f]? = some fn) (hname : (fn.name == "runtime.NumGoroutine") = false) (hb : fn.body.isSome = true) (caps : Array Value) (p : Int → Bool) (A0 : Option Addr) (c0 : Nat) (xs : List Int) (w : World)
  (hr0 : (Kd.int .i64).C w A0 xs.length xs) (hp : PredI Try.prog f caps w xs p) :
  Calls Try.prog 115 #[.slice A0 xs.length c0, .func (.func f) #[] caps] w (IndexIPost w xs p) := by
 have hn := (C_len hr0).2
 have HR0 := zaa.mk hr0
 have HP := zaa.mk hp
 have HF := zaa.mk hf
 have HN := zaa.mk hname
 have HBd := zaa.mk hb
 clear hr0 hp hf hname hb
 have b1 : (xs.length : Int) ≤ 9223372036854775807 := by omega
 go_enter Try.func115, Try.ntmps115
 go_wp2
 go_loopg [8] xs.length (fun kq v8 w' => ∃ i : Nat, v8 = .int .i64 (i : Int) ∧ zaa (i + kq = xs.length) ∧ zaa ((xs.take i).any p = false) ∧ zaa (Below w.heap.size w w'))
 case atStart => exact ⟨0, rfl, ⟨by omega⟩, ⟨by simp⟩, ⟨Below.refl _ _⟩⟩
 case round =>
  obtain ⟨i, rfl, HK, HA, HB⟩ := hrel
  by_cases hi : i < xs.length
  ·have hlt : (i : Int) < xs.length := by omega
   have hi0 : (0 : Int) ≤ i := by omega
   obtain ⟨x, hrow⟩ : ∃ x, xs[i]? = some x := ⟨_, List.getElem?_eq_getElem hi⟩
   obtain ⟨ad, e1, hx⟩ := C_int_cell HR0.out i hi
   rw [rd_at hrow] at hx
   cases e1
   replace hx := zae HB.out hx
   have HM := zaa.mk (List.mem_of_getElem? hrow)
   have HT := zaa.mk (show (xs.take (i + 1)).any p = p x by
    rw [List.take_add_one, hrow, List.any_append, HA.out]; simp)
   clear hrow
   generalize hpv : p x = b at HT
   have HPV := zaa.mk hpv
   clear hpv
   cases b
   ·go_wp2_with (first | ((with_reducible refine zaw (N := 16) rfl ?_); refine goesvL_ (some 16) rfl rfl HF.out HN.out HBd.out #[.int .i64 x] rfl rfl (by (try simp only [List.map_toArray, List.map_cons, List.map_nil]); first | done | rfl) ?_; refine (HP.out _ x HM.out HB.out).mono ?_; rintro e w8 ⟨rfl, hb8⟩; rw [HPV.out]; refine ⟨_, rfl, ?_⟩; have HB8 := zaa.mk (zaf HB.out hb8); clear hb8))
    go_roundg (xs.length - (i + 1))
    case measure => have := HK.out; omega
    case rel => exact ⟨i + 1, by first | rfl | (congr 1; omega), ⟨by have := HK.out; omega⟩, HT, HB8⟩
   ·go_wp2_with (first | ((with_reducible refine zaw (N := 16) rfl ?_); refine goesvL_ (some 16) rfl rfl HF.out HN.out HBd.out #[.int .i64 x] rfl rfl (by (try simp only [List.map_toArray, List.map_cons, List.map_nil]); first | done | rfl) ?_; refine (HP.out _ x HM.out HB.out).mono ?_; rintro e w8 ⟨rfl, hb8⟩; rw [HPV.out]; refine ⟨_, rfl, ?_⟩; have HB8 := zaa.mk (zaf HB.out hb8); clear hb8))
    go_ret
    refine ⟨i, rfl, ?_, HB8.out⟩
    rw [decide_eq_true (by omega), ← List.take_append_drop (i + 1) xs, List.any_append, HT.out]
    rfl
  ·have hge : ¬ (i : Int) < xs.length := by omega
   obtain rfl : i = xs.length := by have := HK.out; omega
   go_wp2
   go_ret
   refine ⟨-1, rfl, ?_, HB.out⟩
   have := HA.out
   rw [List.take_length] at this
   rw [this]
   rfl
set_option maxHeartbeats 4000000 in
set_option maxRecDepth 100000 in
theorem containsI_calls (f : FuncId) (fn : Func) (hf : Try.prog.funcs[f]? = some fn) (hname : (fn.name == "runtime.NumGoroutine") = false) (hb : fn.body.isSome = true) (caps : Array Value) (p : Int → Bool) (A0 : Option Addr) (c0 : Nat) (xs : List Int) (w : World)
  (hr0 : (Kd.int .i64).C w A0 xs.length xs) (hp : PredI Try.prog f caps w xs p) :
  Calls Try.prog 105 #[.slice A0 xs.length c0, .func (.func f) #[] caps] w fun e w' => e = .returned (.bool (xs.any p)) ∧ Below w.heap.size w w' := by
 have H := zaa.mk (indexI_calls f fn hf hname hb caps p A0 c0 xs w hr0 hp)
 clear hr0 hp hf hname hb
 generalize hv : xs.any p = v
 have HV := zaa.mk hv
 clear hv
 go_enter Try.func105, Try.ntmps105
 go_wp2_with (first | (go_at_call 115; refine H.out.mono ?_; rintro e w8 ⟨i, rfl, hi, hb8⟩; rw [HV.out] at hi; have HB8 := zaa.mk hb8; clear hb8))
 go_ret
 exact ⟨by rw [← hi]; rfl, HB8.out⟩
set_option maxHeartbeats 4000000 in
set_option maxRecDepth 100000 in
theorem clash_pred (w : World) (pa po pc : Nat) (A : Option Addr) (cap : Nat) (L : List Int) (c : Int) (xs : List Int) (ha : w.cell? ⟨pa, 0, none⟩ = some (.int .i64 (L.length : Int))) (ho : w.cell? ⟨po, 0, none⟩ = some (.slice A L.length cap)) (hC : (Kd.int .i64).C w A L.length L) (hc : w.cell? ⟨pc, 0, none⟩ = some (.int .i64 c)) (hx : ∀ x ∈ xs, 0 ≤ x) :
  PredI Try.prog 104 #[.pointer (some ⟨pa, 0, none⟩), .pointer (some ⟨po, 0, none⟩), .pointer (some ⟨pc, 0, none⟩)] w xs (fun b => decide (b < (L.length : Int)) && (rd L b == c)) := by
 intro W x hxm hb
 have x0 := hx x hxm
 replace ha := zae hb ha
 replace ho := zae hb ho
 replace hc := zae hb hc
 replace hC := Kd.C_below hC hb
 have HB := zaa.mk hb
 clear hb hx hxm
 show Calls _ _ #[.int .i64 x, .pointer (some ⟨pa, 0, none⟩), .pointer (some ⟨po, 0, none⟩), .pointer (some ⟨pc, 0, none⟩)] W _
 by_cases h : x < (L.length : Int)
 ·obtain ⟨b, rfl⟩ := Int.eq_ofNat_of_zero_le x0
  obtain ⟨ad, e1, hz⟩ := C_int_cell hC b (by omega)
  subst e1
  have hd : decide ((b : Int) < (L.length : Int)) = true := decide_eq_true h
  have hd2 : decide (b < L.length) = true := decide_eq_true (by omega)
  clear hC
  have HD := zaa.mk hd
  generalize hq : (rd L (b : Int) == c) = q
  have HQ := zaa.mk hq
  have hq' : (rd L (b : Int) == c) = q := hq
  clear hq
  go_enter Try.func104, Try.ntmps104
  go_upto_region 1 with (fail)
  refine start_ (n := 12) (S := fun w' => (w'.cell? ⟨pa, 0, none⟩ = some (.int .i64 (L.length : Int))) ∧ (w'.cell? ⟨po, 0, none⟩ = some (.slice (some ad) L.length cap)) ∧ (w'.cell? ⟨pc, 0, none⟩ = some (.int .i64 c)) ∧ (w'.cell? (ad.add b) = some (.int .i64 (rd L (b : Int))))) (ds := []) #[false, false, false, false, false, false, false, false, false, false, false, false] (by kernel_rfl) rfl rfl (⟨ha, ho, hc, hz⟩) (fun hHeld => ?_)
  refine zbb (i := 0) (N := some 6) (v := ?_) (a' := ?_) #[true, false, false, false, false, false, false, false, false, false, false, false] rfl rfl (by kernel_rfl) (fun _ _ _ h => h) (Or.inl ⟨by rfl, ?_⟩) ?_ ?_
  rotate_left
  ·intro w'
   go_simp
   with_reducible rfl
  rotate_left
  ·simp only [Act.put, List.setIfInBounds_toArray, List.set_cons_zero, List.set_cons_succ, zat, zau]
   rfl
  refine zci (i := 1) (N := some 7) (v := ?_) (a' := ?_) #[true, true, false, false, false, false, false, false, false, false, false, false] rfl rfl (by kernel_rfl) (fun _ _ _ h => h) (Or.inl ⟨by rfl, ?_⟩) hHeld ?_ ?_
  rotate_left
  ·rintro w' ⟨s0, s1, s2, s3⟩
   go_simp
   with_reducible rfl
  rotate_left
  ·simp only [Act.put, List.setIfInBounds_toArray, List.set_cons_zero, List.set_cons_succ, zat, zau]
   rfl
  refine zbb (i := 2) (N := some 8) (v := ?_) (a' := ?_) #[true, true, true, false, false, false, false, false, false, false, false, false] rfl rfl (by kernel_rfl) (fun _ _ _ h => h) (Or.inl ⟨by rfl, ?_⟩) ?_ ?_
  rotate_left
  ·intro w'
   go_simp
   with_reducible rfl
  rotate_left
  ·simp only [Act.put, List.setIfInBounds_toArray, List.set_cons_zero, List.set_cons_succ, zat, zau]
   rfl
  refine zbb (i := 3) (N := some 9) (v := ?_) (a' := ?_) #[true, true, true, true, false, false, false, false, false, false, false, false] rfl rfl (by kernel_rfl) (fun _ _ _ h => h) (Or.inl ⟨by rfl, ?_⟩) ?_ ?_
  rotate_left
  ·intro w'
   go_simp
   with_reducible rfl
  rotate_left
  ·simp only [Act.put, List.setIfInBounds_toArray, List.set_cons_zero, List.set_cons_succ, zat, zau]
   rfl
  refine zci (i := 4) (N := some 10) (v := ?_) (a' := ?_) #[true, true, true, true, true, false, false, false, false, false, false, false] rfl rfl (by kernel_rfl) (fun _ _ _ h => h) (Or.inl ⟨by rfl, ?_⟩) hHeld ?_ ?_
  rotate_left
  ·rintro w' ⟨s0, s1, s2, s3⟩
   go_simp
   with_reducible rfl
  rotate_left
  ·simp only [Act.put, List.setIfInBounds_toArray, List.set_cons_zero, List.set_cons_succ, zat, zau]
   rfl
  refine zbb (i := 5) (N := some 11) (v := ?_) (a' := ?_) #[true, true, true, true, true, true, false, false, false, false, false, false] rfl rfl (by kernel_rfl) (fun _ _ _ h => h) (Or.inl ⟨by rfl, ?_⟩) ?_ ?_
  rotate_left
  ·intro w'
   go_simp
   with_reducible rfl
  rotate_left
  ·simp only [Act.put, List.setIfInBounds_toArray, List.set_cons_zero, List.set_cons_succ, zat, zau]
   rfl
  refine zbb (i := 6) (N := some 12) (v := ?_) (a' := ?_) #[true, true, true, true, true, true, true, false, false, false, false, false] rfl rfl (by kernel_rfl) (fun _ _ _ h => h) (Or.inl ⟨by rfl, ?_⟩) ?_ ?_
  rotate_left
  ·intro w'
   go_simp
   with_reducible rfl
  rotate_left
  ·simp only [Act.put, List.setIfInBounds_toArray, List.set_cons_zero, List.set_cons_succ, zat, zau]
   rfl
  refine zci (i := 7) (N := some 13) (v := ?_) (a' := ?_) #[true, true, true, true, true, true, true, true, false, false, false, false] rfl rfl (by kernel_rfl) (fun _ _ _ h => h) (Or.inl ⟨by rfl, ?_⟩) hHeld ?_ ?_
  rotate_left
  ·rintro w' ⟨s0, s1, s2, s3⟩
   go_simp
   with_reducible rfl
  rotate_left
  ·simp only [Act.put, List.setIfInBounds_toArray, List.set_cons_zero, List.set_cons_succ, zat, zau]
   rfl
  refine zci (i := 8) (N := some 14) (v := ?_) (a' := ?_) #[true, true, true, true, true, true, true, true, true, false, false, false] rfl rfl (by kernel_rfl) (fun _ _ _ h => h) (Or.inl ⟨by rfl, ?_⟩) hHeld ?_ ?_
  rotate_left
  ·rintro w' ⟨s0, s1, s2, s3⟩
   go_simp
   with_reducible rfl
  rotate_left
  ·simp only [Act.put, List.setIfInBounds_toArray, List.set_cons_zero, List.set_cons_succ, zat, zau]
   rfl
  refine zbb (i := 9) (N := some 15) (v := ?_) (a' := ?_) #[true, true, true, true, true, true, true, true, true, true, false, false] rfl rfl (by kernel_rfl) (fun _ _ _ h => h) (Or.inl ⟨by rfl, ?_⟩) ?_ ?_
  rotate_left
  ·intro w'
   go_simp
   with_reducible rfl
  rotate_left
  ·simp only [Act.put, List.setIfInBounds_toArray, List.set_cons_zero, List.set_cons_succ, zat, zau]
   rfl
  refine zbb (i := 10) (N := some 16) (v := ?_) (a' := ?_) #[true, true, true, true, true, true, true, true, true, true, true, false] rfl rfl (by kernel_rfl) (fun _ _ _ h => h) (Or.inl ⟨by rfl, ?_⟩) ?_ ?_
  rotate_left
  ·intro w'
   go_simp
   with_reducible rfl
  rotate_left
  ·simp only [Act.put, List.setIfInBounds_toArray, List.set_cons_zero, List.set_cons_succ, zat, zau]
   rfl
  refine zbb (i := 11) (N := some 5) (v := ?_) (a' := ?_) #[true, true, true, true, true, true, true, true, true, true, true, true] rfl rfl (by kernel_rfl) (fun _ _ _ h => h) (Or.inl ⟨by rfl, ?_⟩) ?_ ?_
  rotate_left
  ·intro w'
   go_simp
   with_reducible rfl
  rotate_left
  ·simp only [Act.put, List.setIfInBounds_toArray, List.set_cons_zero, List.set_cons_succ, zat, zau]
   rfl
  refine done_ (by kernel_rfl) ?_
  go_wp2
  go_ret
  exact ⟨by rw [HD.out, hq']; rfl, below_drew (Below.refl _ _)⟩
 ·have hd : decide (x < (L.length : Int)) = false := decide_eq_false h
  clear hC
  go_enter Try.func104, Try.ntmps104
  go_upto_region 1 with (fail)
  refine start_ (n := 12) (S := fun w' => (w'.cell? ⟨pa, 0, none⟩ = some (.int .i64 (L.length : Int))) ∧ (w'.cell? ⟨po, 0, none⟩ = some (.slice A L.length cap)) ∧ (w'.cell? ⟨pc, 0, none⟩ = some (.int .i64 c))) (ds := []) #[false, false, false, false, false, false, false, false, false, false, false, false] (by kernel_rfl) rfl rfl (⟨ha, ho, hc⟩) (fun hHeld => ?_)
  refine zbb (i := 0) (N := some 6) (v := ?_) (a' := ?_) #[true, false, false, false, false, false, false, false, false, false, false, false] rfl rfl (by kernel_rfl) (fun _ _ _ h => h) (Or.inl ⟨by rfl, ?_⟩) ?_ ?_
  rotate_left
  ·intro w'
   go_simp
   with_reducible rfl
  rotate_left
  ·simp only [Act.put, List.setIfInBounds_toArray, List.set_cons_zero, List.set_cons_succ, zat, zau]
   rfl
  refine zci (i := 1) (N := some 7) (v := ?_) (a' := ?_) #[true, true, false, false, false, false, false, false, false, false, false, false] rfl rfl (by kernel_rfl) (fun _ _ _ h => h) (Or.inl ⟨by rfl, ?_⟩) hHeld ?_ ?_
  rotate_left
  ·rintro w' ⟨s0, s1, s2⟩
   go_simp
   with_reducible rfl
  rotate_left
  ·simp only [Act.put, List.setIfInBounds_toArray, List.set_cons_zero, List.set_cons_succ, zat, zau]
   rfl
  refine zbb (i := 2) (N := some 8) (v := ?_) (a' := ?_) #[true, true, true, false, false, false, false, false, false, false, false, false] rfl rfl (by kernel_rfl) (fun _ _ _ h => h) (Or.inl ⟨by rfl, ?_⟩) ?_ ?_
  rotate_left
  ·intro w'
   go_simp
   with_reducible rfl
  rotate_left
  ·simp only [Act.put, List.setIfInBounds_toArray, List.set_cons_zero, List.set_cons_succ, zat, zau]
   rfl
  refine zbb (i := 3) (N := some 9) (v := ?_) (a' := ?_) #[true, true, true, true, false, false, false, false, false, false, false, false] rfl rfl (by kernel_rfl) (fun _ _ _ h => h) (Or.inl ⟨by rfl, ?_⟩) ?_ ?_
  rotate_left
  ·intro w'
   go_simp
   with_reducible rfl
  rotate_left
  ·simp only [Act.put, List.setIfInBounds_toArray, List.set_cons_zero, List.set_cons_succ, zat, zau]
   rfl
  refine zbb (i := 4) (N := some 10) (v := undef) (a' := ?_) #[true, true, true, true, true, false, false, false, false, false, false, false] rfl rfl (by kernel_rfl) (fun _ _ _ h => h) (Or.inr ⟨by rfl, rfl⟩) ?_ ?_
  rotate_left
  ·simp only [Act.put, List.setIfInBounds_toArray, List.set_cons_zero, List.set_cons_succ, zat, zau]
   rfl
  refine zbb (i := 5) (N := some 11) (v := undef) (a' := ?_) #[true, true, true, true, true, true, false, false, false, false, false, false] rfl rfl (by kernel_rfl) (fun _ _ _ h => h) (Or.inr ⟨by rfl, rfl⟩) ?_ ?_
  rotate_left
  ·simp only [Act.put, List.setIfInBounds_toArray, List.set_cons_zero, List.set_cons_succ, zat, zau]
   rfl
  refine zbb (i := 6) (N := some 12) (v := undef) (a' := ?_) #[true, true, true, true, true, true, true, false, false, false, false, false] rfl rfl (by kernel_rfl) (fun _ _ _ h => h) (Or.inr ⟨by rfl, rfl⟩) ?_ ?_
  rotate_left
  ·simp only [Act.put, List.setIfInBounds_toArray, List.set_cons_zero, List.set_cons_succ, zat, zau]
   rfl
  refine zbb (i := 7) (N := some 13) (v := undef) (a' := ?_) #[true, true, true, true, true, true, true, true, false, false, false, false] rfl rfl (by kernel_rfl) (fun _ _ _ h => h) (Or.inr ⟨by rfl, rfl⟩) ?_ ?_
  rotate_left
  ·simp only [Act.put, List.setIfInBounds_toArray, List.set_cons_zero, List.set_cons_succ, zat, zau]
   rfl
  refine zbb (i := 8) (N := some 14) (v := undef) (a' := ?_) #[true, true, true, true, true, true, true, true, true, false, false, false] rfl rfl (by kernel_rfl) (fun _ _ _ h => h) (Or.inr ⟨by rfl, rfl⟩) ?_ ?_
  rotate_left
  ·simp only [Act.put, List.setIfInBounds_toArray, List.set_cons_zero, List.set_cons_succ, zat, zau]
   rfl
  refine zbb (i := 9) (N := some 15) (v := undef) (a' := ?_) #[true, true, true, true, true, true, true, true, true, true, false, false] rfl rfl (by kernel_rfl) (fun _ _ _ h => h) (Or.inr ⟨by rfl, rfl⟩) ?_ ?_
  rotate_left
  ·simp only [Act.put, List.setIfInBounds_toArray, List.set_cons_zero, List.set_cons_succ, zat, zau]
   rfl
  refine zbb (i := 10) (N := some 16) (v := ?_) (a' := ?_) #[true, true, true, true, true, true, true, true, true, true, true, false] rfl rfl (by kernel_rfl) (fun _ _ _ h => h) (Or.inl ⟨by rfl, ?_⟩) ?_ ?_
  rotate_left
  ·intro w'
   go_simp
   with_reducible rfl
  rotate_left
  ·simp only [Act.put, List.setIfInBounds_toArray, List.set_cons_zero, List.set_cons_succ, zat, zau]
   rfl
  refine zbb (i := 11) (N := some 5) (v := ?_) (a' := ?_) #[true, true, true, true, true, true, true, true, true, true, true, true] rfl rfl (by kernel_rfl) (fun _ _ _ h => h) (Or.inl ⟨by rfl, ?_⟩) ?_ ?_
  rotate_left
  ·intro w'
   go_simp
   with_reducible rfl
  rotate_left
  ·simp only [Act.put, List.setIfInBounds_toArray, List.set_cons_zero, List.set_cons_succ, zat, zau]
   rfl
  refine done_ (by kernel_rfl) ?_
  go_wp2
  go_ret
  exact ⟨rfl, below_drew (Below.refl _ _)⟩
abbrev kWl := k72
def zeroW : Wl := ⟨false, 0, 0, 0⟩
theorem wl_cells {W : World} {B g n cap : Nat} {ok : Nat → Prop} {ws : List Wl} (h : Kd.R kWl 72 W B ok (.slice (some ⟨g, 0, none⟩) n cap) ws) (k : Nat) (hk : k < ws.length) :
  W.cell? ⟨g, k * 4, none⟩ = some (.bool (ws.getD k zeroW).f0) ∧ W.cell? ⟨g, k * 4 + 1, none⟩ = some (.int .i64 (ws.getD k zeroW).f1) ∧ W.cell? ⟨g, k * 4 + 2, none⟩ = some (.int .i64 (ws.getD k zeroW).f2) ∧ W.cell? ⟨g, k * 4 + 3, none⟩ = some (.int .i64 (ws.getD k zeroW).f3) := by
 obtain ⟨A, c, e, hl, hC⟩ := Kd.R_reads h
 injection e with e1 e2 e3
 subst e1; subst e2
 obtain ⟨ad, e4, h0, h1, h2, h3⟩ := at_T72 hC (k : Int) (by omega) (by omega)
 injection e4 with e4
 subst e4
 have e5 : zbq ws (k : Int) = ws.getD k zeroW := by
  unfold zbq
  rw [show ((k : Int).toNat) = k by omega]
  rfl
 rw [show ((k : Int).toNat) = k by omega, add_plain, e5] at h0 h1 h2 h3
 exact ⟨h0, h1, h2, h3⟩
theorem wallsOf_length (cs : List (List Int)) : (wallsOf cs).length = (allT cs).length := by simp [wallsOf_eq, allT]
theorem wallsOf_bound {cs : List (List Int)} {rs : List Rc} (h : zcg cs rs) : (wallsOf cs).length ≤ 72 := by
 have := wall_bound h
 rw [wallsOf_length]
 unfold allT
 rw [List.length_append]
 omega
def wallsP (cs : List (List Int)) : List (Bool × Nat × Nat × Nat) := (upT cs).map (fun t => (false, t)) ++ (levT cs).map (fun t => (true, t))
theorem wallsP_walls (cs : List (List Int)) : wallsOf cs = (wallsP cs).map fun x => mkW x.1 x.2 := by
 unfold wallsP
 rw [wallsOf_eq, List.map_append, List.map_map, List.map_map]
 rfl
theorem wallsP_touch (cs : List (List Int)) : touchL cs = (wallsP cs).flatMap fun x => touchW cs x.1 x.2 := by
 unfold wallsP touchL
 rw [List.flatMap_append, List.flatMap_map, List.flatMap_map]
theorem wallsP_ok {cs : List (List Int)} {rs : List Rc} (h : zcg cs rs) (i : Nat) (hi : i < (wallsP cs).length) : ∃ lv l f n, (wallsP cs)[i]? = some (lv, l, f, n) ∧ 1 ≤ l ∧ l < zcp cs lv ∧ f + n ≤ zbs cs lv ∧ 1 ≤ n ∧ zcp cs lv ≤ 6 ∧ zbs cs lv ≤ 6 := by
 have q1 := h.h6
 have q2 := h.w6
 have q3 := h.h1
 have q4 := h.w1
 have hm := List.getElem_mem hi
 rw [List.getElem?_eq_getElem hi]
 generalize (wallsP cs)[i] = x at *
 unfold wallsP at hm
 rcases List.mem_append.1 hm with hm | hm
 ·obtain ⟨⟨l, f, n⟩, hx, rfl⟩ := List.mem_map.1 hm
  have := trip_in _ _ _ _ hx
  exact ⟨false, l, f, n, rfl, by simp only [zcp, zbs, Bool.false_eq_true, if_false]; dsimp only at this; omega⟩
 ·obtain ⟨⟨l, f, n⟩, hx, rfl⟩ := List.mem_map.1 hm
  have := trip_in _ _ _ _ hx
  exact ⟨true, l, f, n, rfl, by simp only [zcp, zbs, if_true]; dsimp only at this; omega⟩
def touchP (cs : List (List Int)) (i : Nat) : List (Int × Int) := ((wallsP cs).take i).flatMap fun x => touchW cs x.1 x.2
theorem touchW_length (cs : List (List Int)) (lv : Bool) (x : Nat × Nat × Nat) : (touchW cs lv x).length = x.2.2 := by simp [touchW]
theorem touchP_succ (cs : List (List Int)) (i : Nat) (lv : Bool) (t : Nat × Nat × Nat) (h : (wallsP cs)[i]? = some (lv, t)) : touchP cs (i + 1) = touchP cs i ++ touchW cs lv t := by
 unfold touchP
 rw [List.take_add_one, h, List.flatMap_append]
 simp
theorem touchP_length {cs : List (List Int)} {rs : List Rc} (h : zcg cs rs) : ∀ i, i ≤ (wallsP cs).length → (touchP cs i).length ≤ i * 6
 | 0, _ => by simp [touchP]
 | i + 1, hi => by
  obtain ⟨lv, l, f, n, e, h1, h2, h3, h4, h5, h6⟩ := wallsP_ok h i (by omega)
  have ih := touchP_length h i (by omega)
  rw [touchP_succ cs i lv _ e, List.length_append, touchW_length, Nat.succ_mul]
  dsimp only
  omega
theorem touchP_all (cs : List (List Int)) : touchP cs (wallsP cs).length = touchL cs := by
 unfold touchP
 rw [List.take_length, wallsP_touch]
theorem touchW_take (cs : List (List Int)) (lv : Bool) (l f n j : Nat) (hj : j < n) : (touchW cs lv (l, f, n)).take (j + 1) = (touchW cs lv (l, f, n)).take j ++ [sidesOf cs lv l (f + j)] := by
 unfold touchW
 rw [List.take_add_one, List.getElem?_map, List.getElem?_range hj]
 rfl
theorem sides_range {cs : List (List Int)} {rs : List Rc} (h : zcg cs rs) (lv : Bool) (line i : Nat) (h1 : 1 ≤ line) (h2 : line < zcp cs lv) (h3 : i < zbs cs lv) : ∃ a b : Nat, sidesOf cs lv line i = ((a : Int), (b : Int)) ∧ a < rs.length ∧ b < rs.length := by
 unfold sidesOf
 cases lv with
 | true =>
  simp only [zcp, zbs, if_true] at h2 h3
  have v1 := valAt_range h (line - 1) i (by omega) h3
  have v2 := valAt_range h line i h2 h3
  rw [if_pos rfl]
  exact ⟨(zbe cs (line - 1) i).toNat, (zbe cs line i).toNat, by rw [Int.toNat_of_nonneg v1.1, Int.toNat_of_nonneg v2.1], by omega, by omega⟩
 | false =>
  simp only [zcp, zbs, Bool.false_eq_true, if_false] at h2 h3
  have v1 := valAt_range h i (line - 1) h3 (by omega)
  have v2 := valAt_range h i line h3 h2
  rw [if_neg (by simp)]
  exact ⟨(zbe cs i (line - 1)).toNat, (zbe cs i line).toNat, by rw [Int.toNat_of_nonneg v1.1, Int.toNat_of_nonneg v2.1], by omega, by omega⟩
def incG (G : Nat → Nat → Int) (i j r c : Nat) : Int := if r = i ∧ c = j then G r c + 1 else G r c
def hitG (T : List (Int × Int)) (r c : Nat) : Int := hits T (r : Int) (c : Int)
theorem hitG_snoc (T : List (Int × Int)) (a b r c : Nat) : incG (incG (hitG T) a b) b a r c = hitG (T ++ [((a : Int), (b : Int))]) r c := by
 unfold hitG
 rw [hits_append]
 have e : hits [((a : Int), (b : Int))] (r : Int) (c : Int) = (if r = a ∧ c = b then 1 else 0) + (if r = b ∧ c = a then 1 else 0) := by
  unfold hits hit
  simp only [List.map_cons, List.map_nil, sumZ, Prod.mk.injEq]
  have e1 : ((a : Int) = (r : Int) ∧ (b : Int) = (c : Int)) ↔ (r = a ∧ c = b) := by omega
  have e2 : ((a : Int) = (c : Int) ∧ (b : Int) = (r : Int)) ↔ (r = b ∧ c = a) := by omega
  simp only [e1, e2]
  omega
 rw [e]
 unfold incG
 dsimp only
 split <;> split <;> omega
theorem grid_inc {n : Nat} (G : Nat → Nat → Int) (i j : Nat) (hi : i < n) (hj : j < n) : (zbo n n G).set i (((List.range n).map fun c => G i c).set j (G i j + 1)) = zbo n n (incG G i j) := by
 apply List.ext_getElem?
 intro r
 by_cases hr : r < n
 ·rw [gridOf_get hr, List.getElem?_set]
  by_cases e : i = r
  ·subst e
   rw [if_pos rfl, if_pos (by rw [zbf]; exact hi)]
   congr 1
   apply List.ext_getElem?
   intro c
   rw [List.getElem?_set]
   by_cases hc : c < n
   ·rw [List.getElem?_map, List.getElem?_range hc]
    by_cases e2 : j = c
    ·subst e2
     rw [if_pos rfl, if_pos (by simp; exact hj), List.getElem?_map, List.getElem?_range hj]
     simp [incG]
    ·rw [if_neg e2, List.getElem?_map, List.getElem?_range hc]
     simp only [Option.map_some, incG]
     rw [if_neg (fun z => e2 z.2.symm)]
   ·rw [List.getElem?_eq_none (by simp; omega : ((List.range n).map fun c => incG G i j i c).length ≤ c), if_neg (by omega), List.getElem?_eq_none (by simp; omega)]
  ·rw [if_neg e, gridOf_get hr]
   congr 1
   apply List.map_congr_left
   intro c _
   unfold incG
   rw [if_neg (fun z => e z.1.symm)]
 ·rw [List.getElem?_eq_none (by rw [List.length_set, zbf]; omega), List.getElem?_eq_none (by rw [zbf]; omega)]
theorem mat_inc {W : World} {g0 n : Nat} {bs : List Nat} {G : Nat → Nat → Int} (HM : MatAt W g0 n bs (zbo n n G)) (i j : Nat) (hi : i < n) (hj : j < n) :
  ∃ b, b ∈ bs ∧ W.cell? ⟨g0, i, none⟩ = some (.slice (some ⟨b, 0, none⟩) n n) ∧ W.cell? ⟨b, j, none⟩ = some (.int .i64 (G i j)) ∧ W.frozen? ⟨b, j, none⟩ = false ∧ ∀ p : Int, p = G i j + 1 → MatAt (W.setCell ⟨b, j, none⟩ (.int .i64 p)) g0 n bs (zbo n n (incG G i j)) := by
 have hr := gridOf_get (hi := n) (wi := n) (g := G) hi
 obtain ⟨b, hb⟩ : ∃ b, bs[i]? = some b := ⟨_, List.getElem?_eq_getElem (by rw [HM.len, zbf]; exact hi)⟩
 have hx : ((List.range n).map fun c => G i c)[j]? = some (G i j) := by rw [List.getElem?_map, List.getElem?_range hj]; rfl
 have h1 := HM.topCell i b _ hb hr
 have h2 := HM.rowCell i j b _ _ hb hr hx
 have h3 := HM.set i j b _ (G i j + 1) hb hr
 rw [grid_inc G i j hi hj] at h3
 simp only [List.length_map, List.length_range] at h1
 exact ⟨b, List.mem_of_getElem? hb, h1, h2.1, h2.2, fun p hp => by subst hp; exact h3⟩
theorem wallsP_get {cs : List (List Int)} {i : Nat} {x : Bool × Nat × Nat × Nat} (h : (wallsP cs)[i]? = some x) : (wallsOf cs).getD i zeroW = mkW x.1 x.2 := by
 rw [wallsP_walls, List.getD_eq_getElem?_getD, List.getElem?_map, h]
 rfl
theorem wallsP_length (cs : List (List Int)) : (wallsP cs).length = (wallsOf cs).length := by rw [wallsP_walls]; simp
set_option maxHeartbeats 4000000 in
set_option maxRecDepth 100000 in
theorem touching1_read (w : World) (n : Nat) : ReadFn Try.prog 101 #[] w n n (fun _ _ => 0) := by
 intro W r c hr hc hS
 clear hS
 show Calls _ _ #[.int .i64 r, .int .i64 c] W _
 go_enter Try.func101, Try.ntmps101
 go_wp2
 go_ret
 exact ⟨rfl, Below.refl _ _⟩
theorem block_ne {W : World} {a b t s : Nat} {x y : Array Value} {u v : Nat × Nat} (ha : W.heap[a]? = some (.cells x t u)) (hb : W.heap[b]? = some (.cells y s v)) (h : t ≠ s) : a ≠ b := by
 rintro rfl
 rw [ha] at hb
 injection hb with hb
 injection hb with _ hb
 exact h hb
theorem MatAt.typed {W : World} {g n : Nat} {bs : List Nat} {rows : List (List Int)} (h : MatAt W g n bs rows) {b : Nat} (hb : b ∈ bs) : ∃ x, W.heap[b]? = some (.cells x 3 (0, 0)) := by
 obtain ⟨i, hi, e⟩ := List.mem_iff_getElem.1 hb
 have hr : i < rows.length := by rw [← h.len]; exact hi
 exact ⟨_, h.row i b _ (by rw [List.getElem?_eq_getElem hi, e]) (List.getElem?_eq_getElem hr)⟩
set_option maxHeartbeats 8000000 in
set_option maxRecDepth 100000 in
theorem touching_calls (g : Nat) (cs : List (List Int)) (rs : List Rc) (w : World) (hf : FloorAt w g cs rs) (hk : zcg cs rs) :
  Calls Try.prog 80 #[.pointer (some ⟨g, 0, none⟩)] w (GridRes w (zcq cs rs.length)) := by
 have HF := zaa.mk hf
 have HK := zaa.mk hk
 obtain ⟨Ar, cr, hrm, -⟩ := hf.rooms
 have h9 := hk.many
 clear hf hk
 have b9 : (rs.length : Int) ≤ 9 := by omega
 go_enter Try.func80, Try.ntmps80
 go_wp2
 refine start_ (n := 12) (S := fun w' => (w'.cell? ⟨g, 1, none⟩ = some (.slice Ar rs.length cr)) ∧ (Below w.heap.size w w')) (ds := []) #[false, false, false, false, false, false, false, false, false, false, false, false] (by kernel_rfl) rfl rfl (⟨hrm, ⟨rfl, rfl, rfl, Nat.le_refl _, fun _ _ => rfl⟩⟩) (fun hHeld => ?_)
 clear hrm
 refine zbb (i := 0) (N := some 9) (v := ?_) (a' := ?_) #[true, false, false, false, false, false, false, false, false, false, false, false] rfl rfl (by kernel_rfl) (fun _ _ _ h => h) (Or.inl ⟨by rfl, ?_⟩) ?_ ?_
 rotate_left
 ·intro w'
  go_simp
  with_reducible rfl
 rotate_left
 ·simp only [Act.put, List.setIfInBounds_toArray, List.set_cons_zero, List.set_cons_succ, zat, zau]
  rfl
 refine zbb (i := 1) (N := some 10) (v := ?_) (a' := ?_) #[true, true, false, false, false, false, false, false, false, false, false, false] rfl rfl (by kernel_rfl) (fun _ _ _ h => h) (Or.inl ⟨by rfl, ?_⟩) ?_ ?_
 rotate_left
 ·intro w'
  go_simp
  with_reducible rfl
 rotate_left
 ·simp only [Act.put, List.setIfInBounds_toArray, List.set_cons_zero, List.set_cons_succ, zat, zau]
  rfl
 refine zbb (i := 2) (N := some 11) (v := ?_) (a' := ?_) #[true, true, true, false, false, false, false, false, false, false, false, false] rfl rfl (by kernel_rfl) (fun _ _ _ h => h) (Or.inl ⟨by rfl, ?_⟩) ?_ ?_
 rotate_left
 ·intro w'
  go_simp
  with_reducible rfl
 rotate_left
 ·simp only [Act.put, List.setIfInBounds_toArray, List.set_cons_zero, List.set_cons_succ, zat, zau]
  rfl
 refine zci (i := 3) (N := some 12) (v := ?_) (a' := ?_) #[true, true, true, true, false, false, false, false, false, false, false, false] rfl rfl (by kernel_rfl) (fun _ _ _ h => h) (Or.inl ⟨by rfl, ?_⟩) hHeld ?_ ?_
 rotate_left
 ·rintro w' ⟨s0, s1⟩
  go_simp
  with_reducible rfl
 rotate_left
 ·simp only [Act.put, List.setIfInBounds_toArray, List.set_cons_zero, List.set_cons_succ, zat, zau]
  rfl
 refine zbb (i := 4) (N := some 13) (v := ?_) (a' := ?_) #[true, true, true, true, true, false, false, false, false, false, false, false] rfl rfl (by kernel_rfl) (fun _ _ _ h => h) (Or.inl ⟨by rfl, ?_⟩) ?_ ?_
 rotate_left
 ·intro w'
  go_simp
  with_reducible rfl
 rotate_left
 ·simp only [Act.put, List.setIfInBounds_toArray, List.set_cons_zero, List.set_cons_succ, zat, zau]
  rfl
 refine zbb (i := 5) (N := some 14) (v := ?_) (a' := ?_) #[true, true, true, true, true, true, false, false, false, false, false, false] rfl rfl (by kernel_rfl) (fun _ _ _ h => h) (Or.inl ⟨by rfl, ?_⟩) ?_ ?_
 rotate_left
 ·intro w'
  go_simp
  with_reducible rfl
 rotate_left
 ·simp only [Act.put, List.setIfInBounds_toArray, List.set_cons_zero, List.set_cons_succ, zat, zau]
  rfl
 refine zbb (i := 6) (N := some 15) (v := ?_) (a' := ?_) #[true, true, true, true, true, true, true, false, false, false, false, false] rfl rfl (by kernel_rfl) (fun _ _ _ h => h) (Or.inl ⟨by rfl, ?_⟩) ?_ ?_
 rotate_left
 ·intro w'
  go_simp
  with_reducible rfl
 rotate_left
 ·simp only [Act.put, List.setIfInBounds_toArray, List.set_cons_zero, List.set_cons_succ, zat, zau]
  rfl
 refine zbb (i := 7) (N := some 16) (v := ?_) (a' := ?_) #[true, true, true, true, true, true, true, true, false, false, false, false] rfl rfl (by kernel_rfl) (fun _ _ _ h => h) (Or.inl ⟨by rfl, ?_⟩) ?_ ?_
 rotate_left
 ·intro w'
  go_simp
  with_reducible rfl
 rotate_left
 ·simp only [Act.put, List.setIfInBounds_toArray, List.set_cons_zero, List.set_cons_succ, zat, zau]
  rfl
 refine zci (i := 8) (N := some 17) (v := ?_) (a' := ?_) #[true, true, true, true, true, true, true, true, true, false, false, false] rfl rfl (by kernel_rfl) (fun _ _ _ h => h) (Or.inl ⟨by rfl, ?_⟩) hHeld ?_ ?_
 rotate_left
 ·rintro w' ⟨s0, s1⟩
  go_simp
  with_reducible rfl
 rotate_left
 ·simp only [Act.put, List.setIfInBounds_toArray, List.set_cons_zero, List.set_cons_succ, zat, zau]
  rfl
 refine zbb (i := 9) (N := some 18) (v := ?_) (a' := ?_) #[true, true, true, true, true, true, true, true, true, true, false, false] rfl rfl (by kernel_rfl) (fun _ _ _ h => h) (Or.inl ⟨by rfl, ?_⟩) ?_ ?_
 rotate_left
 ·intro w'
  go_simp
  with_reducible rfl
 rotate_left
 ·simp only [Act.put, List.setIfInBounds_toArray, List.set_cons_zero, List.set_cons_succ, zat, zau]
  rfl
 refine one_ (i := 10) (N := some 19) #[true, true, true, true, true, true, true, true, true, true, true, false] rfl rfl (by kernel_rfl) (by decide) (fun K hK => ?_)
 refine goes_ Try.func75 (by kernel_rfl) rfl #[.int .i64 (rs.length : Int), .int .i64 (rs.length : Int), .func (.func 101) #[] #[]] (by rfl) rfl rfl (by (try simp only [List.map_toArray, List.map_cons, List.map_nil]); first | done | rfl) ?_
 have hs_ := hHeld
 obtain ⟨s0, s1⟩ := hs_
 refine (blank_calls 101 Try.f101 Try.func101 (by kernel_rfl) rfl _ rs.length rs.length _ _ (readFn_cell (touching1_read _ rs.length)) (fun k => k < _) _ ⟨fun _ => Iff.rfl, Sees.refl _⟩ (by omega) (by omega)).mono ?_
 rintro e w13 ⟨g0, bs, F', rfl, hM, hfar, ⟨hF, hS⟩, hF', hO⟩
 have hb : Below _ _ w13 := ⟨hO.os, hO.tape, hO.output, hS.1, hS.2⟩
 have HM13 := zaa.mk hM
 have HLow := zaa.mk (fun k hk => Nat.le_trans s1.size (hfar k hk).1)
 have HB13 := zaa.mk (zaf s1 hb)
 clear hM hfar hF hS hF' hO
 refine ⟨_, rfl, ?_⟩
 refine hK.out _ _ ⟨zae hb s0, zaf s1 hb⟩ (fun hHeld => ?_)
 clear hK K hb s0 s1
 refine norm_ (a' := ?_) ?_ ?_
 rotate_left
 ·show Act.put _ (some 19) _ = _
  simp only [Act.put, List.setIfInBounds_toArray, List.set_cons_zero, List.set_cons_succ, zat, zau]
  rfl
 refine zbb (i := 11) (N := some 3) (v := ?_) (a' := ?_) #[true, true, true, true, true, true, true, true, true, true, true, true] rfl rfl (by kernel_rfl) (fun _ _ _ h => h) (Or.inl ⟨by rfl, ?_⟩) ?_ ?_
 rotate_left
 ·intro w'
  go_simp
  with_reducible rfl
 rotate_left
 ·simp only [Act.put, List.setIfInBounds_toArray, List.set_cons_zero, List.set_cons_succ, zat, zau]
  rfl
 refine done_ (by kernel_rfl) ?_
 clear hHeld
 obtain ⟨K, hK⟩ := walls_ev HK.out
 have HW := zaa.mk (hK K (Nat.le_refl K))
 have HL := zaa.mk (wallsOf_bound HK.out)
 have HPL := zaa.mk (wallsP_length cs)
 have HPG := zaa.mk (fun i x h => wallsP_get (cs := cs) (i := i) (x := x) h)
 have hM0 : zcq cs rs.length = zbo rs.length rs.length (hitG (touchP cs (wallsOf cs).length)) := by
  rw [← wallsP_length, touchP_all]
  rfl
 have HM0 := zaa.mk hM0
 have HZ := zaa.mk (show zbo rs.length rs.length (fun _ _ => 0) = zbo rs.length rs.length (hitG (touchP cs 0)) from gridOf_congr fun r c _ _ => rfl)
 clear hK hM0
 generalize wallsOf cs = ws at *
 generalize zcq cs rs.length = tm at *
 have b1 : (ws.length : Int) ≤ 72 := by have := HL.out; omega
 go_wp2_with (first
  | (go_at_call 61; refine (impl_floor_walls.calls K g cs rs ws _ _ (HF.out.below HB13.out) (Below.refl _ _) HW.out).mono ?_; rintro e w9 ⟨v9, rfl, hr9, -, hb9, -⟩; obtain ⟨A9, c9, e9⟩ := Kd.R_slice hr9; subst e9; have HB9 := zaa.mk (zaf HB13.out hb9); have HR9 := zaa.mk (Kd.R_lower hr9 HB13.out.size); have HM9 := zaa.mk (HM13.out.move (fun k hk => hb9.block k (HM13.out.lt k hk))); clear hb9 hr9))
 go_loopg [23] ws.length (fun kq v23 w' => ∃ i : Nat, v23 = .int .i64 (i : Int) ∧ zaa (i + kq = ws.length) ∧ zaa (MatAt w' g0 rs.length bs (zbo rs.length rs.length (hitG (touchP cs i)))) ∧ zaa (Kd.R kWl 72 w' w.heap.size (fun _ => True) (.slice A9 ws.length c9) ws) ∧ zaa (Below w.heap.size w w'))
 case atStart => exact ⟨0, rfl, ⟨by omega⟩, ⟨HZ.out ▸ HM9.out⟩, HR9, HB9⟩
 case round =>
  clear HR9 HB9 HM9
  obtain ⟨i, rfl, HKi, HM, HO, HB⟩ := hrel
  by_cases hi : i < ws.length
  ·have hlt : (i : Int) < (ws.length : Int) := by omega
   have hi0 : (0 : Int) ≤ i := by omega
   obtain ⟨gr, cp, ev, hgr, hltg, cells, hcells⟩ := Kd.R_form HO.out (by omega)
   injection ev with ea en ec
   subst ea
   clear en ec hcells hltg hgr
   obtain ⟨z0, z1, z2, z3⟩ := wl_cells HO.out i hi
   obtain ⟨lv, l, f, n, hP, k1, k2, k3, k4, k5, k6⟩ := wallsP_ok HK.out i (by rw [HPL.out]; exact hi)
   rw [HPG.out i _ hP] at z0 z1 z2 z3
   simp only [mkW] at z0 z1 z2 z3
   have HTS := zaa.mk (touchP_succ cs i lv _ hP)
   have HTL := zaa.mk (touchP_length HK.out i (by rw [HPL.out]; omega))
   have HSd := zaa.mk (fun j (hj : j < n) => sides_range HK.out lv l (f + j) k1 k2 (by omega))
   have HSf := zaa.mk (fun j (hj : j < n) => sides_f HK.out lv l (f + j) k1 k2 (by omega))
   obtain ⟨fn, hw, hfn⟩ : ∃ fn : Int, wrap64 ((f : Int) + (n : Int)) = fn ∧ fn = (f : Int) + (n : Int) := ⟨_, rfl, zaq (by omega) (by omega)⟩
   have HFN := zaa.mk hfn
   have HN6 := zaa.mk (show f + n ≤ 6 ∧ n ≤ 6 by omega)
   clear hP k1 k2 k3 k4 k5 k6 hfn
   have HNw := zaa.mk (heap_alloc_new wr (.cells #[.bool lv, .int .i64 (l : Int), .int .i64 (f : Int), .int .i64 (n : Int)] 72))
   have HBa := zaa.mk (zac HB.out (.cells #[.bool lv, .int .i64 (l : Int), .int .i64 (f : Int), .int .i64 (n : Int)] 72))
   have HOa := zaa.mk (Kd.R_below HO.out (zac (Below.refl _ _) (.cells #[.bool lv, .int .i64 (l : Int), .int .i64 (f : Int), .int .i64 (n : Int)] 72)))
   have HMa := zaa.mk (HM.out.move (fun k hk => Below.heap_alloc wr (.cells #[.bool lv, .int .i64 (l : Int), .int .i64 (f : Int), .int .i64 (n : Int)] 72) k (HM.out.lt k hk)))
   clear HB HM HO
   go_wp2
   generalize wr.alloc (.cells #[.bool lv, .int .i64 (l : Int), .int .i64 (f : Int), .int .i64 (n : Int)] 72) = wz at *
   generalize wr.heap.size = gw at *
   clear z0 z1 z2 z3
   go_loopg [6] n (fun kq v6 w' => ∃ (j : Nat) (x : Int), v6 = .int .i64 x ∧ zaa (x = (f : Int) + (j : Int)) ∧ zaa (j + kq = n) ∧ zaa (MatAt w' g0 rs.length bs (zbo rs.length rs.length (hitG (touchP cs i ++ (touchW cs lv (l, f, n)).take j)))) ∧ zaa (w'.heap[gw]? = some (.cells #[.bool lv, .int .i64 (l : Int), .int .i64 (f : Int), .int .i64 (n : Int)] 72 (0, 0))) ∧ zaa (Kd.R kWl 72 w' w.heap.size (fun _ => True) (.slice (some ⟨gr, 0, none⟩) ws.length c9) ws) ∧ zaa (Below w.heap.size w w'))
   case atStart => exact ⟨0, (f : Int), rfl, ⟨by omega⟩, ⟨by omega⟩, ⟨by simpa using HMa.out⟩, HNw, HOa, HBa⟩
   case round =>
    clear HMa HNw HOa HBa
    obtain ⟨j, x, rfl, HX, HKj, HM, HNw, HO, HB⟩ := hrel
    have y0 := (zao HNw.out 0).trans rfl
    have y1 := (zao HNw.out 1).trans rfl
    have y2 := (zao HNw.out 2).trans rfl
    have y3 := (zao HNw.out 3).trans rfl
    by_cases hj : j < n
    ·have hlt2 : x < fn := by have := HX.out; have := HFN.out; omega
     obtain ⟨a, b, hs, ha, hb⟩ := HSd.out j hj
     have hsf := HSf.out j hj
     rw [hs, show ((f + j : Nat) : Int) = x by have := HX.out; omega] at hsf
     have HSF := zaa.mk hsf
     have HS := zaa.mk hs
     have HTT := zaa.mk (touchW_take cs lv l f n j hj)
     have hTl : (touchP cs i ++ (touchW cs lv (l, f, n)).take j).length ≤ 500 := by
      have := HTL.out
      have := HN6.out
      rw [List.length_append, List.length_take, touchW_length]
      dsimp only
      omega
     obtain ⟨x', hw3, hx'⟩ : ∃ x' : Int, wrap64 (x + 1) = x' ∧ x' = (f : Int) + ((j + 1 : Nat) : Int) := ⟨_, rfl, by have := HX.out; have := HN6.out; rw [zaq (by omega) (by omega)]; omega⟩
     have HX' := zaa.mk hx'
     have a0 : (0 : Int) ≤ (a : Int) := by omega
     have b0 : (0 : Int) ≤ (b : Int) := by omega
     have a1 : (a : Int) < (rs.length : Int) := by omega
     have b2 : (b : Int) < (rs.length : Int) := by omega
     obtain ⟨T, hT⟩ : ∃ T, T = touchP cs i ++ (touchW cs lv (l, f, n)).take j := ⟨_, rfl⟩
     rw [← hT] at HM hTl
     have HTn := zaa.mk (show touchP cs i ++ (touchW cs lv (l, f, n)).take (j + 1) = T ++ [((a : Int), (b : Int))] by rw [HTT.out, HS.out, ← List.append_assoc, hT])
     have HTB := zaa.mk (fun r c => hits_range' T r c)
     have HTLn := zaa.mk hTl
     clear hs hsf hx' hTl hT
     go_wp2_with (first
      | (go_at_call 102; refine (impl_floor_sides.calls g cs rs lv (l : Int) x (a : Int) (b : Int) _ _ (HF.out.below HB.out) (Below.refl _ _) HSF.out).mono ?_; rintro e w12 ⟨rfl, -, hb12, -⟩; have hm12 := HM.out.move (fun k hk => hb12.block k (HM.out.lt k hk)); obtain ⟨p1, hp1, q1, q2, q3, hm1⟩ := mat_inc hm12 a b ha hb; obtain ⟨v1, hv1, hv1'⟩ : ∃ v1 : Int, wrap64 (hitG T a b + 1) = v1 ∧ v1 = hitG T a b + 1 := ⟨_, rfl, by have := HTB.out a b; have := HTLn.out; unfold hitG; exact zaq (by omega) (by omega)⟩; replace hm1 := hm1 v1 hv1'; obtain ⟨p2, hp2, r1, r2, r3, hm2⟩ := mat_inc hm1 b a hb ha; obtain ⟨v2, hv2, hv2'⟩ : ∃ v2 : Int, wrap64 (incG (hitG T) a b b a + 1) = v2 ∧ v2 = incG (hitG T) a b b a + 1 := ⟨_, rfl, by have := HTB.out b a; have := HTLn.out; unfold incG hitG; split <;> exact zaq (by omega) (by omega)⟩; replace hm2 := hm2 v2 hv2'; obtain ⟨X1, ht1⟩ := hm12.typed hp1; obtain ⟨X2, ht2⟩ := hm1.typed hp2; have hn12 := (hb12.block gw (Array.getElem?_eq_some_iff.1 HNw.out).1).trans HNw.out; have HNw2 := zaa.mk ((Below.heap_setCell (w12.setCell ⟨p1, b, none⟩ (.int .i64 v1)) ⟨p2, a, none⟩ (.int .i64 v2) gw (by show gw ≠ p2; exact block_ne ((Below.heap_setCell w12 ⟨p1, b, none⟩ (.int .i64 v1) gw (by show gw ≠ p1; exact block_ne hn12 ht1 (by decide))).trans hn12) ht2 (by decide))).trans ((Below.heap_setCell w12 ⟨p1, b, none⟩ (.int .i64 v1) gw (by show gw ≠ p1; exact block_ne hn12 ht1 (by decide))).trans hn12)); have HO2 := zaa.mk (R_setF (R_setF (Kd.R_below HO.out hb12) ht1 (by decide) b (.int .i64 v1)) ht2 (by decide) a (.int .i64 v2)); have HB2 := zaa.mk (zan (zan (zaf HB.out hb12) (g := p1) (j := b) (v := .int .i64 v1) (HLow.out p1 (List.mem_cons_of_mem _ hp1))) (g := p2) (j := a) (v := .int .i64 v2) (HLow.out p2 (List.mem_cons_of_mem _ hp2))); have HM2 := zaa.mk hm2; clear hm12 hm1 hm2 hp1 hp2 ht1 ht2 hn12 hb12 hv1' hv2' HO HB HM HNw; generalize hitG T a b = g1 at q2 hv1; generalize incG (hitG T) a b b a = g2 at r2 hv2))
     go_roundg (n - (j + 1))
     case measure => have := HKj.out; omega
     case rel => exact ⟨j + 1, x', congrArg (Value.int .i64) hw3, HX', ⟨by have := HKj.out; omega⟩, ⟨by rw [HTn.out, ← gridOf_congr (fun r c _ _ => hitG_snoc T a b r c)]; exact HM2.out⟩, HNw2, HO2, HB2⟩
    ·have hge2 : ¬ x < fn := by have := HX.out; have := HFN.out; omega
     obtain rfl : j = n := by have := HKj.out; omega
     go_wp2
     go_roundg (ws.length - (i + 1))
     case measure => have := HKi.out; omega
     case rel => exact ⟨i + 1, by first | rfl | (congr 1; omega), ⟨by have := HKi.out; omega⟩, ⟨by rw [HTS.out]; have := HM.out; rwa [List.take_of_length_le (by rw [touchW_length]; exact Nat.le_refl _)] at this⟩, HO, HB⟩
  ·have hge : ¬ (i : Int) < (ws.length : Int) := by omega
   obtain rfl : i = ws.length := by have := HKi.out; omega
   go_wp2
   go_ret
   have hl := zbf rs.length rs.length (hitG (touchP cs ws.length))
   rw [HM0.out]
   exact ⟨some ⟨g0, 0, none⟩, rs.length, by rw [hl]; rfl, by rw [hl]; exact Nat.le_refl _, HM.out.reads (by rw [hl]; omega) (fun r hr => by rw [gridOf_row r hr]; omega), HB.out⟩
theorem touchM_length (cs : List (List Int)) (n : Nat) : (zcq cs n).length = n := zbf _ _ _
theorem okC_any {cs : List (List Int)} {n : Nat} {L : List Int} {c : Int} (hL : L.length < n) : okC cs L c = !((nearL cs n (L.length : Int)).any fun b => decide (b < (L.length : Int)) && (rd L b == c)) := by
 unfold okC okTo
 rw [Bool.eq_iff_iff, List.all_eq_true, Bool.not_eq_true', List.any_eq_false]
 constructor
 ·intro h b hb
  obtain ⟨b', rfl, h1, h2⟩ := (nearL_mem cs n _ b).1 hb
  by_cases hlt : b' < L.length
  ·have := h b' (List.mem_range.2 hlt)
   rw [Bool.not_eq_true', Bool.and_eq_false_iff] at this
   rcases this with h3 | h3
   ·simp [h3]
   ·rw [decide_eq_false_iff_not] at h3
    exact absurd h2 h3
  ·have : ¬ (b' : Int) < (L.length : Int) := by omega
   simp [this]
 ·intro h b hb
  have hb' := List.mem_range.1 hb
  rw [Bool.not_eq_true', Bool.and_eq_false_iff]
  by_cases h2 : besN cs (L.length : Int) (b : Int) > 0
  ·have := h (b : Int) ((nearL_mem cs n _ _).2 ⟨b, rfl, by omega, h2⟩)
   rw [Bool.not_eq_true, Bool.and_eq_false_iff] at this
   rcases this with h3 | h3
   ·rw [decide_eq_false_iff_not] at h3
    omega
   ·exact .inl h3
  ·exact .inr (decide_eq_false h2)
def NextRes (w0 w : World) (po : Nat) (P : Nat → Prop) (L : List Int) (r : Option (List Int)) (e : Ending) (w' : World) : Prop :=
 ∃ v', e = .returned (.bool r.isSome) ∧ w'.heap[po]? = some (.cells #[v'] 24 (0, 0)) ∧ Kd.R (Kd.int .i64) 3 w' w0.heap.size (fun k => P k ∨ w.heap.size ≤ k) v' (r.getD L) ∧ Kept w w' (fun k => k = po ∨ P k) ∧ Below w0.heap.size w0 w'
structure NextIn (w0 w : World) (pl pm po pn : Nat) (Al : Option Addr) (cl : Nat) (cs : List (List Int)) (n many : Nat) (P : Nat → Prop) (L : List Int) (v : Value) : Prop where
 below : Below w0.heap.size w0 w
 lens : w.cell? ⟨pl, 0, none⟩ = some (.slice Al (zcq cs n).length cl)
 many : w.cell? ⟨pm, 0, none⟩ = some (.int .i64 (many : Int))
 next : w.cell? ⟨pn, 0, none⟩ = some (.func (.func 103) #[] #[.pointer (some ⟨po, 0, none⟩), .pointer (some ⟨pl, 0, none⟩), .pointer (some ⟨pm, 0, none⟩), .pointer (some ⟨pn, 0, none⟩)])
 out : w.heap[po]? = some (.cells #[v] 24 (0, 0))
 row : Kd.R (Kd.int .i64) 3 w w0.heap.size P v L
 base : w0.heap.size ≤ po
 ne : pl ≠ po ∧ pm ≠ po ∧ pn ≠ po
 no : ¬ P po ∧ ¬ P pl ∧ ¬ P pm ∧ ¬ P pn
theorem NextIn.kept {w0 w W : World} {pl pm po pn : Nat} {Al : Option Addr} {cl : Nat} {cs : List (List Int)} {n many : Nat} {P : Nat → Prop} {L : List Int} {v : Value} (h : NextIn w0 w pl pm po pn Al cl cs n many P L v) (hk : Kept w W (fun k => k = po ∨ P k)) :
  W.cell? ⟨pl, 0, none⟩ = some (.slice Al (zcq cs n).length cl) ∧ W.cell? ⟨pm, 0, none⟩ = some (.int .i64 (many : Int)) ∧ W.cell? ⟨pn, 0, none⟩ = some (.func (.func 103) #[] #[.pointer (some ⟨po, 0, none⟩), .pointer (some ⟨pl, 0, none⟩), .pointer (some ⟨pm, 0, none⟩), .pointer (some ⟨pn, 0, none⟩)]) :=
 ⟨cell_kept h.lens hk (fun z => z.elim h.ne.1 h.no.2.1), cell_kept h.many hk (fun z => z.elim h.ne.2.1 h.no.2.2.1), cell_kept h.next hk (fun z => z.elim h.ne.2.2 h.no.2.2.2)⟩
theorem set_one {w : World} {b : Nat} {t : TypeId} {x : Value} (h : w.heap[b]? = some (.cells #[x] t (0, 0))) (v : Value) : (w.setCell ⟨b, 0, none⟩ v).heap[b]? = some (.cells #[v] t (0, 0)) := by
 simp only [World.setCell, Array.getElem?_modify, if_true, h, Option.map_some]
 simp
set_option maxHeartbeats 4000000 in
set_option maxRecDepth 100000 in
theorem next_calls (cs : List (List Int)) (n many : Nat) (h9 : n ≤ 9) (hm : many ≤ 9) (w0 : World) (pl pm po pn : Nat) (Al : Option Addr) (cl : Nat) (hl : (zcq cs n).length ≤ cl) (hC : (Kd.slice 3 (Kd.int .i64)).C w0 Al (zcq cs n).length (zcq cs n)) :
  ∀ (f : Nat) (L : List Int) (P : Nat → Prop) (w : World) (v : Value), L.length + f = n → NextIn w0 w pl pm po pn Al cl cs n many P L v →
  Calls Try.prog 103 #[.pointer (some ⟨po, 0, none⟩), .pointer (some ⟨pl, 0, none⟩), .pointer (some ⟨pm, 0, none⟩), .pointer (some ⟨pn, 0, none⟩)] w (NextRes w0 w po P L (colG cs many f L)) := by
 have HTl := zaa.mk (touchM_length cs n)
 have HC := zaa.mk hC
 have HLc := zaa.mk hl
 clear hC hl
 intro f
 induction f with
 | zero =>
  intro L P w v hL hin
  have HIn := zaa.mk hin
  have hlen := hin.lens
  have hout := zch hin.out
  obtain ⟨Av, cv, ev, hcv, hCv⟩ := Kd.R_reads hin.row
  subst ev
  have HL := zaa.mk hL
  clear hin hL hCv hcv
  have d1 : ((L.length : Int) == ((zcq cs n).length : Int)) = true := by rw [beq_iff_eq, HTl.out]; have := HL.out; omega
  go_enter Try.func103, Try.ntmps103
  go_upto_region 2 with (fail)
  have hb := zac (Below.refl w.heap.size w) (.cells #[.int .i64 (L.length : Int)] 3)
  have hk := heap_alloc_new w (.cells #[.int .i64 (L.length : Int)] 3)
  generalize w.alloc (.cells #[.int .i64 (L.length : Int)] 3) = w1 at *
  have hlen1 := zae hb hlen
  have ha1 := zch hk
  have HB := zaa.mk hb
  clear hb hk hlen hout
  go_wp2
  go_ret
  exact ⟨_, rfl, (HB.out.block po (zbp HIn.out.out)).trans HIn.out.out, Kd.R_mono (Kd.R_below HIn.out.row HB.out) (fun k hk => .inl hk), (Kept.of_below HB.out _), zaf HIn.out.below HB.out⟩
 | succ f ih =>
  intro L P w v hL hin
  have HIh := zaa.mk ih
  clear ih
  have HIn := zaa.mk hin
  have hlen := hin.lens
  have hmany := hin.many
  have hout := zch hin.out
  obtain ⟨Av, cv, ev, hcv, hCv⟩ := Kd.R_reads hin.row
  subst ev
  have HL := zaa.mk hL
  clear hin hCv hcv
  have d1 : ((L.length : Int) == ((zcq cs n).length : Int)) = false := by rw [beq_eq_false_iff_ne, HTl.out]; omega
  clear hL
  go_enter Try.func103, Try.ntmps103
  go_upto_region 2 with (fail)
  have hb := zac (Below.refl w.heap.size w) (.cells #[.int .i64 (L.length : Int)] 3)
  have hk := heap_alloc_new w (.cells #[.int .i64 (L.length : Int)] 3)
  have HSz := zaa.mk (show (w.alloc (.cells #[.int .i64 (L.length : Int)] 3)).heap.size = w.heap.size + 1 by simp)
  generalize w.alloc (.cells #[.int .i64 (L.length : Int)] 3) = w1 at *
  obtain ⟨pa, hpa⟩ : ∃ pa, pa = w.heap.size := ⟨_, rfl⟩
  rw [← hpa] at hk ⊢
  have HPa := zaa.mk hpa
  have hlen1 := zae hb hlen
  have hmany1 := zae hb hmany
  have ha1 := zch hk
  have HB := zaa.mk hb
  have HOut1 := zaa.mk ((hb.block po (zbp HIn.out.out)).trans HIn.out.out)
  have HRow1 := zaa.mk (Kd.R_below (Kd.R_mono (Kd.R_bound HIn.out.row) (ok' := fun k => P k ∧ k < pa) (fun k hk => ⟨hk.1, by have := hk.2.2.1; omega⟩)) hb)
  have HPk := zaa.mk hk
  clear hb hk hlen hout hmany hpa
  go_wp2
  have HSt := zaa.mk (show colG cs many (f + 1) L = (List.range' 0 (many - 0)).findSome? fun (c : Nat) => if okC cs L (c : Int) = true then colG cs many f (L ++ [(c : Int)]) else none from rfl)
  have HRowS := zaa.mk (Kd.R_mono HRow1.out (ok' := fun k => (P k ∧ k < pa) ∨ pa < k) (fun k hk => .inl hk))
  have HKS := zaa.mk (Kept.of_below HB.out (fun k => k = po ∨ P k))
  have HBS := zaa.mk (zaf HIn.out.below HB.out)
  go_loopg [15] many (fun kq v15 w' => ∃ (c : Nat) (v : Value), v15 = .int .i64 (c : Int) ∧ zaa (c + kq = many) ∧ zaa (colG cs many (f + 1) L = (List.range' c (many - c)).findSome? fun (c : Nat) => if okC cs L (c : Int) = true then colG cs many f (L ++ [(c : Int)]) else none) ∧ zaa (w'.heap[po]? = some (.cells #[v] 24 (0, 0))) ∧ zaa (Kd.R (Kd.int .i64) 3 w' w0.heap.size (fun k => (P k ∧ k < pa) ∨ pa < k) v L) ∧ zaa (w'.heap[pa]? = some (.cells #[.int .i64 (L.length : Int)] 3 (0, 0))) ∧ zaa (Kept w w' (fun k => k = po ∨ P k)) ∧ zaa (Below w0.heap.size w0 w') ∧ zaa (w.heap.size ≤ w'.heap.size))
  case atStart => exact ⟨0, _, rfl, ⟨by omega⟩, HSt, HOut1, HRowS, HPk, HKS, HBS, ⟨HB.out.size⟩⟩
  case round =>
   clear HRowS HKS HBS HSt HOut1 HRow1 HPk hlen1 hmany1 ha1
   obtain ⟨c, v, rfl, HKc, HEq, HO, HR, HPk, HKp, HBl, HSw⟩ := hrel
   by_cases hc : c < many
   ·have hlt : (c : Int) < (many : Int) := by omega
    obtain ⟨l1, m1, n1⟩ := HIn.out.kept HKp.out
    go_upto_region 7 with (fail)
    have hb := zac (Below.refl wr.heap.size wr) (.cells #[.int .i64 (c : Int)] 3)
    have hk := heap_alloc_new wr (.cells #[.int .i64 (c : Int)] 3)
    generalize wr.alloc (.cells #[.int .i64 (c : Int)] 3) = w2 at *
    obtain ⟨pc, hpc⟩ : ∃ pc, pc = wr.heap.size := ⟨_, rfl⟩
    rw [← hpc] at hk ⊢
    have HPc := zaa.mk hpc
    obtain ⟨Av2, cv2, ev, hcv, hCv⟩ := Kd.R_reads HR.out
    subst ev
    have hl2 := zae hb l1
    have ha2 := zae hb (zch HPk.out)
    have ho2 := zae hb (zch HO.out)
    have hc2 := zch hk
    have HC2 := zaa.mk (Kd.C_below hCv hb)
    have HB2 := zaa.mk hb
    have HBl2 := zaa.mk (zaf HBl.out hb)
    have HN1 := zaa.mk n1
    clear hb hk hCv hcv l1 m1 n1 hpc
    obtain ⟨K, hK⟩ := near_ev cs n L.length h9 (by have := HL.out; omega)
    have HNr := zaa.mk (hK K (Nat.le_refl K))
    have HNl := zaa.mk (show ∀ x ∈ nearL cs n (L.length : Int), 0 ≤ x from fun x hx => by obtain ⟨b, rfl, -, -⟩ := (nearL_mem cs n _ x).1 hx; omega)
    have hany := okC_any (cs := cs) (n := n) (L := L) (c := (c : Int)) (by have := HL.out; omega)
    obtain ⟨q, hq⟩ : ∃ q, many - c = q + 1 := ⟨many - (c + 1), by omega⟩
    have hst := HEq.out
    rw [hq, List.range'_succ, List.findSome?_cons] at hst
    have HQ := zaa.mk (show q = many - (c + 1) by omega)
    clear hK hq HEq
    generalize nearL cs n (L.length : Int) = nl at *
    cases hok : okC cs L (c : Int) with
    | false =>
     rw [hok] at hany hst
     rw [if_neg (by simp)] at hst
     have HSt := zaa.mk hst
     have HAny := zaa.mk (show (nl.any fun b => decide (b < (L.length : Int)) && (rd L b == (c : Int))) = true by simpa using hany.symm)
     clear hst hany hok
     go_wp2_with (first
      | (go_at_call 106; refine (impl_near.calls K Al cl (zcq cs n) (L.length : Int) nl _ (Kd.C_below HC.out HBl2.out) HLc.out HNr.out).mono ?_; rintro e w3 ⟨v3, rfl, hr3, hb3⟩; obtain ⟨A3, c3, e3, hcc3, hC3⟩ := Kd.R_reads hr3; subst e3; have HB3 := zaa.mk (zaf HB2.out hb3); have HC3 := zaa.mk hC3; have hl3 := zae hb3 hl2; have ha3 := zae hb3 ha2; have ho3 := zae hb3 ho2; have hc3 := zae hb3 hc2; have HCo3 := zaa.mk (Kd.C_below HC2.out hb3); clear hb3 hr3 hcc3 hC3)
      | (go_at_call 105; refine (containsI_calls 104 Try.f104 Try.func104 (by kernel_rfl) rfl _ (fun b => decide (b < (L.length : Int)) && (rd L b == (c : Int))) A3 c3 nl _ HC3.out (clash_pred _ pa po pc Av2 cv2 L (c : Int) nl ha3 ho3 HCo3.out hc3 HNl.out)).mono ?_; rw [HAny.out]; rintro e w4 ⟨rfl, hb4⟩; have HB4 := zaa.mk (zaf HB3.out hb4); clear hb4))
     go_roundg (many - (c + 1))
     case measure => have := HKc.out; omega
     case rel => exact ⟨c + 1, _, by first | rfl | (congr 1; omega), ⟨by have := HKc.out; omega⟩, ⟨by rw [← HQ.out]; exact HSt.out⟩, ⟨(HB4.out.block po (zbp HO.out)).trans HO.out⟩, ⟨Kd.R_below HR.out HB4.out⟩, ⟨(HB4.out.block pa (zbp HPk.out)).trans HPk.out⟩, ⟨HKp.out.below HB4.out⟩, ⟨zaf HBl.out HB4.out⟩, ⟨Nat.le_trans HSw.out HB4.out.size⟩⟩
    | true =>
     rw [hok] at hany hst
     rw [if_pos rfl] at hst
     have HAny := zaa.mk (show (nl.any fun b => decide (b < (L.length : Int)) && (rd L b == (c : Int))) = false by simpa using hany.symm)
     have HSt0 := zaa.mk hst
     clear hst hany hok
     go_upto_region 9 with (first
      | (go_at_call 106; refine (impl_near.calls K Al cl (zcq cs n) (L.length : Int) nl _ (Kd.C_below HC.out HBl2.out) HLc.out HNr.out).mono ?_; rintro e w3 ⟨v3, rfl, hr3, hb3⟩; obtain ⟨A3, c3, e3, hcc3, hC3⟩ := Kd.R_reads hr3; subst e3; have HB3 := zaa.mk (zaf HB2.out hb3); have HC3 := zaa.mk hC3; have hl3 := zae hb3 hl2; have ha3 := zae hb3 ha2; have ho3 := zae hb3 ho2; have hc3 := zae hb3 hc2; have HCo3 := zaa.mk (Kd.C_below HC2.out hb3); clear hb3 hr3 hcc3 hC3)
      | (go_at_call 105; refine (containsI_calls 104 Try.f104 Try.func104 (by kernel_rfl) rfl _ (fun b => decide (b < (L.length : Int)) && (rd L b == (c : Int))) A3 c3 nl _ HC3.out (clash_pred _ pa po pc Av2 cv2 L (c : Int) nl ha3 ho3 HCo3.out hc3 HNl.out)).mono ?_; rw [HAny.out]; rintro e w4 ⟨rfl, hb4⟩; have HB4 := zaa.mk (zaf HB3.out hb4); have ho4 := zae hb4 ho3; have hc4 := zae hb4 hc3; clear hb4))
     have hpo : po < pa := by have := zbp HIn.out.out; have := HPa.out; omega
     have hpl : pl < pa := by have h := World.block_lt_of_cell? _ _ HIn.out.lens; have := HPa.out; simp only at h; omega
     have hpm : pm < pa := by have h := World.block_lt_of_cell? _ _ HIn.out.many; have := HPa.out; simp only at h; omega
     have hpn : pn < pa := by have h := World.block_lt_of_cell? _ _ HIn.out.next; have := HPa.out; simp only at h; omega
     have hpaw : pa < wr.heap.size := zbp HPk.out
     have hw4 : wr.heap.size ≤ w4.heap.size := HB4.out.size
     have HNum := zaa.mk (show po < pa ∧ pl < pa ∧ pm < pa ∧ pn < pa ∧ pa < wr.heap.size ∧ wr.heap.size ≤ w4.heap.size from ⟨hpo, hpl, hpm, hpn, hpaw, hw4⟩)
     have HR4 := zaa.mk (Kd.R_mono (Kd.R_below (Kd.R_bound HR.out) HB4.out) (ok' := fun k => (((P k ∧ k < pa) ∨ pa < k) ∧ k < wr.heap.size) ∨ w4.heap.size ≤ k) (fun k hk => .inl ⟨hk.1, hk.2.2.1⟩))
     have HBl4 := zaa.mk (zaf HBl.out HB4.out)
     have HPk4 := zaa.mk ((HB4.out.block pa (zbp HPk.out)).trans HPk.out)
     have HO4 := zaa.mk ((HB4.out.block po (zbp HO.out)).trans HO.out)
     have HKp4 := zaa.mk (HKp.out.below HB4.out)
     clear hpo hpl hpm hpn hpaw hw4
     go_upto_region 10 with (first
      | ((with_reducible refine zav (b := .append) (xs := #[.tmp 24, .tmp 26]) rfl ?_); at_builtin; refine Kd.R_append (Kd.int .i64) (w0 := w0) w0.heap.size rfl (.tmp 24) (.tmp 26) 24 3 (.int .i64 0) 8 rfl Try.underlying24 info3 rfl (by decide) (by omega) (.slice Av2 L.length cv2) L (c : Int) [.int .i64 (c : Int)] (fun k => (((P k ∧ k < pa) ∨ pa < k) ∧ k < wr.heap.size) ∨ w4.heap.size ≤ k) (fun _ => False) rfl rfl ?aP (fun _ hk => hk.elim) ?aF ?aO ?aB ?aS ?aL ?_; (case aP => exact rfl); (case aB => exact HBl4.out); (case aF => exact (fun k_ hk => .inr hk)); (case aO => exact HR4.out); (case aS => exact HBl4.out.size); (case aL => have := HL.out; omega); intro v5 w5 ho5 hb5 hg5 hat5; obtain ⟨L1, eL1⟩ : ∃ L1, L1 = L ++ [(c : Int)] := ⟨_, rfl⟩; rw [← eL1] at ho5; have EL1 := zaa.mk eL1; obtain ⟨A5, c5, e5⟩ := Kd.R_slice ho5; subst e5; have HR5 := zaa.mk ho5; have HB5 := zaa.mk hb5; have HK5 := zaa.mk (Kept.of_grown hg5 (Kept.refl w4 (fun k => (((P k ∧ k < pa) ∨ pa < k) ∧ k < wr.heap.size))) (fun k hk => HR4.out.1 k hk)); have hO5 := blk_kept HO4.out HK5.out (fun z => by have hn := HNum.out; exact z.1.elim (fun y => HIn.out.no.1 y.1) (fun y => by omega)); have hf5 := zas hO5 0; have hc5 := zch hO5; have HO5 := zaa.mk hO5; clear ho5 hb5 hg5 hat5 hO5 eL1))
     have hpo : ¬ ((((P po ∧ po < pa) ∨ pa < po) ∧ po < wr.heap.size) ∨ w4.heap.size ≤ po) := fun z => by have hn := HNum.out; exact z.elim (fun z => z.1.elim (fun y => HIn.out.no.1 y.1) (fun y => by omega)) (fun y => by omega)
     have hpl : ¬ ((((P pl ∧ pl < pa) ∨ pa < pl) ∧ pl < wr.heap.size) ∨ w4.heap.size ≤ pl) := fun z => by have hn := HNum.out; exact z.elim (fun z => z.1.elim (fun y => HIn.out.no.2.1 y.1) (fun y => by omega)) (fun y => by omega)
     have hpm : ¬ ((((P pm ∧ pm < pa) ∨ pa < pm) ∧ pm < wr.heap.size) ∨ w4.heap.size ≤ pm) := fun z => by have hn := HNum.out; exact z.elim (fun z => z.1.elim (fun y => HIn.out.no.2.2.1 y.1) (fun y => by omega)) (fun y => by omega)
     have hpn : ¬ ((((P pn ∧ pn < pa) ∨ pa < pn) ∧ pn < wr.heap.size) ∨ w4.heap.size ≤ pn) := fun z => by have hn := HNum.out; exact z.elim (fun z => z.1.elim (fun y => HIn.out.no.2.2.2 y.1) (fun y => by omega)) (fun y => by omega)
     have hO6 := set_one HO5.out (.slice A5 L1.length c5)
     have hR6 := Kd.R_far (p := ⟨po, 0, none⟩) HR5.out (fun k hk e => hpo (by rw [show po = k from e.symm]; exact hk)) (.slice A5 L1.length c5)
     have hK6 : Kept w4 (w5.setCell ⟨po, 0, none⟩ (.slice A5 L1.length c5)) (fun k => k = po ∨ (((P k ∧ k < pa) ∨ pa < k) ∧ k < wr.heap.size)) := (HK5.out.mono (fun k hk => .inr hk)).setCell (.inl (.inl rfl)) _
     have hB6 : Below w0.heap.size w0 (w5.setCell ⟨po, 0, none⟩ (.slice A5 L1.length c5)) := zan HB5.out HIn.out.base
     generalize w5.setCell ⟨po, 0, none⟩ (.slice A5 L1.length c5) = w6 at *
     have hKw6 : Kept w w6 (fun k => k = po ∨ P k) := HKp4.out.then_ hK6 (fun k hk => by have hn := HNum.out; have ha := HPa.out; exact hk.elim (fun h => .inl (.inl h)) (fun h => h.1.elim (fun y => .inl (.inr y.1)) (fun y => .inr (by omega))))
     have hPk6 := blk_kept HPk4.out hK6 (fun z => by have hn := HNum.out; exact z.elim (fun h => by omega) (fun h => h.1.elim (fun y => by omega) (fun y => by omega)))
     obtain ⟨l6, m6, n6⟩ := HIn.out.kept hKw6
     have HNi := zaa.mk (show NextIn w0 w6 pl pm po pn Al cl cs n many (fun k => (((P k ∧ k < pa) ∨ pa < k) ∧ k < wr.heap.size) ∨ w4.heap.size ≤ k) L1 (.slice A5 L1.length c5) from ⟨hB6, l6, m6, n6, hO6, hR6, HIn.out.base, HIn.out.ne, hpo, hpl, hpm, hpn⟩)
     have HCall := zaa.mk (HIh.out L1 _ w6 _ (by rw [EL1.out]; have := HL.out; simp; omega) HNi.out)
     have HKw6 := zaa.mk hKw6
     have HPk6 := zaa.mk hPk6
     have HS6 := zaa.mk (show pa < w6.heap.size from zbp hPk6)
     have HS46 := zaa.mk (show w4.heap.size ≤ w6.heap.size from hK6.1)
     have hfn := n6
     clear hpo hpl hpm hpn hO6 hR6 hK6 hB6 hKw6 hPk6 l6 m6 n6 hf5 hc5
     clear HNi HO5 HR5 HB5 HK5
     have hst := HSt0.out
     rw [← EL1.out] at hst
     have y0 : (0 : Int) ≤ (L.length : Int) := by omega
     have y1 : (L.length : Int) ≤ (L1.length : Int) := by rw [EL1.out]; simp; omega
     have HY := zaa.mk (show L.length ≤ L1.length by omega)
     rcases hG : colG cs many f L1 with _ | r
     ·rw [hG] at hst HCall
      have HSt := zaa.mk (show colG cs many (f + 1) L = (List.range' (c + 1) q).findSome? fun (c : Nat) => if okC cs L (c : Int) = true then colG cs many f (L ++ [(c : Int)]) else none from hst)
      clear hst hG HSt0
      go_wp2_with (first
       | (go_at_call 103; refine HCall.out.mono ?_; rintro e w7 ⟨v7, rfl, hO7, hR7, hK7, hB7⟩; replace hR7 : Kd.R (Kd.int .i64) 3 w7 w0.heap.size (fun k => ((((P k ∧ k < pa) ∨ pa < k) ∧ k < wr.heap.size) ∨ w4.heap.size ≤ k) ∨ w6.heap.size ≤ k) v7 L1 := hR7; obtain ⟨A7, c7, e7, hc7, -⟩ := Kd.R_reads hR7; subst e7; have ho7 := zch hO7; have hf7 := zas hO7 0; have hpk7 := blk_kept HPk6.out hK7 (fun z => by have hn := HNum.out; exact z.elim (fun h => by omega) (fun h => h.elim (fun h => h.1.elim (fun y => by omega) (fun y => by omega)) (fun y => by omega))); have ha7 := zch hpk7; have y2 : L1.length ≤ c7 := hc7; have HPk7 := zaa.mk hpk7; have HO7 := zaa.mk hO7; have HR7 := zaa.mk hR7; have HK7 := zaa.mk hK7; have HB7 := zaa.mk hB7; clear hO7 hR7 hK7 hB7 hc7 hpk7))
      have hRt := Kd.R_take HR7.out HY.out
      rw [show L1.take L.length = L by rw [EL1.out]; simp] at hRt
      have hRf := Kd.R_far (p := ⟨po, 0, none⟩) hRt (fun k hk e => by have hn := HNum.out; have h6 := HS6.out; have hk' : ((((P k ∧ k < pa) ∨ pa < k) ∧ k < wr.heap.size) ∨ w4.heap.size ≤ k) ∨ w6.heap.size ≤ k := hk; have e' : k = po := e; exact hk'.elim (fun h => h.elim (fun h => h.1.elim (fun y => HIn.out.no.1 (e' ▸ y.1)) (fun y => by omega)) (fun y => by omega)) (fun y => by omega)) (.slice A7 L.length c7)
      have HRf := zaa.mk (Kd.R_mono hRf (ok' := fun k => (P k ∧ k < pa) ∨ pa < k) (fun k hk => by have hn := HNum.out; have h6 := HS6.out; exact hk.elim (fun h => h.elim (fun h => h.1) (fun y => .inr (by omega))) (fun y => .inr (by omega))))
      have HKf := zaa.mk (show Kept w (w7.setCell ⟨po, 0, none⟩ (.slice A7 L.length c7)) (fun k => k = po ∨ P k) from (HKw6.out.then_ HK7.out (fun k hk => by have hn := HNum.out; have ha := HPa.out; exact hk.elim (fun h => .inl (.inl h)) (fun h => h.elim (fun h => h.1.elim (fun y => .inl (.inr y.1)) (fun y => .inr (by omega))) (fun y => .inr (by omega))))).setCell (.inl (.inl rfl)) _)
      have HPf := zaa.mk (show (w7.setCell ⟨po, 0, none⟩ (.slice A7 L.length c7)).heap[pa]? = _ from (Below.heap_setCell w7 ⟨po, 0, none⟩ _ pa (by have hn := HNum.out; simp only; omega)).trans HPk7.out)
      have HOf := zaa.mk (set_one HO7.out (.slice A7 L.length c7))
      have HBf := zaa.mk (show Below w0.heap.size w0 (w7.setCell ⟨po, 0, none⟩ (.slice A7 L.length c7)) from zan HB7.out HIn.out.base)
      have HSf := zaa.mk (show w.heap.size ≤ (w7.setCell ⟨po, 0, none⟩ (.slice A7 L.length c7)).heap.size from HKf.out.1)
      clear hRt hRf
      go_roundg (many - (c + 1))
      case measure => have := HKc.out; omega
      case rel => exact ⟨c + 1, _, by first | rfl | (congr 1; omega), ⟨by have := HKc.out; omega⟩, ⟨by rw [← HQ.out]; exact HSt.out⟩, HOf, HRf, HPf, HKf, HBf, HSf⟩
     ·rw [hG] at hst HCall
      have HSt := zaa.mk (show colG cs many (f + 1) L = some r from hst)
      clear hst hG HSt0
      go_wp2_with (first
       | (go_at_call 103; refine HCall.out.mono ?_; rintro e w7 ⟨v7, rfl, hO7, hR7, hK7, hB7⟩; have HO7 := zaa.mk hO7; have HR7 := zaa.mk hR7; have HK7 := zaa.mk hK7; have HB7 := zaa.mk hB7; clear hO7 hR7 hK7 hB7))
      go_ret
      rw [HSt.out]
      exact ⟨v7, rfl, HO7.out, Kd.R_mono HR7.out (fun k hk => by have hn := HNum.out; have ha := HPa.out; have h6 := HS6.out; exact hk.elim (fun h => h.elim (fun h => h.1.elim (fun y => .inl y.1) (fun y => .inr (by omega))) (fun y => .inr (by omega))) (fun y => .inr (by omega))), HKw6.out.then_ HK7.out (fun k hk => by have hn := HNum.out; have ha := HPa.out; exact hk.elim (fun h => .inl (.inl h)) (fun h => h.elim (fun h => h.1.elim (fun y => .inl (.inr y.1)) (fun y => .inr (by omega))) (fun y => .inr (by omega)))), HB7.out⟩
   ·have hge : ¬ (c : Int) < (many : Int) := by omega
    have hst := HEq.out
    rw [show many - c = 0 by omega, List.range'_zero, List.findSome?_nil] at hst
    have HSt := zaa.mk hst
    clear hst HEq
    go_wp2
    go_ret
    rw [HSt.out]
    exact ⟨_, rfl, HO.out, Kd.R_mono HR.out (fun k hk => hk.elim (fun h => .inl h.1) (fun h => .inr (by have := HPa.out; omega))), HKp.out, HBl.out⟩
theorem colG_length (cs : List (List Int)) (many : Nat) : ∀ (f : Nat) (L r : List Int), colG cs many f L = some r → r.length = L.length + f
 | 0, L, r, h => by injection h with h; rw [← h]; rfl
 | f + 1, L, r, h => by
  unfold colG at h
  obtain ⟨c, -, h1⟩ := List.exists_of_findSome?_eq_some h
  split at h1
  ·have := colG_length cs many f _ r h1
   rw [this, List.length_append, List.length_singleton]
   omega
  ·cases h1
def ColRes (w : World) (r : Option (List Int)) (e : Ending) (w' : World) : Prop :=
 Below w.heap.size w w' ∧ match r with
  | none => e = .returned (.slice none 0 0)
  | some r => ∃ v, e = .returned v ∧ Kd.R (Kd.int .i64) 3 w' w.heap.size (fun _ => True) v r
set_option maxHeartbeats 4000000 in
set_option maxRecDepth 100000 in
theorem coloured_calls (cs : List (List Int)) (n many : Nat) (h9 : n ≤ 9) (hm : many ≤ 9) (w : World) (Al : Option Addr) (cl : Nat) (hl : (zcq cs n).length ≤ cl) (hC : (Kd.slice 3 (Kd.int .i64)).C w Al (zcq cs n).length (zcq cs n)) :
  Calls Try.prog 81 #[.slice Al (zcq cs n).length cl, .int .i64 (many : Int)] w (ColRes w (colG cs many n [])) := by
 have HNx := zaa.mk (fun pl pm po pn P v w1 => next_calls cs n many h9 hm w pl pm po pn Al cl hl hC n [] P w1 v (by simp))
 clear hl hC
 go_enter Try.func81, Try.ntmps81
 go_upto_region 1 with (first
  | ((with_reducible refine zaw (N := 2) rfl ?_); refine zby ?hg (N := 2) ?hd (cs := #[.slice Al (zcq cs n).length cl]) (t := 40) ?hr ?_; (case hd => rfl); (case hg => rfl); (case hr => first | (go_simp; done) | (go_simp; rfl)); intro pl hql w1 hbox hb; have HB1 := zaa.mk hb; have HL1 := zaa.mk hbox; have HQl := zaa.mk hql; clear hb hbox hql)
  | ((with_reducible refine zaw (N := 3) rfl ?_); refine zby ?hg (N := 3) ?hd (cs := #[.int .i64 (many : Int)]) (t := 3) ?hr ?_; (case hd => rfl); (case hg => rfl); (case hr => first | (go_simp; done) | (go_simp; rfl)); intro pm hqm w2 hbox hb; have HB2 := zaa.mk (zaf HB1.out hb); have HL2 := zaa.mk ((hb.block _ (zbp HL1.out)).trans HL1.out); have HM2 := zaa.mk hbox; have HQm := zaa.mk hqm; clear hb hbox hqm))
 go_upto_region 2 with (first
  | ((with_reducible refine zaw (N := 7) rfl ?_); refine Kd.R_lit (Kd.int .i64) _ 3 ?hg (N := 7) ?hd (xs := ([] : List Int)) (inner := []) (ok := fun _ => True) (okp := fun _ => True) ?hr ?hp (fun _ hk => hk) trivial (Below.refl _ _) (Nat.le_refl _) (by simp) ?_; (case hd => rfl); (case hg => rfl); (case hr => first | (go_simp; done) | (go_simp; rfl)); (case hp => exact (Reps.none _ _)); intro v7 w3 ho3 hb3 hg_ hnew_; clear hg_ hnew_; obtain ⟨A3, c3, e3⟩ := Kd.R_slice ho3; subst e3; have HO3 := zaa.mk ho3; have HB3 := zaa.mk (zaf HB2.out hb3); have HL3 := zaa.mk ((hb3.block _ (zbp HL2.out)).trans HL2.out); have HM3 := zaa.mk ((hb3.block _ (zbp HM2.out)).trans HM2.out); have HSz3 := zaa.mk hb3.size; clear hb3 ho3))
 have hb := zac (Below.refl w3.heap.size w3) (.cells #[.slice A3 0 c3] 24)
 have hk := heap_alloc_new w3 (.cells #[.slice A3 0 c3] 24)
 generalize w3.alloc (.cells #[.slice A3 0 c3] 24) = w4 at *
 obtain ⟨po, hpo⟩ : ∃ po, po = w3.heap.size := ⟨_, rfl⟩
 rw [← hpo] at hk ⊢
 have HQo := zaa.mk hpo
 have HB4 := zaa.mk (zaf HB3.out hb)
 have HL4 := zaa.mk ((hb.block _ (zbp HL3.out)).trans HL3.out)
 have HM4 := zaa.mk ((hb.block _ (zbp HM3.out)).trans HM3.out)
 have HR4 := zaa.mk (Kd.R_below (Kd.R_bound HO3.out) hb)
 have HO4 := zaa.mk hk
 clear hb hk hpo
 go_upto_region 3 with (fail)
 have hb := zac (Below.refl w4.heap.size w4) (.cells #[.nilFunc] 103)
 have hk := heap_alloc_new w4 (.cells #[.nilFunc] 103)
 generalize w4.alloc (.cells #[.nilFunc] 103) = w5 at *
 obtain ⟨pn, hpn⟩ : ∃ pn, pn = w4.heap.size := ⟨_, rfl⟩
 rw [← hpn] at hk ⊢
 have HQn := zaa.mk hpn
 have HB5 := zaa.mk (zaf HB4.out hb)
 have HL5 := zaa.mk ((hb.block _ (zbp HL4.out)).trans HL4.out)
 have HM5 := zaa.mk ((hb.block _ (zbp HM4.out)).trans HM4.out)
 have HO5 := zaa.mk ((hb.block _ (zbp HO4.out)).trans HO4.out)
 have HR5 := zaa.mk (Kd.R_below HR4.out hb)
 have HN5 := zaa.mk hk
 have hn5 := zch hk
 have hf5 := zas hk 0
 have HNum := zaa.mk (show w.heap.size ≤ pl ∧ pl < w2.heap.size ∧ pm < w2.heap.size ∧ w2.heap.size ≤ w3.heap.size ∧ po = w3.heap.size ∧ po < pn from ⟨by rw [HQl.out]; exact Nat.le_refl _, by have := HL2.out; exact zbp this, zbp HM2.out, HSz3.out, HQo.out, by rw [HQn.out]; exact zbp HO4.out⟩)
 clear hb hk hpn
 have hst : (store ⟨pn, 0, none⟩ (.func (.func 103) #[] #[.pointer (some ⟨po, 0, none⟩), .pointer (some ⟨pl, 0, none⟩), .pointer (some ⟨pm, 0, none⟩), .pointer (some ⟨pn, 0, none⟩)])).run Try.prog w5 = .ok () (w5.setCell ⟨pn, 0, none⟩ (.func (.func 103) #[] #[.pointer (some ⟨po, 0, none⟩), .pointer (some ⟨pl, 0, none⟩), .pointer (some ⟨pm, 0, none⟩), .pointer (some ⟨pn, 0, none⟩)])) := by
  rw [run_store _ _ _ _ _ rfl]
  go_simp
 go_upto_region 4 with (fail)
 clear hst
 have hO6 := (Below.heap_setCell w5 ⟨pn, 0, none⟩ (.func (.func 103) #[] #[.pointer (some ⟨po, 0, none⟩), .pointer (some ⟨pl, 0, none⟩), .pointer (some ⟨pm, 0, none⟩), .pointer (some ⟨pn, 0, none⟩)]) po (by have hn := HNum.out; simp only; omega)).trans HO5.out
 have hL6 := (Below.heap_setCell w5 ⟨pn, 0, none⟩ (.func (.func 103) #[] #[.pointer (some ⟨po, 0, none⟩), .pointer (some ⟨pl, 0, none⟩), .pointer (some ⟨pm, 0, none⟩), .pointer (some ⟨pn, 0, none⟩)]) pl (by have hn := HNum.out; simp only; omega)).trans HL5.out
 have hM6 := (Below.heap_setCell w5 ⟨pn, 0, none⟩ (.func (.func 103) #[] #[.pointer (some ⟨po, 0, none⟩), .pointer (some ⟨pl, 0, none⟩), .pointer (some ⟨pm, 0, none⟩), .pointer (some ⟨pn, 0, none⟩)]) pm (by have hn := HNum.out; simp only; omega)).trans HM5.out
 have hN6 := set_one HN5.out (.func (.func 103) #[] #[.pointer (some ⟨po, 0, none⟩), .pointer (some ⟨pl, 0, none⟩), .pointer (some ⟨pm, 0, none⟩), .pointer (some ⟨pn, 0, none⟩)])
 have hR6 := Kd.R_far (p := ⟨pn, 0, none⟩) HR5.out (fun k hk e => by have hn := HNum.out; have e' : k = pn := e; have := hk.2.2.1; omega) (.func (.func 103) #[] #[.pointer (some ⟨po, 0, none⟩), .pointer (some ⟨pl, 0, none⟩), .pointer (some ⟨pm, 0, none⟩), .pointer (some ⟨pn, 0, none⟩)])
 have hB6 : Below w.heap.size w (w5.setCell ⟨pn, 0, none⟩ (.func (.func 103) #[] #[.pointer (some ⟨po, 0, none⟩), .pointer (some ⟨pl, 0, none⟩), .pointer (some ⟨pm, 0, none⟩), .pointer (some ⟨pn, 0, none⟩)])) := zan HB5.out (by have hn := HNum.out; omega)
 generalize w5.setCell ⟨pn, 0, none⟩ (.func (.func 103) #[] #[.pointer (some ⟨po, 0, none⟩), .pointer (some ⟨pl, 0, none⟩), .pointer (some ⟨pm, 0, none⟩), .pointer (some ⟨pn, 0, none⟩)]) = w6 at *
 have HB6 := zaa.mk hB6
 have HCall := zaa.mk (HNx.out pl pm po pn (fun k => w2.heap.size ≤ k ∧ k < w3.heap.size) (.slice A3 0 c3) w6 ⟨hB6, zch hL6, zch hM6, zch hN6, hO6, Kd.R_lower (Kd.R_mono hR6 (fun k hk => ⟨hk.2.1, hk.2.2.1⟩)) (by have hn := HNum.out; omega), by have hn := HNum.out; omega, by have hn := HNum.out; exact ⟨by omega, by omega, by omega⟩, by have hn := HNum.out; exact ⟨by omega, by omega, by omega, by omega⟩⟩)
 have hfn := zch hN6
 clear hO6 hL6 hM6 hN6 hR6 hB6 hn5 hf5
 clear HNx
 generalize colG cs many n [] = res at *
 rcases res with _ | r
 ·go_wp2_with (first
   | (go_at_call 103; refine HCall.out.mono ?_; rintro e w7 ⟨v7, rfl, hO7, hR7, hK7, hB7⟩; have HB7 := zaa.mk hB7; clear hO7 hR7 hK7 hB7))
  go_ret
  exact ⟨HB7.out, rfl⟩
 ·go_wp2_with (first
   | (go_at_call 103; refine HCall.out.mono ?_; rintro e w7 ⟨v7, rfl, hO7, hR7, hK7, hB7⟩; have ho7 := zch hO7; have HR7 := zaa.mk hR7; have HB7 := zaa.mk hB7; clear hO7 hR7 hK7 hB7))
  go_ret
  exact ⟨HB7.out, _, rfl, Kd.R_mono HR7.out (fun _ _ => trivial)⟩
theorem neq_nil {P : Program} (w : World) (t e : TypeId) (a : Option Addr) (n c n' c' : Nat) (h : P.underlying t = some (.slice e)) : (binOp .neq t (.slice a n c) (.slice none n' c')).run P w = .ok (.bool (!a.isNone)) w := by
 simp only [binOp]
 simp [Op.equal, Op.maxDepth, Lib.run_equalIn_slice_nil w 9999 t e a n c n' c' h]
set_option maxHeartbeats 4000000 in
set_option maxRecDepth 100000 in
theorem NearFirst_calls (A0 : Option Addr) (c0 : Nat) (l0 : List ByteArray) (w : World) (hr0 : Kd.C Kd.string w A0 l0.length l0) (hc0 : l0.length ≤ c0) (hp : smallP l0) :
  Calls Try.prog 40 #[.slice A0 l0.length c0] w fun e w' => ∃ v0_ : Value, e = .returned (.tuple #[v0_, .bool (zcf l0).2]) ∧ Kd.R (Kd.int .i64) 3 w' w.heap.size (fun _ => True) v0_ (zcf l0).1 ∧ Below w.heap.size w w' := by
 have HR := zaa.mk hr0
 have HC := zaa.mk hc0
 have HP := zaa.mk hp
 clear hr0 hc0 hp
 rcases hF : floorF l0 with _ | ⟨cs, rs⟩
 ·have e : zcf l0 = ([], false) := by unfold zcf; rw [hF]
  rw [e]
  have HF := zaa.mk hF
  clear e hF
  go_enter Try.func40, Try.ntmps40
  go_wp2_with (first
   | (go_at_call 49; refine (floorOf_calls A0 c0 l0 _ HR.out HC.out HP.out).mono ?_; rw [HF.out]; rintro e w8 ⟨hb8, v8, b8, rfl, rfl⟩; have HB8 := zaa.mk hb8; clear hb8))
  go_ret2
  exact ⟨_, rfl, Kd.R_nil _ _ _ _ _, HB8.out⟩
 ·have e : zcf l0 = ((leastG cs rs.length 9 1).2, true) := by unfold zcf; rw [hF]
  rw [e]
  have HF := zaa.mk hF
  have hok := floorF_ok hF
  have HK := zaa.mk hok
  have h1 := rooms_some hok
  have h9 := hok.many
  clear e hF hok
  have q24 : ∀ (w : World) (a : Option Addr) (n c n' c' : Nat), (binOp .neq 24 (.slice a n c) (.slice none n' c')).run Try.prog w = .ok (.bool (!a.isNone)) w := fun w a n c n' c' => neq_nil w _ _ a n c n' c' Try.underlying24
  generalize hr : (leastG cs rs.length 9 1).2 = res
  have HRes := zaa.mk hr
  clear hr
  go_enter Try.func40, Try.ntmps40
  go_wp2_with (first
   | (go_at_call 49; refine (floorOf_calls A0 c0 l0 _ HR.out HC.out HP.out).mono ?_; rw [HF.out]; rintro e w8 ⟨hb8, v8, b8, rfl, rfl, g, rfl, hfl⟩; have HB8 := zaa.mk hb8; have HFl8 := zaa.mk hfl; clear hb8 hfl)
   | (go_at_call 80; refine (touching_calls g cs rs _ HFl8.out HK.out).mono ?_; rintro e w11 ⟨A11, c11, rfl, hl11, hC11, hb11⟩; have HB11 := zaa.mk (zaf HB8.out hb11); have HL11 := zaa.mk hl11; have HC11 := zaa.mk hC11; clear hb11 hl11 hC11))
  go_loopg [7] 10 (fun kq v7 w' => ∃ m : Nat, v7 = .int .i64 (m : Int) ∧ zaa (m + kq = 10 + 1) ∧ zaa (1 ≤ m ∧ m ≤ rs.length) ∧ zaa ((leastG cs rs.length (10 - m) m).2 = res) ∧ zaa (Below w.heap.size w w') ∧ zaa ((Kd.slice 3 (Kd.int .i64)).C w' A11 (zcq cs rs.length).length (zcq cs rs.length)))
  case atStart => exact ⟨1, rfl, ⟨by omega⟩, ⟨by omega, h1⟩, HRes, HB11, HC11⟩
  case round =>
   obtain ⟨m, rfl, HKq, HM, HEq, HB, HCm⟩ := hrel
   have hm1 := HM.out.1
   have hm2 := HM.out.2
   have y0 : (0 : Int) ≤ (m : Int) := by omega
   have y1 : (m : Int) ≤ 9 := by omega
   have HCl := zaa.mk (coloured_calls cs rs.length m h9 (by omega) wr A11 c11 HL11.out HCm.out)
   have hst := HEq.out
   rw [show 10 - m = (9 - m) + 1 by omega] at hst
   rcases hG : colG cs m rs.length [] with _ | r
   ·rw [hG] at HCl
    rw [leastG_none hG] at hst
    have hlt : m < rs.length := by
     rcases Nat.lt_or_ge m rs.length with h | h
     ·exact h
     ·obtain rfl : m = rs.length := by omega
      obtain ⟨r, hr⟩ := colG_all cs rs.length
      rw [hr] at hG
      cases hG
    have HSt := zaa.mk hst
    clear hst hG HEq
    go_wp2_with (first
     | (go_at_call 81; refine HCl.out.mono ?_; rintro e w12 ⟨hb12, rfl⟩; have HB12 := zaa.mk (zaf HB.out hb12); have HC12 := zaa.mk (Kd.C_below HCm.out hb12); clear hb12))
    go_roundg (10 - m)
    case measure => have := HKq.out; omega
    case rel => exact ⟨m + 1, by first | rfl | (congr 1; omega), ⟨by have := HKq.out; omega⟩, ⟨by omega, by omega⟩, ⟨by rw [show 10 - (m + 1) = 9 - m by omega]; exact HSt.out⟩, HB12, HC12⟩
   ·rw [hG] at HCl
    rw [leastG_some hG] at hst
    have hlen := colG_length cs m rs.length [] r hG
    have HSt := zaa.mk (show r = res from hst)
    have HLn := zaa.mk (show 0 < r.length by rw [hlen]; simp; omega)
    clear hst hG HEq hlen
    go_wp2_with (first
     | (go_at_call 81; refine HCl.out.mono ?_; rintro e w12 ⟨hb12, v12, rfl, hr12⟩; obtain ⟨ad12, c12, e12⟩ := Kd.R_slice1 hr12 HLn.out; subst e12; have HB12 := zaa.mk (zaf HB.out hb12); have HR12 := zaa.mk (Kd.R_lower hr12 HB.out.size); clear hb12 hr12))
    go_ret2
    rw [← HSt.out]
    exact ⟨_, rfl, HR12.out, HB12.out⟩
def impl_NearFirst.f (l0 : List ByteArray) : Option (List Int × Bool) := if smallB l0 = true then some (zcf l0) else none
theorem impl_NearFirst.calls (A0 : Option Addr) (c0 : Nat) (l0 : List ByteArray) (r1 : List Int) (r2 : Bool) (w : World) (hr0 : Kd.C Kd.string w A0 l0.length l0) (hc0 : l0.length ≤ c0) (h : impl_NearFirst.f l0 = some (r1, r2)) :
  Calls Try.prog 40 #[.slice A0 l0.length c0] w fun e w' => ∃ v0_ : Value, e = .returned (.tuple #[v0_, .bool r2]) ∧ Kd.R (Kd.int .i64) 3 w' w.heap.size (fun _ => True) v0_ r1 ∧ Below w.heap.size w w' := by
 unfold impl_NearFirst.f at h
 split at h
 ·rename_i hs
  have e := Option.some.inj h
  have := NearFirst_calls A0 c0 l0 w hr0 hc0 ((smallB_iff _).1 hs)
  rw [e] at this
  exact this
 ·cases h
theorem leastG_length (cs : List (List Int)) (n : Nat) : ∀ f m, (leastG cs n f m).2.length ≤ n
 | 0, m => Nat.zero_le _
 | f + 1, m => by
  rcases hG : colG cs m n [] with _ | r
  ·rw [leastG_none hG]
   exact leastG_length cs n f (m + 1)
  ·rw [leastG_some hG]
   have := colG_length cs m n [] r hG
   simp at this
   dsimp only
   omega
theorem firstF_len (p : List ByteArray) : (zcf p).1.length ≤ 9 := by
 unfold zcf
 rcases hF : floorF p with _ | ⟨cs, rs⟩
 ·simp
 ·have := leastG_length cs rs.length 9 1
  have := (floorF_ok hF).many
  dsimp only
  omega
end Go.Proofs.Ytickdcegnlldjaa.Hd
namespace Go.Proofs.Ytickdcegnlldjaa.LF
open Go.Proofs.Ytickdcegnlldjaa.PB Go.Proofs.Ytickdcegnlldjaa.Hd
open Go.RowKit Go.PW.PrintWords Go.PW.PrintLast Go.PW.PrintMore
attribute [local go_sem] zbx zbv zcb zca zbn zbm zbw zbu   -- for this text's walks alone
def errW : Option Int → Value
 | none => .nilIface
 | some c => .iface 0 (.int .i64 c)
theorem zaj : errW none = .nilIface := rfl
theorem zai (c : Int) : errW (some c) = .iface 0 (.int .i64 c) := rfl
theorem info3 : (Try.prog.info? 3).map (fun i => (i.zero, i.size, i.bytes)) = some (some (.int .i64 0), 1, 8) := by kernel_rfl
theorem info5 : (Try.prog.info? 5).map (fun i => (i.zero, i.size, i.bytes)) = some (some (.int .u8 0), 1, 1) := by kernel_rfl
theorem info9 : (Try.prog.info? 9).map (fun i => (i.zero, i.size, i.bytes)) = some (some (.string ⟨#[]⟩), 1, 16) := by kernel_rfl
theorem info72 : (Try.prog.info? 72).map (fun i => (i.zero, i.size, i.bytes)) = some (some (.agg #[(.bool false), (.int .i64 0), (.int .i64 0), (.int .i64 0)]), 4, 32) := by kernel_rfl
def zbk (xs : List (List Int)) (i : Int) : (List Int) := xs.getD i.toNat ([] : List Int)
theorem at_L3 {w : World} {A : Option Addr} {n : Nat} {xs : List (List Int)} (h : Kd.C (Kd.slice 3 (Kd.int .i64)) w A n xs) (i : Int) (h0 : 0 ≤ i) (h1 : i < n) : ∃ ad A0 c0, A = some ad ∧ w.cell? (ad.add i.toNat) = some (.slice A0 (zbk xs i).length c0) ∧ (zbk xs i).length ≤ c0 ∧ (Kd.int .i64).C w A0 (zbk xs i).length (zbk xs i) := by
 obtain ⟨ad, c, e, _, hK, hc0⟩ := Kd.C_get h ([] : List Int) i h0 h1
 have hc : ∀ j u, c[j]? = some u → w.cell? (ad.add (i.toNat * 1 + j)) = some u := hc0
 obtain ⟨A0, c0, rfl, l0, g0⟩ := hK
 exact ⟨ad, A0, c0, e, by have hq := hc 0 _ rfl; rwa [Nat.mul_one, Nat.add_zero] at hq, l0, g0⟩
structure S120 where
 f0 : Int
 f1 : Int
 f2 : Int
 f3 : Int
def z120 : S120 := ⟨(0 : Int), (0 : Int), (0 : Int), (0 : Int)⟩
def k120 : Kd S120 := Kd.iso (Kd.pair (Kd.int .i64) (Kd.pair (Kd.int .i64) (Kd.pair (Kd.int .i64) (Kd.int .i64)))) (fun x : S120 => (x.f0, x.f1, x.f2, x.f3))
theorem k120_open {w : World} {x : S120} {cs : List Value} (h : k120.K w x cs) : cs = [.int .i64 x.f0, .int .i64 x.f1, .int .i64 x.f2, .int .i64 x.f3] := by
 obtain ⟨_, _, rfl, rfl, ⟨_, _, rfl, rfl, ⟨_, _, rfl, rfl, rfl⟩⟩⟩ := h
 exact rfl
theorem k120_mkM (w : World) (base : Nat) (ok : Nat → Prop) (x : S120)  : k120.M w base ok x [.int .i64 x.f0, .int .i64 x.f1, .int .i64 x.f2, .int .i64 x.f3] := ⟨[.int .i64 x.f0], [.int .i64 x.f1, .int .i64 x.f2, .int .i64 x.f3], rfl, rfl, ⟨[.int .i64 x.f1], [.int .i64 x.f2, .int .i64 x.f3], rfl, rfl, ⟨[.int .i64 x.f2], [.int .i64 x.f3], rfl, rfl, rfl⟩⟩⟩
def rd_T120 (xs : List S120) (i : Int) : S120 := xs.getD i.toNat z120
theorem at_T120 {w : World} {A : Option Addr} {n : Nat} {xs : List S120} (h : Kd.C k120 w A n xs) (i : Int) (h0 : 0 ≤ i) (h1 : i < n) : ∃ ad , A = some ad ∧ w.cell? (ad.add (i.toNat * 4)) = some (.int .i64 (rd_T120 xs i).f0) ∧ w.cell? ⟨(ad.add (i.toNat * 4)).block, (ad.add (i.toNat * 4)).off + 1, none⟩ = some (.int .i64 (rd_T120 xs i).f1) ∧ w.cell? ⟨(ad.add (i.toNat * 4)).block, (ad.add (i.toNat * 4)).off + 2, none⟩ = some (.int .i64 (rd_T120 xs i).f2) ∧ w.cell? ⟨(ad.add (i.toNat * 4)).block, (ad.add (i.toNat * 4)).off + 3, none⟩ = some (.int .i64 (rd_T120 xs i).f3) := by
 obtain ⟨ad, c, e, _, hK, hc0⟩ := Kd.C_get h z120 i h0 h1
 have hc : ∀ j u, c[j]? = some u → w.cell? (ad.add (i.toNat * 4 + j)) = some u := hc0
 obtain rfl := k120_open hK
 exact ⟨ad, e, hc 0 _ rfl, by rw [← zco _ _ 1 (by omega)]; exact hc 1 _ rfl, by rw [← zco _ _ 2 (by omega)]; exact hc 2 _ rfl, by rw [← zco _ _ 3 (by omega)]; exact hc 3 _ rfl⟩
structure S72 where
 f0 : Bool
 f1 : Int
 f2 : Int
 f3 : Int
def z72 : S72 := ⟨false, (0 : Int), (0 : Int), (0 : Int)⟩
def k72 : Kd S72 := Kd.iso (Kd.pair Kd.bool (Kd.pair (Kd.int .i64) (Kd.pair (Kd.int .i64) (Kd.int .i64)))) (fun x : S72 => (x.f0, x.f1, x.f2, x.f3))
theorem k72_open {w : World} {x : S72} {cs : List Value} (h : k72.K w x cs) : cs = [.bool x.f0, .int .i64 x.f1, .int .i64 x.f2, .int .i64 x.f3] := by
 obtain ⟨_, _, rfl, rfl, ⟨_, _, rfl, rfl, ⟨_, _, rfl, rfl, rfl⟩⟩⟩ := h
 exact rfl
theorem k72_openM {w : World} {base : Nat} {ok : Nat → Prop} {x : S72} {cs : List Value} (h : k72.M w base ok x cs) : cs = [.bool x.f0, .int .i64 x.f1, .int .i64 x.f2, .int .i64 x.f3] := by
 obtain ⟨_, _, rfl, rfl, ⟨_, _, rfl, rfl, ⟨_, _, rfl, rfl, rfl⟩⟩⟩ := h
 exact rfl
theorem k72_mkM (w : World) (base : Nat) (ok : Nat → Prop) (x : S72)  : k72.M w base ok x [.bool x.f0, .int .i64 x.f1, .int .i64 x.f2, .int .i64 x.f3] := ⟨[.bool x.f0], [.int .i64 x.f1, .int .i64 x.f2, .int .i64 x.f3], rfl, rfl, ⟨[.int .i64 x.f1], [.int .i64 x.f2, .int .i64 x.f3], rfl, rfl, ⟨[.int .i64 x.f2], [.int .i64 x.f3], rfl, rfl, rfl⟩⟩⟩
def zbq (xs : List S72) (i : Int) : S72 := xs.getD i.toNat z72
theorem at_T72 {w : World} {A : Option Addr} {n : Nat} {xs : List S72} (h : Kd.C k72 w A n xs) (i : Int) (h0 : 0 ≤ i) (h1 : i < n) : ∃ ad , A = some ad ∧ w.cell? (ad.add (i.toNat * 4)) = some (.bool (zbq xs i).f0) ∧ w.cell? ⟨(ad.add (i.toNat * 4)).block, (ad.add (i.toNat * 4)).off + 1, none⟩ = some (.int .i64 (zbq xs i).f1) ∧ w.cell? ⟨(ad.add (i.toNat * 4)).block, (ad.add (i.toNat * 4)).off + 2, none⟩ = some (.int .i64 (zbq xs i).f2) ∧ w.cell? ⟨(ad.add (i.toNat * 4)).block, (ad.add (i.toNat * 4)).off + 3, none⟩ = some (.int .i64 (zbq xs i).f3) := by
 obtain ⟨ad, c, e, _, hK, hc0⟩ := Kd.C_get h z72 i h0 h1
 have hc : ∀ j u, c[j]? = some u → w.cell? (ad.add (i.toNat * 4 + j)) = some u := hc0
 obtain rfl := k72_open hK
 exact ⟨ad, e, hc 0 _ rfl, by rw [← zco _ _ 1 (by omega)]; exact hc 1 _ rfl, by rw [← zco _ _ 2 (by omega)]; exact hc 2 _ rfl, by rw [← zco _ _ 3 (by omega)]; exact hc 3 _ rfl⟩
end Go.Proofs.Ytickdcegnlldjaa.LF
namespace Go.Proofs.Ytickdcegnlldjaa.LF
open Go.Proofs.Ytickdcegnlldjaa.PB Go.Proofs.Ytickdcegnlldjaa.Hd
open Go.RowKit Go.PW.PrintWords Go.PW.PrintLast Go.PW.PrintMore
attribute [local go_sem] zbx zbv zcb zca zbn zbm zbw zbu   -- for this text's walks alone
mutual
def laws_FnExactNearFirst.j0 : Nat → List ByteArray → List Int → Bool → List ByteArray → List Int → Bool → Bool → Option (Bool)
 | 0, _, _, _, _, _, _, _ => none
 | k + 1, x0, x4, x5, x6, x7, x8, x40 => if x40 = true then (some false) else ((laws_toStringS.f k x0).bind fun t292 => ((laws_eqStringS.f k x6 t292).bind fun t295 => (if t295 = true then ((laws_markStringS.f k x6 1).bind fun bt296 => (if bt296.1 < 0 then (laws_FnExactNearFirst.j1 k x0 x4 x5 x7 true) else ((laws_eqIntS.f k x7 x4).bind fun t298 => (if t298 = true then (laws_FnExactNearFirst.j1 k x0 x4 x5 x7 (x8 != x5)) else (laws_FnExactNearFirst.j1 k x0 x4 x5 x7 true))))) else (some false))))
def laws_FnExactNearFirst.j1 : Nat → List ByteArray → List Int → Bool → List Int → Bool → Option (Bool)
 | 0, _, _, _, _, _ => none
 | k + 1, x0, x4, x5, x7, x61 => if x61 = true then (some false) else ((laws_markIntS.f k x7 1).bind fun bt299 => ((laws_heldIntS.f k bt299.2 1).bind fun t301 => (if t301 < 0 then (some false) else (if t301 = bt299.1 then ((laws_toStringS.f k x0).bind fun t302 => ((impl_NearFirst.f t302).bind fun bt305 => ((laws_eqIntS.f k bt305.1 x4).bind fun t309 => (if t309 = true then (laws_FnExactNearFirst.j2 k bt299.2 bt299.1 (bt305.2 != x5)) else (laws_FnExactNearFirst.j2 k bt299.2 bt299.1 true))))) else (some false)))))
def laws_FnExactNearFirst.j2 : Nat → List Int → Int → Bool → Option (Bool)
 | 0, _, _, _ => none
 | k + 1, x7, x10, x87 => if x87 = true then (some false) else ((laws_heldIntS.f k x7 1).bind fun t310 => (if t310 < 0 then (some false) else (if t310 = x10 then (some true) else (some false))))
end
def laws_FnExactNearFirst.f (k : Nat) (l0 : List ByteArray) : Option (Bool) := (laws_szStringS.f k l0 1048576).bind fun t276 => (if t276 < 0 then (some true) else ((laws_toStringS.f k l0).bind fun t277 => ((spec_NearFirst.f k t277).bind fun bt280 => ((laws_toStringS.f k l0).bind fun t284 => ((impl_NearFirst.f t284).bind fun bt287 => ((laws_eqIntS.f k bt287.1 bt280.1).bind fun t291 => (if t291 = true then (laws_FnExactNearFirst.j0 k l0 bt280.1 bt280.2 t284 bt287.1 bt287.2 (bt287.2 != bt280.2)) else (laws_FnExactNearFirst.j0 k l0 bt280.1 bt280.2 t284 bt287.1 bt287.2 true))))))))
set_option maxHeartbeats 8000000 in
set_option maxRecDepth 100000 in
theorem laws_FnExactNearFirst.calls (k : Nat) (A0 : Option Addr) (c0 : Nat) (l0 : List ByteArray) (r : Bool) (w : World) (hr0 : Kd.C Kd.string w A0 l0.length l0) (hc0 : l0.length ≤ c0) (h : laws_FnExactNearFirst.f k l0 = some r) :
  Calls Try.prog 9 #[.slice A0 l0.length c0] w fun e w' => e = .returned (.bool r) ∧ Below w.heap.size w w' := by
 have HR0 := zaa.mk hr0
 have HC0 := zaa.mk hc0
 clear hr0 hc0
 have HB := zaa.mk (Below.refl w.heap.size w)
 have H : ((laws_szStringS.f k l0 1048576).bind fun t276 => (if t276 < 0 then (some true) else ((laws_toStringS.f k l0).bind fun t277 => ((spec_NearFirst.f k t277).bind fun bt280 => ((laws_toStringS.f k l0).bind fun t284 => ((impl_NearFirst.f t284).bind fun bt287 => ((laws_eqIntS.f k bt287.1 bt280.1).bind fun t291 => (if t291 = true then (laws_FnExactNearFirst.j0 k l0 bt280.1 bt280.2 t284 bt287.1 bt287.2 (bt287.2 != bt280.2)) else (laws_FnExactNearFirst.j0 k l0 bt280.1 bt280.2 t284 bt287.1 bt287.2 true))))))))) = some r := h
 clear h
 replace H := Option.bind_eq_some_iff.mp H
 obtain ⟨t276, A20, H⟩ := H
 replace H : (if t276 < 0 then (some true) else ((laws_toStringS.f k l0).bind fun t277 => ((spec_NearFirst.f k t277).bind fun bt280 => ((laws_toStringS.f k l0).bind fun t284 => ((impl_NearFirst.f t284).bind fun bt287 => ((laws_eqIntS.f k bt287.1 bt280.1).bind fun t291 => (if t291 = true then (laws_FnExactNearFirst.j0 k l0 bt280.1 bt280.2 t284 bt287.1 bt287.2 (bt287.2 != bt280.2)) else (laws_FnExactNearFirst.j0 k l0 bt280.1 bt280.2 t284 bt287.1 bt287.2 true)))))))) = some r := H
 have A2 := zaa.mk A20
 clear A20
 by_cases c3 : t276 < 0
 ·rw [if_pos c3] at H
  have c3b0 : decide (t276 < 0) = true := decide_eq_true c3
  clear c3
  obtain rfl := Option.some.inj H
  go_enter Try.func9, Try.ntmps9
  go_wp2_with (first | ((with_reducible refine zal (f := 12) rfl ?_); refine zbl (some 16) rfl rfl Try.func12 (by kernel_rfl) rfl #[.slice A0 l0.length c0, .int .i64 1048576] rfl (by (try simp only [List.map_toArray, List.map_cons, List.map_nil]); first | done | rfl | (simp only [List.length_drop, List.length_take]; rfl)) ?_; (with_reducible refine (laws_szStringS.calls k _ _ l0 1048576 t276 _ ?side1 ?side2 A2.out).mono ?_); (case side1 => repeat (first | exact HR0.out | (with_reducible refine Kd.C_alloc ?_ _) | (with_reducible refine Kd.C_drewN ?_ _) | (with_reducible refine Kd.C_drew ?_))); (case side2 => exact HC0.out); rintro e w' ⟨rfl, ⟨nd, rfl⟩⟩; refine ⟨_, rfl, ?_⟩))
  go_ret
  exact ⟨by first | rfl | (simp [zaj, zai] <;> rfl) | (simp [*, zaj, zai] <;> rfl), by repeat (first | (with_reducible first | exact HB.out | apply zac | apply zab | apply zad) | exact HB.out)⟩
 ·rw [if_neg c3] at H
  have c3b0 : decide (t276 < 0) = false := decide_eq_false c3
  clear c3
  replace H := Option.bind_eq_some_iff.mp H
  obtain ⟨t277, A40, H⟩ := H
  replace H : ((spec_NearFirst.f k t277).bind fun bt280 => ((laws_toStringS.f k l0).bind fun t284 => ((impl_NearFirst.f t284).bind fun bt287 => ((laws_eqIntS.f k bt287.1 bt280.1).bind fun t291 => (if t291 = true then (laws_FnExactNearFirst.j0 k l0 bt280.1 bt280.2 t284 bt287.1 bt287.2 (bt287.2 != bt280.2)) else (laws_FnExactNearFirst.j0 k l0 bt280.1 bt280.2 t284 bt287.1 bt287.2 true)))))) = some r := H
  have A4 := zaa.mk A40
  clear A40
  replace H := Option.bind_eq_some_iff.mp H
  obtain ⟨⟨t280, t281⟩, A50, H⟩ := H
  replace H : ((laws_toStringS.f k l0).bind fun t284 => ((impl_NearFirst.f t284).bind fun bt287 => ((laws_eqIntS.f k bt287.1 t280).bind fun t291 => (if t291 = true then (laws_FnExactNearFirst.j0 k l0 t280 t281 t284 bt287.1 bt287.2 (bt287.2 != t281)) else (laws_FnExactNearFirst.j0 k l0 t280 t281 t284 bt287.1 bt287.2 true))))) = some r := H
  have A5 := zaa.mk A50
  clear A50
  replace H := Option.bind_eq_some_iff.mp H
  obtain ⟨t284, A60, H⟩ := H
  replace H : ((impl_NearFirst.f t284).bind fun bt287 => ((laws_eqIntS.f k bt287.1 t280).bind fun t291 => (if t291 = true then (laws_FnExactNearFirst.j0 k l0 t280 t281 t284 bt287.1 bt287.2 (bt287.2 != t281)) else (laws_FnExactNearFirst.j0 k l0 t280 t281 t284 bt287.1 bt287.2 true)))) = some r := H
  have A6 := zaa.mk A60
  clear A60
  replace H := Option.bind_eq_some_iff.mp H
  obtain ⟨⟨t287, t288⟩, A70, H⟩ := H
  replace H : ((laws_eqIntS.f k t287 t280).bind fun t291 => (if t291 = true then (laws_FnExactNearFirst.j0 k l0 t280 t281 t284 t287 t288 (t288 != t281)) else (laws_FnExactNearFirst.j0 k l0 t280 t281 t284 t287 t288 true))) = some r := H
  have A7 := zaa.mk A70
  clear A70
  have HC8 := zaa.mk H
  clear H
  go_enter Try.func9, Try.ntmps9
  go_upto_region 8 with (first | ((with_reducible refine zal (f := 12) rfl ?_); refine zbl (some 16) rfl rfl Try.func12 (by kernel_rfl) rfl #[.slice A0 l0.length c0, .int .i64 1048576] rfl (by (try simp only [List.map_toArray, List.map_cons, List.map_nil]); first | done | rfl | (simp only [List.length_drop, List.length_take]; rfl)) ?_; (with_reducible refine (laws_szStringS.calls k _ _ l0 1048576 t276 _ ?side1 ?side2 A2.out).mono ?_); (case side1 => repeat (first | exact HR0.out | (with_reducible refine Kd.C_alloc ?_ _) | (with_reducible refine Kd.C_drewN ?_ _) | (with_reducible refine Kd.C_drew ?_))); (case side2 => exact HC0.out); rintro e w' ⟨rfl, ⟨nd, rfl⟩⟩; refine ⟨_, rfl, ?_⟩) | ((with_reducible refine zal (f := 14) rfl ?_); refine zbl (some 21) rfl rfl Try.func14 (by kernel_rfl) rfl #[.slice A0 l0.length c0] rfl (by (try simp only [List.map_toArray, List.map_cons, List.map_nil]); first | done | rfl | (simp only [List.length_drop, List.length_take]; rfl)) ?_; (with_reducible refine (laws_toStringS.calls k _ _ l0 t277 _ ?side1 ?side2 A4.out).mono ?_); (case side1 => repeat (first | exact HR0.out | (with_reducible refine Kd.C_alloc ?_ _) | (with_reducible refine Kd.C_drewN ?_ _) | (with_reducible refine Kd.C_drew ?_))); (case side2 => exact HC0.out); rintro e w9 ⟨v278, rfl, ho0, hb⟩; refine ⟨_, rfl, ?_⟩; have n0_ := zaa.mk (Kd.R_lower ho0 (zah (by repeat (first | (with_reducible first | exact HB.out | apply zac | apply zab | apply zad) | exact HB.out)))); have n1_ := zaa.mk (zaf (by repeat (first | (with_reducible first | exact HB.out | apply zac | apply zab | apply zad) | exact HB.out)) hb); clear HB; have HO279 := n0_; have HB := n1_; clear n0_ n1_; (try clear hb); (try clear hb2); (try clear hk); (try clear hi); (try clear ho0); obtain ⟨Ao10, co10, eo10⟩ := Kd.R_slice HO279.out; subst eo10) | ((with_reducible refine zal (f := 39) rfl ?_); refine zbl (some 22) rfl rfl Try.func39 (by kernel_rfl) rfl #[.slice Ao10 t277.length co10] rfl (by (try simp only [List.map_toArray, List.map_cons, List.map_nil]); first | done | rfl | (simp only [List.length_drop, List.length_take]; rfl)) ?_; (with_reducible refine (spec_NearFirst.calls k _ _ t277 t280 t281 _ ?side1 ?side2 A5.out).mono ?_); (case side1 => repeat (first | exact (Kd.R_reads' HO279.out).2.2 | (with_reducible refine Kd.C_alloc ?_ _) | (with_reducible refine Kd.C_drewN ?_ _) | (with_reducible refine Kd.C_drew ?_))); (case side2 => exact (Kd.R_reads' HO279.out).2.1); rintro e w11 ⟨v282, rfl, ho0, hb⟩; refine ⟨_, rfl, ?_⟩; have n0_ := zaa.mk (Kd.R_below (by (with_reducible repeat (first | apply Kd.R_alloc | apply Kd.R_drewN | apply Kd.R_drew)); exact HO279.out) hb); have n1_ := zaa.mk (Kd.R_lower ho0 (zah (by repeat (first | (with_reducible first | exact HB.out | apply zac | apply zab | apply zad) | exact HB.out)))); have n2_ := zaa.mk (zaf (by repeat (first | (with_reducible first | exact HB.out | apply zac | apply zab | apply zad) | exact HB.out)) hb); clear HO279; clear HB; have HO279 := n0_; have HO283 := n1_; have HB := n2_; clear n0_ n1_ n2_; (try clear hb); (try clear hb2); (try clear hk); (try clear hi); (try clear ho0)) | ((with_reducible refine zal (f := 14) rfl ?_); refine zbl (some 26) rfl rfl Try.func14 (by kernel_rfl) rfl #[.slice A0 l0.length c0] rfl (by (try simp only [List.map_toArray, List.map_cons, List.map_nil]); first | done | rfl | (simp only [List.length_drop, List.length_take]; rfl)) ?_; (with_reducible refine (laws_toStringS.calls k _ _ l0 t284 _ ?side1 ?side2 A6.out).mono ?_); (case side1 => repeat (first | exact (Kd.C_below HR0.out HB.out) | (with_reducible refine Kd.C_alloc ?_ _) | (with_reducible refine Kd.C_drewN ?_ _) | (with_reducible refine Kd.C_drew ?_))); (case side2 => exact HC0.out); rintro e w12 ⟨v285, rfl, ho0, hb⟩; refine ⟨_, rfl, ?_⟩; have n0_ := zaa.mk (Kd.R_elder' (by (with_reducible repeat (first | apply Kd.R_alloc | apply Kd.R_drewN | apply Kd.R_drew)); exact HO279.out) (Kd.R_base ho0) hb); have n1_ := zaa.mk (Kd.R_below (by (with_reducible repeat (first | apply Kd.R_alloc | apply Kd.R_drewN | apply Kd.R_drew)); exact HO283.out) hb); have n2_ := zaa.mk (Kd.R_lower (Kd.R_new' ho0 (Kd.R_lt (by (with_reducible repeat (first | apply Kd.R_alloc | apply Kd.R_drewN | apply Kd.R_drew)); exact HO279.out))) (zah (by repeat (first | (with_reducible first | exact HB.out | apply zac | apply zab | apply zad) | exact HB.out)))); have n3_ := zaa.mk (zaf (by repeat (first | (with_reducible first | exact HB.out | apply zac | apply zab | apply zad) | exact HB.out)) hb); clear HO279; clear HO283; clear HB; have HO279 := n0_; have HO283 := n1_; have HO286 := n2_; have HB := n3_; clear n0_ n1_ n2_ n3_; (try clear hb); (try clear hb2); (try clear hk); (try clear hi); (try clear ho0); obtain ⟨Ao13, co13, eo13⟩ := Kd.R_slice HO286.out; subst eo13) | ((with_reducible refine zal (f := 40) rfl ?_); refine zbl (some 29) rfl rfl Try.func40 (by kernel_rfl) rfl #[.slice Ao13 t284.length co13] rfl (by (try simp only [List.map_toArray, List.map_cons, List.map_nil]); first | done | rfl | (simp only [List.length_drop, List.length_take]; rfl)) ?_; (with_reducible refine (impl_NearFirst.calls _ _ t284 t287 t288 _ ?side1 ?side2 A7.out).mono ?_); (case side1 => repeat (first | exact (Kd.R_reads' HO286.out).2.2 | (with_reducible refine Kd.C_alloc ?_ _) | (with_reducible refine Kd.C_drewN ?_ _) | (with_reducible refine Kd.C_drew ?_))); (case side2 => exact (Kd.R_reads' HO286.out).2.1); rintro e w14 ⟨v289, rfl, ho0, hb⟩; refine ⟨_, rfl, ?_⟩; have n0_ := zaa.mk (Kd.R_below (by (with_reducible repeat (first | apply Kd.R_alloc | apply Kd.R_drewN | apply Kd.R_drew)); exact HO279.out) hb); have n1_ := zaa.mk (Kd.R_elder' (by (with_reducible repeat (first | apply Kd.R_alloc | apply Kd.R_drewN | apply Kd.R_drew)); exact HO283.out) (Kd.R_base ho0) hb); have n2_ := zaa.mk (Kd.R_below (by (with_reducible repeat (first | apply Kd.R_alloc | apply Kd.R_drewN | apply Kd.R_drew)); exact HO286.out) hb); have n3_ := zaa.mk (Kd.R_lower (Kd.R_new' ho0 (Kd.R_lt (by (with_reducible repeat (first | apply Kd.R_alloc | apply Kd.R_drewN | apply Kd.R_drew)); exact HO283.out))) (zah (by repeat (first | (with_reducible first | exact HB.out | apply zac | apply zab | apply zad) | exact HB.out)))); have n4_ := zaa.mk (zaf (by repeat (first | (with_reducible first | exact HB.out | apply zac | apply zab | apply zad) | exact HB.out)) hb); clear HO279; clear HO283; clear HO286; clear HB; have HO279 := n0_; have HO283 := n1_; have HO286 := n2_; have HO290 := n3_; have HB := n4_; clear n0_ n1_ n2_ n3_ n4_; (try clear hb); (try clear hb2); (try clear hk); (try clear hi); (try clear ho0)))
  (try simp only [Act.put, List.setIfInBounds_toArray, List.set_cons_zero, List.set_cons_succ])
  go_cut [40] (fun v40 wc => ∃ (kq : Nat) (x40_7 : Bool), v40 = .bool x40_7 ∧ zaa (laws_FnExactNearFirst.j0 kq l0 t280 t281 t284 t287 t288 x40_7 = some r) ∧ zaa (kq ≤ k) ∧ zaa (Kd.R (Kd.int .i64) 3 wc w.heap.size (fun k_ => some k_ ≠ (v289 : Value).ownBlock) v282 t280) ∧ zaa (Kd.R Kd.string 9 wc w.heap.size (fun _ => True) (.slice Ao13 t284.length co13) t284) ∧ zaa (Kd.R (Kd.int .i64) 3 wc w.heap.size (fun k_ => some k_ ≠ (v282 : Value).ownBlock) v289 t287) ∧ zaa (Below w.heap.size w wc))
  case first =>
   have H := HC8.out
   clear HC8
   replace H := Option.bind_eq_some_iff.mp H
   obtain ⟨t291, A150, H⟩ := H
   replace H : (if t291 = true then (laws_FnExactNearFirst.j0 k l0 t280 t281 t284 t287 t288 (t288 != t281)) else (laws_FnExactNearFirst.j0 k l0 t280 t281 t284 t287 t288 true)) = some r := H
   have A15 := zaa.mk A150
   clear A150
   by_cases c16 : t291 = true
   ·subst c16
    have H1 : (laws_FnExactNearFirst.j0 k l0 t280 t281 t284 t287 t288 (t288 != t281)) = some r := by rw [if_pos rfl] at H; exact H
    clear H
    have H := H1
    clear H1
    have H' := zaa.mk H
    clear H
    obtain ⟨Ao17, co17, eo17⟩ := Kd.R_slice HO290.out
    subst eo17
    obtain ⟨Ao18, co18, eo18⟩ := Kd.R_slice HO283.out
    subst eo18
    go_wp2_with (first | ((with_reducible refine zal (f := 16) rfl ?_); refine zbl (some 34) rfl rfl Try.func16 (by kernel_rfl) rfl #[.slice Ao17 t287.length co17, .slice Ao18 t280.length co18] rfl (by (try simp only [List.map_toArray, List.map_cons, List.map_nil]); first | done | rfl | (simp only [List.length_drop, List.length_take]; rfl)) ?_; (with_reducible refine (laws_eqIntS.calls k _ _ t287 _ _ t280 true _ ?side1 ?side2 ?side3 ?side4 A15.out).mono ?_); (case side1 => repeat (first | exact (Kd.R_reads' HO290.out).2.2 | (with_reducible refine Kd.C_alloc ?_ _) | (with_reducible refine Kd.C_drewN ?_ _) | (with_reducible refine Kd.C_drew ?_))); (case side2 => exact (Kd.R_reads' HO290.out).2.1); (case side3 => repeat (first | exact (Kd.R_reads' HO283.out).2.2 | (with_reducible refine Kd.C_alloc ?_ _) | (with_reducible refine Kd.C_drewN ?_ _) | (with_reducible refine Kd.C_drew ?_))); (case side4 => exact (Kd.R_reads' HO283.out).2.1); rintro e w' ⟨rfl, ⟨nd, rfl⟩⟩; refine ⟨_, rfl, ?_⟩))
    go_meet
    case rel => exact ⟨_, ((t288 != t281)), (by first | rfl | (simp; done) | (simp [*]; done)), H', ⟨by first | omega | exact Nat.le_refl _⟩, ⟨by (with_reducible repeat (first | apply Kd.R_alloc | apply Kd.R_drewN | apply Kd.R_drew)); exact Kd.R_mono HO283.out (fun _ hk => hk.2)⟩, ⟨by (with_reducible repeat (first | apply Kd.R_alloc | apply Kd.R_drewN | apply Kd.R_drew)); exact Kd.R_mono HO286.out (fun _ hk => trivial)⟩, ⟨by (with_reducible repeat (first | apply Kd.R_alloc | apply Kd.R_drewN | apply Kd.R_drew)); exact Kd.R_mono HO290.out (fun _ hk => hk.2)⟩, ⟨by repeat (first | (with_reducible first | exact HB.out | apply zac | apply zab | apply zad) | exact HB.out)⟩⟩
   ·replace c16 := Bool.eq_false_iff.mpr c16
    subst c16
    have H1 : (laws_FnExactNearFirst.j0 k l0 t280 t281 t284 t287 t288 true) = some r := by rw [if_neg (show ¬ (false = true) by decide)] at H; exact H
    clear H
    have H := H1
    clear H1
    have H' := zaa.mk H
    clear H
    obtain ⟨Ao19, co19, eo19⟩ := Kd.R_slice HO290.out
    subst eo19
    obtain ⟨Ao20, co20, eo20⟩ := Kd.R_slice HO283.out
    subst eo20
    go_wp2_with (first | ((with_reducible refine zal (f := 16) rfl ?_); refine zbl (some 34) rfl rfl Try.func16 (by kernel_rfl) rfl #[.slice Ao19 t287.length co19, .slice Ao20 t280.length co20] rfl (by (try simp only [List.map_toArray, List.map_cons, List.map_nil]); first | done | rfl | (simp only [List.length_drop, List.length_take]; rfl)) ?_; (with_reducible refine (laws_eqIntS.calls k _ _ t287 _ _ t280 false _ ?side1 ?side2 ?side3 ?side4 A15.out).mono ?_); (case side1 => repeat (first | exact (Kd.R_reads' HO290.out).2.2 | (with_reducible refine Kd.C_alloc ?_ _) | (with_reducible refine Kd.C_drewN ?_ _) | (with_reducible refine Kd.C_drew ?_))); (case side2 => exact (Kd.R_reads' HO290.out).2.1); (case side3 => repeat (first | exact (Kd.R_reads' HO283.out).2.2 | (with_reducible refine Kd.C_alloc ?_ _) | (with_reducible refine Kd.C_drewN ?_ _) | (with_reducible refine Kd.C_drew ?_))); (case side4 => exact (Kd.R_reads' HO283.out).2.1); rintro e w' ⟨rfl, ⟨nd, rfl⟩⟩; refine ⟨_, rfl, ?_⟩))
    go_meet
    case rel => exact ⟨_, (true), (by first | rfl | (simp; done) | (simp [*]; done)), H', ⟨by first | omega | exact Nat.le_refl _⟩, ⟨by (with_reducible repeat (first | apply Kd.R_alloc | apply Kd.R_drewN | apply Kd.R_drew)); exact Kd.R_mono HO283.out (fun _ hk => hk.2)⟩, ⟨by (with_reducible repeat (first | apply Kd.R_alloc | apply Kd.R_drewN | apply Kd.R_drew)); exact Kd.R_mono HO286.out (fun _ hk => trivial)⟩, ⟨by (with_reducible repeat (first | apply Kd.R_alloc | apply Kd.R_drewN | apply Kd.R_drew)); exact Kd.R_mono HO290.out (fun _ hk => hk.2)⟩, ⟨by repeat (first | (with_reducible first | exact HB.out | apply zac | apply zab | apply zad) | exact HB.out)⟩⟩
  case rest =>
   clear HC8
   try clear c1
   try clear p2
   try clear c3
   try clear c3b0
   try clear c4
   try clear c9
   try clear c12
   try clear c14
   try clear c16
   obtain ⟨kq, x40_7, rfl, HA, HJ7, HO_4, HO_6, HO_7, HB⟩ := hcut
   cases kq with
   | zero => exact absurd HA.out (by simp [laws_FnExactNearFirst.j0])
   | succ kj7 =>
    have H := HA.out
    clear HA
    simp only [laws_FnExactNearFirst.j0] at H
    by_cases c21 : x40_7 = true
    ·subst c21
     have H1 : (some false) = some r := by rw [if_pos rfl] at H; exact H
     clear H
     have H := H1
     clear H1
     obtain rfl := Option.some.inj H
     go_wp2
     go_ret
     exact ⟨by first | rfl | (simp [zaj, zai] <;> rfl) | (simp [*, zaj, zai] <;> rfl), by repeat (first | (with_reducible first | exact HB.out | apply zac | apply zab | apply zad) | exact HB.out)⟩
    ·replace c21 := Bool.eq_false_iff.mpr c21
     subst c21
     have H1 : ((laws_toStringS.f kj7 l0).bind fun t292 => ((laws_eqStringS.f kj7 t284 t292).bind fun t295 => (if t295 = true then ((laws_markStringS.f kj7 t284 1).bind fun bt296 => (if bt296.1 < 0 then (laws_FnExactNearFirst.j1 kj7 l0 t280 t281 t287 true) else ((laws_eqIntS.f kj7 t287 t280).bind fun t298 => (if t298 = true then (laws_FnExactNearFirst.j1 kj7 l0 t280 t281 t287 (t288 != t281)) else (laws_FnExactNearFirst.j1 kj7 l0 t280 t281 t287 true))))) else (some false)))) = some r := by rw [if_neg (show ¬ (false = true) by decide)] at H; exact H
     clear H
     have H := H1
     clear H1
     replace H := Option.bind_eq_some_iff.mp H
     obtain ⟨t292, A220, H⟩ := H
     replace H : ((laws_eqStringS.f kj7 t284 t292).bind fun t295 => (if t295 = true then ((laws_markStringS.f kj7 t284 1).bind fun bt296 => (if bt296.1 < 0 then (laws_FnExactNearFirst.j1 kj7 l0 t280 t281 t287 true) else ((laws_eqIntS.f kj7 t287 t280).bind fun t298 => (if t298 = true then (laws_FnExactNearFirst.j1 kj7 l0 t280 t281 t287 (t288 != t281)) else (laws_FnExactNearFirst.j1 kj7 l0 t280 t281 t287 true))))) else (some false))) = some r := H
     have A22 := zaa.mk A220
     clear A220
     replace H := Option.bind_eq_some_iff.mp H
     obtain ⟨t295, A230, H⟩ := H
     replace H : (if t295 = true then ((laws_markStringS.f kj7 t284 1).bind fun bt296 => (if bt296.1 < 0 then (laws_FnExactNearFirst.j1 kj7 l0 t280 t281 t287 true) else ((laws_eqIntS.f kj7 t287 t280).bind fun t298 => (if t298 = true then (laws_FnExactNearFirst.j1 kj7 l0 t280 t281 t287 (t288 != t281)) else (laws_FnExactNearFirst.j1 kj7 l0 t280 t281 t287 true))))) else (some false)) = some r := H
     have A23 := zaa.mk A230
     clear A230
     by_cases c24 : t295 = true
     ·subst c24
      have H1 : ((laws_markStringS.f kj7 t284 1).bind fun bt296 => (if bt296.1 < 0 then (laws_FnExactNearFirst.j1 kj7 l0 t280 t281 t287 true) else ((laws_eqIntS.f kj7 t287 t280).bind fun t298 => (if t298 = true then (laws_FnExactNearFirst.j1 kj7 l0 t280 t281 t287 (t288 != t281)) else (laws_FnExactNearFirst.j1 kj7 l0 t280 t281 t287 true))))) = some r := by rw [if_pos rfl] at H; exact H
      clear H
      have H := H1
      clear H1
      replace H := Option.bind_eq_some_iff.mp H
      obtain ⟨⟨t296, t297⟩, A250, H⟩ := H
      replace H : (if t296 < 0 then (laws_FnExactNearFirst.j1 kj7 l0 t280 t281 t287 true) else ((laws_eqIntS.f kj7 t287 t280).bind fun t298 => (if t298 = true then (laws_FnExactNearFirst.j1 kj7 l0 t280 t281 t287 (t288 != t281)) else (laws_FnExactNearFirst.j1 kj7 l0 t280 t281 t287 true)))) = some r := H
      have A25 := zaa.mk A250
      clear A250
      have HC26 := zaa.mk H
      clear H
      go_upto_region 14 with (first | ((with_reducible refine zal (f := 14) rfl ?_); refine zbl (some 43) rfl rfl Try.func14 (by kernel_rfl) rfl #[.slice A0 l0.length c0] rfl (by (try simp only [List.map_toArray, List.map_cons, List.map_nil]); first | done | rfl | (simp only [List.length_drop, List.length_take]; rfl)) ?_; (with_reducible refine (laws_toStringS.calls kj7 _ _ l0 t292 _ ?side1 ?side2 A22.out).mono ?_); (case side1 => repeat (first | exact (Kd.C_below HR0.out HB.out) | (with_reducible refine Kd.C_alloc ?_ _) | (with_reducible refine Kd.C_drewN ?_ _) | (with_reducible refine Kd.C_drew ?_))); (case side2 => exact HC0.out); rintro e w27 ⟨v293, rfl, ho0, hb⟩; refine ⟨_, rfl, ?_⟩; have n0_ := zaa.mk (Kd.R_below (by (with_reducible repeat (first | apply Kd.R_alloc | apply Kd.R_drewN | apply Kd.R_drew)); exact HO_4.out) hb); have n1_ := zaa.mk (Kd.R_elder' (by (with_reducible repeat (first | apply Kd.R_alloc | apply Kd.R_drewN | apply Kd.R_drew)); exact HO_6.out) (Kd.R_base ho0) hb); have n2_ := zaa.mk (Kd.R_below (by (with_reducible repeat (first | apply Kd.R_alloc | apply Kd.R_drewN | apply Kd.R_drew)); exact HO_7.out) hb); have n3_ := zaa.mk (Kd.R_lower (Kd.R_new' ho0 (Kd.R_lt (by (with_reducible repeat (first | apply Kd.R_alloc | apply Kd.R_drewN | apply Kd.R_drew)); exact HO_6.out))) (zah (by repeat (first | (with_reducible first | exact HB.out | apply zac | apply zab | apply zad) | exact HB.out)))); have n4_ := zaa.mk (zaf (by repeat (first | (with_reducible first | exact HB.out | apply zac | apply zab | apply zad) | exact HB.out)) hb); clear HO_4; clear HO_6; clear HO_7; clear HB; have HO_4 := n0_; have HO_6 := n1_; have HO_7 := n2_; have HO294 := n3_; have HB := n4_; clear n0_ n1_ n2_ n3_ n4_; (try clear hb); (try clear hb2); (try clear hk); (try clear hi); (try clear ho0); obtain ⟨Ao28, co28, eo28⟩ := Kd.R_slice HO294.out; subst eo28) | ((with_reducible refine zal (f := 17) rfl ?_); refine zbl (some 44) rfl rfl Try.func17 (by kernel_rfl) rfl #[.slice Ao13 t284.length co13, .slice Ao28 t292.length co28] rfl (by (try simp only [List.map_toArray, List.map_cons, List.map_nil]); first | done | rfl | (simp only [List.length_drop, List.length_take]; rfl)) ?_; (with_reducible refine (laws_eqStringS.calls kj7 _ _ t284 _ _ t292 true _ ?side1 ?side2 ?side3 ?side4 A23.out).mono ?_); (case side1 => repeat (first | exact (Kd.R_reads' HO_6.out).2.2 | (with_reducible refine Kd.C_alloc ?_ _) | (with_reducible refine Kd.C_drewN ?_ _) | (with_reducible refine Kd.C_drew ?_))); (case side2 => exact (Kd.R_reads' HO_6.out).2.1); (case side3 => repeat (first | exact (Kd.R_reads' HO294.out).2.2 | (with_reducible refine Kd.C_alloc ?_ _) | (with_reducible refine Kd.C_drewN ?_ _) | (with_reducible refine Kd.C_drew ?_))); (case side4 => exact (Kd.R_reads' HO294.out).2.1); rintro e w' ⟨rfl, ⟨nd, rfl⟩⟩; refine ⟨_, rfl, ?_⟩) | ((with_reducible refine zal (f := 18) rfl ?_); refine zbl (some 48) rfl rfl Try.func18 (by kernel_rfl) rfl #[.slice Ao13 t284.length co13, .int .i64 1] rfl (by (try simp only [List.map_toArray, List.map_cons, List.map_nil]); first | done | rfl | (simp only [List.length_drop, List.length_take]; rfl)) ?_; (with_reducible refine (laws_markStringS.calls kj7 (fun k_ => some k_ = (.slice Ao13 t284.length co13 : Value).ownBlock) (.slice Ao13 t284.length co13) t284 1 t296 t297 w _ ?side1 ?side2 A25.out).mono ?_); (case side1 => repeat (first | (with_reducible first | exact HB.out | apply zac | apply zab | apply zad) | exact HB.out)); (case side2 => exact Kd.R_tight rfl HO_6.out); rintro e w29 ⟨rfl, hy0, hb, hkp⟩; refine ⟨_, rfl, ?_⟩; have n0_ := zaa.mk (Kd.R_mono (ok' := fun k_ => some k_ ≠ (v289 : Value).ownBlock) (Kd.R_keptB ((Kd.R_apart' HO_4.out (Kd.R_typed HO_6.out) (by decide))) hkp (fun k_ hk_ hs_ => (hk_.2) hs_)) (fun k_ hk_ => hk_.1.1)); have n1_ := zaa.mk (Kd.R_reok rfl hy0 (fun k_ e_ => HO_6.out.1 k_ e_)); have n2_ := zaa.mk (Kd.R_mono (ok' := fun k_ => some k_ ≠ (v282 : Value).ownBlock) (Kd.R_keptB ((Kd.R_apart' HO_7.out (Kd.R_typed HO_6.out) (by decide))) hkp (fun k_ hk_ hs_ => (hk_.2) hs_)) (fun k_ hk_ => hk_.1.1)); have n3_ := zaa.mk (Kd.R_mono (ok' := fun k_ => some k_ ≠ (.slice Ao13 t284.length co13 : Value).ownBlock) (Kd.R_keptB (HO294.out) hkp (fun k_ hk_ hs_ => (hk_.2) hs_)) (fun k_ hk_ => hk_.1.2)); have n4_ := zaa.mk (hb); clear HO_4; clear HO_6; clear HO_7; clear HO294; clear HB; have HO_4 := n0_; have HO_6 := n1_; have HO_7 := n2_; have HO294 := n3_; have HB := n4_; clear n0_ n1_ n2_ n3_ n4_; (try clear hb); (try clear hkp); (try clear hy0)))
      (try simp only [Act.put, List.setIfInBounds_toArray, List.set_cons_zero, List.set_cons_succ])
      go_cut [61] (fun v61 wc => ∃ (kq : Nat) (x61_25 : Bool), v61 = .bool x61_25 ∧ zaa (laws_FnExactNearFirst.j1 kq l0 t280 t281 t287 x61_25 = some r) ∧ zaa (kq ≤ kj7) ∧ zaa (Kd.R (Kd.int .i64) 3 wc w.heap.size (fun k_ => some k_ ≠ (v289 : Value).ownBlock) v282 t280) ∧ zaa (Kd.R (Kd.int .i64) 3 wc w.heap.size (fun k_ => some k_ ≠ (v282 : Value).ownBlock) v289 t287) ∧ zaa (Below w.heap.size w wc))
      case first =>
       have H := HC26.out
       clear HC26
       by_cases c30 : t296 < 0
       ·rw [if_pos c30] at H
        have c30b0 : decide (t296 < 0) = true := decide_eq_true c30
        clear c30
        (first | rw [c30b0] | (simp only [zat, zau]; rw [c30b0]) | skip)
        have H' := zaa.mk H
        clear H
        go_wp2
        go_meet
        case rel => exact ⟨_, (true), (by first | rfl | (simp; done) | (simp [*]; done)), H', ⟨by have := HJ7.out; first | omega | exact Nat.le_refl _⟩, ⟨by (with_reducible repeat (first | apply Kd.R_alloc | apply Kd.R_drewN | apply Kd.R_drew)); exact HO_4.out⟩, ⟨by (with_reducible repeat (first | apply Kd.R_alloc | apply Kd.R_drewN | apply Kd.R_drew)); exact HO_7.out⟩, ⟨by repeat (first | (with_reducible first | exact HB.out | apply zac | apply zab | apply zad) | exact HB.out)⟩⟩
       ·rw [if_neg c30] at H
        have c30b0 : decide (t296 < 0) = false := decide_eq_false c30
        clear c30
        (first | rw [c30b0] | (simp only [zat, zau]; rw [c30b0]) | skip)
        replace H := Option.bind_eq_some_iff.mp H
        obtain ⟨t298, A310, H⟩ := H
        replace H : (if t298 = true then (laws_FnExactNearFirst.j1 kj7 l0 t280 t281 t287 (t288 != t281)) else (laws_FnExactNearFirst.j1 kj7 l0 t280 t281 t287 true)) = some r := H
        have A31 := zaa.mk A310
        clear A310
        by_cases c32 : t298 = true
        ·subst c32
         have H1 : (laws_FnExactNearFirst.j1 kj7 l0 t280 t281 t287 (t288 != t281)) = some r := by rw [if_pos rfl] at H; exact H
         clear H
         have H := H1
         clear H1
         have H' := zaa.mk H
         clear H
         obtain ⟨Ao33, co33, eo33⟩ := Kd.R_slice HO_7.out
         subst eo33
         obtain ⟨Ao34, co34, eo34⟩ := Kd.R_slice HO_4.out
         subst eo34
         go_wp2_with (first | (go_at_call 16; (with_reducible refine (laws_eqIntS.calls kj7 _ _ t287 _ _ t280 true _ ?side1 ?side2 ?side3 ?side4 A31.out).mono ?_); (case side1 => repeat (first | exact (Kd.R_reads' HO_7.out).2.2 | (with_reducible refine Kd.C_alloc ?_ _) | (with_reducible refine Kd.C_drewN ?_ _) | (with_reducible refine Kd.C_drew ?_))); (case side2 => exact (Kd.R_reads' HO_7.out).2.1); (case side3 => repeat (first | exact (Kd.R_reads' HO_4.out).2.2 | (with_reducible refine Kd.C_alloc ?_ _) | (with_reducible refine Kd.C_drewN ?_ _) | (with_reducible refine Kd.C_drew ?_))); (case side4 => exact (Kd.R_reads' HO_4.out).2.1); rintro e w' ⟨rfl, ⟨nd, rfl⟩⟩))
         go_meet
         case rel => exact ⟨_, ((t288 != t281)), (by first | rfl | (simp; done) | (simp [*]; done)), H', ⟨by have := HJ7.out; first | omega | exact Nat.le_refl _⟩, ⟨by (with_reducible repeat (first | apply Kd.R_alloc | apply Kd.R_drewN | apply Kd.R_drew)); exact HO_4.out⟩, ⟨by (with_reducible repeat (first | apply Kd.R_alloc | apply Kd.R_drewN | apply Kd.R_drew)); exact HO_7.out⟩, ⟨by repeat (first | (with_reducible first | exact HB.out | apply zac | apply zab | apply zad) | exact HB.out)⟩⟩
        ·replace c32 := Bool.eq_false_iff.mpr c32
         subst c32
         have H1 : (laws_FnExactNearFirst.j1 kj7 l0 t280 t281 t287 true) = some r := by rw [if_neg (show ¬ (false = true) by decide)] at H; exact H
         clear H
         have H := H1
         clear H1
         have H' := zaa.mk H
         clear H
         obtain ⟨Ao35, co35, eo35⟩ := Kd.R_slice HO_7.out
         subst eo35
         obtain ⟨Ao36, co36, eo36⟩ := Kd.R_slice HO_4.out
         subst eo36
         go_wp2_with (first | (go_at_call 16; (with_reducible refine (laws_eqIntS.calls kj7 _ _ t287 _ _ t280 false _ ?side1 ?side2 ?side3 ?side4 A31.out).mono ?_); (case side1 => repeat (first | exact (Kd.R_reads' HO_7.out).2.2 | (with_reducible refine Kd.C_alloc ?_ _) | (with_reducible refine Kd.C_drewN ?_ _) | (with_reducible refine Kd.C_drew ?_))); (case side2 => exact (Kd.R_reads' HO_7.out).2.1); (case side3 => repeat (first | exact (Kd.R_reads' HO_4.out).2.2 | (with_reducible refine Kd.C_alloc ?_ _) | (with_reducible refine Kd.C_drewN ?_ _) | (with_reducible refine Kd.C_drew ?_))); (case side4 => exact (Kd.R_reads' HO_4.out).2.1); rintro e w' ⟨rfl, ⟨nd, rfl⟩⟩))
         go_meet
         case rel => exact ⟨_, (true), (by first | rfl | (simp; done) | (simp [*]; done)), H', ⟨by have := HJ7.out; first | omega | exact Nat.le_refl _⟩, ⟨by (with_reducible repeat (first | apply Kd.R_alloc | apply Kd.R_drewN | apply Kd.R_drew)); exact HO_4.out⟩, ⟨by (with_reducible repeat (first | apply Kd.R_alloc | apply Kd.R_drewN | apply Kd.R_drew)); exact HO_7.out⟩, ⟨by repeat (first | (with_reducible first | exact HB.out | apply zac | apply zab | apply zad) | exact HB.out)⟩⟩
      case rest =>
       clear HC26
       try clear c1
       try clear c2
       try clear p2
       try clear c3
       try clear c3b0
       try clear c4
       try clear c9
       try clear c12
       try clear c14
       try clear c16
       try clear c17
       try clear c18
       try clear c21
       try clear c24
       try clear c30
       try clear c30b0
       try clear c32
       try clear p2
       obtain ⟨kq, x61_25, rfl, HA, HJ25, HO_4, HO_7, HB⟩ := hcut
       cases kq with
       | zero => exact absurd HA.out (by simp [laws_FnExactNearFirst.j1])
       | succ kj25 =>
        have H := HA.out
        clear HA
        simp only [laws_FnExactNearFirst.j1] at H
        by_cases c37 : x61_25 = true
        ·subst c37
         have H1 : (some false) = some r := by rw [if_pos rfl] at H; exact H
         clear H
         have H := H1
         clear H1
         obtain rfl := Option.some.inj H
         go_wp2
         go_ret
         exact ⟨by first | rfl | (simp [zaj, zai] <;> rfl) | (simp [*, zaj, zai] <;> rfl), by repeat (first | (with_reducible first | exact HB.out | apply zac | apply zab | apply zad) | exact HB.out)⟩
        ·replace c37 := Bool.eq_false_iff.mpr c37
         subst c37
         have H1 : ((laws_markIntS.f kj25 t287 1).bind fun bt299 => ((laws_heldIntS.f kj25 bt299.2 1).bind fun t301 => (if t301 < 0 then (some false) else (if t301 = bt299.1 then ((laws_toStringS.f kj25 l0).bind fun t302 => ((impl_NearFirst.f t302).bind fun bt305 => ((laws_eqIntS.f kj25 bt305.1 t280).bind fun t309 => (if t309 = true then (laws_FnExactNearFirst.j2 kj25 bt299.2 bt299.1 (bt305.2 != t281)) else (laws_FnExactNearFirst.j2 kj25 bt299.2 bt299.1 true))))) else (some false))))) = some r := by rw [if_neg (show ¬ (false = true) by decide)] at H; exact H
         clear H
         have H := H1
         clear H1
         replace H := Option.bind_eq_some_iff.mp H
         obtain ⟨⟨t299, t300⟩, A380, H⟩ := H
         replace H : ((laws_heldIntS.f kj25 t300 1).bind fun t301 => (if t301 < 0 then (some false) else (if t301 = t299 then ((laws_toStringS.f kj25 l0).bind fun t302 => ((impl_NearFirst.f t302).bind fun bt305 => ((laws_eqIntS.f kj25 bt305.1 t280).bind fun t309 => (if t309 = true then (laws_FnExactNearFirst.j2 kj25 t300 t299 (bt305.2 != t281)) else (laws_FnExactNearFirst.j2 kj25 t300 t299 true))))) else (some false)))) = some r := H
         have A38 := zaa.mk A380
         clear A380
         replace H := Option.bind_eq_some_iff.mp H
         obtain ⟨t301, A390, H⟩ := H
         replace H : (if t301 < 0 then (some false) else (if t301 = t299 then ((laws_toStringS.f kj25 l0).bind fun t302 => ((impl_NearFirst.f t302).bind fun bt305 => ((laws_eqIntS.f kj25 bt305.1 t280).bind fun t309 => (if t309 = true then (laws_FnExactNearFirst.j2 kj25 t300 t299 (bt305.2 != t281)) else (laws_FnExactNearFirst.j2 kj25 t300 t299 true))))) else (some false))) = some r := H
         have A39 := zaa.mk A390
         clear A390
         by_cases c40 : t301 < 0
         ·rw [if_pos c40] at H
          have c40b0 : decide (t301 < 0) = true := decide_eq_true c40
          clear c40
          obtain rfl := Option.some.inj H
          obtain ⟨Ao41, co41, eo41⟩ := Kd.R_slice HO_7.out
          subst eo41
          go_wp2_with (first | ((with_reducible refine zal (f := 19) rfl ?_); refine zbl (some 64) rfl rfl Try.func19 (by kernel_rfl) rfl #[.slice Ao41 t287.length co41, .int .i64 1] rfl (by (try simp only [List.map_toArray, List.map_cons, List.map_nil]); first | done | rfl | (simp only [List.length_drop, List.length_take]; rfl)) ?_; (with_reducible refine (laws_markIntS.calls kj25 (fun k_ => some k_ = (.slice Ao41 t287.length co41 : Value).ownBlock) (.slice Ao41 t287.length co41) t287 1 t299 t300 w _ ?side1 ?side2 A38.out).mono ?_); (case side1 => repeat (first | (with_reducible first | exact HB.out | apply zac | apply zab | apply zad) | exact HB.out)); (case side2 => exact Kd.R_tight rfl HO_7.out); rintro e w42 ⟨rfl, hy0, hb, hkp⟩; refine ⟨_, rfl, ?_⟩; have n0_ := zaa.mk (Kd.R_mono (ok' := fun k_ => some k_ ≠ (.slice Ao41 t287.length co41 : Value).ownBlock) (Kd.R_keptB (HO_4.out) hkp (fun k_ hk_ hs_ => (hk_) hs_)) (fun k_ hk_ => hk_.1)); have n1_ := zaa.mk (Kd.R_reok rfl hy0 (fun k_ e_ => HO_7.out.1 k_ e_)); have n2_ := zaa.mk (hb); clear HO_4; clear HO_7; clear HB; have HO_4 := n0_; have HO_7 := n1_; have HB := n2_; clear n0_ n1_ n2_; (try clear hb); (try clear hkp); (try clear hy0)) | ((with_reducible refine zal (f := 20) rfl ?_); refine zbl (some 67) rfl rfl Try.func20 (by kernel_rfl) rfl #[.slice Ao41 t300.length co41, .int .i64 1] rfl (by (try simp only [List.map_toArray, List.map_cons, List.map_nil]); first | done | (rw [show t300.length = t287.length from (Kd.R_reads' HO_7.out).1.symm] <;> rfl) | rfl | (simp only [List.length_drop, List.length_take]; rfl)) ?_; (with_reducible refine (laws_heldIntS.calls kj25 _ _ t300 1 t301 _ ?side1 ?side2 A39.out).mono ?_); (case side1 => repeat (first | exact (Kd.R_reads' HO_7.out).2.2 | (with_reducible refine Kd.C_alloc ?_ _) | (with_reducible refine Kd.C_drewN ?_ _) | (with_reducible refine Kd.C_drew ?_))); (case side2 => rw [show t300.length = t287.length from (Kd.R_reads' HO_7.out).1.symm]; exact (Kd.R_reads' HO_7.out).2.1); rintro e w' ⟨rfl, ⟨nd, rfl⟩⟩; refine ⟨_, rfl, ?_⟩))
          go_ret
          exact ⟨by first | rfl | (simp [zaj, zai] <;> rfl) | (simp [*, zaj, zai] <;> rfl), by repeat (first | (with_reducible first | exact HB.out | apply zac | apply zab | apply zad) | exact HB.out)⟩
         ·rw [if_neg c40] at H
          have c40b0 : decide (t301 < 0) = false := decide_eq_false c40
          clear c40
          by_cases c43 : t301 = t299
          ·rw [if_pos c43] at H
           have c43b0 : (t301 == t299) = true := beq_iff_eq.mpr c43
           have c43b1 : (t301 != t299) = false := bne_eq_false_iff_eq.mpr c43
           clear c43
           replace H := Option.bind_eq_some_iff.mp H
           obtain ⟨t302, A440, H⟩ := H
           replace H : ((impl_NearFirst.f t302).bind fun bt305 => ((laws_eqIntS.f kj25 bt305.1 t280).bind fun t309 => (if t309 = true then (laws_FnExactNearFirst.j2 kj25 t300 t299 (bt305.2 != t281)) else (laws_FnExactNearFirst.j2 kj25 t300 t299 true)))) = some r := H
           have A44 := zaa.mk A440
           clear A440
           replace H := Option.bind_eq_some_iff.mp H
           obtain ⟨⟨t305, t306⟩, A450, H⟩ := H
           replace H : ((laws_eqIntS.f kj25 t305 t280).bind fun t309 => (if t309 = true then (laws_FnExactNearFirst.j2 kj25 t300 t299 (t306 != t281)) else (laws_FnExactNearFirst.j2 kj25 t300 t299 true))) = some r := H
           have A45 := zaa.mk A450
           clear A450
           have HC46 := zaa.mk H
           clear H
           obtain ⟨Ao47, co47, eo47⟩ := Kd.R_slice HO_7.out
           subst eo47
           go_upto_region 25 with (first | ((with_reducible refine zal (f := 19) rfl ?_); refine zbl (some 64) rfl rfl Try.func19 (by kernel_rfl) rfl #[.slice Ao47 t287.length co47, .int .i64 1] rfl (by (try simp only [List.map_toArray, List.map_cons, List.map_nil]); first | done | rfl | (simp only [List.length_drop, List.length_take]; rfl)) ?_; (with_reducible refine (laws_markIntS.calls kj25 (fun k_ => some k_ = (.slice Ao47 t287.length co47 : Value).ownBlock) (.slice Ao47 t287.length co47) t287 1 t299 t300 w _ ?side1 ?side2 A38.out).mono ?_); (case side1 => repeat (first | (with_reducible first | exact HB.out | apply zac | apply zab | apply zad) | exact HB.out)); (case side2 => exact Kd.R_tight rfl HO_7.out); rintro e w48 ⟨rfl, hy0, hb, hkp⟩; refine ⟨_, rfl, ?_⟩; have n0_ := zaa.mk (Kd.R_mono (ok' := fun k_ => some k_ ≠ (.slice Ao47 t287.length co47 : Value).ownBlock) (Kd.R_keptB (HO_4.out) hkp (fun k_ hk_ hs_ => (hk_) hs_)) (fun k_ hk_ => hk_.1)); have n1_ := zaa.mk (Kd.R_reok rfl hy0 (fun k_ e_ => HO_7.out.1 k_ e_)); have n2_ := zaa.mk (hb); clear HO_4; clear HO_7; clear HB; have HO_4 := n0_; have HO_7 := n1_; have HB := n2_; clear n0_ n1_ n2_; (try clear hb); (try clear hkp); (try clear hy0)) | ((with_reducible refine zal (f := 20) rfl ?_); refine zbl (some 67) rfl rfl Try.func20 (by kernel_rfl) rfl #[.slice Ao47 t300.length co47, .int .i64 1] rfl (by (try simp only [List.map_toArray, List.map_cons, List.map_nil]); first | done | (rw [show t300.length = t287.length from (Kd.R_reads' HO_7.out).1.symm] <;> rfl) | rfl | (simp only [List.length_drop, List.length_take]; rfl)) ?_; (with_reducible refine (laws_heldIntS.calls kj25 _ _ t300 1 t301 _ ?side1 ?side2 A39.out).mono ?_); (case side1 => repeat (first | exact (Kd.R_reads' HO_7.out).2.2 | (with_reducible refine Kd.C_alloc ?_ _) | (with_reducible refine Kd.C_drewN ?_ _) | (with_reducible refine Kd.C_drew ?_))); (case side2 => rw [show t300.length = t287.length from (Kd.R_reads' HO_7.out).1.symm]; exact (Kd.R_reads' HO_7.out).2.1); rintro e w' ⟨rfl, ⟨nd, rfl⟩⟩; refine ⟨_, rfl, ?_⟩) | ((with_reducible refine zal (f := 14) rfl ?_); refine zbl (some 75) rfl rfl Try.func14 (by kernel_rfl) rfl #[.slice A0 l0.length c0] rfl (by (try simp only [List.map_toArray, List.map_cons, List.map_nil]); first | done | rfl | (simp only [List.length_drop, List.length_take]; rfl)) ?_; (with_reducible refine (laws_toStringS.calls kj25 _ _ l0 t302 _ ?side1 ?side2 A44.out).mono ?_); (case side1 => repeat (first | exact (Kd.C_below HR0.out (by repeat (first | (with_reducible first | exact HB.out | apply zac | apply zab | apply zad) | exact HB.out))) | (with_reducible refine Kd.C_alloc ?_ _) | (with_reducible refine Kd.C_drewN ?_ _) | (with_reducible refine Kd.C_drew ?_))); (case side2 => exact HC0.out); rintro e w49 ⟨v303, rfl, ho0, hb⟩; refine ⟨_, rfl, ?_⟩; have n0_ := zaa.mk (Kd.R_below (by (with_reducible repeat (first | apply Kd.R_alloc | apply Kd.R_drewN | apply Kd.R_drew)); exact HO_4.out) hb); have n1_ := zaa.mk (Kd.R_below (by (with_reducible repeat (first | apply Kd.R_alloc | apply Kd.R_drewN | apply Kd.R_drew)); exact HO_7.out) hb); have n2_ := zaa.mk (Kd.R_lower ho0 (zah (by repeat (first | (with_reducible first | exact HB.out | apply zac | apply zab | apply zad) | exact HB.out)))); have n3_ := zaa.mk (zaf (by repeat (first | (with_reducible first | exact HB.out | apply zac | apply zab | apply zad) | exact HB.out)) hb); clear HO_4; clear HO_7; clear HB; have HO_4 := n0_; have HO_7 := n1_; have HO304 := n2_; have HB := n3_; clear n0_ n1_ n2_ n3_; (try clear hb); (try clear hb2); (try clear hk); (try clear hi); (try clear ho0); obtain ⟨Ao50, co50, eo50⟩ := Kd.R_slice HO304.out; subst eo50) | ((with_reducible refine zal (f := 40) rfl ?_); refine zbl (some 76) rfl rfl Try.func40 (by kernel_rfl) rfl #[.slice Ao50 t302.length co50] rfl (by (try simp only [List.map_toArray, List.map_cons, List.map_nil]); first | done | rfl | (simp only [List.length_drop, List.length_take]; rfl)) ?_; (with_reducible refine (impl_NearFirst.calls _ _ t302 t305 t306 _ ?side1 ?side2 A45.out).mono ?_); (case side1 => repeat (first | exact (Kd.R_reads' HO304.out).2.2 | (with_reducible refine Kd.C_alloc ?_ _) | (with_reducible refine Kd.C_drewN ?_ _) | (with_reducible refine Kd.C_drew ?_))); (case side2 => exact (Kd.R_reads' HO304.out).2.1); rintro e w51 ⟨v307, rfl, ho0, hb⟩; refine ⟨_, rfl, ?_⟩; have n0_ := zaa.mk (Kd.R_elder' (by (with_reducible repeat (first | apply Kd.R_alloc | apply Kd.R_drewN | apply Kd.R_drew)); exact HO_4.out) (Kd.R_base ho0) hb); have n1_ := zaa.mk (Kd.R_elder' (by (with_reducible repeat (first | apply Kd.R_alloc | apply Kd.R_drewN | apply Kd.R_drew)); exact HO_7.out) (Kd.R_base ho0) hb); have n2_ := zaa.mk (Kd.R_below (by (with_reducible repeat (first | apply Kd.R_alloc | apply Kd.R_drewN | apply Kd.R_drew)); exact HO304.out) hb); have n3_ := zaa.mk (Kd.R_lower (Kd.R_new' (Kd.R_new' ho0 (Kd.R_lt (by (with_reducible repeat (first | apply Kd.R_alloc | apply Kd.R_drewN | apply Kd.R_drew)); exact HO_4.out))) (Kd.R_lt (by (with_reducible repeat (first | apply Kd.R_alloc | apply Kd.R_drewN | apply Kd.R_drew)); exact HO_7.out))) (zah (by repeat (first | (with_reducible first | exact HB.out | apply zac | apply zab | apply zad) | exact HB.out)))); have n4_ := zaa.mk (zaf (by repeat (first | (with_reducible first | exact HB.out | apply zac | apply zab | apply zad) | exact HB.out)) hb); clear HO_4; clear HO_7; clear HO304; clear HB; have HO_4 := n0_; have HO_7 := n1_; have HO304 := n2_; have HO308 := n3_; have HB := n4_; clear n0_ n1_ n2_ n3_ n4_; (try clear hb); (try clear hb2); (try clear hk); (try clear hi); (try clear ho0)))
           (try simp only [Act.put, List.setIfInBounds_toArray, List.set_cons_zero, List.set_cons_succ])
           go_cut [87] (fun v87 wc => ∃ (kq : Nat) (x87_45 : Bool), v87 = .bool x87_45 ∧ zaa (laws_FnExactNearFirst.j2 kq t300 t299 x87_45 = some r) ∧ zaa (kq ≤ kj25) ∧ zaa (Kd.R (Kd.int .i64) 3 wc w.heap.size (fun _ => True) (.slice Ao47 t287.length co47) t300) ∧ zaa (Below w.heap.size w wc))
           case first =>
            have H := HC46.out
            clear HC46
            replace H := Option.bind_eq_some_iff.mp H
            obtain ⟨t309, A520, H⟩ := H
            replace H : (if t309 = true then (laws_FnExactNearFirst.j2 kj25 t300 t299 (t306 != t281)) else (laws_FnExactNearFirst.j2 kj25 t300 t299 true)) = some r := H
            have A52 := zaa.mk A520
            clear A520
            by_cases c53 : t309 = true
            ·subst c53
             have H1 : (laws_FnExactNearFirst.j2 kj25 t300 t299 (t306 != t281)) = some r := by rw [if_pos rfl] at H; exact H
             clear H
             have H := H1
             clear H1
             have H' := zaa.mk H
             clear H
             obtain ⟨Ao54, co54, eo54⟩ := Kd.R_slice HO308.out
             subst eo54
             obtain ⟨Ao55, co55, eo55⟩ := Kd.R_slice HO_4.out
             subst eo55
             go_wp2_with (first | ((with_reducible refine zal (f := 16) rfl ?_); refine zbl (some 81) rfl rfl Try.func16 (by kernel_rfl) rfl #[.slice Ao54 t305.length co54, .slice Ao55 t280.length co55] rfl (by (try simp only [List.map_toArray, List.map_cons, List.map_nil]); first | done | rfl | (simp only [List.length_drop, List.length_take]; rfl)) ?_; (with_reducible refine (laws_eqIntS.calls kj25 _ _ t305 _ _ t280 true _ ?side1 ?side2 ?side3 ?side4 A52.out).mono ?_); (case side1 => repeat (first | exact (Kd.R_reads' HO308.out).2.2 | (with_reducible refine Kd.C_alloc ?_ _) | (with_reducible refine Kd.C_drewN ?_ _) | (with_reducible refine Kd.C_drew ?_))); (case side2 => exact (Kd.R_reads' HO308.out).2.1); (case side3 => repeat (first | exact (Kd.R_reads' HO_4.out).2.2 | (with_reducible refine Kd.C_alloc ?_ _) | (with_reducible refine Kd.C_drewN ?_ _) | (with_reducible refine Kd.C_drew ?_))); (case side4 => exact (Kd.R_reads' HO_4.out).2.1); rintro e w' ⟨rfl, ⟨nd, rfl⟩⟩; refine ⟨_, rfl, ?_⟩))
             go_meet
             case rel => exact ⟨_, ((t306 != t281)), (by first | rfl | (simp; done) | (simp [*]; done)), H', ⟨by have := HJ7.out; have := HJ25.out; first | omega | exact Nat.le_refl _⟩, ⟨by (with_reducible repeat (first | apply Kd.R_alloc | apply Kd.R_drewN | apply Kd.R_drew)); exact Kd.R_mono HO_7.out (fun _ hk => trivial)⟩, ⟨by repeat (first | (with_reducible first | exact HB.out | apply zac | apply zab | apply zad) | exact HB.out)⟩⟩
            ·replace c53 := Bool.eq_false_iff.mpr c53
             subst c53
             have H1 : (laws_FnExactNearFirst.j2 kj25 t300 t299 true) = some r := by rw [if_neg (show ¬ (false = true) by decide)] at H; exact H
             clear H
             have H := H1
             clear H1
             have H' := zaa.mk H
             clear H
             obtain ⟨Ao56, co56, eo56⟩ := Kd.R_slice HO308.out
             subst eo56
             obtain ⟨Ao57, co57, eo57⟩ := Kd.R_slice HO_4.out
             subst eo57
             go_wp2_with (first | ((with_reducible refine zal (f := 16) rfl ?_); refine zbl (some 81) rfl rfl Try.func16 (by kernel_rfl) rfl #[.slice Ao56 t305.length co56, .slice Ao57 t280.length co57] rfl (by (try simp only [List.map_toArray, List.map_cons, List.map_nil]); first | done | rfl | (simp only [List.length_drop, List.length_take]; rfl)) ?_; (with_reducible refine (laws_eqIntS.calls kj25 _ _ t305 _ _ t280 false _ ?side1 ?side2 ?side3 ?side4 A52.out).mono ?_); (case side1 => repeat (first | exact (Kd.R_reads' HO308.out).2.2 | (with_reducible refine Kd.C_alloc ?_ _) | (with_reducible refine Kd.C_drewN ?_ _) | (with_reducible refine Kd.C_drew ?_))); (case side2 => exact (Kd.R_reads' HO308.out).2.1); (case side3 => repeat (first | exact (Kd.R_reads' HO_4.out).2.2 | (with_reducible refine Kd.C_alloc ?_ _) | (with_reducible refine Kd.C_drewN ?_ _) | (with_reducible refine Kd.C_drew ?_))); (case side4 => exact (Kd.R_reads' HO_4.out).2.1); rintro e w' ⟨rfl, ⟨nd, rfl⟩⟩; refine ⟨_, rfl, ?_⟩))
             go_meet
             case rel => exact ⟨_, (true), (by first | rfl | (simp; done) | (simp [*]; done)), H', ⟨by have := HJ7.out; have := HJ25.out; first | omega | exact Nat.le_refl _⟩, ⟨by (with_reducible repeat (first | apply Kd.R_alloc | apply Kd.R_drewN | apply Kd.R_drew)); exact Kd.R_mono HO_7.out (fun _ hk => trivial)⟩, ⟨by repeat (first | (with_reducible first | exact HB.out | apply zac | apply zab | apply zad) | exact HB.out)⟩⟩
           case rest =>
            clear HC46
            try clear c1
            try clear c2
            try clear p2
            try clear c3
            try clear c3b0
            try clear c4
            try clear c5
            try clear c9
            try clear c12
            try clear c14
            try clear c16
            try clear c17
            try clear c18
            try clear c19
            try clear c20
            try clear c21
            try clear c24
            try clear c30
            try clear c30b0
            try clear c32
            try clear c37
            try clear c39
            try clear c40
            try clear c40b0
            try clear c43
            try clear c43b0
            try clear c43b1
            try clear c53
            try clear p2
            obtain ⟨kq, x87_45, rfl, HA, HJ45, HO_7, HB⟩ := hcut
            have hl7_45 := (Kd.R_reads' HO_7.out).1
            rw [hl7_45] at HO_7
            (try simp only [hl7_45])
            cases kq with
            | zero => exact absurd HA.out (by simp [laws_FnExactNearFirst.j2])
            | succ kj45 =>
             have H := HA.out
             clear HA
             simp only [laws_FnExactNearFirst.j2] at H
             by_cases c58 : x87_45 = true
             ·subst c58
              have H1 : (some false) = some r := by rw [if_pos rfl] at H; exact H
              clear H
              have H := H1
              clear H1
              obtain rfl := Option.some.inj H
              go_wp2
              go_ret
              exact ⟨by first | rfl | (simp [zaj, zai] <;> rfl) | (simp [*, zaj, zai] <;> rfl), by repeat (first | (with_reducible first | exact HB.out | apply zac | apply zab | apply zad) | exact HB.out)⟩
             ·replace c58 := Bool.eq_false_iff.mpr c58
              subst c58
              have H1 : ((laws_heldIntS.f kj45 t300 1).bind fun t310 => (if t310 < 0 then (some false) else (if t310 = t299 then (some true) else (some false)))) = some r := by rw [if_neg (show ¬ (false = true) by decide)] at H; exact H
              clear H
              have H := H1
              clear H1
              replace H := Option.bind_eq_some_iff.mp H
              obtain ⟨t310, A590, H⟩ := H
              replace H : (if t310 < 0 then (some false) else (if t310 = t299 then (some true) else (some false))) = some r := H
              have A59 := zaa.mk A590
              clear A590
              by_cases c60 : t310 < 0
              ·rw [if_pos c60] at H
               have c60b0 : decide (t310 < 0) = true := decide_eq_true c60
               clear c60
               obtain rfl := Option.some.inj H
               go_wp2_with (first | ((with_reducible refine zal (f := 20) rfl ?_); refine zbl (some 90) rfl rfl Try.func20 (by kernel_rfl) rfl #[.slice Ao47 t300.length co47, .int .i64 1] rfl (by (try simp only [List.map_toArray, List.map_cons, List.map_nil]); first | done | rfl | (simp only [List.length_drop, List.length_take]; rfl)) ?_; (with_reducible refine (laws_heldIntS.calls kj45 _ _ t300 1 t310 _ ?side1 ?side2 A59.out).mono ?_); (case side1 => repeat (first | exact (Kd.R_reads' HO_7.out).2.2 | (with_reducible refine Kd.C_alloc ?_ _) | (with_reducible refine Kd.C_drewN ?_ _) | (with_reducible refine Kd.C_drew ?_))); (case side2 => exact (Kd.R_reads' HO_7.out).2.1); rintro e w' ⟨rfl, ⟨nd, rfl⟩⟩; refine ⟨_, rfl, ?_⟩))
               go_ret
               exact ⟨by first | rfl | (simp [zaj, zai] <;> rfl) | (simp [*, zaj, zai] <;> rfl), by repeat (first | (with_reducible first | exact HB.out | apply zac | apply zab | apply zad) | exact HB.out)⟩
              ·rw [if_neg c60] at H
               have c60b0 : decide (t310 < 0) = false := decide_eq_false c60
               clear c60
               by_cases c61 : t310 = t299
               ·rw [if_pos c61] at H
                have c61b0 : (t310 == t299) = true := beq_iff_eq.mpr c61
                have c61b1 : (t310 != t299) = false := bne_eq_false_iff_eq.mpr c61
                clear c61
                obtain rfl := Option.some.inj H
                go_wp2_with (first | ((with_reducible refine zal (f := 20) rfl ?_); refine zbl (some 90) rfl rfl Try.func20 (by kernel_rfl) rfl #[.slice Ao47 t300.length co47, .int .i64 1] rfl (by (try simp only [List.map_toArray, List.map_cons, List.map_nil]); first | done | rfl | (simp only [List.length_drop, List.length_take]; rfl)) ?_; (with_reducible refine (laws_heldIntS.calls kj45 _ _ t300 1 t310 _ ?side1 ?side2 A59.out).mono ?_); (case side1 => repeat (first | exact (Kd.R_reads' HO_7.out).2.2 | (with_reducible refine Kd.C_alloc ?_ _) | (with_reducible refine Kd.C_drewN ?_ _) | (with_reducible refine Kd.C_drew ?_))); (case side2 => exact (Kd.R_reads' HO_7.out).2.1); rintro e w' ⟨rfl, ⟨nd, rfl⟩⟩; refine ⟨_, rfl, ?_⟩))
                go_ret
                exact ⟨by first | rfl | (simp [zaj, zai] <;> rfl) | (simp [*, zaj, zai] <;> rfl), by repeat (first | (with_reducible first | exact HB.out | apply zac | apply zab | apply zad) | exact HB.out)⟩
               ·rw [if_neg c61] at H
                have c61b0 : (t310 == t299) = false := beq_eq_false_iff_ne.mpr c61
                have c61b1 : (t310 != t299) = true := bne_iff_ne.mpr c61
                obtain rfl := Option.some.inj H
                go_wp2_with (first | ((with_reducible refine zal (f := 20) rfl ?_); refine zbl (some 90) rfl rfl Try.func20 (by kernel_rfl) rfl #[.slice Ao47 t300.length co47, .int .i64 1] rfl (by (try simp only [List.map_toArray, List.map_cons, List.map_nil]); first | done | rfl | (simp only [List.length_drop, List.length_take]; rfl)) ?_; (with_reducible refine (laws_heldIntS.calls kj45 _ _ t300 1 t310 _ ?side1 ?side2 A59.out).mono ?_); (case side1 => repeat (first | exact (Kd.R_reads' HO_7.out).2.2 | (with_reducible refine Kd.C_alloc ?_ _) | (with_reducible refine Kd.C_drewN ?_ _) | (with_reducible refine Kd.C_drew ?_))); (case side2 => exact (Kd.R_reads' HO_7.out).2.1); rintro e w' ⟨rfl, ⟨nd, rfl⟩⟩; refine ⟨_, rfl, ?_⟩))
                go_ret
                exact ⟨by first | rfl | (simp [zaj, zai] <;> rfl) | (simp [*, zaj, zai] <;> rfl), by repeat (first | (with_reducible first | exact HB.out | apply zac | apply zab | apply zad) | exact HB.out)⟩
          ·rw [if_neg c43] at H
           have c43b0 : (t301 == t299) = false := beq_eq_false_iff_ne.mpr c43
           have c43b1 : (t301 != t299) = true := bne_iff_ne.mpr c43
           obtain rfl := Option.some.inj H
           obtain ⟨Ao62, co62, eo62⟩ := Kd.R_slice HO_7.out
           subst eo62
           go_wp2_with (first | ((with_reducible refine zal (f := 19) rfl ?_); refine zbl (some 64) rfl rfl Try.func19 (by kernel_rfl) rfl #[.slice Ao62 t287.length co62, .int .i64 1] rfl (by (try simp only [List.map_toArray, List.map_cons, List.map_nil]); first | done | rfl | (simp only [List.length_drop, List.length_take]; rfl)) ?_; (with_reducible refine (laws_markIntS.calls kj25 (fun k_ => some k_ = (.slice Ao62 t287.length co62 : Value).ownBlock) (.slice Ao62 t287.length co62) t287 1 t299 t300 w _ ?side1 ?side2 A38.out).mono ?_); (case side1 => repeat (first | (with_reducible first | exact HB.out | apply zac | apply zab | apply zad) | exact HB.out)); (case side2 => exact Kd.R_tight rfl HO_7.out); rintro e w63 ⟨rfl, hy0, hb, hkp⟩; refine ⟨_, rfl, ?_⟩; have n0_ := zaa.mk (Kd.R_mono (ok' := fun k_ => some k_ ≠ (.slice Ao62 t287.length co62 : Value).ownBlock) (Kd.R_keptB (HO_4.out) hkp (fun k_ hk_ hs_ => (hk_) hs_)) (fun k_ hk_ => hk_.1)); have n1_ := zaa.mk (Kd.R_reok rfl hy0 (fun k_ e_ => HO_7.out.1 k_ e_)); have n2_ := zaa.mk (hb); clear HO_4; clear HO_7; clear HB; have HO_4 := n0_; have HO_7 := n1_; have HB := n2_; clear n0_ n1_ n2_; (try clear hb); (try clear hkp); (try clear hy0)) | ((with_reducible refine zal (f := 20) rfl ?_); refine zbl (some 67) rfl rfl Try.func20 (by kernel_rfl) rfl #[.slice Ao62 t300.length co62, .int .i64 1] rfl (by (try simp only [List.map_toArray, List.map_cons, List.map_nil]); first | done | (rw [show t300.length = t287.length from (Kd.R_reads' HO_7.out).1.symm] <;> rfl) | rfl | (simp only [List.length_drop, List.length_take]; rfl)) ?_; (with_reducible refine (laws_heldIntS.calls kj25 _ _ t300 1 t301 _ ?side1 ?side2 A39.out).mono ?_); (case side1 => repeat (first | exact (Kd.R_reads' HO_7.out).2.2 | (with_reducible refine Kd.C_alloc ?_ _) | (with_reducible refine Kd.C_drewN ?_ _) | (with_reducible refine Kd.C_drew ?_))); (case side2 => rw [show t300.length = t287.length from (Kd.R_reads' HO_7.out).1.symm]; exact (Kd.R_reads' HO_7.out).2.1); rintro e w' ⟨rfl, ⟨nd, rfl⟩⟩; refine ⟨_, rfl, ?_⟩))
           go_ret
           exact ⟨by first | rfl | (simp [zaj, zai] <;> rfl) | (simp [*, zaj, zai] <;> rfl), by repeat (first | (with_reducible first | exact HB.out | apply zac | apply zab | apply zad) | exact HB.out)⟩
     ·replace c24 := Bool.eq_false_iff.mpr c24
      subst c24
      have H1 : (some false) = some r := by rw [if_neg (show ¬ (false = true) by decide)] at H; exact H
      clear H
      have H := H1
      clear H1
      obtain rfl := Option.some.inj H
      go_wp2_with (first | ((with_reducible refine zal (f := 14) rfl ?_); refine zbl (some 43) rfl rfl Try.func14 (by kernel_rfl) rfl #[.slice A0 l0.length c0] rfl (by (try simp only [List.map_toArray, List.map_cons, List.map_nil]); first | done | rfl | (simp only [List.length_drop, List.length_take]; rfl)) ?_; (with_reducible refine (laws_toStringS.calls kj7 _ _ l0 t292 _ ?side1 ?side2 A22.out).mono ?_); (case side1 => repeat (first | exact (Kd.C_below HR0.out HB.out) | (with_reducible refine Kd.C_alloc ?_ _) | (with_reducible refine Kd.C_drewN ?_ _) | (with_reducible refine Kd.C_drew ?_))); (case side2 => exact HC0.out); rintro e w64 ⟨v293, rfl, ho0, hb⟩; refine ⟨_, rfl, ?_⟩; have n0_ := zaa.mk (Kd.R_below (by (with_reducible repeat (first | apply Kd.R_alloc | apply Kd.R_drewN | apply Kd.R_drew)); exact HO_4.out) hb); have n1_ := zaa.mk (Kd.R_elder' (by (with_reducible repeat (first | apply Kd.R_alloc | apply Kd.R_drewN | apply Kd.R_drew)); exact HO_6.out) (Kd.R_base ho0) hb); have n2_ := zaa.mk (Kd.R_below (by (with_reducible repeat (first | apply Kd.R_alloc | apply Kd.R_drewN | apply Kd.R_drew)); exact HO_7.out) hb); have n3_ := zaa.mk (Kd.R_lower (Kd.R_new' ho0 (Kd.R_lt (by (with_reducible repeat (first | apply Kd.R_alloc | apply Kd.R_drewN | apply Kd.R_drew)); exact HO_6.out))) (zah (by repeat (first | (with_reducible first | exact HB.out | apply zac | apply zab | apply zad) | exact HB.out)))); have n4_ := zaa.mk (zaf (by repeat (first | (with_reducible first | exact HB.out | apply zac | apply zab | apply zad) | exact HB.out)) hb); clear HO_4; clear HO_6; clear HO_7; clear HB; have HO_4 := n0_; have HO_6 := n1_; have HO_7 := n2_; have HO294 := n3_; have HB := n4_; clear n0_ n1_ n2_ n3_ n4_; (try clear hb); (try clear hb2); (try clear hk); (try clear hi); (try clear ho0); obtain ⟨Ao65, co65, eo65⟩ := Kd.R_slice HO294.out; subst eo65) | ((with_reducible refine zal (f := 17) rfl ?_); refine zbl (some 44) rfl rfl Try.func17 (by kernel_rfl) rfl #[.slice Ao13 t284.length co13, .slice Ao65 t292.length co65] rfl (by (try simp only [List.map_toArray, List.map_cons, List.map_nil]); first | done | rfl | (simp only [List.length_drop, List.length_take]; rfl)) ?_; (with_reducible refine (laws_eqStringS.calls kj7 _ _ t284 _ _ t292 false _ ?side1 ?side2 ?side3 ?side4 A23.out).mono ?_); (case side1 => repeat (first | exact (Kd.R_reads' HO_6.out).2.2 | (with_reducible refine Kd.C_alloc ?_ _) | (with_reducible refine Kd.C_drewN ?_ _) | (with_reducible refine Kd.C_drew ?_))); (case side2 => exact (Kd.R_reads' HO_6.out).2.1); (case side3 => repeat (first | exact (Kd.R_reads' HO294.out).2.2 | (with_reducible refine Kd.C_alloc ?_ _) | (with_reducible refine Kd.C_drewN ?_ _) | (with_reducible refine Kd.C_drew ?_))); (case side4 => exact (Kd.R_reads' HO294.out).2.1); rintro e w' ⟨rfl, ⟨nd, rfl⟩⟩; refine ⟨_, rfl, ?_⟩))
      go_ret
      exact ⟨by first | rfl | (simp [zaj, zai] <;> rfl) | (simp [*, zaj, zai] <;> rfl), by repeat (first | (with_reducible first | exact HB.out | apply zac | apply zab | apply zad) | exact HB.out)⟩
end Go.Proofs.Ytickdcegnlldjaa.LF
namespace Go.Proofs.Ytickdcegnlldjaa.Hd
open Go.RowKit Go.PW.PrintWords Go.PW.PrintLast Go.PW.PrintMore Go.Proofs.Ytickdcegnlldjaa.PB
theorem sz_loop (l : List ByteArray) (hl : l.length ≤ 1048576) (hs : ∀ s ∈ l, s.size ≤ 9223372036854775807) : ∀ m i (a : Int), i + m = l.length → 0 ≤ a → a ≤ 1048576 → (∀ j, j < i → ∀ s, l[j]? = some s → s.size ≤ 1048576) → ∃ v, Evs (fun k => laws_szStringS.l0 k l a (i : Int)) v ∧ (v < 0 ∨ (smallP l ∧ 0 ≤ v ∧ v ≤ a)) := by
 intro m
 induction m with
 | zero =>
  intro i a hi h0 h1 hj
  refine ⟨a, Evs.step (h := fun _ => some a) (fun k => ?_) (Evs.const _), .inr ⟨⟨hl, fun s hs => ?_⟩, h0, Int.le_refl _⟩⟩
  ·conv => lhs; unfold laws_szStringS.l0
   rw [if_neg (by omega)]
  ·obtain ⟨j, hj2, e⟩ := List.mem_iff_getElem.1 hs
   exact hj j (by omega) s (by rw [List.getElem?_eq_getElem hj2, e])
 | succ m ih =>
  intro i a hi h0 h1 hj
  obtain ⟨s, hsi⟩ : ∃ s, l[i]? = some s := ⟨_, List.getElem?_eq_getElem (by omega)⟩
  have hsz := hs s (List.mem_of_getElem? hsi)
  by_cases hneg : a - (s.size : Int) < 0
  ·refine ⟨-1, Evs.step (h := fun _ => some (-1)) (fun k => ?_) (Evs.const _), .inl (by omega)⟩
   conv => lhs; unfold laws_szStringS.l0
   rw [if_pos (by omega), if_pos (by omega), zbz hsi, zaq (by omega) (by omega), if_pos hneg]
  ·obtain ⟨v, hv, hor⟩ := ih (i + 1) (a - (s.size : Int)) (by omega) (by omega) (by omega) (fun j hj1 s1 h1 => by
    rcases Nat.lt_or_eq_of_le (Nat.lt_succ_iff.1 hj1) with h2 | h2
    ·exact hj j h2 s1 h1
    ·subst h2
     rw [hsi] at h1
     have := Option.some.inj h1
     subst this
     omega)
   refine ⟨v, Evs.step (h := fun k => laws_szStringS.l0 k l (a - (s.size : Int)) ((i + 1 : Nat) : Int)) (fun k => ?_) hv, ?_⟩
   ·conv => lhs; unfold laws_szStringS.l0
    rw [if_pos (by omega), if_pos (by omega), zbz hsi, zaq (x := a - (s.size : Int)) (by omega) (by omega), if_neg hneg, zay (by omega)]
   ·rcases hor with h | ⟨h2, h3, h4⟩
    ·exact .inl h
    ·exact .inr ⟨h2, h3, by omega⟩
theorem sz_ev (l : List ByteArray) (hf : fits l) (a : Int) (h0 : 0 ≤ a) (h1 : a ≤ 1048576) : ∃ v, Evs (fun k => laws_szStringS.f k l a) v ∧ (v < 0 ∨ (smallP l ∧ 0 ≤ v ∧ v ≤ a)) := by
 have hl := hf.1
 by_cases hneg : a - (l.length : Int) < 0
 ·refine ⟨-1, Evs.congr (h := fun _ => some (-1)) (fun k => ?_) (Evs.const _), .inl (by omega)⟩
  unfold laws_szStringS.f
  rw [zaq (by omega) (by omega), if_pos hneg]
 ·obtain ⟨v, hv, hor⟩ := sz_loop l (by omega) hf.2 l.length 0 (a - (l.length : Int)) (by omega) (by omega) (by omega) (fun j hj => by omega)
  refine ⟨v, Evs.congr (fun k => ?_) hv, ?_⟩
  ·unfold laws_szStringS.f
   rw [zaq (by omega) (by omega), if_neg hneg]
   rfl
  ·rcases hor with h | ⟨h2, h3, h4⟩
   ·exact .inl h
   ·exact .inr ⟨h2, h3, by omega⟩
theorem to_loop (l : List ByteArray) (hl : l.length ≤ 1048576) : ∀ m i, i + m = l.length → Evs (fun k => laws_toStringS.l0 k l (l.take i ++ List.replicate m (⟨#[]⟩ : ByteArray)) (i : Int)) l := by
 intro m
 induction m with
 | zero =>
  intro i hi
  refine Evs.step (h := fun _ => some l) (fun k => ?_) (Evs.const _)
  conv => lhs; unfold laws_toStringS.l0
  rw [if_neg (by omega), List.take_of_length_le (by omega)]
  simp
 | succ m ih =>
  intro i hi
  obtain ⟨s, hsi⟩ : ∃ s, l[i]? = some s := ⟨_, List.getElem?_eq_getElem (by omega)⟩
  refine Evs.step (h := fun k => laws_toStringS.l0 k l (l.take (i + 1) ++ List.replicate m (⟨#[]⟩ : ByteArray)) ((i + 1 : Nat) : Int)) (fun k => ?_) (ih (i + 1) (by omega))
  conv => lhs; unfold laws_toStringS.l0
  have hset : (l.take i ++ List.replicate (m + 1) (⟨#[]⟩ : ByteArray)).set i s = l.take (i + 1) ++ List.replicate m (⟨#[]⟩ : ByteArray) := by
   rw [List.set_append_right _ _ (by simp; omega), show i - (l.take i).length = 0 by simp; omega, List.replicate_succ, List.set_cons_zero, List.take_add_one, hsi]
   simp
  rw [if_pos (by omega), if_pos (by omega), if_pos (by simp; omega), zbz hsi, Int.toNat_natCast, hset, zay (by omega)]
theorem toS_ev (l : List ByteArray) (hl : l.length ≤ 1048576) : Evs (fun k => laws_toStringS.f k l) l := by
 refine Evs.congr (fun k => ?_) (to_loop l hl l.length 0 (by omega))
 unfold laws_toStringS.f
 rw [if_pos (by omega), if_pos (by omega), Int.toNat_natCast]
 simp
theorem eq_loop (p q : List ByteArray) (hl : p.length = q.length) (hb : p.length ≤ 1048576) : ∀ m i, i + m = p.length → p.take i = q.take i → Evs (fun k => laws_eqStringS.l0 k p q (i : Int)) (decide (p = q)) := by
 intro m
 induction m with
 | zero =>
  intro i hi ht
  have e : p = q := by
   rw [show i = p.length by omega, List.take_length, hl, List.take_length] at ht
   exact ht
  refine Evs.step (h := fun _ => some (decide (p = q))) (fun k => ?_) (Evs.const _)
  conv => lhs; unfold laws_eqStringS.l0
  rw [if_neg (by omega), decide_eq_true e]
 | succ m ih =>
  intro i hi ht
  by_cases he : p[i] = q[i]
  ·refine Evs.step (h := fun k => laws_eqStringS.l0 k p q ((i + 1 : Nat) : Int)) (fun k => ?_) (ih (i + 1) (by omega) (by
    rw [List.take_add_one, List.take_add_one, ht, List.getElem?_eq_getElem (by omega), List.getElem?_eq_getElem (by omega), he]))
   conv => lhs; unfold laws_eqStringS.l0
   rw [if_pos (by omega), if_pos (by omega), if_pos (by omega), rdOf_get p i (by omega), rdOf_get q i (by omega), if_pos (toList_inj.2 he), zay (by omega)]
  ·have hne : p ≠ q := by rintro rfl; exact he rfl
   refine Evs.step (h := fun _ => some (decide (p = q))) (fun k => ?_) (Evs.const _)
   conv => lhs; unfold laws_eqStringS.l0
   rw [if_pos (by omega), if_pos (by omega), if_pos (by omega), rdOf_get p i (by omega), rdOf_get q i (by omega), if_neg (fun h => he (toList_inj.1 h)), decide_eq_false hne]
theorem eqS_ev (p q : List ByteArray) (hb : p.length ≤ 1048576) : Evs (fun k => laws_eqStringS.f k p q) (decide (p = q)) := by
 by_cases h : p.length = q.length
 ·refine Evs.congr (fun k => ?_) (eq_loop p q h hb p.length 0 (by omega) (by simp))
  unfold laws_eqStringS.f
  rw [if_pos (by omega)]
  rfl
 ·have hne : p ≠ q := by rintro rfl; exact h rfl
  refine Evs.congr (h := fun _ => some (decide (p = q))) (fun k => ?_) (Evs.const _)
  unfold laws_eqStringS.f
  rw [if_neg (by omega), decide_eq_false hne]
theorem eqS_same (p : List ByteArray) (hb : p.length ≤ 1048576) : Evs (fun k => laws_eqStringS.f k p p) true := by
 have := eqS_ev p p hb
 rwa [decide_eq_true rfl] at this
theorem append_size (a b : ByteArray) : (a ++ b).size = a.size + b.size := by simp
theorem mark_loop : ∀ (B n : Nat) (out : ByteArray), n ≤ B → out.size + n ≤ 1099511627776 → ∃ s, Evs (fun k => laws_markText.l0 k (n : Int) out) s
 | 0, n, out, hn, hb => by
  refine ⟨(⟨#[109]⟩ : ByteArray) ++ out, Evs.step (h := fun _ => some ((⟨#[109]⟩ : ByteArray) ++ out)) (fun k => ?_) (Evs.const _)⟩
  conv => lhs; unfold laws_markText.l0
  rw [if_neg (by omega), if_pos (by omega)]
 | B + 1, n, out, hn, hb => by
  rcases Nat.eq_zero_or_pos n with h0 | h0
  ·subst h0
   refine ⟨(⟨#[109]⟩ : ByteArray) ++ out, Evs.step (h := fun _ => some ((⟨#[109]⟩ : ByteArray) ++ out)) (fun k => ?_) (Evs.const _)⟩
   conv => lhs; unfold laws_markText.l0
   rw [if_neg (by omega), if_pos (by omega)]
  ·have hsz : (strOfNums [(wrap64 (48 + (Int.tmod (n : Int) 10))) % 256]).size = 1 := rfl
   obtain ⟨s, hs⟩ := mark_loop B (n / 10) (strOfNums [(wrap64 (48 + (Int.tmod (n : Int) 10))) % 256] ++ out) (by omega) (by rw [append_size, hsz]; omega)
   refine ⟨s, Evs.step (h := fun k => laws_markText.l0 k ((n / 10 : Nat) : Int) (strOfNums [(wrap64 (48 + (Int.tmod (n : Int) 10))) % 256] ++ out)) (fun k => ?_) hs⟩
   conv => lhs; unfold laws_markText.l0
   have hd : Int.tdiv (n : Int) 10 = ((n / 10 : Nat) : Int) := by rw [Int.tdiv_eq_ediv_of_nonneg (by omega)]; omega
   rw [if_pos (by omega)]
   simp only [Option.bind_some]
   rw [hsz, if_pos (by omega), hd, zaq (x := ((n / 10 : Nat) : Int)) (by omega) (by omega)]
theorem mark_ex (n : Nat) : ∃ s, n ≤ 1099511627776 → Evs (fun k => laws_markText.f k (n : Int)) s := by
 by_cases hn : n ≤ 1099511627776
 ·rcases Nat.eq_zero_or_pos n with h0 | h0
  ·subst h0
   refine ⟨⟨#[109, 48]⟩, fun _ => Evs.congr (h := fun _ => some (⟨#[109, 48]⟩ : ByteArray)) (fun k => ?_) (Evs.const _)⟩
   unfold laws_markText.f
   rw [if_pos (by omega)]
  ·obtain ⟨s, hs⟩ := mark_loop n n ⟨#[]⟩ (Nat.le_refl _) (by show 0 + n ≤ _; omega)
   refine ⟨s, fun _ => Evs.congr (fun k => ?_) hs⟩
   unfold laws_markText.f
   rw [if_neg (by omega)]
 ·exact ⟨⟨#[]⟩, fun h => absurd h hn⟩
noncomputable def mkT (n : Nat) : ByteArray := (mark_ex n).choose
theorem mkT_ev (n : Nat) (hn : n ≤ 1099511627776) : Evs (fun k => laws_markText.f k (n : Int)) (mkT n) := (mark_ex n).choose_spec hn
noncomputable def marksOf (a n : Nat) : List ByteArray := (List.range n).map fun i => mkT (a + i)
theorem marksOf_length (a n : Nat) : (marksOf a n).length = n := by simp [marksOf]
theorem markS_loop (l : List ByteArray) (hl : l.length ≤ 1048576) (a : Nat) (ha : a ≤ 2097153) : ∀ m i, i + m = l.length → Evs (fun k => laws_markStringS.l0 k (marksOf a i ++ l.drop i) ((a + i : Nat) : Int) (i : Int)) (((a + l.length : Nat) : Int), marksOf a l.length) := by
 intro m
 induction m with
 | zero =>
  intro i hi
  obtain rfl : i = l.length := by omega
  refine Evs.step (h := fun _ => some (((a + l.length : Nat) : Int), marksOf a l.length)) (fun k => ?_) (Evs.const _)
  conv => lhs; unfold laws_markStringS.l0
  rw [if_neg (by simp [marksOf_length])]
  simp
 | succ m ih =>
  intro i hi
  have hset : (marksOf a i ++ l.drop i).set i (mkT (a + i)) = marksOf a (i + 1) ++ l.drop (i + 1) := by
   rw [List.set_append_right _ _ (by rw [marksOf_length]; exact Nat.le_refl _), marksOf_length, Nat.sub_self, List.drop_eq_getElem_cons (by omega), List.set_cons_zero]
   unfold marksOf
   rw [List.range_succ, List.map_append]
   simp
  refine Evs.step (h := fun k => (laws_markText.f k ((a + i : Nat) : Int)).bind fun t220 => laws_markStringS.l0 k ((marksOf a i ++ l.drop i).set i t220) ((a + (i + 1) : Nat) : Int) ((i + 1 : Nat) : Int)) (fun k => ?_) (Evs.bind (mkT_ev (a + i) (by omega)) (by rw [hset]; exact ih (i + 1) (by omega)))
  conv => lhs; unfold laws_markStringS.l0
  rw [if_pos (by simp [marksOf_length]; omega)]
  congr 1
  funext t
  have e : wrap64 (((a + i : Nat) : Int) + 1) = ((a + (i + 1) : Nat) : Int) := by rw [zaq (by omega) (by omega)]; omega
  rw [if_pos (by omega), Int.toNat_natCast, zay (i := i) (by omega), e]
theorem markS_ev (l : List ByteArray) (hl : l.length ≤ 1048576) (a : Nat) (ha : a ≤ 2097153) : Evs (fun k => laws_markStringS.f k l (a : Int)) (((a + l.length : Nat) : Int), marksOf a l.length) := by
 have := markS_loop l hl a ha l.length 0 (by omega)
 refine Evs.congr (fun k => ?_) this
 unfold laws_markStringS.f
 simp [marksOf]
theorem eqI_loop (p : List Int) (hb : p.length ≤ 1048576) : ∀ m i, i + m = p.length → Evs (fun k => laws_eqIntS.l0 k p p (i : Int)) true := by
 intro m
 induction m with
 | zero =>
  intro i hi
  refine Evs.step (h := fun _ => some true) (fun k => ?_) (Evs.const _)
  conv => lhs; unfold laws_eqIntS.l0
  rw [if_neg (by omega)]
 | succ m ih =>
  intro i hi
  refine Evs.step (fun k => ?_) (ih (i + 1) (by omega))
  conv => lhs; unfold laws_eqIntS.l0
  rw [if_pos (by omega), if_pos (by omega), if_pos (by omega), if_pos rfl, zay (by omega)]
theorem eqI_same (p : List Int) (hb : p.length ≤ 1048576) : Evs (fun k => laws_eqIntS.f k p p) true := by
 refine Evs.congr (fun k => ?_) (eqI_loop p hb p.length 0 (by omega))
 unfold laws_eqIntS.f
 rw [if_pos rfl]
 rfl
def marksI (a n : Nat) : List Int := (List.range n).map fun i => ((a + i : Nat) : Int)
theorem marksI_length (a n : Nat) : (marksI a n).length = n := by simp [marksI]
theorem markI_loop (l : List Int) (hl : l.length ≤ 1048576) (a : Nat) (ha : a ≤ 2097153) : ∀ m i, i + m = l.length → Evs (fun k => laws_markIntS.l0 k (marksI a i ++ l.drop i) ((a + i : Nat) : Int) (i : Int)) (((a + l.length : Nat) : Int), marksI a l.length) := by
 intro m
 induction m with
 | zero =>
  intro i hi
  obtain rfl : i = l.length := by omega
  refine Evs.step (h := fun _ => some (((a + l.length : Nat) : Int), marksI a l.length)) (fun k => ?_) (Evs.const _)
  conv => lhs; unfold laws_markIntS.l0
  rw [if_neg (by simp [marksI_length])]
  simp
 | succ m ih =>
  intro i hi
  have hset : (marksI a i ++ l.drop i).set i ((a + i : Nat) : Int) = marksI a (i + 1) ++ l.drop (i + 1) := by
   rw [List.set_append_right _ _ (by rw [marksI_length]; exact Nat.le_refl _), marksI_length, Nat.sub_self, List.drop_eq_getElem_cons (by omega), List.set_cons_zero]
   unfold marksI
   rw [List.range_succ, List.map_append]
   simp
  have hnx := ih (i + 1) (by omega)
  rw [← hset] at hnx
  refine Evs.step (fun k => ?_) hnx
  conv => lhs; unfold laws_markIntS.l0
  have e : wrap64 (((a + i : Nat) : Int) + 1) = ((a + (i + 1) : Nat) : Int) := by rw [zaq (by omega) (by omega)]; omega
  rw [if_pos (by simp [marksI_length]; omega), if_pos (by omega), Int.toNat_natCast, zay (i := i) (by omega), e]
theorem markI_ev (l : List Int) (hl : l.length ≤ 1048576) (a : Nat) (ha : a ≤ 2097153) : Evs (fun k => laws_markIntS.f k l (a : Int)) (((a + l.length : Nat) : Int), marksI a l.length) := by
 have := markI_loop l hl a ha l.length 0 (by omega)
 refine Evs.congr (fun k => ?_) this
 unfold laws_markIntS.f
 simp [marksI]
theorem heldI_loop (n : Nat) (hl : n ≤ 1048576) (a : Nat) (ha : a ≤ 2097153) : ∀ m i, i + m = n → Evs (fun k => laws_heldIntS.l0 k (marksI a n) ((a + i : Nat) : Int) (i : Int)) ((a + n : Nat) : Int) := by
 intro m
 induction m with
 | zero =>
  intro i hi
  obtain rfl : i = n := by omega
  refine Evs.step (h := fun _ => some ((a + i : Nat) : Int)) (fun k => ?_) (Evs.const _)
  conv => lhs; unfold laws_heldIntS.l0
  rw [if_neg (by simp [marksI_length])]
 | succ m ih =>
  intro i hi
  have hget : rd (marksI a n) (i : Int) = ((a + i : Nat) : Int) := by
   unfold rd marksI
   rw [Int.toNat_natCast, List.getD_eq_getElem?_getD, List.getElem?_map, List.getElem?_range (by omega)]
   rfl
  refine Evs.step (fun k => ?_) (ih (i + 1) (by omega))
  conv => lhs; unfold laws_heldIntS.l0
  have e : wrap64 (((a + i : Nat) : Int) + 1) = ((a + (i + 1) : Nat) : Int) := by rw [zaq (by omega) (by omega)]; omega
  rw [if_pos (by rw [marksI_length]; omega), if_pos (by omega), hget, if_pos rfl, zay (i := i) (by omega), e]
theorem heldI_ev (n : Nat) (hl : n ≤ 1048576) (a : Nat) (ha : a ≤ 2097153) : Evs (fun k => laws_heldIntS.f k (marksI a n) (a : Int)) ((a + n : Nat) : Int) := heldI_loop n hl a ha n 0 (by omega)
end Go.Proofs.Ytickdcegnlldjaa.Hd
namespace Go.Proofs.Ytickdcegnlldjaa.LF
open Go.RowKit Go.PW.PrintWords Go.PW.PrintLast Go.PW.PrintMore Go.Proofs.Ytickdcegnlldjaa.PB Go.Proofs.Ytickdcegnlldjaa.Hd
theorem laws_FnExactNearFirst.j0_eq (k : Nat) (x0 : List ByteArray) (x4 : List Int) (x5 : Bool) (x6 : List ByteArray) (x7 : List Int) (x8 : Bool) (x40 : Bool) : laws_FnExactNearFirst.j0 (k + 1) x0 x4 x5 x6 x7 x8 x40 = (if x40 = true then (some false) else ((laws_toStringS.f k x0).bind fun t292 => ((laws_eqStringS.f k x6 t292).bind fun t295 => (if t295 = true then ((laws_markStringS.f k x6 1).bind fun bt296 => (if bt296.1 < 0 then (laws_FnExactNearFirst.j1 k x0 x4 x5 x7 true) else ((laws_eqIntS.f k x7 x4).bind fun t298 => (if t298 = true then (laws_FnExactNearFirst.j1 k x0 x4 x5 x7 (x8 != x5)) else (laws_FnExactNearFirst.j1 k x0 x4 x5 x7 true))))) else (some false))))) := by simp only [laws_FnExactNearFirst.j0]
theorem laws_FnExactNearFirst.j1_eq (k : Nat) (x0 : List ByteArray) (x4 : List Int) (x5 : Bool) (x7 : List Int) (x61 : Bool) : laws_FnExactNearFirst.j1 (k + 1) x0 x4 x5 x7 x61 = (if x61 = true then (some false) else ((laws_markIntS.f k x7 1).bind fun bt299 => ((laws_heldIntS.f k bt299.2 1).bind fun t301 => (if t301 < 0 then (some false) else (if t301 = bt299.1 then ((laws_toStringS.f k x0).bind fun t302 => ((impl_NearFirst.f t302).bind fun bt305 => ((laws_eqIntS.f k bt305.1 x4).bind fun t309 => (if t309 = true then (laws_FnExactNearFirst.j2 k bt299.2 bt299.1 (bt305.2 != x5)) else (laws_FnExactNearFirst.j2 k bt299.2 bt299.1 true))))) else (some false)))))) := by simp only [laws_FnExactNearFirst.j1]
theorem laws_FnExactNearFirst.j2_eq (k : Nat) (x7 : List Int) (x10 : Int) (x87 : Bool) : laws_FnExactNearFirst.j2 (k + 1) x7 x10 x87 = (if x87 = true then (some false) else ((laws_heldIntS.f k x7 1).bind fun t310 => (if t310 < 0 then (some false) else (if t310 = x10 then (some true) else (some false))))) := by simp only [laws_FnExactNearFirst.j2]
theorem len_res (l0 : List ByteArray) : (zcf l0).1.length ≤ 1048576 := by
 have := firstF_len l0
 omega
theorem impl_res (l0 : List ByteArray) (hs_l0 : smallP l0) : impl_NearFirst.f l0 = some (zcf l0) := by
 unfold impl_NearFirst.f
 rw [if_pos ((smallB_iff _).2 hs_l0)]
theorem j2_ev (n : Nat) (hn : n ≤ 1048576) : Evs (fun k => laws_FnExactNearFirst.j2 k (marksI 1 n) ((1 + n : Nat) : Int) false) true := by
 refine Evs.step (fun k => laws_FnExactNearFirst.j2_eq k _ _ _) ?_
 refine Evs.neg (by simp) (Evs.bind (heldI_ev n hn 1 (by omega)) (Evs.neg (by omega) (Evs.pos rfl (Evs.const _))))
theorem j1_ev (l0 : List ByteArray) (hs_l0 : smallP l0) : Evs (fun k => laws_FnExactNearFirst.j1 k l0 (zcf l0).1 (zcf l0).2 (zcf l0).1 false) true := by
 have hl := len_res l0
 have hi := impl_res l0 hs_l0
 refine Evs.step (fun k => laws_FnExactNearFirst.j1_eq k _ _ _ _ _) ?_
 refine Evs.neg (by simp) (Evs.bind (markI_ev _ hl 1 (by omega)) (Evs.bind (heldI_ev _ hl 1 (by omega)) (Evs.neg (by omega) (Evs.pos rfl (Evs.bind (toS_ev l0 hs_l0.1) (Evs.bindS hi (Evs.bind (eqI_same _ hl) (Evs.pos rfl ?_))))))))
 have e : ((zcf l0).2 != (zcf l0).2) = false := by simp
 try dsimp only
 rw [e]
 exact j2_ev _ hl
theorem j0_ev (l0 : List ByteArray) (hs_l0 : smallP l0) : Evs (fun k => laws_FnExactNearFirst.j0 k l0 (zcf l0).1 (zcf l0).2 l0 (zcf l0).1 (zcf l0).2 false) true := by
 have hl := len_res l0
 refine Evs.step (fun k => laws_FnExactNearFirst.j0_eq k _ _ _ _ _ _ _) ?_
 refine Evs.neg (by simp) (Evs.bind (toS_ev l0 hs_l0.1) (Evs.bind (eqS_same l0 hs_l0.1) (Evs.pos rfl (Evs.bind (markS_ev l0 hs_l0.1 (1) (by have := hs_l0.1; omega)) (Evs.neg (by dsimp only; omega) (Evs.bind (eqI_same _ hl) (Evs.pos rfl ?_)))))))
 have e : ((zcf l0).2 != (zcf l0).2) = false := by simp
 try dsimp only
 rw [e]
 exact j1_ev l0 hs_l0
theorem law_ev (l0 : List ByteArray) (hf_l0 : fits l0) : Evs (fun k => laws_FnExactNearFirst.f k l0) true := by
 unfold laws_FnExactNearFirst.f
 obtain ⟨v0, e0, h0⟩ := sz_ev l0 hf_l0 1048576 (by omega) (by omega)
 refine Evs.bind e0 ?_
 rcases h0 with h0 | ⟨hs_l0, g0, k0⟩
 ·exact Evs.pos h0 (Evs.const _)
 refine Evs.neg (by omega) ?_
 have hl := len_res l0
 have hi := impl_res l0 hs_l0
 refine Evs.bind (toS_ev l0 hs_l0.1) (Evs.bind (NearFirst_ev l0 hs_l0) (Evs.bind (toS_ev l0 hs_l0.1) (Evs.bindS hi (Evs.bind (eqI_same _ hl) (Evs.pos rfl ?_)))))
 have e : ((zcf l0).2 != (zcf l0).2) = false := by simp
 try dsimp only
 rw [e]
 exact j0_ev l0 hs_l0
end Go.Proofs.Ytickdcegnlldjaa.LF
