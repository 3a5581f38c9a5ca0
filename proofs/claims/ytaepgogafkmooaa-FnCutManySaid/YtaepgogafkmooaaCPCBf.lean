/- Part 6 of the proof of FnCutMany: what the program's functions and the reference's compute. -/
import Derived.Test.YtaepgogafkmooaaProg
import Derived.Below
import Derived.Deep.Draws
import Derived.Deep.AppendLies
import Derived.Maps.AppendAt
import Derived.OwnWalk
import Derived.Laws.BytesArg
import Derived.Laws.MakeOwn
import Derived.Laws.OwnMore
import Derived.Deep.OwnRows
import Derived.Tactics
import Derived.Lib.ConvBytes
import Derived.Laws.Slices
import Derived.WalkKit
import Derived.KernelRfl
import Derived.RowKit3
import Derived.Deep.LoopGhost
import Derived.Deep.QuietTactic
import Derived.BigQuiet
import Derived.WideLaws
import Derived.Deep.DeepCutAuto
import Derived.Deep.CutBlock
import Derived.Deep.RegionHeld3
import Derived.Laws.Rows
import Derived.Lib.AppendStr
import Derived.ArgAppend
import Derived.Laws.IdiomCopy
import Derived.OrdersHeld
import Derived.Laws.BitsLemmas
import Derived.RowKit
import Derived.Test.YtaepgogafkmooaaCPCBe
namespace Go.Proofs.Ytaepgogafkmooaa.Hd
open Go.RowKit Go.Proofs.YtaepgogafkmooaaW.PrintWords Go.Proofs.YtaepgogafkmooaaW.PrintLast Go.Proofs.YtaepgogafkmooaaW.PrintMore Go.Proofs.Ytaepgogafkmooaa.PB
set_option linter.unusedVariables false
set_option linter.unusedSimpArgs false
abbrev Wl := S79
def runC (d : Nat → Bool) : Nat → List (Nat × Nat) × Option Nat
 | 0 => ([], none)
 | n + 1 => match runC d n with
  | (c, none) => (c, if d n then some n else none)
  | (c, some f) => if d n then (c, some f) else (c ++ [(f, n - f)], none)
def openR (n : Nat) : Option Nat → List (Nat × Nat)
 | none => []
 | some f => [(f, n - f)]
def runs (d : Nat → Bool) (n : Nat) : List (Nat × Nat) := (runC d n).1 ++ openR n (runC d n).2
theorem runC_inv (d : Nat → Bool) : ∀ n, (∀ x ∈ (runC d n).1, x.1 + x.2 ≤ n ∧ 1 ≤ x.2) ∧ (∀ f, (runC d n).2 = some f → f < n) ∧ (runC d n).1.length + (if (runC d n).2.isSome = true then 1 else 0) ≤ n
 | 0 => by simp [runC]
 | n + 1 => by
  obtain ⟨h1, h2, h3⟩ := runC_inv d n
  rcases hR : runC d n with ⟨c, o⟩
  rw [hR] at h1 h2 h3
  cases o with
  | none =>
   have e : runC d (n + 1) = (c, if d n then some n else none) := by simp only [runC, hR]
   rw [e]
   refine ⟨fun x hx => ?_, fun f hf => ?_, ?_⟩
   ·have := h1 x hx; omega
   ·dsimp only at hf
    split at hf
    ·injection hf with hf; omega
    ·cases hf
   ·dsimp only at h3 ⊢
    simp only [Option.isSome_none, Bool.false_eq_true, if_false] at h3
    split <;> simp <;> omega
  | some f =>
   have hf := h2 f rfl
   by_cases hd : d n = true
   ·have e : runC d (n + 1) = (c, some f) := by simp only [runC, hR, hd, if_true]
    rw [e]
    refine ⟨fun x hx => ?_, fun g hg => ?_, ?_⟩
    ·have := h1 x hx; omega
    ·injection hg with hg; omega
    ·dsimp only at h3 ⊢; omega
   ·have e : runC d (n + 1) = (c ++ [(f, n - f)], none) := by simp only [runC, hR, if_neg hd]
    rw [e]
    refine ⟨fun x hx => ?_, fun g hg => (by cases hg), ?_⟩
    ·rcases List.mem_append.1 hx with h | h
     ·have := h1 x h; omega
     ·simp at h; subst h; dsimp only; omega
    ·dsimp only at h3 ⊢
     simp only [Option.isSome_some, if_true] at h3
     simp
     omega
theorem runs_length (d : Nat → Bool) (n : Nat) : (runs d n).length ≤ n := by
 obtain ⟨h1, h2, h3⟩ := runC_inv d n
 unfold runs
 rw [List.length_append]
 cases h : (runC d n).2 with
 | none => rw [h] at h3; simp [openR] at h3 ⊢; exact h3
 | some f => rw [h] at h3; simp [openR] at h3 ⊢; exact h3
theorem runC_congr {d d' : Nat → Bool} : ∀ n, (∀ i, i < n → d i = d' i) → runC d n = runC d' n
 | 0, _ => rfl
 | n + 1, h => by simp only [runC, runC_congr n (fun i hi => h i (by omega)), h n (by omega)]
theorem runs_congr {d d' : Nat → Bool} (n : Nat) (h : ∀ i, i < n → d i = d' i) : runs d n = runs d' n := by unfold runs; rw [runC_congr n h]
def trip (d : Nat → Nat → Bool) (n : Nat) : Nat → List (Nat × Nat × Nat)
 | 0 => []
 | j + 1 => trip d n j ++ (runs (d (j + 1)) n).map fun x => (j + 1, x.1, x.2)
theorem trip_length (d : Nat → Nat → Bool) (n : Nat) : ∀ j, (trip d n j).length ≤ j * n
 | 0 => by simp [trip]
 | j + 1 => by
  have := trip_length d n j
  have := runs_length (d (j + 1)) n
  simp only [trip, List.length_append, List.length_map]
  rw [Nat.succ_mul]
  omega
theorem trip_congr {d d' : Nat → Nat → Bool} {n : Nat} : ∀ j, (∀ l i, 1 ≤ l → l ≤ j → i < n → d l i = d' l i) → trip d n j = trip d' n j
 | 0, _ => rfl
 | j + 1, h => by
  simp only [trip]
  rw [trip_congr j (fun l i h1 h2 h3 => h l i h1 (by omega) h3), runs_congr n (fun i hi => h (j + 1) i (by omega) (by omega) hi)]
def mkW (lv : Bool) (t : Nat × Nat × Nat) : Wl := ⟨lv, (t.1 : Int), (t.2.1 : Int), (t.2.2 : Int)⟩
def difB (cs : List (List Int)) (lv : Bool) (line i : Nat) : Bool := if lv = true then valAt cs (line - 1) i != valAt cs line i else valAt cs i (line - 1) != valAt cs i line
def wallsOf (cs : List (List Int)) : List Wl := (trip (difB cs false) cs.length (wideOf cs - 1)).map (mkW false) ++ (trip (difB cs true) (wideOf cs) (cs.length - 1)).map (mkW true)
theorem rd_val (cs : List (List Int)) (r c : Nat) : rd (rd_L3 cs (r : Int)) (c : Int) = valAt cs r c := by
 unfold rd rd_L3 valAt
 rw [Int.toNat_natCast, Int.toNat_natCast]
theorem row_len {cs : List (List Int)} {rs : List Rc} (h : FloorOk cs rs) {r : Nat} (hr : r < cs.length) : (rd_L3 cs (r : Int)).length = wideOf cs := by
 unfold rd_L3
 rw [Int.toNat_natCast, List.getD_eq_getElem?_getD, List.getElem?_eq_getElem hr]
 exact h.cells.row _ (List.getElem_mem _)
def sidesOf (cs : List (List Int)) (lv : Bool) (line i : Nat) : Int × Int := if lv = true then (valAt cs (line - 1) i, valAt cs line i) else (valAt cs i (line - 1), valAt cs i line)
def linesOf (cs : List (List Int)) (lv : Bool) : Nat := if lv = true then cs.length else wideOf cs
def placesOf (cs : List (List Int)) (lv : Bool) : Nat := if lv = true then wideOf cs else cs.length
theorem sides_f {cs : List (List Int)} {rs : List Rc} (h : FloorOk cs rs) (lv : Bool) (line i : Nat) (h1 : 1 ≤ line) (h2 : line < linesOf cs lv) (h3 : i < placesOf cs lv) : impl_floor_sides.f cs rs lv line i = some (sidesOf cs lv line i) := by
 have q1 := h.h6
 have q2 := h.w6
 unfold impl_floor_sides.f
 cases lv with
 | true =>
  simp only [linesOf, placesOf, if_true] at h2 h3
  have e : wrap64 ((line : Int) - 1) = ((line - 1 : Nat) : Int) := by rw [wrap64_small (by omega) (by omega)]; omega
  rw [e, if_pos rfl, if_pos (by omega), if_pos (by omega), if_pos (by omega), row_len h (by omega), if_pos (by omega), if_pos (by omega), if_pos (by omega), row_len h (by omega), if_pos (by omega), rd_val, rd_val]
  rfl
 | false =>
  simp only [linesOf, placesOf, Bool.false_eq_true, if_false] at h2 h3
  have e : wrap64 ((line : Int) - 1) = ((line - 1 : Nat) : Int) := by rw [wrap64_small (by omega) (by omega)]; omega
  rw [e, if_neg (by simp), if_pos (by omega), if_pos (by omega), if_pos (by omega), row_len h (by omega), if_pos (by omega), if_pos (by omega), if_pos (by omega), rd_val, rd_val]
  rfl
theorem differ_f {cs : List (List Int)} {rs : List Rc} (h : FloorOk cs rs) (lv : Bool) (line i : Nat) (h1 : 1 ≤ line) (h2 : line < linesOf cs lv) (h3 : i < placesOf cs lv) : impl_floor_differ.f cs rs lv line i = some (difB cs lv line i) := by
 unfold impl_floor_differ.f
 rw [sides_f h lv line i h1 h2 h3]
 unfold sidesOf difB
 cases lv <;> rfl
theorem set_last {α : Type} (x : List α) (a b : α) : (x ++ [a]).set x.length b = x ++ [b] := by
 rw [List.set_append_right _ _ (Nat.le_refl _), Nat.sub_self, List.set_cons_zero]
theorem walls_l2 (cs : List (List Int)) (rs : List Rc) (lv : Bool) (line : Nat) (hl : line ≤ 100) (d : Nat → Bool) (N : Nat) (hN : N ≤ 100) (hd : ∀ i, i < N → impl_floor_differ.f cs rs lv line i = some (d i)) (x6 x7 x13 x14 : Int) (x12 : List Bool) (pre : List Wl) (hpre : pre.length ≤ 1000) (r : List Wl)
  (hnext : Evs (fun k => impl_floor_walls.l1 k (pre ++ (runs d N).map (fun x => mkW lv (line, x.1, x.2))) lv x6 x7 ((line + 1 : Nat) : Int) x12 x13 x14 cs rs) r) :
  ∀ m i, i + m = N → Evs (fun k => impl_floor_walls.l2 k (pre ++ (runs d i).map (fun x => mkW lv (line, x.1, x.2))) lv x6 x7 (line : Int) (runC d i).2.isSome x12 x13 x14 (N : Int) (i : Int) cs rs) r := by
 intro m
 induction m with
 | zero =>
  intro i hi
  obtain rfl : i = N := by omega
  refine Evs.step (fun k => ?_) hnext
  conv => lhs; unfold impl_floor_walls.l2
  rw [if_neg (by omega), wrap_succ (by omega)]
 | succ m ih =>
  intro i hi
  have hnx := ih (i + 1) (by omega)
  have hdi := hd i (by omega)
  have hrl := runs_length d i
  obtain ⟨g1, g2, g3⟩ := runC_inv d i
  rcases hR : runC d i with ⟨c, o⟩
  rw [hR] at g1 g2 g3
  have e1 : runs d i = c ++ openR i o := by unfold runs; rw [hR]
  rw [e1] at hrl ⊢
  rw [List.length_append] at hrl
  cases hb : d i with
  | true =>
   rw [hb] at hdi
   cases o with
   | none =>
    have e2 : runC d (i + 1) = (c, some i) := by simp only [runC, hR, hb, if_true]
    have e3 : runs d (i + 1) = c ++ [(i, 1)] := by unfold runs; rw [e2]; simp [openR]
    rw [e2, e3] at hnx
    refine Evs.step (h := fun k => impl_floor_walls.j4 k (pre ++ (c ++ openR i none).map (fun x => mkW lv (line, x.1, x.2))) lv x6 x7 (line : Int) (i : Int) true x12 x13 x14 (N : Int) (i : Int) false cs rs) (fun k => ?_) (Evs.step (fun k => ?_) hnx)
    ·conv => lhs; unfold impl_floor_walls.l2
     rw [if_pos (by omega), hdi]
     rfl
    ·conv => lhs; unfold impl_floor_walls.j4
     rw [if_neg (by simp), if_pos rfl, if_pos (by simp [openR]; omega), wrap_succ (by omega)]
     simp [openR, mkW]
   | some f =>
    have hf := g2 f rfl
    have e2 : runC d (i + 1) = (c, some f) := by simp only [runC, hR, hb, if_true]
    have e3 : runs d (i + 1) = c ++ [(f, i + 1 - f)] := by unfold runs; rw [e2]; simp [openR]
    rw [e2, e3] at hnx
    have hap : pre ++ (c ++ openR i (some f)).map (fun x => mkW lv (line, x.1, x.2)) = (pre ++ c.map (fun x => mkW lv (line, x.1, x.2))) ++ [mkW lv (line, f, i - f)] := by simp [openR]
    rw [hap]
    have hap2 : pre ++ (c ++ [(f, i + 1 - f)]).map (fun x => mkW lv (line, x.1, x.2)) = (pre ++ c.map (fun x => mkW lv (line, x.1, x.2))) ++ [mkW lv (line, f, i + 1 - f)] := by simp
    rw [hap2] at hnx
    have hlen : (pre ++ c.map (fun x => mkW lv (line, x.1, x.2))).length ≤ 1100 := by simp [openR] at hrl ⊢; omega
    generalize pre ++ c.map (fun x => mkW lv (line, x.1, x.2)) = q at *
    refine Evs.step (h := fun k => impl_floor_walls.j4 k (q ++ [mkW lv (line, f, i - f)]) lv x6 x7 (line : Int) (i : Int) true x12 x13 x14 (N : Int) (i : Int) true cs rs) (fun k => ?_) (Evs.step (fun k => ?_) hnx)
    ·conv => lhs; unfold impl_floor_walls.l2
     rw [if_pos (by omega), hdi]
     rfl
    ·conv => lhs; unfold impl_floor_walls.j4
     have e4 : wrap64 (((q ++ [mkW lv (line, f, i - f)]).length : Int) - 1) = (q.length : Int) := by
      have hq : ((q ++ [mkW lv (line, f, i - f)]).length : Int) = (q.length : Int) + 1 := by simp
      rw [hq, wrap64_small (by omega) (by omega)]; omega
     have e5 : rd_T79 (q ++ [mkW lv (line, f, i - f)]) (q.length : Int) = mkW lv (line, f, i - f) := by
      unfold rd_T79
      rw [Int.toNat_natCast, List.getD_eq_getElem?_getD, List.getElem?_append_right (Nat.le_refl _), Nat.sub_self]
      rfl
     have e6 : wrap64 ((mkW lv (line, f, i - f)).f3 + 1) = ((i + 1 - f : Nat) : Int) := by
      show wrap64 (((i - f : Nat) : Int) + 1) = _
      rw [wrap64_small (by omega) (by omega)]; omega
     rw [if_pos rfl, e4, if_pos (by omega), if_pos (by simp; omega), e5, e6, Int.toNat_natCast, set_last, wrap_succ (by omega)]
     rfl
  | false =>
   rw [hb] at hdi
   have e3 : runs d (i + 1) = c ++ openR i o ∧ (runC d (i + 1)).2.isSome = false := by
    cases o with
    | none =>
     have e2 : runC d (i + 1) = (c, none) := by simp [runC, hR, hb]
     unfold runs
     rw [e2]
     exact ⟨rfl, rfl⟩
    | some f =>
     have e2 : runC d (i + 1) = (c ++ [(f, i - f)], none) := by simp [runC, hR, hb]
     unfold runs
     rw [e2]
     exact ⟨by simp [openR], rfl⟩
   rw [e3.1, e3.2] at hnx
   refine Evs.step (h := fun k => impl_floor_walls.j4 k (pre ++ (c ++ openR i o).map (fun x => mkW lv (line, x.1, x.2))) lv x6 x7 (line : Int) (i : Int) false x12 x13 x14 (N : Int) (i : Int) false cs rs) (fun k => ?_) (Evs.step (fun k => ?_) hnx)
   ·conv => lhs; unfold impl_floor_walls.l2
    rw [if_pos (by omega), hdi]
    rfl
   ·conv => lhs; unfold impl_floor_walls.j4
    rw [if_neg (by simp), if_neg (by simp), wrap_succ (by omega)]
theorem walls_l1 {cs : List (List Int)} {rs : List Rc} (h : FloorOk cs rs) (lv : Bool) (x13 x14 : Int) (hx14 : 0 ≤ x14) (hx14' : x14 ≤ 1000) (x12 : List Bool) (pre : List Wl) (hpre : pre.length ≤ 500) (r : List Wl)
  (hnext : Evs (fun k => impl_floor_walls.l0 k (pre ++ (trip (difB cs lv) (placesOf cs lv) (linesOf cs lv - 1)).map (mkW lv)) x12 x13 (x14 + 1) cs rs) r) :
  ∀ m j, j + 1 + m = linesOf cs lv → Evs (fun k => impl_floor_walls.l1 k (pre ++ (trip (difB cs lv) (placesOf cs lv) j).map (mkW lv)) lv (linesOf cs lv : Int) (placesOf cs lv : Int) ((j + 1 : Nat) : Int) x12 x13 x14 cs rs) r := by
 have q1 := h.h6
 have q2 := h.w6
 have hN : placesOf cs lv ≤ 6 := by unfold placesOf; split <;> omega
 have hL : linesOf cs lv ≤ 6 := by unfold linesOf; split <;> omega
 intro m
 induction m with
 | zero =>
  intro j hj
  have e : linesOf cs lv - 1 = j := by omega
  rw [e] at hnext
  refine Evs.step (fun k => ?_) hnext
  conv => lhs; unfold impl_floor_walls.l1
  rw [if_neg (by omega), wrap64_small (by omega) (by omega)]
 | succ m ih =>
  intro j hj
  have hnx := ih (j + 1) (by omega)
  have ht := trip_length (difB cs lv) (placesOf cs lv) j
  have hm : j * placesOf cs lv ≤ 6 * 6 := Nat.mul_le_mul (by omega) hN
  have e : pre ++ (trip (difB cs lv) (placesOf cs lv) (j + 1)).map (mkW lv) = (pre ++ (trip (difB cs lv) (placesOf cs lv) j).map (mkW lv)) ++ (runs (difB cs lv (j + 1)) (placesOf cs lv)).map (fun x => mkW lv (j + 1, x.1, x.2)) := by
   simp [trip, Function.comp_def]
  rw [e] at hnx
  have := walls_l2 cs rs lv (j + 1) (by omega) (difB cs lv (j + 1)) (placesOf cs lv) (by omega) (fun i hi => differ_f h lv (j + 1) i (by omega) (by omega) hi) (linesOf cs lv) (placesOf cs lv) x13 x14 x12 (pre ++ (trip (difB cs lv) (placesOf cs lv) j).map (mkW lv)) (by simp; omega) r hnx (placesOf cs lv) 0 (by omega)
  refine Evs.step (fun k => ?_) this
  conv => lhs; unfold impl_floor_walls.l1
  rw [if_pos (by omega)]
  simp [runs, runC, openR]
theorem walls_ev {cs : List (List Int)} {rs : List Rc} (h : FloorOk cs rs) : Evs (fun k => impl_floor_walls.f k cs rs) (wallsOf cs) := by
 have q1 := h.h6
 have q2 := h.w6
 have q3 := h.h1
 have q4 := h.w1
 have ht := trip_length (difB cs false) cs.length (wideOf cs - 1)
 have hm : (wideOf cs - 1) * cs.length ≤ 6 * 6 := Nat.mul_le_mul (by omega) q1
 have end_ : Evs (fun k => impl_floor_walls.l0 k (wallsOf cs) [false, true] 2 2 cs rs) (wallsOf cs) := by
  refine Evs.step (h := fun _ => some (wallsOf cs)) (fun k => ?_) (Evs.const _)
  conv => lhs; unfold impl_floor_walls.l0
  rw [if_neg (by omega)]
 have two := walls_l1 h true 2 1 (by omega) (by omega) [false, true] ((trip (difB cs false) cs.length (wideOf cs - 1)).map (mkW false)) (by simp; omega) _ end_ (cs.length - 1) 0 (by show 0 + 1 + _ = cs.length; omega)
 simp only [trip, List.map_nil, List.append_nil] at two
 have two' : Evs (fun k => impl_floor_walls.l0 k ((trip (difB cs false) cs.length (wideOf cs - 1)).map (mkW false)) [false, true] 2 1 cs rs) (wallsOf cs) := by
  refine Evs.step (h := fun k => impl_floor_walls.j1 k ((trip (difB cs false) cs.length (wideOf cs - 1)).map (mkW false)) true (cs.length : Int) (wideOf cs : Int) [false, true] 2 1 cs rs) (fun k => ?_) (Evs.step (fun k => ?_) two)
  ·conv => lhs; unfold impl_floor_walls.l0
   rw [if_pos (by omega), if_pos (by omega), if_pos (by simp), wide_f h, high_f]
   rfl
  ·conv => lhs; unfold impl_floor_walls.j1
   rfl
 have one := walls_l1 h false 2 0 (by omega) (by omega) [false, true] [] (by simp) _ (by rw [List.nil_append]; exact two') (wideOf cs - 1) 0 (by show 0 + 1 + _ = wideOf cs; omega)
 simp only [trip, List.map_nil, List.append_nil] at one
 refine Evs.congr (h := fun k => impl_floor_walls.l0 k [] [false, true] 2 0 cs rs) (fun k => rfl) ?_
 refine Evs.step (h := fun k => impl_floor_walls.j1 k [] false (wideOf cs : Int) (cs.length : Int) [false, true] 2 0 cs rs) (fun k => ?_) (Evs.step (fun k => ?_) one)
 ·conv => lhs; unfold impl_floor_walls.l0
  rw [if_pos (by omega), if_pos (by omega), if_pos (by simp), wide_f h, high_f]
  rfl
 ·conv => lhs; unfold impl_floor_walls.j1
  rfl
def tri (t : Nat × Nat × Nat) : List Int := [(t.1 : Int), (t.2.1 : Int), (t.2.2 : Int)]
def fromI : Option Nat → Int
 | none => -1
 | some f => (f : Int)
def difU (g : Nat → Nat → Int) (line i : Nat) : Bool := g i (line - 1) != g i line
def upsOf (g : Nat → Nat → Int) (hi wi : Nat) : List (List Int) := (trip (difU g) hi (wi - 1)).map tri
theorem up_l1 (p : List ByteArray) (wi : Nat) (h : Mid p wi) (line : Nat) (h1 : 1 ≤ line) (h2 : line < wi) (pre : List (List Int)) (hpre : pre.length ≤ 100000) (r : List (List Int))
  (hnext : Evs (fun k => spec_l2Upright.l0 k p (pre ++ (runs (difU (valAt (numsOf p)) line) p.length).map (fun x => tri (line, x.1, x.2))) ((line + 1 : Nat) : Int)) r) :
  ∀ m i, i + m = p.length → Evs (fun k => spec_l2Upright.l1 k p (pre ++ (runC (difU (valAt (numsOf p)) line) i).1.map (fun x => tri (line, x.1, x.2))) (line : Int) (fromI (runC (difU (valAt (numsOf p)) line) i).2) (i : Int)) r := by
 have hh := h.high
 have hw := h.wide
 generalize hdd : difU (valAt (numsOf p)) line = d at *
 intro m
 induction m with
 | zero =>
  intro i hi
  obtain rfl : i = p.length := by omega
  obtain ⟨g1, g2, g3⟩ := runC_inv d p.length
  unfold runs at hnext
  rcases hR : runC d p.length with ⟨c, o⟩
  rw [hR] at g1 g2 g3 hnext
  have hcl : c.length ≤ p.length := by dsimp only at g3; omega
  have hend : Evs (fun k => spec_l2Upright.l1 k p (pre ++ (c ++ openR p.length o).map (fun x => tri (line, x.1, x.2))) (line : Int) (-1) ((p.length + 1 : Nat) : Int)) r := by
   refine Evs.step (fun k => ?_) hnext
   conv => lhs; unfold spec_l2Upright.l1
   rw [if_neg (by omega), wrap_succ (by omega)]
  refine Evs.step (h := fun k => spec_l2Upright.j2 k p (pre ++ c.map (fun x => tri (line, x.1, x.2))) (line : Int) (fromI o) (p.length : Int) false) (fun k => ?_) (Evs.step (h := fun k => spec_l2Upright.j3 k p (pre ++ c.map (fun x => tri (line, x.1, x.2))) (line : Int) (fromI o) (p.length : Int) false false) (fun k => ?_) ?_)
  ·conv => lhs; unfold spec_l2Upright.l1
   rw [if_pos (by omega), if_neg (by omega)]
  ·conv => lhs; unfold spec_l2Upright.j2
   rw [if_neg (by simp)]
  ·cases o with
   | none =>
    rw [show c ++ openR p.length none = c by simp [openR]] at hend
    refine Evs.step (fun k => ?_) hend
    conv => lhs; unfold spec_l2Upright.j3
    rw [if_neg (by simp), if_neg (by simp), if_neg (by simp [fromI]), wrap_succ (by omega)]
    rfl
   | some f =>
    have hf := g2 f rfl
    refine Evs.step (fun k => ?_) hend
    conv => lhs; unfold spec_l2Upright.j3
    have e : wrap64 ((p.length : Int) - fromI (some f)) = ((p.length - f : Nat) : Int) := by
     show wrap64 ((p.length : Int) - (f : Int)) = _
     rw [wrap64_small (by omega) (by omega)]; omega
    rw [if_neg (by simp), if_neg (by simp), if_pos (by simp [fromI]), if_pos (by simp; omega), e, wrap_succ (by omega)]
    simp [openR, tri, fromI]
 | succ m ih =>
  intro i hi
  have hnx := ih (i + 1) (by omega)
  obtain ⟨g1, g2, g3⟩ := runC_inv d i
  obtain ⟨s, hs⟩ : ∃ s, p[i]? = some s := ⟨_, List.getElem?_eq_getElem (by omega)⟩
  have hsz := h.row s (List.mem_of_getElem? hs)
  obtain ⟨row, q1, q2⟩ := valAt_get h.rect (r := i) (c := line - 1) (by rw [numsOf_length]; omega) (by omega)
  obtain ⟨row', q3, q4⟩ := valAt_get h.rect (r := i) (c := line) (by rw [numsOf_length]; omega) (by omega)
  have hrow : (numsOf p)[i]? = some (bytesOf s) := by unfold numsOf; rw [List.getElem?_map, hs]; rfl
  obtain rfl : row = bytesOf s := by rw [hrow] at q1; exact (Option.some.inj q1).symm
  obtain rfl : row' = bytesOf s := by rw [hrow] at q3; exact (Option.some.inj q3).symm
  have hdi : (bt s ((line - 1 : Nat) : Int) != bt s (line : Int)) = d i := by rw [bt_get q2, bt_get q4, ← hdd]; rfl
  rcases hR : runC d i with ⟨c, o⟩
  rw [hR] at g1 g2 g3
  have hcl : c.length ≤ i := by dsimp only at g3; omega
  have el : wrap64 ((line : Int) - 1) = ((line - 1 : Nat) : Int) := by rw [wrap64_small (by omega) (by omega)]; omega
  refine Evs.step (h := fun k => spec_l2Upright.j2 k p (pre ++ c.map (fun x => tri (line, x.1, x.2))) (line : Int) (fromI o) (i : Int) (d i)) (fun k => ?_) ?_
  ·conv => lhs; unfold spec_l2Upright.l1
   rw [if_pos (by omega), if_pos (by omega), if_pos (by omega), el, rdOf_at hs, if_pos (by omega), if_pos (by omega), if_pos (by omega), if_pos (by omega), hdi]
  ·cases hb : d i with
   | true =>
    cases o with
    | none =>
     have e2 : runC d (i + 1) = (c, some i) := by simp only [runC, hR, hb, if_true]
     rw [e2] at hnx
     refine Evs.step (h := fun k => spec_l2Upright.j3 k p (pre ++ c.map (fun x => tri (line, x.1, x.2))) (line : Int) (fromI none) (i : Int) true true) (fun k => ?_) (Evs.step (fun k => ?_) hnx)
     ·conv => lhs; unfold spec_l2Upright.j2
      rw [if_pos rfl]
      rfl
     ·conv => lhs; unfold spec_l2Upright.j3
      rw [if_pos rfl, if_pos rfl, wrap_succ (by omega)]
      rfl
    | some f =>
     have e2 : runC d (i + 1) = (c, some f) := by simp only [runC, hR, hb, if_true]
     rw [e2] at hnx
     refine Evs.step (h := fun k => spec_l2Upright.j3 k p (pre ++ c.map (fun x => tri (line, x.1, x.2))) (line : Int) (fromI (some f)) (i : Int) true false) (fun k => ?_) (Evs.step (fun k => ?_) hnx)
     ·conv => lhs; unfold spec_l2Upright.j2
      rw [if_pos rfl, decide_eq_false (by simp [fromI])]
     ·conv => lhs; unfold spec_l2Upright.j3
      rw [if_neg (by simp), if_pos rfl, wrap_succ (by omega)]
   | false =>
    refine Evs.step (h := fun k => spec_l2Upright.j3 k p (pre ++ c.map (fun x => tri (line, x.1, x.2))) (line : Int) (fromI o) (i : Int) false false) (fun k => ?_) ?_
    ·conv => lhs; unfold spec_l2Upright.j2
     rw [if_neg (by simp)]
    cases o with
    | none =>
     have e2 : runC d (i + 1) = (c, none) := by simp [runC, hR, hb]
     rw [e2] at hnx
     refine Evs.step (fun k => ?_) hnx
     conv => lhs; unfold spec_l2Upright.j3
     rw [if_neg (by simp), if_neg (by simp), if_neg (by simp [fromI]), wrap_succ (by omega)]
    | some f =>
     have hf := g2 f rfl
     have e2 : runC d (i + 1) = (c ++ [(f, i - f)], none) := by simp [runC, hR, hb]
     rw [e2] at hnx
     refine Evs.step (fun k => ?_) hnx
     conv => lhs; unfold spec_l2Upright.j3
     have e : wrap64 ((i : Int) - fromI (some f)) = ((i - f : Nat) : Int) := by
      show wrap64 ((i : Int) - (f : Int)) = _
      rw [wrap64_small (by omega) (by omega)]; omega
     rw [if_neg (by simp), if_neg (by simp), if_pos (by simp [fromI]), if_pos (by simp; omega), e, wrap_succ (by omega)]
     simp [tri, fromI]
theorem up_l0 (p : List ByteArray) (wi : Nat) (h : Mid p wi) (h1 : 1 ≤ p.length) (hw1 : 1 ≤ wi) : ∀ m j, j + 1 + m = wi → Evs (fun k => spec_l2Upright.l0 k p ((trip (difU (valAt (numsOf p))) p.length j).map tri) ((j + 1 : Nat) : Int)) (upsOf (valAt (numsOf p)) p.length wi) := by
 have hh := h.high
 have hw := h.wide
 obtain ⟨s, hs⟩ : ∃ s, p[0]? = some s := ⟨_, List.getElem?_eq_getElem (by omega)⟩
 have hsz := h.row s (List.mem_of_getElem? hs)
 have e0 : rdOf ByteArray.empty p 0 = s := rdOf_at (i := 0) hs
 intro m
 induction m with
 | zero =>
  intro j hj
  have e : wi - 1 = j := by omega
  unfold upsOf
  rw [e]
  refine Evs.step (h := fun _ => some ((trip (difU (valAt (numsOf p))) p.length j).map tri)) (fun k => ?_) (Evs.const _)
  conv => lhs; unfold spec_l2Upright.l0
  rw [if_pos (by omega), e0, if_neg (by omega)]
 | succ m ih =>
  intro j hj
  have hnx := ih (j + 1) (by omega)
  have ht := trip_length (difU (valAt (numsOf p))) p.length j
  have hm : j * p.length ≤ 100 * 100 := Nat.mul_le_mul (by omega) hh
  have e : (trip (difU (valAt (numsOf p))) p.length (j + 1)).map tri = (trip (difU (valAt (numsOf p))) p.length j).map tri ++ (runs (difU (valAt (numsOf p)) (j + 1)) p.length).map (fun x => tri (j + 1, x.1, x.2)) := by
   simp [trip, Function.comp_def]
  rw [e] at hnx
  have := up_l1 p wi h (j + 1) (by omega) (by omega) ((trip (difU (valAt (numsOf p))) p.length j).map tri) (by simp; omega) _ hnx p.length 0 (by omega)
  refine Evs.step (fun k => ?_) this
  conv => lhs; unfold spec_l2Upright.l0
  rw [if_pos (by omega), e0, if_pos (by omega)]
  simp [runC, fromI]
theorem l2Upright_ev (p : List ByteArray) (wi : Nat) (h : Mid p wi) (h1 : 1 ≤ p.length) (hw1 : 1 ≤ wi) : Evs (fun k => spec_l2Upright.f k p) (upsOf (valAt (numsOf p)) p.length wi) := by
 have := up_l0 p wi h h1 hw1 (wi - 1) 0 (by omega)
 refine Evs.congr (fun k => ?_) this
 unfold spec_l2Upright.f
 simp [trip]
def upT (cs : List (List Int)) : List (Nat × Nat × Nat) := trip (difB cs false) cs.length (wideOf cs - 1)
def levT (cs : List (List Int)) : List (Nat × Nat × Nat) := trip (difB cs true) (wideOf cs) (cs.length - 1)
theorem PlanFacts.mid {p : List ByteArray} {cs : List (List Int)} {rs : List Rc} (F : PlanFacts p cs rs) : Mid p (wideOf cs) := by
 have hsm := gridOk_small F.canon.grid
 rw [F.wide] at hsm
 exact ⟨by have := hsm.high; omega, by have := hsm.wide; omega, hsm.row⟩
theorem bne_add (a b : Int) : (97 + a != 97 + b) = (a != b) := by
 rw [Bool.eq_iff_iff, bne_iff_ne, bne_iff_ne]
 omega
theorem up_plan {p : List ByteArray} {cs : List (List Int)} {rs : List Rc} (F : PlanFacts p cs rs) : Evs (fun k => spec_l2Upright.f k p) ((upT cs).map tri) := by
 have o1 := F.ok.h1
 have o2 := F.ok.w1
 have l1 := F.len
 have := l2Upright_ev p (wideOf cs) F.mid (by omega) o2
 have e : upsOf (valAt (numsOf p)) p.length (wideOf cs) = (upT cs).map tri := by
  unfold upsOf upT
  rw [l1]
  congr 1
  refine trip_congr _ fun l i h1 h2 h3 => ?_
  unfold difU difB
  rw [F.nums, valAt_map F.ok.rect _ h3 (by omega), valAt_map F.ok.rect _ h3 (by omega)]
  exact bne_add _ _
 rwa [e] at this
theorem trans_plan {p : List ByteArray} {cs : List (List Int)} {rs : List Rc} (F : PlanFacts p cs rs) : Evs (fun k => spec_l1Trans.f k p) (transOf p (wideOf cs)) := by
 have o1 := F.ok.h1
 have l1 := F.len
 exact l1Trans_ev p (wideOf cs) F.mid (by omega)
theorem lev_plan {p : List ByteArray} {cs : List (List Int)} {rs : List Rc} (F : PlanFacts p cs rs) : Evs (fun k => spec_l2Upright.f k (transOf p (wideOf cs))) ((levT cs).map tri) := by
 have o1 := F.ok.h1
 have o2 := F.ok.w1
 have l1 := F.len
 have hM := mid_trans F.mid
 have := l2Upright_ev (transOf p (wideOf cs)) p.length hM (by rw [trans_length]; exact o2) (by omega)
 have e : upsOf (valAt (numsOf (transOf p (wideOf cs)))) (transOf p (wideOf cs)).length p.length = (levT cs).map tri := by
  unfold upsOf levT
  rw [l1, trans_length, numsOf_trans, l1]
  congr 1
  refine trip_congr _ fun l i h1 h2 h3 => ?_
  unfold difU difB
  rw [valAt_gridOf h3 (by omega), valAt_gridOf h3 (by omega), F.nums, valAt_map F.ok.rect _ (by omega) h3, valAt_map F.ok.rect _ (by omega) h3]
  exact bne_add _ _
 rwa [e] at this
theorem wallsOf_eq (cs : List (List Int)) : wallsOf cs = (upT cs).map (mkW false) ++ (levT cs).map (mkW true) := rfl
end Go.Proofs.Ytaepgogafkmooaa.Hd
namespace Go.Proofs.Ytaepgogafkmooaa.Hd
open Go.RowKit Go.Proofs.YtaepgogafkmooaaW.PrintWords Go.Proofs.YtaepgogafkmooaaW.PrintLast Go.Proofs.YtaepgogafkmooaaW.PrintMore Go.Proofs.Ytaepgogafkmooaa.PB
set_option linter.unusedVariables false
set_option linter.unusedSimpArgs false
theorem wall_bound {cs : List (List Int)} {rs : List Rc} (h : FloorOk cs rs) : (upT cs).length ≤ 36 ∧ (levT cs).length ≤ 36 := by
 have q1 := h.h6
 have q2 := h.w6
 have h1 := trip_length (difB cs false) cs.length (wideOf cs - 1)
 have h2 := trip_length (difB cs true) (wideOf cs) (cs.length - 1)
 have m1 : (wideOf cs - 1) * cs.length ≤ 6 * 6 := Nat.mul_le_mul (by omega) q1
 have m2 : (cs.length - 1) * wideOf cs ≤ 6 * 6 := Nat.mul_le_mul (by omega) q2
 unfold upT levT
 omega
def wallManyF (p : List ByteArray) : Int × Int × Bool := match floorF p with
 | none => (0, 0, false)
 | some (cs, _) => ((upT cs).length, (levT cs).length, true)
def four (kind : Int) (t : Nat × Nat × Nat) : List Int := [kind, (t.1 : Int), (t.2.1 : Int), (t.2.2 : Int)]
def walls4 (cs : List (List Int)) : List (List Int) := (upT cs).map (four 0) ++ (levT cs).map (four 1)
theorem rdL_map {f : Nat × Nat × Nat → List Int} {L : List (Nat × Nat × Nat)} {i : Nat} {x : Nat × Nat × Nat} (hx : L[i]? = some x) : rd_L3 (L.map f) (i : Int) = f x := by
 unfold rd_L3
 rw [Int.toNat_natCast, List.getD_eq_getElem?_getD, List.getElem?_map, hx]
 rfl
theorem walls_sl1 (L : List (Nat × Nat × Nat)) (hL : L.length ≤ 1000) (pre : List (List Int)) (hpre : pre.length ≤ 1000) : ∀ m i, i + m = L.length → Evs (fun k => spec_l2Walls.l1 k (pre ++ (L.take i).map (four 1)) (L.map tri) (i : Int)) (pre ++ L.map (four 1)) := by
 intro m
 induction m with
 | zero =>
  intro i hi
  rw [List.take_of_length_le (by omega)]
  refine Evs.step (h := fun _ => some (pre ++ L.map (four 1))) (fun k => ?_) (Evs.const _)
  conv => lhs; unfold spec_l2Walls.l1
  rw [if_neg (by simp; omega)]
 | succ m ih =>
  intro i hi
  obtain ⟨x, hx⟩ : ∃ x, L[i]? = some x := ⟨_, List.getElem?_eq_getElem (by omega)⟩
  have hnx := ih (i + 1) (by omega)
  rw [List.take_add_one, hx, List.map_append, ← List.append_assoc] at hnx
  refine Evs.step (fun k => ?_) hnx
  conv => lhs; unfold spec_l2Walls.l1
  rw [if_pos (by simp; omega)]
  simp only [Option.bind_some]
  rw [rdL_map hx, if_pos (by omega), if_pos (by simp [tri]), if_pos (by simp; omega), wrap_succ (by omega)]
  rfl
theorem walls_sl0 {p : List ByteArray} {cs : List (List Int)} {rs : List Rc} (F : PlanFacts p cs rs) : ∀ m i, i + m = (upT cs).length → Evs (fun k => spec_l2Walls.l0 k p (((upT cs).take i).map (four 0)) ((upT cs).map tri) (i : Int)) (walls4 cs) := by
 have hb := wall_bound F.ok
 intro m
 induction m with
 | zero =>
  intro i hi
  rw [List.take_of_length_le (by omega)]
  have := walls_sl1 (levT cs) (by omega) ((upT cs).map (four 0)) (by simp; omega) (levT cs).length 0 (by omega)
  simp only [List.take_zero, List.map_nil, List.append_nil] at this
  refine Evs.step (h := fun k => (spec_l1Trans.f k p).bind fun t498 => ((spec_l2Upright.f k t498).bind fun t501 => (spec_l2Walls.l1 k ((upT cs).map (four 0)) t501 0))) (fun k => ?_) (Evs.bind (trans_plan F) (Evs.bind (lev_plan F) this))
  conv => lhs; unfold spec_l2Walls.l0
  rw [if_neg (by simp; omega)]
 | succ m ih =>
  intro i hi
  obtain ⟨x, hx⟩ : ∃ x, (upT cs)[i]? = some x := ⟨_, List.getElem?_eq_getElem (by omega)⟩
  have hnx := ih (i + 1) (by omega)
  rw [List.take_add_one, hx, List.map_append] at hnx
  refine Evs.step (fun k => ?_) hnx
  conv => lhs; unfold spec_l2Walls.l0
  rw [if_pos (by simp; omega)]
  simp only [Option.bind_some]
  rw [rdL_map hx, if_pos (by omega), if_pos (by simp [tri]), if_pos (by simp; omega), wrap_succ (by omega)]
  rfl
theorem l2Walls_ev {p : List ByteArray} {cs : List (List Int)} {rs : List Rc} (F : PlanFacts p cs rs) : Evs (fun k => spec_l2Walls.f k p) (walls4 cs) := by
 have := walls_sl0 F (upT cs).length 0 (by omega)
 refine Evs.congr (h := fun k => (spec_l2Upright.f k p).bind fun t485 => (spec_l2Walls.l0 k p (([] : List (List Int))) t485 0)) (fun k => rfl) (Evs.bind (up_plan F) ?_)
 simpa using this
def allT (cs : List (List Int)) : List (Nat × Nat × Nat) := upT cs ++ levT cs
end Go.Proofs.Ytaepgogafkmooaa.Hd
namespace Go.Proofs.Ytaepgogafkmooaa.Hd
open Go.RowKit Go.Proofs.YtaepgogafkmooaaW.PrintWords Go.Proofs.YtaepgogafkmooaaW.PrintLast Go.Proofs.YtaepgogafkmooaaW.PrintMore Go.Proofs.Ytaepgogafkmooaa.PB
set_option linter.unusedVariables false
set_option linter.unusedSimpArgs false
abbrev kWl := k79
def zeroW : Wl := ⟨false, 0, 0, 0⟩
theorem wl_cells {W : World} {B g n cap : Nat} {ok : Nat → Prop} {ws : List Wl} (h : Kd.R kWl 79 W B ok (.slice (some ⟨g, 0, none⟩) n cap) ws) (k : Nat) (hk : k < ws.length) :
  W.cell? ⟨g, k * 4, none⟩ = some (.bool (ws.getD k zeroW).f0) ∧ W.cell? ⟨g, k * 4 + 1, none⟩ = some (.int .i64 (ws.getD k zeroW).f1) ∧ W.cell? ⟨g, k * 4 + 2, none⟩ = some (.int .i64 (ws.getD k zeroW).f2) ∧ W.cell? ⟨g, k * 4 + 3, none⟩ = some (.int .i64 (ws.getD k zeroW).f3) := by
 obtain ⟨A, c, e, hl, hC⟩ := Kd.R_reads h
 injection e with e1 e2 e3
 subst e1; subst e2
 obtain ⟨ad, e4, h0, h1, h2, h3⟩ := at_T79 hC (k : Int) (by omega) (by omega)
 injection e4 with e4
 subst e4
 have e5 : rd_T79 ws (k : Int) = ws.getD k zeroW := by
  unfold rd_T79
  rw [show ((k : Int).toNat) = k by omega]
  rfl
 rw [show ((k : Int).toNat) = k by omega, add_plain, e5] at h0 h1 h2 h3
 exact ⟨h0, h1, h2, h3⟩
theorem wallsOf_length (cs : List (List Int)) : (wallsOf cs).length = (allT cs).length := by simp [wallsOf_eq, allT]
theorem wallsOf_bound {cs : List (List Int)} {rs : List Rc} (h : FloorOk cs rs) : (wallsOf cs).length ≤ 72 := by
 have := wall_bound h
 rw [wallsOf_length]
 unfold allT
 rw [List.length_append]
 omega
def cnt (lv : Bool) (L : List Wl) : Int := ((L.filter fun x => x.f0 == lv).length : Int)
theorem cnt_snoc (lv : Bool) (L : List Wl) (x : Wl) : cnt lv (L ++ [x]) = cnt lv L + (if x.f0 = lv then 1 else 0) := by
 unfold cnt
 rw [List.filter_append, List.length_append]
 by_cases h : x.f0 = lv
 ·rw [if_pos h]; simp [h]
 ·rw [if_neg h]; simp [h]
theorem take_snoc_w (L : List Wl) (i : Nat) (hi : i < L.length) : L.take (i + 1) = L.take i ++ [L.getD i zeroW] := by
 rw [List.take_add_one, List.getElem?_eq_getElem hi]
 simp [List.getD_eq_getElem?_getD, List.getElem?_eq_getElem hi]
theorem cnt_range (lv : Bool) (L : List Wl) (h : L.length ≤ 72) : 0 ≤ cnt lv L ∧ cnt lv L ≤ 72 := by
 unfold cnt
 have := List.length_filter_le (fun x : Wl => x.f0 == lv) L
 omega
theorem cnt_walls (cs : List (List Int)) : cnt false (wallsOf cs) = (upT cs).length ∧ cnt true (wallsOf cs) = (levT cs).length := by
 have h1 : ∀ lv L, cnt lv (List.map (mkW lv) L) = L.length := fun lv L => by
  unfold cnt
  rw [List.filter_eq_self.2 (fun x hx => by obtain ⟨y, _, rfl⟩ := List.mem_map.1 hx; simp [mkW])]
  simp
 have h2 : ∀ lv L, cnt (!lv) (List.map (mkW lv) L) = 0 := fun lv L => by
  unfold cnt
  rw [List.filter_eq_nil_iff.2 (fun x hx => by obtain ⟨y, _, rfl⟩ := List.mem_map.1 hx; cases lv <;> simp [mkW])]
  simp
 have h3 : ∀ lv a b, cnt lv (a ++ b) = cnt lv a + cnt lv b := fun lv a b => by
  unfold cnt
  rw [List.filter_append, List.length_append]
  omega
 rw [wallsOf_eq, h3, h3, h1, h1]
 have a := h2 true (levT cs)
 have b := h2 false (upT cs)
 simp only [Bool.not_true, Bool.not_false] at a b
 omega
set_option maxHeartbeats 4000000 in
set_option maxRecDepth 100000 in
theorem WallMany_calls (A0 : Option Addr) (c0 : Nat) (l0 : List ByteArray) (w : World) (hr0 : Kd.C Kd.string w A0 l0.length l0) (hc0 : l0.length ≤ c0) (hp : smallP l0) :
  Calls Try.prog 28 #[.slice A0 l0.length c0] w fun e w' => e = .returned (.tuple #[.int .i64 (wallManyF l0).1, .int .i64 (wallManyF l0).2.1, .bool (wallManyF l0).2.2]) ∧ Below w.heap.size w w' := by
 have HR := Aside0.mk hr0
 have HC := Aside0.mk hc0
 have HP := Aside0.mk hp
 clear hr0 hc0 hp
 generalize hM : wallManyF l0 = res
 have HM := Aside0.mk hM
 clear hM
 generalize hF : floorF l0 = t
 have HF := Aside0.mk hF
 clear hF
 rcases t with _ | ⟨cs, rs⟩
 ·have e : res = (0, 0, false) := by rw [← HM.out]; unfold wallManyF; rw [HF.out]
  subst e
  go_enter Try.func28, Try.ntmps28
  go_wp2_with (first
   | (go_at_call 66; refine (floorOf_calls A0 c0 l0 _ HR.out HC.out HP.out).mono ?_; rw [HF.out]; rintro e w8 ⟨hb8, v8, b8, rfl, rfl⟩; have HB8 := Aside0.mk hb8; clear hb8))
  go_ret3
  exact ⟨rfl, HB8.out⟩
 ·have e : res = (((upT cs).length : Int), ((levT cs).length : Int), true) := by rw [← HM.out]; unfold wallManyF; rw [HF.out]
  obtain ⟨K, hK⟩ := walls_ev (floorF_ok HF.out)
  have HW := Aside0.mk (hK K (Nat.le_refl K))
  have HL := Aside0.mk (wallsOf_bound (floorF_ok HF.out))
  have HN := Aside0.mk (cnt_walls cs)
  have HE := Aside0.mk e
  clear hK e
  generalize wallsOf cs = ws at *
  have b1 : (ws.length : Int) ≤ 72 := by have := HL.out; omega
  go_enter Try.func28, Try.ntmps28
  go_wp2_with (first
   | (go_at_call 66; refine (floorOf_calls A0 c0 l0 _ HR.out HC.out HP.out).mono ?_; rw [HF.out]; rintro e w8 ⟨hb8, v8, b8, rfl, rfl, g, rfl, hfl⟩; have HB8 := Aside0.mk hb8; have HFl8 := Aside0.mk hfl; clear hb8 hfl)
   | (go_at_call 80; refine (impl_floor_walls.calls K g cs rs ws _ _ (HFl8.out.below (below_alloc (Below.refl _ _) _)) (Below.refl _ _) HW.out).mono ?_; rintro e w9 ⟨v9, rfl, hr9, -, hb9, -⟩; have HG9 := Aside0.mk ((hb9.block w8.heap.size (by simp)).trans (heap_alloc_new w8 _)); obtain ⟨A9, c9, e9⟩ := Kd.R_slice hr9; subst e9; have HB9 := Aside0.mk (below_step (below_alloc HB8.out _) hb9); have HR9 := Aside0.mk (Kd.R_lower hr9 (below_alloc HB8.out _).size); have HGE := Aside0.mk HB8.out.size; clear hb9 hr9))
  generalize w8.heap.size = gm at *
  go_loopg [21] ws.length (fun kq v21 w' => ∃ i : Nat, v21 = .int .i64 (i : Int) ∧ Aside0 (i + kq = ws.length) ∧ Aside0 (w'.heap[gm]? = some (.cells #[.int .i64 (cnt false (ws.take i)), .int .i64 (cnt true (ws.take i))] 81 (0, 0))) ∧ Aside0 (Kd.R kWl 79 w' w.heap.size (fun _ => True) (.slice A9 ws.length c9) ws) ∧ Aside0 (Below w.heap.size w w'))
  case atStart => exact ⟨0, rfl, ⟨by omega⟩, ⟨by simpa [cnt] using HG9.out⟩, HR9, HB9⟩
  case round =>
   clear HR9 HB9 HG9
   obtain ⟨i, rfl, HK, HG, HO, HB⟩ := hrel
   by_cases hi : i < ws.length
   ·have hlt : (i : Int) < (ws.length : Int) := by omega
    have hi0 : (0 : Int) ≤ i := by omega
    obtain ⟨gr, cp, ev, hgr, hltg, cells, hcells⟩ := Kd.R_form HO.out (by omega)
    injection ev with ea en ec
    subst ea
    clear en ec hcells hltg hgr
    obtain ⟨z0, z1, z2, z3⟩ := wl_cells HO.out i hi
    have HT := Aside0.mk (take_snoc_w ws i hi)
    generalize ws.getD i zeroW = a at *
    obtain ⟨lv, f1, f2, f3⟩ := a
    dsimp only at z0 z1 z2 z3
    have hcr := fun lv => cnt_range lv (ws.take i) (by simp; omega)
    have hc0 := hcr false
    have hc1 := hcr true
    clear hcr
    have hga : ∀ cs : Array Value, (wr.alloc (.cells cs 79)).heap[gm]? = some (.cells #[.int .i64 (cnt false (ws.take i)), .int .i64 (cnt true (ws.take i))] 81 (0, 0)) := fun cs => (Below.heap_alloc wr _ gm (Array.getElem?_eq_some_iff.1 HG.out).1).trans HG.out
    have HGA := Aside0.mk (hga #[.bool lv, .int .i64 f1, .int .i64 f2, .int .i64 f3])
    have hy0 := (blk_cell HGA.out 0).trans rfl
    have hy1 := (blk_cell HGA.out 1).trans rfl
    have hw0 := blk_frozen HGA.out 0
    have hw1 := blk_frozen HGA.out 1
    clear hga
    have hlow := HGE.out
    cases lv
    ·have e1 : wrap64 (cnt false (ws.take i) + 1) = cnt false (ws.take i) + 1 := wrap64_small (by omega) (by omega)
     go_wp2
     go_roundg (ws.length - (i + 1))
     case measure => have := HK.out; omega
     case rel => exact ⟨i + 1, by first | rfl | (congr 1; omega), ⟨by have := HK.out; omega⟩, ⟨by rw [HT.out, cnt_snoc, cnt_snoc]; simp [World.setCell, Array.getElem?_modify, HGA.out]⟩, ⟨R_setF (Kd.R_below HO.out (below_alloc (Below.refl _ _) _)) HGA.out (by decide) 0 _⟩, ⟨below_set (below_alloc HB.out _) (by show w.heap.size ≤ gm; omega)⟩⟩
    ·have e1 : wrap64 (cnt true (ws.take i) + 1) = cnt true (ws.take i) + 1 := wrap64_small (by omega) (by omega)
     go_wp2
     go_roundg (ws.length - (i + 1))
     case measure => have := HK.out; omega
     case rel => exact ⟨i + 1, by first | rfl | (congr 1; omega), ⟨by have := HK.out; omega⟩, ⟨by rw [HT.out, cnt_snoc, cnt_snoc]; simp [World.setCell, Array.getElem?_modify, HGA.out]⟩, ⟨R_setF (Kd.R_below HO.out (below_alloc (Below.refl _ _) _)) HGA.out (by decide) 1 _⟩, ⟨below_set (below_alloc HB.out _) (by show w.heap.size ≤ gm; omega)⟩⟩
   ·have hge : ¬ (i : Int) < (ws.length : Int) := by omega
    obtain rfl : i = ws.length := by have := HK.out; omega
    rw [List.take_length] at HG
    have hx0 := (blk_cell HG.out 0).trans rfl
    have hx1 := (blk_cell HG.out 1).trans rfl
    go_wp2
    repeat (go_quiet (first | done | skip); try go_wp2)
    go_ret3
    rw [HE.out, ← HN.out.1, ← HN.out.2]
    exact ⟨rfl, pw_below_drewN HB.out _⟩
end Go.Proofs.Ytaepgogafkmooaa.Hd
namespace Go.Proofs.Ytaepgogafkmooaa.Hd
open Go.RowKit Go.Proofs.YtaepgogafkmooaaW.PrintWords Go.Proofs.YtaepgogafkmooaaW.PrintLast Go.Proofs.YtaepgogafkmooaaW.PrintMore Go.Proofs.Ytaepgogafkmooaa.PB
set_option linter.unusedVariables false
set_option linter.unusedSimpArgs false
def endOf (cs : List (List Int)) (lv : Bool) : Int := if lv = true then (wideOf cs : Int) else (cs.length : Int)
theorem end_f {cs : List (List Int)} {rs : List Rc} (h : FloorOk cs rs) (lv : Bool) (a b c : Int) : impl_floor_end.f cs rs lv a b c = some (endOf cs lv) := by
 unfold impl_floor_end.f endOf
 cases lv with
 | true => rw [if_pos rfl, if_pos rfl, wide_f h]; rfl
 | false => rw [if_neg (by simp), if_neg (by simp), high_f]; rfl
end Go.Proofs.Ytaepgogafkmooaa.Hd
namespace Go.Proofs.Ytaepgogafkmooaa.Hd
open Go.RowKit Go.Proofs.YtaepgogafkmooaaW.PrintWords Go.Proofs.YtaepgogafkmooaaW.PrintLast Go.Proofs.YtaepgogafkmooaaW.PrintMore Go.Proofs.Ytaepgogafkmooaa.PB
set_option linter.unusedVariables false
set_option linter.unusedSimpArgs false
theorem rdT_wall (ws : List Wl) (i : Nat) : rd_T79 ws (i : Int) = ws.getD i zeroW := by
 unfold rd_T79
 rw [Int.toNat_natCast]
 rfl
def cutW (cs : List (List Int)) (a : Wl) : Bool := decide (a.f3 = endOf cs a.f0)
def cutP (cs : List (List Int)) (i : Nat) : List Nat := (List.range i).filter fun j => cutW cs ((wallsOf cs).getD j zeroW)
def cutN (cs : List (List Int)) : List Nat := cutP cs (wallsOf cs).length
def toI (L : List Nat) : List Int := L.map fun (n : Nat) => (n : Int)
theorem cutP_succ (cs : List (List Int)) (i : Nat) : cutP cs (i + 1) = cutP cs i ++ (if cutW cs ((wallsOf cs).getD i zeroW) = true then [i] else []) := by
 unfold cutP
 rw [List.range_succ, List.filter_append, List.filter_cons, List.filter_nil]
theorem cutP_length (cs : List (List Int)) (i : Nat) : (cutP cs i).length ≤ i := by
 unfold cutP
 have := List.length_filter_le (fun j => cutW cs ((wallsOf cs).getD j zeroW)) (List.range i)
 rw [List.length_range] at this
 exact this
theorem toI_length (L : List Nat) : (toI L).length = L.length := by simp [toI]
theorem toI_append (L M : List Nat) : toI (L ++ M) = toI L ++ toI M := by simp [toI]
theorem cutting_l0 {cs : List (List Int)} {rs : List Rc} (h : FloorOk cs rs) : ∀ m i, i + m = (wallsOf cs).length → Evs (fun k => impl_floor_cutting.l0 k (toI (cutP cs i)) (wallsOf cs) ((wallsOf cs).length : Int) (i : Int) cs rs) (toI (cutN cs)) := by
 have hb := wallsOf_bound h
 intro m
 induction m with
 | zero =>
  intro i hi
  obtain rfl : i = (wallsOf cs).length := by omega
  refine Evs.step (h := fun _ => some (toI (cutN cs))) (fun k => ?_) (Evs.const _)
  conv => lhs; unfold impl_floor_cutting.l0
  rw [if_neg (by omega)]
  rfl
 | succ m ih =>
  intro i hi
  have hnx := ih (i + 1) (by omega)
  have hl := cutP_length cs i
  rw [cutP_succ, toI_append] at hnx
  refine Evs.step (fun k => ?_) hnx
  conv => lhs; unfold impl_floor_cutting.l0
  rw [if_pos (by omega), if_pos (by omega), if_pos (by omega), rdT_wall, end_f h, Option.bind_some, wrap_succ (by omega)]
  by_cases hc : ((wallsOf cs).getD i zeroW).f3 = endOf cs ((wallsOf cs).getD i zeroW).f0
  ·rw [if_pos hc, if_pos (by rw [toI_length]; omega), if_pos (show cutW cs ((wallsOf cs).getD i zeroW) = true from decide_eq_true hc)]
   rfl
  ·rw [if_neg hc, if_neg (show ¬ cutW cs ((wallsOf cs).getD i zeroW) = true by unfold cutW; rw [decide_eq_false hc]; simp)]
   rw [show toI [] = [] from rfl, List.append_nil]
theorem cutting_ev {cs : List (List Int)} {rs : List Rc} (h : FloorOk cs rs) : Evs (fun k => impl_floor_cutting.f k cs rs) (toI (cutN cs)) :=
 Evs.bind (walls_ev h) (cutting_l0 h (wallsOf cs).length 0 (by omega))
def fourW (a : Wl) : List Int := [if a.f0 = true then 1 else 0, a.f1, a.f2, a.f3]
theorem walls4_eq (cs : List (List Int)) : walls4 cs = (wallsOf cs).map fourW := by
 unfold walls4
 rw [wallsOf_eq, List.map_append, List.map_map, List.map_map]
 rfl
theorem walls4_len (cs : List (List Int)) : (walls4 cs).length = (wallsOf cs).length := by rw [walls4_eq, List.length_map]
theorem walls4_at (cs : List (List Int)) (i : Nat) (hi : i < (wallsOf cs).length) : rd_L3 (walls4 cs) (i : Int) = fourW ((wallsOf cs).getD i zeroW) := by
 unfold rd_L3
 rw [walls4_eq, Int.toNat_natCast, List.getD_eq_getElem?_getD, List.getElem?_map, List.getElem?_eq_getElem hi, List.getD_eq_getElem?_getD, List.getElem?_eq_getElem hi]
 rfl
theorem size0 {p : List ByteArray} {cs : List (List Int)} {rs : List Rc} (F : PlanFacts p cs rs) : ((rdOf ByteArray.empty p 0).size : Int) = (wideOf cs : Int) := by
 rw [← F.wide, wideOf_numsOf]
 rfl
theorem l3Long_f {p : List ByteArray} {cs : List (List Int)} {rs : List Rc} (F : PlanFacts p cs rs) (a : Wl) : spec_l3Long.f p (fourW a) = some (cutW cs a) := by
 obtain ⟨lv, a1, a2, a3⟩ := a
 have o1 := F.ok.h1
 have l1 := F.len
 have s0 := size0 F
 cases lv with
 | false =>
  have t0 : rd (fourW ⟨false, a1, a2, a3⟩) 0 = 0 := rfl
  have t3 : rd (fourW ⟨false, a1, a2, a3⟩) 3 = a3 := rfl
  have tl : ((fourW ⟨false, a1, a2, a3⟩).length : Int) = 4 := rfl
  unfold spec_l3Long.f
  rw [tl, t0, t3, if_pos (by omega), if_pos rfl, if_pos (by omega)]
  by_cases hc : a3 = (p.length : Int)
  ·rw [if_pos hc]
   unfold cutW endOf
   rw [if_neg (by simp), decide_eq_true (by dsimp only; omega)]
  ·rw [if_neg hc, if_neg (by omega)]
   unfold cutW endOf
   rw [if_neg (by simp), decide_eq_false (by dsimp only; omega)]
 | true =>
  have t0 : rd (fourW ⟨true, a1, a2, a3⟩) 0 = 1 := rfl
  have t3 : rd (fourW ⟨true, a1, a2, a3⟩) 3 = a3 := rfl
  have tl : ((fourW ⟨true, a1, a2, a3⟩).length : Int) = 4 := rfl
  unfold spec_l3Long.f
  rw [tl, t0, t3, if_pos (by omega), if_neg (by omega), if_pos rfl, if_pos (by omega), if_pos (by omega), s0]
  unfold cutW endOf
  rw [if_pos rfl]
  rfl
def cutManyF (p : List ByteArray) : Int × Bool := match floorF p with
 | none => (0, false)
 | some (cs, _) => ((cutN cs).length, true)
def headF : List Nat → Int × Bool
 | [] => (0, false)
 | i :: _ => ((i : Int), true)
def cutFirstF (p : List ByteArray) : Int × Bool := match floorF p with
 | none => (0, false)
 | some (cs, _) => headF (cutN cs)
theorem cutMany_l0 {p : List ByteArray} {cs : List (List Int)} {rs : List Rc} (F : PlanFacts p cs rs) : ∀ m i, i + m = (wallsOf cs).length → Evs (fun k => spec_CutMany.l0 k p (walls4 cs) ((cutP cs i).length : Int) (i : Int)) (((cutN cs).length : Int), true) := by
 have hb := wallsOf_bound F.ok
 intro m
 induction m with
 | zero =>
  intro i hi
  obtain rfl : i = (wallsOf cs).length := by omega
  refine Evs.step (h := fun _ => some (((cutN cs).length : Int), true)) (fun k => ?_) (Evs.const _)
  conv => lhs; unfold spec_CutMany.l0
  rw [if_neg (by rw [walls4_len]; omega)]
  rfl
 | succ m ih =>
  intro i hi
  have hnx := ih (i + 1) (by omega)
  have hl := cutP_length cs i
  rw [cutP_succ, List.length_append] at hnx
  refine Evs.step (fun k => ?_) hnx
  conv => lhs; unfold spec_CutMany.l0
  rw [if_pos (by rw [walls4_len]; omega), if_pos (by omega), walls4_at cs i (by omega), l3Long_f F, Option.bind_some, wrap_succ (i := i) (by omega)]
  cases hc : cutW cs ((wallsOf cs).getD i zeroW) with
  | true =>
   rw [if_pos rfl, if_pos rfl, wrap_succ (by omega)]
   rfl
  | false =>
   rw [if_neg (by simp), if_neg (by simp)]
   rfl
theorem CutMany_ev (p : List ByteArray) (hp : smallP p) : Evs (fun k => spec_CutMany.f k p) (cutManyF p) := by
 have h1 := PlanIn_ev p hp
 rcases planB_cases p with ⟨e1, f1⟩ | ⟨e1, cs, rs, f1⟩
 ·rw [e1] at h1
  have : cutManyF p = (0, false) := by unfold cutManyF; rw [f1]
  rw [this]
  refine Evs.bind h1 ?_
  exact Evs.neg (by simp) (Evs.const _)
 ·rw [e1] at h1
  have F := floor_facts f1
  have : cutManyF p = (((cutN cs).length : Int), true) := by unfold cutManyF; rw [f1]
  rw [this]
  exact Evs.bind h1 (Evs.pos rfl (Evs.bind (l2Walls_ev F) (cutMany_l0 F (wallsOf cs).length 0 (by omega))))
end Go.Proofs.Ytaepgogafkmooaa.Hd
namespace Go.Proofs.Ytaepgogafkmooaa.Hd
open Go.RowKit Go.Proofs.YtaepgogafkmooaaW.PrintWords Go.Proofs.YtaepgogafkmooaaW.PrintLast Go.Proofs.YtaepgogafkmooaaW.PrintMore Go.Proofs.Ytaepgogafkmooaa.PB
set_option linter.unusedVariables false
set_option linter.unusedSimpArgs false
set_option maxHeartbeats 4000000 in
set_option maxRecDepth 100000 in
theorem CutMany_calls (A0 : Option Addr) (c0 : Nat) (l0 : List ByteArray) (w : World) (hr0 : Kd.C Kd.string w A0 l0.length l0) (hc0 : l0.length ≤ c0) (hp : smallP l0) :
  Calls Try.prog 45 #[.slice A0 l0.length c0] w fun e w' => e = .returned (.tuple #[.int .i64 (cutManyF l0).1, .bool (cutManyF l0).2]) ∧ Below w.heap.size w w' := by
 have HR := Aside0.mk hr0
 have HC := Aside0.mk hc0
 have HP := Aside0.mk hp
 clear hr0 hc0 hp
 generalize hM : cutManyF l0 = res
 have HM := Aside0.mk hM
 clear hM
 generalize hF : floorF l0 = t
 have HF := Aside0.mk hF
 clear hF
 rcases t with _ | ⟨cs, rs⟩
 ·have e : res = (0, false) := by rw [← HM.out]; unfold cutManyF; rw [HF.out]
  subst e
  go_enter Try.func45, Try.ntmps45
  go_wp2_with (first
   | (go_at_call 66; refine (floorOf_calls A0 c0 l0 _ HR.out HC.out HP.out).mono ?_; rw [HF.out]; rintro e w8 ⟨hb8, v8, b8, rfl, rfl⟩; have HB8 := Aside0.mk hb8; clear hb8))
  go_ret2
  exact ⟨rfl, HB8.out⟩
 ·have e : res = (((cutN cs).length : Int), true) := by rw [← HM.out]; unfold cutManyF; rw [HF.out]
  have HE := Aside0.mk e
  have hok := floorF_ok HF.out
  obtain ⟨K, hK⟩ := cutting_ev hok
  have HW := Aside0.mk (hK K (Nat.le_refl K))
  have hl : (toI (cutN cs)).length = (cutN cs).length := toI_length _
  have HL := Aside0.mk hl
  clear hK e hl hok
  generalize toI (cutN cs) = cl at *
  go_enter Try.func45, Try.ntmps45
  go_wp2_with (first
   | (go_at_call 66; refine (floorOf_calls A0 c0 l0 _ HR.out HC.out HP.out).mono ?_; rw [HF.out]; rintro e w8 ⟨hb8, v8, b8, rfl, rfl, g, rfl, hfl⟩; have HB8 := Aside0.mk hb8; have HFl8 := Aside0.mk hfl; clear hb8 hfl)
   | (go_at_call 97; refine (impl_floor_cutting.calls K g cs rs cl _ _ HFl8.out (Below.refl _ _) HW.out).mono ?_; rintro e w9 ⟨v9, rfl, hr9, -, hb9, -⟩; obtain ⟨A9, c9, e9⟩ := Kd.R_slice hr9; subst e9; have HB9 := Aside0.mk (below_step HB8.out hb9); clear hb9 hr9))
  go_ret2
  rw [HE.out, ← HL.out]
  exact ⟨rfl, HB9.out⟩
set_option maxHeartbeats 4000000 in
set_option maxRecDepth 100000 in
theorem CutFirst_calls (A0 : Option Addr) (c0 : Nat) (l0 : List ByteArray) (w : World) (hr0 : Kd.C Kd.string w A0 l0.length l0) (hc0 : l0.length ≤ c0) (hp : smallP l0) :
  Calls Try.prog 43 #[.slice A0 l0.length c0] w fun e w' => e = .returned (.tuple #[.int .i64 (cutFirstF l0).1, .bool (cutFirstF l0).2]) ∧ Below w.heap.size w w' := by
 have HR := Aside0.mk hr0
 have HC := Aside0.mk hc0
 have HP := Aside0.mk hp
 clear hr0 hc0 hp
 generalize hM : cutFirstF l0 = res
 have HM := Aside0.mk hM
 clear hM
 generalize hF : floorF l0 = t
 have HF := Aside0.mk hF
 clear hF
 rcases t with _ | ⟨cs, rs⟩
 ·have e : res = (0, false) := by rw [← HM.out]; unfold cutFirstF; rw [HF.out]
  subst e
  go_enter Try.func43, Try.ntmps43
  go_wp2_with (first
   | (go_at_call 66; refine (floorOf_calls A0 c0 l0 _ HR.out HC.out HP.out).mono ?_; rw [HF.out]; rintro e w8 ⟨hb8, v8, b8, rfl, rfl⟩; have HB8 := Aside0.mk hb8; clear hb8))
  go_ret2
  exact ⟨rfl, HB8.out⟩
 ·have e : res = headF (cutN cs) := by rw [← HM.out]; unfold cutFirstF; rw [HF.out]
  have hok := floorF_ok HF.out
  obtain ⟨K, hK⟩ := cutting_ev hok
  have HW := Aside0.mk (hK K (Nat.le_refl K))
  have hle : (cutN cs).length ≤ 72 := by
   have := cutP_length cs (wallsOf cs).length
   have := wallsOf_bound hok
   unfold cutN
   omega
  clear hK hok
  generalize cutN cs = cn at *
  rcases cn with _ | ⟨i, cn⟩
  ·have HE := Aside0.mk (show res = (0, false) from e)
   clear e hle
   go_enter Try.func43, Try.ntmps43
   go_wp2_with (first
    | (go_at_call 66; refine (floorOf_calls A0 c0 l0 _ HR.out HC.out HP.out).mono ?_; rw [HF.out]; rintro e w8 ⟨hb8, v8, b8, rfl, rfl, g, rfl, hfl⟩; have HB8 := Aside0.mk hb8; have HFl8 := Aside0.mk hfl; clear hb8 hfl)
    | (go_at_call 97; refine (impl_floor_cutting.calls K g cs rs (toI []) _ _ HFl8.out (Below.refl _ _) HW.out).mono ?_; rintro e w9 ⟨v9, rfl, hr9, -, hb9, -⟩; obtain ⟨A9, c9, e9⟩ := Kd.R_slice hr9; subst e9; rw [show (toI []).length = 0 from rfl]; have HB9 := Aside0.mk (below_step HB8.out hb9); clear hb9 hr9))
   go_ret2
   rw [HE.out]
   exact ⟨rfl, HB9.out⟩
  ·have HE := Aside0.mk (show res = ((i : Int), true) from e)
   have hl : (toI (i :: cn)).length = cn.length + 1 := by rw [toI_length]; rfl
   have h0 : rd (toI (i :: cn)) 0 = (i : Int) := rfl
   have HL := Aside0.mk hl
   have H0 := Aside0.mk h0
   rw [List.length_cons] at hle
   clear e hl h0
   generalize toI (i :: cn) = cl at *
   have d0 : (((cn.length + 1 : Nat) : Int) == 0) = false := by rw [beq_eq_false_iff_ne]; omega
   have d1 : (0 : Int) < ((cn.length + 1 : Nat) : Int) := by omega
   go_enter Try.func43, Try.ntmps43
   go_wp2_with (first
    | (go_at_call 66; refine (floorOf_calls A0 c0 l0 _ HR.out HC.out HP.out).mono ?_; rw [HF.out]; rintro e w8 ⟨hb8, v8, b8, rfl, rfl, g, rfl, hfl⟩; have HB8 := Aside0.mk hb8; have HFl8 := Aside0.mk hfl; clear hb8 hfl)
    | (go_at_call 97; refine (impl_floor_cutting.calls K g cs rs cl _ _ HFl8.out (Below.refl _ _) HW.out).mono ?_; rintro e w9 ⟨v9, rfl, hr9, -, hb9, -⟩; obtain ⟨A8, c8, e8⟩ := Kd.R_slice hr9; subst e8; rw [HL.out]; have HB9 := Aside0.mk (below_step HB8.out hb9); have HF9 := Aside0.mk (HFl8.out.below hb9); clear hb9 hr9)
    | (go_at_call 97; refine (impl_floor_cutting.calls K g cs rs cl _ _ HF9.out (Below.refl _ _) HW.out).mono ?_; rintro e w10 ⟨v10, rfl, hr10, -, hb10, -⟩; obtain ⟨g9, c9, e9, -, -, -, -⟩ := Kd.R_form hr10 (by rw [HL.out]; omega); subst e9; have hx10 := (Kd.R_celln (0 : Int) hr10 0 (by omega) (by rw [HL.out]; omega)).1; rw [show rdOf (0 : Int) cl 0 = (i : Int) from H0.out] at hx10; replace hx10 : w10.cell? ⟨g9, 0, none⟩ = some (.int .i64 (i : Int)) := hx10; rw [HL.out]; have HB10 := Aside0.mk (below_step HB9.out hb10); clear hb10 hr10))
   go_ret2
   rw [HE.out]
   exact ⟨rfl, HB10.out⟩
end Go.Proofs.Ytaepgogafkmooaa.Hd
namespace Go.Proofs.Ytaepgogafkmooaa.Hd
open Go.RowKit Go.Proofs.YtaepgogafkmooaaW.PrintWords Go.Proofs.YtaepgogafkmooaaW.PrintLast Go.Proofs.YtaepgogafkmooaaW.PrintMore Go.Proofs.Ytaepgogafkmooaa.PB
set_option linter.unusedVariables false
set_option linter.unusedSimpArgs false
def impl_CutMany.f (l0 : List ByteArray) : Option (Int × Bool) := if smallB l0 = true then some (cutManyF l0) else none
theorem impl_CutMany.calls (A0 : Option Addr) (c0 : Nat) (l0 : List ByteArray) (r1 : Int) (r2 : Bool) (w : World) (hr0 : Kd.C Kd.string w A0 l0.length l0) (hc0 : l0.length ≤ c0) (h : impl_CutMany.f l0 = some (r1, r2)) :
  Calls Try.prog 45 #[.slice A0 l0.length c0] w fun e w' => e = .returned (.tuple #[.int .i64 r1, .bool r2]) ∧ Below w.heap.size w w' := by
 unfold impl_CutMany.f at h
 split at h
 ·rename_i hs
  have e := Option.some.inj h
  have := CutMany_calls A0 c0 l0 w hr0 hc0 ((smallB_iff _).1 hs)
  rw [e] at this
  exact this
 ·cases h
end Go.Proofs.Ytaepgogafkmooaa.Hd
namespace Go.Proofs.Ytaepgogafkmooaa.Hd
open Go.RowKit Go.Proofs.YtaepgogafkmooaaW.PrintWords Go.Proofs.YtaepgogafkmooaaW.PrintLast Go.Proofs.YtaepgogafkmooaaW.PrintMore Go.Proofs.Ytaepgogafkmooaa.PB
set_option linter.unusedVariables false
set_option linter.unusedSimpArgs false
def givenB (p : List ByteArray) (a : Int) : Bool := match floorF p with
 | none => false
 | some (_, rs) => hasB rs a
theorem l1Given_ev (p : List ByteArray) (a : Int) (hp : smallP p) : Evs (fun k => spec_l1Given.f k p a) (givenB p a) := by
 have h1 := PlanIn_ev p hp
 rcases planB_cases p with ⟨e1, f1⟩ | ⟨e1, cs, rs, f1⟩
 ·rw [e1] at h1
  have : givenB p a = false := by unfold givenB; rw [f1]
  rw [this]
  refine Evs.bind h1 ?_
  refine Evs.congr (h := fun _ => some false) (fun k => ?_) (Evs.const _)
  rw [if_neg (by simp)]
 ·rw [e1] at h1
  have F := floor_facts f1
  have hg : givenB p a = hasB rs a := by unfold givenB; rw [f1]
  have hR := l1Rooms_ev p _ (gridOk_small F.canon.grid)
  rw [F.canon.max, ← F.rooms] at hR
  have h9 := F.ok.many
  rw [hg]
  refine Evs.bind h1 ?_
  refine Evs.congr (h := fun k => (spec_l1Rooms.f k p).bind fun t167 => ((spec_l6In.f a 0 (wrap64 (t167 - 1))).bind fun t168 => (some t168))) (fun k => ?_) (Evs.bind hR ?_)
  ·rw [if_pos rfl]
  ·refine Evs.congr (h := fun _ => some (hasB rs a)) (fun k => ?_) (Evs.const _)
   rw [wrap64_small (by omega) (by omega), l6In_f]
   simp only [Option.bind_some]
   unfold hasB
   congr 2
   congr 1
   exact propext ⟨fun h => by omega, fun h => by omega⟩
theorem floor_sum {p : List ByteArray} {cs : List (List Int)} {rs : List Rc} (h : floorF p = some (cs, rs)) : sumArea rs = (p.length : Int) * (wideOf (numsOf p) : Int) := by
 have F := floor_facts h
 rw [floorF_grid F.canon.grid] at h
 split at h
 ·rename_i hc
  rw [F.rooms]
  exact hc.2.1
 ·cases h
theorem count_conv (rows : List (List Int)) (wi : Nat) (x : Int) (b : Rc) : ∀ n, (∀ m, m < n → cellN rows wi m = x → inBox b wi m) → countN rows wi x n = countB b wi n → ∀ m, m < n → inBox b wi m → cellN rows wi m = x
 | 0, _, _, m, hm, _ => by omega
 | n + 1, h, he, m, hm, hb => by
  have hle := countN_le_B rows wi x b n (fun m hm => h m (by omega))
  simp only [countN, countB] at he
  by_cases hx : cellN rows wi n = x
  ·rw [if_pos hx, if_pos (h n (by omega) hx)] at he
   rcases Nat.lt_or_eq_of_le (Nat.lt_succ_iff.1 hm) with h1 | h1
   ·exact count_conv rows wi x b n (fun m hm => h m (by omega)) (by omega) m h1 hb
   ·subst h1; exact hx
  ·rw [if_neg hx] at he
   by_cases hbn : inBox b wi n
   ·rw [if_pos hbn] at he; omega
   ·rw [if_neg hbn] at he
    rcases Nat.lt_or_eq_of_le (Nat.lt_succ_iff.1 hm) with h1 | h1
    ·exact count_conv rows wi x b n (fun m hm => h m (by omega)) he m h1 hb
    ·subst h1; exact absurd hb hbn
theorem room_cells {p : List ByteArray} {cs : List (List Int)} {rs : List Rc} (h : floorF p = some (cs, rs)) (i : Nat) (hi : i < rs.length) (r c : Nat) (hr : r < cs.length) (hc : c < wideOf cs) :
  valAt cs r c = (i : Int) ↔ ((rs.getD i zeroR).f0 ≤ r ∧ (r : Int) < (rs.getD i zeroR).f0 + (rs.getD i zeroR).f2 ∧ (rs.getD i zeroR).f1 ≤ c ∧ (c : Int) < (rs.getD i zeroR).f1 + (rs.getD i zeroR).f3) := by
 have F := floor_facts h
 have hsum := floor_sum h
 have hrs := F.rooms
 have hfull := full_iff F.canon
 rw [← hrs, decide_eq_true hsum, List.all_eq_true] at hfull
 have hf := of_decide_eq_true (hfull i (List.mem_range.2 hi))
 rw [← hrs] at hf
 have hs := F.canon.shape
 obtain ⟨x, hx, hb, hbd⟩ := rooms_box hs i (by rw [← hrs]; exact hi)
 rw [numsOf_length, ← hrs] at hb hbd
 have hiff : ∀ m, m < p.length * wideOf (numsOf p) → (cellN (numsOf p) (wideOf (numsOf p)) m = (i : Int) ↔ valAt (numsOf p) (m / wideOf (numsOf p)) (m % wideOf (numsOf p)) = x) := fun m hm => by
  rw [F.canon.cell m hm]
  exact idx_iff (ordAll_nodup _) hx (cell_mem hs m (by rw [numsOf_length]; exact hm))
 have hin : ∀ m, m < p.length * wideOf (numsOf p) → cellN (numsOf p) (wideOf (numsOf p)) m = (i : Int) → inBox (rs.getD i zeroR) (wideOf (numsOf p)) m := fun m hm hv => hb.ins m hm ((hiff m hm).1 hv)
 have hcb := countB_all (rs.getD i zeroR) p.length (wideOf (numsOf p)) hbd
 have hconv := count_conv _ _ _ _ _ hin (hf.trans hcb.symm)
 rw [F.wide] at hin hconv
 have hm : r * wideOf cs + c < p.length * wideOf cs := by
  rw [F.len]
  have : (r + 1) * wideOf cs ≤ cs.length * wideOf cs := Nat.mul_le_mul_right _ hr
  rw [Nat.succ_mul] at this
  omega
 obtain ⟨d1, d2⟩ := divmod_of (r := r) hc
 have hcell : cellN (numsOf p) (wideOf cs) (r * wideOf cs + c) = valAt cs r c := by
  unfold cellN
  rw [d1, d2, F.nums, valAt_map F.ok.rect _ hr hc]
  omega
 have hib : inBox (rs.getD i zeroR) (wideOf cs) (r * wideOf cs + c) ↔ ((rs.getD i zeroR).f0 ≤ r ∧ (r : Int) < (rs.getD i zeroR).f0 + (rs.getD i zeroR).f2 ∧ (rs.getD i zeroR).f1 ≤ c ∧ (c : Int) < (rs.getD i zeroR).f1 + (rs.getD i zeroR).f3) := by unfold inBox; rw [d1, d2]
 rw [← hcell, ← hib]
 exact ⟨hin _ hm, hconv _ hm⟩
end Go.Proofs.Ytaepgogafkmooaa.Hd
namespace Go.Proofs.Ytaepgogafkmooaa.Hd
open Go.RowKit Go.Proofs.YtaepgogafkmooaaW.PrintWords Go.Proofs.YtaepgogafkmooaaW.PrintLast Go.Proofs.YtaepgogafkmooaaW.PrintMore Go.Proofs.Ytaepgogafkmooaa.PB
set_option linter.unusedVariables false
set_option linter.unusedSimpArgs false
def Conv (hi wi : Nat) (g : Nat → Nat → Int) : Prop := ∀ r c r' c' i j, r < hi → c < wi → r' < hi → c' < wi → g r c = g r' c' → min r r' ≤ i → i ≤ max r r' → min c c' ≤ j → j ≤ max c c' → g i j = g r c
def ConvG (rows : List (List Int)) : Prop := Conv rows.length (wideOf rows) (valAt rows)
theorem Conv.congr {hi wi : Nat} {g g' : Nat → Nat → Int} (h : Conv hi wi g) (e : ∀ r c, r < hi → c < wi → g r c = g' r c) : Conv hi wi g' := by
 intro r c r' c' i j h1 h2 h3 h4 hv k1 k2 k3 k4
 rw [← e i j (by omega) (by omega), ← e r c h1 h2]
 exact h r c r' c' i j h1 h2 h3 h4 (by rw [e r c h1 h2, e r' c' h3 h4]; exact hv) k1 k2 k3 k4
theorem Conv.map {hi wi : Nat} {g : Nat → Nat → Int} (h : Conv hi wi g) (f : Int → Int) (hf : ∀ r c r' c', r < hi → c < wi → r' < hi → c' < wi → f (g r c) = f (g r' c') → g r c = g r' c') : Conv hi wi (fun r c => f (g r c)) := by
 intro r c r' c' i j h1 h2 h3 h4 hv k1 k2 k3 k4
 show f _ = f _
 rw [h r c r' c' i j h1 h2 h3 h4 (hf _ _ _ _ h1 h2 h3 h4 hv) k1 k2 k3 k4]
theorem names_canon {rows : List (List Int)} (hs : shapeOk rows = true) (h9 : (roomsOf rows).length ≤ 9) : Canon (textOf (canon rows)) := by
 have hn := names_nums hs
 have hinj := names_inj rows
 have hL := rooms_len hs
 refine ⟨?_, ?_⟩
 ·unfold gridOk
  rw [Bool.and_eq_true, hn, mapG_shape]
  refine ⟨hs, ?_⟩
  rw [List.all_eq_true]
  intro s hss
  obtain ⟨r, hr, rfl⟩ := List.mem_map.1 hss
  unfold okText
  rw [bytesOf_rowText r (canon_val hs r hr), List.all_eq_true]
  intro x hx
  obtain ⟨y, hy, rfl⟩ := List.mem_map.1 hx
  unfold canon canonL at hr
  obtain ⟨r0, hr0, rfl⟩ := List.mem_map.1 hr
  obtain ⟨z, hz, rfl⟩ := List.mem_map.1 hy
  have h3 : (ordAll rows).idxOf z < (ordAll rows).length := List.idxOf_lt_length_of_mem (ordL_mem rows.flatten [] z (List.mem_flatten.2 ⟨r0, hr0, hz⟩))
  simp only [okLetter, Bool.not_eq_true', Bool.or_eq_false_iff, decide_eq_false_iff_not]
  omega
 ·unfold namesOf
  rw [hn, canon_map hinj]
theorem text_length (rows : List (List Int)) : (textOf (canon rows)).length = rows.length := by simp [textOf, canon, canonL]
theorem canon_length (rows : List (List Int)) : (canon rows).length = rows.length := by simp [canon, canonL]
theorem names_floor {rows : List (List Int)} (hs : shapeOk rows = true) (h9 : (roomsOf rows).length ≤ 9) : floorF (textOf (canon rows)) = if sumArea (roomsOf rows) = (rows.length : Int) * (wideOf rows : Int) then some (canon rows, roomsOf rows) else none := by
 have hC := names_canon hs h9
 have hn := names_nums hs
 have hinj := names_inj rows
 rw [floorF_grid hC.grid, hn, rooms_map hs hinj, mapG_wide, text_length, canon_map hinj]
 by_cases h : sumArea (roomsOf rows) = (rows.length : Int) * (wideOf rows : Int)
 ·rw [if_pos h, if_pos ⟨h9, h, hC.names⟩]
 ·rw [if_neg h, if_neg (fun z => h z.2.1)]
theorem canon_wide (rows : List (List Int)) : wideOf (canon rows) = wideOf rows := by
 unfold wideOf canon canonL
 cases rows with
 | nil => rfl
 | cons a r => simp
theorem canon_at {rows : List (List Int)} (hs : shapeOk rows = true) {r c : Nat} (hr : r < rows.length) (hc : c < wideOf rows) : valAt (canon rows) r c = ((ordAll rows).idxOf (valAt rows r c) : Int) := by
 have e := congrArg (fun R => valAt R r c) (rect_map (shape_rect hs) (fun x => ((ordAll rows).idxOf x : Int)))
 exact Eq.trans e (valAt_gridOf hr hc)
theorem idxOf_inj {L : List Int} {x y : Int} (hx : x ∈ L) (hy : y ∈ L) (e : L.idxOf x = L.idxOf y) : x = y := by
 have h1 := List.idxOf_lt_length_of_mem hx
 have h2 := List.idxOf_lt_length_of_mem hy
 have e1 : L[L.idxOf x] = x := List.getElem_idxOf h1
 have e2 : L[L.idxOf y] = y := List.getElem_idxOf h2
 rw [← e1, ← e2]
 congr 1
theorem val_ord {rows : List (List Int)} (hs : shapeOk rows = true) {r c : Nat} (hr : r < rows.length) (hc : c < wideOf rows) : valAt rows r c ∈ ordAll rows := ordL_mem rows.flatten [] _ (val_mem (shape_rect hs) hr hc)
theorem canon_eq_iff {rows : List (List Int)} (hs : shapeOk rows = true) {r c r' c' : Nat} (hr : r < rows.length) (hc : c < wideOf rows) (hr' : r' < rows.length) (hc' : c' < wideOf rows) : valAt (canon rows) r c = valAt (canon rows) r' c' ↔ valAt rows r c = valAt rows r' c' := by
 rw [canon_at hs hr hc, canon_at hs hr' hc']
 constructor
 ·exact fun h => idxOf_inj (val_ord hs hr hc) (val_ord hs hr' hc') (by omega)
 ·intro h
  rw [h]
theorem conv_canon {rows : List (List Int)} (hs : shapeOk rows = true) : ConvG (canon rows) ↔ ConvG rows := by
 unfold ConvG
 rw [canon_length, canon_wide]
 constructor
 ·intro h r c r' c' i j h1 h2 h3 h4 hv k1 k2 k3 k4
  exact (canon_eq_iff hs (by omega) (by omega) h1 h2).1 (h r c r' c' i j h1 h2 h3 h4 ((canon_eq_iff hs h1 h2 h3 h4).2 hv) k1 k2 k3 k4)
 ·intro h r c r' c' i j h1 h2 h3 h4 hv k1 k2 k3 k4
  exact (canon_eq_iff hs (by omega) (by omega) h1 h2).2 (h r c r' c' i j h1 h2 h3 h4 ((canon_eq_iff hs h1 h2 h3 h4).1 hv) k1 k2 k3 k4)
theorem countN_conv (rows : List (List Int)) (wi : Nat) (x : Int) (b : Rc) : ∀ n, (∀ m, m < n → (cellN rows wi m = x ↔ inBox b wi m)) → countN rows wi x n = countB b wi n
 | 0, _ => rfl
 | n + 1, h => by
  have ih := countN_conv rows wi x b n (fun m hm => h m (by omega))
  simp only [countN, countB]
  by_cases hx : cellN rows wi n = x
  ·rw [if_pos hx, if_pos ((h n (by omega)).1 hx), ih]
  ·rw [if_neg hx, if_neg (fun z => hx ((h n (by omega)).2 z)), ih]
theorem conv_sum {rows : List (List Int)} (hs : shapeOk rows = true) (h9 : (roomsOf rows).length ≤ 9) : sumArea (roomsOf rows) = (rows.length : Int) * (wideOf rows : Int) ↔ ConvG rows := by
 have hfl := names_floor hs h9
 constructor
 ·intro h
  rw [if_pos h] at hfl
  have F := floor_facts hfl
  rw [← conv_canon hs]
  intro r c r' c' i j h1 h2 h3 h4 hv k1 k2 k3 k4
  have hv1 := valAt_range F.ok r c h1 h2
  obtain ⟨q, hq⟩ := Int.eq_ofNat_of_zero_le hv1.1
  have hq2 : q < (roomsOf rows).length := by omega
  have hc := fun r c hr hc => room_cells hfl q hq2 r c hr hc
  have a1 := (hc r c h1 h2).1 hq
  have a2 := (hc r' c' h3 h4).1 (by rw [← hv]; exact hq)
  rw [hq]
  exact (hc i j (by omega) (by omega)).2 (by omega)
 ·intro h
  have hC := names_canon hs h9
  have hn := names_nums hs
  have hinj := names_inj rows
  have hiff := full_iff hC
  rw [hn, rooms_map hs hinj, mapG_wide, text_length] at hiff
  have hall : (List.range (roomsOf rows).length).all (fullB (textOf (canon rows))) = true := by
   rw [List.all_eq_true]
   intro x hx
   have hx := List.mem_range.1 hx
   unfold fullB
   rw [decide_eq_true_eq, hn, rooms_map hs hinj, mapG_wide, text_length]
   obtain ⟨v, hv, hb, hbd⟩ := rooms_box hs x hx
   rw [← countB_all _ _ _ hbd]
   obtain ⟨s1, s2, s3, s4, s5⟩ := (shapeOk_iff _).1 hs
   have hR := shape_rect hs
   refine countN_conv _ _ _ _ _ fun m hm => ?_
   have hr : m / wideOf rows < rows.length := by rw [Nat.div_lt_iff_lt_mul (by omega)]; exact hm
   have hc := Nat.mod_lt m (show 0 < wideOf rows by omega)
   have hcell : cellN (mapG (fun x => 97 + ((ordAll rows).idxOf x : Int)) rows) (wideOf rows) m = ((ordAll rows).idxOf (valAt rows (m / wideOf rows) (m % wideOf rows)) : Int) := by
    unfold cellN
    rw [valAt_map hR _ hr hc]
    omega
   rw [hcell, idx_iff (ordAll_nodup rows) hv (val_ord hs hr hc)]
   constructor
   ·exact fun h => hb.ins m hm h
   ·intro hin
    obtain ⟨i1, i2, i3, i4⟩ := hin
    obtain ⟨mt, nt, vt, et⟩ := hb.top
    obtain ⟨ml, nl, vl, el⟩ := hb.left
    obtain ⟨mw, nw, vw, ew⟩ := hb.low
    obtain ⟨mr, nr, vr, er⟩ := hb.right
    have rr : ∀ m, m < rows.length * wideOf rows → m / wideOf rows < rows.length ∧ m % wideOf rows < wideOf rows := fun m hm => ⟨by rw [Nat.div_lt_iff_lt_mul (by omega)]; exact hm, Nat.mod_lt m (by omega)⟩
    obtain ⟨t1, t2⟩ := rr mt nt
    obtain ⟨l1, l2⟩ := rr ml nl
    obtain ⟨w1, w2⟩ := rr mw nw
    obtain ⟨r1, r2⟩ := rr mr nr
    have gt := hb.ins mt nt vt
    have gl := hb.ins ml nl vl
    have gw := hb.ins mw nw vw
    have gr := hb.ins mr nr vr
    generalize hbx : (roomsOf rows).getD x zeroR = bx at *
    -- the upper left and the lower right corner
    have c1 := h (mt / wideOf rows) (mt % wideOf rows) (ml / wideOf rows) (ml % wideOf rows) (mt / wideOf rows) (ml % wideOf rows) t1 t2 l1 l2 (vt.trans vl.symm) (by omega) (by omega) (by omega) (by omega)
    have c2 := h (mw / wideOf rows) (mw % wideOf rows) (mr / wideOf rows) (mr % wideOf rows) (mw / wideOf rows) (mr % wideOf rows) w1 w2 r1 r2 (vw.trans vr.symm) (by omega) (by omega) (by omega) (by omega)
    have c3 := h (mt / wideOf rows) (ml % wideOf rows) (mw / wideOf rows) (mr % wideOf rows) (m / wideOf rows) (m % wideOf rows) t1 l2 w1 r2 (by rw [c1, c2, vt, vw]) (by omega) (by omega) (by omega) (by omega)
    rw [c3, c1, vt]
  rw [hall] at hiff
  exact of_decide_eq_true hiff.symm
structure OkG (rows : List (List Int)) : Prop where
 shape : shapeOk rows = true
 many : (ordAll rows).length ≤ 9
 conv : ConvG rows
theorem OkG.plan {rows : List (List Int)} (h : OkG rows) : planF rows = (textOf (canon rows), true) := by
 have h9 : (roomsOf rows).length ≤ 9 := by rw [← rooms_len h.shape]; exact h.many
 rw [planF_shape h.shape, if_pos ⟨h9, (conv_sum h.shape h9).2 h.conv⟩]
theorem OkG.floor {rows : List (List Int)} (h : OkG rows) : floorF (textOf (canon rows)) = some (canon rows, roomsOf rows) := by
 have h9 : (roomsOf rows).length ≤ 9 := by rw [← rooms_len h.shape]; exact h.many
 rw [names_floor h.shape h9, if_pos ((conv_sum h.shape h9).2 h.conv)]
theorem planF_cases (rows : List (List Int)) : (OkG rows ∧ planF rows = (textOf (canon rows), true)) ∨ (¬ OkG rows ∧ planF rows = ([], false)) := by
 by_cases h : OkG rows
 ·exact .inl ⟨h, h.plan⟩
 ·refine .inr ⟨h, ?_⟩
  cases hs : shapeOk rows with
  | false => exact planF_noshape hs
  | true =>
   rw [planF_shape hs]
   by_cases hc : (roomsOf rows).length ≤ 9 ∧ sumArea (roomsOf rows) = (rows.length : Int) * (wideOf rows : Int)
   ·exact absurd ⟨hs, by rw [rooms_len hs]; exact hc.1, (conv_sum hs hc.1).1 hc.2⟩ h
   ·rw [if_neg hc]
theorem floor_shape {cs : List (List Int)} {rs : List Rc} (h : FloorOk cs rs) : shapeOk cs = true := (shapeOk_iff _).2 ⟨h.h1, h.h6, h.w1, h.w6, h.rect⟩
theorem add_inj (a : Int) (S : Int → Prop) : InjOn (fun x => a + x) S := fun x y _ _ e => by have : a + x = a + y := e; omega
theorem floor_okG {p : List ByteArray} {cs : List (List Int)} {rs : List Rc} (h : floorF p = some (cs, rs)) : OkG cs ∧ canon cs = cs ∧ rs = roomsOf cs ∧ p = textOf cs := by
 have F := floor_facts h
 have hs := floor_shape F.ok
 have e1 : canon cs = cs := by
  have e2 : canon (mapG (fun x => 97 + x) cs) = canon cs := canon_map (add_inj 97 _)
  rw [← F.nums, ← F.cells] at e2
  exact e2.symm
 have e2 : rs = roomsOf cs := by rw [F.rooms, F.nums, rooms_map hs (add_inj 97 _)]
 have h9 : (roomsOf cs).length ≤ 9 := by rw [← e2]; exact F.ok.many
 have hsum := floor_sum h
 rw [F.wide, F.len, e2] at hsum
 exact ⟨⟨hs, by rw [rooms_len hs]; exact h9, (conv_sum hs h9).1 hsum⟩, e1, e2, F.text⟩
end Go.Proofs.Ytaepgogafkmooaa.Hd
namespace Go.Proofs.Ytaepgogafkmooaa.Hd
open Go.RowKit Go.Proofs.YtaepgogafkmooaaW.PrintWords Go.Proofs.YtaepgogafkmooaaW.PrintLast Go.Proofs.YtaepgogafkmooaaW.PrintMore Go.Proofs.Ytaepgogafkmooaa.PB
set_option linter.unusedVariables false
set_option linter.unusedSimpArgs false
theorem gridOf_wide {h w : Nat} {g : Nat → Nat → Int} (h1 : 1 ≤ h) : wideOf (gridOf h w g) = w := by
 have := gridOf_get (hi := h) (wi := w) (g := g) (r := 0) (by omega)
 unfold wideOf
 rw [List.getD_eq_getElem?_getD, this]
 simp
def reG (X : List (List Int)) (h w : Nat) (a b : Nat → Nat → Nat) : List (List Int) := gridOf h w fun r c => valAt X (a r c) (b r c)
def IntoR (hi wi h w : Nat) (a b : Nat → Nat → Nat) : Prop := ∀ r c, r < h → c < w → a r c < hi ∧ b r c < wi
def BoxM (h w : Nat) (a b : Nat → Nat → Nat) : Prop := ∀ r c r' c' i j, r < h → c < w → r' < h → c' < w → min r r' ≤ i → i ≤ max r r' → min c c' ≤ j → j ≤ max c c' →
 min (a r c) (a r' c') ≤ a i j ∧ a i j ≤ max (a r c) (a r' c') ∧ min (b r c) (b r' c') ≤ b i j ∧ b i j ≤ max (b r c) (b r' c')
theorem shape_grid {h w : Nat} {g : Nat → Nat → Int} (h1 : 1 ≤ h) (h6 : h ≤ 6) (w1 : 1 ≤ w) (w6 : w ≤ 6) : shapeOk (gridOf h w g) = true := by
 rw [shapeOk_iff, gridOf_length, gridOf_wide h1]
 exact ⟨h1, h6, w1, w6, gridOf_rect h w g⟩
theorem vals_grid {h w : Nat} {g : Nat → Nat → Int} {v : Int} : Vals (gridOf h w g) v ↔ ∃ r c, r < h ∧ c < w ∧ g r c = v := by
 unfold Vals gridOf
 rw [List.mem_flatten]
 constructor
 ·rintro ⟨l, hl, hv⟩
  obtain ⟨r, hr, rfl⟩ := List.mem_map.1 hl
  obtain ⟨c, hc, rfl⟩ := List.mem_map.1 hv
  exact ⟨r, c, List.mem_range.1 hr, List.mem_range.1 hc, rfl⟩
 ·rintro ⟨r, c, hr, hc, rfl⟩
  exact ⟨_, List.mem_map.2 ⟨r, List.mem_range.2 hr, rfl⟩, List.mem_map.2 ⟨c, List.mem_range.2 hc, rfl⟩⟩
theorem vals_rows {X : List (List Int)} (hs : shapeOk X = true) {v : Int} : Vals X v ↔ ∃ r c, r < X.length ∧ c < wideOf X ∧ valAt X r c = v := by
 have := rect_eq (shape_rect hs)
 conv => lhs; rw [this]
 exact vals_grid
theorem ord_vals (X : List (List Int)) (v : Int) : v ∈ ordAll X ↔ Vals X v := ⟨ordAll_vals X v, fun h => ordL_mem X.flatten [] v h⟩
theorem ord_sub {X Y : List (List Int)} (h : ∀ v, Vals X v → Vals Y v) : (ordAll X).length ≤ (ordAll Y).length :=
 (ordAll_nodup X).length_le_of_subset fun v hv => (ord_vals Y v).2 (h v ((ord_vals X v).1 hv))
theorem re_vals {X : List (List Int)} (hs : shapeOk X = true) {h w : Nat} {a b : Nat → Nat → Nat} (hi : IntoR X.length (wideOf X) h w a b) : ∀ v, Vals (reG X h w a b) v → Vals X v := by
 intro v hv
 obtain ⟨r, c, hr, hc, rfl⟩ := vals_grid.1 hv
 exact (vals_rows hs).2 ⟨_, _, (hi r c hr hc).1, (hi r c hr hc).2, rfl⟩
theorem re_conv {X : List (List Int)} (hc : ConvG X) {h w : Nat} {a b : Nat → Nat → Nat} (hi : IntoR X.length (wideOf X) h w a b) (hb : BoxM h w a b) : Conv h w (fun r c => valAt X (a r c) (b r c)) := by
 intro r c r' c' i j h1 h2 h3 h4 hv k1 k2 k3 k4
 obtain ⟨m1, m2, m3, m4⟩ := hb r c r' c' i j h1 h2 h3 h4 k1 k2 k3 k4
 obtain ⟨a1, a2⟩ := hi r c h1 h2
 obtain ⟨b1, b2⟩ := hi r' c' h3 h4
 exact hc _ _ _ _ _ _ a1 a2 b1 b2 hv m1 m2 m3 m4
theorem convG_grid {h w : Nat} {g : Nat → Nat → Int} (h1 : 1 ≤ h) (hc : Conv h w g) : ConvG (gridOf h w g) := by
 unfold ConvG
 rw [gridOf_length, gridOf_wide h1]
 exact hc.congr fun r c hr hc => (valAt_gridOf hr hc).symm
theorem re_ok {X : List (List Int)} (hX : OkG X) {h w : Nat} {a b : Nat → Nat → Nat} (h1 : 1 ≤ h) (h6 : h ≤ 6) (w1 : 1 ≤ w) (w6 : w ≤ 6) (hi : IntoR X.length (wideOf X) h w a b) (hb : BoxM h w a b) : OkG (reG X h w a b) :=
 ⟨shape_grid h1 h6 w1 w6, Nat.le_trans (ord_sub (re_vals hX.shape hi)) hX.many, convG_grid h1 (re_conv hX.conv hi hb)⟩
theorem reG_length (X : List (List Int)) (h w : Nat) (a b : Nat → Nat → Nat) : (reG X h w a b).length = h := gridOf_length _ _ _
theorem reG_wide (X : List (List Int)) {h w : Nat} (a b : Nat → Nat → Nat) (h1 : 1 ≤ h) : wideOf (reG X h w a b) = w := gridOf_wide h1
theorem re_canon {X : List (List Int)} (hs : shapeOk X = true) {h w : Nat} {a b : Nat → Nat → Nat} (hi : IntoR X.length (wideOf X) h w a b) : canon (reG (canon X) h w a b) = canon (reG X h w a b) := by
 have e : reG (canon X) h w a b = mapG (fun x => ((ordAll X).idxOf x : Int)) (reG X h w a b) := by
  unfold reG
  rw [mapG_gridOf]
  exact gridOf_congr fun r c hr hc => canon_at hs (hi r c hr hc).1 (hi r c hr hc).2
 rw [e]
 refine canon_map fun x y hx hy e => ?_
 have e : ((ordAll X).idxOf x : Int) = ((ordAll X).idxOf y : Int) := e
 exact idxOf_inj ((ord_vals X x).2 (re_vals hs hi x hx)) ((ord_vals X y).2 (re_vals hs hi y hy)) (by omega)
theorem sumI_shift (f : Nat → Int) : ∀ n, sumI f (n + 1) = f 0 + sumI (fun i => f (i + 1)) n
 | 0 => by simp [sumI]
 | n + 1 => by
  have := sumI_shift f n
  simp only [sumI] at this ⊢
  omega
theorem sumI_rev (f : Nat → Int) : ∀ n, sumI (fun i => f (n - 1 - i)) n = sumI f n
 | 0 => rfl
 | n + 1 => by
  rw [sumI_shift]
  have h := sumI_rev f n
  have e : sumI (fun i => f (n + 1 - 1 - (i + 1))) n = sumI (fun i => f (n - 1 - i)) n := sumI_congr n fun x hx => by rw [show n + 1 - 1 - (x + 1) = n - 1 - x by omega]
  rw [e, h]
  simp only [sumI]
  rw [show n + 1 - 1 - 0 = n by omega]
  omega
end Go.Proofs.Ytaepgogafkmooaa.Hd
namespace Go.Proofs.Ytaepgogafkmooaa.Hd
open Go.RowKit Go.Proofs.YtaepgogafkmooaaW.PrintWords Go.Proofs.YtaepgogafkmooaaW.PrintLast Go.Proofs.YtaepgogafkmooaaW.PrintMore Go.Proofs.Ytaepgogafkmooaa.PB
set_option linter.unusedVariables false
set_option linter.unusedSimpArgs false
def turnX (X : List (List Int)) : List (List Int) := reG X (wideOf X) X.length (fun r c => X.length - 1 - c) (fun r c => r)
def planOf (X : List (List Int)) : List ByteArray := textOf (canon X)
theorem OkG.dims {X : List (List Int)} (h : OkG X) : 1 ≤ X.length ∧ X.length ≤ 6 ∧ 1 ≤ wideOf X ∧ wideOf X ≤ 6 := by
 obtain ⟨a, b, c, d, e⟩ := (shapeOk_iff _).1 h.shape
 exact ⟨a, b, c, d⟩
theorem OkG.canon {X : List (List Int)} (h : OkG X) : OkG (canon X) := (floor_okG h.floor).1
theorem turn_into {X : List (List Int)} (h : OkG X) : IntoR X.length (wideOf X) (wideOf X) X.length (fun r c => X.length - 1 - c) (fun r c => r) := fun r c hr hc => ⟨by dsimp only; omega, hr⟩
theorem turn_ok {X : List (List Int)} (h : OkG X) : OkG (turnX X) := by
 obtain ⟨a, b, c, d⟩ := h.dims
 exact re_ok h c d a b (turn_into h) (fun r c r' c' i j h1 h2 h3 h4 k1 k2 k3 k4 => by first | omega | (dsimp only; omega))
theorem turn_dims {X : List (List Int)} (h : OkG X) : (turnX X).length = wideOf X ∧ wideOf (turnX X) = X.length := ⟨reG_length _ _ _ _ _, reG_wide _ _ _ h.dims.2.2.1⟩
theorem turn_at {X : List (List Int)} {r c : Nat} (hr : r < wideOf X) (hc : c < X.length) : valAt (turnX X) r c = valAt X (X.length - 1 - c) r := valAt_gridOf hr hc
def turnH (cs : List (List Int)) (_ : List Rc) : List (List Int) := turnX cs
theorem turn_canon {X : List (List Int)} (h : OkG X) : canon (turnX (canon X)) = canon (turnX X) := by
 have := re_canon h.shape (turn_into h)
 unfold turnX
 rw [canon_length, canon_wide]
 exact this
theorem act_turn {X : List (List Int)} (h : OkG X) : remadeF (planOf X) turnH = (planOf (turnX X), true) := by
 unfold remadeF planOf
 rw [h.floor]
 show planF (turnX (canon X)) = _
 rw [(turn_ok h.canon).plan, turn_canon h]
theorem plan_of {p : List ByteArray} {cs : List (List Int)} {rs : List Rc} (h : floorF p = some (cs, rs)) : OkG cs ∧ p = planOf cs ∧ rs = roomsOf cs := by
 obtain ⟨a, b, c, d⟩ := floor_okG h
 exact ⟨a, by unfold planOf; rw [b]; exact d, c⟩
end Go.Proofs.Ytaepgogafkmooaa.Hd
namespace Go.Proofs.Ytaepgogafkmooaa.Hd
open Go.RowKit Go.Proofs.YtaepgogafkmooaaW.PrintWords Go.Proofs.YtaepgogafkmooaaW.PrintLast Go.Proofs.YtaepgogafkmooaaW.PrintMore Go.Proofs.Ytaepgogafkmooaa.PB
set_option linter.unusedVariables false
set_option linter.unusedSimpArgs false
set_option maxHeartbeats 4000000 in
set_option maxRecDepth 100000 in
theorem turn1_read (w : World) (p1 g : Nat) (cs : List (List Int)) (rs : List Rc) (hk : FloorOk cs rs) (hf : FloorAt w g cs rs) (hp1 : w.cell? ⟨p1, 0, none⟩ = some (.pointer (some ⟨g, 0, none⟩))) :
  ReadFn Try.prog 129 #[.pointer (some ⟨p1, 0, none⟩)] w (wideOf cs) cs.length (fun r c => valAt cs (cs.length - 1 - c) r) := by
 intro W r c hr hc hS
 show Calls Try.prog _ _ _ fun e W' => e = .returned (.int .i64 (valAt cs (cs.length - 1 - c) r)) ∧ Below W.heap.size W W'
 replace hf := hf.sees hS
 replace hp1 := hS.cell hp1
 have hh1 := hk.h6
 have hw6 := hk.w6
 have HF := Aside0.mk hf
 have H1 := Aside0.mk (high_f cs rs)
 have W1 := Aside0.mk (wide_f hk)
 have r0 : (0 : Int) ≤ r := by omega
 have c0 : (0 : Int) ≤ c := by omega
 obtain ⟨ad, q0, ad2, q2, x1, x2, x3⟩ := hf.cell hk (cs.length - 1 - c) r (by omega) hr
 have r1 : (r : Int) < wideOf cs := by omega
 generalize valAt cs (cs.length - 1 - c) r = x at *
 have e1 : wrap64 ((cs.length : Int) - 1) = ((cs.length - 1 : Nat) : Int) := by rw [wrap64_small (by omega) (by omega)]; omega
 have e2 : wrap64 (((cs.length - 1 : Nat) : Int) - (c : Int)) = ((cs.length - 1 - c : Nat) : Int) := by rw [wrap64_small (by omega) (by omega)]; omega
 have c2 : (0 : Int) ≤ ((cs.length - 1 - c : Nat) : Int) := by omega
 have c3 : ((cs.length - 1 - c : Nat) : Int) < cs.length := by omega
 generalize cs.length - 1 - c = d at *
 generalize cs.length - 1 = n1 at *
 clear hk hf hS hr hc
 show Calls Try.prog _ #[.int .i64 (r : Int), .int .i64 (c : Int), .pointer (some ⟨p1, 0, none⟩)] _ _
 go_enter Try.func129, Try.ntmps129
 go_upto_region 1 with (fail)
 refine start_ (n := 15) (S := fun w' => (w'.cell? ⟨p1, 0, none⟩ = some (.pointer (some ⟨g, 0, none⟩))) ∧ (w'.cell? ⟨g, 0, none⟩ = some (.slice (some ad) cs.length q0)) ∧ (w'.cell? (ad.add d) = some (.slice (some ad2) (wideOf cs) q2)) ∧ (w'.cell? (ad2.add r) = some (.int .i64 x)) ∧ (FloorAt w' g cs rs) ∧ (Below W.heap.size W w')) (ds := []) #[false, false, false, false, false, false, false, false, false, false, false, false, false, false, false] (by kernel_rfl) rfl rfl (⟨hp1, x1, x2, x3, HF.out, ⟨rfl, rfl, rfl, Nat.le_refl _, fun _ _ => rfl⟩⟩) (fun hHeld => ?_)
 clear hp1 x1 x2 x3
 refine take_ (i := 0) (N := some 6) (v := ?_) (a' := ?_) #[true, false, false, false, false, false, false, false, false, false, false, false, false, false, false] rfl rfl (by kernel_rfl) (fun _ _ _ h => h) (Or.inl ⟨by rfl, ?_⟩) hHeld ?_ ?_
 rotate_left
 ·rintro w' ⟨s0, s1, s2, s3, s4, s5⟩
  go_simp
  with_reducible rfl
 rotate_left
 ·simp only [Act.put, List.setIfInBounds_toArray, List.set_cons_zero, List.set_cons_succ, i64_w, i32_w]
  rfl
 refine pure_ (i := 1) (N := some 7) (v := ?_) (a' := ?_) #[true, true, false, false, false, false, false, false, false, false, false, false, false, false, false] rfl rfl (by kernel_rfl) (fun _ _ _ h => h) (Or.inl ⟨by rfl, ?_⟩) ?_ ?_
 rotate_left
 ·intro w'
  go_simp
  with_reducible rfl
 rotate_left
 ·simp only [Act.put, List.setIfInBounds_toArray, List.set_cons_zero, List.set_cons_succ, i64_w, i32_w]
  rfl
 refine pure_ (i := 2) (N := some 8) (v := ?_) (a' := ?_) #[true, true, true, false, false, false, false, false, false, false, false, false, false, false, false] rfl rfl (by kernel_rfl) (fun _ _ _ h => h) (Or.inl ⟨by rfl, ?_⟩) ?_ ?_
 rotate_left
 ·intro w'
  go_simp
  with_reducible rfl
 rotate_left
 ·simp only [Act.put, List.setIfInBounds_toArray, List.set_cons_zero, List.set_cons_succ, i64_w, i32_w]
  rfl
 refine take_ (i := 3) (N := some 9) (v := ?_) (a' := ?_) #[true, true, true, true, false, false, false, false, false, false, false, false, false, false, false] rfl rfl (by kernel_rfl) (fun _ _ _ h => h) (Or.inl ⟨by rfl, ?_⟩) hHeld ?_ ?_
 rotate_left
 ·rintro w' ⟨s0, s1, s2, s3, s4, s5⟩
  go_simp
  with_reducible rfl
 rotate_left
 ·simp only [Act.put, List.setIfInBounds_toArray, List.set_cons_zero, List.set_cons_succ, i64_w, i32_w]
  rfl
 refine take_ (i := 4) (N := some 10) (v := ?_) (a' := ?_) #[true, true, true, true, true, false, false, false, false, false, false, false, false, false, false] rfl rfl (by kernel_rfl) (fun _ _ _ h => h) (Or.inl ⟨by rfl, ?_⟩) hHeld ?_ ?_
 rotate_left
 ·rintro w' ⟨s0, s1, s2, s3, s4, s5⟩
  go_simp
  with_reducible rfl
 rotate_left
 ·simp only [Act.put, List.setIfInBounds_toArray, List.set_cons_zero, List.set_cons_succ, i64_w, i32_w]
  rfl
 refine pure_ (i := 7) (N := some 13) (v := ?_) (a' := ?_) #[true, true, true, true, true, false, false, true, false, false, false, false, false, false, false] rfl rfl (by kernel_rfl) (fun _ _ _ h => h) (Or.inl ⟨by rfl, ?_⟩) ?_ ?_
 rotate_left
 ·intro w'
  go_simp
  with_reducible rfl
 rotate_left
 ·simp only [Act.put, List.setIfInBounds_toArray, List.set_cons_zero, List.set_cons_succ, i64_w, i32_w]
  rfl
 refine pure_ (i := 11) (N := some 17) (v := ?_) (a' := ?_) #[true, true, true, true, true, false, false, true, false, false, false, true, false, false, false] rfl rfl (by kernel_rfl) (fun _ _ _ h => h) (Or.inl ⟨by rfl, ?_⟩) ?_ ?_
 rotate_left
 ·intro w'
  go_simp
  with_reducible rfl
 rotate_left
 ·simp only [Act.put, List.setIfInBounds_toArray, List.set_cons_zero, List.set_cons_succ, i64_w, i32_w]
  rfl
 refine one_ (i := 5) (N := some 11) #[true, true, true, true, true, true, false, true, false, false, false, true, false, false, false] rfl rfl (by kernel_rfl) (by decide) (fun K hK => ?_)
 refine goes_ Try.func69 (by kernel_rfl) rfl #[.pointer (some ⟨g, 0, none⟩)] (by rfl) rfl rfl (by (try simp only [List.map_toArray, List.map_cons, List.map_nil]); first | done | rfl) ?_
 have hs_ := hHeld
 obtain ⟨s0, s1, s2, s3, s4, s5⟩ := hs_
 refine (impl_floor_high.calls g cs rs _ _ _ s4 (Below.refl _ _) H1.out).mono ?_
 rintro e w12 ⟨rfl, -, hb, -⟩
 have HB12 := Aside0.mk (below_step s5 hb)
 refine ⟨_, rfl, ?_⟩
 refine hK.out _ _ ⟨pw_cell_below hb s0, pw_cell_below hb s1, pw_cell_below hb s2, pw_cell_below hb s3, FloorAt.below s4 hb, below_step s5 hb⟩ (fun hHeld => ?_)
 clear hK K hb s0 s1 s2 s3 s4 s5
 refine norm_ (a' := ?_) ?_ ?_
 rotate_left
 ·show Act.put _ (some 11) _ = _
  simp only [Act.put, List.setIfInBounds_toArray, List.set_cons_zero, List.set_cons_succ, i64_w, i32_w]
  rfl
 refine pure_ (i := 6) (N := some 12) (v := ?_) (a' := ?_) #[true, true, true, true, true, true, true, true, false, false, false, true, false, false, false] rfl rfl (by kernel_rfl) (fun _ _ _ h => h) (Or.inl ⟨by rfl, ?_⟩) ?_ ?_
 rotate_left
 ·intro w'
  go_simp
  with_reducible rfl
 rotate_left
 ·simp only [Act.put, List.setIfInBounds_toArray, List.set_cons_zero, List.set_cons_succ, i64_w, i32_w]
  rfl
 refine pure_ (i := 8) (N := some 14) (v := ?_) (a' := ?_) #[true, true, true, true, true, true, true, true, true, false, false, true, false, false, false] rfl rfl (by kernel_rfl) (fun _ _ _ h => h) (Or.inl ⟨by rfl, ?_⟩) ?_ ?_
 rotate_left
 ·intro w'
  go_simp
  with_reducible rfl
 rotate_left
 ·simp only [Act.put, List.setIfInBounds_toArray, List.set_cons_zero, List.set_cons_succ, i64_w, i32_w]
  rfl
 refine pure_ (i := 9) (N := some 15) (v := ?_) (a' := ?_) #[true, true, true, true, true, true, true, true, true, true, false, true, false, false, false] rfl rfl (by kernel_rfl) (fun _ _ _ h => h) (Or.inl ⟨by rfl, ?_⟩) ?_ ?_
 rotate_left
 ·intro w'
  go_simp
  with_reducible rfl
 rotate_left
 ·simp only [Act.put, List.setIfInBounds_toArray, List.set_cons_zero, List.set_cons_succ, i64_w, i32_w]
  rfl
 refine take_ (i := 10) (N := some 16) (v := ?_) (a' := ?_) #[true, true, true, true, true, true, true, true, true, true, true, true, false, false, false] rfl rfl (by kernel_rfl) (fun _ _ _ h => h) (Or.inl ⟨by rfl, ?_⟩) hHeld ?_ ?_
 rotate_left
 ·rintro w' ⟨s0, s1, s2, s3, s4, s5⟩
  go_simp
  with_reducible rfl
 rotate_left
 ·simp only [Act.put, List.setIfInBounds_toArray, List.set_cons_zero, List.set_cons_succ, i64_w, i32_w]
  rfl
 refine pure_ (i := 12) (N := some 18) (v := ?_) (a' := ?_) #[true, true, true, true, true, true, true, true, true, true, true, true, true, false, false] rfl rfl (by kernel_rfl) (fun _ _ _ h => h) (Or.inl ⟨by rfl, ?_⟩) ?_ ?_
 rotate_left
 ·intro w'
  go_simp
  with_reducible rfl
 rotate_left
 ·simp only [Act.put, List.setIfInBounds_toArray, List.set_cons_zero, List.set_cons_succ, i64_w, i32_w]
  rfl
 refine take_ (i := 13) (N := some 19) (v := ?_) (a' := ?_) #[true, true, true, true, true, true, true, true, true, true, true, true, true, true, false] rfl rfl (by kernel_rfl) (fun _ _ _ h => h) (Or.inl ⟨by rfl, ?_⟩) hHeld ?_ ?_
 rotate_left
 ·rintro w' ⟨s0, s1, s2, s3, s4, s5⟩
  go_simp
  with_reducible rfl
 rotate_left
 ·simp only [Act.put, List.setIfInBounds_toArray, List.set_cons_zero, List.set_cons_succ, i64_w, i32_w]
  rfl
 refine pure_ (i := 14) (N := some 5) (v := ?_) (a' := ?_) #[true, true, true, true, true, true, true, true, true, true, true, true, true, true, true] rfl rfl (by kernel_rfl) (fun _ _ _ h => h) (Or.inl ⟨by rfl, ?_⟩) ?_ ?_
 rotate_left
 ·intro w'
  go_simp
  with_reducible rfl
 rotate_left
 ·simp only [Act.put, List.setIfInBounds_toArray, List.set_cons_zero, List.set_cons_succ, i64_w, i32_w]
  rfl
 refine done_ (by kernel_rfl) ?_
 go_wp2
 go_ret
 exact ⟨rfl, HB12.out⟩
set_option maxHeartbeats 4000000 in
set_option maxRecDepth 100000 in
theorem turn_fn (w : World) : HowFn Try.prog 100 #[] w turnH := by
 intro W g cs rs hk hf hS
 have HK := Aside0.mk hk
 have HF := Aside0.mk hf
 have H1 := Aside0.mk (high_f cs rs)
 have W1 := Aside0.mk (wide_f hk)
 have a1 := hk.h6
 have a3 := hk.w6
 clear hk hf hS
 show Calls Try.prog _ #[.pointer (some ⟨g, 0, none⟩)] _ _
 go_enter Try.func100, Try.ntmps100
 go_upto_region 1 with (first
  | ((with_reducible refine gate_dst (N := 1) rfl ?_); refine box_event ?hg (N := 1) ?hd (cs := #[.pointer (some ⟨g, 0, none⟩)]) (t := 59) ?hr ?_; (case hd => rfl); (case hg => rfl); (case hr => first | (go_simp; done) | (go_simp; rfl)); intro p1 hq1 w1 hbox hb; have HB1 := Aside0.mk hb; have hp1 : w1.cell? ⟨p1, 0, none⟩ = some (.pointer (some ⟨g, 0, none⟩)) := box_cell hbox; have HF1 := Aside0.mk (HF.out.below hb); clear hb hbox hq1))
 refine start_ (n := 7) (S := fun w' => (w'.cell? ⟨p1, 0, none⟩ = some (.pointer (some ⟨g, 0, none⟩))) ∧ (FloorAt w' g cs rs) ∧ (Below W.heap.size W w')) (ds := []) #[false, false, false, false, false, false, false] (by kernel_rfl) rfl rfl (⟨hp1, HF1.out, ⟨HB1.out.os, HB1.out.tape, HB1.out.output, HB1.out.size, HB1.out.block⟩⟩) (fun hHeld => ?_)
 clear hp1
 refine take_ (i := 0) (N := some 3) (v := ?_) (a' := ?_) #[true, false, false, false, false, false, false] rfl rfl (by kernel_rfl) (fun _ _ _ h => h) (Or.inl ⟨by rfl, ?_⟩) hHeld ?_ ?_
 rotate_left
 ·rintro w' ⟨s0, s1, s2⟩
  go_simp
  with_reducible rfl
 rotate_left
 ·simp only [Act.put, List.setIfInBounds_toArray, List.set_cons_zero, List.set_cons_succ, i64_w, i32_w]
  rfl
 refine take_ (i := 2) (N := some 5) (v := ?_) (a' := ?_) #[true, false, true, false, false, false, false] rfl rfl (by kernel_rfl) (fun _ _ _ h => h) (Or.inl ⟨by rfl, ?_⟩) hHeld ?_ ?_
 rotate_left
 ·rintro w' ⟨s0, s1, s2⟩
  go_simp
  with_reducible rfl
 rotate_left
 ·simp only [Act.put, List.setIfInBounds_toArray, List.set_cons_zero, List.set_cons_succ, i64_w, i32_w]
  rfl
 refine pure_ (i := 4) (N := some 7) (v := ?_) (a' := ?_) #[true, false, true, false, true, false, false] rfl rfl (by kernel_rfl) (fun _ _ _ h => h) (Or.inl ⟨by rfl, ?_⟩) ?_ ?_
 rotate_left
 ·intro w'
  go_simp
  with_reducible rfl
 rotate_left
 ·simp only [Act.put, List.setIfInBounds_toArray, List.set_cons_zero, List.set_cons_succ, i64_w, i32_w]
  rfl
 refine one_ (i := 1) (N := some 4) #[true, true, true, false, true, false, false] rfl rfl (by kernel_rfl) (by decide) (fun K hK => ?_)
 refine goes_ Try.func70 (by kernel_rfl) rfl #[.pointer (some ⟨g, 0, none⟩)] (by rfl) rfl rfl (by (try simp only [List.map_toArray, List.map_cons, List.map_nil]); first | done | rfl) ?_
 have hs_ := hHeld
 obtain ⟨s0, s1, s2⟩ := hs_
 refine (impl_floor_wide.calls g cs rs _ _ _ s1 (Below.refl _ _) W1.out).mono ?_
 rintro e w16 ⟨rfl, -, hb, -⟩
 refine ⟨_, rfl, ?_⟩
 refine hK.out _ _ ⟨pw_cell_below hb s0, FloorAt.below s1 hb, below_step s2 hb⟩ (fun hHeld => ?_)
 clear hK K hb s0 s1 s2
 refine norm_ (a' := ?_) ?_ ?_
 rotate_left
 ·show Act.put _ (some 4) _ = _
  simp only [Act.put, List.setIfInBounds_toArray, List.set_cons_zero, List.set_cons_succ, i64_w, i32_w]
  rfl
 refine one_ (i := 3) (N := some 6) #[true, true, true, true, true, false, false] rfl rfl (by kernel_rfl) (by decide) (fun K hK => ?_)
 refine goes_ Try.func69 (by kernel_rfl) rfl #[.pointer (some ⟨g, 0, none⟩)] (by rfl) rfl rfl (by (try simp only [List.map_toArray, List.map_cons, List.map_nil]); first | done | rfl) ?_
 have hs_ := hHeld
 obtain ⟨s0, s1, s2⟩ := hs_
 refine (impl_floor_high.calls g cs rs _ _ _ s1 (Below.refl _ _) H1.out).mono ?_
 rintro e w17 ⟨rfl, -, hb, -⟩
 refine ⟨_, rfl, ?_⟩
 refine hK.out _ _ ⟨pw_cell_below hb s0, FloorAt.below s1 hb, below_step s2 hb⟩ (fun hHeld => ?_)
 clear hK K hb s0 s1 s2
 refine norm_ (a' := ?_) ?_ ?_
 rotate_left
 ·show Act.put _ (some 6) _ = _
  simp only [Act.put, List.setIfInBounds_toArray, List.set_cons_zero, List.set_cons_succ, i64_w, i32_w]
  rfl
 refine one_ (i := 5) (N := some 8) #[true, true, true, true, true, true, false] rfl rfl (by kernel_rfl) (by decide) (fun K hK => ?_)
 refine goes_ Try.func68 (by kernel_rfl) rfl #[.int .i64 (wideOf cs : Int), .int .i64 (cs.length : Int), .func (.func 129) #[] #[.pointer (some ⟨p1, 0, none⟩)]] (by rfl) rfl rfl (by (try simp only [List.map_toArray, List.map_cons, List.map_nil]); first | done | rfl) ?_
 have hs_ := hHeld
 obtain ⟨s0, s1, s2⟩ := hs_
 refine (blank_reads 129 Try.f129 Try.func129 (by kernel_rfl) rfl _ (wideOf cs) cs.length _ _ (turn1_read _ p1 g cs rs HK.out s1 s0) (by omega) (by omega)).mono ?_
 rintro e w14 ⟨A14, c14, rfl, hl14, hC14, hb⟩
 have HC14 := Aside0.mk hC14
 have HL14 := Aside0.mk hl14
 have HB14 := Aside0.mk (below_step s2 hb)
 clear hC14 hl14
 refine ⟨_, rfl, ?_⟩
 refine hK.out _ _ ⟨pw_cell_below hb s0, FloorAt.below s1 hb, below_step s2 hb⟩ (fun hHeld => ?_)
 clear hK K hb s0 s1 s2
 refine norm_ (a' := ?_) ?_ ?_
 rotate_left
 ·show Act.put _ (some 8) _ = _
  simp only [Act.put, List.setIfInBounds_toArray, List.set_cons_zero, List.set_cons_succ, i64_w, i32_w]
  rfl
 refine pure_ (i := 6) (N := some 2) (v := ?_) (a' := ?_) #[true, true, true, true, true, true, true] rfl rfl (by kernel_rfl) (fun _ _ _ h => h) (Or.inl ⟨by rfl, ?_⟩) ?_ ?_
 rotate_left
 ·intro w'
  go_simp
  with_reducible rfl
 rotate_left
 ·simp only [Act.put, List.setIfInBounds_toArray, List.set_cons_zero, List.set_cons_succ, i64_w, i32_w]
  rfl
 refine done_ (by kernel_rfl) ?_
 go_wp2
 go_ret
 exact ⟨A14, c14, rfl, HL14.out, HC14.out, HB14.out⟩
theorem turn_good : goodHow turnH := fun cs rs hk => grid_vals fun r c hr hc => by
 have := valAt_range hk (cs.length - 1 - c) r (by omega) (by omega)
 have := hk.many
 dsimp only
 omega
set_option maxHeartbeats 4000000 in
set_option maxRecDepth 100000 in
theorem PlanTurn_calls (A0 : Option Addr) (c0 : Nat) (l0 : List ByteArray) (w : World) (hr0 : Kd.C Kd.string w A0 l0.length l0) (hc0 : l0.length ≤ c0) (hp : smallP l0) :
  Calls Try.prog 48 #[.slice A0 l0.length c0] w (PlanRes w (remadeF l0 turnH)) := by
 have HR := Aside0.mk hr0
 have HC := Aside0.mk hc0
 have HP := Aside0.mk hp
 clear hr0 hc0 hp
 generalize hM : remadeF l0 turnH = res
 have HM := Aside0.mk hM
 clear hM
 go_enter Try.func48, Try.ntmps48
 go_wp2_with (first
  | (go_at_call 99; refine (remade_calls 100 Try.f100 Try.func100 (by kernel_rfl) rfl #[] turnH turn_good A0 c0 l0 _ HR.out HC.out HP.out (turn_fn _)).mono ?_; rw [HM.out]; rintro e w9 ⟨v9, rfl, hr9, hb9⟩; have HR9 := Aside0.mk hr9; have HB9 := Aside0.mk hb9; clear hr9 hb9))
 go_ret2
 exact ⟨v9, rfl, HR9.out, HB9.out⟩
def impl_PlanTurn.f (l0 : List ByteArray) : Option (List ByteArray × Bool) := if smallB l0 = true then some (remadeF l0 turnH) else none
theorem impl_PlanTurn.calls (A0 : Option Addr) (c0 : Nat) (l0 : List ByteArray) (r1 : List ByteArray) (r2 : Bool) (w : World) (hr0 : Kd.C Kd.string w A0 l0.length l0) (hc0 : l0.length ≤ c0) (h : impl_PlanTurn.f l0 = some (r1, r2)) :
  Calls Try.prog 48 #[.slice A0 l0.length c0] w fun e w' => ∃ v0_ : Value, e = .returned (.tuple #[v0_, .bool r2]) ∧ Kd.R Kd.string 9 w' w.heap.size (fun _ => True) v0_ r1 ∧ Below w.heap.size w w' := by
 unfold impl_PlanTurn.f at h
 split at h
 ·rename_i hs
  have e := Option.some.inj h
  have := PlanTurn_calls A0 c0 l0 w hr0 hc0 ((smallB_iff _).1 hs)
  rw [e] at this
  exact this
 ·cases h
end Go.Proofs.Ytaepgogafkmooaa.Hd
namespace Go.Proofs.Ytaepgogafkmooaa.Hd
open Go.RowKit Go.Proofs.YtaepgogafkmooaaW.PrintWords Go.Proofs.YtaepgogafkmooaaW.PrintLast Go.Proofs.YtaepgogafkmooaaW.PrintMore Go.Proofs.Ytaepgogafkmooaa.PB
set_option linter.unusedVariables false
set_option linter.unusedSimpArgs false
def impl_CutFirst.f (l0 : List ByteArray) : Option (Int × Bool) := if smallB l0 = true then some (cutFirstF l0) else none
theorem impl_CutFirst.calls (A0 : Option Addr) (c0 : Nat) (l0 : List ByteArray) (r1 : Int) (r2 : Bool) (w : World) (hr0 : Kd.C Kd.string w A0 l0.length l0) (hc0 : l0.length ≤ c0) (h : impl_CutFirst.f l0 = some (r1, r2)) :
  Calls Try.prog 43 #[.slice A0 l0.length c0] w fun e w' => e = .returned (.tuple #[.int .i64 r1, .bool r2]) ∧ Below w.heap.size w w' := by
 unfold impl_CutFirst.f at h
 split at h
 ·rename_i hs
  have e := Option.some.inj h
  have := CutFirst_calls A0 c0 l0 w hr0 hc0 ((smallB_iff _).1 hs)
  rw [e] at this
  exact this
 ·cases h
end Go.Proofs.Ytaepgogafkmooaa.Hd
namespace Go.Proofs.Ytaepgogafkmooaa.Hd
open Go.RowKit Go.Proofs.YtaepgogafkmooaaW.PrintWords Go.Proofs.YtaepgogafkmooaaW.PrintLast Go.Proofs.YtaepgogafkmooaaW.PrintMore Go.Proofs.Ytaepgogafkmooaa.PB
set_option linter.unusedVariables false
set_option linter.unusedSimpArgs false
def impl_WallMany.f (l0 : List ByteArray) : Option (Int × Int × Bool) := if smallB l0 = true then some (wallManyF l0) else none
theorem impl_WallMany.calls (A0 : Option Addr) (c0 : Nat) (l0 : List ByteArray) (r1 : Int) (r2 : Int) (r3 : Bool) (w : World) (hr0 : Kd.C Kd.string w A0 l0.length l0) (hc0 : l0.length ≤ c0) (h : impl_WallMany.f l0 = some (r1, r2, r3)) :
  Calls Try.prog 28 #[.slice A0 l0.length c0] w fun e w' => e = .returned (.tuple #[.int .i64 r1, .int .i64 r2, .bool r3]) ∧ Below w.heap.size w w' := by
 unfold impl_WallMany.f at h
 split at h
 ·rename_i hs
  have e := Option.some.inj h
  have := WallMany_calls A0 c0 l0 w hr0 hc0 ((smallB_iff _).1 hs)
  rw [e] at this
  exact this
 ·cases h
end Go.Proofs.Ytaepgogafkmooaa.Hd
namespace Go.Proofs.Ytaepgogafkmooaa.CB
open Go.Proofs.Ytaepgogafkmooaa.PB Go.Proofs.Ytaepgogafkmooaa.Hd Go.Proofs.Ytaepgogafkmooaa.SM
open Go.RowKit Go.Proofs.YtaepgogafkmooaaW.PrintWords Go.Proofs.YtaepgogafkmooaaW.PrintLast Go.Proofs.YtaepgogafkmooaaW.PrintMore
attribute [local go_sem] max2_int min2_int max_two min_two max_three min_three max_four min_four   -- for this text's walks alone
set_option linter.unusedVariables false
set_option linter.unusedSimpArgs false
def errW : Option Int → Value
 | none => .nilIface
 | some c => .iface 0 (.int .i64 c)
theorem errW_none : errW none = .nilIface := rfl
theorem errW_some (c : Int) : errW (some c) = .iface 0 (.int .i64 c) := rfl
theorem info3 : (Try.prog.info? 3).map (fun i => (i.zero, i.size, i.bytes)) = some (some (.int .i64 0), 1, 8) := by kernel_rfl
theorem info5 : (Try.prog.info? 5).map (fun i => (i.zero, i.size, i.bytes)) = some (some (.int .u8 0), 1, 1) := by kernel_rfl
theorem info9 : (Try.prog.info? 9).map (fun i => (i.zero, i.size, i.bytes)) = some (some (.string ⟨#[]⟩), 1, 16) := by kernel_rfl
theorem info39 : (Try.prog.info? 39).map (fun i => (i.zero, i.size, i.bytes)) = some (some (.slice none 0 0), 1, 24) := by kernel_rfl
theorem info79 : (Try.prog.info? 79).map (fun i => (i.zero, i.size, i.bytes)) = some (some (.agg #[(.bool false), (.int .i64 0), (.int .i64 0), (.int .i64 0)]), 4, 32) := by kernel_rfl
structure S131 where
 f0 : Int
 f1 : Int
 f2 : Int
 f3 : Int
def z131 : S131 := ⟨(0 : Int), (0 : Int), (0 : Int), (0 : Int)⟩
def k131 : Kd S131 := Kd.iso (Kd.pair (Kd.int .i64) (Kd.pair (Kd.int .i64) (Kd.pair (Kd.int .i64) (Kd.int .i64)))) (fun x : S131 => (x.f0, x.f1, x.f2, x.f3))
theorem k131_open {w : World} {x : S131} {cs : List Value} (h : k131.K w x cs) : cs = [.int .i64 x.f0, .int .i64 x.f1, .int .i64 x.f2, .int .i64 x.f3] := by
 obtain ⟨_, _, rfl, rfl, ⟨_, _, rfl, rfl, ⟨_, _, rfl, rfl, rfl⟩⟩⟩ := h
 exact rfl
theorem k131_mkM (w : World) (base : Nat) (ok : Nat → Prop) (x : S131)  : k131.M w base ok x [.int .i64 x.f0, .int .i64 x.f1, .int .i64 x.f2, .int .i64 x.f3] := ⟨[.int .i64 x.f0], [.int .i64 x.f1, .int .i64 x.f2, .int .i64 x.f3], rfl, rfl, ⟨[.int .i64 x.f1], [.int .i64 x.f2, .int .i64 x.f3], rfl, rfl, ⟨[.int .i64 x.f2], [.int .i64 x.f3], rfl, rfl, rfl⟩⟩⟩
def rd_T131 (xs : List S131) (i : Int) : S131 := xs.getD i.toNat z131
theorem at_T131 {w : World} {A : Option Addr} {n : Nat} {xs : List S131} (h : Kd.C k131 w A n xs) (i : Int) (h0 : 0 ≤ i) (h1 : i < n) : ∃ ad , A = some ad ∧ w.cell? (ad.add (i.toNat * 4)) = some (.int .i64 (rd_T131 xs i).f0) ∧ w.cell? ⟨(ad.add (i.toNat * 4)).block, (ad.add (i.toNat * 4)).off + 1, none⟩ = some (.int .i64 (rd_T131 xs i).f1) ∧ w.cell? ⟨(ad.add (i.toNat * 4)).block, (ad.add (i.toNat * 4)).off + 2, none⟩ = some (.int .i64 (rd_T131 xs i).f2) ∧ w.cell? ⟨(ad.add (i.toNat * 4)).block, (ad.add (i.toNat * 4)).off + 3, none⟩ = some (.int .i64 (rd_T131 xs i).f3) := by
 obtain ⟨ad, c, e, _, hK, hc0⟩ := Kd.C_get h z131 i h0 h1
 have hc : ∀ j u, c[j]? = some u → w.cell? (ad.add (i.toNat * 4 + j)) = some u := hc0
 obtain rfl := k131_open hK
 exact ⟨ad, e, hc 0 _ rfl, by rw [← add_field _ _ 1 (by omega)]; exact hc 1 _ rfl, by rw [← add_field _ _ 2 (by omega)]; exact hc 2 _ rfl, by rw [← add_field _ _ 3 (by omega)]; exact hc 3 _ rfl⟩
structure S79 where
 f0 : Bool
 f1 : Int
 f2 : Int
 f3 : Int
def z79 : S79 := ⟨false, (0 : Int), (0 : Int), (0 : Int)⟩
def k79 : Kd S79 := Kd.iso (Kd.pair Kd.bool (Kd.pair (Kd.int .i64) (Kd.pair (Kd.int .i64) (Kd.int .i64)))) (fun x : S79 => (x.f0, x.f1, x.f2, x.f3))
theorem k79_open {w : World} {x : S79} {cs : List Value} (h : k79.K w x cs) : cs = [.bool x.f0, .int .i64 x.f1, .int .i64 x.f2, .int .i64 x.f3] := by
 obtain ⟨_, _, rfl, rfl, ⟨_, _, rfl, rfl, ⟨_, _, rfl, rfl, rfl⟩⟩⟩ := h
 exact rfl
theorem k79_openM {w : World} {base : Nat} {ok : Nat → Prop} {x : S79} {cs : List Value} (h : k79.M w base ok x cs) : cs = [.bool x.f0, .int .i64 x.f1, .int .i64 x.f2, .int .i64 x.f3] := by
 obtain ⟨_, _, rfl, rfl, ⟨_, _, rfl, rfl, ⟨_, _, rfl, rfl, rfl⟩⟩⟩ := h
 exact rfl
theorem k79_mkM (w : World) (base : Nat) (ok : Nat → Prop) (x : S79)  : k79.M w base ok x [.bool x.f0, .int .i64 x.f1, .int .i64 x.f2, .int .i64 x.f3] := ⟨[.bool x.f0], [.int .i64 x.f1, .int .i64 x.f2, .int .i64 x.f3], rfl, rfl, ⟨[.int .i64 x.f1], [.int .i64 x.f2, .int .i64 x.f3], rfl, rfl, ⟨[.int .i64 x.f2], [.int .i64 x.f3], rfl, rfl, rfl⟩⟩⟩
def rd_T79 (xs : List S79) (i : Int) : S79 := xs.getD i.toNat z79
theorem at_T79 {w : World} {A : Option Addr} {n : Nat} {xs : List S79} (h : Kd.C k79 w A n xs) (i : Int) (h0 : 0 ≤ i) (h1 : i < n) : ∃ ad , A = some ad ∧ w.cell? (ad.add (i.toNat * 4)) = some (.bool (rd_T79 xs i).f0) ∧ w.cell? ⟨(ad.add (i.toNat * 4)).block, (ad.add (i.toNat * 4)).off + 1, none⟩ = some (.int .i64 (rd_T79 xs i).f1) ∧ w.cell? ⟨(ad.add (i.toNat * 4)).block, (ad.add (i.toNat * 4)).off + 2, none⟩ = some (.int .i64 (rd_T79 xs i).f2) ∧ w.cell? ⟨(ad.add (i.toNat * 4)).block, (ad.add (i.toNat * 4)).off + 3, none⟩ = some (.int .i64 (rd_T79 xs i).f3) := by
 obtain ⟨ad, c, e, _, hK, hc0⟩ := Kd.C_get h z79 i h0 h1
 have hc : ∀ j u, c[j]? = some u → w.cell? (ad.add (i.toNat * 4 + j)) = some u := hc0
 obtain rfl := k79_open hK
 exact ⟨ad, e, hc 0 _ rfl, by rw [← add_field _ _ 1 (by omega)]; exact hc 1 _ rfl, by rw [← add_field _ _ 2 (by omega)]; exact hc 2 _ rfl, by rw [← add_field _ _ 3 (by omega)]; exact hc 3 _ rfl⟩
end Go.Proofs.Ytaepgogafkmooaa.CB
namespace Go.Proofs.Ytaepgogafkmooaa.CB
open Go.Proofs.Ytaepgogafkmooaa.PB Go.Proofs.Ytaepgogafkmooaa.Hd Go.Proofs.Ytaepgogafkmooaa.SM
open Go.RowKit Go.Proofs.YtaepgogafkmooaaW.PrintWords Go.Proofs.YtaepgogafkmooaaW.PrintLast Go.Proofs.YtaepgogafkmooaaW.PrintMore
attribute [local go_sem] max2_int min2_int max_two min_two max_three min_three max_four min_four   -- for this text's walks alone
set_option linter.unusedVariables false
set_option linter.unusedSimpArgs false
def laws_FnCutMany.j0 : Nat → List ByteArray → Int → Bool → Int → Bool → Bool → Option (Bool)
 | 0, _, _, _, _, _, _ => none
 | k + 1, x3, x4, x5, x6, x7, x43 => if x43 = true then (if (x5 == x7) = true then (some (x4 == x6)) else (some false)) else ((impl_PlanTurn.f x3).bind fun bt442 => ((impl_CutMany.f bt442.1).bind fun bt446 => ((impl_CutFirst.f x3).bind fun bt448 => ((impl_WallMany.f x3).bind fun bt450 => (if bt442.2 = true then (if bt446.2 = true then (if bt450.2.2 = true then (if bt446.1 = x4 then (if ((x4 == 0) == (!bt448.2)) = true then (some (decide (x4 ≤ (wrap64 (bt450.1 + bt450.2.1))))) else (some false)) else (some false)) else (some false)) else (some false)) else (some false))))))
def laws_FnCutMany.f (k : Nat) (l0 : List Int) : Option (Bool) := if (l0.length : Int) > 1048576 then (some true) else ((spec_DrawCutMany.f k l0).bind fun t435 => ((impl_CutMany.f t435).bind fun bt438 => ((spec_CutMany.f k t435).bind fun bt440 => (if (bt438.2 != bt440.2) = true then (laws_FnCutMany.j0 k t435 bt438.1 bt438.2 bt440.1 bt440.2 true) else (if bt438.1 = bt440.1 then (laws_FnCutMany.j0 k t435 bt438.1 bt438.2 bt440.1 bt440.2 (!bt438.2)) else (laws_FnCutMany.j0 k t435 bt438.1 bt438.2 bt440.1 bt440.2 true))))))
set_option maxHeartbeats 8000000 in
set_option maxRecDepth 100000 in
theorem laws_FnCutMany.calls (k : Nat) (A0 : Option Addr) (c0 : Nat) (l0 : List Int) (r : Bool) (w : World) (hr0 : Kd.C (Kd.int .u8) w A0 l0.length l0) (hc0 : l0.length ≤ c0) (h : laws_FnCutMany.f k l0 = some r) :
  Calls Try.prog 11 #[.slice A0 l0.length c0] w fun e w' => e = .returned (.bool r) ∧ Below w.heap.size w w' := by
 have HR0 := Aside0.mk hr0
 have HC0 := Aside0.mk hc0
 clear hr0 hc0
 have HB := Aside0.mk (Below.refl w.heap.size w)
 have H : (if (l0.length : Int) > 1048576 then (some true) else ((spec_DrawCutMany.f k l0).bind fun t435 => ((impl_CutMany.f t435).bind fun bt438 => ((spec_CutMany.f k t435).bind fun bt440 => (if (bt438.2 != bt440.2) = true then (laws_FnCutMany.j0 k t435 bt438.1 bt438.2 bt440.1 bt440.2 true) else (if bt438.1 = bt440.1 then (laws_FnCutMany.j0 k t435 bt438.1 bt438.2 bt440.1 bt440.2 (!bt438.2)) else (laws_FnCutMany.j0 k t435 bt438.1 bt438.2 bt440.1 bt440.2 true))))))) = some r := h
 clear h
 by_cases c2 : (l0.length : Int) > 1048576
 ·rw [if_pos c2] at H
  have c2b0 : decide (1048576 < (l0.length : Int)) = true := decide_eq_true c2
  have c2b1 : decide (1048576 < l0.length) = true := decide_eq_true (by omega)
  clear c2
  obtain rfl := Option.some.inj H
  go_enter Try.func11, Try.ntmps11
  go_wp2
  go_ret
  exact ⟨by first | rfl | (simp [errW_none, errW_some] <;> rfl) | (simp [*, errW_none, errW_some] <;> rfl), by repeat (first | (with_reducible first | exact HB.out | apply below_alloc | apply pw_below_drewN | apply below_drew1) | exact HB.out)⟩
 ·rw [if_neg c2] at H
  have c2b0 : decide (1048576 < (l0.length : Int)) = false := decide_eq_false c2
  have c2b1 : decide (1048576 < l0.length) = false := decide_eq_false (by omega)
  clear c2
  replace H := Option.bind_eq_some_iff.mp H
  obtain ⟨t435, A30, H⟩ := H
  replace H : ((impl_CutMany.f t435).bind fun bt438 => ((spec_CutMany.f k t435).bind fun bt440 => (if (bt438.2 != bt440.2) = true then (laws_FnCutMany.j0 k t435 bt438.1 bt438.2 bt440.1 bt440.2 true) else (if bt438.1 = bt440.1 then (laws_FnCutMany.j0 k t435 bt438.1 bt438.2 bt440.1 bt440.2 (!bt438.2)) else (laws_FnCutMany.j0 k t435 bt438.1 bt438.2 bt440.1 bt440.2 true))))) = some r := H
  have A3 := Aside0.mk A30
  clear A30
  replace H := Option.bind_eq_some_iff.mp H
  obtain ⟨⟨t438, t439⟩, A40, H⟩ := H
  replace H : ((spec_CutMany.f k t435).bind fun bt440 => (if (t439 != bt440.2) = true then (laws_FnCutMany.j0 k t435 t438 t439 bt440.1 bt440.2 true) else (if t438 = bt440.1 then (laws_FnCutMany.j0 k t435 t438 t439 bt440.1 bt440.2 (!t439)) else (laws_FnCutMany.j0 k t435 t438 t439 bt440.1 bt440.2 true)))) = some r := H
  have A4 := Aside0.mk A40
  clear A40
  replace H := Option.bind_eq_some_iff.mp H
  obtain ⟨⟨t440, t441⟩, A50, H⟩ := H
  replace H : (if (t439 != t441) = true then (laws_FnCutMany.j0 k t435 t438 t439 t440 t441 true) else (if t438 = t440 then (laws_FnCutMany.j0 k t435 t438 t439 t440 t441 (!t439)) else (laws_FnCutMany.j0 k t435 t438 t439 t440 t441 true))) = some r := H
  have A5 := Aside0.mk A50
  clear A50
  have HC6 := Aside0.mk H
  clear H
  go_enter Try.func11, Try.ntmps11
  go_upto_region 6 with (first | ((with_reducible refine gate_callee (f := 46) rfl ?_); refine goesL_ (some 21) rfl rfl Try.func46 (by kernel_rfl) rfl #[.slice A0 l0.length c0] rfl (by (try simp only [List.map_toArray, List.map_cons, List.map_nil]); first | done | rfl | (simp only [List.length_drop, List.length_take]; rfl)) ?_; (with_reducible refine (spec_DrawCutMany.calls k _ _ l0 t435 _ ?side1 ?side2 A3.out).mono ?_); (case side1 => repeat (first | exact HR0.out | (with_reducible refine Kd.C_alloc ?_ _) | (with_reducible refine Kd.C_drewN ?_ _) | (with_reducible refine Kd.C_drew ?_))); (case side2 => exact HC0.out); rintro e w7 ⟨v436, rfl, ho0, hb⟩; refine ⟨_, rfl, ?_⟩; have n0_ := Aside0.mk (Kd.V_lower (Kd.V_mono (ok' := fun k_ => True) ho0 (fun k_ hk_ => trivial)) (below_size (by repeat (first | (with_reducible first | exact HB.out | apply below_alloc | apply pw_below_drewN | apply below_drew1) | exact HB.out)))); have n1_ := Aside0.mk (below_step (by repeat (first | (with_reducible first | exact HB.out | apply below_alloc | apply pw_below_drewN | apply below_drew1) | exact HB.out)) hb); clear HB; have HO437 := n0_; have HB := n1_; clear n0_ n1_; (try clear hb); (try clear hb2); (try clear hk); (try clear hi); (try clear ho0); obtain ⟨Ao8, co8, eo8⟩ := Kd.V_slice HO437.out; subst eo8) | ((with_reducible refine gate_callee (f := 45) rfl ?_); refine goesL_ (some 24) rfl rfl Try.func45 (by kernel_rfl) rfl #[.slice Ao8 t435.length co8] rfl (by (try simp only [List.map_toArray, List.map_cons, List.map_nil]); first | done | rfl | (simp only [List.length_drop, List.length_take]; rfl)) ?_; (with_reducible refine (impl_CutMany.calls _ _ t435 t438 t439 _ ?side1 ?side2 A4.out).mono ?_); (case side1 => repeat (first | exact (Kd.V_reads' HO437.out).2.2 | (with_reducible refine Kd.C_alloc ?_ _) | (with_reducible refine Kd.C_drewN ?_ _) | (with_reducible refine Kd.C_drew ?_))); (case side2 => exact (Kd.V_reads' HO437.out).2.1); rintro e w9 ⟨rfl, hb⟩; refine ⟨_, rfl, ?_⟩; have n0_ := Aside0.mk (Kd.V_below (by (with_reducible repeat (first | apply Kd.V_alloc | apply Kd.V_drewN | apply Kd.V_drew)); exact HO437.out) hb); have n1_ := Aside0.mk (below_step (by repeat (first | (with_reducible first | exact HB.out | apply below_alloc | apply pw_below_drewN | apply below_drew1) | exact HB.out)) hb); clear HO437; clear HB; have HO437 := n0_; have HB := n1_; clear n0_ n1_; (try clear hb); (try clear hb2); (try clear hk); (try clear hi)) | ((with_reducible refine gate_callee (f := 47) rfl ?_); refine goesL_ (some 29) rfl rfl Try.func47 (by kernel_rfl) rfl #[.slice Ao8 t435.length co8] rfl (by (try simp only [List.map_toArray, List.map_cons, List.map_nil]); first | done | rfl | (simp only [List.length_drop, List.length_take]; rfl)) ?_; (with_reducible refine (spec_CutMany.calls k _ _ t435 t440 t441 _ ?side1 ?side2 A5.out).mono ?_); (case side1 => repeat (first | exact (Kd.V_reads' HO437.out).2.2 | (with_reducible refine Kd.C_alloc ?_ _) | (with_reducible refine Kd.C_drewN ?_ _) | (with_reducible refine Kd.C_drew ?_))); (case side2 => exact (Kd.V_reads' HO437.out).2.1); rintro e w10 ⟨rfl, hb⟩; refine ⟨_, rfl, ?_⟩; have n0_ := Aside0.mk (Kd.V_below (by (with_reducible repeat (first | apply Kd.V_alloc | apply Kd.V_drewN | apply Kd.V_drew)); exact HO437.out) hb); have n1_ := Aside0.mk (below_step (by repeat (first | (with_reducible first | exact HB.out | apply below_alloc | apply pw_below_drewN | apply below_drew1) | exact HB.out)) hb); clear HO437; clear HB; have HO437 := n0_; have HB := n1_; clear n0_ n1_; (try clear hb); (try clear hb2); (try clear hk); (try clear hi)))
  (try simp only [Act.put, List.setIfInBounds_toArray, List.set_cons_zero, List.set_cons_succ])
  go_cut [43] (fun v43 wc => ∃ (kq : Nat) (x43_5 : Bool), v43 = .bool x43_5 ∧ Aside0 (laws_FnCutMany.j0 kq t435 t438 t439 t440 t441 x43_5 = some r) ∧ Aside0 (kq ≤ k) ∧ Aside0 (Kd.V Kd.string 9 wc w.heap.size (fun _ => True) (.slice Ao8 t435.length co8) t435) ∧ Aside0 (Below w.heap.size w wc))
  case first =>
   have H := HC6.out
   clear HC6
   by_cases c11 : (t439 != t441) = true
   ·rw [if_pos c11] at H
    have c11b0 : (t439 != t441) = true := c11
    (try (have c11b1 : decide (t439 = t441) = false := by simpa using c11))
    (try (have c11b2 : (t439 == t441) = false := by simpa using c11))
    (try (have c11b3 : ¬ (t439 = t441) := by simpa using c11))
    clear c11
    (first | rw [c11b0] | (simp only [i64_w, i32_w]; rw [c11b0]) | skip)
    have H' := Aside0.mk H
    clear H
    go_wp2
    go_meet
    case rel => exact ⟨_, (true), (by first | rfl | (simp; done) | (simp [*]; done)), H', ⟨by first | omega | exact Nat.le_refl _⟩, ⟨by (with_reducible repeat (first | apply Kd.V_alloc | apply Kd.V_drewN | apply Kd.V_drew)); exact HO437.out⟩, ⟨by repeat (first | (with_reducible first | exact HB.out | apply below_alloc | apply pw_below_drewN | apply below_drew1) | exact HB.out)⟩⟩
   ·rw [if_neg c11] at H
    have c11b0 : (t439 != t441) = false := by simpa using c11
    (try (have c11b1 : decide (t439 = t441) = true := by simpa using c11))
    (try (have c11b2 : (t439 == t441) = true := by simpa using c11))
    clear c11
    (first | rw [c11b0] | (simp only [i64_w, i32_w]; rw [c11b0]) | skip)
    by_cases c12 : t438 = t440
    ·rw [if_pos c12] at H
     have c12b0 : (t438 == t440) = true := beq_iff_eq.mpr c12
     have c12b1 : (t438 != t440) = false := bne_eq_false_iff_eq.mpr c12
     clear c12
     have H' := Aside0.mk H
     clear H
     go_wp2
     go_meet
     case rel => exact ⟨_, (!t439), (by first | rfl | (simp; done) | (simp [*]; done)), H', ⟨by first | omega | exact Nat.le_refl _⟩, ⟨by (with_reducible repeat (first | apply Kd.V_alloc | apply Kd.V_drewN | apply Kd.V_drew)); exact HO437.out⟩, ⟨by repeat (first | (with_reducible first | exact HB.out | apply below_alloc | apply pw_below_drewN | apply below_drew1) | exact HB.out)⟩⟩
    ·rw [if_neg c12] at H
     have c12b0 : (t438 == t440) = false := beq_eq_false_iff_ne.mpr c12
     have c12b1 : (t438 != t440) = true := bne_iff_ne.mpr c12
     have H' := Aside0.mk H
     clear H
     go_wp2
     go_meet
     case rel => exact ⟨_, (true), (by first | rfl | (simp; done) | (simp [*]; done)), H', ⟨by first | omega | exact Nat.le_refl _⟩, ⟨by (with_reducible repeat (first | apply Kd.V_alloc | apply Kd.V_drewN | apply Kd.V_drew)); exact HO437.out⟩, ⟨by repeat (first | (with_reducible first | exact HB.out | apply below_alloc | apply pw_below_drewN | apply below_drew1) | exact HB.out)⟩⟩
  case rest =>
   clear HC6
   try clear c1
   try clear c2
   try clear c2b0
   try clear c2b1
   try clear p2
   try clear c4
   try clear c11
   try clear c11b0
   try clear c11b1
   try clear c11b2
   try clear c12
   try clear c12b0
   try clear c12b1
   obtain ⟨kq, x43_5, rfl, HA, HJ5, HO_3, HB⟩ := hcut
   cases kq with
   | zero => exact absurd HA.out (by simp [laws_FnCutMany.j0])
   | succ kj5 =>
    have H := HA.out
    clear HA
    simp only [laws_FnCutMany.j0] at H
    by_cases c13 : x43_5 = true
    ·subst c13
     have H1 : (if (t439 == t441) = true then (some (t438 == t440)) else (some false)) = some r := by rw [if_pos rfl] at H; exact H
     clear H
     have H := H1
     clear H1
     by_cases c14 : (t439 == t441) = true
     ·rw [if_pos c14] at H
      have c14b0 : (t439 == t441) = true := c14
      (try (have c14b1 : decide (t439 = t441) = true := by simpa using c14))
      (try (have c14b2 : (t439 == t441) = true := by simpa using c14))
      clear c14
      obtain rfl := Option.some.inj H
      go_wp2
      go_ret
      exact ⟨by first | rfl | (simp [errW_none, errW_some] <;> rfl) | (simp [*, errW_none, errW_some] <;> rfl), by repeat (first | (with_reducible first | exact HB.out | apply below_alloc | apply pw_below_drewN | apply below_drew1) | exact HB.out)⟩
     ·rw [if_neg c14] at H
      have c14b0 : (t439 == t441) = false := by simpa using c14
      (try (have c14b1 : decide (t439 = t441) = false := by simpa using c14))
      (try (have c14b2 : (t439 == t441) = false := by simpa using c14))
      (try (have c14b3 : ¬ (t439 = t441) := by simpa using c14))
      clear c14
      obtain rfl := Option.some.inj H
      go_wp2
      go_ret
      exact ⟨by first | rfl | (simp [errW_none, errW_some] <;> rfl) | (simp [*, errW_none, errW_some] <;> rfl), by repeat (first | (with_reducible first | exact HB.out | apply below_alloc | apply pw_below_drewN | apply below_drew1) | exact HB.out)⟩
    ·replace c13 := Bool.eq_false_iff.mpr c13
     subst c13
     have H1 : ((impl_PlanTurn.f t435).bind fun bt442 => ((impl_CutMany.f bt442.1).bind fun bt446 => ((impl_CutFirst.f t435).bind fun bt448 => ((impl_WallMany.f t435).bind fun bt450 => (if bt442.2 = true then (if bt446.2 = true then (if bt450.2.2 = true then (if bt446.1 = t438 then (if ((t438 == 0) == (!bt448.2)) = true then (some (decide (t438 ≤ (wrap64 (bt450.1 + bt450.2.1))))) else (some false)) else (some false)) else (some false)) else (some false)) else (some false)))))) = some r := by rw [if_neg (show ¬ (false = true) by decide)] at H; exact H
     clear H
     have H := H1
     clear H1
     replace H := Option.bind_eq_some_iff.mp H
     obtain ⟨⟨t442, t443⟩, A150, H⟩ := H
     replace H : ((impl_CutMany.f t442).bind fun bt446 => ((impl_CutFirst.f t435).bind fun bt448 => ((impl_WallMany.f t435).bind fun bt450 => (if t443 = true then (if bt446.2 = true then (if bt450.2.2 = true then (if bt446.1 = t438 then (if ((t438 == 0) == (!bt448.2)) = true then (some (decide (t438 ≤ (wrap64 (bt450.1 + bt450.2.1))))) else (some false)) else (some false)) else (some false)) else (some false)) else (some false))))) = some r := H
     have A15 := Aside0.mk A150
     clear A150
     replace H := Option.bind_eq_some_iff.mp H
     obtain ⟨⟨t446, t447⟩, A160, H⟩ := H
     replace H : ((impl_CutFirst.f t435).bind fun bt448 => ((impl_WallMany.f t435).bind fun bt450 => (if t443 = true then (if t447 = true then (if bt450.2.2 = true then (if t446 = t438 then (if ((t438 == 0) == (!bt448.2)) = true then (some (decide (t438 ≤ (wrap64 (bt450.1 + bt450.2.1))))) else (some false)) else (some false)) else (some false)) else (some false)) else (some false)))) = some r := H
     have A16 := Aside0.mk A160
     clear A160
     replace H := Option.bind_eq_some_iff.mp H
     obtain ⟨⟨t448, t449⟩, A170, H⟩ := H
     replace H : ((impl_WallMany.f t435).bind fun bt450 => (if t443 = true then (if t447 = true then (if bt450.2.2 = true then (if t446 = t438 then (if ((t438 == 0) == (!t449)) = true then (some (decide (t438 ≤ (wrap64 (bt450.1 + bt450.2.1))))) else (some false)) else (some false)) else (some false)) else (some false)) else (some false))) = some r := H
     have A17 := Aside0.mk A170
     clear A170
     replace H := Option.bind_eq_some_iff.mp H
     obtain ⟨⟨t450, t451, t452⟩, A180, H⟩ := H
     replace H : (if t443 = true then (if t447 = true then (if t452 = true then (if t446 = t438 then (if ((t438 == 0) == (!t449)) = true then (some (decide (t438 ≤ (wrap64 (t450 + t451))))) else (some false)) else (some false)) else (some false)) else (some false)) else (some false)) = some r := H
     have A18 := Aside0.mk A180
     clear A180
     by_cases c19 : t443 = true
     ·subst c19
      have H1 : (if t447 = true then (if t452 = true then (if t446 = t438 then (if ((t438 == 0) == (!t449)) = true then (some (decide (t438 ≤ (wrap64 (t450 + t451))))) else (some false)) else (some false)) else (some false)) else (some false)) = some r := by rw [if_pos rfl] at H; exact H
      clear H
      have H := H1
      clear H1
      by_cases c20 : t447 = true
      ·subst c20
       have H1 : (if t452 = true then (if t446 = t438 then (if ((t438 == 0) == (!t449)) = true then (some (decide (t438 ≤ (wrap64 (t450 + t451))))) else (some false)) else (some false)) else (some false)) = some r := by rw [if_pos rfl] at H; exact H
       clear H
       have H := H1
       clear H1
       by_cases c21 : t452 = true
       ·subst c21
        have H1 : (if t446 = t438 then (if ((t438 == 0) == (!t449)) = true then (some (decide (t438 ≤ (wrap64 (t450 + t451))))) else (some false)) else (some false)) = some r := by rw [if_pos rfl] at H; exact H
        clear H
        have H := H1
        clear H1
        by_cases c22 : t446 = t438
        ·rw [if_pos c22] at H
         have c22b0 : (t446 == t438) = true := beq_iff_eq.mpr c22
         have c22b1 : (t446 != t438) = false := bne_eq_false_iff_eq.mpr c22
         clear c22
         by_cases c23 : ((t438 == 0) == (!t449)) = true
         ·rw [if_pos c23] at H
          have c23b0 : ((t438 == 0) == (!t449)) = true := c23
          (try (have c23b1 : decide ((t438 == 0) = (!t449)) = true := by simpa using c23))
          (try (have c23b2 : ((t438 == 0) == (!t449)) = true := by simpa using c23))
          clear c23
          obtain rfl := Option.some.inj H
          go_wp2_with (first | ((with_reducible refine gate_callee (f := 48) rfl ?_); refine goesL_ (some 54) rfl rfl Try.func48 (by kernel_rfl) rfl #[.slice Ao8 t435.length co8] rfl (by (try simp only [List.map_toArray, List.map_cons, List.map_nil]); first | done | rfl | (simp only [List.length_drop, List.length_take]; rfl)) ?_; (with_reducible refine (impl_PlanTurn.calls _ _ t435 t442 true _ ?side1 ?side2 A15.out).mono ?_); (case side1 => repeat (first | exact (Kd.V_reads' HO_3.out).2.2 | (with_reducible refine Kd.C_alloc ?_ _) | (with_reducible refine Kd.C_drewN ?_ _) | (with_reducible refine Kd.C_drew ?_))); (case side2 => exact (Kd.V_reads' HO_3.out).2.1); rintro e w24 ⟨v444, rfl, ho0, hb⟩; refine ⟨_, rfl, ?_⟩; have n0_ := Aside0.mk (Kd.V_elder' (by (with_reducible repeat (first | apply Kd.V_alloc | apply Kd.V_drewN | apply Kd.V_drew)); exact HO_3.out) (Kd.R_base ho0) hb); have n1_ := Aside0.mk (Kd.R_lower ho0 (below_size (by repeat (first | (with_reducible first | exact HB.out | apply below_alloc | apply pw_below_drewN | apply below_drew1) | exact HB.out)))); have n2_ := Aside0.mk (below_step (by repeat (first | (with_reducible first | exact HB.out | apply below_alloc | apply pw_below_drewN | apply below_drew1) | exact HB.out)) hb); clear HO_3; clear HB; have HO_3 := n0_; have HO445 := n1_; have HB := n2_; clear n0_ n1_ n2_; (try clear hb); (try clear hb2); (try clear hk); (try clear hi); (try clear ho0); obtain ⟨Ao25, co25, eo25⟩ := Kd.R_slice HO445.out; subst eo25) | ((with_reducible refine gate_callee (f := 45) rfl ?_); refine goesL_ (some 59) rfl rfl Try.func45 (by kernel_rfl) rfl #[.slice Ao25 t442.length co25] rfl (by (try simp only [List.map_toArray, List.map_cons, List.map_nil]); first | done | rfl | (simp only [List.length_drop, List.length_take]; rfl)) ?_; (with_reducible refine (impl_CutMany.calls _ _ t442 t446 true _ ?side1 ?side2 A16.out).mono ?_); (case side1 => repeat (first | exact (Kd.R_reads' HO445.out).2.2 | (with_reducible refine Kd.C_alloc ?_ _) | (with_reducible refine Kd.C_drewN ?_ _) | (with_reducible refine Kd.C_drew ?_))); (case side2 => exact (Kd.R_reads' HO445.out).2.1); rintro e w26 ⟨rfl, hb⟩; refine ⟨_, rfl, ?_⟩; have n0_ := Aside0.mk (Kd.V_below (by (with_reducible repeat (first | apply Kd.V_alloc | apply Kd.V_drewN | apply Kd.V_drew)); exact HO_3.out) hb); have n1_ := Aside0.mk (Kd.R_below (by (with_reducible repeat (first | apply Kd.R_alloc | apply Kd.R_drewN | apply Kd.R_drew)); exact HO445.out) hb); have n2_ := Aside0.mk (below_step (by repeat (first | (with_reducible first | exact HB.out | apply below_alloc | apply pw_below_drewN | apply below_drew1) | exact HB.out)) hb); clear HO_3; clear HO445; clear HB; have HO_3 := n0_; have HO445 := n1_; have HB := n2_; clear n0_ n1_ n2_; (try clear hb); (try clear hb2); (try clear hk); (try clear hi)) | ((with_reducible refine gate_callee (f := 43) rfl ?_); refine goesL_ (some 64) rfl rfl Try.func43 (by kernel_rfl) rfl #[.slice Ao8 t435.length co8] rfl (by (try simp only [List.map_toArray, List.map_cons, List.map_nil]); first | done | rfl | (simp only [List.length_drop, List.length_take]; rfl)) ?_; (with_reducible refine (impl_CutFirst.calls _ _ t435 t448 t449 _ ?side1 ?side2 A17.out).mono ?_); (case side1 => repeat (first | exact (Kd.V_reads' HO_3.out).2.2 | (with_reducible refine Kd.C_alloc ?_ _) | (with_reducible refine Kd.C_drewN ?_ _) | (with_reducible refine Kd.C_drew ?_))); (case side2 => exact (Kd.V_reads' HO_3.out).2.1); rintro e w27 ⟨rfl, hb⟩; refine ⟨_, rfl, ?_⟩; have n0_ := Aside0.mk (Kd.V_below (by (with_reducible repeat (first | apply Kd.V_alloc | apply Kd.V_drewN | apply Kd.V_drew)); exact HO_3.out) hb); have n1_ := Aside0.mk (Kd.R_below (by (with_reducible repeat (first | apply Kd.R_alloc | apply Kd.R_drewN | apply Kd.R_drew)); exact HO445.out) hb); have n2_ := Aside0.mk (below_step (by repeat (first | (with_reducible first | exact HB.out | apply below_alloc | apply pw_below_drewN | apply below_drew1) | exact HB.out)) hb); clear HO_3; clear HO445; clear HB; have HO_3 := n0_; have HO445 := n1_; have HB := n2_; clear n0_ n1_ n2_; (try clear hb); (try clear hb2); (try clear hk); (try clear hi)) | ((with_reducible refine gate_callee (f := 28) rfl ?_); refine goesL_ (some 69) rfl rfl Try.func28 (by kernel_rfl) rfl #[.slice Ao8 t435.length co8] rfl (by (try simp only [List.map_toArray, List.map_cons, List.map_nil]); first | done | rfl | (simp only [List.length_drop, List.length_take]; rfl)) ?_; (with_reducible refine (impl_WallMany.calls _ _ t435 t450 t451 true _ ?side1 ?side2 A18.out).mono ?_); (case side1 => repeat (first | exact (Kd.V_reads' HO_3.out).2.2 | (with_reducible refine Kd.C_alloc ?_ _) | (with_reducible refine Kd.C_drewN ?_ _) | (with_reducible refine Kd.C_drew ?_))); (case side2 => exact (Kd.V_reads' HO_3.out).2.1); rintro e w28 ⟨rfl, hb⟩; refine ⟨_, rfl, ?_⟩; have n0_ := Aside0.mk (Kd.V_below (by (with_reducible repeat (first | apply Kd.V_alloc | apply Kd.V_drewN | apply Kd.V_drew)); exact HO_3.out) hb); have n1_ := Aside0.mk (Kd.R_below (by (with_reducible repeat (first | apply Kd.R_alloc | apply Kd.R_drewN | apply Kd.R_drew)); exact HO445.out) hb); have n2_ := Aside0.mk (below_step (by repeat (first | (with_reducible first | exact HB.out | apply below_alloc | apply pw_below_drewN | apply below_drew1) | exact HB.out)) hb); clear HO_3; clear HO445; clear HB; have HO_3 := n0_; have HO445 := n1_; have HB := n2_; clear n0_ n1_ n2_; (try clear hb); (try clear hb2); (try clear hk); (try clear hi)))
          go_ret
          exact ⟨by first | rfl | (simp [errW_none, errW_some] <;> rfl) | (simp [*, errW_none, errW_some] <;> rfl), by repeat (first | (with_reducible first | exact HB.out | apply below_alloc | apply pw_below_drewN | apply below_drew1) | exact HB.out)⟩
         ·rw [if_neg c23] at H
          have c23b0 : ((t438 == 0) == (!t449)) = false := by simpa using c23
          (try (have c23b1 : decide ((t438 == 0) = (!t449)) = false := by simpa using c23))
          (try (have c23b2 : ((t438 == 0) == (!t449)) = false := by simpa using c23))
          (try (have c23b3 : ¬ ((t438 == 0) = (!t449)) := by simpa using c23))
          clear c23
          obtain rfl := Option.some.inj H
          go_wp2_with (first | ((with_reducible refine gate_callee (f := 48) rfl ?_); refine goesL_ (some 54) rfl rfl Try.func48 (by kernel_rfl) rfl #[.slice Ao8 t435.length co8] rfl (by (try simp only [List.map_toArray, List.map_cons, List.map_nil]); first | done | rfl | (simp only [List.length_drop, List.length_take]; rfl)) ?_; (with_reducible refine (impl_PlanTurn.calls _ _ t435 t442 true _ ?side1 ?side2 A15.out).mono ?_); (case side1 => repeat (first | exact (Kd.V_reads' HO_3.out).2.2 | (with_reducible refine Kd.C_alloc ?_ _) | (with_reducible refine Kd.C_drewN ?_ _) | (with_reducible refine Kd.C_drew ?_))); (case side2 => exact (Kd.V_reads' HO_3.out).2.1); rintro e w29 ⟨v444, rfl, ho0, hb⟩; refine ⟨_, rfl, ?_⟩; have n0_ := Aside0.mk (Kd.V_elder' (by (with_reducible repeat (first | apply Kd.V_alloc | apply Kd.V_drewN | apply Kd.V_drew)); exact HO_3.out) (Kd.R_base ho0) hb); have n1_ := Aside0.mk (Kd.R_lower ho0 (below_size (by repeat (first | (with_reducible first | exact HB.out | apply below_alloc | apply pw_below_drewN | apply below_drew1) | exact HB.out)))); have n2_ := Aside0.mk (below_step (by repeat (first | (with_reducible first | exact HB.out | apply below_alloc | apply pw_below_drewN | apply below_drew1) | exact HB.out)) hb); clear HO_3; clear HB; have HO_3 := n0_; have HO445 := n1_; have HB := n2_; clear n0_ n1_ n2_; (try clear hb); (try clear hb2); (try clear hk); (try clear hi); (try clear ho0); obtain ⟨Ao30, co30, eo30⟩ := Kd.R_slice HO445.out; subst eo30) | ((with_reducible refine gate_callee (f := 45) rfl ?_); refine goesL_ (some 59) rfl rfl Try.func45 (by kernel_rfl) rfl #[.slice Ao30 t442.length co30] rfl (by (try simp only [List.map_toArray, List.map_cons, List.map_nil]); first | done | rfl | (simp only [List.length_drop, List.length_take]; rfl)) ?_; (with_reducible refine (impl_CutMany.calls _ _ t442 t446 true _ ?side1 ?side2 A16.out).mono ?_); (case side1 => repeat (first | exact (Kd.R_reads' HO445.out).2.2 | (with_reducible refine Kd.C_alloc ?_ _) | (with_reducible refine Kd.C_drewN ?_ _) | (with_reducible refine Kd.C_drew ?_))); (case side2 => exact (Kd.R_reads' HO445.out).2.1); rintro e w31 ⟨rfl, hb⟩; refine ⟨_, rfl, ?_⟩; have n0_ := Aside0.mk (Kd.V_below (by (with_reducible repeat (first | apply Kd.V_alloc | apply Kd.V_drewN | apply Kd.V_drew)); exact HO_3.out) hb); have n1_ := Aside0.mk (Kd.R_below (by (with_reducible repeat (first | apply Kd.R_alloc | apply Kd.R_drewN | apply Kd.R_drew)); exact HO445.out) hb); have n2_ := Aside0.mk (below_step (by repeat (first | (with_reducible first | exact HB.out | apply below_alloc | apply pw_below_drewN | apply below_drew1) | exact HB.out)) hb); clear HO_3; clear HO445; clear HB; have HO_3 := n0_; have HO445 := n1_; have HB := n2_; clear n0_ n1_ n2_; (try clear hb); (try clear hb2); (try clear hk); (try clear hi)) | ((with_reducible refine gate_callee (f := 43) rfl ?_); refine goesL_ (some 64) rfl rfl Try.func43 (by kernel_rfl) rfl #[.slice Ao8 t435.length co8] rfl (by (try simp only [List.map_toArray, List.map_cons, List.map_nil]); first | done | rfl | (simp only [List.length_drop, List.length_take]; rfl)) ?_; (with_reducible refine (impl_CutFirst.calls _ _ t435 t448 t449 _ ?side1 ?side2 A17.out).mono ?_); (case side1 => repeat (first | exact (Kd.V_reads' HO_3.out).2.2 | (with_reducible refine Kd.C_alloc ?_ _) | (with_reducible refine Kd.C_drewN ?_ _) | (with_reducible refine Kd.C_drew ?_))); (case side2 => exact (Kd.V_reads' HO_3.out).2.1); rintro e w32 ⟨rfl, hb⟩; refine ⟨_, rfl, ?_⟩; have n0_ := Aside0.mk (Kd.V_below (by (with_reducible repeat (first | apply Kd.V_alloc | apply Kd.V_drewN | apply Kd.V_drew)); exact HO_3.out) hb); have n1_ := Aside0.mk (Kd.R_below (by (with_reducible repeat (first | apply Kd.R_alloc | apply Kd.R_drewN | apply Kd.R_drew)); exact HO445.out) hb); have n2_ := Aside0.mk (below_step (by repeat (first | (with_reducible first | exact HB.out | apply below_alloc | apply pw_below_drewN | apply below_drew1) | exact HB.out)) hb); clear HO_3; clear HO445; clear HB; have HO_3 := n0_; have HO445 := n1_; have HB := n2_; clear n0_ n1_ n2_; (try clear hb); (try clear hb2); (try clear hk); (try clear hi)) | ((with_reducible refine gate_callee (f := 28) rfl ?_); refine goesL_ (some 69) rfl rfl Try.func28 (by kernel_rfl) rfl #[.slice Ao8 t435.length co8] rfl (by (try simp only [List.map_toArray, List.map_cons, List.map_nil]); first | done | rfl | (simp only [List.length_drop, List.length_take]; rfl)) ?_; (with_reducible refine (impl_WallMany.calls _ _ t435 t450 t451 true _ ?side1 ?side2 A18.out).mono ?_); (case side1 => repeat (first | exact (Kd.V_reads' HO_3.out).2.2 | (with_reducible refine Kd.C_alloc ?_ _) | (with_reducible refine Kd.C_drewN ?_ _) | (with_reducible refine Kd.C_drew ?_))); (case side2 => exact (Kd.V_reads' HO_3.out).2.1); rintro e w33 ⟨rfl, hb⟩; refine ⟨_, rfl, ?_⟩; have n0_ := Aside0.mk (Kd.V_below (by (with_reducible repeat (first | apply Kd.V_alloc | apply Kd.V_drewN | apply Kd.V_drew)); exact HO_3.out) hb); have n1_ := Aside0.mk (Kd.R_below (by (with_reducible repeat (first | apply Kd.R_alloc | apply Kd.R_drewN | apply Kd.R_drew)); exact HO445.out) hb); have n2_ := Aside0.mk (below_step (by repeat (first | (with_reducible first | exact HB.out | apply below_alloc | apply pw_below_drewN | apply below_drew1) | exact HB.out)) hb); clear HO_3; clear HO445; clear HB; have HO_3 := n0_; have HO445 := n1_; have HB := n2_; clear n0_ n1_ n2_; (try clear hb); (try clear hb2); (try clear hk); (try clear hi)))
          go_ret
          exact ⟨by first | rfl | (simp [errW_none, errW_some] <;> rfl) | (simp [*, errW_none, errW_some] <;> rfl), by repeat (first | (with_reducible first | exact HB.out | apply below_alloc | apply pw_below_drewN | apply below_drew1) | exact HB.out)⟩
        ·rw [if_neg c22] at H
         have c22b0 : (t446 == t438) = false := beq_eq_false_iff_ne.mpr c22
         have c22b1 : (t446 != t438) = true := bne_iff_ne.mpr c22
         obtain rfl := Option.some.inj H
         go_wp2_with (first | ((with_reducible refine gate_callee (f := 48) rfl ?_); refine goesL_ (some 54) rfl rfl Try.func48 (by kernel_rfl) rfl #[.slice Ao8 t435.length co8] rfl (by (try simp only [List.map_toArray, List.map_cons, List.map_nil]); first | done | rfl | (simp only [List.length_drop, List.length_take]; rfl)) ?_; (with_reducible refine (impl_PlanTurn.calls _ _ t435 t442 true _ ?side1 ?side2 A15.out).mono ?_); (case side1 => repeat (first | exact (Kd.V_reads' HO_3.out).2.2 | (with_reducible refine Kd.C_alloc ?_ _) | (with_reducible refine Kd.C_drewN ?_ _) | (with_reducible refine Kd.C_drew ?_))); (case side2 => exact (Kd.V_reads' HO_3.out).2.1); rintro e w34 ⟨v444, rfl, ho0, hb⟩; refine ⟨_, rfl, ?_⟩; have n0_ := Aside0.mk (Kd.V_elder' (by (with_reducible repeat (first | apply Kd.V_alloc | apply Kd.V_drewN | apply Kd.V_drew)); exact HO_3.out) (Kd.R_base ho0) hb); have n1_ := Aside0.mk (Kd.R_lower ho0 (below_size (by repeat (first | (with_reducible first | exact HB.out | apply below_alloc | apply pw_below_drewN | apply below_drew1) | exact HB.out)))); have n2_ := Aside0.mk (below_step (by repeat (first | (with_reducible first | exact HB.out | apply below_alloc | apply pw_below_drewN | apply below_drew1) | exact HB.out)) hb); clear HO_3; clear HB; have HO_3 := n0_; have HO445 := n1_; have HB := n2_; clear n0_ n1_ n2_; (try clear hb); (try clear hb2); (try clear hk); (try clear hi); (try clear ho0); obtain ⟨Ao35, co35, eo35⟩ := Kd.R_slice HO445.out; subst eo35) | ((with_reducible refine gate_callee (f := 45) rfl ?_); refine goesL_ (some 59) rfl rfl Try.func45 (by kernel_rfl) rfl #[.slice Ao35 t442.length co35] rfl (by (try simp only [List.map_toArray, List.map_cons, List.map_nil]); first | done | rfl | (simp only [List.length_drop, List.length_take]; rfl)) ?_; (with_reducible refine (impl_CutMany.calls _ _ t442 t446 true _ ?side1 ?side2 A16.out).mono ?_); (case side1 => repeat (first | exact (Kd.R_reads' HO445.out).2.2 | (with_reducible refine Kd.C_alloc ?_ _) | (with_reducible refine Kd.C_drewN ?_ _) | (with_reducible refine Kd.C_drew ?_))); (case side2 => exact (Kd.R_reads' HO445.out).2.1); rintro e w36 ⟨rfl, hb⟩; refine ⟨_, rfl, ?_⟩; have n0_ := Aside0.mk (Kd.V_below (by (with_reducible repeat (first | apply Kd.V_alloc | apply Kd.V_drewN | apply Kd.V_drew)); exact HO_3.out) hb); have n1_ := Aside0.mk (Kd.R_below (by (with_reducible repeat (first | apply Kd.R_alloc | apply Kd.R_drewN | apply Kd.R_drew)); exact HO445.out) hb); have n2_ := Aside0.mk (below_step (by repeat (first | (with_reducible first | exact HB.out | apply below_alloc | apply pw_below_drewN | apply below_drew1) | exact HB.out)) hb); clear HO_3; clear HO445; clear HB; have HO_3 := n0_; have HO445 := n1_; have HB := n2_; clear n0_ n1_ n2_; (try clear hb); (try clear hb2); (try clear hk); (try clear hi)) | ((with_reducible refine gate_callee (f := 43) rfl ?_); refine goesL_ (some 64) rfl rfl Try.func43 (by kernel_rfl) rfl #[.slice Ao8 t435.length co8] rfl (by (try simp only [List.map_toArray, List.map_cons, List.map_nil]); first | done | rfl | (simp only [List.length_drop, List.length_take]; rfl)) ?_; (with_reducible refine (impl_CutFirst.calls _ _ t435 t448 t449 _ ?side1 ?side2 A17.out).mono ?_); (case side1 => repeat (first | exact (Kd.V_reads' HO_3.out).2.2 | (with_reducible refine Kd.C_alloc ?_ _) | (with_reducible refine Kd.C_drewN ?_ _) | (with_reducible refine Kd.C_drew ?_))); (case side2 => exact (Kd.V_reads' HO_3.out).2.1); rintro e w37 ⟨rfl, hb⟩; refine ⟨_, rfl, ?_⟩; have n0_ := Aside0.mk (Kd.V_below (by (with_reducible repeat (first | apply Kd.V_alloc | apply Kd.V_drewN | apply Kd.V_drew)); exact HO_3.out) hb); have n1_ := Aside0.mk (Kd.R_below (by (with_reducible repeat (first | apply Kd.R_alloc | apply Kd.R_drewN | apply Kd.R_drew)); exact HO445.out) hb); have n2_ := Aside0.mk (below_step (by repeat (first | (with_reducible first | exact HB.out | apply below_alloc | apply pw_below_drewN | apply below_drew1) | exact HB.out)) hb); clear HO_3; clear HO445; clear HB; have HO_3 := n0_; have HO445 := n1_; have HB := n2_; clear n0_ n1_ n2_; (try clear hb); (try clear hb2); (try clear hk); (try clear hi)) | ((with_reducible refine gate_callee (f := 28) rfl ?_); refine goesL_ (some 69) rfl rfl Try.func28 (by kernel_rfl) rfl #[.slice Ao8 t435.length co8] rfl (by (try simp only [List.map_toArray, List.map_cons, List.map_nil]); first | done | rfl | (simp only [List.length_drop, List.length_take]; rfl)) ?_; (with_reducible refine (impl_WallMany.calls _ _ t435 t450 t451 true _ ?side1 ?side2 A18.out).mono ?_); (case side1 => repeat (first | exact (Kd.V_reads' HO_3.out).2.2 | (with_reducible refine Kd.C_alloc ?_ _) | (with_reducible refine Kd.C_drewN ?_ _) | (with_reducible refine Kd.C_drew ?_))); (case side2 => exact (Kd.V_reads' HO_3.out).2.1); rintro e w38 ⟨rfl, hb⟩; refine ⟨_, rfl, ?_⟩; have n0_ := Aside0.mk (Kd.V_below (by (with_reducible repeat (first | apply Kd.V_alloc | apply Kd.V_drewN | apply Kd.V_drew)); exact HO_3.out) hb); have n1_ := Aside0.mk (Kd.R_below (by (with_reducible repeat (first | apply Kd.R_alloc | apply Kd.R_drewN | apply Kd.R_drew)); exact HO445.out) hb); have n2_ := Aside0.mk (below_step (by repeat (first | (with_reducible first | exact HB.out | apply below_alloc | apply pw_below_drewN | apply below_drew1) | exact HB.out)) hb); clear HO_3; clear HO445; clear HB; have HO_3 := n0_; have HO445 := n1_; have HB := n2_; clear n0_ n1_ n2_; (try clear hb); (try clear hb2); (try clear hk); (try clear hi)))
         go_ret
         exact ⟨by first | rfl | (simp [errW_none, errW_some] <;> rfl) | (simp [*, errW_none, errW_some] <;> rfl), by repeat (first | (with_reducible first | exact HB.out | apply below_alloc | apply pw_below_drewN | apply below_drew1) | exact HB.out)⟩
       ·replace c21 := Bool.eq_false_iff.mpr c21
        subst c21
        have H1 : (some false) = some r := by rw [if_neg (show ¬ (false = true) by decide)] at H; exact H
        clear H
        have H := H1
        clear H1
        obtain rfl := Option.some.inj H
        go_wp2_with (first | ((with_reducible refine gate_callee (f := 48) rfl ?_); refine goesL_ (some 54) rfl rfl Try.func48 (by kernel_rfl) rfl #[.slice Ao8 t435.length co8] rfl (by (try simp only [List.map_toArray, List.map_cons, List.map_nil]); first | done | rfl | (simp only [List.length_drop, List.length_take]; rfl)) ?_; (with_reducible refine (impl_PlanTurn.calls _ _ t435 t442 true _ ?side1 ?side2 A15.out).mono ?_); (case side1 => repeat (first | exact (Kd.V_reads' HO_3.out).2.2 | (with_reducible refine Kd.C_alloc ?_ _) | (with_reducible refine Kd.C_drewN ?_ _) | (with_reducible refine Kd.C_drew ?_))); (case side2 => exact (Kd.V_reads' HO_3.out).2.1); rintro e w39 ⟨v444, rfl, ho0, hb⟩; refine ⟨_, rfl, ?_⟩; have n0_ := Aside0.mk (Kd.V_elder' (by (with_reducible repeat (first | apply Kd.V_alloc | apply Kd.V_drewN | apply Kd.V_drew)); exact HO_3.out) (Kd.R_base ho0) hb); have n1_ := Aside0.mk (Kd.R_lower ho0 (below_size (by repeat (first | (with_reducible first | exact HB.out | apply below_alloc | apply pw_below_drewN | apply below_drew1) | exact HB.out)))); have n2_ := Aside0.mk (below_step (by repeat (first | (with_reducible first | exact HB.out | apply below_alloc | apply pw_below_drewN | apply below_drew1) | exact HB.out)) hb); clear HO_3; clear HB; have HO_3 := n0_; have HO445 := n1_; have HB := n2_; clear n0_ n1_ n2_; (try clear hb); (try clear hb2); (try clear hk); (try clear hi); (try clear ho0); obtain ⟨Ao40, co40, eo40⟩ := Kd.R_slice HO445.out; subst eo40) | ((with_reducible refine gate_callee (f := 45) rfl ?_); refine goesL_ (some 59) rfl rfl Try.func45 (by kernel_rfl) rfl #[.slice Ao40 t442.length co40] rfl (by (try simp only [List.map_toArray, List.map_cons, List.map_nil]); first | done | rfl | (simp only [List.length_drop, List.length_take]; rfl)) ?_; (with_reducible refine (impl_CutMany.calls _ _ t442 t446 true _ ?side1 ?side2 A16.out).mono ?_); (case side1 => repeat (first | exact (Kd.R_reads' HO445.out).2.2 | (with_reducible refine Kd.C_alloc ?_ _) | (with_reducible refine Kd.C_drewN ?_ _) | (with_reducible refine Kd.C_drew ?_))); (case side2 => exact (Kd.R_reads' HO445.out).2.1); rintro e w41 ⟨rfl, hb⟩; refine ⟨_, rfl, ?_⟩; have n0_ := Aside0.mk (Kd.V_below (by (with_reducible repeat (first | apply Kd.V_alloc | apply Kd.V_drewN | apply Kd.V_drew)); exact HO_3.out) hb); have n1_ := Aside0.mk (Kd.R_below (by (with_reducible repeat (first | apply Kd.R_alloc | apply Kd.R_drewN | apply Kd.R_drew)); exact HO445.out) hb); have n2_ := Aside0.mk (below_step (by repeat (first | (with_reducible first | exact HB.out | apply below_alloc | apply pw_below_drewN | apply below_drew1) | exact HB.out)) hb); clear HO_3; clear HO445; clear HB; have HO_3 := n0_; have HO445 := n1_; have HB := n2_; clear n0_ n1_ n2_; (try clear hb); (try clear hb2); (try clear hk); (try clear hi)) | ((with_reducible refine gate_callee (f := 43) rfl ?_); refine goesL_ (some 64) rfl rfl Try.func43 (by kernel_rfl) rfl #[.slice Ao8 t435.length co8] rfl (by (try simp only [List.map_toArray, List.map_cons, List.map_nil]); first | done | rfl | (simp only [List.length_drop, List.length_take]; rfl)) ?_; (with_reducible refine (impl_CutFirst.calls _ _ t435 t448 t449 _ ?side1 ?side2 A17.out).mono ?_); (case side1 => repeat (first | exact (Kd.V_reads' HO_3.out).2.2 | (with_reducible refine Kd.C_alloc ?_ _) | (with_reducible refine Kd.C_drewN ?_ _) | (with_reducible refine Kd.C_drew ?_))); (case side2 => exact (Kd.V_reads' HO_3.out).2.1); rintro e w42 ⟨rfl, hb⟩; refine ⟨_, rfl, ?_⟩; have n0_ := Aside0.mk (Kd.V_below (by (with_reducible repeat (first | apply Kd.V_alloc | apply Kd.V_drewN | apply Kd.V_drew)); exact HO_3.out) hb); have n1_ := Aside0.mk (Kd.R_below (by (with_reducible repeat (first | apply Kd.R_alloc | apply Kd.R_drewN | apply Kd.R_drew)); exact HO445.out) hb); have n2_ := Aside0.mk (below_step (by repeat (first | (with_reducible first | exact HB.out | apply below_alloc | apply pw_below_drewN | apply below_drew1) | exact HB.out)) hb); clear HO_3; clear HO445; clear HB; have HO_3 := n0_; have HO445 := n1_; have HB := n2_; clear n0_ n1_ n2_; (try clear hb); (try clear hb2); (try clear hk); (try clear hi)) | ((with_reducible refine gate_callee (f := 28) rfl ?_); refine goesL_ (some 69) rfl rfl Try.func28 (by kernel_rfl) rfl #[.slice Ao8 t435.length co8] rfl (by (try simp only [List.map_toArray, List.map_cons, List.map_nil]); first | done | rfl | (simp only [List.length_drop, List.length_take]; rfl)) ?_; (with_reducible refine (impl_WallMany.calls _ _ t435 t450 t451 false _ ?side1 ?side2 A18.out).mono ?_); (case side1 => repeat (first | exact (Kd.V_reads' HO_3.out).2.2 | (with_reducible refine Kd.C_alloc ?_ _) | (with_reducible refine Kd.C_drewN ?_ _) | (with_reducible refine Kd.C_drew ?_))); (case side2 => exact (Kd.V_reads' HO_3.out).2.1); rintro e w43 ⟨rfl, hb⟩; refine ⟨_, rfl, ?_⟩; have n0_ := Aside0.mk (Kd.V_below (by (with_reducible repeat (first | apply Kd.V_alloc | apply Kd.V_drewN | apply Kd.V_drew)); exact HO_3.out) hb); have n1_ := Aside0.mk (Kd.R_below (by (with_reducible repeat (first | apply Kd.R_alloc | apply Kd.R_drewN | apply Kd.R_drew)); exact HO445.out) hb); have n2_ := Aside0.mk (below_step (by repeat (first | (with_reducible first | exact HB.out | apply below_alloc | apply pw_below_drewN | apply below_drew1) | exact HB.out)) hb); clear HO_3; clear HO445; clear HB; have HO_3 := n0_; have HO445 := n1_; have HB := n2_; clear n0_ n1_ n2_; (try clear hb); (try clear hb2); (try clear hk); (try clear hi)))
        go_ret
        exact ⟨by first | rfl | (simp [errW_none, errW_some] <;> rfl) | (simp [*, errW_none, errW_some] <;> rfl), by repeat (first | (with_reducible first | exact HB.out | apply below_alloc | apply pw_below_drewN | apply below_drew1) | exact HB.out)⟩
      ·replace c20 := Bool.eq_false_iff.mpr c20
       subst c20
       have H1 : (some false) = some r := by rw [if_neg (show ¬ (false = true) by decide)] at H; exact H
       clear H
       have H := H1
       clear H1
       obtain rfl := Option.some.inj H
       go_wp2_with (first | ((with_reducible refine gate_callee (f := 48) rfl ?_); refine goesL_ (some 54) rfl rfl Try.func48 (by kernel_rfl) rfl #[.slice Ao8 t435.length co8] rfl (by (try simp only [List.map_toArray, List.map_cons, List.map_nil]); first | done | rfl | (simp only [List.length_drop, List.length_take]; rfl)) ?_; (with_reducible refine (impl_PlanTurn.calls _ _ t435 t442 true _ ?side1 ?side2 A15.out).mono ?_); (case side1 => repeat (first | exact (Kd.V_reads' HO_3.out).2.2 | (with_reducible refine Kd.C_alloc ?_ _) | (with_reducible refine Kd.C_drewN ?_ _) | (with_reducible refine Kd.C_drew ?_))); (case side2 => exact (Kd.V_reads' HO_3.out).2.1); rintro e w44 ⟨v444, rfl, ho0, hb⟩; refine ⟨_, rfl, ?_⟩; have n0_ := Aside0.mk (Kd.V_elder' (by (with_reducible repeat (first | apply Kd.V_alloc | apply Kd.V_drewN | apply Kd.V_drew)); exact HO_3.out) (Kd.R_base ho0) hb); have n1_ := Aside0.mk (Kd.R_lower ho0 (below_size (by repeat (first | (with_reducible first | exact HB.out | apply below_alloc | apply pw_below_drewN | apply below_drew1) | exact HB.out)))); have n2_ := Aside0.mk (below_step (by repeat (first | (with_reducible first | exact HB.out | apply below_alloc | apply pw_below_drewN | apply below_drew1) | exact HB.out)) hb); clear HO_3; clear HB; have HO_3 := n0_; have HO445 := n1_; have HB := n2_; clear n0_ n1_ n2_; (try clear hb); (try clear hb2); (try clear hk); (try clear hi); (try clear ho0); obtain ⟨Ao45, co45, eo45⟩ := Kd.R_slice HO445.out; subst eo45) | ((with_reducible refine gate_callee (f := 45) rfl ?_); refine goesL_ (some 59) rfl rfl Try.func45 (by kernel_rfl) rfl #[.slice Ao45 t442.length co45] rfl (by (try simp only [List.map_toArray, List.map_cons, List.map_nil]); first | done | rfl | (simp only [List.length_drop, List.length_take]; rfl)) ?_; (with_reducible refine (impl_CutMany.calls _ _ t442 t446 false _ ?side1 ?side2 A16.out).mono ?_); (case side1 => repeat (first | exact (Kd.R_reads' HO445.out).2.2 | (with_reducible refine Kd.C_alloc ?_ _) | (with_reducible refine Kd.C_drewN ?_ _) | (with_reducible refine Kd.C_drew ?_))); (case side2 => exact (Kd.R_reads' HO445.out).2.1); rintro e w46 ⟨rfl, hb⟩; refine ⟨_, rfl, ?_⟩; have n0_ := Aside0.mk (Kd.V_below (by (with_reducible repeat (first | apply Kd.V_alloc | apply Kd.V_drewN | apply Kd.V_drew)); exact HO_3.out) hb); have n1_ := Aside0.mk (Kd.R_below (by (with_reducible repeat (first | apply Kd.R_alloc | apply Kd.R_drewN | apply Kd.R_drew)); exact HO445.out) hb); have n2_ := Aside0.mk (below_step (by repeat (first | (with_reducible first | exact HB.out | apply below_alloc | apply pw_below_drewN | apply below_drew1) | exact HB.out)) hb); clear HO_3; clear HO445; clear HB; have HO_3 := n0_; have HO445 := n1_; have HB := n2_; clear n0_ n1_ n2_; (try clear hb); (try clear hb2); (try clear hk); (try clear hi)) | ((with_reducible refine gate_callee (f := 43) rfl ?_); refine goesL_ (some 64) rfl rfl Try.func43 (by kernel_rfl) rfl #[.slice Ao8 t435.length co8] rfl (by (try simp only [List.map_toArray, List.map_cons, List.map_nil]); first | done | rfl | (simp only [List.length_drop, List.length_take]; rfl)) ?_; (with_reducible refine (impl_CutFirst.calls _ _ t435 t448 t449 _ ?side1 ?side2 A17.out).mono ?_); (case side1 => repeat (first | exact (Kd.V_reads' HO_3.out).2.2 | (with_reducible refine Kd.C_alloc ?_ _) | (with_reducible refine Kd.C_drewN ?_ _) | (with_reducible refine Kd.C_drew ?_))); (case side2 => exact (Kd.V_reads' HO_3.out).2.1); rintro e w47 ⟨rfl, hb⟩; refine ⟨_, rfl, ?_⟩; have n0_ := Aside0.mk (Kd.V_below (by (with_reducible repeat (first | apply Kd.V_alloc | apply Kd.V_drewN | apply Kd.V_drew)); exact HO_3.out) hb); have n1_ := Aside0.mk (Kd.R_below (by (with_reducible repeat (first | apply Kd.R_alloc | apply Kd.R_drewN | apply Kd.R_drew)); exact HO445.out) hb); have n2_ := Aside0.mk (below_step (by repeat (first | (with_reducible first | exact HB.out | apply below_alloc | apply pw_below_drewN | apply below_drew1) | exact HB.out)) hb); clear HO_3; clear HO445; clear HB; have HO_3 := n0_; have HO445 := n1_; have HB := n2_; clear n0_ n1_ n2_; (try clear hb); (try clear hb2); (try clear hk); (try clear hi)) | ((with_reducible refine gate_callee (f := 28) rfl ?_); refine goesL_ (some 69) rfl rfl Try.func28 (by kernel_rfl) rfl #[.slice Ao8 t435.length co8] rfl (by (try simp only [List.map_toArray, List.map_cons, List.map_nil]); first | done | rfl | (simp only [List.length_drop, List.length_take]; rfl)) ?_; (with_reducible refine (impl_WallMany.calls _ _ t435 t450 t451 t452 _ ?side1 ?side2 A18.out).mono ?_); (case side1 => repeat (first | exact (Kd.V_reads' HO_3.out).2.2 | (with_reducible refine Kd.C_alloc ?_ _) | (with_reducible refine Kd.C_drewN ?_ _) | (with_reducible refine Kd.C_drew ?_))); (case side2 => exact (Kd.V_reads' HO_3.out).2.1); rintro e w48 ⟨rfl, hb⟩; refine ⟨_, rfl, ?_⟩; have n0_ := Aside0.mk (Kd.V_below (by (with_reducible repeat (first | apply Kd.V_alloc | apply Kd.V_drewN | apply Kd.V_drew)); exact HO_3.out) hb); have n1_ := Aside0.mk (Kd.R_below (by (with_reducible repeat (first | apply Kd.R_alloc | apply Kd.R_drewN | apply Kd.R_drew)); exact HO445.out) hb); have n2_ := Aside0.mk (below_step (by repeat (first | (with_reducible first | exact HB.out | apply below_alloc | apply pw_below_drewN | apply below_drew1) | exact HB.out)) hb); clear HO_3; clear HO445; clear HB; have HO_3 := n0_; have HO445 := n1_; have HB := n2_; clear n0_ n1_ n2_; (try clear hb); (try clear hb2); (try clear hk); (try clear hi)))
       go_ret
       exact ⟨by first | rfl | (simp [errW_none, errW_some] <;> rfl) | (simp [*, errW_none, errW_some] <;> rfl), by repeat (first | (with_reducible first | exact HB.out | apply below_alloc | apply pw_below_drewN | apply below_drew1) | exact HB.out)⟩
     ·replace c19 := Bool.eq_false_iff.mpr c19
      subst c19
      have H1 : (some false) = some r := by rw [if_neg (show ¬ (false = true) by decide)] at H; exact H
      clear H
      have H := H1
      clear H1
      obtain rfl := Option.some.inj H
      go_wp2_with (first | ((with_reducible refine gate_callee (f := 48) rfl ?_); refine goesL_ (some 54) rfl rfl Try.func48 (by kernel_rfl) rfl #[.slice Ao8 t435.length co8] rfl (by (try simp only [List.map_toArray, List.map_cons, List.map_nil]); first | done | rfl | (simp only [List.length_drop, List.length_take]; rfl)) ?_; (with_reducible refine (impl_PlanTurn.calls _ _ t435 t442 false _ ?side1 ?side2 A15.out).mono ?_); (case side1 => repeat (first | exact (Kd.V_reads' HO_3.out).2.2 | (with_reducible refine Kd.C_alloc ?_ _) | (with_reducible refine Kd.C_drewN ?_ _) | (with_reducible refine Kd.C_drew ?_))); (case side2 => exact (Kd.V_reads' HO_3.out).2.1); rintro e w49 ⟨v444, rfl, ho0, hb⟩; refine ⟨_, rfl, ?_⟩; have n0_ := Aside0.mk (Kd.V_elder' (by (with_reducible repeat (first | apply Kd.V_alloc | apply Kd.V_drewN | apply Kd.V_drew)); exact HO_3.out) (Kd.R_base ho0) hb); have n1_ := Aside0.mk (Kd.R_lower ho0 (below_size (by repeat (first | (with_reducible first | exact HB.out | apply below_alloc | apply pw_below_drewN | apply below_drew1) | exact HB.out)))); have n2_ := Aside0.mk (below_step (by repeat (first | (with_reducible first | exact HB.out | apply below_alloc | apply pw_below_drewN | apply below_drew1) | exact HB.out)) hb); clear HO_3; clear HB; have HO_3 := n0_; have HO445 := n1_; have HB := n2_; clear n0_ n1_ n2_; (try clear hb); (try clear hb2); (try clear hk); (try clear hi); (try clear ho0); obtain ⟨Ao50, co50, eo50⟩ := Kd.R_slice HO445.out; subst eo50) | ((with_reducible refine gate_callee (f := 45) rfl ?_); refine goesL_ (some 59) rfl rfl Try.func45 (by kernel_rfl) rfl #[.slice Ao50 t442.length co50] rfl (by (try simp only [List.map_toArray, List.map_cons, List.map_nil]); first | done | rfl | (simp only [List.length_drop, List.length_take]; rfl)) ?_; (with_reducible refine (impl_CutMany.calls _ _ t442 t446 t447 _ ?side1 ?side2 A16.out).mono ?_); (case side1 => repeat (first | exact (Kd.R_reads' HO445.out).2.2 | (with_reducible refine Kd.C_alloc ?_ _) | (with_reducible refine Kd.C_drewN ?_ _) | (with_reducible refine Kd.C_drew ?_))); (case side2 => exact (Kd.R_reads' HO445.out).2.1); rintro e w51 ⟨rfl, hb⟩; refine ⟨_, rfl, ?_⟩; have n0_ := Aside0.mk (Kd.V_below (by (with_reducible repeat (first | apply Kd.V_alloc | apply Kd.V_drewN | apply Kd.V_drew)); exact HO_3.out) hb); have n1_ := Aside0.mk (Kd.R_below (by (with_reducible repeat (first | apply Kd.R_alloc | apply Kd.R_drewN | apply Kd.R_drew)); exact HO445.out) hb); have n2_ := Aside0.mk (below_step (by repeat (first | (with_reducible first | exact HB.out | apply below_alloc | apply pw_below_drewN | apply below_drew1) | exact HB.out)) hb); clear HO_3; clear HO445; clear HB; have HO_3 := n0_; have HO445 := n1_; have HB := n2_; clear n0_ n1_ n2_; (try clear hb); (try clear hb2); (try clear hk); (try clear hi)) | ((with_reducible refine gate_callee (f := 43) rfl ?_); refine goesL_ (some 64) rfl rfl Try.func43 (by kernel_rfl) rfl #[.slice Ao8 t435.length co8] rfl (by (try simp only [List.map_toArray, List.map_cons, List.map_nil]); first | done | rfl | (simp only [List.length_drop, List.length_take]; rfl)) ?_; (with_reducible refine (impl_CutFirst.calls _ _ t435 t448 t449 _ ?side1 ?side2 A17.out).mono ?_); (case side1 => repeat (first | exact (Kd.V_reads' HO_3.out).2.2 | (with_reducible refine Kd.C_alloc ?_ _) | (with_reducible refine Kd.C_drewN ?_ _) | (with_reducible refine Kd.C_drew ?_))); (case side2 => exact (Kd.V_reads' HO_3.out).2.1); rintro e w52 ⟨rfl, hb⟩; refine ⟨_, rfl, ?_⟩; have n0_ := Aside0.mk (Kd.V_below (by (with_reducible repeat (first | apply Kd.V_alloc | apply Kd.V_drewN | apply Kd.V_drew)); exact HO_3.out) hb); have n1_ := Aside0.mk (Kd.R_below (by (with_reducible repeat (first | apply Kd.R_alloc | apply Kd.R_drewN | apply Kd.R_drew)); exact HO445.out) hb); have n2_ := Aside0.mk (below_step (by repeat (first | (with_reducible first | exact HB.out | apply below_alloc | apply pw_below_drewN | apply below_drew1) | exact HB.out)) hb); clear HO_3; clear HO445; clear HB; have HO_3 := n0_; have HO445 := n1_; have HB := n2_; clear n0_ n1_ n2_; (try clear hb); (try clear hb2); (try clear hk); (try clear hi)) | ((with_reducible refine gate_callee (f := 28) rfl ?_); refine goesL_ (some 69) rfl rfl Try.func28 (by kernel_rfl) rfl #[.slice Ao8 t435.length co8] rfl (by (try simp only [List.map_toArray, List.map_cons, List.map_nil]); first | done | rfl | (simp only [List.length_drop, List.length_take]; rfl)) ?_; (with_reducible refine (impl_WallMany.calls _ _ t435 t450 t451 t452 _ ?side1 ?side2 A18.out).mono ?_); (case side1 => repeat (first | exact (Kd.V_reads' HO_3.out).2.2 | (with_reducible refine Kd.C_alloc ?_ _) | (with_reducible refine Kd.C_drewN ?_ _) | (with_reducible refine Kd.C_drew ?_))); (case side2 => exact (Kd.V_reads' HO_3.out).2.1); rintro e w53 ⟨rfl, hb⟩; refine ⟨_, rfl, ?_⟩; have n0_ := Aside0.mk (Kd.V_below (by (with_reducible repeat (first | apply Kd.V_alloc | apply Kd.V_drewN | apply Kd.V_drew)); exact HO_3.out) hb); have n1_ := Aside0.mk (Kd.R_below (by (with_reducible repeat (first | apply Kd.R_alloc | apply Kd.R_drewN | apply Kd.R_drew)); exact HO445.out) hb); have n2_ := Aside0.mk (below_step (by repeat (first | (with_reducible first | exact HB.out | apply below_alloc | apply pw_below_drewN | apply below_drew1) | exact HB.out)) hb); clear HO_3; clear HO445; clear HB; have HO_3 := n0_; have HO445 := n1_; have HB := n2_; clear n0_ n1_ n2_; (try clear hb); (try clear hb2); (try clear hk); (try clear hi)))
      go_ret
      exact ⟨by first | rfl | (simp [errW_none, errW_some] <;> rfl) | (simp [*, errW_none, errW_some] <;> rfl), by repeat (first | (with_reducible first | exact HB.out | apply below_alloc | apply pw_below_drewN | apply below_drew1) | exact HB.out)⟩
def laws_FnCutMany.Pure : Prop := ∀ (l0 : List Int), l0.length ≤ maxLen → l0.length * 1 ≤ 140737488351232 → (∀ x ∈ l0, (Lit.int .u8 x).wf = true) → ∃ k, laws_FnCutMany.f k l0 = some true
theorem laws_FnCutMany.walk (P : laws_FnCutMany.Pure) (a0 : Option Addr) (len0 cap0 : Nat) (z0 : List Int) (w : World) (w0 : (a0 = none ∧ len0 = 0 ∧ cap0 = 0 ∧ z0 = []) ∨ ∃ x, a0 = some x ∧ len0 ≤ cap0 ∧ cap0 ≤ maxLen ∧ z0.length = cap0 ∧ (∀ i, i < z0.length → w.cell? (x.add i) = some (.int .u8 (z0.getD i 0))) ∧ ∀ n ∈ z0, (Lit.int .u8 n).wf = true) (y0 : len0 * 1 ≤ 140737488351232) :
  Calls Try.prog 11 #[.slice a0 len0 cap0] w fun e w' => e = .returned (.bool true) ∧ Below w.heap.size w w' := by
 obtain ⟨l0, rfl, hr0, hm0, hw0, hc0⟩ := ReadsInt.ofRowC w0
 obtain ⟨k, h⟩ := P l0 hm0 y0 hw0
 refine (laws_FnCutMany.calls k _ _ l0 true w (Kd.C_of_reads (d := (0 : Int)) (h1 := fun _ => rfl) hr0) hc0 h).mono ?_
 rintro e w' ⟨rfl, hd⟩
 exact ⟨rfl, hd⟩
end Go.Proofs.Ytaepgogafkmooaa.CB
namespace Go.Proofs.Ytaepgogafkmooaa.Hd
open Go.RowKit Go.Proofs.YtaepgogafkmooaaW.PrintWords Go.Proofs.YtaepgogafkmooaaW.PrintLast Go.Proofs.YtaepgogafkmooaaW.PrintMore Go.Proofs.Ytaepgogafkmooaa.PB
set_option linter.unusedVariables false
set_option linter.unusedSimpArgs false
structure Lil (p : List ByteArray) : Prop where
 high : p.length ≤ 100
 row : ∀ s ∈ p, s.size ≤ 100
theorem Lil.small {p : List ByteArray} (h : Lil p) : smallP p := ⟨by have := h.high; omega, fun s hs => by have := h.row s hs; omega⟩
theorem Mid.lil {p : List ByteArray} {wi : Nat} (h : Mid p wi) : Lil p := ⟨h.high, fun s hs => by rw [h.row s hs]; exact h.wide⟩
theorem bt_range (s : ByteArray) (j : Nat) (hj : j < s.size) : 0 ≤ bt s (j : Int) ∧ bt s (j : Int) ≤ 255 := by
 obtain ⟨x, hx⟩ : ∃ x, (bytesOf s)[j]? = some x := ⟨_, List.getElem?_eq_getElem (by rw [bytesOf_length]; omega)⟩
 have hr := bytesOf_range s x (List.mem_of_getElem? hx)
 rw [← bt_get hx] at hr
 exact hr
theorem roomsA_l1 (p : List ByteArray) (h : Lil p) (i : Nat) (s : ByteArray) (hs : p[i]? = some s) (hnext : ∀ v, 0 ≤ v → v ≤ 255 → ∃ r, 0 ≤ r ∧ r ≤ 255 ∧ Evs (fun k => spec_l1Rooms.l0 k p v ((i + 1 : Nat) : Int)) r) :
  ∀ m j v, j + m = s.size → 0 ≤ v → v ≤ 255 → ∃ r, 0 ≤ r ∧ r ≤ 255 ∧ Evs (fun k => spec_l1Rooms.l1 k p v (i : Int) (j : Int)) r := by
 have h6 := h.high
 have w6 := h.row s (List.mem_of_getElem? hs)
 have hi := (List.getElem?_eq_some_iff.1 hs).1
 intro m
 induction m with
 | zero =>
  intro j v hj v0 v1
  obtain ⟨r, r0, r1, hr⟩ := hnext v v0 v1
  refine ⟨r, r0, r1, Evs.step (fun k => ?_) hr⟩
  conv => lhs; unfold spec_l1Rooms.l1
  rw [if_pos (by omega), if_pos (by omega), rdOf_at hs, if_neg (by omega), wrap_succ (by omega)]
 | succ m ih =>
  intro j v hj v0 v1
  have hb := bt_range s j (by omega)
  obtain ⟨r, r0, r1, hr⟩ := ih (j + 1) (max v (bt s (j : Int) - 97 + 1)) (by omega) (by omega) (by omega)
  refine ⟨r, r0, r1, Evs.step (fun k => ?_) hr⟩
  conv => lhs; unfold spec_l1Rooms.l1
  rw [if_pos (by omega), if_pos (by omega), rdOf_at hs, if_pos (by omega), if_pos (by omega), wrap64_small (x := bt s (j : Int)) (by omega) (by omega), wrap64_small (x := bt s (j : Int) - 97) (by omega) (by omega), wrap64_small (x := bt s (j : Int) - 97 + 1) (by omega) (by omega), wrap_succ (by omega), mx_max]
theorem roomsA_l0 (p : List ByteArray) (h : Lil p) : ∀ m i v, i + m = p.length → 0 ≤ v → v ≤ 255 → ∃ r, 0 ≤ r ∧ r ≤ 255 ∧ Evs (fun k => spec_l1Rooms.l0 k p v (i : Int)) r := by
 have h6 := h.high
 intro m
 induction m with
 | zero =>
  intro i v hi v0 v1
  refine ⟨v, v0, v1, Evs.step (h := fun _ => some v) (fun k => ?_) (Evs.const _)⟩
  conv => lhs; unfold spec_l1Rooms.l0
  rw [if_neg (by omega)]
 | succ m ih =>
  intro i v hi v0 v1
  obtain ⟨s, hs⟩ : ∃ s, p[i]? = some s := ⟨_, List.getElem?_eq_getElem (by omega)⟩
  obtain ⟨r, r0, r1, hr⟩ := roomsA_l1 p h i s hs (fun v v0 v1 => ih (i + 1) v (by omega) v0 v1) s.size 0 v (by omega) v0 v1
  refine ⟨r, r0, r1, Evs.step (fun k => ?_) hr⟩
  conv => lhs; unfold spec_l1Rooms.l0
  rw [if_pos (by omega)]
  rfl
theorem l1Rooms_any (p : List ByteArray) (h : Lil p) : ∃ r, 0 ≤ r ∧ r ≤ 255 ∧ Evs (fun k => spec_l1Rooms.f k p) r := roomsA_l0 p h p.length 0 0 (by omega) (by omega) (by omega)
end Go.Proofs.Ytaepgogafkmooaa.Hd
namespace Go.Proofs.Ytaepgogafkmooaa.Hd
open Go.RowKit Go.Proofs.YtaepgogafkmooaaW.PrintWords Go.Proofs.YtaepgogafkmooaaW.PrintLast Go.Proofs.YtaepgogafkmooaaW.PrintMore Go.Proofs.Ytaepgogafkmooaa.PB
set_option linter.unusedVariables false
set_option linter.unusedSimpArgs false
theorem bytesOf_putS (s : ByteArray) (l n : Nat) (c : Int) (h0 : 0 ≤ c) (h1 : c ≤ 255) : bytesOf (putS s l n c) = putN (bytesOf s) l n c := by
 unfold putS
 refine bytesOf_strOfNums _ fun x hx => ?_
 unfold putN at hx
 obtain ⟨i, hi, e⟩ := List.mem_iff_getElem.1 hx
 rw [List.getElem_mapIdx] at e
 subst e
 split
 ·exact ⟨h0, h1⟩
 ·exact bytesOf_range s _ (List.getElem_mem _)
def putB (t l h m : Nat) (r c : Nat) : Prop := (t ≤ r ∧ r < t + h) ∧ (l ≤ c ∧ c < l + m)
instance (t l h m r c : Nat) : Decidable (putB t l h m r c) := by unfold putB; exact inferInstance
theorem numsOf_put {p : List ByteArray} {wi : Nat} (hs : Small p wi) (t l h m : Nat) (x : Int) (h0 : 0 ≤ x) (h1 : x ≤ 255) : numsOf (putR p t h l m x) = gridOf p.length wi (fun r c => if putB t l h m r c then x else valAt (numsOf p) r c) := by
 apply List.ext_getElem?
 intro r
 by_cases hr : r < p.length
 ·rw [gridOf_get hr]
  unfold numsOf putR
  rw [List.getElem?_map, List.getElem?_mapIdx, List.getElem?_eq_getElem hr]
  simp only [Option.map_some]
  congr 1
  have hsz := hs.row _ (List.getElem_mem hr)
  have hrow : ∀ c, c < wi → (bytesOf p[r])[c]? = some (valAt (numsOf p) r c) := fun c hc => by
   obtain ⟨row, e1, e2⟩ := valAt_get hs.rect (by rw [numsOf_length]; exact hr) hc
   unfold numsOf at e1
   rw [List.getElem?_map, List.getElem?_eq_getElem hr] at e1
   have e1 := Option.some.inj e1
   rw [e1]
   exact e2
  apply List.ext_getElem?
  intro c
  by_cases hc : c < wi
  ·rw [List.getElem?_map, List.getElem?_range hc]
   simp only [Option.map_some]
   by_cases ht : t ≤ r ∧ r < t + h
   ·rw [if_pos ht, bytesOf_putS _ _ _ _ h0 h1]
    unfold putN
    rw [List.getElem?_mapIdx, hrow c hc]
    simp only [Option.map_some]
    congr 1
    by_cases hl : l ≤ c ∧ c < l + m
    ·rw [if_pos hl, if_pos ⟨ht, hl⟩]
    ·rw [if_neg hl, if_neg (fun z => hl z.2)]; rfl
   ·rw [if_neg ht, if_neg (fun z => ht z.1)]
    exact hrow c hc
  ·rw [List.getElem?_eq_none (by
    split
    ·rw [bytesOf_putS _ _ _ _ h0 h1, putN_length, bytesOf_length]; omega
    ·rw [bytesOf_length]; omega), List.getElem?_eq_none (by simp; omega)]
 ·rw [List.getElem?_eq_none (by simp [numsOf, putR]; omega), List.getElem?_eq_none (by rw [gridOf_length]; omega)]
theorem put_f {p : List ByteArray} {wi : Nat} (hs : Small p wi) (t l h m x : Int) (t0 : 0 ≤ t) (l0 : 0 ≤ l) (h0 : 0 ≤ h) (m0 : 0 ≤ m) (th : t + h ≤ p.length) (lm : l + m ≤ wi) (x0 : 0 ≤ x) (x1 : x ≤ 255) : spec_l1Put.f p t l h m x = some (putR p t.toNat h.toNat l.toNat m.toNat x) := by
 have hh := hs.high
 have hw := hs.wide
 have hall : (p.all fun s => decide (l + m ≤ s.size) && decide (s.size ≤ 1048576)) = true := by
  rw [List.all_eq_true]
  intro s hss
  rw [hs.row s hss, decide_eq_true lm, decide_eq_true (show wi ≤ 1048576 by omega)]
  rfl
 unfold spec_l1Put.f
 rw [if_pos]
 unfold putOk
 rw [hall, decide_eq_true t0, decide_eq_true l0, decide_eq_true h0, decide_eq_true m0, decide_eq_true x0, decide_eq_true x1, decide_eq_true (show p.length ≤ 1048576 by omega), decide_eq_true th, decide_eq_true (show l ≤ 1048576 by omega), decide_eq_true (show m ≤ 1048576 by omega)]
 rfl
theorem small_put {p : List ByteArray} {wi : Nat} (hs : Small p wi) (t h l m : Nat) (x : Int) : smallP (putR p t h l m x) := by
 have hh := hs.high
 have hw := hs.wide
 refine ⟨by rw [putR_length]; omega, fun s hss => ?_⟩
 unfold putR at hss
 obtain ⟨i, hi, e⟩ := List.mem_iff_getElem.1 hss
 rw [List.length_mapIdx] at hi
 rw [List.getElem_mapIdx] at e
 have hr := hs.row _ (List.getElem_mem hi)
 subst e
 split
 ·have hl := bytesOf_length p[i]
  show (List.map _ (putN (bytesOf p[i]) l m x)).toArray.size ≤ _
  simp [putN_length]
  omega
 ·rw [hr]; omega
theorem put_done {p : List ByteArray} {cs : List (List Int)} {rs : List Rc} (F : PlanFacts p cs rs) (t h l m : Nat) (x : Int) (x0 : 97 ≤ x) (x1 : x ≤ 122) (f : Int → Int) (hf : ∀ S, InjOn f S) (g : Nat → Nat → Int) (hg : ∀ r c, r < cs.length → c < wideOf cs → f (g r c) = if putB t l h m r c then x else 97 + valAt cs r c) : doneF (putR p t h l m x) = planF (gridOf cs.length (wideOf cs) g) := by
 have hsm := gridOk_small F.canon.grid
 rw [F.wide] at hsm
 have hn := numsOf_put hsm t l h m x (by omega) (by omega)
 have hv : numsOf (putR p t h l m x) = mapG f (gridOf cs.length (wideOf cs) g) := by
  rw [hn, mapG_gridOf, F.len]
  refine gridOf_congr fun r c hr hc => ?_
  rw [hg r c hr hc, F.nums, valAt_map F.ok.rect _ hr hc]
 have hok : (putR p t h l m x).all okText = true := by
  rw [List.all_eq_true]
  intro s hs
  refine okText_of fun y hy => ?_
  have hm : bytesOf s ∈ numsOf (putR p t h l m x) := List.mem_map.2 ⟨s, hs, rfl⟩
  rw [hn, F.len] at hm
  unfold gridOf at hm
  obtain ⟨i, hi, e⟩ := List.mem_map.1 hm
  rw [← e] at hy
  obtain ⟨j, hj, rfl⟩ := List.mem_map.1 hy
  have hi := List.mem_range.1 hi
  have hj := List.mem_range.1 hj
  have h1 := valAt_range F.ok i j hi hj
  have h2 := F.ok.many
  dsimp only
  rw [F.nums, valAt_map F.ok.rect _ hi hj]
  split <;> omega
 unfold doneF
 rw [if_pos hok, hv]
 exact plan_map (hf _)
end Go.Proofs.Ytaepgogafkmooaa.Hd
namespace Go.Proofs.Ytaepgogafkmooaa.Hd
open Go.RowKit Go.Proofs.YtaepgogafkmooaaW.PrintWords Go.Proofs.YtaepgogafkmooaaW.PrintLast Go.Proofs.YtaepgogafkmooaaW.PrintMore Go.Proofs.Ytaepgogafkmooaa.PB
set_option linter.unusedVariables false
set_option linter.unusedSimpArgs false
def isH (letter : ByteArray) : Bool := letter.toList == [104]
def isV (letter : ByteArray) : Bool := letter.toList == [118]
theorem isHV {letter : ByteArray} (h : isH letter = true) : isV letter = false := by
 unfold isH at h
 unfold isV
 rw [beq_iff_eq] at h
 rw [h]
 rfl
def behindB (b : Rc) (letter : ByteArray) (k : Int) (r c : Nat) : Bool := (isH letter && decide (b.f0 + k ≤ r)) || (isV letter && decide (b.f1 + k ≤ c))
def splitG (cs : List (List Int)) (rs : List Rc) (room : Int) (letter : ByteArray) (k : Int) (r c : Nat) : Int :=
 if valAt cs r c = room ∧ behindB (rs.getD room.toNat zeroR) letter k r c = true then rs.length else valAt cs r c
def splitF (p : List ByteArray) (room : Int) (letter : ByteArray) (k : Int) : List ByteArray × Bool := match floorF p with
 | none => ([], false)
 | some (cs, rs) =>
  if hasB rs room && (isH letter || isV letter) then
   if 1 ≤ k ∧ k < (if isH letter then (rs.getD room.toNat zeroR).f2 else (rs.getD room.toNat zeroR).f3) then planF (gridOf cs.length (wideOf cs) (splitG cs rs room letter k)) else ([], false)
  else ([], false)
end Go.Proofs.Ytaepgogafkmooaa.Hd
namespace Go.Proofs.Ytaepgogafkmooaa.Hd
open Go.RowKit Go.Proofs.YtaepgogafkmooaaW.PrintWords Go.Proofs.YtaepgogafkmooaaW.PrintLast Go.Proofs.YtaepgogafkmooaaW.PrintMore Go.Proofs.Ytaepgogafkmooaa.PB Go.Proofs.Ytaepgogafkmooaa.SM
set_option linter.unusedVariables false
set_option linter.unusedSimpArgs false
theorem isH_iff (t : ByteArray) : isH t = true ↔ t.toList = ([104] : List UInt8) := by unfold isH; rw [beq_iff_eq]
theorem isV_iff (t : ByteArray) : isV t = true ↔ t.toList = ([118] : List UInt8) := by unfold isV; rw [beq_iff_eq]
def newName (n : Nat) (x : Int) : Int := if x = n then 122 else if x = 25 then 97 + n else 97 + x
theorem newName_inj (n : Nat) (S : Int → Prop) : InjOn (newName n) S := by
 intro a b _ _ e
 unfold newName at e
 by_cases h1 : a = n <;> by_cases h2 : a = 25 <;> by_cases h3 : b = n <;> by_cases h4 : b = 25 <;> simp only [h1, h2, h3, h4, if_true, if_false] at e <;> omega
theorem split_j1_false (p : List ByteArray) (k a b c d : Int) : Evs (fun q => spec_PlanSplit.j1 q p k a b c d false) ([], false) := by
 refine Evs.step (h := fun _ => some ([], false)) (fun q => ?_) (Evs.const _)
 show spec_PlanSplit.j1 (q + 1) p k a b c d false = _
 simp only [spec_PlanSplit.j1, Bool.false_eq_true, if_false, l1None_f, Option.bind_some]
theorem split_j0_none (p : List ByteArray) (t : ByteArray) (hV : isV t = false) (k a b c d : Int) : Evs (fun q => spec_PlanSplit.j0 q p t k a b c d false) ([], false) := by
 have hv : ¬ t.toList = ([118] : List UInt8) := fun h => by rw [(isV_iff t).2 h] at hV; cases hV
 refine Evs.step (h := fun q => spec_PlanSplit.j1 q p k a b c d false) (fun q => ?_) (split_j1_false p k a b c d)
 show spec_PlanSplit.j0 (q + 1) p t k a b c d false = _
 simp only [spec_PlanSplit.j0, Bool.false_eq_true, if_false, if_neg hv]
theorem split_none {p : List ByteArray} (a : Int) (t : ByteArray) (k : Int) : Evs (fun q => if (false = true) then ((spec_l1Room.f q p a).bind fun bt205 => (if t.toList = ([104] : List UInt8) then ((spec_l6In.f k 1 (wrap64 (bt205.2.2.1 - 1))).bind fun t209 => (spec_PlanSplit.j0 q p t k bt205.1 bt205.2.1 bt205.2.2.1 bt205.2.2.2 t209)) else (spec_PlanSplit.j0 q p t k bt205.1 bt205.2.1 bt205.2.2.1 bt205.2.2.2 false))) else ((spec_l1None.f).bind fun bt201 => (some (bt201.1, bt201.2)))) ([], false) := by
 refine Evs.congr (h := fun _ => some ([], false)) (fun q => ?_) (Evs.const _)
 rw [if_neg (by simp), l1None_f]
 rfl
theorem split_val {p : List ByteArray} {cs : List (List Int)} {rs : List Rc} (F : PlanFacts p cs rs) (room : Int) (t : ByteArray) (k : Int) (T H L M : Nat) (hcell : ∀ r c, r < cs.length → c < wideOf cs → ((valAt cs r c = room ∧ behindB (rs.getD room.toNat zeroR) t k r c = true) ↔ putB T L H M r c)) :
  doneF (putR p T H L M 122) = planF (gridOf cs.length (wideOf cs) (splitG cs rs room t k)) := by
 have h9 := F.ok.many
 refine put_done F T H L M 122 (by omega) (by omega) (newName rs.length) (newName_inj rs.length) (splitG cs rs room t k) (fun r c hr hc => ?_)
 have hc2 := hcell r c hr hc
 have hv := valAt_range F.ok r c hr hc
 unfold splitG
 by_cases h : valAt cs r c = room ∧ behindB (rs.getD room.toNat zeroR) t k r c = true
 ·rw [if_pos h, if_pos (hc2.1 h)]
  unfold newName
  rw [if_pos rfl]
 ·rw [if_neg h, if_neg (fun z => h (hc2.2 z))]
  unfold newName
  rw [if_neg (by omega), if_neg (by omega)]
theorem PlanSplit_ev (p : List ByteArray) (a : Int) (t : ByteArray) (k : Int) (hp : smallP p) : Evs (fun q => spec_PlanSplit.f q p a t k) (splitF p a t k) := by
 have ha := l1Given_ev p a hp
 cases hF : floorF p with
 | none =>
  have e1 : givenB p a = false := by unfold givenB; rw [hF]
  have e2 : splitF p a t k = ([], false) := by unfold splitF; rw [hF]
  rw [e1] at ha
  rw [e2]
  exact Evs.bind ha (split_none a t k)
 | some z =>
  obtain ⟨cs, rs⟩ := z
  have e1 : givenB p a = hasB rs a := by unfold givenB; rw [hF]
  have e2 : splitF p a t k = if hasB rs a && (isH t || isV t) then
   if 1 ≤ k ∧ k < (if isH t then (rs.getD a.toNat zeroR).f2 else (rs.getD a.toNat zeroR).f3) then planF (gridOf cs.length (wideOf cs) (splitG cs rs a t k)) else ([], false)
   else ([], false) := by unfold splitF; rw [hF]
  rw [e1] at ha
  rw [e2]
  cases hA : hasB rs a with
  | false =>
   rw [hA] at ha
   exact Evs.bind ha (split_none a t k)
  | true =>
   rw [hA] at ha
   have F := floor_facts hF
   have hsm := gridOk_small F.canon.grid
   have hL := F.ok.many
   have o1 := F.ok.h1
   have o6 := F.ok.h6
   have q1 := F.len
   unfold hasB at hA
   rw [Bool.and_eq_true, decide_eq_true_eq, decide_eq_true_eq] at hA
   obtain ⟨i, rfl⟩ := Int.eq_ofNat_of_zero_le hA.1
   have hi : i < rs.length := by omega
   have hR := l1Room_ev p _ hsm (by omega) (i : Int)
   obtain ⟨c1, c2, c3⟩ := F.canon.room i (by rw [← F.rooms]; exact hi)
   rw [← F.rooms] at c1 c3
   rw [c1] at hR
   have hcell := room_cells hF i hi
   obtain ⟨b1, b2, b3, b4, b5, b6⟩ := c3
   have w6 := hsm.wide
   rw [F.wide] at b6 w6
   rw [F.wide] at hsm
   rw [Int.toNat_natCast]
   have hvalue := fun T H L M h => split_val F (i : Int) t k T H L M h
   rw [Int.toNat_natCast] at hvalue
   unfold behindB at hvalue
   generalize rs.getD i zeroR = bx at *
   refine Evs.bind ha ?_
   refine Evs.congr (h := fun q => (spec_l1Room.f q p (i : Int)).bind fun bt205 => (if t.toList = ([104] : List UInt8) then ((spec_l6In.f k 1 (wrap64 (bt205.2.2.1 - 1))).bind fun t209 => (spec_PlanSplit.j0 q p t k bt205.1 bt205.2.1 bt205.2.2.1 bt205.2.2.2 t209)) else (spec_PlanSplit.j0 q p t k bt205.1 bt205.2.1 bt205.2.2.1 bt205.2.2.2 false))) (fun q => by rw [if_pos rfl]) (Evs.bind hR ?_)
   dsimp only
   cases hH : isH t with
   | true =>
    have hV := isHV hH
    rw [hV] at hvalue
    refine Evs.pos ((isH_iff t).1 hH) ?_
    rw [wrap64_small (x := bx.f2 - 1) (by omega) (by omega)]
    refine Evs.bindS (l6In_f k 1 (bx.f2 - 1)) ?_
    simp only [Bool.true_or, Bool.and_self, if_true]
    by_cases hk : 1 ≤ k ∧ k < bx.f2
    ·rw [if_pos hk, show (decide (1 ≤ k) && decide (k ≤ bx.f2 - 1)) = true by rw [Bool.and_eq_true, decide_eq_true_eq, decide_eq_true_eq]; omega]
     have hput := put_f hsm (bx.f0 + k) bx.f1 (bx.f2 - k) bx.f3 122 (by omega) b2 (by omega) (by omega) (by omega) b6 (by omega) (by omega)
     have hd := hvalue (bx.f0 + k).toNat (bx.f2 - k).toNat bx.f1.toNat bx.f3.toNat (fun r c hr hc => by
      have hc2 := hcell r c hr hc
      rw [hc2, hH]
      simp only [Bool.true_and, Bool.false_and, Bool.or_false, decide_eq_true_eq]
      unfold putB
      omega)
     have hdn := l1Done_ev _ (small_put hsm (bx.f0 + k).toNat (bx.f2 - k).toNat bx.f1.toNat bx.f3.toNat 122)
     rw [hd] at hdn
     refine Evs.step (h := fun q => (spec_l1Put.f p (wrap64 (bx.f0 + k)) bx.f1 (wrap64 (bx.f2 - k)) bx.f3 122).bind fun t210 => ((spec_l1Done.f q t210).bind fun bt213 => (some (bt213.1, bt213.2)))) (fun q => ?_) ?_
     ·show spec_PlanSplit.j0 (q + 1) p t k bx.f0 bx.f1 bx.f2 bx.f3 true = _
      simp only [spec_PlanSplit.j0, if_true]
     ·rw [wrap64_small (x := bx.f0 + k) (by omega) (by omega), wrap64_small (x := bx.f2 - k) (by omega) (by omega), hput]
      simp only [Option.bind_some]
      exact Evs.bind hdn (Evs.const _)
    ·rw [if_neg hk, show (decide (1 ≤ k) && decide (k ≤ bx.f2 - 1)) = false by rw [← Bool.not_eq_true, Bool.and_eq_true, decide_eq_true_eq, decide_eq_true_eq]; omega]
     exact split_j0_none p t hV k _ _ _ _
   | false =>
    have hnh : ¬ t.toList = ([104] : List UInt8) := fun h => by rw [(isH_iff t).2 h] at hH; cases hH
    refine Evs.neg hnh ?_
    cases hV : isV t with
    | false =>
     simp only [Bool.false_or, Bool.and_false, Bool.false_eq_true, if_false]
     exact split_j0_none p t hV k _ _ _ _
    | true =>
     rw [hV] at hvalue
     simp only [Bool.false_or, Bool.and_self, if_true, Bool.false_eq_true, if_false]
     refine Evs.step (h := fun q => (spec_l6In.f k 1 (wrap64 (bx.f3 - 1))).bind fun t217 => (spec_PlanSplit.j1 q p k bx.f0 bx.f1 bx.f2 bx.f3 t217)) (fun q => ?_) ?_
     ·show spec_PlanSplit.j0 (q + 1) p t k bx.f0 bx.f1 bx.f2 bx.f3 false = _
      simp only [spec_PlanSplit.j0, Bool.false_eq_true, if_false, if_pos ((isV_iff t).1 hV)]
     rw [wrap64_small (x := bx.f3 - 1) (by omega) (by omega)]
     refine Evs.bindS (l6In_f k 1 (bx.f3 - 1)) ?_
     by_cases hk : 1 ≤ k ∧ k < bx.f3
     ·rw [if_pos hk, show (decide (1 ≤ k) && decide (k ≤ bx.f3 - 1)) = true by rw [Bool.and_eq_true, decide_eq_true_eq, decide_eq_true_eq]; omega]
      have hput := put_f hsm bx.f0 (bx.f1 + k) bx.f2 (bx.f3 - k) 122 b1 (by omega) (by omega) (by omega) b5 (by omega) (by omega) (by omega)
      have hd := hvalue bx.f0.toNat bx.f2.toNat (bx.f1 + k).toNat (bx.f3 - k).toNat (fun r c hr hc => by
       have hc2 := hcell r c hr hc
       rw [hc2, hH]
       simp only [Bool.true_and, Bool.false_and, Bool.false_or, decide_eq_true_eq]
       unfold putB
       omega)
      have hdn := l1Done_ev _ (small_put hsm bx.f0.toNat bx.f2.toNat (bx.f1 + k).toNat (bx.f3 - k).toNat 122)
      rw [hd] at hdn
      refine Evs.step (h := fun q => (spec_l1Put.f p bx.f0 (wrap64 (bx.f1 + k)) bx.f2 (wrap64 (bx.f3 - k)) 122).bind fun t218 => ((spec_l1Done.f q t218).bind fun bt221 => (some (bt221.1, bt221.2)))) (fun q => ?_) ?_
      ·show spec_PlanSplit.j1 (q + 1) p k bx.f0 bx.f1 bx.f2 bx.f3 true = _
       simp only [spec_PlanSplit.j1, if_true]
      ·rw [wrap64_small (x := bx.f1 + k) (by omega) (by omega), wrap64_small (x := bx.f3 - k) (by omega) (by omega), hput]
       simp only [Option.bind_some]
       exact Evs.bind hdn (Evs.const _)
     ·rw [if_neg hk, show (decide (1 ≤ k) && decide (k ≤ bx.f3 - 1)) = false by rw [← Bool.not_eq_true, Bool.and_eq_true, decide_eq_true_eq, decide_eq_true_eq]; omega]
      exact split_j1_false p k _ _ _ _
end Go.Proofs.Ytaepgogafkmooaa.Hd
namespace Go.Proofs.Ytaepgogafkmooaa.Hd
open Go.RowKit Go.Proofs.YtaepgogafkmooaaW.PrintWords Go.Proofs.YtaepgogafkmooaaW.PrintLast Go.Proofs.YtaepgogafkmooaaW.PrintMore Go.Proofs.Ytaepgogafkmooaa.PB Go.Proofs.Ytaepgogafkmooaa.SM
set_option linter.unusedVariables false
set_option linter.unusedSimpArgs false
theorem xor_nonneg {a b : Int} (ha : 0 ≤ a) (hb : 0 ≤ b) (ha' : a < 1099511627776) (hb' : b < 1099511627776) : 0 ≤ Go.bits .xor .i64 a b := by
 obtain ⟨x, rfl⟩ := Int.eq_ofNat_of_zero_le ha
 obtain ⟨y, rfl⟩ := Int.eq_ofNat_of_zero_le hb
 have hx : x < 2 ^ 40 := by omega
 have hy : y < 2 ^ 40 := by omega
 have h := Nat.xor_lt_two_pow hx hy
 simp only [Go.bits, BitVec.ofInt_natCast, BitVec.toNat_xor, BitVec.toNat_ofNat]
 rw [Nat.mod_eq_of_lt (show x < 2 ^ IntKind.i64.bits by show x < 2 ^ 64; omega), Nat.mod_eq_of_lt (show y < 2 ^ IntKind.i64.bits by show y < 2 ^ 64; omega), IntKind.wrap_i64]
 omega
theorem tmod_in {x n : Int} (hx : 0 ≤ x) (hn : 1 ≤ n) : 0 ≤ Int.tmod x n ∧ Int.tmod x n < n := ⟨Int.tmod_nonneg _ hx, Int.tmod_lt_of_pos _ (by omega)⟩
structure RdB (b : List Int) : Prop where
 len : b.length ≤ 2000
 val : ∀ x ∈ b, 0 ≤ x ∧ x ≤ 255
theorem RdB.byte {b : List Int} (h : RdB b) (i : Int) : 0 ≤ rd b i ∧ rd b i ≤ 255 := by
 unfold rd
 rw [List.getD_eq_getElem?_getD]
 cases e : b[i.toNat]? with
 | none => simp
 | some x => exact h.val x (List.mem_of_getElem? e)
theorem pick_j0_true (b : List Int) (q n : Int) : Evs (fun k => spec_l6Rd_pick.j0 k n true b q) (0, q) := by
 refine Evs.step (h := fun _ => some (0, q)) (fun k => ?_) (Evs.const _)
 show spec_l6Rd_pick.j0 (k + 1) n true b q = _
 simp only [spec_l6Rd_pick.j0, if_true]
theorem pick_ev (b : List Int) (h : RdB b) (q : Nat) (hq : q ≤ 1000000) (n : Int) : ∃ v, Evs (fun k => spec_l6Rd_pick.f k b (q : Int) n) (v, ((q + 1 : Nat) : Int)) ∧ 0 ≤ v ∧ (1 ≤ n → v < n) ∧ (n < 1 → v = 0) := by
 have hw : wrap64 ((q : Int) + 1) = ((q + 1 : Nat) : Int) := by rw [wrap64_small (by omega) (by omega)]; omega
 by_cases hn : n < 1
 ·refine ⟨0, ?_, Int.le_refl _, fun h => by omega, fun _ => rfl⟩
  refine Evs.congr (fun k => ?_) (pick_j0_true b ((q + 1 : Nat) : Int) n)
  unfold spec_l6Rd_pick.f
  rw [if_pos hn, hw]
 ·by_cases hl : b.length = 0
  ·refine ⟨0, ?_, Int.le_refl _, fun h => by omega, fun h => absurd h hn⟩
   refine Evs.congr (fun k => ?_) (pick_j0_true b ((q + 1 : Nat) : Int) n)
   unfold spec_l6Rd_pick.f
   rw [if_neg hn, hw, show ((b.length : Int) == 0) = true by rw [beq_iff_eq]; omega]
  ·have hlen := h.len
   have e1 : wrap64 (((q + 1 : Nat) : Int) - 1) = (q : Int) := by rw [wrap64_small (by omega) (by omega)]; omega
   have main : ∃ v, (∀ k, spec_l6Rd_pick.j0 (k + 1) n false b ((q + 1 : Nat) : Int) = some (v, ((q + 1 : Nat) : Int))) ∧ 0 ≤ v ∧ v < n := by
    by_cases hql : (q : Int) < (b.length : Int)
    ·have hr := h.byte (q : Int)
     obtain ⟨t0, t1⟩ := tmod_in (x := rd b (q : Int)) (n := n) hr.1 (by omega)
     refine ⟨Int.tmod (rd b (q : Int)) n, fun k => ?_, t0, t1⟩
     simp only [spec_l6Rd_pick.j0, Bool.false_eq_true, if_false]
     rw [e1, if_pos hql, if_pos (by omega), if_neg (by omega), wrap64_small (x := rd b (q : Int)) (by omega) (by omega)]
    ·have i1 := tmod_in (x := (q : Int)) (n := (b.length : Int)) (by omega) (by omega)
     have e2 : wrap64 (wrap64 ((q : Int) * 7) + 3) = (q : Int) * 7 + 3 := by rw [wrap64_small (x := (q : Int) * 7) (by omega) (by omega), wrap64_small (by omega) (by omega)]
     have i2 := tmod_in (x := (q : Int) * 7 + 3) (n := (b.length : Int)) (by omega) (by omega)
     have r1 := h.byte (Int.tmod (q : Int) (b.length : Int))
     have r2 := h.byte (Int.tmod ((q : Int) * 7 + 3) (b.length : Int))
     have d1 : 0 ≤ Int.tdiv (q : Int) (b.length : Int) ∧ Int.tdiv (q : Int) (b.length : Int) ≤ 1000000 := by
      rw [Int.tdiv_eq_ediv_of_nonneg (by omega)]
      refine ⟨Int.ediv_nonneg (by omega) (by omega), Int.le_trans (Int.ediv_le_self _ (by omega)) (by omega)⟩
     have key : ∃ v, (∀ k, spec_l6Rd_pick.j0 (k + 1) n false b ((q + 1 : Nat) : Int) = some (v, ((q + 1 : Nat) : Int))) ∧ 0 ≤ v ∧ v < n := by
      have hform : ∀ k, spec_l6Rd_pick.j0 (k + 1) n false b ((q + 1 : Nat) : Int) = some (Int.tmod (Go.bits .xor .i64 (rd b (Int.tmod (q : Int) (b.length : Int)) * 131 + rd b (Int.tmod ((q : Int) * 7 + 3) (b.length : Int)) * 1117 + (q : Int) * 29 + Int.tdiv (q : Int) (b.length : Int) * 53) (wrap64 (Int.tdiv (rd b (Int.tmod (q : Int) (b.length : Int)) * 131 + rd b (Int.tmod ((q : Int) * 7 + 3) (b.length : Int)) * 1117 + (q : Int) * 29 + Int.tdiv (q : Int) (b.length : Int) * 53) 64))) n, ((q + 1 : Nat) : Int)) := fun k => by
       simp only [spec_l6Rd_pick.j0, Bool.false_eq_true, if_false]
       rw [e1, if_neg hql, if_neg (by omega), if_pos i1.1, if_pos i1.2, e2, if_pos i2.1, if_pos i2.2, if_neg (by omega)]
       generalize rd b (Int.tmod (q : Int) (b.length : Int)) = a at *
       generalize rd b (Int.tmod ((q : Int) * 7 + 3) (b.length : Int)) = c at *
       generalize Int.tdiv (q : Int) (b.length : Int) = d at *
       rw [wrap64_small (x := a) (by omega) (by omega), wrap64_small (x := a * 131) (by omega) (by omega), wrap64_small (x := c) (by omega) (by omega), wrap64_small (x := c * 1117) (by omega) (by omega), wrap64_small (x := a * 131 + c * 1117) (by omega) (by omega), wrap64_small (x := (q : Int) * 29) (by omega) (by omega), wrap64_small (x := a * 131 + c * 1117 + (q : Int) * 29) (by omega) (by omega), wrap64_small (x := d) (by omega) (by omega), wrap64_small (x := d * 53) (by omega) (by omega), wrap64_small (x := a * 131 + c * 1117 + (q : Int) * 29 + d * 53) (by omega) (by omega)]
      have hX : 0 ≤ rd b (Int.tmod (q : Int) (b.length : Int)) * 131 + rd b (Int.tmod ((q : Int) * 7 + 3) (b.length : Int)) * 1117 + (q : Int) * 29 + Int.tdiv (q : Int) (b.length : Int) * 53 ∧ rd b (Int.tmod (q : Int) (b.length : Int)) * 131 + rd b (Int.tmod ((q : Int) * 7 + 3) (b.length : Int)) * 1117 + (q : Int) * 29 + Int.tdiv (q : Int) (b.length : Int) * 53 < 1099511627776 := by omega
      generalize rd b (Int.tmod (q : Int) (b.length : Int)) * 131 + rd b (Int.tmod ((q : Int) * 7 + 3) (b.length : Int)) * 1117 + (q : Int) * 29 + Int.tdiv (q : Int) (b.length : Int) * 53 = X at *
      have hd : 0 ≤ Int.tdiv X 64 ∧ Int.tdiv X 64 ≤ X := by
       rw [Int.tdiv_eq_ediv_of_nonneg hX.1]
       exact ⟨Int.ediv_nonneg hX.1 (by omega), Int.ediv_le_self _ hX.1⟩
      rw [wrap64_small (x := Int.tdiv X 64) (by omega) (by omega)] at hform
      obtain ⟨t0, t1⟩ := tmod_in (n := n) (xor_nonneg hX.1 hd.1 hX.2 (by omega)) (by omega)
      exact ⟨_, hform, t0, t1⟩
     exact key
   obtain ⟨v, hv, v0, v1⟩ := main
   refine ⟨v, ?_, v0, fun _ => v1, fun h => absurd h hn⟩
   refine Evs.congr (h := fun k => spec_l6Rd_pick.j0 k n false b ((q + 1 : Nat) : Int)) (fun k => ?_) (Evs.step (h := fun _ => some (v, ((q + 1 : Nat) : Int))) hv (Evs.const _))
   unfold spec_l6Rd_pick.f
   rw [if_neg hn, hw, show ((b.length : Int) == 0) = false by rw [beq_eq_false_iff_ne]; omega]
theorem of_ev (b : List Int) (h : RdB b) (q : Nat) (hq : q ≤ 1000000) (L : List ByteArray) (hL : 1 ≤ L.length) : ∃ s, Evs (fun k => spec_l6Rd_of.f k b (q : Int) L) (s, ((q + 1 : Nat) : Int)) ∧ s ∈ L := by
 obtain ⟨v, hv, v0, v1, -⟩ := pick_ev b h q hq (L.length : Int)
 have hv1 := v1 (by omega)
 obtain ⟨i, rfl⟩ := Int.eq_ofNat_of_zero_le v0
 refine ⟨rdOf ByteArray.empty L (i : Int), Evs.bind hv (Evs.pos (by omega) (Evs.pos hv1 (Evs.const _))), ?_⟩
 rw [rdOf_get L i (by omega)]
 exact List.getElem_mem _
theorem open_ev (l : List Int) (hv : ∀ x ∈ l, 0 ≤ x ∧ x ≤ 255) : ∃ b, spec_l6Open.f l = some (b, 0) ∧ RdB b := by
 unfold spec_l6Open.f
 by_cases h : (l.length : Int) > 2000
 ·rw [if_pos h, if_pos (by omega)]
  exact ⟨_, rfl, by simp; omega, fun x hx => hv x (List.mem_of_mem_take hx)⟩
 ·rw [if_neg h]
  exact ⟨_, rfl, by omega, hv⟩
theorem empty_l1 (n m : Nat) (hm : m ≤ 100) (i : Nat) (hi : i ≤ 100) (x5 : List ByteArray) (h5 : x5.length ≤ 100) (r : List ByteArray) (hnext : Evs (fun k => spec_l91Empty.l0 k (n : Int) (m : Int) (x5 ++ [strOfNums (List.replicate m 97)]) ((i + 1 : Nat) : Int)) r) :
  ∀ d j, j + d = m → Evs (fun k => spec_l91Empty.l1 k (n : Int) (m : Int) x5 (i : Int) (List.replicate j 97) (j : Int)) r := by
 intro d
 induction d with
 | zero =>
  intro j hj
  obtain rfl : j = m := by omega
  refine Evs.step (fun k => ?_) hnext
  conv => lhs; unfold spec_l91Empty.l1
  rw [if_neg (by omega), if_pos (by omega), wrap_succ (by omega)]
 | succ d ih =>
  intro j hj
  have hnx := ih (j + 1) (by omega)
  rw [List.replicate_succ'] at hnx
  refine Evs.step (fun k => ?_) hnx
  conv => lhs; unfold spec_l91Empty.l1
  rw [if_pos (by omega), if_pos (by simp; omega), wrap_succ (by omega)]
theorem empty_l0 (n m : Nat) (hn : n ≤ 100) (hm : m ≤ 100) : ∀ d i, i + d = n → Evs (fun k => spec_l91Empty.l0 k (n : Int) (m : Int) (List.replicate i (strOfNums (List.replicate m 97))) (i : Int)) (List.replicate n (strOfNums (List.replicate m 97))) := by
 intro d
 induction d with
 | zero =>
  intro i hi
  obtain rfl : i = n := by omega
  refine Evs.step (h := fun _ => some (List.replicate i (strOfNums (List.replicate m 97)))) (fun k => ?_) (Evs.const _)
  conv => lhs; unfold spec_l91Empty.l0
  rw [if_neg (by omega)]
 | succ d ih =>
  intro i hi
  have hnx := ih (i + 1) (by omega)
  rw [List.replicate_succ'] at hnx
  have := empty_l1 n m hm i (by omega) (List.replicate i (strOfNums (List.replicate m 97))) (by simp; omega) _ hnx m 0 (by omega)
  refine Evs.step (fun k => ?_) this
  conv => lhs; unfold spec_l91Empty.l0
  rw [if_pos (by omega)]
  rfl
theorem Empty_ev (n m : Nat) (hn : n ≤ 100) (hm : m ≤ 100) : ∃ p, Evs (fun k => spec_l91Empty.f k (n : Int) (m : Int)) p ∧ Mid p m ∧ p.length = n := by
 refine ⟨_, empty_l0 n m hn hm n 0 (by omega), ⟨by simp; omega, hm, fun s hs => ?_⟩, by simp⟩
 rw [List.eq_of_mem_replicate hs]
 show (List.map _ (List.replicate m (97 : Int))).toArray.size = m
 simp
theorem rowText_size (row : List Int) : (rowText row).size = row.length := by
 show (List.map letterOf row).toArray.size = _
 simp
theorem planF_mid {h w : Nat} {g : Nat → Nat → Int} {p : List ByteArray} (h1 : 1 ≤ h) (e : planF (gridOf h w g) = (p, true)) : Mid p w ∧ p.length = h := by
 rcases planF_cases (gridOf h w g) with ⟨hO, hp⟩ | ⟨_, hp⟩
 ·rw [hp] at e
  injection e with e1 _
  subst e1
  obtain ⟨s1, s2, s3, s4, s5⟩ := (shapeOk_iff _).1 hO.shape
  rw [gridOf_length] at s1 s2
  have hw : wideOf (gridOf h w g) = w := by
   have := gridOf_get (hi := h) (wi := w) (g := g) (r := 0) (by omega)
   unfold wideOf
   rw [List.getD_eq_getElem?_getD, this]
   simp
  rw [hw] at s3 s4
  have hl : (textOf (canon (gridOf h w g))).length = h := by rw [text_length, gridOf_length]
  refine ⟨⟨by omega, by omega, fun s hs => ?_⟩, hl⟩
  obtain ⟨r, hr, rfl⟩ := List.mem_map.1 hs
  rw [rowText_size]
  unfold canon canonL at hr
  obtain ⟨r0, hr0, rfl⟩ := List.mem_map.1 hr
  rw [List.length_map]
  exact gridOf_row r0 hr0
 ·rw [hp] at e
  injection e with _ e2
  cases e2
theorem split_mid {p : List ByteArray} {m : Nat} (h : Mid p m) (h1 : 1 ≤ p.length) {a k : Int} {t : ByteArray} {r : List ByteArray} (e : splitF p a t k = (r, true)) : Mid r m ∧ r.length = p.length := by
 unfold splitF at e
 cases hF : floorF p with
 | none => rw [hF] at e; injection e with _ e; cases e
 | some z =>
  obtain ⟨cs, rs⟩ := z
  rw [hF] at e
  have F := floor_facts hF
  dsimp only at e
  split at e
  ·by_cases hc : 1 ≤ k ∧ k < (if isH t = true then (rs.getD a.toNat zeroR).f2 else (rs.getD a.toNat zeroR).f3)
   ·rw [if_pos hc] at e
    have hw : wideOf cs = m := by
     rw [← F.wide, wideOf_numsOf]
     refine h.row _ ?_
     rw [List.getD_eq_getElem?_getD, List.getElem?_eq_getElem (by omega)]
     exact List.getElem_mem _
    obtain ⟨q1, q2⟩ := planF_mid F.ok.h1 e
    rw [hw] at q1
    exact ⟨q1, by rw [q2, F.len]⟩
   ·rw [if_neg hc] at e
    injection e with _ e
    cases e
  ·injection e with _ e
   cases e
theorem cut_l0 (b : List Int) (hb : RdB b) (many m n : Nat) (hmany : many ≤ 1000) (hn : 1 ≤ n) : ∀ d t (p : List ByteArray) (q : Nat), t + d = many → Mid p m → p.length = n → q + 3 * d ≤ 100000 → ∃ p' q', Evs (fun k => spec_l91Cut.l0 k p (many : Int) (t : Int) b (q : Int)) (p', ((q' : Nat) : Int)) ∧ Mid p' m ∧ p'.length = n ∧ q' ≤ q + 3 * d := by
 intro d
 induction d with
 | zero =>
  intro t p q ht hp hl hq
  refine ⟨p, q, Evs.step (h := fun _ => some (p, (q : Int))) (fun k => ?_) (Evs.const _), hp, hl, by omega⟩
  conv => lhs; unfold spec_l91Cut.l0
  rw [if_neg (by omega)]
 | succ d ih =>
  intro t p q ht hp hl hq
  obtain ⟨rm, _, _, hrm⟩ := l1Rooms_any p hp.lil
  obtain ⟨v1, hv1, -, -, -⟩ := pick_ev b hb q (by omega) rm
  obtain ⟨s, hs, -⟩ := of_ev b hb (q + 1) (by omega) [(⟨#[104]⟩ : ByteArray), (⟨#[118]⟩ : ByteArray)] (by simp)
  obtain ⟨v2, hv2, -, -, -⟩ := pick_ev b hb (q + 1 + 1) (by omega) 3
  have hsp := PlanSplit_ev p v1 s (wrap64 (1 + v2)) hp.lil.small
  rcases hr : splitF p v1 s (wrap64 (1 + v2)) with ⟨r, ok⟩
  rw [hr] at hsp
  cases ok with
  | true =>
   obtain ⟨m1, m2⟩ := split_mid hp (by omega) hr
   obtain ⟨p', q', hE, h1, h2, h3⟩ := ih (t + 1) r (q + 1 + 1 + 1) (by omega) m1 (by omega) (by omega)
   refine ⟨p', q', Evs.step (h := fun k => ((spec_l1Rooms.f k p).bind fun t221 => ((spec_l6Rd_pick.f k b (q : Int) t221).bind fun bt222 => ((spec_l6Rd_of.f k b bt222.2 (([(⟨#[104]⟩ : ByteArray), (⟨#[118]⟩ : ByteArray)] : List ByteArray))).bind fun bt227 => ((spec_l6Rd_pick.f k b bt227.2 3).bind fun bt229 => ((spec_PlanSplit.f k p bt222.1 bt227.1 (wrap64 (1 + bt229.1))).bind fun bt231 => (if bt231.2 = true then (spec_l91Cut.l0 k bt231.1 (many : Int) (wrap64 ((t : Int) + 1)) b bt229.2) else (spec_l91Cut.l0 k p (many : Int) (wrap64 ((t : Int) + 1)) b bt229.2)))))))) (fun k => ?_) (Evs.bind hrm (Evs.bind hv1 (Evs.bind hs (Evs.bind hv2 (Evs.bind hsp (Evs.pos rfl ?_)))))), h1, h2, by omega⟩
   ·conv => lhs; unfold spec_l91Cut.l0
    rw [if_pos (by omega)]
   ·rw [wrap_succ (by omega)]
    exact hE
  | false =>
   obtain ⟨p', q', hE, h1, h2, h3⟩ := ih (t + 1) p (q + 1 + 1 + 1) (by omega) hp hl (by omega)
   refine ⟨p', q', Evs.step (h := fun k => ((spec_l1Rooms.f k p).bind fun t221 => ((spec_l6Rd_pick.f k b (q : Int) t221).bind fun bt222 => ((spec_l6Rd_of.f k b bt222.2 (([(⟨#[104]⟩ : ByteArray), (⟨#[118]⟩ : ByteArray)] : List ByteArray))).bind fun bt227 => ((spec_l6Rd_pick.f k b bt227.2 3).bind fun bt229 => ((spec_PlanSplit.f k p bt222.1 bt227.1 (wrap64 (1 + bt229.1))).bind fun bt231 => (if bt231.2 = true then (spec_l91Cut.l0 k bt231.1 (many : Int) (wrap64 ((t : Int) + 1)) b bt229.2) else (spec_l91Cut.l0 k p (many : Int) (wrap64 ((t : Int) + 1)) b bt229.2)))))))) (fun k => ?_) (Evs.bind hrm (Evs.bind hv1 (Evs.bind hs (Evs.bind hv2 (Evs.bind hsp (Evs.neg (by simp) ?_)))))), h1, h2, by omega⟩
   ·conv => lhs; unfold spec_l91Cut.l0
    rw [if_pos (by omega)]
   ·rw [wrap_succ (by omega)]
    exact hE
theorem Cut_ev (b : List Int) (hb : RdB b) (q : Nat) (hq : q ≤ 10000) (p : List ByteArray) (m : Nat) (hp : Mid p m) (h1 : 1 ≤ p.length) (many : Int) (h0 : 0 ≤ many) (hm : many ≤ 100) : ∃ p' q', Evs (fun k => spec_l91Cut.f k b (q : Int) p many) (p', ((q' : Nat) : Int)) ∧ Mid p' m ∧ p'.length = p.length ∧ q' ≤ q + 300 := by
 obtain ⟨n, rfl⟩ := Int.eq_ofNat_of_zero_le h0
 obtain ⟨p', q', hE, h1, h2, h3⟩ := cut_l0 b hb n m p.length (by omega) h1 n 0 p q (by omega) hp rfl (by omega)
 exact ⟨p', q', hE, h1, h2, by omega⟩
theorem plan_j1 (b : List Int) (hb : RdB b) (q : Nat) (hq : q ≤ 1000) (n m : Nat) (n1 : 1 ≤ n) (n7 : n ≤ 10) (m7 : m ≤ 10) (c : Bool) (hc : c = true → n = 4 ∧ m = 4) : ∃ p q', Evs (fun k => spec_l91Plan.j1 k (n : Int) (m : Int) c b (q : Int)) (p, ((q' : Nat) : Int)) ∧ Mid p m ∧ p.length = n ∧ q' ≤ q + 400 := by
 cases c with
 | true =>
  obtain ⟨rfl, rfl⟩ := hc rfl
  obtain ⟨v, hv, v0, v1, -⟩ := pick_ev b hb q (by omega) 4
  obtain ⟨p, q', hE, h1, h2, h3⟩ := Cut_ev b hb (q + 1) (by omega) [(⟨#[97, 97, 97, 98]⟩ : ByteArray), (⟨#[99, 100, 100, 98]⟩ : ByteArray), (⟨#[99, 100, 100, 98]⟩ : ByteArray), (⟨#[99, 101, 101, 101]⟩ : ByteArray)] 4 ⟨by simp, by omega, fun s hs => by simp at hs; rcases hs with rfl | rfl | rfl <;> rfl⟩ (by simp) v v0 (by have := v1 (by omega); omega)
  refine ⟨p, q', Evs.step (h := fun k => (spec_l6Rd_pick.f k b (q : Int) 4).bind fun bt263 => ((spec_l91Cut.f k b bt263.2 (([(⟨#[97, 97, 97, 98]⟩ : ByteArray), (⟨#[99, 100, 100, 98]⟩ : ByteArray), (⟨#[99, 100, 100, 98]⟩ : ByteArray), (⟨#[99, 101, 101, 101]⟩ : ByteArray)] : List ByteArray)) bt263.1).bind fun bt265 => (some (bt265.1, bt265.2)))) (fun k => ?_) (Evs.bind hv (Evs.bind hE (Evs.const _))), h1, h2, by omega⟩
  show spec_l91Plan.j1 (k + 1) _ _ true b (q : Int) = _
  simp only [spec_l91Plan.j1, if_true]
 | false =>
  obtain ⟨e, hE0, e1, e2⟩ := Empty_ev n m (by omega) (by omega)
  obtain ⟨v, hv, v0, v1, -⟩ := pick_ev b hb q (by omega) 9
  obtain ⟨p, q', hE, h1, h2, h3⟩ := Cut_ev b hb (q + 1) (by omega) e m e1 (by omega) v v0 (by have := v1 (by omega); omega)
  refine ⟨p, q', Evs.step (h := fun k => (spec_l91Empty.f k (n : Int) (m : Int)).bind fun t269 => ((spec_l6Rd_pick.f k b (q : Int) 9).bind fun bt272 => ((spec_l91Cut.f k b bt272.2 t269 bt272.1).bind fun bt274 => (some (bt274.1, bt274.2))))) (fun k => ?_) (Evs.bind hE0 (Evs.bind hv (Evs.bind hE (Evs.const _)))), h1, by omega, by omega⟩
  show spec_l91Plan.j1 (k + 1) _ _ false b (q : Int) = _
  simp only [spec_l91Plan.j1, Bool.false_eq_true, if_false]
theorem plan_j0 (b : List Int) (hb : RdB b) (q : Nat) (hq : q ≤ 900) (n m : Nat) (n1 : 1 ≤ n) (n7 : n ≤ 10) (m7 : m ≤ 10) (c : Bool) (hc : c = true → n = 3 ∧ m = 3) : ∃ p q', Evs (fun k => spec_l91Plan.j0 k (n : Int) (m : Int) c b (q : Int)) (p, ((q' : Nat) : Int)) ∧ Mid p m ∧ p.length = n ∧ q' ≤ q + 500 := by
 cases c with
 | true =>
  obtain ⟨rfl, rfl⟩ := hc rfl
  obtain ⟨v, hv, v0, v1, -⟩ := pick_ev b hb q (by omega) 2
  obtain ⟨p, q', hE, h1, h2, h3⟩ := Cut_ev b hb (q + 1) (by omega) [(⟨#[97, 97, 98]⟩ : ByteArray), (⟨#[99, 100, 98]⟩ : ByteArray), (⟨#[99, 101, 101]⟩ : ByteArray)] 3 ⟨by simp, by omega, fun s hs => by simp at hs; rcases hs with rfl | rfl | rfl <;> rfl⟩ (by simp) v v0 (by have := v1 (by omega); omega)
  refine ⟨p, q', Evs.step (h := fun k => (spec_l6Rd_pick.f k b (q : Int) 2).bind fun bt252 => ((spec_l91Cut.f k b bt252.2 (([(⟨#[97, 97, 98]⟩ : ByteArray), (⟨#[99, 100, 98]⟩ : ByteArray), (⟨#[99, 101, 101]⟩ : ByteArray)] : List ByteArray)) bt252.1).bind fun bt254 => (some (bt254.1, bt254.2)))) (fun k => ?_) (Evs.bind hv (Evs.bind hE (Evs.const _))), h1, h2, by omega⟩
  show spec_l91Plan.j0 (k + 1) _ _ true b (q : Int) = _
  simp only [spec_l91Plan.j0, if_true]
 | false =>
  by_cases h4 : (n : Int) = 4 ∧ (m : Int) = 4
  ·obtain ⟨v, hv, v0, v1, -⟩ := pick_ev b hb q (by omega) 2
   obtain ⟨p, q', hE, h1, h2, h3⟩ := plan_j1 b hb (q + 1) (by omega) n m n1 n7 m7 (v == 0) (fun _ => by omega)
   refine ⟨p, q', Evs.step (h := fun k => (spec_l6Rd_pick.f k b (q : Int) 2).bind fun bt258 => (spec_l91Plan.j1 k (n : Int) (m : Int) (bt258.1 == 0) b bt258.2)) (fun k => ?_) (Evs.bind hv hE), h1, h2, by omega⟩
   show spec_l91Plan.j0 (k + 1) _ _ false b (q : Int) = _
   simp only [spec_l91Plan.j0, Bool.false_eq_true, if_false]
   rw [if_pos h4.1, if_pos h4.2]
  ·obtain ⟨p, q', hE, h1, h2, h3⟩ := plan_j1 b hb q (by omega) n m n1 n7 m7 false (fun h => by cases h)
   refine ⟨p, q', Evs.step (fun k => ?_) hE, h1, h2, by omega⟩
   show spec_l91Plan.j0 (k + 1) _ _ false b (q : Int) = _
   simp only [spec_l91Plan.j0, Bool.false_eq_true, if_false]
   by_cases hn : (n : Int) = 4
   ·rw [if_pos hn, if_neg (fun h => h4 ⟨hn, h⟩)]
   ·rw [if_neg hn]
theorem Plan_ev (b : List Int) (hb : RdB b) (q : Nat) (hq : q ≤ 800) (n m : Nat) (n1 : 1 ≤ n) (n7 : n ≤ 10) (m7 : m ≤ 10) : ∃ p q', Evs (fun k => spec_l91Plan.f k b (q : Int) (n : Int) (m : Int)) (p, ((q' : Nat) : Int)) ∧ Mid p m ∧ p.length = n ∧ q' ≤ q + 600 := by
 by_cases h3 : (n : Int) = 3 ∧ (m : Int) = 3
 ·obtain ⟨v, hv, v0, v1, -⟩ := pick_ev b hb q (by omega) 2
  obtain ⟨p, q', hE, h1, h2, h3'⟩ := plan_j0 b hb (q + 1) (by omega) n m n1 n7 m7 (v == 0) (fun _ => by omega)
  refine ⟨p, q', Evs.congr (h := fun k => (spec_l6Rd_pick.f k b (q : Int) 2).bind fun bt247 => (spec_l91Plan.j0 k (n : Int) (m : Int) (bt247.1 == 0) b bt247.2)) (fun k => ?_) (Evs.bind hv hE), h1, h2, by omega⟩
  unfold spec_l91Plan.f
  rw [if_pos h3.1, if_pos h3.2]
 ·obtain ⟨p, q', hE, h1, h2, h3'⟩ := plan_j0 b hb q (by omega) n m n1 n7 m7 false (fun h => by cases h)
  refine ⟨p, q', Evs.congr (fun k => ?_) hE, h1, h2, by omega⟩
  unfold spec_l91Plan.f
  by_cases hn : (n : Int) = 3
  ·rw [if_pos hn, if_neg (fun h => h3 ⟨hn, h⟩)]
  ·rw [if_neg hn]
theorem Some_ev (b : List Int) (hb : RdB b) (q : Nat) (hq : q ≤ 700) (rows cols : Int) (r1 : 1 ≤ rows) (r7 : rows ≤ 9) (c1 : 1 ≤ cols) (c7 : cols ≤ 9) : ∃ p q', Evs (fun k => spec_l91Some.f k b (q : Int) rows cols) (p, ((q' : Nat) : Int)) ∧ Lil p ∧ q' ≤ 2000 := by
 obtain ⟨v1, hv1, a0, a1, -⟩ := pick_ev b hb q (by omega) rows
 obtain ⟨v2, hv2, b0, b1, -⟩ := pick_ev b hb (q + 1) (by omega) cols
 have a1 := a1 r1
 have b1 := b1 c1
 obtain ⟨i, rfl⟩ := Int.eq_ofNat_of_zero_le a0
 obtain ⟨j, rfl⟩ := Int.eq_ofNat_of_zero_le b0
 have e1 : wrap64 (1 + (i : Int)) = ((i + 1 : Nat) : Int) := by rw [wrap64_small (by omega) (by omega)]; omega
 have e2 : wrap64 (1 + (j : Int)) = ((j + 1 : Nat) : Int) := by rw [wrap64_small (by omega) (by omega)]; omega
 obtain ⟨p, q', hE, h1, h2, h3⟩ := Plan_ev b hb (q + 1 + 1) (by omega) (i + 1) (j + 1) (by omega) (by omega) (by omega)
 obtain ⟨v3, hv3, c0, -, -⟩ := pick_ev b hb q' (by omega) 50
 have hlast : wrap64 (((i + 1 : Nat) : Int) - 1) = (i : Int) := by rw [wrap64_small (by omega) (by omega)]; omega
 have hsz : ∀ k (hk : k < p.length), (p[k]'hk).size = j + 1 := fun k hk => h1.row _ (List.getElem_mem hk)
 by_cases z0 : v3 = 0
 ·refine ⟨p.set i (rdOf ByteArray.empty p (i : Int) ++ (⟨#[97]⟩ : ByteArray)), q' + 1, Evs.bind hv1 (Evs.bind hv2 ?_), ⟨by rw [List.length_set]; omega, fun s hs => ?_⟩, by omega⟩
  ·dsimp only
   rw [e1, e2]
   refine Evs.bind hE (Evs.bind hv3 (Evs.pos z0 ?_))
   simp only [Option.bind_some, List.nil_append, List.length_nil]
   refine Evs.pos (by omega) ?_
   rw [hlast]
   refine Evs.pos (by omega) (Evs.pos (by omega) (Evs.pos ?_ ?_))
   ·rw [rdOf_get p i (by omega), hsz i (by omega)]; omega
   ·rw [Int.toNat_natCast]; exact Evs.const _
  ·rcases List.mem_or_eq_of_mem_set hs with h | h
   ·rw [h1.row s h]; omega
   ·subst h
    rw [rdOf_get p i (by omega), ByteArray.size_append, hsz i (by omega)]
    show j + 1 + 1 ≤ 100
    omega
 ·by_cases z1 : v3 = 1
  ·refine ⟨p.set 0 ((⟨#[122]⟩ : ByteArray) ++ ((rdOf ByteArray.empty p 0).extract 1 (rdOf ByteArray.empty p 0).size)), q' + 1, Evs.bind hv1 (Evs.bind hv2 ?_), ⟨by rw [List.length_set]; omega, fun s hs => ?_⟩, by omega⟩
   ·dsimp only
    rw [e1, e2]
    refine Evs.bind hE (Evs.bind hv3 (Evs.neg z0 (Evs.pos z1 ?_)))
    simp only [Option.bind_some, List.nil_append, List.length_nil]
    have hr0 : rdOf ByteArray.empty p 0 = p[0]'(by omega) := rdOf_get p 0 (by omega)
    refine Evs.pos (by omega) (Evs.pos (by omega) (Evs.pos ?_ (Evs.pos ?_ ?_)))
    ·rw [hr0, hsz 0 (by omega)]; omega
    ·rw [hr0, ByteArray.size_extract, hsz 0 (by omega)]; omega
    ·exact Evs.const _
   ·rcases List.mem_or_eq_of_mem_set hs with h | h
    ·rw [h1.row s h]; omega
    ·subst h
     have hr0 : rdOf ByteArray.empty p 0 = p[0]'(by omega) := rdOf_get p 0 (by omega)
     rw [ByteArray.size_append, ByteArray.size_extract, hr0, hsz 0 (by omega)]
     show 1 + _ ≤ 100
     omega
  ·refine ⟨p, q' + 1, Evs.bind hv1 (Evs.bind hv2 ?_), h1.lil, by omega⟩
   dsimp only
   rw [e1, e2]
   exact Evs.bind hE (Evs.bind hv3 (Evs.neg z0 (Evs.neg z1 (Evs.const _))))
theorem One_ev (l : List Int) (hv : ∀ x ∈ l, 0 ≤ x ∧ x ≤ 255) : ∃ p, Evs (fun k => spec_l91One.f k l) p ∧ Lil p := by
 obtain ⟨b, ho, hb⟩ := open_ev l hv
 obtain ⟨p, q, hE, h1, -⟩ := Some_ev b hb 0 (by omega) 5 5 (by omega) (by omega) (by omega) (by omega)
 exact ⟨p, Evs.bindS ho (Evs.bind hE (Evs.const _)), h1⟩
end Go.Proofs.Ytaepgogafkmooaa.Hd
namespace Go.Proofs.Ytaepgogafkmooaa.Hd
open Go.RowKit Go.Proofs.YtaepgogafkmooaaW.PrintWords Go.Proofs.YtaepgogafkmooaaW.PrintLast Go.Proofs.YtaepgogafkmooaaW.PrintMore Go.Proofs.Ytaepgogafkmooaa.PB
set_option linter.unusedVariables false
set_option linter.unusedSimpArgs false
theorem byte_of {x : Int} (h : (Lit.int .u8 x).wf = true) : 0 ≤ x ∧ x ≤ 255 := by
 simp only [Lit.wf, IntKind.min, IntKind.max, IntKind.signed, IntKind.bits, Bool.and_eq_true, decide_eq_true_eq] at h
 have h1 := h.1
 have h2 := h.2
 simp at h1 h2
 omega
theorem OkG.floorP {X : List (List Int)} (h : OkG X) : floorF (planOf X) = some (Hd.canon X, roomsOf X) := h.floor
theorem OkG.facts {X : List (List Int)} (h : OkG X) : PlanFacts (planOf X) (Hd.canon X) (roomsOf X) := floor_facts h.floor
theorem OkG.psmall {X : List (List Int)} (h : OkG X) : smallB (planOf X) = true := by
 have q := gridOk_small h.facts.canon.grid
 rw [smallB_iff]
 exact ⟨by have := q.high; omega, fun s hs => by have := q.row s hs; have := q.wide; omega⟩
theorem in_cases (p : List ByteArray) : (∃ X, OkG X ∧ p = planOf X) ∨ floorF p = none := by
 cases h : floorF p with
 | none => exact .inr rfl
 | some t =>
  obtain ⟨cs, rs⟩ := t
  obtain ⟨h1, h2, h3⟩ := plan_of h
  exact .inl ⟨cs, h1, h2⟩
theorem Evs.ex {α : Type} {g : Nat → Option α} {r : α} (h : Evs g r) : ∃ k, g k = some r := by
 obtain ⟨K, hK⟩ := h
 exact ⟨K, hK K (by omega)⟩
end Go.Proofs.Ytaepgogafkmooaa.Hd
namespace Go.Proofs.Ytaepgogafkmooaa.Hd
open Go.RowKit Go.Proofs.YtaepgogafkmooaaW.PrintWords Go.Proofs.YtaepgogafkmooaaW.PrintLast Go.Proofs.YtaepgogafkmooaaW.PrintMore Go.Proofs.Ytaepgogafkmooaa.PB Go.Proofs.Ytaepgogafkmooaa.SM
set_option linter.unusedVariables false
set_option linter.unusedSimpArgs false
theorem Evs.stepNeg {α : Type} {c : Prop} {inst : Decidable c} {a h g : Nat → Option α} {r : α} (e : ∀ k, g (k + 1) = @ite _ c inst (a k) (h k)) (hc : ¬ c) (hh : Evs h r) : Evs g r := Evs.step (fun k => (e k).trans (if_neg hc)) hh
theorem DrawCutMany_ev (l : List Int) (hv : ∀ x ∈ l, 0 ≤ x ∧ x ≤ 255) : ∃ p, Evs (fun k => spec_DrawCutMany.f k l) p ∧ Lil p := by
 obtain ⟨p, h, hl⟩ := One_ev l hv
 exact ⟨p, Evs.bind h (Evs.const _), hl⟩
end Go.Proofs.Ytaepgogafkmooaa.Hd
namespace Go.Proofs.Ytaepgogafkmooaa.Hd
open Go.RowKit Go.Proofs.YtaepgogafkmooaaW.PrintWords Go.Proofs.YtaepgogafkmooaaW.PrintLast Go.Proofs.YtaepgogafkmooaaW.PrintMore Go.Proofs.Ytaepgogafkmooaa.PB
set_option linter.unusedVariables false
set_option linter.unusedSimpArgs false
theorem runC_closed (d : Nat → Bool) : ∀ n, (∀ x ∈ (runC d n).1, x.1 + x.2 < n) ∧ (∀ f, (runC d n).2 = some f → f < n ∧ ∀ i, f ≤ i → i < n → d i = true)
 | 0 => by simp [runC]
 | n + 1 => by
  obtain ⟨h1, h2⟩ := runC_closed d n
  rcases hR : runC d n with ⟨c, o⟩
  rw [hR] at h1 h2
  cases o with
  | none =>
   by_cases hd : d n = true
   ·have e : runC d (n + 1) = (c, some n) := by simp only [runC, hR, hd, if_true]
    rw [e]
    refine ⟨fun x hx => by have := h1 x hx; omega, fun f hf => ?_⟩
    injection hf with hf
    subst hf
    exact ⟨by omega, fun i a b => by rw [show i = n by omega]; exact hd⟩
   ·have e : runC d (n + 1) = (c, none) := by simp only [runC, hR, if_neg hd]
    rw [e]
    exact ⟨fun x hx => by have := h1 x hx; omega, fun f hf => by cases hf⟩
  | some f =>
   obtain ⟨hf, hall⟩ := h2 f rfl
   by_cases hd : d n = true
   ·have e : runC d (n + 1) = (c, some f) := by simp only [runC, hR, hd, if_true]
    rw [e]
    refine ⟨fun x hx => by have := h1 x hx; omega, fun g hg => ?_⟩
    injection hg with hg
    subst hg
    refine ⟨by omega, fun i a b => ?_⟩
    by_cases e : i = n
    ·rw [e]; exact hd
    ·exact hall i a (by omega)
   ·have e : runC d (n + 1) = (c ++ [(f, n - f)], none) := by simp only [runC, hR, if_neg hd]
    rw [e]
    refine ⟨fun x hx => ?_, fun g hg => by cases hg⟩
    rcases List.mem_append.1 hx with h | h
    ·have := h1 x h; omega
    ·simp at h; subst h; dsimp only; omega
theorem runC_all (d : Nat → Bool) : ∀ n, (∀ i, i < n + 1 → d i = true) → runC d (n + 1) = ([], some 0)
 | 0, h => by simp [runC, h 0 (by omega)]
 | n + 1, h => by
  have ih := runC_all d n (fun i hi => h i (by omega))
  have hd := h (n + 1) (by omega)
  unfold runC
  rw [ih]
  simp [hd]
def fullB' (d : Nat → Bool) (n : Nat) : Bool := (List.range n).all d
theorem fullB'_iff (d : Nat → Bool) (n : Nat) : fullB' d n = true ↔ ∀ i, i < n → d i = true := by
 unfold fullB'
 rw [List.all_eq_true]
 exact ⟨fun h i hi => h i (List.mem_range.2 hi), fun h i hi => h i (List.mem_range.1 hi)⟩
theorem runs_full (d : Nat → Bool) (n : Nat) (hn : 1 ≤ n) : (((runs d n).filter fun x => decide (x.2 = n)).length : Int) = if fullB' d n = true then 1 else 0 := by
 obtain ⟨h1, h2⟩ := runC_closed d n
 have hz : (runC d n).1.filter (fun x => decide (x.2 = n)) = [] := by
  rw [List.filter_eq_nil_iff]
  intro x hx
  have := h1 x hx
  rw [decide_eq_true_eq]
  omega
 unfold runs
 rw [List.filter_append, hz, List.nil_append]
 by_cases ha : fullB' d n = true
 ·rw [if_pos ha]
  obtain ⟨m, rfl⟩ : ∃ m, n = m + 1 := ⟨n - 1, by omega⟩
  rw [runC_all d m ((fullB'_iff d _).1 ha)]
  simp [openR]
 ·rw [if_neg ha]
  cases ho : (runC d n).2 with
  | none => simp [openR]
  | some f =>
   obtain ⟨hf, hall⟩ := h2 f ho
   have hf0 : f ≠ 0 := by
    rintro rfl
    exact ha ((fullB'_iff d n).2 fun i hi => hall i (by omega) hi)
   have : ¬ (n - f = n) := by omega
   simp [openR, this]
def oneI (b : Bool) : Int := if b = true then 1 else 0
def fullS (d : Nat → Nat → Bool) (n j : Nat) : Int := sumI (fun l => oneI (fullB' (d (l + 1)) n)) j
theorem trip_full (d : Nat → Nat → Bool) (n : Nat) (hn : 1 ≤ n) : ∀ j, (((trip d n j).filter fun x => decide (x.2.2 = n)).length : Int) = fullS d n j
 | 0 => by simp [trip, fullS, sumI]
 | j + 1 => by
  have ih := trip_full d n hn j
  have h := runs_full (d (j + 1)) n hn
  unfold fullS at ih ⊢
  simp only [sumI, trip]
  rw [List.filter_append, List.length_append, List.filter_map, List.length_map]
  have e : (fun x : Nat × Nat × Nat => decide (x.2.2 = n)) ∘ (fun x : Nat × Nat => (j + 1, x.1, x.2)) = fun x => decide (x.2 = n) := rfl
  rw [e]
  have e2 : oneI (fullB' (d (j + 1)) n) = if fullB' (d (j + 1)) n = true then 1 else 0 := rfl
  omega
theorem filter_idx {α : Type} (f : α → Bool) (z : α) (L : List α) : (((List.range L.length).filter fun j => f (L.getD j z)).length) = (L.filter f).length := by
 have e : L = (List.range L.length).map fun j => L.getD j z := by
  apply List.ext_getElem?
  intro i
  rw [List.getElem?_map]
  by_cases h : i < L.length
  ·rw [List.getElem?_range h, List.getElem?_eq_getElem h, Option.map_some, List.getD_eq_getElem?_getD, List.getElem?_eq_getElem h]
   rfl
  ·rw [List.getElem?_eq_none (by omega), List.getElem?_eq_none (by simp; omega)]
   rfl
 conv => rhs; rw [e]
 rw [List.filter_map, List.length_map]
 rfl
def cutsC (X : List (List Int)) : Int := fullS (difB X false) X.length (wideOf X - 1) + fullS (difB X true) (wideOf X) (X.length - 1)
theorem cutN_count (cs : List (List Int)) (h1 : 1 ≤ cs.length) (w1 : 1 ≤ wideOf cs) : ((cutN cs).length : Int) = cutsC cs := by
 unfold cutN cutP
 rw [filter_idx (cutW cs) zeroW (wallsOf cs), wallsOf_eq, List.filter_append, List.length_append, List.filter_map, List.filter_map, List.length_map, List.length_map]
 have e1 : ((upT cs).filter (cutW cs ∘ mkW false)).length = ((upT cs).filter fun x => decide (x.2.2 = cs.length)).length := by
  congr 2
  funext x
  show decide ((x.2.2 : Int) = (cs.length : Int)) = decide (x.2.2 = cs.length)
  by_cases h : x.2.2 = cs.length
  ·rw [decide_eq_true h, decide_eq_true (by omega)]
  ·rw [decide_eq_false h, decide_eq_false (by omega)]
 have e2 : ((levT cs).filter (cutW cs ∘ mkW true)).length = ((levT cs).filter fun x => decide (x.2.2 = wideOf cs)).length := by
  congr 2
  funext x
  show decide ((x.2.2 : Int) = (wideOf cs : Int)) = decide (x.2.2 = wideOf cs)
  by_cases h : x.2.2 = wideOf cs
  ·rw [decide_eq_true h, decide_eq_true (by omega)]
  ·rw [decide_eq_false h, decide_eq_false (by omega)]
 rw [e1, e2]
 have t1 := trip_full (difB cs false) cs.length h1 (wideOf cs - 1)
 have t2 := trip_full (difB cs true) (wideOf cs) w1 (cs.length - 1)
 unfold upT levT cutsC
 omega
theorem fullB'_congr {d d' : Nat → Bool} {n : Nat} (h : ∀ i, i < n → d i = d' i) : fullB' d n = fullB' d' n := by
 have : fullB' d n = true ↔ fullB' d' n = true := by
  rw [fullB'_iff, fullB'_iff]
  exact ⟨fun z i hi => by rw [← h i hi]; exact z i hi, fun z i hi => by rw [h i hi]; exact z i hi⟩
 cases h1 : fullB' d n <;> cases h2 : fullB' d' n <;> simp_all
theorem bne_of_iff {a b c d : Int} (h : a = b ↔ c = d) : (a != b) = (c != d) := by
 by_cases e : a = b
 ·rw [bne_eq_false_iff_eq.2 e, bne_eq_false_iff_eq.2 (h.1 e)]
 ·rw [bne_iff_ne.2 e, bne_iff_ne.2 (fun z => e (h.2 z))]
theorem cutsC_canon {X : List (List Int)} (hX : OkG X) : cutsC (canon X) = cutsC X := by
 obtain ⟨a, b, c, d⟩ := hX.dims
 unfold cutsC fullS
 rw [canon_length, canon_wide]
 congr 1
 ·refine sumI_congr _ fun l hl => ?_
  congr 1
  refine fullB'_congr fun i hi => ?_
  unfold difB
  rw [if_neg (by simp), if_neg (by simp)]
  exact bne_of_iff (canon_eq_iff hX.shape hi (by omega) hi (by omega))
 ·refine sumI_congr _ fun l hl => ?_
  congr 1
  refine fullB'_congr fun i hi => ?_
  unfold difB
  rw [if_pos rfl, if_pos rfl]
  exact bne_of_iff (canon_eq_iff hX.shape (by omega) hi (by omega) hi)
theorem cutsC_turn {X : List (List Int)} (hX : OkG X) : cutsC (turnX X) = cutsC X := by
 obtain ⟨a, b, c, d⟩ := hX.dims
 obtain ⟨d1, d2⟩ := turn_dims hX
 unfold cutsC
 rw [d1, d2]
 have e1 : fullS (difB (turnX X) false) (wideOf X) (X.length - 1) = fullS (difB X true) (wideOf X) (X.length - 1) := by
  unfold fullS
  rw [← sumI_rev (fun l => oneI (fullB' (difB X true (l + 1)) (wideOf X)))]
  refine sumI_congr _ fun l hl => ?_
  congr 1
  refine fullB'_congr fun i hi => ?_
  unfold difB
  rw [if_neg (by simp), if_pos rfl, turn_at hi (by omega), turn_at hi (by omega), show X.length - 1 - (l + 1 - 1) = X.length - 1 - 1 - l + 1 by omega, show X.length - 1 - (l + 1) = X.length - 1 - 1 - l + 1 - 1 by omega]
  exact bne_of_iff eq_comm
 have e2 : fullS (difB (turnX X) true) X.length (wideOf X - 1) = fullS (difB X false) X.length (wideOf X - 1) := by
  unfold fullS
  refine sumI_congr _ fun l hl => ?_
  congr 1
  have : fullB' (difB (turnX X) true (l + 1)) X.length = true ↔ fullB' (difB X false (l + 1)) X.length = true := by
   rw [fullB'_iff, fullB'_iff]
   have key : ∀ i, i < X.length → difB (turnX X) true (l + 1) i = difB X false (l + 1) (X.length - 1 - i) := fun i hi => by
    unfold difB
    rw [if_pos rfl, if_neg (by simp), turn_at (by omega) hi, turn_at (by omega) hi]
   constructor
   ·intro h i hi
    have := h (X.length - 1 - i) (by omega)
    rw [key _ (by omega), show X.length - 1 - (X.length - 1 - i) = i by omega] at this
    exact this
   ·intro h i hi
    rw [key i hi]
    exact h _ (by omega)
  cases h1 : fullB' (difB (turnX X) true (l + 1)) X.length <;> cases h2 : fullB' (difB X false (l + 1)) X.length <;> simp_all
 rw [e1, e2]
 omega
end Go.Proofs.Ytaepgogafkmooaa.Hd
namespace Go.Proofs.Ytaepgogafkmooaa.Hd
open Go.RowKit Go.Proofs.YtaepgogafkmooaaW.PrintWords Go.Proofs.YtaepgogafkmooaaW.PrintLast Go.Proofs.YtaepgogafkmooaaW.PrintMore Go.Proofs.Ytaepgogafkmooaa.PB
set_option linter.unusedVariables false
set_option linter.unusedSimpArgs false
theorem turn_f {X : List (List Int)} (h : OkG X) : impl_PlanTurn.f (planOf X) = some (planOf (turnX X), true) := by unfold impl_PlanTurn.f; rw [if_pos h.psmall, act_turn h]
end Go.Proofs.Ytaepgogafkmooaa.Hd
namespace Go.Proofs.Ytaepgogafkmooaa.Pure
open Go.RowKit Go.Proofs.Ytaepgogafkmooaa.CB Go.Proofs.Ytaepgogafkmooaa.PB Go.Proofs.Ytaepgogafkmooaa.SM Go.Proofs.Ytaepgogafkmooaa.Hd Go.Proofs.YtaepgogafkmooaaW.PrintWords Go.Proofs.YtaepgogafkmooaaW.PrintLast
set_option linter.unusedVariables false
set_option linter.unusedSimpArgs false
theorem cutMany_plan {X : List (List Int)} (hX : OkG X) : cutManyF (planOf X) = (cutsC X, true) := by
 have hC := hX.canon
 have e : cutManyF (planOf X) = (((cutN (canon X)).length : Int), true) := by unfold cutManyF; rw [hX.floorP]
 obtain ⟨a, b, c, d⟩ := hC.dims
 rw [e, cutN_count _ a c, cutsC_canon hX]
theorem FnCutMany : laws_FnCutMany.Pure := by
 intro l0 h1 h2 h3
 by_cases big : (l0.length : Int) > 1048576
 ·exact ⟨0, by unfold laws_FnCutMany.f; rw [if_pos big]⟩
 ·obtain ⟨p, hp, hl⟩ := DrawCutMany_ev l0 (fun x hx => byte_of (h3 x hx))
  have hsm : smallB p = true := (smallB_iff _).2 hl.small
  have hI : ∀ q, smallB q = true → impl_CutMany.f q = some (cutManyF q) := fun q hq => by unfold impl_CutMany.f; rw [if_pos hq]
  have hJ : impl_CutFirst.f p = some (cutFirstF p) := by unfold impl_CutFirst.f; rw [if_pos hsm]
  have hW : impl_WallMany.f p = some (wallManyF p) := by unfold impl_WallMany.f; rw [if_pos hsm]
  apply Evs.ex
  refine Evs.neg big (Evs.bind hp (Evs.bindS (hI p hsm) (Evs.bind (CutMany_ev p hl.small) (Evs.neg (by simp) (Evs.pos rfl ?_)))))
  rcases in_cases p with ⟨X, hX, rfl⟩ | f1
  ·have F := hX.facts
   have hc := hX.canon
   have hb := wallsOf_bound F.ok
   have e0 := cutMany_plan hX
   have e1 : cutManyF (planOf (turnX X)) = (cutsC X, true) := by rw [cutMany_plan (turn_ok hX), cutsC_turn hX]
   have hn : cutsC X = ((cutN (canon X)).length : Int) := by
    have e : cutManyF (planOf X) = (((cutN (canon X)).length : Int), true) := by unfold cutManyF; rw [hX.floorP]
    rw [e0] at e
    exact congrArg Prod.fst e
   have e2 : cutFirstF (planOf X) = headF (cutN (canon X)) := by unfold cutFirstF; rw [hX.floorP]
   have e3 : wallManyF (planOf X) = (((upT (canon X)).length : Int), ((levT (canon X)).length : Int), true) := by unfold wallManyF; rw [hX.floorP]
   have hs : (wallsOf (canon X)).length = (upT (canon X)).length + (levT (canon X)).length := by rw [wallsOf_eq]; simp
   have hle := cutP_length (canon X) (wallsOf (canon X)).length
   have hT := hI _ (turn_ok hX).psmall
   rw [e1] at hT
   rw [e2] at hJ
   rw [e3] at hW
   rw [e0]
   refine Evs.stepNeg (fun k => by conv => lhs; unfold laws_FnCutMany.j0) (by simp) (Evs.bindS (turn_f hX) (Evs.bindS hT (Evs.bindS hJ (Evs.bindS hW (Evs.pos rfl (Evs.pos rfl (Evs.pos rfl (Evs.pos rfl (Evs.pos ?_ ?_)))))))))
   ·dsimp only
    rw [hn]
    cases cutN (canon X) with
    | nil => rfl
    | cons i r =>
     have : (((i :: r).length : Int) == 0) = false := by rw [beq_eq_false_iff_ne, List.length_cons]; omega
     rw [this]
     rfl
   ·dsimp only
    rw [hn, wrap64_small (by omega) (by omega), decide_eq_true (by unfold cutN; omega)]
    exact Evs.const _
  ·have e : cutManyF p = (0, false) := by unfold cutManyF; rw [f1]
   rw [e]
   refine Evs.step (h := fun k => some true) (fun k => ?_) (Evs.const _)
   conv => lhs; unfold laws_FnCutMany.j0
   exact (if_pos (by simp)).trans (if_pos (by simp))
end Go.Proofs.Ytaepgogafkmooaa.Pure
