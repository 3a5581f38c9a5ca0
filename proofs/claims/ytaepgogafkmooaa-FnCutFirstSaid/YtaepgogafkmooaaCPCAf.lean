/- Part 6 of the proof of FnCutFirst: what the program's functions and the reference's compute. -/
import Derived.Test.YtaepgogafkmooaaProg
import Derived.Below
import Derived.Deep.Draws
import Derived.Deep.AppendLies
import Derived.Maps.AppendAt
import Derived.OwnWalk
import Derived.Laws.BytesArg
import Derived.Laws.MakeOwn
import Derived.Laws.OwnMore
import Derived.Deep.OwnRows
import Derived.Tactics
import Derived.Lib.ConvBytes
import Derived.Laws.Slices
import Derived.WalkKit
import Derived.KernelRfl
import Derived.RowKit3
import Derived.Deep.LoopGhost
import Derived.Deep.QuietTactic
import Derived.BigQuiet
import Derived.WideLaws
import Derived.Deep.DeepCutAuto
import Derived.Deep.CutBlock
import Derived.Deep.RegionHeld3
import Derived.Laws.Rows
import Derived.Lib.AppendStr
import Derived.ArgAppend
import Derived.Laws.IdiomCopy
import Derived.OrdersHeld
import Derived.Laws.BitsLemmas
import Derived.RowKit
import Derived.Test.YtaepgogafkmooaaCPCAe
set_option linter.unusedSimpArgs false
set_option linter.unusedVariables false
namespace Go.Proofs.Ytaepgogafkmooaa.Hd
open Go.RowKit Go.PW.PrintWords Go.PW.PrintLast Go.PW.PrintMore Go.Proofs.Ytaepgogafkmooaa.PB
abbrev Wl := S79
def runC (d : Nat → Bool) : Nat → List (Nat × Nat) × Option Nat
 | 0 => ([], none)
 | n + 1 => match runC d n with
  | (c, none) => (c, if d n then some n else none)
  | (c, some f) => if d n then (c, some f) else (c ++ [(f, n - f)], none)
def openR (n : Nat) : Option Nat → List (Nat × Nat)
 | none => []
 | some f => [(f, n - f)]
def runs (d : Nat → Bool) (n : Nat) : List (Nat × Nat) := (runC d n).1 ++ openR n (runC d n).2
theorem runC_inv (d : Nat → Bool) : ∀ n, (∀ x ∈ (runC d n).1, x.1 + x.2 ≤ n ∧ 1 ≤ x.2) ∧ (∀ f, (runC d n).2 = some f → f < n) ∧ (runC d n).1.length + (if (runC d n).2.isSome = true then 1 else 0) ≤ n
 | 0 => by simp [runC]
 | n + 1 => by
  obtain ⟨h1, h2, h3⟩ := runC_inv d n
  rcases hR : runC d n with ⟨c, o⟩
  rw [hR] at h1 h2 h3
  cases o with
  | none =>
   have e : runC d (n + 1) = (c, if d n then some n else none) := by simp only [runC, hR]
   rw [e]
   refine ⟨fun x hx => ?_, fun f hf => ?_, ?_⟩
   ·have := h1 x hx; omega
   ·dsimp only at hf
    split at hf
    ·injection hf with hf; omega
    ·cases hf
   ·dsimp only at h3 ⊢
    simp only [Option.isSome_none, Bool.false_eq_true, if_false] at h3
    split <;> simp <;> omega
  | some f =>
   have hf := h2 f rfl
   by_cases hd : d n = true
   ·have e : runC d (n + 1) = (c, some f) := by simp only [runC, hR, hd, if_true]
    rw [e]
    refine ⟨fun x hx => ?_, fun g hg => ?_, ?_⟩
    ·have := h1 x hx; omega
    ·injection hg with hg; omega
    ·dsimp only at h3 ⊢; omega
   ·have e : runC d (n + 1) = (c ++ [(f, n - f)], none) := by simp only [runC, hR, if_neg hd]
    rw [e]
    refine ⟨fun x hx => ?_, fun g hg => (by cases hg), ?_⟩
    ·rcases List.mem_append.1 hx with h | h
     ·have := h1 x h; omega
     ·simp at h; subst h; dsimp only; omega
    ·dsimp only at h3 ⊢
     simp only [Option.isSome_some, if_true] at h3
     simp
     omega
theorem runs_length (d : Nat → Bool) (n : Nat) : (runs d n).length ≤ n := by
 obtain ⟨h1, h2, h3⟩ := runC_inv d n
 unfold runs
 rw [List.length_append]
 cases h : (runC d n).2 with
 | none => rw [h] at h3; simp [openR] at h3 ⊢; exact h3
 | some f => rw [h] at h3; simp [openR] at h3 ⊢; exact h3
theorem runC_congr {d d' : Nat → Bool} : ∀ n, (∀ i, i < n → d i = d' i) → runC d n = runC d' n
 | 0, _ => rfl
 | n + 1, h => by simp only [runC, runC_congr n (fun i hi => h i (by omega)), h n (by omega)]
theorem runs_congr {d d' : Nat → Bool} (n : Nat) (h : ∀ i, i < n → d i = d' i) : runs d n = runs d' n := by unfold runs; rw [runC_congr n h]
def trip (d : Nat → Nat → Bool) (n : Nat) : Nat → List (Nat × Nat × Nat)
 | 0 => []
 | j + 1 => trip d n j ++ (runs (d (j + 1)) n).map fun x => (j + 1, x.1, x.2)
theorem trip_length (d : Nat → Nat → Bool) (n : Nat) : ∀ j, (trip d n j).length ≤ j * n
 | 0 => by simp [trip]
 | j + 1 => by
  have := trip_length d n j
  have := runs_length (d (j + 1)) n
  simp only [trip, List.length_append, List.length_map]
  rw [Nat.succ_mul]
  omega
theorem trip_congr {d d' : Nat → Nat → Bool} {n : Nat} : ∀ j, (∀ l i, 1 ≤ l → l ≤ j → i < n → d l i = d' l i) → trip d n j = trip d' n j
 | 0, _ => rfl
 | j + 1, h => by
  simp only [trip]
  rw [trip_congr j (fun l i h1 h2 h3 => h l i h1 (by omega) h3), runs_congr n (fun i hi => h (j + 1) i (by omega) (by omega) hi)]
def mkW (lv : Bool) (t : Nat × Nat × Nat) : Wl := ⟨lv, (t.1 : Int), (t.2.1 : Int), (t.2.2 : Int)⟩
def difB (cs : List (List Int)) (lv : Bool) (line i : Nat) : Bool := if lv = true then zbh cs (line - 1) i != zbh cs line i else zbh cs i (line - 1) != zbh cs i line
def zbw (cs : List (List Int)) : List Wl := (trip (difB cs false) cs.length (zaq cs - 1)).map (mkW false) ++ (trip (difB cs true) (zaq cs) (cs.length - 1)).map (mkW true)
theorem rd_val (cs : List (List Int)) (r c : Nat) : rd (zbl cs (r : Int)) (c : Int) = zbh cs r c := by
 unfold rd zbl zbh
 rw [Int.toNat_natCast, Int.toNat_natCast]
theorem row_len {cs : List (List Int)} {rs : List Rc} (h : FloorOk cs rs) {r : Nat} (hr : r < cs.length) : (zbl cs (r : Int)).length = zaq cs := by
 unfold zbl
 rw [Int.toNat_natCast, List.getD_eq_getElem?_getD, List.getElem?_eq_getElem hr]
 exact h.cells.row _ (List.getElem_mem _)
def sidesOf (cs : List (List Int)) (lv : Bool) (line i : Nat) : Int × Int := if lv = true then (zbh cs (line - 1) i, zbh cs line i) else (zbh cs i (line - 1), zbh cs i line)
def linesOf (cs : List (List Int)) (lv : Bool) : Nat := if lv = true then cs.length else zaq cs
def zcp (cs : List (List Int)) (lv : Bool) : Nat := if lv = true then zaq cs else cs.length
theorem sides_f {cs : List (List Int)} {rs : List Rc} (h : FloorOk cs rs) (lv : Bool) (line i : Nat) (h1 : 1 ≤ line) (h2 : line < linesOf cs lv) (h3 : i < zcp cs lv) : impl_floor_sides.f cs rs lv line i = some (sidesOf cs lv line i) := by
 have q1 := h.h6
 have q2 := h.w6
 unfold impl_floor_sides.f
 cases lv with
 | true =>
  simp only [linesOf, zcp, if_true] at h2 h3
  have e : wrap64 ((line : Int) - 1) = ((line - 1 : Nat) : Int) := by rw [zav (by omega) (by omega)]; omega
  rw [e, if_pos rfl, if_pos (by omega), if_pos (by omega), if_pos (by omega), row_len h (by omega), if_pos (by omega), if_pos (by omega), if_pos (by omega), row_len h (by omega), if_pos (by omega), rd_val, rd_val]
  rfl
 | false =>
  simp only [linesOf, zcp, Bool.false_eq_true, if_false] at h2 h3
  have e : wrap64 ((line : Int) - 1) = ((line - 1 : Nat) : Int) := by rw [zav (by omega) (by omega)]; omega
  rw [e, if_neg (by simp), if_pos (by omega), if_pos (by omega), if_pos (by omega), row_len h (by omega), if_pos (by omega), if_pos (by omega), if_pos (by omega), rd_val, rd_val]
  rfl
theorem differ_f {cs : List (List Int)} {rs : List Rc} (h : FloorOk cs rs) (lv : Bool) (line i : Nat) (h1 : 1 ≤ line) (h2 : line < linesOf cs lv) (h3 : i < zcp cs lv) : impl_floor_differ.f cs rs lv line i = some (difB cs lv line i) := by
 unfold impl_floor_differ.f
 rw [sides_f h lv line i h1 h2 h3]
 unfold sidesOf difB
 cases lv <;> rfl
theorem set_last {α : Type} (x : List α) (a b : α) : (x ++ [a]).set x.length b = x ++ [b] := by
 rw [List.set_append_right _ _ (Nat.le_refl _), Nat.sub_self, List.set_cons_zero]
theorem walls_l2 (cs : List (List Int)) (rs : List Rc) (lv : Bool) (line : Nat) (hl : line ≤ 100) (d : Nat → Bool) (N : Nat) (hN : N ≤ 100) (hd : ∀ i, i < N → impl_floor_differ.f cs rs lv line i = some (d i)) (x6 x7 x13 x14 : Int) (x12 : List Bool) (pre : List Wl) (hpre : pre.length ≤ 1000) (r : List Wl)
  (hnext : Evs (fun k => impl_floor_walls.l1 k (pre ++ (runs d N).map (fun x => mkW lv (line, x.1, x.2))) lv x6 x7 ((line + 1 : Nat) : Int) x12 x13 x14 cs rs) r) :
  ∀ m i, i + m = N → Evs (fun k => impl_floor_walls.l2 k (pre ++ (runs d i).map (fun x => mkW lv (line, x.1, x.2))) lv x6 x7 (line : Int) (runC d i).2.isSome x12 x13 x14 (N : Int) (i : Int) cs rs) r := by
 intro m
 induction m with
 | zero =>
  intro i hi
  obtain rfl : i = N := by omega
  refine Evs.step (fun k => ?_) hnext
  conv => lhs; unfold impl_floor_walls.l2
  rw [if_neg (by omega), zbi (by omega)]
 | succ m ih =>
  intro i hi
  have hnx := ih (i + 1) (by omega)
  have hdi := hd i (by omega)
  have hrl := runs_length d i
  obtain ⟨g1, g2, g3⟩ := runC_inv d i
  rcases hR : runC d i with ⟨c, o⟩
  rw [hR] at g1 g2 g3
  have e1 : runs d i = c ++ openR i o := by unfold runs; rw [hR]
  rw [e1] at hrl ⊢
  rw [List.length_append] at hrl
  cases hb : d i with
  | true =>
   rw [hb] at hdi
   cases o with
   | none =>
    have e2 : runC d (i + 1) = (c, some i) := by simp only [runC, hR, hb, if_true]
    have e3 : runs d (i + 1) = c ++ [(i, 1)] := by unfold runs; rw [e2]; simp [openR]
    rw [e2, e3] at hnx
    refine Evs.step (h := fun k => impl_floor_walls.j4 k (pre ++ (c ++ openR i none).map (fun x => mkW lv (line, x.1, x.2))) lv x6 x7 (line : Int) (i : Int) true x12 x13 x14 (N : Int) (i : Int) false cs rs) (fun k => ?_) (Evs.step (fun k => ?_) hnx)
    ·conv => lhs; unfold impl_floor_walls.l2
     rw [if_pos (by omega), hdi]
     rfl
    ·conv => lhs; unfold impl_floor_walls.j4
     rw [if_neg (by simp), if_pos rfl, if_pos (by simp [openR]; omega), zbi (by omega)]
     simp [openR, mkW]
   | some f =>
    have hf := g2 f rfl
    have e2 : runC d (i + 1) = (c, some f) := by simp only [runC, hR, hb, if_true]
    have e3 : runs d (i + 1) = c ++ [(f, i + 1 - f)] := by unfold runs; rw [e2]; simp [openR]
    rw [e2, e3] at hnx
    have hap : pre ++ (c ++ openR i (some f)).map (fun x => mkW lv (line, x.1, x.2)) = (pre ++ c.map (fun x => mkW lv (line, x.1, x.2))) ++ [mkW lv (line, f, i - f)] := by simp [openR]
    rw [hap]
    have hap2 : pre ++ (c ++ [(f, i + 1 - f)]).map (fun x => mkW lv (line, x.1, x.2)) = (pre ++ c.map (fun x => mkW lv (line, x.1, x.2))) ++ [mkW lv (line, f, i + 1 - f)] := by simp
    rw [hap2] at hnx
    have hlen : (pre ++ c.map (fun x => mkW lv (line, x.1, x.2))).length ≤ 1100 := by simp [openR] at hrl ⊢; omega
    generalize pre ++ c.map (fun x => mkW lv (line, x.1, x.2)) = q at *
    refine Evs.step (h := fun k => impl_floor_walls.j4 k (q ++ [mkW lv (line, f, i - f)]) lv x6 x7 (line : Int) (i : Int) true x12 x13 x14 (N : Int) (i : Int) true cs rs) (fun k => ?_) (Evs.step (fun k => ?_) hnx)
    ·conv => lhs; unfold impl_floor_walls.l2
     rw [if_pos (by omega), hdi]
     rfl
    ·conv => lhs; unfold impl_floor_walls.j4
     have e4 : wrap64 (((q ++ [mkW lv (line, f, i - f)]).length : Int) - 1) = (q.length : Int) := by
      have hq : ((q ++ [mkW lv (line, f, i - f)]).length : Int) = (q.length : Int) + 1 := by simp
      rw [hq, zav (by omega) (by omega)]; omega
     have e5 : zas (q ++ [mkW lv (line, f, i - f)]) (q.length : Int) = mkW lv (line, f, i - f) := by
      unfold zas
      rw [Int.toNat_natCast, List.getD_eq_getElem?_getD, List.getElem?_append_right (Nat.le_refl _), Nat.sub_self]
      rfl
     have e6 : wrap64 ((mkW lv (line, f, i - f)).f3 + 1) = ((i + 1 - f : Nat) : Int) := by
      show wrap64 (((i - f : Nat) : Int) + 1) = _
      rw [zav (by omega) (by omega)]; omega
     rw [if_pos rfl, e4, if_pos (by omega), if_pos (by simp; omega), e5, e6, Int.toNat_natCast, set_last, zbi (by omega)]
     rfl
  | false =>
   rw [hb] at hdi
   have e3 : runs d (i + 1) = c ++ openR i o ∧ (runC d (i + 1)).2.isSome = false := by
    cases o with
    | none =>
     have e2 : runC d (i + 1) = (c, none) := by simp [runC, hR, hb]
     unfold runs
     rw [e2]
     exact ⟨rfl, rfl⟩
    | some f =>
     have e2 : runC d (i + 1) = (c ++ [(f, i - f)], none) := by simp [runC, hR, hb]
     unfold runs
     rw [e2]
     exact ⟨by simp [openR], rfl⟩
   rw [e3.1, e3.2] at hnx
   refine Evs.step (h := fun k => impl_floor_walls.j4 k (pre ++ (c ++ openR i o).map (fun x => mkW lv (line, x.1, x.2))) lv x6 x7 (line : Int) (i : Int) false x12 x13 x14 (N : Int) (i : Int) false cs rs) (fun k => ?_) (Evs.step (fun k => ?_) hnx)
   ·conv => lhs; unfold impl_floor_walls.l2
    rw [if_pos (by omega), hdi]
    rfl
   ·conv => lhs; unfold impl_floor_walls.j4
    rw [if_neg (by simp), if_neg (by simp), zbi (by omega)]
theorem walls_l1 {cs : List (List Int)} {rs : List Rc} (h : FloorOk cs rs) (lv : Bool) (x13 x14 : Int) (hx14 : 0 ≤ x14) (hx14' : x14 ≤ 1000) (x12 : List Bool) (pre : List Wl) (hpre : pre.length ≤ 500) (r : List Wl)
  (hnext : Evs (fun k => impl_floor_walls.l0 k (pre ++ (trip (difB cs lv) (zcp cs lv) (linesOf cs lv - 1)).map (mkW lv)) x12 x13 (x14 + 1) cs rs) r) :
  ∀ m j, j + 1 + m = linesOf cs lv → Evs (fun k => impl_floor_walls.l1 k (pre ++ (trip (difB cs lv) (zcp cs lv) j).map (mkW lv)) lv (linesOf cs lv : Int) (zcp cs lv : Int) ((j + 1 : Nat) : Int) x12 x13 x14 cs rs) r := by
 have q1 := h.h6
 have q2 := h.w6
 have hN : zcp cs lv ≤ 6 := by unfold zcp; split <;> omega
 have hL : linesOf cs lv ≤ 6 := by unfold linesOf; split <;> omega
 intro m
 induction m with
 | zero =>
  intro j hj
  have e : linesOf cs lv - 1 = j := by omega
  rw [e] at hnext
  refine Evs.step (fun k => ?_) hnext
  conv => lhs; unfold impl_floor_walls.l1
  rw [if_neg (by omega), zav (by omega) (by omega)]
 | succ m ih =>
  intro j hj
  have hnx := ih (j + 1) (by omega)
  have ht := trip_length (difB cs lv) (zcp cs lv) j
  have hm : j * zcp cs lv ≤ 6 * 6 := Nat.mul_le_mul (by omega) hN
  have e : pre ++ (trip (difB cs lv) (zcp cs lv) (j + 1)).map (mkW lv) = (pre ++ (trip (difB cs lv) (zcp cs lv) j).map (mkW lv)) ++ (runs (difB cs lv (j + 1)) (zcp cs lv)).map (fun x => mkW lv (j + 1, x.1, x.2)) := by
   simp [trip, Function.comp_def]
  rw [e] at hnx
  have := walls_l2 cs rs lv (j + 1) (by omega) (difB cs lv (j + 1)) (zcp cs lv) (by omega) (fun i hi => differ_f h lv (j + 1) i (by omega) (by omega) hi) (linesOf cs lv) (zcp cs lv) x13 x14 x12 (pre ++ (trip (difB cs lv) (zcp cs lv) j).map (mkW lv)) (by simp; omega) r hnx (zcp cs lv) 0 (by omega)
  refine Evs.step (fun k => ?_) this
  conv => lhs; unfold impl_floor_walls.l1
  rw [if_pos (by omega)]
  simp [runs, runC, openR]
theorem walls_ev {cs : List (List Int)} {rs : List Rc} (h : FloorOk cs rs) : Evs (fun k => impl_floor_walls.f k cs rs) (zbw cs) := by
 have q1 := h.h6
 have q2 := h.w6
 have q3 := h.h1
 have q4 := h.w1
 have ht := trip_length (difB cs false) cs.length (zaq cs - 1)
 have hm : (zaq cs - 1) * cs.length ≤ 6 * 6 := Nat.mul_le_mul (by omega) q1
 have end_ : Evs (fun k => impl_floor_walls.l0 k (zbw cs) [false, true] 2 2 cs rs) (zbw cs) := by
  refine Evs.step (h := fun _ => some (zbw cs)) (fun k => ?_) (Evs.const _)
  conv => lhs; unfold impl_floor_walls.l0
  rw [if_neg (by omega)]
 have two := walls_l1 h true 2 1 (by omega) (by omega) [false, true] ((trip (difB cs false) cs.length (zaq cs - 1)).map (mkW false)) (by simp; omega) _ end_ (cs.length - 1) 0 (by show 0 + 1 + _ = cs.length; omega)
 simp only [trip, List.map_nil, List.append_nil] at two
 have two' : Evs (fun k => impl_floor_walls.l0 k ((trip (difB cs false) cs.length (zaq cs - 1)).map (mkW false)) [false, true] 2 1 cs rs) (zbw cs) := by
  refine Evs.step (h := fun k => impl_floor_walls.j1 k ((trip (difB cs false) cs.length (zaq cs - 1)).map (mkW false)) true (cs.length : Int) (zaq cs : Int) [false, true] 2 1 cs rs) (fun k => ?_) (Evs.step (fun k => ?_) two)
  ·conv => lhs; unfold impl_floor_walls.l0
   rw [if_pos (by omega), if_pos (by omega), if_pos (by simp), wide_f h, high_f]
   rfl
  ·conv => lhs; unfold impl_floor_walls.j1
   rfl
 have one := walls_l1 h false 2 0 (by omega) (by omega) [false, true] [] (by simp) _ (by rw [List.nil_append]; exact two') (zaq cs - 1) 0 (by show 0 + 1 + _ = zaq cs; omega)
 simp only [trip, List.map_nil, List.append_nil] at one
 refine Evs.congr (h := fun k => impl_floor_walls.l0 k [] [false, true] 2 0 cs rs) (fun k => rfl) ?_
 refine Evs.step (h := fun k => impl_floor_walls.j1 k [] false (zaq cs : Int) (cs.length : Int) [false, true] 2 0 cs rs) (fun k => ?_) (Evs.step (fun k => ?_) one)
 ·conv => lhs; unfold impl_floor_walls.l0
  rw [if_pos (by omega), if_pos (by omega), if_pos (by simp), wide_f h, high_f]
  rfl
 ·conv => lhs; unfold impl_floor_walls.j1
  rfl
def tri (t : Nat × Nat × Nat) : List Int := [(t.1 : Int), (t.2.1 : Int), (t.2.2 : Int)]
def fromI : Option Nat → Int
 | none => -1
 | some f => (f : Int)
def difU (g : Nat → Nat → Int) (line i : Nat) : Bool := g i (line - 1) != g i line
def upsOf (g : Nat → Nat → Int) (hi wi : Nat) : List (List Int) := (trip (difU g) hi (wi - 1)).map tri
theorem up_l1 (p : List ByteArray) (wi : Nat) (h : Mid p wi) (line : Nat) (h1 : 1 ≤ line) (h2 : line < wi) (pre : List (List Int)) (hpre : pre.length ≤ 100000) (r : List (List Int))
  (hnext : Evs (fun k => spec_l2Upright.l0 k p (pre ++ (runs (difU (zbh (zao p)) line) p.length).map (fun x => tri (line, x.1, x.2))) ((line + 1 : Nat) : Int)) r) :
  ∀ m i, i + m = p.length → Evs (fun k => spec_l2Upright.l1 k p (pre ++ (runC (difU (zbh (zao p)) line) i).1.map (fun x => tri (line, x.1, x.2))) (line : Int) (fromI (runC (difU (zbh (zao p)) line) i).2) (i : Int)) r := by
 have hh := h.high
 have hw := h.wide
 generalize hdd : difU (zbh (zao p)) line = d at *
 intro m
 induction m with
 | zero =>
  intro i hi
  obtain rfl : i = p.length := by omega
  obtain ⟨g1, g2, g3⟩ := runC_inv d p.length
  unfold runs at hnext
  rcases hR : runC d p.length with ⟨c, o⟩
  rw [hR] at g1 g2 g3 hnext
  have hcl : c.length ≤ p.length := by dsimp only at g3; omega
  have hend : Evs (fun k => spec_l2Upright.l1 k p (pre ++ (c ++ openR p.length o).map (fun x => tri (line, x.1, x.2))) (line : Int) (-1) ((p.length + 1 : Nat) : Int)) r := by
   refine Evs.step (fun k => ?_) hnext
   conv => lhs; unfold spec_l2Upright.l1
   rw [if_neg (by omega), zbi (by omega)]
  refine Evs.step (h := fun k => spec_l2Upright.j2 k p (pre ++ c.map (fun x => tri (line, x.1, x.2))) (line : Int) (fromI o) (p.length : Int) false) (fun k => ?_) (Evs.step (h := fun k => spec_l2Upright.j3 k p (pre ++ c.map (fun x => tri (line, x.1, x.2))) (line : Int) (fromI o) (p.length : Int) false false) (fun k => ?_) ?_)
  ·conv => lhs; unfold spec_l2Upright.l1
   rw [if_pos (by omega), if_neg (by omega)]
  ·conv => lhs; unfold spec_l2Upright.j2
   rw [if_neg (by simp)]
  ·cases o with
   | none =>
    rw [show c ++ openR p.length none = c by simp [openR]] at hend
    refine Evs.step (fun k => ?_) hend
    conv => lhs; unfold spec_l2Upright.j3
    rw [if_neg (by simp), if_neg (by simp), if_neg (by simp [fromI]), zbi (by omega)]
    rfl
   | some f =>
    have hf := g2 f rfl
    refine Evs.step (fun k => ?_) hend
    conv => lhs; unfold spec_l2Upright.j3
    have e : wrap64 ((p.length : Int) - fromI (some f)) = ((p.length - f : Nat) : Int) := by
     show wrap64 ((p.length : Int) - (f : Int)) = _
     rw [zav (by omega) (by omega)]; omega
    rw [if_neg (by simp), if_neg (by simp), if_pos (by simp [fromI]), if_pos (by simp; omega), e, zbi (by omega)]
    simp [openR, tri, fromI]
 | succ m ih =>
  intro i hi
  have hnx := ih (i + 1) (by omega)
  obtain ⟨g1, g2, g3⟩ := runC_inv d i
  obtain ⟨s, hs⟩ : ∃ s, p[i]? = some s := ⟨_, List.getElem?_eq_getElem (by omega)⟩
  have hsz := h.row s (List.mem_of_getElem? hs)
  obtain ⟨row, q1, q2⟩ := valAt_get h.rect (r := i) (c := line - 1) (by rw [zbn]; omega) (by omega)
  obtain ⟨row', q3, q4⟩ := valAt_get h.rect (r := i) (c := line) (by rw [zbn]; omega) (by omega)
  have hrow : (zao p)[i]? = some (bytesOf s) := by unfold zao; rw [List.getElem?_map, hs]; rfl
  obtain rfl : row = bytesOf s := by rw [hrow] at q1; exact (Option.some.inj q1).symm
  obtain rfl : row' = bytesOf s := by rw [hrow] at q3; exact (Option.some.inj q3).symm
  have hdi : (bt s ((line - 1 : Nat) : Int) != bt s (line : Int)) = d i := by rw [bt_get q2, bt_get q4, ← hdd]; rfl
  rcases hR : runC d i with ⟨c, o⟩
  rw [hR] at g1 g2 g3
  have hcl : c.length ≤ i := by dsimp only at g3; omega
  have el : wrap64 ((line : Int) - 1) = ((line - 1 : Nat) : Int) := by rw [zav (by omega) (by omega)]; omega
  refine Evs.step (h := fun k => spec_l2Upright.j2 k p (pre ++ c.map (fun x => tri (line, x.1, x.2))) (line : Int) (fromI o) (i : Int) (d i)) (fun k => ?_) ?_
  ·conv => lhs; unfold spec_l2Upright.l1
   rw [if_pos (by omega), if_pos (by omega), if_pos (by omega), el, zcm hs, if_pos (by omega), if_pos (by omega), if_pos (by omega), if_pos (by omega), hdi]
  ·cases hb : d i with
   | true =>
    cases o with
    | none =>
     have e2 : runC d (i + 1) = (c, some i) := by simp only [runC, hR, hb, if_true]
     rw [e2] at hnx
     refine Evs.step (h := fun k => spec_l2Upright.j3 k p (pre ++ c.map (fun x => tri (line, x.1, x.2))) (line : Int) (fromI none) (i : Int) true true) (fun k => ?_) (Evs.step (fun k => ?_) hnx)
     ·conv => lhs; unfold spec_l2Upright.j2
      rw [if_pos rfl]
      rfl
     ·conv => lhs; unfold spec_l2Upright.j3
      rw [if_pos rfl, if_pos rfl, zbi (by omega)]
      rfl
    | some f =>
     have e2 : runC d (i + 1) = (c, some f) := by simp only [runC, hR, hb, if_true]
     rw [e2] at hnx
     refine Evs.step (h := fun k => spec_l2Upright.j3 k p (pre ++ c.map (fun x => tri (line, x.1, x.2))) (line : Int) (fromI (some f)) (i : Int) true false) (fun k => ?_) (Evs.step (fun k => ?_) hnx)
     ·conv => lhs; unfold spec_l2Upright.j2
      rw [if_pos rfl, decide_eq_false (by simp [fromI])]
     ·conv => lhs; unfold spec_l2Upright.j3
      rw [if_neg (by simp), if_pos rfl, zbi (by omega)]
   | false =>
    refine Evs.step (h := fun k => spec_l2Upright.j3 k p (pre ++ c.map (fun x => tri (line, x.1, x.2))) (line : Int) (fromI o) (i : Int) false false) (fun k => ?_) ?_
    ·conv => lhs; unfold spec_l2Upright.j2
     rw [if_neg (by simp)]
    cases o with
    | none =>
     have e2 : runC d (i + 1) = (c, none) := by simp [runC, hR, hb]
     rw [e2] at hnx
     refine Evs.step (fun k => ?_) hnx
     conv => lhs; unfold spec_l2Upright.j3
     rw [if_neg (by simp), if_neg (by simp), if_neg (by simp [fromI]), zbi (by omega)]
    | some f =>
     have hf := g2 f rfl
     have e2 : runC d (i + 1) = (c ++ [(f, i - f)], none) := by simp [runC, hR, hb]
     rw [e2] at hnx
     refine Evs.step (fun k => ?_) hnx
     conv => lhs; unfold spec_l2Upright.j3
     have e : wrap64 ((i : Int) - fromI (some f)) = ((i - f : Nat) : Int) := by
      show wrap64 ((i : Int) - (f : Int)) = _
      rw [zav (by omega) (by omega)]; omega
     rw [if_neg (by simp), if_neg (by simp), if_pos (by simp [fromI]), if_pos (by simp; omega), e, zbi (by omega)]
     simp [tri, fromI]
theorem up_l0 (p : List ByteArray) (wi : Nat) (h : Mid p wi) (h1 : 1 ≤ p.length) (hw1 : 1 ≤ wi) : ∀ m j, j + 1 + m = wi → Evs (fun k => spec_l2Upright.l0 k p ((trip (difU (zbh (zao p))) p.length j).map tri) ((j + 1 : Nat) : Int)) (upsOf (zbh (zao p)) p.length wi) := by
 have hh := h.high
 have hw := h.wide
 obtain ⟨s, hs⟩ : ∃ s, p[0]? = some s := ⟨_, List.getElem?_eq_getElem (by omega)⟩
 have hsz := h.row s (List.mem_of_getElem? hs)
 have e0 : rdOf ByteArray.empty p 0 = s := zcm (i := 0) hs
 intro m
 induction m with
 | zero =>
  intro j hj
  have e : wi - 1 = j := by omega
  unfold upsOf
  rw [e]
  refine Evs.step (h := fun _ => some ((trip (difU (zbh (zao p))) p.length j).map tri)) (fun k => ?_) (Evs.const _)
  conv => lhs; unfold spec_l2Upright.l0
  rw [if_pos (by omega), e0, if_neg (by omega)]
 | succ m ih =>
  intro j hj
  have hnx := ih (j + 1) (by omega)
  have ht := trip_length (difU (zbh (zao p))) p.length j
  have hm : j * p.length ≤ 100 * 100 := Nat.mul_le_mul (by omega) hh
  have e : (trip (difU (zbh (zao p))) p.length (j + 1)).map tri = (trip (difU (zbh (zao p))) p.length j).map tri ++ (runs (difU (zbh (zao p)) (j + 1)) p.length).map (fun x => tri (j + 1, x.1, x.2)) := by
   simp [trip, Function.comp_def]
  rw [e] at hnx
  have := up_l1 p wi h (j + 1) (by omega) (by omega) ((trip (difU (zbh (zao p))) p.length j).map tri) (by simp; omega) _ hnx p.length 0 (by omega)
  refine Evs.step (fun k => ?_) this
  conv => lhs; unfold spec_l2Upright.l0
  rw [if_pos (by omega), e0, if_pos (by omega)]
  simp [runC, fromI]
theorem l2Upright_ev (p : List ByteArray) (wi : Nat) (h : Mid p wi) (h1 : 1 ≤ p.length) (hw1 : 1 ≤ wi) : Evs (fun k => spec_l2Upright.f k p) (upsOf (zbh (zao p)) p.length wi) := by
 have := up_l0 p wi h h1 hw1 (wi - 1) 0 (by omega)
 refine Evs.congr (fun k => ?_) this
 unfold spec_l2Upright.f
 simp [trip]
def upT (cs : List (List Int)) : List (Nat × Nat × Nat) := trip (difB cs false) cs.length (zaq cs - 1)
def levT (cs : List (List Int)) : List (Nat × Nat × Nat) := trip (difB cs true) (zaq cs) (cs.length - 1)
theorem PlanFacts.mid {p : List ByteArray} {cs : List (List Int)} {rs : List Rc} (F : PlanFacts p cs rs) : Mid p (zaq cs) := by
 have hsm := gridOk_small F.canon.grid
 rw [F.wide] at hsm
 exact ⟨by have := hsm.high; omega, by have := hsm.wide; omega, hsm.row⟩
theorem bne_add (a b : Int) : (97 + a != 97 + b) = (a != b) := by
 rw [Bool.eq_iff_iff, bne_iff_ne, bne_iff_ne]
 omega
theorem up_plan {p : List ByteArray} {cs : List (List Int)} {rs : List Rc} (F : PlanFacts p cs rs) : Evs (fun k => spec_l2Upright.f k p) ((upT cs).map tri) := by
 have o1 := F.ok.h1
 have o2 := F.ok.w1
 have l1 := F.len
 have := l2Upright_ev p (zaq cs) F.mid (by omega) o2
 have e : upsOf (zbh (zao p)) p.length (zaq cs) = (upT cs).map tri := by
  unfold upsOf upT
  rw [l1]
  congr 1
  refine trip_congr _ fun l i h1 h2 h3 => ?_
  unfold difU difB
  rw [F.nums, valAt_map F.ok.rect _ h3 (by omega), valAt_map F.ok.rect _ h3 (by omega)]
  exact bne_add _ _
 rwa [e] at this
theorem trans_plan {p : List ByteArray} {cs : List (List Int)} {rs : List Rc} (F : PlanFacts p cs rs) : Evs (fun k => spec_l1Trans.f k p) (transOf p (zaq cs)) := by
 have o1 := F.ok.h1
 have l1 := F.len
 exact l1Trans_ev p (zaq cs) F.mid (by omega)
theorem lev_plan {p : List ByteArray} {cs : List (List Int)} {rs : List Rc} (F : PlanFacts p cs rs) : Evs (fun k => spec_l2Upright.f k (transOf p (zaq cs))) ((levT cs).map tri) := by
 have o1 := F.ok.h1
 have o2 := F.ok.w1
 have l1 := F.len
 have hM := mid_trans F.mid
 have := l2Upright_ev (transOf p (zaq cs)) p.length hM (by rw [trans_length]; exact o2) (by omega)
 have e : upsOf (zbh (zao (transOf p (zaq cs)))) (transOf p (zaq cs)).length p.length = (levT cs).map tri := by
  unfold upsOf levT
  rw [l1, trans_length, numsOf_trans, l1]
  congr 1
  refine trip_congr _ fun l i h1 h2 h3 => ?_
  unfold difU difB
  rw [valAt_gridOf h3 (by omega), valAt_gridOf h3 (by omega), F.nums, valAt_map F.ok.rect _ (by omega) h3, valAt_map F.ok.rect _ (by omega) h3]
  exact bne_add _ _
 rwa [e] at this
theorem wallsOf_eq (cs : List (List Int)) : zbw cs = (upT cs).map (mkW false) ++ (levT cs).map (mkW true) := rfl
theorem wall_bound {cs : List (List Int)} {rs : List Rc} (h : FloorOk cs rs) : (upT cs).length ≤ 36 ∧ (levT cs).length ≤ 36 := by
 have q1 := h.h6
 have q2 := h.w6
 have h1 := trip_length (difB cs false) cs.length (zaq cs - 1)
 have h2 := trip_length (difB cs true) (zaq cs) (cs.length - 1)
 have m1 : (zaq cs - 1) * cs.length ≤ 6 * 6 := Nat.mul_le_mul (by omega) q1
 have m2 : (cs.length - 1) * zaq cs ≤ 6 * 6 := Nat.mul_le_mul (by omega) q2
 unfold upT levT
 omega
def four (kind : Int) (t : Nat × Nat × Nat) : List Int := [kind, (t.1 : Int), (t.2.1 : Int), (t.2.2 : Int)]
def walls4 (cs : List (List Int)) : List (List Int) := (upT cs).map (four 0) ++ (levT cs).map (four 1)
theorem rdL_map {f : Nat × Nat × Nat → List Int} {L : List (Nat × Nat × Nat)} {i : Nat} {x : Nat × Nat × Nat} (hx : L[i]? = some x) : zbl (L.map f) (i : Int) = f x := by
 unfold zbl
 rw [Int.toNat_natCast, List.getD_eq_getElem?_getD, List.getElem?_map, hx]
 rfl
theorem walls_sl1 (L : List (Nat × Nat × Nat)) (hL : L.length ≤ 1000) (pre : List (List Int)) (hpre : pre.length ≤ 1000) : ∀ m i, i + m = L.length → Evs (fun k => spec_l2Walls.l1 k (pre ++ (L.take i).map (four 1)) (L.map tri) (i : Int)) (pre ++ L.map (four 1)) := by
 intro m
 induction m with
 | zero =>
  intro i hi
  rw [List.take_of_length_le (by omega)]
  refine Evs.step (h := fun _ => some (pre ++ L.map (four 1))) (fun k => ?_) (Evs.const _)
  conv => lhs; unfold spec_l2Walls.l1
  rw [if_neg (by simp; omega)]
 | succ m ih =>
  intro i hi
  obtain ⟨x, hx⟩ : ∃ x, L[i]? = some x := ⟨_, List.getElem?_eq_getElem (by omega)⟩
  have hnx := ih (i + 1) (by omega)
  rw [List.take_add_one, hx, List.map_append, ← List.append_assoc] at hnx
  refine Evs.step (fun k => ?_) hnx
  conv => lhs; unfold spec_l2Walls.l1
  rw [if_pos (by simp; omega)]
  simp only [Option.bind_some]
  rw [rdL_map hx, if_pos (by omega), if_pos (by simp [tri]), if_pos (by simp; omega), zbi (by omega)]
  rfl
theorem walls_sl0 {p : List ByteArray} {cs : List (List Int)} {rs : List Rc} (F : PlanFacts p cs rs) : ∀ m i, i + m = (upT cs).length → Evs (fun k => spec_l2Walls.l0 k p (((upT cs).take i).map (four 0)) ((upT cs).map tri) (i : Int)) (walls4 cs) := by
 have hb := wall_bound F.ok
 intro m
 induction m with
 | zero =>
  intro i hi
  rw [List.take_of_length_le (by omega)]
  have := walls_sl1 (levT cs) (by omega) ((upT cs).map (four 0)) (by simp; omega) (levT cs).length 0 (by omega)
  simp only [List.take_zero, List.map_nil, List.append_nil] at this
  refine Evs.step (h := fun k => (spec_l1Trans.f k p).bind fun t498 => ((spec_l2Upright.f k t498).bind fun t501 => (spec_l2Walls.l1 k ((upT cs).map (four 0)) t501 0))) (fun k => ?_) (Evs.bind (trans_plan F) (Evs.bind (lev_plan F) this))
  conv => lhs; unfold spec_l2Walls.l0
  rw [if_neg (by simp; omega)]
 | succ m ih =>
  intro i hi
  obtain ⟨x, hx⟩ : ∃ x, (upT cs)[i]? = some x := ⟨_, List.getElem?_eq_getElem (by omega)⟩
  have hnx := ih (i + 1) (by omega)
  rw [List.take_add_one, hx, List.map_append] at hnx
  refine Evs.step (fun k => ?_) hnx
  conv => lhs; unfold spec_l2Walls.l0
  rw [if_pos (by simp; omega)]
  simp only [Option.bind_some]
  rw [rdL_map hx, if_pos (by omega), if_pos (by simp [tri]), if_pos (by simp; omega), zbi (by omega)]
  rfl
theorem l2Walls_ev {p : List ByteArray} {cs : List (List Int)} {rs : List Rc} (F : PlanFacts p cs rs) : Evs (fun k => spec_l2Walls.f k p) (walls4 cs) := by
 have := walls_sl0 F (upT cs).length 0 (by omega)
 refine Evs.congr (h := fun k => (spec_l2Upright.f k p).bind fun t485 => (spec_l2Walls.l0 k p (([] : List (List Int))) t485 0)) (fun k => rfl) (Evs.bind (up_plan F) ?_)
 simpa using this
def allT (cs : List (List Int)) : List (Nat × Nat × Nat) := upT cs ++ levT cs
abbrev kWl := k79
def zeroW : Wl := ⟨false, 0, 0, 0⟩
theorem wl_cells {W : World} {B g n cap : Nat} {ok : Nat → Prop} {ws : List Wl} (h : Kd.R kWl 79 W B ok (.slice (some ⟨g, 0, none⟩) n cap) ws) (k : Nat) (hk : k < ws.length) :
  W.cell? ⟨g, k * 4, none⟩ = some (.bool (ws.getD k zeroW).f0) ∧ W.cell? ⟨g, k * 4 + 1, none⟩ = some (.int .i64 (ws.getD k zeroW).f1) ∧ W.cell? ⟨g, k * 4 + 2, none⟩ = some (.int .i64 (ws.getD k zeroW).f2) ∧ W.cell? ⟨g, k * 4 + 3, none⟩ = some (.int .i64 (ws.getD k zeroW).f3) := by
 obtain ⟨A, c, e, hl, hC⟩ := Kd.R_reads h
 injection e with e1 e2 e3
 subst e1; subst e2
 obtain ⟨ad, e4, h0, h1, h2, h3⟩ := at_T79 hC (k : Int) (by omega) (by omega)
 injection e4 with e4
 subst e4
 have e5 : zas ws (k : Int) = ws.getD k zeroW := by
  unfold zas
  rw [show ((k : Int).toNat) = k by omega]
  rfl
 rw [show ((k : Int).toNat) = k by omega, add_plain, e5] at h0 h1 h2 h3
 exact ⟨h0, h1, h2, h3⟩
theorem wallsOf_length (cs : List (List Int)) : (zbw cs).length = (allT cs).length := by simp [wallsOf_eq, allT]
theorem wallsOf_bound {cs : List (List Int)} {rs : List Rc} (h : FloorOk cs rs) : (zbw cs).length ≤ 72 := by
 have := wall_bound h
 rw [wallsOf_length]
 unfold allT
 rw [List.length_append]
 omega
theorem take_snoc_w (L : List Wl) (i : Nat) (hi : i < L.length) : L.take (i + 1) = L.take i ++ [L.getD i zeroW] := by
 rw [List.take_add_one, List.getElem?_eq_getElem hi]
 simp [List.getD_eq_getElem?_getD, List.getElem?_eq_getElem hi]
def endOf (cs : List (List Int)) (lv : Bool) : Int := if lv = true then (zaq cs : Int) else (cs.length : Int)
theorem end_f {cs : List (List Int)} {rs : List Rc} (h : FloorOk cs rs) (lv : Bool) (a b c : Int) : impl_floor_end.f cs rs lv a b c = some (endOf cs lv) := by
 unfold impl_floor_end.f endOf
 cases lv with
 | true => rw [if_pos rfl, if_pos rfl, wide_f h]; rfl
 | false => rw [if_neg (by simp), if_neg (by simp), high_f]; rfl
theorem rdT_wall (ws : List Wl) (i : Nat) : zas ws (i : Int) = ws.getD i zeroW := by
 unfold zas
 rw [Int.toNat_natCast]
 rfl
def cutW (cs : List (List Int)) (a : Wl) : Bool := decide (a.f3 = endOf cs a.f0)
def cutP (cs : List (List Int)) (i : Nat) : List Nat := (List.range i).filter fun j => cutW cs ((zbw cs).getD j zeroW)
def cutN (cs : List (List Int)) : List Nat := cutP cs (zbw cs).length
def toI (L : List Nat) : List Int := L.map fun (n : Nat) => (n : Int)
theorem cutP_succ (cs : List (List Int)) (i : Nat) : cutP cs (i + 1) = cutP cs i ++ (if cutW cs ((zbw cs).getD i zeroW) = true then [i] else []) := by
 unfold cutP
 rw [List.range_succ, List.filter_append, List.filter_cons, List.filter_nil]
theorem cutP_length (cs : List (List Int)) (i : Nat) : (cutP cs i).length ≤ i := by
 unfold cutP
 have := List.length_filter_le (fun j => cutW cs ((zbw cs).getD j zeroW)) (List.range i)
 rw [List.length_range] at this
 exact this
theorem toI_length (L : List Nat) : (toI L).length = L.length := by simp [toI]
theorem toI_append (L M : List Nat) : toI (L ++ M) = toI L ++ toI M := by simp [toI]
theorem cutting_l0 {cs : List (List Int)} {rs : List Rc} (h : FloorOk cs rs) : ∀ m i, i + m = (zbw cs).length → Evs (fun k => impl_floor_cutting.l0 k (toI (cutP cs i)) (zbw cs) ((zbw cs).length : Int) (i : Int) cs rs) (toI (cutN cs)) := by
 have hb := wallsOf_bound h
 intro m
 induction m with
 | zero =>
  intro i hi
  obtain rfl : i = (zbw cs).length := by omega
  refine Evs.step (h := fun _ => some (toI (cutN cs))) (fun k => ?_) (Evs.const _)
  conv => lhs; unfold impl_floor_cutting.l0
  rw [if_neg (by omega)]
  rfl
 | succ m ih =>
  intro i hi
  have hnx := ih (i + 1) (by omega)
  have hl := cutP_length cs i
  rw [cutP_succ, toI_append] at hnx
  refine Evs.step (fun k => ?_) hnx
  conv => lhs; unfold impl_floor_cutting.l0
  rw [if_pos (by omega), if_pos (by omega), if_pos (by omega), rdT_wall, end_f h, Option.bind_some, zbi (by omega)]
  by_cases hc : ((zbw cs).getD i zeroW).f3 = endOf cs ((zbw cs).getD i zeroW).f0
  ·rw [if_pos hc, if_pos (by rw [toI_length]; omega), if_pos (show cutW cs ((zbw cs).getD i zeroW) = true from decide_eq_true hc)]
   rfl
  ·rw [if_neg hc, if_neg (show ¬ cutW cs ((zbw cs).getD i zeroW) = true by unfold cutW; rw [decide_eq_false hc]; simp)]
   rw [show toI [] = [] from rfl, List.append_nil]
theorem cutting_ev {cs : List (List Int)} {rs : List Rc} (h : FloorOk cs rs) : Evs (fun k => impl_floor_cutting.f k cs rs) (toI (cutN cs)) :=
 Evs.bind (walls_ev h) (cutting_l0 h (zbw cs).length 0 (by omega))
def fourW (a : Wl) : List Int := [if a.f0 = true then 1 else 0, a.f1, a.f2, a.f3]
theorem walls4_eq (cs : List (List Int)) : walls4 cs = (zbw cs).map fourW := by
 unfold walls4
 rw [wallsOf_eq, List.map_append, List.map_map, List.map_map]
 rfl
theorem walls4_len (cs : List (List Int)) : (walls4 cs).length = (zbw cs).length := by rw [walls4_eq, List.length_map]
theorem walls4_at (cs : List (List Int)) (i : Nat) (hi : i < (zbw cs).length) : zbl (walls4 cs) (i : Int) = fourW ((zbw cs).getD i zeroW) := by
 unfold zbl
 rw [walls4_eq, Int.toNat_natCast, List.getD_eq_getElem?_getD, List.getElem?_map, List.getElem?_eq_getElem hi, List.getD_eq_getElem?_getD, List.getElem?_eq_getElem hi]
 rfl
theorem size0 {p : List ByteArray} {cs : List (List Int)} {rs : List Rc} (F : PlanFacts p cs rs) : ((rdOf ByteArray.empty p 0).size : Int) = (zaq cs : Int) := by
 rw [← F.wide, wideOf_numsOf]
 rfl
theorem l3Long_f {p : List ByteArray} {cs : List (List Int)} {rs : List Rc} (F : PlanFacts p cs rs) (a : Wl) : spec_l3Long.f p (fourW a) = some (cutW cs a) := by
 obtain ⟨lv, a1, a2, a3⟩ := a
 have o1 := F.ok.h1
 have l1 := F.len
 have s0 := size0 F
 cases lv with
 | false =>
  have t0 : rd (fourW ⟨false, a1, a2, a3⟩) 0 = 0 := rfl
  have t3 : rd (fourW ⟨false, a1, a2, a3⟩) 3 = a3 := rfl
  have tl : ((fourW ⟨false, a1, a2, a3⟩).length : Int) = 4 := rfl
  unfold spec_l3Long.f
  rw [tl, t0, t3, if_pos (by omega), if_pos rfl, if_pos (by omega)]
  by_cases hc : a3 = (p.length : Int)
  ·rw [if_pos hc]
   unfold cutW endOf
   rw [if_neg (by simp), decide_eq_true (by dsimp only; omega)]
  ·rw [if_neg hc, if_neg (by omega)]
   unfold cutW endOf
   rw [if_neg (by simp), decide_eq_false (by dsimp only; omega)]
 | true =>
  have t0 : rd (fourW ⟨true, a1, a2, a3⟩) 0 = 1 := rfl
  have t3 : rd (fourW ⟨true, a1, a2, a3⟩) 3 = a3 := rfl
  have tl : ((fourW ⟨true, a1, a2, a3⟩).length : Int) = 4 := rfl
  unfold spec_l3Long.f
  rw [tl, t0, t3, if_pos (by omega), if_neg (by omega), if_pos rfl, if_pos (by omega), if_pos (by omega), s0]
  unfold cutW endOf
  rw [if_pos rfl]
  rfl
def cutManyF (p : List ByteArray) : Int × Bool := match zcn p with
 | none => (0, false)
 | some (cs, _) => ((cutN cs).length, true)
def headF : List Nat → Int × Bool
 | [] => (0, false)
 | i :: _ => ((i : Int), true)
def zcc (p : List ByteArray) : Int × Bool := match zcn p with
 | none => (0, false)
 | some (cs, _) => headF (cutN cs)
def wallListF (p : List ByteArray) : List (List Int) × Bool := match zcn p with
 | none => ([], false)
 | some (cs, _) => (walls4 cs, true)
theorem cutFirst_l0 {p : List ByteArray} {cs : List (List Int)} {rs : List Rc} (F : PlanFacts p cs rs) : ∀ m i, i + m = (zbw cs).length → Evs (fun k => spec_CutFirst.l0 k p (walls4 cs) (i : Int)) (headF ((List.range' i m).filter fun j => cutW cs ((zbw cs).getD j zeroW))) := by
 have hb := wallsOf_bound F.ok
 intro m
 induction m with
 | zero =>
  intro i hi
  refine Evs.step (h := fun _ => some (0, false)) (fun k => ?_) (Evs.const _)
  conv => lhs; unfold spec_CutFirst.l0
  rw [if_neg (by rw [walls4_len]; omega)]
 | succ m ih =>
  intro i hi
  have hnx := ih (i + 1) (by omega)
  rw [List.range'_succ, List.filter_cons]
  cases hc : cutW cs ((zbw cs).getD i zeroW) with
  | true =>
   rw [if_pos rfl]
   refine Evs.step (h := fun _ => some ((i : Int), true)) (fun k => ?_) (Evs.const _)
   conv => lhs; unfold spec_CutFirst.l0
   rw [if_pos (by rw [walls4_len]; omega), if_pos (by omega), walls4_at cs i (by omega), l3Long_f F, Option.bind_some, hc, if_pos rfl]
  | false =>
   rw [if_neg (by simp)]
   refine Evs.step (fun k => ?_) hnx
   conv => lhs; unfold spec_CutFirst.l0
   rw [if_pos (by rw [walls4_len]; omega), if_pos (by omega), walls4_at cs i (by omega), l3Long_f F, Option.bind_some, hc, if_neg (by simp), zbi (by omega)]
theorem CutFirst_ev (p : List ByteArray) (hp : smallP p) : Evs (fun k => spec_CutFirst.f k p) (zcc p) := by
 have h1 := PlanIn_ev p hp
 rcases planB_cases p with ⟨e1, f1⟩ | ⟨e1, cs, rs, f1⟩
 ·rw [e1] at h1
  have : zcc p = (0, false) := by unfold zcc; rw [f1]
  rw [this]
  refine Evs.bind h1 ?_
  exact Evs.neg (by simp) (Evs.const _)
 ·rw [e1] at h1
  have F := floor_facts f1
  have : zcc p = headF (cutN cs) := by unfold zcc; rw [f1]
  rw [this]
  have hz := cutFirst_l0 F (zbw cs).length 0 (by omega)
  rw [← List.range_eq_range'] at hz
  exact Evs.bind h1 (Evs.pos rfl (Evs.bind (l2Walls_ev F) hz))
set_option maxHeartbeats 4000000 in
set_option maxRecDepth 100000 in
theorem CutMany_calls (A0 : Option Addr) (c0 : Nat) (l0 : List ByteArray) (w : World) (hr0 : Kd.C Kd.string w A0 l0.length l0) (hc0 : l0.length ≤ c0) (hp : smallP l0) :
  Calls Try.prog 45 #[.slice A0 l0.length c0] w fun e w' => e = .returned (.tuple #[.int .i64 (cutManyF l0).1, .bool (cutManyF l0).2]) ∧ Below w.heap.size w w' := by
 have HR := zab.mk hr0
 have HC := zab.mk hc0
 have HP := zab.mk hp
 clear hr0 hc0 hp
 generalize hM : cutManyF l0 = res
 have HM := zab.mk hM
 clear hM
 generalize hF : zcn l0 = t
 have HF := zab.mk hF
 clear hF
 rcases t with _ | ⟨cs, rs⟩
 ·have e : res = (0, false) := by rw [← HM.out]; unfold cutManyF; rw [HF.out]
  subst e
  go_enter Try.func45, Try.ntmps45
  go_wp2_with (first
   | (go_at_call 66; refine (floorOf_calls A0 c0 l0 _ HR.out HC.out HP.out).mono ?_; rw [HF.out]; rintro e w8 ⟨hb8, v8, b8, rfl, rfl⟩; have HB8 := zab.mk hb8; clear hb8))
  go_ret2
  exact ⟨rfl, HB8.out⟩
 ·have e : res = (((cutN cs).length : Int), true) := by rw [← HM.out]; unfold cutManyF; rw [HF.out]
  have HE := zab.mk e
  have hok := floorF_ok HF.out
  obtain ⟨K, hK⟩ := cutting_ev hok
  have HW := zab.mk (hK K (Nat.le_refl K))
  have hl : (toI (cutN cs)).length = (cutN cs).length := toI_length _
  have HL := zab.mk hl
  clear hK e hl hok
  generalize toI (cutN cs) = cl at *
  go_enter Try.func45, Try.ntmps45
  go_wp2_with (first
   | (go_at_call 66; refine (floorOf_calls A0 c0 l0 _ HR.out HC.out HP.out).mono ?_; rw [HF.out]; rintro e w8 ⟨hb8, v8, b8, rfl, rfl, g, rfl, hfl⟩; have HB8 := zab.mk hb8; have HFl8 := zab.mk hfl; clear hb8 hfl)
   | (go_at_call 97; refine (impl_floor_cutting.calls K g cs rs cl _ _ HFl8.out (Below.refl _ _) HW.out).mono ?_; rintro e w9 ⟨v9, rfl, hr9, -, hb9, -⟩; obtain ⟨A9, c9, e9⟩ := Kd.R_slice hr9; subst e9; have HB9 := zab.mk (zag HB8.out hb9); clear hb9 hr9))
  go_ret2
  rw [HE.out, ← HL.out]
  exact ⟨rfl, HB9.out⟩
set_option maxHeartbeats 4000000 in
set_option maxRecDepth 100000 in
theorem CutFirst_calls (A0 : Option Addr) (c0 : Nat) (l0 : List ByteArray) (w : World) (hr0 : Kd.C Kd.string w A0 l0.length l0) (hc0 : l0.length ≤ c0) (hp : smallP l0) :
  Calls Try.prog 43 #[.slice A0 l0.length c0] w fun e w' => e = .returned (.tuple #[.int .i64 (zcc l0).1, .bool (zcc l0).2]) ∧ Below w.heap.size w w' := by
 have HR := zab.mk hr0
 have HC := zab.mk hc0
 have HP := zab.mk hp
 clear hr0 hc0 hp
 generalize hM : zcc l0 = res
 have HM := zab.mk hM
 clear hM
 generalize hF : zcn l0 = t
 have HF := zab.mk hF
 clear hF
 rcases t with _ | ⟨cs, rs⟩
 ·have e : res = (0, false) := by rw [← HM.out]; unfold zcc; rw [HF.out]
  subst e
  go_enter Try.func43, Try.ntmps43
  go_wp2_with (first
   | (go_at_call 66; refine (floorOf_calls A0 c0 l0 _ HR.out HC.out HP.out).mono ?_; rw [HF.out]; rintro e w8 ⟨hb8, v8, b8, rfl, rfl⟩; have HB8 := zab.mk hb8; clear hb8))
  go_ret2
  exact ⟨rfl, HB8.out⟩
 ·have e : res = headF (cutN cs) := by rw [← HM.out]; unfold zcc; rw [HF.out]
  have hok := floorF_ok HF.out
  obtain ⟨K, hK⟩ := cutting_ev hok
  have HW := zab.mk (hK K (Nat.le_refl K))
  have hle : (cutN cs).length ≤ 72 := by
   have := cutP_length cs (zbw cs).length
   have := wallsOf_bound hok
   unfold cutN
   omega
  clear hK hok
  generalize cutN cs = cn at *
  rcases cn with _ | ⟨i, cn⟩
  ·have HE := zab.mk (show res = (0, false) from e)
   clear e hle
   go_enter Try.func43, Try.ntmps43
   go_wp2_with (first
    | (go_at_call 66; refine (floorOf_calls A0 c0 l0 _ HR.out HC.out HP.out).mono ?_; rw [HF.out]; rintro e w8 ⟨hb8, v8, b8, rfl, rfl, g, rfl, hfl⟩; have HB8 := zab.mk hb8; have HFl8 := zab.mk hfl; clear hb8 hfl)
    | (go_at_call 97; refine (impl_floor_cutting.calls K g cs rs (toI []) _ _ HFl8.out (Below.refl _ _) HW.out).mono ?_; rintro e w9 ⟨v9, rfl, hr9, -, hb9, -⟩; obtain ⟨A9, c9, e9⟩ := Kd.R_slice hr9; subst e9; rw [show (toI []).length = 0 from rfl]; have HB9 := zab.mk (zag HB8.out hb9); clear hb9 hr9))
   go_ret2
   rw [HE.out]
   exact ⟨rfl, HB9.out⟩
  ·have HE := zab.mk (show res = ((i : Int), true) from e)
   have hl : (toI (i :: cn)).length = cn.length + 1 := by rw [toI_length]; rfl
   have h0 : rd (toI (i :: cn)) 0 = (i : Int) := rfl
   have HL := zab.mk hl
   have H0 := zab.mk h0
   rw [List.length_cons] at hle
   clear e hl h0
   generalize toI (i :: cn) = cl at *
   have d0 : (((cn.length + 1 : Nat) : Int) == 0) = false := by rw [beq_eq_false_iff_ne]; omega
   have d1 : (0 : Int) < ((cn.length + 1 : Nat) : Int) := by omega
   go_enter Try.func43, Try.ntmps43
   go_wp2_with (first
    | (go_at_call 66; refine (floorOf_calls A0 c0 l0 _ HR.out HC.out HP.out).mono ?_; rw [HF.out]; rintro e w8 ⟨hb8, v8, b8, rfl, rfl, g, rfl, hfl⟩; have HB8 := zab.mk hb8; have HFl8 := zab.mk hfl; clear hb8 hfl)
    | (go_at_call 97; refine (impl_floor_cutting.calls K g cs rs cl _ _ HFl8.out (Below.refl _ _) HW.out).mono ?_; rintro e w9 ⟨v9, rfl, hr9, -, hb9, -⟩; obtain ⟨A8, c8, e8⟩ := Kd.R_slice hr9; subst e8; rw [HL.out]; have HB9 := zab.mk (zag HB8.out hb9); have HF9 := zab.mk (HFl8.out.below hb9); clear hb9 hr9)
    | (go_at_call 97; refine (impl_floor_cutting.calls K g cs rs cl _ _ HF9.out (Below.refl _ _) HW.out).mono ?_; rintro e w10 ⟨v10, rfl, hr10, -, hb10, -⟩; obtain ⟨g9, c9, e9, -, -, -, -⟩ := Kd.R_form hr10 (by rw [HL.out]; omega); subst e9; have hx10 := (Kd.R_celln (0 : Int) hr10 0 (by omega) (by rw [HL.out]; omega)).1; rw [show rdOf (0 : Int) cl 0 = (i : Int) from H0.out] at hx10; replace hx10 : w10.cell? ⟨g9, 0, none⟩ = some (.int .i64 (i : Int)) := hx10; rw [HL.out]; have HB10 := zab.mk (zag HB9.out hb10); clear hb10 hr10))
   go_ret2
   rw [HE.out]
   exact ⟨rfl, HB10.out⟩
def impl_CutFirst.f (l0 : List ByteArray) : Option (Int × Bool) := if smallB l0 = true then some (zcc l0) else none
theorem impl_CutFirst.calls (A0 : Option Addr) (c0 : Nat) (l0 : List ByteArray) (r1 : Int) (r2 : Bool) (w : World) (hr0 : Kd.C Kd.string w A0 l0.length l0) (hc0 : l0.length ≤ c0) (h : impl_CutFirst.f l0 = some (r1, r2)) :
  Calls Try.prog 43 #[.slice A0 l0.length c0] w fun e w' => e = .returned (.tuple #[.int .i64 r1, .bool r2]) ∧ Below w.heap.size w w' := by
 unfold impl_CutFirst.f at h
 split at h
 ·rename_i hs
  have e := Option.some.inj h
  have := CutFirst_calls A0 c0 l0 w hr0 hc0 ((smallB_iff _).1 hs)
  rw [e] at this
  exact this
 ·cases h
set_option maxHeartbeats 4000000 in
set_option maxRecDepth 100000 in
theorem WallList_calls (A0 : Option Addr) (c0 : Nat) (l0 : List ByteArray) (w : World) (hr0 : Kd.C Kd.string w A0 l0.length l0) (hc0 : l0.length ≤ c0) (hp : smallP l0) :
  Calls Try.prog 24 #[.slice A0 l0.length c0] w fun e w' => ∃ v0_ : Value, e = .returned (.tuple #[v0_, .bool (wallListF l0).2]) ∧ Kd.S (Kd.slice 3 (Kd.int .i64)) 39 w' w.heap.size (fun _ => True) v0_ (wallListF l0).1 ∧ Below w.heap.size w w' := by
 have HR := zab.mk hr0
 have HC := zab.mk hc0
 have HP := zab.mk hp
 clear hr0 hc0 hp
 generalize hM : wallListF l0 = res
 have HM := zab.mk hM
 clear hM
 generalize hF : zcn l0 = t
 have HF := zab.mk hF
 clear hF
 rcases t with _ | ⟨cs, rs⟩
 ·have e : res = ([], false) := by rw [← HM.out]; unfold wallListF; rw [HF.out]
  subst e
  go_enter Try.func24, Try.ntmps24
  go_wp2_with (first
   | (go_at_call 66; refine (floorOf_calls A0 c0 l0 _ HR.out HC.out HP.out).mono ?_; rw [HF.out]; rintro e w8 ⟨hb8, v8, b8, rfl, rfl⟩; have HB8 := zab.mk hb8; clear hb8))
  go_ret2
  exact ⟨_, rfl, Kd.S_nil _ _ _ _ _, HB8.out⟩
 ·have e : res = ((zbw cs).map fourW, true) := by rw [← HM.out, ← walls4_eq]; unfold wallListF; rw [HF.out]
  have HE := zab.mk e
  have hok := floorF_ok HF.out
  obtain ⟨K, hK⟩ := walls_ev hok
  have HW := zab.mk (hK K (Nat.le_refl K))
  have HL := zab.mk (wallsOf_bound hok)
  clear hK e hok
  generalize zbw cs = ws at *
  have b1 : (ws.length : Int) ≤ 72 := by have := HL.out; omega
  go_enter Try.func24, Try.ntmps24
  go_wp2_with (first
   | (go_at_call 66; refine (floorOf_calls A0 c0 l0 _ HR.out HC.out HP.out).mono ?_; rw [HF.out]; rintro e w8 ⟨hb8, v8, b8, rfl, rfl, g, rfl, hfl⟩; have HB8 := zab.mk hb8; have HFl8 := zab.mk hfl; clear hb8 hfl)
   | (go_at_call 80; refine (impl_floor_walls.calls K g cs rs ws _ _ HFl8.out (Below.refl _ _) HW.out).mono ?_; rintro e w9 ⟨v9, rfl, hr9, -, hb9, -⟩; obtain ⟨A9, c9, e9⟩ := Kd.R_slice hr9; subst e9; have HB9 := zab.mk (zag HB8.out hb9); have HR9 := zab.mk (Kd.R_lower hr9 HB8.out.size); clear hb9 hr9))
  go_loopg [6, 20] ws.length (fun kq v6 v20 w' => ∃ i : Nat, v20 = .int .i64 (i : Int) ∧ zab (i + kq = ws.length) ∧ zab (Kd.S (Kd.slice 3 (Kd.int .i64)) 39 w' w9.heap.size (fun _ => True) v6 ((ws.take i).map fourW)) ∧ zab (Below w9.heap.size w9 w'))
  case atStart => exact ⟨0, rfl, ⟨by omega⟩, ⟨Kd.S_nil _ _ _ _ _⟩, ⟨Below.refl _ _⟩⟩
  case round =>
   obtain ⟨i, rfl, HK, HO, HB⟩ := hrel
   by_cases hi : i < ws.length
   ·have hlt : (i : Int) < (ws.length : Int) := by omega
    have hi0 : (0 : Int) ≤ i := by omega
    obtain ⟨gr, cp, ev, -, -, -, -⟩ := Kd.R_form HR9.out (by omega)
    injection ev with ea en ec
    subst ea
    clear en ec
    obtain ⟨z0, z1, z2, z3⟩ := wl_cells (Kd.R_below HR9.out HB.out) i hi
    have HN := zab.mk (show (ws.take (i + 1)).map fourW = (ws.take i).map fourW ++ [fourW (ws.getD i zeroW)] by rw [take_snoc_w ws i hi, List.map_append]; rfl)
    have hln : ((ws.take i).map fourW).length ≤ 72 := by rw [List.length_map, List.length_take]; omega
    have LM := zab.mk hln
    clear hln
    generalize (ws.take i).map fourW = pre at *
    generalize ws.getD i zeroW = a at *
    obtain ⟨lv, f1, f2, f3⟩ := a
    dsimp only at z0 z1 z2 z3
    cases lv
    ·go_wp2_with (first | ((with_reducible refine zay (N := 34) rfl ?_); refine Kd.R_lit (Kd.int .i64) _ 3 ?hg (N := 34) ?hd (xs := ([0, f1, f2, f3] : List Int)) (inner := [.int .i64 0, .int .i64 f1, .int .i64 f2, .int .i64 f3]) (ok := fun _ => True) (okp := fun _ => True) ?hr ?hp (fun _ hk => hk) trivial (Below.refl _ _) (Nat.le_refl _) (by simp) ?_; (case hd => rfl); (case hg => rfl); (case hr => first | (go_simp; done) | (go_simp; rfl)); (case hp => exact (Reps.one (show Kd.M (Kd.int .i64) _ _ _ (0) [.int .i64 (0)] from rfl) (Reps.one (show Kd.M (Kd.int .i64) _ _ _ (f1) [.int .i64 (f1)] from rfl) (Reps.one (show Kd.M (Kd.int .i64) _ _ _ (f2) [.int .i64 (f2)] from rfl) (Reps.one (show Kd.M (Kd.int .i64) _ _ _ (f3) [.int .i64 (f3)] from rfl) (Reps.none _ _)))))); intro v187 w23 ho24 hb hg_ hnew_; clear hg_ hnew_; have n0_ := zab.mk (Kd.S_elder' (by (with_reducible repeat (first | apply Kd.S_alloc | apply Kd.S_drewN | apply Kd.S_drew)); exact HO.out) (Kd.R_base ho24) hb); have n1_ := zab.mk (Kd.R_lower ho24 (zaj (by repeat (first | (with_reducible first | exact HB.out | apply zac | apply zaa | apply zad) | exact HB.out)))); have n2_ := zab.mk (zag (by repeat (first | (with_reducible first | exact HB.out | apply zac | apply zaa | apply zad) | exact HB.out)) hb); clear HO; clear HB; have HO := n0_; have HO188 := n1_; have HB := n2_; clear n0_ n1_ n2_; clear hb ho24; obtain ⟨Ao26, co26, eo26⟩ := Kd.R_slice HO188.out; subst eo26) | ((with_reducible refine zax (b := .append) (xs := #[.tmp 26, .tmp 35]) rfl ?_); at_builtin; refine Kd.S_append (Kd.slice 3 (Kd.int .i64)) (w0 := w9) w9.heap.size rfl (.tmp 26) (.tmp 35) 36 39 (.slice none 0 0) 24 rfl Try.underlying36 info39 rfl (by decide) (by omega) u6 pre ([0, f1, f2, f3] : List Int) [.slice Ao26 ([0, f1, f2, f3] : List Int).length co26] (fun _ => True) (fun k_ => some k_ = (.slice Ao26 ([0, f1, f2, f3] : List Int).length co26 : Value).ownBlock) rfl rfl ?aP (fun k_ hk_ => ((Kd.R_mono (ok' := fun k_ => ((fun _ => True)) k_ ∧ some k_ ≠ (u6 : Value).ownBlock) (Kd.R_apart' (HO188.out) (Kd.S_typed HO.out) (by decide)) (fun k_ hk => ⟨trivial, hk.2⟩))).1 k_ hk_.symm) ?aF ?aO ?aB ?aS ?aL ?_; (case aP => exact Kd.M_row (Kd.R_mono (Kd.R_tight rfl (Kd.R_mono (ok' := fun k_ => ((fun _ => True)) k_ ∧ some k_ ≠ (u6 : Value).ownBlock) (Kd.R_apart' (HO188.out) (Kd.S_typed HO.out) (by decide)) (fun k_ hk => ⟨trivial, hk.2⟩))) (fun _ h_ => h_))); (case aB => exact (by repeat (first | (with_reducible first | exact HB.out | apply zac | apply zaa | apply zad) | exact HB.out))); (case aF => exact (fun _ _ => trivial)); (case aO => exact (by (with_reducible repeat (first | apply Kd.S_alloc | apply Kd.S_drewN | apply Kd.S_drew)); exact Kd.S_mono HO.out (fun k_ hk => ⟨trivial, fun e_ => hk.2 e_⟩))); (case aS => exact (zaj (by repeat (first | (with_reducible first | exact HB.out | apply zac | apply zaa | apply zad) | exact HB.out)))); (case aL => have := LM.out; omega); intro v190 w25 ho hb hg hat; have n0_ := zab.mk (hb); have n1_ := zab.mk (ho); clear HB; clear HO; clear HO188; have HB := n0_; have HO191 := n1_; clear n0_ n1_; clear ho hb hg hat))
     go_roundg (ws.length - (i + 1))
     case measure => have := HK.out; omega
     case rel => exact ⟨i + 1, by first | rfl | (congr 1; omega), ⟨by have := HK.out; omega⟩, ⟨by rw [HN.out]; (with_reducible repeat (first | apply Kd.S_alloc | apply Kd.S_drewN | apply Kd.S_drew)); exact HO191.out⟩, ⟨by repeat (first | (with_reducible first | exact HB.out | apply zac | apply zaa | apply zad) | exact HB.out)⟩⟩
    ·go_wp2_with (first | ((with_reducible refine zay (N := 34) rfl ?_); refine Kd.R_lit (Kd.int .i64) _ 3 ?hg (N := 34) ?hd (xs := ([1, f1, f2, f3] : List Int)) (inner := [.int .i64 1, .int .i64 f1, .int .i64 f2, .int .i64 f3]) (ok := fun _ => True) (okp := fun _ => True) ?hr ?hp (fun _ hk => hk) trivial (Below.refl _ _) (Nat.le_refl _) (by simp) ?_; (case hd => rfl); (case hg => rfl); (case hr => first | (go_simp; done) | (go_simp; rfl)); (case hp => exact (Reps.one (show Kd.M (Kd.int .i64) _ _ _ (1) [.int .i64 (1)] from rfl) (Reps.one (show Kd.M (Kd.int .i64) _ _ _ (f1) [.int .i64 (f1)] from rfl) (Reps.one (show Kd.M (Kd.int .i64) _ _ _ (f2) [.int .i64 (f2)] from rfl) (Reps.one (show Kd.M (Kd.int .i64) _ _ _ (f3) [.int .i64 (f3)] from rfl) (Reps.none _ _)))))); intro v187 w23 ho24 hb hg_ hnew_; clear hg_ hnew_; have n0_ := zab.mk (Kd.S_elder' (by (with_reducible repeat (first | apply Kd.S_alloc | apply Kd.S_drewN | apply Kd.S_drew)); exact HO.out) (Kd.R_base ho24) hb); have n1_ := zab.mk (Kd.R_lower ho24 (zaj (by repeat (first | (with_reducible first | exact HB.out | apply zac | apply zaa | apply zad) | exact HB.out)))); have n2_ := zab.mk (zag (by repeat (first | (with_reducible first | exact HB.out | apply zac | apply zaa | apply zad) | exact HB.out)) hb); clear HO; clear HB; have HO := n0_; have HO188 := n1_; have HB := n2_; clear n0_ n1_ n2_; clear hb ho24; obtain ⟨Ao26, co26, eo26⟩ := Kd.R_slice HO188.out; subst eo26) | ((with_reducible refine zax (b := .append) (xs := #[.tmp 26, .tmp 35]) rfl ?_); at_builtin; refine Kd.S_append (Kd.slice 3 (Kd.int .i64)) (w0 := w9) w9.heap.size rfl (.tmp 26) (.tmp 35) 36 39 (.slice none 0 0) 24 rfl Try.underlying36 info39 rfl (by decide) (by omega) u6 pre ([1, f1, f2, f3] : List Int) [.slice Ao26 ([1, f1, f2, f3] : List Int).length co26] (fun _ => True) (fun k_ => some k_ = (.slice Ao26 ([1, f1, f2, f3] : List Int).length co26 : Value).ownBlock) rfl rfl ?aP (fun k_ hk_ => ((Kd.R_mono (ok' := fun k_ => ((fun _ => True)) k_ ∧ some k_ ≠ (u6 : Value).ownBlock) (Kd.R_apart' (HO188.out) (Kd.S_typed HO.out) (by decide)) (fun k_ hk => ⟨trivial, hk.2⟩))).1 k_ hk_.symm) ?aF ?aO ?aB ?aS ?aL ?_; (case aP => exact Kd.M_row (Kd.R_mono (Kd.R_tight rfl (Kd.R_mono (ok' := fun k_ => ((fun _ => True)) k_ ∧ some k_ ≠ (u6 : Value).ownBlock) (Kd.R_apart' (HO188.out) (Kd.S_typed HO.out) (by decide)) (fun k_ hk => ⟨trivial, hk.2⟩))) (fun _ h_ => h_))); (case aB => exact (by repeat (first | (with_reducible first | exact HB.out | apply zac | apply zaa | apply zad) | exact HB.out))); (case aF => exact (fun _ _ => trivial)); (case aO => exact (by (with_reducible repeat (first | apply Kd.S_alloc | apply Kd.S_drewN | apply Kd.S_drew)); exact Kd.S_mono HO.out (fun k_ hk => ⟨trivial, fun e_ => hk.2 e_⟩))); (case aS => exact (zaj (by repeat (first | (with_reducible first | exact HB.out | apply zac | apply zaa | apply zad) | exact HB.out)))); (case aL => have := LM.out; omega); intro v190 w25 ho hb hg hat; have n0_ := zab.mk (hb); have n1_ := zab.mk (ho); clear HB; clear HO; clear HO188; have HB := n0_; have HO191 := n1_; clear n0_ n1_; clear ho hb hg hat))
     go_roundg (ws.length - (i + 1))
     case measure => have := HK.out; omega
     case rel => exact ⟨i + 1, by first | rfl | (congr 1; omega), ⟨by have := HK.out; omega⟩, ⟨by rw [HN.out]; (with_reducible repeat (first | apply Kd.S_alloc | apply Kd.S_drewN | apply Kd.S_drew)); exact HO191.out⟩, ⟨by repeat (first | (with_reducible first | exact HB.out | apply zac | apply zaa | apply zad) | exact HB.out)⟩⟩
   ·have hge : ¬ (i : Int) < (ws.length : Int) := by omega
    obtain rfl : i = ws.length := by have := HK.out; omega
    have HT := zab.mk (show (ws.take ws.length).map fourW = ws.map fourW by rw [List.take_length])
    go_wp2
    go_ret2
    rw [HE.out]
    exact ⟨_, rfl, by have := Kd.S_lower HO.out HB9.out.size; rw [HT.out] at this; (with_reducible repeat (first | apply Kd.S_alloc | apply Kd.S_drewN | apply Kd.S_drew)); exact this, zag HB9.out HB.out⟩
def impl_WallList.f (l0 : List ByteArray) : Option (List (List Int) × Bool) := if smallB l0 = true then some (wallListF l0) else none
theorem impl_WallList.calls (A0 : Option Addr) (c0 : Nat) (l0 : List ByteArray) (r1 : List (List Int)) (r2 : Bool) (w : World) (hr0 : Kd.C Kd.string w A0 l0.length l0) (hc0 : l0.length ≤ c0) (h : impl_WallList.f l0 = some (r1, r2)) :
  Calls Try.prog 24 #[.slice A0 l0.length c0] w fun e w' => ∃ v0_ : Value, e = .returned (.tuple #[v0_, .bool r2]) ∧ Kd.S (Kd.slice 3 (Kd.int .i64)) 39 w' w.heap.size (fun _ => True) v0_ r1 ∧ Below w.heap.size w w' := by
 unfold impl_WallList.f at h
 split at h
 ·rename_i hs
  have e := Option.some.inj h
  have := WallList_calls A0 c0 l0 w hr0 hc0 ((smallB_iff _).1 hs)
  rw [e] at this
  exact this
 ·cases h
def impl_CutMany.f (l0 : List ByteArray) : Option (Int × Bool) := if smallB l0 = true then some (cutManyF l0) else none
theorem impl_CutMany.calls (A0 : Option Addr) (c0 : Nat) (l0 : List ByteArray) (r1 : Int) (r2 : Bool) (w : World) (hr0 : Kd.C Kd.string w A0 l0.length l0) (hc0 : l0.length ≤ c0) (h : impl_CutMany.f l0 = some (r1, r2)) :
  Calls Try.prog 45 #[.slice A0 l0.length c0] w fun e w' => e = .returned (.tuple #[.int .i64 r1, .bool r2]) ∧ Below w.heap.size w w' := by
 unfold impl_CutMany.f at h
 split at h
 ·rename_i hs
  have e := Option.some.inj h
  have := CutMany_calls A0 c0 l0 w hr0 hc0 ((smallB_iff _).1 hs)
  rw [e] at this
  exact this
 ·cases h
end Go.Proofs.Ytaepgogafkmooaa.Hd
namespace Go.Proofs.Ytaepgogafkmooaa.CA
open Go.Proofs.Ytaepgogafkmooaa.PB Go.Proofs.Ytaepgogafkmooaa.Hd Go.Proofs.Ytaepgogafkmooaa.SM
open Go.RowKit Go.PW.PrintWords Go.PW.PrintLast Go.PW.PrintMore
attribute [local go_sem] zca zby zcj zci zbp zbo zbz zbx   -- for this text's walks alone
def errW : Option Int → Value
 | none => .nilIface
 | some c => .iface 0 (.int .i64 c)
theorem zan : errW none = .nilIface := rfl
theorem zam (c : Int) : errW (some c) = .iface 0 (.int .i64 c) := rfl
theorem info3 : (Try.prog.info? 3).map (fun i => (i.zero, i.size, i.bytes)) = some (some (.int .i64 0), 1, 8) := by kernel_rfl
theorem info5 : (Try.prog.info? 5).map (fun i => (i.zero, i.size, i.bytes)) = some (some (.int .u8 0), 1, 1) := by kernel_rfl
theorem info9 : (Try.prog.info? 9).map (fun i => (i.zero, i.size, i.bytes)) = some (some (.string ⟨#[]⟩), 1, 16) := by kernel_rfl
theorem info39 : (Try.prog.info? 39).map (fun i => (i.zero, i.size, i.bytes)) = some (some (.slice none 0 0), 1, 24) := by kernel_rfl
theorem info79 : (Try.prog.info? 79).map (fun i => (i.zero, i.size, i.bytes)) = some (some (.agg #[(.bool false), (.int .i64 0), (.int .i64 0), (.int .i64 0)]), 4, 32) := by kernel_rfl
def rd_L1 (xs : List (List Int)) (i : Int) : (List Int) := xs.getD i.toNat ([] : List Int)
theorem at_L1 {w : World} {A : Option Addr} {n : Nat} {xs : List (List Int)} (h : Kd.C (Kd.slice 3 (Kd.int .i64)) w A n xs) (i : Int) (h0 : 0 ≤ i) (h1 : i < n) : ∃ ad A0 c0, A = some ad ∧ w.cell? (ad.add i.toNat) = some (.slice A0 (rd_L1 xs i).length c0) ∧ (rd_L1 xs i).length ≤ c0 ∧ (Kd.int .i64).C w A0 (rd_L1 xs i).length (rd_L1 xs i) := by
 obtain ⟨ad, c, e, _, hK, hc0⟩ := Kd.C_get h ([] : List Int) i h0 h1
 have hc : ∀ j u, c[j]? = some u → w.cell? (ad.add (i.toNat * 1 + j)) = some u := hc0
 obtain ⟨A0, c0, rfl, l0, g0⟩ := hK
 exact ⟨ad, A0, c0, e, by have hq := hc 0 _ rfl; rwa [Nat.mul_one, Nat.add_zero] at hq, l0, g0⟩
structure S131 where
 f0 : Int
 f1 : Int
 f2 : Int
 f3 : Int
def z131 : S131 := ⟨(0 : Int), (0 : Int), (0 : Int), (0 : Int)⟩
def k131 : Kd S131 := Kd.iso (Kd.pair (Kd.int .i64) (Kd.pair (Kd.int .i64) (Kd.pair (Kd.int .i64) (Kd.int .i64)))) (fun x : S131 => (x.f0, x.f1, x.f2, x.f3))
theorem k131_open {w : World} {x : S131} {cs : List Value} (h : k131.K w x cs) : cs = [.int .i64 x.f0, .int .i64 x.f1, .int .i64 x.f2, .int .i64 x.f3] := by
 obtain ⟨_, _, rfl, rfl, ⟨_, _, rfl, rfl, ⟨_, _, rfl, rfl, rfl⟩⟩⟩ := h
 exact rfl
theorem k131_mkM (w : World) (base : Nat) (ok : Nat → Prop) (x : S131)  : k131.M w base ok x [.int .i64 x.f0, .int .i64 x.f1, .int .i64 x.f2, .int .i64 x.f3] := ⟨[.int .i64 x.f0], [.int .i64 x.f1, .int .i64 x.f2, .int .i64 x.f3], rfl, rfl, ⟨[.int .i64 x.f1], [.int .i64 x.f2, .int .i64 x.f3], rfl, rfl, ⟨[.int .i64 x.f2], [.int .i64 x.f3], rfl, rfl, rfl⟩⟩⟩
def rd_T131 (xs : List S131) (i : Int) : S131 := xs.getD i.toNat z131
theorem at_T131 {w : World} {A : Option Addr} {n : Nat} {xs : List S131} (h : Kd.C k131 w A n xs) (i : Int) (h0 : 0 ≤ i) (h1 : i < n) : ∃ ad , A = some ad ∧ w.cell? (ad.add (i.toNat * 4)) = some (.int .i64 (rd_T131 xs i).f0) ∧ w.cell? ⟨(ad.add (i.toNat * 4)).block, (ad.add (i.toNat * 4)).off + 1, none⟩ = some (.int .i64 (rd_T131 xs i).f1) ∧ w.cell? ⟨(ad.add (i.toNat * 4)).block, (ad.add (i.toNat * 4)).off + 2, none⟩ = some (.int .i64 (rd_T131 xs i).f2) ∧ w.cell? ⟨(ad.add (i.toNat * 4)).block, (ad.add (i.toNat * 4)).off + 3, none⟩ = some (.int .i64 (rd_T131 xs i).f3) := by
 obtain ⟨ad, c, e, _, hK, hc0⟩ := Kd.C_get h z131 i h0 h1
 have hc : ∀ j u, c[j]? = some u → w.cell? (ad.add (i.toNat * 4 + j)) = some u := hc0
 obtain rfl := k131_open hK
 exact ⟨ad, e, hc 0 _ rfl, by rw [← add_field _ _ 1 (by omega)]; exact hc 1 _ rfl, by rw [← add_field _ _ 2 (by omega)]; exact hc 2 _ rfl, by rw [← add_field _ _ 3 (by omega)]; exact hc 3 _ rfl⟩
structure S79 where
 f0 : Bool
 f1 : Int
 f2 : Int
 f3 : Int
def z79 : S79 := ⟨false, (0 : Int), (0 : Int), (0 : Int)⟩
def k79 : Kd S79 := Kd.iso (Kd.pair Kd.bool (Kd.pair (Kd.int .i64) (Kd.pair (Kd.int .i64) (Kd.int .i64)))) (fun x : S79 => (x.f0, x.f1, x.f2, x.f3))
theorem k79_open {w : World} {x : S79} {cs : List Value} (h : k79.K w x cs) : cs = [.bool x.f0, .int .i64 x.f1, .int .i64 x.f2, .int .i64 x.f3] := by
 obtain ⟨_, _, rfl, rfl, ⟨_, _, rfl, rfl, ⟨_, _, rfl, rfl, rfl⟩⟩⟩ := h
 exact rfl
theorem k79_openM {w : World} {base : Nat} {ok : Nat → Prop} {x : S79} {cs : List Value} (h : k79.M w base ok x cs) : cs = [.bool x.f0, .int .i64 x.f1, .int .i64 x.f2, .int .i64 x.f3] := by
 obtain ⟨_, _, rfl, rfl, ⟨_, _, rfl, rfl, ⟨_, _, rfl, rfl, rfl⟩⟩⟩ := h
 exact rfl
theorem k79_mkM (w : World) (base : Nat) (ok : Nat → Prop) (x : S79)  : k79.M w base ok x [.bool x.f0, .int .i64 x.f1, .int .i64 x.f2, .int .i64 x.f3] := ⟨[.bool x.f0], [.int .i64 x.f1, .int .i64 x.f2, .int .i64 x.f3], rfl, rfl, ⟨[.int .i64 x.f1], [.int .i64 x.f2, .int .i64 x.f3], rfl, rfl, ⟨[.int .i64 x.f2], [.int .i64 x.f3], rfl, rfl, rfl⟩⟩⟩
def zas (xs : List S79) (i : Int) : S79 := xs.getD i.toNat z79
theorem at_T79 {w : World} {A : Option Addr} {n : Nat} {xs : List S79} (h : Kd.C k79 w A n xs) (i : Int) (h0 : 0 ≤ i) (h1 : i < n) : ∃ ad , A = some ad ∧ w.cell? (ad.add (i.toNat * 4)) = some (.bool (zas xs i).f0) ∧ w.cell? ⟨(ad.add (i.toNat * 4)).block, (ad.add (i.toNat * 4)).off + 1, none⟩ = some (.int .i64 (zas xs i).f1) ∧ w.cell? ⟨(ad.add (i.toNat * 4)).block, (ad.add (i.toNat * 4)).off + 2, none⟩ = some (.int .i64 (zas xs i).f2) ∧ w.cell? ⟨(ad.add (i.toNat * 4)).block, (ad.add (i.toNat * 4)).off + 3, none⟩ = some (.int .i64 (zas xs i).f3) := by
 obtain ⟨ad, c, e, _, hK, hc0⟩ := Kd.C_get h z79 i h0 h1
 have hc : ∀ j u, c[j]? = some u → w.cell? (ad.add (i.toNat * 4 + j)) = some u := hc0
 obtain rfl := k79_open hK
 exact ⟨ad, e, hc 0 _ rfl, by rw [← add_field _ _ 1 (by omega)]; exact hc 1 _ rfl, by rw [← add_field _ _ 2 (by omega)]; exact hc 2 _ rfl, by rw [← add_field _ _ 3 (by omega)]; exact hc 3 _ rfl⟩
end Go.Proofs.Ytaepgogafkmooaa.CA
namespace Go.Proofs.Ytaepgogafkmooaa.CA
open Go.Proofs.Ytaepgogafkmooaa.PB Go.Proofs.Ytaepgogafkmooaa.Hd Go.Proofs.Ytaepgogafkmooaa.SM
open Go.RowKit Go.PW.PrintWords Go.PW.PrintLast Go.PW.PrintMore
attribute [local go_sem] zca zby zcj zci zbp zbo zbz zbx   -- for this text's walks alone
def laws_FnCutFirst.j0 : Nat → List ByteArray → Int → Bool → Int → Bool → Bool → Option (Bool)
 | 0, _, _, _, _, _, _ => none
 | k + 1, x3, x4, x5, x6, x7, x39 => if x39 = true then (if (x5 == x7) = true then (some (x4 == x6)) else (some false)) else ((impl_WallList.f x3).bind fun bt442 => ((impl_CutMany.f x3).bind fun bt446 => (if 0 ≤ x4 then (if x4 < (bt442.1.length : Int) then (if bt442.2 = true then (if bt446.2 = true then (if bt446.1 ≥ 1 then (if 0 < ((rd_L1 bt442.1 x4).length : Int) then (if (rd (rd_L1 bt442.1 x4) 0) = 0 then (if 3 < ((rd_L1 bt442.1 x4).length : Int) then (if (rd (rd_L1 bt442.1 x4) 3) = (x3.length : Int) then (some true) else (if (rd (rd_L1 bt442.1 x4) 0) = 1 then (if 0 < (x3.length : Int) then (some ((rd (rd_L1 bt442.1 x4) 3) == ((rdOf ByteArray.empty x3 0).size : Int))) else (none)) else (some false))) else (none)) else (if (rd (rd_L1 bt442.1 x4) 0) = 1 then (if 3 < ((rd_L1 bt442.1 x4).length : Int) then (if 0 < (x3.length : Int) then (some ((rd (rd_L1 bt442.1 x4) 3) == ((rdOf ByteArray.empty x3 0).size : Int))) else (none)) else (none)) else (some false))) else (none)) else (some false)) else (some false)) else (some false)) else (none)) else (none))))
def laws_FnCutFirst.f (k : Nat) (l0 : List Int) : Option (Bool) := if (l0.length : Int) > 1048576 then (some true) else ((spec_DrawCutFirst.f k l0).bind fun t435 => ((impl_CutFirst.f t435).bind fun bt438 => ((spec_CutFirst.f k t435).bind fun bt440 => (if (bt438.2 != bt440.2) = true then (laws_FnCutFirst.j0 k t435 bt438.1 bt438.2 bt440.1 bt440.2 true) else (if bt438.1 = bt440.1 then (laws_FnCutFirst.j0 k t435 bt438.1 bt438.2 bt440.1 bt440.2 (!bt438.2)) else (laws_FnCutFirst.j0 k t435 bt438.1 bt438.2 bt440.1 bt440.2 true))))))
set_option maxHeartbeats 8000000 in
set_option maxRecDepth 100000 in
theorem laws_FnCutFirst.calls (k : Nat) (A0 : Option Addr) (c0 : Nat) (l0 : List Int) (r : Bool) (w : World) (hr0 : Kd.C (Kd.int .u8) w A0 l0.length l0) (hc0 : l0.length ≤ c0) (h : laws_FnCutFirst.f k l0 = some r) :
  Calls Try.prog 10 #[.slice A0 l0.length c0] w fun e w' => e = .returned (.bool r) ∧ Below w.heap.size w w' := by
 have HR0 := zab.mk hr0
 have HC0 := zab.mk hc0
 clear hr0 hc0
 have HB := zab.mk (Below.refl w.heap.size w)
 have H : (if (l0.length : Int) > 1048576 then (some true) else ((spec_DrawCutFirst.f k l0).bind fun t435 => ((impl_CutFirst.f t435).bind fun bt438 => ((spec_CutFirst.f k t435).bind fun bt440 => (if (bt438.2 != bt440.2) = true then (laws_FnCutFirst.j0 k t435 bt438.1 bt438.2 bt440.1 bt440.2 true) else (if bt438.1 = bt440.1 then (laws_FnCutFirst.j0 k t435 bt438.1 bt438.2 bt440.1 bt440.2 (!bt438.2)) else (laws_FnCutFirst.j0 k t435 bt438.1 bt438.2 bt440.1 bt440.2 true))))))) = some r := h
 clear h
 by_cases c2 : (l0.length : Int) > 1048576
 ·rw [if_pos c2] at H
  have c2b0 : decide (1048576 < (l0.length : Int)) = true := decide_eq_true c2
  have c2b1 : decide (1048576 < l0.length) = true := decide_eq_true (by omega)
  clear c2
  obtain rfl := Option.some.inj H
  go_enter Try.func10, Try.ntmps10
  go_wp2
  repeat (go_quiet (fail); try go_wp2)
  go_ret
  exact ⟨by first | rfl | (simp [zan, zam] <;> rfl) | (simp [*, zan, zam] <;> rfl), by repeat (first | (with_reducible first | exact HB.out | apply zac | apply zaa | apply zad) | exact HB.out)⟩
 ·rw [if_neg c2] at H
  have c2b0 : decide (1048576 < (l0.length : Int)) = false := decide_eq_false c2
  have c2b1 : decide (1048576 < l0.length) = false := decide_eq_false (by omega)
  clear c2
  replace H := Option.bind_eq_some_iff.mp H
  obtain ⟨t435, A30, H⟩ := H
  replace H : ((impl_CutFirst.f t435).bind fun bt438 => ((spec_CutFirst.f k t435).bind fun bt440 => (if (bt438.2 != bt440.2) = true then (laws_FnCutFirst.j0 k t435 bt438.1 bt438.2 bt440.1 bt440.2 true) else (if bt438.1 = bt440.1 then (laws_FnCutFirst.j0 k t435 bt438.1 bt438.2 bt440.1 bt440.2 (!bt438.2)) else (laws_FnCutFirst.j0 k t435 bt438.1 bt438.2 bt440.1 bt440.2 true))))) = some r := H
  have A3 := zab.mk A30
  clear A30
  replace H := Option.bind_eq_some_iff.mp H
  obtain ⟨⟨t438, t439⟩, A40, H⟩ := H
  replace H : ((spec_CutFirst.f k t435).bind fun bt440 => (if (t439 != bt440.2) = true then (laws_FnCutFirst.j0 k t435 t438 t439 bt440.1 bt440.2 true) else (if t438 = bt440.1 then (laws_FnCutFirst.j0 k t435 t438 t439 bt440.1 bt440.2 (!t439)) else (laws_FnCutFirst.j0 k t435 t438 t439 bt440.1 bt440.2 true)))) = some r := H
  have A4 := zab.mk A40
  clear A40
  replace H := Option.bind_eq_some_iff.mp H
  obtain ⟨⟨t440, t441⟩, A50, H⟩ := H
  replace H : (if (t439 != t441) = true then (laws_FnCutFirst.j0 k t435 t438 t439 t440 t441 true) else (if t438 = t440 then (laws_FnCutFirst.j0 k t435 t438 t439 t440 t441 (!t439)) else (laws_FnCutFirst.j0 k t435 t438 t439 t440 t441 true))) = some r := H
  have A5 := zab.mk A50
  clear A50
  have HC6 := zab.mk H
  clear H
  go_enter Try.func10, Try.ntmps10
  go_upto_region 6 with (first | (go_at_call 42; (with_reducible refine (spec_DrawCutFirst.calls k _ _ l0 t435 _ ?side1 ?side2 A3.out).mono ?_); (case side1 => repeat (first | exact HR0.out | (with_reducible refine Kd.C_alloc ?_ _) | (with_reducible refine Kd.C_drewN ?_ _) | (with_reducible refine Kd.C_drew ?_))); (case side2 => exact HC0.out); rintro e w7 ⟨v436, rfl, ho0, hb⟩; have n0_ := zab.mk (Kd.V_lower (Kd.V_mono (ok' := fun k_ => True) ho0 (fun k_ hk_ => trivial)) (zaj (by repeat (first | (with_reducible first | exact HB.out | apply zac | apply zaa | apply zad) | exact HB.out)))); have n1_ := zab.mk (zag (by repeat (first | (with_reducible first | exact HB.out | apply zac | apply zaa | apply zad) | exact HB.out)) hb); clear HB; have HO437 := n0_; have HB := n1_; clear n0_ n1_; (try clear hb); (try clear hb2); (try clear hk); (try clear hi); (try clear ho0); obtain ⟨Ao8, co8, eo8⟩ := Kd.V_slice HO437.out; subst eo8) | (go_at_call 43; (with_reducible refine (impl_CutFirst.calls _ _ t435 t438 t439 _ ?side1 ?side2 A4.out).mono ?_); (case side1 => repeat (first | exact (Kd.V_reads' HO437.out).2.2 | (with_reducible refine Kd.C_alloc ?_ _) | (with_reducible refine Kd.C_drewN ?_ _) | (with_reducible refine Kd.C_drew ?_))); (case side2 => exact (Kd.V_reads' HO437.out).2.1); rintro e w9 ⟨rfl, hb⟩; have n0_ := zab.mk (Kd.V_below (by (with_reducible repeat (first | apply Kd.V_alloc | apply Kd.V_drewN | apply Kd.V_drew)); exact HO437.out) hb); have n1_ := zab.mk (zag (by repeat (first | (with_reducible first | exact HB.out | apply zac | apply zaa | apply zad) | exact HB.out)) hb); clear HO437; clear HB; have HO437 := n0_; have HB := n1_; clear n0_ n1_; (try clear hb); (try clear hb2); (try clear hk); (try clear hi)) | (go_at_call 44; (with_reducible refine (spec_CutFirst.calls k _ _ t435 t440 t441 _ ?side1 ?side2 A5.out).mono ?_); (case side1 => repeat (first | exact (Kd.V_reads' HO437.out).2.2 | (with_reducible refine Kd.C_alloc ?_ _) | (with_reducible refine Kd.C_drewN ?_ _) | (with_reducible refine Kd.C_drew ?_))); (case side2 => exact (Kd.V_reads' HO437.out).2.1); rintro e w10 ⟨rfl, hb⟩; have n0_ := zab.mk (Kd.V_below (by (with_reducible repeat (first | apply Kd.V_alloc | apply Kd.V_drewN | apply Kd.V_drew)); exact HO437.out) hb); have n1_ := zab.mk (zag (by repeat (first | (with_reducible first | exact HB.out | apply zac | apply zaa | apply zad) | exact HB.out)) hb); clear HO437; clear HB; have HO437 := n0_; have HB := n1_; clear n0_ n1_; (try clear hb); (try clear hb2); (try clear hk); (try clear hi)))
  repeat (go_quiet (first | (go_at_call 42; (with_reducible refine (spec_DrawCutFirst.calls k _ _ l0 t435 _ ?side1 ?side2 A3.out).mono ?_); (case side1 => repeat (first | exact HR0.out | (with_reducible refine Kd.C_alloc ?_ _) | (with_reducible refine Kd.C_drewN ?_ _) | (with_reducible refine Kd.C_drew ?_))); (case side2 => exact HC0.out); rintro e w7 ⟨v436, rfl, ho0, hb⟩; have n0_ := zab.mk (Kd.V_lower (Kd.V_mono (ok' := fun k_ => True) ho0 (fun k_ hk_ => trivial)) (zaj (by repeat (first | (with_reducible first | exact HB.out | apply zac | apply zaa | apply zad) | exact HB.out)))); have n1_ := zab.mk (zag (by repeat (first | (with_reducible first | exact HB.out | apply zac | apply zaa | apply zad) | exact HB.out)) hb); clear HB; have HO437 := n0_; have HB := n1_; clear n0_ n1_; (try clear hb); (try clear hb2); (try clear hk); (try clear hi); (try clear ho0); obtain ⟨Ao8, co8, eo8⟩ := Kd.V_slice HO437.out; subst eo8) | (go_at_call 43; (with_reducible refine (impl_CutFirst.calls _ _ t435 t438 t439 _ ?side1 ?side2 A4.out).mono ?_); (case side1 => repeat (first | exact (Kd.V_reads' HO437.out).2.2 | (with_reducible refine Kd.C_alloc ?_ _) | (with_reducible refine Kd.C_drewN ?_ _) | (with_reducible refine Kd.C_drew ?_))); (case side2 => exact (Kd.V_reads' HO437.out).2.1); rintro e w9 ⟨rfl, hb⟩; have n0_ := zab.mk (Kd.V_below (by (with_reducible repeat (first | apply Kd.V_alloc | apply Kd.V_drewN | apply Kd.V_drew)); exact HO437.out) hb); have n1_ := zab.mk (zag (by repeat (first | (with_reducible first | exact HB.out | apply zac | apply zaa | apply zad) | exact HB.out)) hb); clear HO437; clear HB; have HO437 := n0_; have HB := n1_; clear n0_ n1_; (try clear hb); (try clear hb2); (try clear hk); (try clear hi)) | (go_at_call 44; (with_reducible refine (spec_CutFirst.calls k _ _ t435 t440 t441 _ ?side1 ?side2 A5.out).mono ?_); (case side1 => repeat (first | exact (Kd.V_reads' HO437.out).2.2 | (with_reducible refine Kd.C_alloc ?_ _) | (with_reducible refine Kd.C_drewN ?_ _) | (with_reducible refine Kd.C_drew ?_))); (case side2 => exact (Kd.V_reads' HO437.out).2.1); rintro e w10 ⟨rfl, hb⟩; have n0_ := zab.mk (Kd.V_below (by (with_reducible repeat (first | apply Kd.V_alloc | apply Kd.V_drewN | apply Kd.V_drew)); exact HO437.out) hb); have n1_ := zab.mk (zag (by repeat (first | (with_reducible first | exact HB.out | apply zac | apply zaa | apply zad) | exact HB.out)) hb); clear HO437; clear HB; have HO437 := n0_; have HB := n1_; clear n0_ n1_; (try clear hb); (try clear hb2); (try clear hk); (try clear hi))); go_upto_region 6 with (first | (go_at_call 42; (with_reducible refine (spec_DrawCutFirst.calls k _ _ l0 t435 _ ?side1 ?side2 A3.out).mono ?_); (case side1 => repeat (first | exact HR0.out | (with_reducible refine Kd.C_alloc ?_ _) | (with_reducible refine Kd.C_drewN ?_ _) | (with_reducible refine Kd.C_drew ?_))); (case side2 => exact HC0.out); rintro e w7 ⟨v436, rfl, ho0, hb⟩; have n0_ := zab.mk (Kd.V_lower (Kd.V_mono (ok' := fun k_ => True) ho0 (fun k_ hk_ => trivial)) (zaj (by repeat (first | (with_reducible first | exact HB.out | apply zac | apply zaa | apply zad) | exact HB.out)))); have n1_ := zab.mk (zag (by repeat (first | (with_reducible first | exact HB.out | apply zac | apply zaa | apply zad) | exact HB.out)) hb); clear HB; have HO437 := n0_; have HB := n1_; clear n0_ n1_; (try clear hb); (try clear hb2); (try clear hk); (try clear hi); (try clear ho0); obtain ⟨Ao8, co8, eo8⟩ := Kd.V_slice HO437.out; subst eo8) | (go_at_call 43; (with_reducible refine (impl_CutFirst.calls _ _ t435 t438 t439 _ ?side1 ?side2 A4.out).mono ?_); (case side1 => repeat (first | exact (Kd.V_reads' HO437.out).2.2 | (with_reducible refine Kd.C_alloc ?_ _) | (with_reducible refine Kd.C_drewN ?_ _) | (with_reducible refine Kd.C_drew ?_))); (case side2 => exact (Kd.V_reads' HO437.out).2.1); rintro e w9 ⟨rfl, hb⟩; have n0_ := zab.mk (Kd.V_below (by (with_reducible repeat (first | apply Kd.V_alloc | apply Kd.V_drewN | apply Kd.V_drew)); exact HO437.out) hb); have n1_ := zab.mk (zag (by repeat (first | (with_reducible first | exact HB.out | apply zac | apply zaa | apply zad) | exact HB.out)) hb); clear HO437; clear HB; have HO437 := n0_; have HB := n1_; clear n0_ n1_; (try clear hb); (try clear hb2); (try clear hk); (try clear hi)) | (go_at_call 44; (with_reducible refine (spec_CutFirst.calls k _ _ t435 t440 t441 _ ?side1 ?side2 A5.out).mono ?_); (case side1 => repeat (first | exact (Kd.V_reads' HO437.out).2.2 | (with_reducible refine Kd.C_alloc ?_ _) | (with_reducible refine Kd.C_drewN ?_ _) | (with_reducible refine Kd.C_drew ?_))); (case side2 => exact (Kd.V_reads' HO437.out).2.1); rintro e w10 ⟨rfl, hb⟩; have n0_ := zab.mk (Kd.V_below (by (with_reducible repeat (first | apply Kd.V_alloc | apply Kd.V_drewN | apply Kd.V_drew)); exact HO437.out) hb); have n1_ := zab.mk (zag (by repeat (first | (with_reducible first | exact HB.out | apply zac | apply zaa | apply zad) | exact HB.out)) hb); clear HO437; clear HB; have HO437 := n0_; have HB := n1_; clear n0_ n1_; (try clear hb); (try clear hb2); (try clear hk); (try clear hi))))
  (try simp only [Act.put, List.setIfInBounds_toArray, List.set_cons_zero, List.set_cons_succ])
  go_cut [39] (fun v39 wc => ∃ (kq : Nat) (x39_5 : Bool), v39 = .bool x39_5 ∧ zab (laws_FnCutFirst.j0 kq t435 t438 t439 t440 t441 x39_5 = some r) ∧ zab (kq ≤ k) ∧ zab (Kd.V Kd.string 9 wc w.heap.size (fun _ => True) (.slice Ao8 t435.length co8) t435) ∧ zab (Below w.heap.size w wc))
  case first =>
   have H := HC6.out
   clear HC6
   by_cases c11 : (t439 != t441) = true
   ·rw [if_pos c11] at H
    have c11b0 : (t439 != t441) = true := c11
    (try (have c11b1 : decide (t439 = t441) = false := by simpa using c11))
    (try (have c11b2 : (t439 == t441) = false := by simpa using c11))
    (try (have c11b3 : ¬ (t439 = t441) := by simpa using c11))
    clear c11
    (first | rw [c11b0] | (simp only [zbc, zbe]; rw [c11b0]) | skip)
    have H' := zab.mk H
    clear H
    go_wp2
    repeat (go_quiet (fail); try go_wp2)
    go_meet
    case rel => exact ⟨_, (true), (by first | rfl | (simp; done) | (simp [*]; done)), H', ⟨by first | omega | exact Nat.le_refl _⟩, ⟨by (with_reducible repeat (first | apply Kd.V_alloc | apply Kd.V_drewN | apply Kd.V_drew)); exact HO437.out⟩, ⟨by repeat (first | (with_reducible first | exact HB.out | apply zac | apply zaa | apply zad) | exact HB.out)⟩⟩
   ·rw [if_neg c11] at H
    have c11b0 : (t439 != t441) = false := by simpa using c11
    (try (have c11b1 : decide (t439 = t441) = true := by simpa using c11))
    (try (have c11b2 : (t439 == t441) = true := by simpa using c11))
    clear c11
    (first | rw [c11b0] | (simp only [zbc, zbe]; rw [c11b0]) | skip)
    by_cases c12 : t438 = t440
    ·rw [if_pos c12] at H
     have c12b0 : (t438 == t440) = true := beq_iff_eq.mpr c12
     have c12b1 : (t438 != t440) = false := bne_eq_false_iff_eq.mpr c12
     clear c12
     have H' := zab.mk H
     clear H
     go_wp2
     repeat (go_quiet (fail); try go_wp2)
     go_meet
     case rel => exact ⟨_, (!t439), (by first | rfl | (simp; done) | (simp [*]; done)), H', ⟨by first | omega | exact Nat.le_refl _⟩, ⟨by (with_reducible repeat (first | apply Kd.V_alloc | apply Kd.V_drewN | apply Kd.V_drew)); exact HO437.out⟩, ⟨by repeat (first | (with_reducible first | exact HB.out | apply zac | apply zaa | apply zad) | exact HB.out)⟩⟩
    ·rw [if_neg c12] at H
     have c12b0 : (t438 == t440) = false := beq_eq_false_iff_ne.mpr c12
     have c12b1 : (t438 != t440) = true := bne_iff_ne.mpr c12
     have H' := zab.mk H
     clear H
     go_wp2
     repeat (go_quiet (fail); try go_wp2)
     go_meet
     case rel => exact ⟨_, (true), (by first | rfl | (simp; done) | (simp [*]; done)), H', ⟨by first | omega | exact Nat.le_refl _⟩, ⟨by (with_reducible repeat (first | apply Kd.V_alloc | apply Kd.V_drewN | apply Kd.V_drew)); exact HO437.out⟩, ⟨by repeat (first | (with_reducible first | exact HB.out | apply zac | apply zaa | apply zad) | exact HB.out)⟩⟩
  case rest =>
   clear HC6
   try clear c1
   try clear c2
   try clear c2b0
   try clear c2b1
   try clear p2
   try clear c10
   try clear c11
   try clear c11b0
   try clear c11b1
   try clear c11b2
   try clear c12
   try clear c12b0
   try clear c12b1
   obtain ⟨kq, x39_5, rfl, HA, HJ5, HO_3, HB⟩ := hcut
   cases kq with
   | zero => exact absurd HA.out (by simp [laws_FnCutFirst.j0])
   | succ kj5 =>
    have H := HA.out
    clear HA
    simp only [laws_FnCutFirst.j0] at H
    by_cases c13 : x39_5 = true
    ·subst c13
     have H1 : (if (t439 == t441) = true then (some (t438 == t440)) else (some false)) = some r := by rw [if_pos rfl] at H; exact H
     clear H
     have H := H1
     clear H1
     by_cases c14 : (t439 == t441) = true
     ·rw [if_pos c14] at H
      have c14b0 : (t439 == t441) = true := c14
      (try (have c14b1 : decide (t439 = t441) = true := by simpa using c14))
      (try (have c14b2 : (t439 == t441) = true := by simpa using c14))
      clear c14
      obtain rfl := Option.some.inj H
      go_wp2
      repeat (go_quiet (fail); try go_wp2)
      go_ret
      exact ⟨by first | rfl | (simp [zan, zam] <;> rfl) | (simp [*, zan, zam] <;> rfl), by repeat (first | (with_reducible first | exact HB.out | apply zac | apply zaa | apply zad) | exact HB.out)⟩
     ·rw [if_neg c14] at H
      have c14b0 : (t439 == t441) = false := by simpa using c14
      (try (have c14b1 : decide (t439 = t441) = false := by simpa using c14))
      (try (have c14b2 : (t439 == t441) = false := by simpa using c14))
      (try (have c14b3 : ¬ (t439 = t441) := by simpa using c14))
      clear c14
      obtain rfl := Option.some.inj H
      go_wp2
      repeat (go_quiet (fail); try go_wp2)
      go_ret
      exact ⟨by first | rfl | (simp [zan, zam] <;> rfl) | (simp [*, zan, zam] <;> rfl), by repeat (first | (with_reducible first | exact HB.out | apply zac | apply zaa | apply zad) | exact HB.out)⟩
    ·replace c13 := Bool.eq_false_iff.mpr c13
     subst c13
     have H1 : ((impl_WallList.f t435).bind fun bt442 => ((impl_CutMany.f t435).bind fun bt446 => (if 0 ≤ t438 then (if t438 < (bt442.1.length : Int) then (if bt442.2 = true then (if bt446.2 = true then (if bt446.1 ≥ 1 then (if 0 < ((rd_L1 bt442.1 t438).length : Int) then (if (rd (rd_L1 bt442.1 t438) 0) = 0 then (if 3 < ((rd_L1 bt442.1 t438).length : Int) then (if (rd (rd_L1 bt442.1 t438) 3) = (t435.length : Int) then (some true) else (if (rd (rd_L1 bt442.1 t438) 0) = 1 then (if 0 < (t435.length : Int) then (some ((rd (rd_L1 bt442.1 t438) 3) == ((rdOf ByteArray.empty t435 0).size : Int))) else (none)) else (some false))) else (none)) else (if (rd (rd_L1 bt442.1 t438) 0) = 1 then (if 3 < ((rd_L1 bt442.1 t438).length : Int) then (if 0 < (t435.length : Int) then (some ((rd (rd_L1 bt442.1 t438) 3) == ((rdOf ByteArray.empty t435 0).size : Int))) else (none)) else (none)) else (some false))) else (none)) else (some false)) else (some false)) else (some false)) else (none)) else (none)))) = some r := by rw [if_neg (show ¬ (false = true) by decide)] at H; exact H
     clear H
     have H := H1
     clear H1
     replace H := Option.bind_eq_some_iff.mp H
     obtain ⟨⟨t442, t443⟩, A150, H⟩ := H
     replace H : ((impl_CutMany.f t435).bind fun bt446 => (if 0 ≤ t438 then (if t438 < (t442.length : Int) then (if t443 = true then (if bt446.2 = true then (if bt446.1 ≥ 1 then (if 0 < ((rd_L1 t442 t438).length : Int) then (if (rd (rd_L1 t442 t438) 0) = 0 then (if 3 < ((rd_L1 t442 t438).length : Int) then (if (rd (rd_L1 t442 t438) 3) = (t435.length : Int) then (some true) else (if (rd (rd_L1 t442 t438) 0) = 1 then (if 0 < (t435.length : Int) then (some ((rd (rd_L1 t442 t438) 3) == ((rdOf ByteArray.empty t435 0).size : Int))) else (none)) else (some false))) else (none)) else (if (rd (rd_L1 t442 t438) 0) = 1 then (if 3 < ((rd_L1 t442 t438).length : Int) then (if 0 < (t435.length : Int) then (some ((rd (rd_L1 t442 t438) 3) == ((rdOf ByteArray.empty t435 0).size : Int))) else (none)) else (none)) else (some false))) else (none)) else (some false)) else (some false)) else (some false)) else (none)) else (none))) = some r := H
     have A15 := zab.mk A150
     clear A150
     replace H := Option.bind_eq_some_iff.mp H
     obtain ⟨⟨t446, t447⟩, A160, H⟩ := H
     replace H : (if 0 ≤ t438 then (if t438 < (t442.length : Int) then (if t443 = true then (if t447 = true then (if t446 ≥ 1 then (if 0 < ((rd_L1 t442 t438).length : Int) then (if (rd (rd_L1 t442 t438) 0) = 0 then (if 3 < ((rd_L1 t442 t438).length : Int) then (if (rd (rd_L1 t442 t438) 3) = (t435.length : Int) then (some true) else (if (rd (rd_L1 t442 t438) 0) = 1 then (if 0 < (t435.length : Int) then (some ((rd (rd_L1 t442 t438) 3) == ((rdOf ByteArray.empty t435 0).size : Int))) else (none)) else (some false))) else (none)) else (if (rd (rd_L1 t442 t438) 0) = 1 then (if 3 < ((rd_L1 t442 t438).length : Int) then (if 0 < (t435.length : Int) then (some ((rd (rd_L1 t442 t438) 3) == ((rdOf ByteArray.empty t435 0).size : Int))) else (none)) else (none)) else (some false))) else (none)) else (some false)) else (some false)) else (some false)) else (none)) else (none)) = some r := H
     have A16 := zab.mk A160
     clear A160
     by_cases c17 : 0 ≤ t438
     ·rw [if_pos c17] at H
      have c17b0 : decide (0 ≤ t438) = true := decide_eq_true c17
      clear c17
      by_cases c18 : t438 < (t442.length : Int)
      ·rw [if_pos c18] at H
       have c18b0 : decide (t438 < (t442.length : Int)) = true := decide_eq_true c18
       clear c18
       by_cases c19 : t443 = true
       ·subst c19
        have H1 : (if t447 = true then (if t446 ≥ 1 then (if 0 < ((rd_L1 t442 t438).length : Int) then (if (rd (rd_L1 t442 t438) 0) = 0 then (if 3 < ((rd_L1 t442 t438).length : Int) then (if (rd (rd_L1 t442 t438) 3) = (t435.length : Int) then (some true) else (if (rd (rd_L1 t442 t438) 0) = 1 then (if 0 < (t435.length : Int) then (some ((rd (rd_L1 t442 t438) 3) == ((rdOf ByteArray.empty t435 0).size : Int))) else (none)) else (some false))) else (none)) else (if (rd (rd_L1 t442 t438) 0) = 1 then (if 3 < ((rd_L1 t442 t438).length : Int) then (if 0 < (t435.length : Int) then (some ((rd (rd_L1 t442 t438) 3) == ((rdOf ByteArray.empty t435 0).size : Int))) else (none)) else (none)) else (some false))) else (none)) else (some false)) else (some false)) = some r := by rw [if_pos rfl] at H; exact H
        clear H
        have H := H1
        clear H1
        by_cases c20 : t447 = true
        ·subst c20
         have H1 : (if t446 ≥ 1 then (if 0 < ((rd_L1 t442 t438).length : Int) then (if (rd (rd_L1 t442 t438) 0) = 0 then (if 3 < ((rd_L1 t442 t438).length : Int) then (if (rd (rd_L1 t442 t438) 3) = (t435.length : Int) then (some true) else (if (rd (rd_L1 t442 t438) 0) = 1 then (if 0 < (t435.length : Int) then (some ((rd (rd_L1 t442 t438) 3) == ((rdOf ByteArray.empty t435 0).size : Int))) else (none)) else (some false))) else (none)) else (if (rd (rd_L1 t442 t438) 0) = 1 then (if 3 < ((rd_L1 t442 t438).length : Int) then (if 0 < (t435.length : Int) then (some ((rd (rd_L1 t442 t438) 3) == ((rdOf ByteArray.empty t435 0).size : Int))) else (none)) else (none)) else (some false))) else (none)) else (some false)) = some r := by rw [if_pos rfl] at H; exact H
         clear H
         have H := H1
         clear H1
         by_cases c21 : t446 ≥ 1
         ·rw [if_pos c21] at H
          have c21b0 : decide (1 ≤ t446) = true := decide_eq_true c21
          clear c21
          by_cases c22 : 0 < ((rd_L1 t442 t438).length : Int)
          ·rw [if_pos c22] at H
           have c22b0 : decide (0 < ((rd_L1 t442 t438).length : Int)) = true := decide_eq_true c22
           have c22b1 : decide (0 < (rd_L1 t442 t438).length) = true := decide_eq_true (by omega)
           clear c22
           by_cases c23 : (rd (rd_L1 t442 t438) 0) = 0
           ·rw [if_pos c23] at H
            have c23b0 : ((rd (rd_L1 t442 t438) 0) == 0) = true := beq_iff_eq.mpr c23
            have c23b1 : ((rd (rd_L1 t442 t438) 0) != 0) = false := bne_eq_false_iff_eq.mpr c23
            clear c23
            by_cases c24 : 3 < ((rd_L1 t442 t438).length : Int)
            ·rw [if_pos c24] at H
             have c24b0 : decide (3 < ((rd_L1 t442 t438).length : Int)) = true := decide_eq_true c24
             have c24b1 : decide (3 < (rd_L1 t442 t438).length) = true := decide_eq_true (by omega)
             clear c24
             by_cases c25 : (rd (rd_L1 t442 t438) 3) = (t435.length : Int)
             ·rw [if_pos c25] at H
              have c25b0 : ((rd (rd_L1 t442 t438) 3) == (t435.length : Int)) = true := beq_iff_eq.mpr c25
              have c25b1 : ((rd (rd_L1 t442 t438) 3) != (t435.length : Int)) = false := bne_eq_false_iff_eq.mpr c25
              clear c25
              obtain rfl := Option.some.inj H
              go_wp2_with (first | (go_at_call 24; (with_reducible refine (impl_WallList.calls _ _ t435 t442 true _ ?side1 ?side2 A15.out).mono ?_); (case side1 => repeat (first | exact (Kd.V_reads' HO_3.out).2.2 | (with_reducible refine Kd.C_alloc ?_ _) | (with_reducible refine Kd.C_drewN ?_ _) | (with_reducible refine Kd.C_drew ?_))); (case side2 => exact (Kd.V_reads' HO_3.out).2.1); rintro e w26 ⟨v444, rfl, ho0, hb⟩; have n0_ := zab.mk (Kd.V_elder' (by (with_reducible repeat (first | apply Kd.V_alloc | apply Kd.V_drewN | apply Kd.V_drew)); exact HO_3.out) (Kd.S_base ho0) hb); have n1_ := zab.mk (Kd.S_lower ho0 (zaj (by repeat (first | (with_reducible first | exact HB.out | apply zac | apply zaa | apply zad) | exact HB.out)))); have n2_ := zab.mk (zag (by repeat (first | (with_reducible first | exact HB.out | apply zac | apply zaa | apply zad) | exact HB.out)) hb); clear HO_3; clear HB; have HO_3 := n0_; have HO445 := n1_; have HB := n2_; clear n0_ n1_ n2_; (try clear hb); (try clear hb2); (try clear hk); (try clear hi); (try clear ho0)) | (go_at_call 45; (with_reducible refine (impl_CutMany.calls _ _ t435 t446 true _ ?side1 ?side2 A16.out).mono ?_); (case side1 => repeat (first | exact (Kd.V_reads' HO_3.out).2.2 | (with_reducible refine Kd.C_alloc ?_ _) | (with_reducible refine Kd.C_drewN ?_ _) | (with_reducible refine Kd.C_drew ?_))); (case side2 => exact (Kd.V_reads' HO_3.out).2.1); rintro e w27 ⟨rfl, hb⟩; have n0_ := zab.mk (Kd.V_below (by (with_reducible repeat (first | apply Kd.V_alloc | apply Kd.V_drewN | apply Kd.V_drew)); exact HO_3.out) hb); have n1_ := zab.mk (Kd.S_below (by (with_reducible repeat (first | apply Kd.S_alloc | apply Kd.S_drewN | apply Kd.S_drew)); exact HO445.out) hb); have n2_ := zab.mk (zag (by repeat (first | (with_reducible first | exact HB.out | apply zac | apply zaa | apply zad) | exact HB.out)) hb); clear HO_3; clear HO445; clear HB; have HO_3 := n0_; have HO445 := n1_; have HB := n2_; clear n0_ n1_ n2_; (try clear hb); (try clear hb2); (try clear hk); (try clear hi); obtain ⟨Ao28, co28, eo28⟩ := Kd.S_slice HO445.out; subst eo28; have p448 : 0 ≤ (t438 : Int) := of_decide_eq_true (by first | (with_reducible assumption) | assumption); have q448 : t438 < (t442.length : Int) := of_decide_eq_true (by first | (with_reducible assumption) | assumption); obtain ⟨ad448, A448_0, c448_0, e448, hx448_0, hl448_0, hi448_0⟩ := at_L1 (Kd.S_reads' HO445.out).2.2 t438 p448 q448; cases e448; obtain ⟨ce448, hce448, hMe448, hcc448⟩ := Kd.S_get HO445.out [] t438 p448 (by first | exact q448 | exact of_decide_eq_true (by first | (with_reducible assumption) | assumption) | (have e_ := (Kd.S_reads' HO445.out).1; omega)); obtain ⟨ve448_0, rfl, ge448_0⟩ := hMe448; have hv448_0 := hcc448 0 _ rfl; rw [Nat.add_zero, show ((Kd.slice 3 (Kd.int .i64))).sz = 1 from rfl, Nat.mul_one] at hv448_0; replace hv448_0 := Option.some.inj (hv448_0.symm.trans hx448_0); rw [hv448_0] at ge448_0; have HL448_0 := zab.mk (show Kd.R (Kd.int .i64) 3 _ _ _ _ (rd_L1 t442 t438) from ge448_0); clear hv448_0 ge448_0; clear hcc448 hce448; have HR448_0 := zab.mk hi448_0; have HC448_0 := zab.mk hl448_0; clear hi448_0 hl448_0; replace p448 := eq_true p448; replace q448 := eq_true q448; have p449 : 0 ≤ (0 : Int) := (by omega); have q449 : 0 < ((rd_L1 t442 t438).length : Int) := of_decide_eq_true (by first | (with_reducible assumption) | assumption); obtain ⟨ad449, e449, hx449_0⟩ := Kd.at_int (by repeat (first | (with_reducible exact HR448_0.out) | (with_reducible refine Kd.C_alloc ?_ _) | (with_reducible refine Kd.C_drewN ?_ _) | (with_reducible refine Kd.C_drew ?_) | exact HR448_0.out)) 0 p449 q449; cases e449; have qi449 : (0 < (rd_L1 t442 t438).length) = True := eq_true (by omega); (try rw [show ((0 : Int)).toNat = 0 from rfl] at hx449_0); (try rw [Addr.add_zero'] at hx449_0); replace p449 := eq_true p449; replace q449 := eq_true q449; have p450 : 0 ≤ (3 : Int) := (by omega); have q450 : 3 < ((rd_L1 t442 t438).length : Int) := of_decide_eq_true (by first | (with_reducible assumption) | assumption); obtain ⟨ad450, e450, hx450_0⟩ := Kd.at_int (by repeat (first | (with_reducible exact HR448_0.out) | (with_reducible refine Kd.C_alloc ?_ _) | (with_reducible refine Kd.C_drewN ?_ _) | (with_reducible refine Kd.C_drew ?_) | exact HR448_0.out)) 3 p450 q450; obtain rfl : ad449 = ad450 := (by injection e450); (try simp only [show (3 : Int).toNat = 3 from rfl, Nat.reduceMul, Nat.reduceEqDiff, Go.Addr.add, ↓reduceIte] at hx450_0); have qi450 : (3 < (rd_L1 t442 t438).length) = True := eq_true (by omega); (try rw [show ((3 : Int)).toNat = 3 from rfl] at hx450_0); replace p450 := eq_true p450; replace q450 := eq_true q450))
              repeat (go_quiet (first | (go_at_call 24; (with_reducible refine (impl_WallList.calls _ _ t435 t442 true _ ?side1 ?side2 A15.out).mono ?_); (case side1 => repeat (first | exact (Kd.V_reads' HO_3.out).2.2 | (with_reducible refine Kd.C_alloc ?_ _) | (with_reducible refine Kd.C_drewN ?_ _) | (with_reducible refine Kd.C_drew ?_))); (case side2 => exact (Kd.V_reads' HO_3.out).2.1); rintro e w26 ⟨v444, rfl, ho0, hb⟩; have n0_ := zab.mk (Kd.V_elder' (by (with_reducible repeat (first | apply Kd.V_alloc | apply Kd.V_drewN | apply Kd.V_drew)); exact HO_3.out) (Kd.S_base ho0) hb); have n1_ := zab.mk (Kd.S_lower ho0 (zaj (by repeat (first | (with_reducible first | exact HB.out | apply zac | apply zaa | apply zad) | exact HB.out)))); have n2_ := zab.mk (zag (by repeat (first | (with_reducible first | exact HB.out | apply zac | apply zaa | apply zad) | exact HB.out)) hb); clear HO_3; clear HB; have HO_3 := n0_; have HO445 := n1_; have HB := n2_; clear n0_ n1_ n2_; (try clear hb); (try clear hb2); (try clear hk); (try clear hi); (try clear ho0)) | (go_at_call 45; (with_reducible refine (impl_CutMany.calls _ _ t435 t446 true _ ?side1 ?side2 A16.out).mono ?_); (case side1 => repeat (first | exact (Kd.V_reads' HO_3.out).2.2 | (with_reducible refine Kd.C_alloc ?_ _) | (with_reducible refine Kd.C_drewN ?_ _) | (with_reducible refine Kd.C_drew ?_))); (case side2 => exact (Kd.V_reads' HO_3.out).2.1); rintro e w27 ⟨rfl, hb⟩; have n0_ := zab.mk (Kd.V_below (by (with_reducible repeat (first | apply Kd.V_alloc | apply Kd.V_drewN | apply Kd.V_drew)); exact HO_3.out) hb); have n1_ := zab.mk (Kd.S_below (by (with_reducible repeat (first | apply Kd.S_alloc | apply Kd.S_drewN | apply Kd.S_drew)); exact HO445.out) hb); have n2_ := zab.mk (zag (by repeat (first | (with_reducible first | exact HB.out | apply zac | apply zaa | apply zad) | exact HB.out)) hb); clear HO_3; clear HO445; clear HB; have HO_3 := n0_; have HO445 := n1_; have HB := n2_; clear n0_ n1_ n2_; (try clear hb); (try clear hb2); (try clear hk); (try clear hi); obtain ⟨Ao28, co28, eo28⟩ := Kd.S_slice HO445.out; subst eo28; have p448 : 0 ≤ (t438 : Int) := of_decide_eq_true (by first | (with_reducible assumption) | assumption); have q448 : t438 < (t442.length : Int) := of_decide_eq_true (by first | (with_reducible assumption) | assumption); obtain ⟨ad448, A448_0, c448_0, e448, hx448_0, hl448_0, hi448_0⟩ := at_L1 (Kd.S_reads' HO445.out).2.2 t438 p448 q448; cases e448; obtain ⟨ce448, hce448, hMe448, hcc448⟩ := Kd.S_get HO445.out [] t438 p448 (by first | exact q448 | exact of_decide_eq_true (by first | (with_reducible assumption) | assumption) | (have e_ := (Kd.S_reads' HO445.out).1; omega)); obtain ⟨ve448_0, rfl, ge448_0⟩ := hMe448; have hv448_0 := hcc448 0 _ rfl; rw [Nat.add_zero, show ((Kd.slice 3 (Kd.int .i64))).sz = 1 from rfl, Nat.mul_one] at hv448_0; replace hv448_0 := Option.some.inj (hv448_0.symm.trans hx448_0); rw [hv448_0] at ge448_0; have HL448_0 := zab.mk (show Kd.R (Kd.int .i64) 3 _ _ _ _ (rd_L1 t442 t438) from ge448_0); clear hv448_0 ge448_0; clear hcc448 hce448; have HR448_0 := zab.mk hi448_0; have HC448_0 := zab.mk hl448_0; clear hi448_0 hl448_0; replace p448 := eq_true p448; replace q448 := eq_true q448; have p449 : 0 ≤ (0 : Int) := (by omega); have q449 : 0 < ((rd_L1 t442 t438).length : Int) := of_decide_eq_true (by first | (with_reducible assumption) | assumption); obtain ⟨ad449, e449, hx449_0⟩ := Kd.at_int (by repeat (first | (with_reducible exact HR448_0.out) | (with_reducible refine Kd.C_alloc ?_ _) | (with_reducible refine Kd.C_drewN ?_ _) | (with_reducible refine Kd.C_drew ?_) | exact HR448_0.out)) 0 p449 q449; cases e449; have qi449 : (0 < (rd_L1 t442 t438).length) = True := eq_true (by omega); (try rw [show ((0 : Int)).toNat = 0 from rfl] at hx449_0); (try rw [Addr.add_zero'] at hx449_0); replace p449 := eq_true p449; replace q449 := eq_true q449; have p450 : 0 ≤ (3 : Int) := (by omega); have q450 : 3 < ((rd_L1 t442 t438).length : Int) := of_decide_eq_true (by first | (with_reducible assumption) | assumption); obtain ⟨ad450, e450, hx450_0⟩ := Kd.at_int (by repeat (first | (with_reducible exact HR448_0.out) | (with_reducible refine Kd.C_alloc ?_ _) | (with_reducible refine Kd.C_drewN ?_ _) | (with_reducible refine Kd.C_drew ?_) | exact HR448_0.out)) 3 p450 q450; obtain rfl : ad449 = ad450 := (by injection e450); (try simp only [show (3 : Int).toNat = 3 from rfl, Nat.reduceMul, Nat.reduceEqDiff, Go.Addr.add, ↓reduceIte] at hx450_0); have qi450 : (3 < (rd_L1 t442 t438).length) = True := eq_true (by omega); (try rw [show ((3 : Int)).toNat = 3 from rfl] at hx450_0); replace p450 := eq_true p450; replace q450 := eq_true q450)); try go_wp2_with (first | (go_at_call 24; (with_reducible refine (impl_WallList.calls _ _ t435 t442 true _ ?side1 ?side2 A15.out).mono ?_); (case side1 => repeat (first | exact (Kd.V_reads' HO_3.out).2.2 | (with_reducible refine Kd.C_alloc ?_ _) | (with_reducible refine Kd.C_drewN ?_ _) | (with_reducible refine Kd.C_drew ?_))); (case side2 => exact (Kd.V_reads' HO_3.out).2.1); rintro e w26 ⟨v444, rfl, ho0, hb⟩; have n0_ := zab.mk (Kd.V_elder' (by (with_reducible repeat (first | apply Kd.V_alloc | apply Kd.V_drewN | apply Kd.V_drew)); exact HO_3.out) (Kd.S_base ho0) hb); have n1_ := zab.mk (Kd.S_lower ho0 (zaj (by repeat (first | (with_reducible first | exact HB.out | apply zac | apply zaa | apply zad) | exact HB.out)))); have n2_ := zab.mk (zag (by repeat (first | (with_reducible first | exact HB.out | apply zac | apply zaa | apply zad) | exact HB.out)) hb); clear HO_3; clear HB; have HO_3 := n0_; have HO445 := n1_; have HB := n2_; clear n0_ n1_ n2_; (try clear hb); (try clear hb2); (try clear hk); (try clear hi); (try clear ho0)) | (go_at_call 45; (with_reducible refine (impl_CutMany.calls _ _ t435 t446 true _ ?side1 ?side2 A16.out).mono ?_); (case side1 => repeat (first | exact (Kd.V_reads' HO_3.out).2.2 | (with_reducible refine Kd.C_alloc ?_ _) | (with_reducible refine Kd.C_drewN ?_ _) | (with_reducible refine Kd.C_drew ?_))); (case side2 => exact (Kd.V_reads' HO_3.out).2.1); rintro e w27 ⟨rfl, hb⟩; have n0_ := zab.mk (Kd.V_below (by (with_reducible repeat (first | apply Kd.V_alloc | apply Kd.V_drewN | apply Kd.V_drew)); exact HO_3.out) hb); have n1_ := zab.mk (Kd.S_below (by (with_reducible repeat (first | apply Kd.S_alloc | apply Kd.S_drewN | apply Kd.S_drew)); exact HO445.out) hb); have n2_ := zab.mk (zag (by repeat (first | (with_reducible first | exact HB.out | apply zac | apply zaa | apply zad) | exact HB.out)) hb); clear HO_3; clear HO445; clear HB; have HO_3 := n0_; have HO445 := n1_; have HB := n2_; clear n0_ n1_ n2_; (try clear hb); (try clear hb2); (try clear hk); (try clear hi); obtain ⟨Ao28, co28, eo28⟩ := Kd.S_slice HO445.out; subst eo28; have p448 : 0 ≤ (t438 : Int) := of_decide_eq_true (by first | (with_reducible assumption) | assumption); have q448 : t438 < (t442.length : Int) := of_decide_eq_true (by first | (with_reducible assumption) | assumption); obtain ⟨ad448, A448_0, c448_0, e448, hx448_0, hl448_0, hi448_0⟩ := at_L1 (Kd.S_reads' HO445.out).2.2 t438 p448 q448; cases e448; obtain ⟨ce448, hce448, hMe448, hcc448⟩ := Kd.S_get HO445.out [] t438 p448 (by first | exact q448 | exact of_decide_eq_true (by first | (with_reducible assumption) | assumption) | (have e_ := (Kd.S_reads' HO445.out).1; omega)); obtain ⟨ve448_0, rfl, ge448_0⟩ := hMe448; have hv448_0 := hcc448 0 _ rfl; rw [Nat.add_zero, show ((Kd.slice 3 (Kd.int .i64))).sz = 1 from rfl, Nat.mul_one] at hv448_0; replace hv448_0 := Option.some.inj (hv448_0.symm.trans hx448_0); rw [hv448_0] at ge448_0; have HL448_0 := zab.mk (show Kd.R (Kd.int .i64) 3 _ _ _ _ (rd_L1 t442 t438) from ge448_0); clear hv448_0 ge448_0; clear hcc448 hce448; have HR448_0 := zab.mk hi448_0; have HC448_0 := zab.mk hl448_0; clear hi448_0 hl448_0; replace p448 := eq_true p448; replace q448 := eq_true q448; have p449 : 0 ≤ (0 : Int) := (by omega); have q449 : 0 < ((rd_L1 t442 t438).length : Int) := of_decide_eq_true (by first | (with_reducible assumption) | assumption); obtain ⟨ad449, e449, hx449_0⟩ := Kd.at_int (by repeat (first | (with_reducible exact HR448_0.out) | (with_reducible refine Kd.C_alloc ?_ _) | (with_reducible refine Kd.C_drewN ?_ _) | (with_reducible refine Kd.C_drew ?_) | exact HR448_0.out)) 0 p449 q449; cases e449; have qi449 : (0 < (rd_L1 t442 t438).length) = True := eq_true (by omega); (try rw [show ((0 : Int)).toNat = 0 from rfl] at hx449_0); (try rw [Addr.add_zero'] at hx449_0); replace p449 := eq_true p449; replace q449 := eq_true q449; have p450 : 0 ≤ (3 : Int) := (by omega); have q450 : 3 < ((rd_L1 t442 t438).length : Int) := of_decide_eq_true (by first | (with_reducible assumption) | assumption); obtain ⟨ad450, e450, hx450_0⟩ := Kd.at_int (by repeat (first | (with_reducible exact HR448_0.out) | (with_reducible refine Kd.C_alloc ?_ _) | (with_reducible refine Kd.C_drewN ?_ _) | (with_reducible refine Kd.C_drew ?_) | exact HR448_0.out)) 3 p450 q450; obtain rfl : ad449 = ad450 := (by injection e450); (try simp only [show (3 : Int).toNat = 3 from rfl, Nat.reduceMul, Nat.reduceEqDiff, Go.Addr.add, ↓reduceIte] at hx450_0); have qi450 : (3 < (rd_L1 t442 t438).length) = True := eq_true (by omega); (try rw [show ((3 : Int)).toNat = 3 from rfl] at hx450_0); replace p450 := eq_true p450; replace q450 := eq_true q450)))
              go_ret
              exact ⟨by first | rfl | (simp [zan, zam] <;> rfl) | (simp [*, zan, zam] <;> rfl), by repeat (first | (with_reducible first | exact HB.out | apply zac | apply zaa | apply zad) | exact HB.out)⟩
             ·rw [if_neg c25] at H
              have c25b0 : ((rd (rd_L1 t442 t438) 3) == (t435.length : Int)) = false := beq_eq_false_iff_ne.mpr c25
              have c25b1 : ((rd (rd_L1 t442 t438) 3) != (t435.length : Int)) = true := bne_iff_ne.mpr c25
              by_cases c29 : (rd (rd_L1 t442 t438) 0) = 1
              ·rw [if_pos c29] at H
               have c29b0 : ((rd (rd_L1 t442 t438) 0) == 1) = true := beq_iff_eq.mpr c29
               have c29b1 : ((rd (rd_L1 t442 t438) 0) != 1) = false := bne_eq_false_iff_eq.mpr c29
               clear c29
               by_cases c30 : 0 < (t435.length : Int)
               ·rw [if_pos c30] at H
                have c30b0 : decide (0 < (t435.length : Int)) = true := decide_eq_true c30
                have c30b1 : decide (0 < t435.length) = true := decide_eq_true (by omega)
                clear c30
                obtain rfl := Option.some.inj H
                go_wp2_with (first | (go_at_call 24; (with_reducible refine (impl_WallList.calls _ _ t435 t442 true _ ?side1 ?side2 A15.out).mono ?_); (case side1 => repeat (first | exact (Kd.V_reads' HO_3.out).2.2 | (with_reducible refine Kd.C_alloc ?_ _) | (with_reducible refine Kd.C_drewN ?_ _) | (with_reducible refine Kd.C_drew ?_))); (case side2 => exact (Kd.V_reads' HO_3.out).2.1); rintro e w31 ⟨v444, rfl, ho0, hb⟩; have n0_ := zab.mk (Kd.V_elder' (by (with_reducible repeat (first | apply Kd.V_alloc | apply Kd.V_drewN | apply Kd.V_drew)); exact HO_3.out) (Kd.S_base ho0) hb); have n1_ := zab.mk (Kd.S_lower ho0 (zaj (by repeat (first | (with_reducible first | exact HB.out | apply zac | apply zaa | apply zad) | exact HB.out)))); have n2_ := zab.mk (zag (by repeat (first | (with_reducible first | exact HB.out | apply zac | apply zaa | apply zad) | exact HB.out)) hb); clear HO_3; clear HB; have HO_3 := n0_; have HO445 := n1_; have HB := n2_; clear n0_ n1_ n2_; (try clear hb); (try clear hb2); (try clear hk); (try clear hi); (try clear ho0)) | (go_at_call 45; (with_reducible refine (impl_CutMany.calls _ _ t435 t446 true _ ?side1 ?side2 A16.out).mono ?_); (case side1 => repeat (first | exact (Kd.V_reads' HO_3.out).2.2 | (with_reducible refine Kd.C_alloc ?_ _) | (with_reducible refine Kd.C_drewN ?_ _) | (with_reducible refine Kd.C_drew ?_))); (case side2 => exact (Kd.V_reads' HO_3.out).2.1); rintro e w32 ⟨rfl, hb⟩; have n0_ := zab.mk (Kd.V_below (by (with_reducible repeat (first | apply Kd.V_alloc | apply Kd.V_drewN | apply Kd.V_drew)); exact HO_3.out) hb); have n1_ := zab.mk (Kd.S_below (by (with_reducible repeat (first | apply Kd.S_alloc | apply Kd.S_drewN | apply Kd.S_drew)); exact HO445.out) hb); have n2_ := zab.mk (zag (by repeat (first | (with_reducible first | exact HB.out | apply zac | apply zaa | apply zad) | exact HB.out)) hb); clear HO_3; clear HO445; clear HB; have HO_3 := n0_; have HO445 := n1_; have HB := n2_; clear n0_ n1_ n2_; (try clear hb); (try clear hb2); (try clear hk); (try clear hi); obtain ⟨Ao33, co33, eo33⟩ := Kd.S_slice HO445.out; subst eo33; have p448 : 0 ≤ (t438 : Int) := of_decide_eq_true (by first | (with_reducible assumption) | assumption); have q448 : t438 < (t442.length : Int) := of_decide_eq_true (by first | (with_reducible assumption) | assumption); obtain ⟨ad448, A448_0, c448_0, e448, hx448_0, hl448_0, hi448_0⟩ := at_L1 (Kd.S_reads' HO445.out).2.2 t438 p448 q448; cases e448; obtain ⟨ce448, hce448, hMe448, hcc448⟩ := Kd.S_get HO445.out [] t438 p448 (by first | exact q448 | exact of_decide_eq_true (by first | (with_reducible assumption) | assumption) | (have e_ := (Kd.S_reads' HO445.out).1; omega)); obtain ⟨ve448_0, rfl, ge448_0⟩ := hMe448; have hv448_0 := hcc448 0 _ rfl; rw [Nat.add_zero, show ((Kd.slice 3 (Kd.int .i64))).sz = 1 from rfl, Nat.mul_one] at hv448_0; replace hv448_0 := Option.some.inj (hv448_0.symm.trans hx448_0); rw [hv448_0] at ge448_0; have HL448_0 := zab.mk (show Kd.R (Kd.int .i64) 3 _ _ _ _ (rd_L1 t442 t438) from ge448_0); clear hv448_0 ge448_0; clear hcc448 hce448; have HR448_0 := zab.mk hi448_0; have HC448_0 := zab.mk hl448_0; clear hi448_0 hl448_0; replace p448 := eq_true p448; replace q448 := eq_true q448; have p449 : 0 ≤ (0 : Int) := (by omega); have q449 : 0 < ((rd_L1 t442 t438).length : Int) := of_decide_eq_true (by first | (with_reducible assumption) | assumption); obtain ⟨ad449, e449, hx449_0⟩ := Kd.at_int (by repeat (first | (with_reducible exact HR448_0.out) | (with_reducible refine Kd.C_alloc ?_ _) | (with_reducible refine Kd.C_drewN ?_ _) | (with_reducible refine Kd.C_drew ?_) | exact HR448_0.out)) 0 p449 q449; cases e449; have qi449 : (0 < (rd_L1 t442 t438).length) = True := eq_true (by omega); (try rw [show ((0 : Int)).toNat = 0 from rfl] at hx449_0); (try rw [Addr.add_zero'] at hx449_0); replace p449 := eq_true p449; replace q449 := eq_true q449; have p450 : 0 ≤ (3 : Int) := (by omega); have q450 : 3 < ((rd_L1 t442 t438).length : Int) := of_decide_eq_true (by first | (with_reducible assumption) | assumption); obtain ⟨ad450, e450, hx450_0⟩ := Kd.at_int (by repeat (first | (with_reducible exact HR448_0.out) | (with_reducible refine Kd.C_alloc ?_ _) | (with_reducible refine Kd.C_drewN ?_ _) | (with_reducible refine Kd.C_drew ?_) | exact HR448_0.out)) 3 p450 q450; obtain rfl : ad449 = ad450 := (by injection e450); (try simp only [show (3 : Int).toNat = 3 from rfl, Nat.reduceMul, Nat.reduceEqDiff, Go.Addr.add, ↓reduceIte] at hx450_0); have qi450 : (3 < (rd_L1 t442 t438).length) = True := eq_true (by omega); (try rw [show ((3 : Int)).toNat = 3 from rfl] at hx450_0); replace p450 := eq_true p450; replace q450 := eq_true q450; have p451 : 0 ≤ (0 : Int) := (by omega); have q451 : 0 < ((rd_L1 t442 t438).length : Int) := of_decide_eq_true (by first | (with_reducible assumption) | assumption); obtain ⟨ad451, e451, hx451_0⟩ := Kd.at_int (by repeat (first | (with_reducible exact HR448_0.out) | (with_reducible refine Kd.C_alloc ?_ _) | (with_reducible refine Kd.C_drewN ?_ _) | (with_reducible refine Kd.C_drew ?_) | exact HR448_0.out)) 0 p451 q451; obtain rfl : ad449 = ad451 := (by injection e451); have qi451 : (0 < (rd_L1 t442 t438).length) = True := eq_true (by omega); (try rw [show ((0 : Int)).toNat = 0 from rfl] at hx451_0); (try rw [Addr.add_zero'] at hx451_0); replace p451 := eq_true p451; replace q451 := eq_true q451; have p452 : 0 ≤ (3 : Int) := (by omega); have q452 : 3 < ((rd_L1 t442 t438).length : Int) := of_decide_eq_true (by first | (with_reducible assumption) | assumption); obtain ⟨ad452, e452, hx452_0⟩ := Kd.at_int (by repeat (first | (with_reducible exact HR448_0.out) | (with_reducible refine Kd.C_alloc ?_ _) | (with_reducible refine Kd.C_drewN ?_ _) | (with_reducible refine Kd.C_drew ?_) | exact HR448_0.out)) 3 p452 q452; obtain rfl : ad449 = ad452 := (by injection e452); (try simp only [show (3 : Int).toNat = 3 from rfl, Nat.reduceMul, Nat.reduceEqDiff, Go.Addr.add, ↓reduceIte] at hx452_0); have qi452 : (3 < (rd_L1 t442 t438).length) = True := eq_true (by omega); (try rw [show ((3 : Int)).toNat = 3 from rfl] at hx452_0); replace p452 := eq_true p452; replace q452 := eq_true q452; have p453 : 0 ≤ (0 : Int) := (by omega); have q453 : 0 < (t435.length : Int) := of_decide_eq_true (by first | (with_reducible assumption) | assumption); obtain ⟨ad453, e453, hx453_0⟩ := Kd.at_string (Kd.V_reads' HO_3.out).2.2 0 p453 q453; cases e453; have qi453 : (0 < t435.length) = True := eq_true (by omega); (try rw [show ((0 : Int)).toNat = 0 from rfl] at hx453_0); (try rw [Addr.add_zero'] at hx453_0); replace p453 := eq_true p453; replace q453 := eq_true q453))
                repeat (go_quiet (first | (go_at_call 24; (with_reducible refine (impl_WallList.calls _ _ t435 t442 true _ ?side1 ?side2 A15.out).mono ?_); (case side1 => repeat (first | exact (Kd.V_reads' HO_3.out).2.2 | (with_reducible refine Kd.C_alloc ?_ _) | (with_reducible refine Kd.C_drewN ?_ _) | (with_reducible refine Kd.C_drew ?_))); (case side2 => exact (Kd.V_reads' HO_3.out).2.1); rintro e w31 ⟨v444, rfl, ho0, hb⟩; have n0_ := zab.mk (Kd.V_elder' (by (with_reducible repeat (first | apply Kd.V_alloc | apply Kd.V_drewN | apply Kd.V_drew)); exact HO_3.out) (Kd.S_base ho0) hb); have n1_ := zab.mk (Kd.S_lower ho0 (zaj (by repeat (first | (with_reducible first | exact HB.out | apply zac | apply zaa | apply zad) | exact HB.out)))); have n2_ := zab.mk (zag (by repeat (first | (with_reducible first | exact HB.out | apply zac | apply zaa | apply zad) | exact HB.out)) hb); clear HO_3; clear HB; have HO_3 := n0_; have HO445 := n1_; have HB := n2_; clear n0_ n1_ n2_; (try clear hb); (try clear hb2); (try clear hk); (try clear hi); (try clear ho0)) | (go_at_call 45; (with_reducible refine (impl_CutMany.calls _ _ t435 t446 true _ ?side1 ?side2 A16.out).mono ?_); (case side1 => repeat (first | exact (Kd.V_reads' HO_3.out).2.2 | (with_reducible refine Kd.C_alloc ?_ _) | (with_reducible refine Kd.C_drewN ?_ _) | (with_reducible refine Kd.C_drew ?_))); (case side2 => exact (Kd.V_reads' HO_3.out).2.1); rintro e w32 ⟨rfl, hb⟩; have n0_ := zab.mk (Kd.V_below (by (with_reducible repeat (first | apply Kd.V_alloc | apply Kd.V_drewN | apply Kd.V_drew)); exact HO_3.out) hb); have n1_ := zab.mk (Kd.S_below (by (with_reducible repeat (first | apply Kd.S_alloc | apply Kd.S_drewN | apply Kd.S_drew)); exact HO445.out) hb); have n2_ := zab.mk (zag (by repeat (first | (with_reducible first | exact HB.out | apply zac | apply zaa | apply zad) | exact HB.out)) hb); clear HO_3; clear HO445; clear HB; have HO_3 := n0_; have HO445 := n1_; have HB := n2_; clear n0_ n1_ n2_; (try clear hb); (try clear hb2); (try clear hk); (try clear hi); obtain ⟨Ao33, co33, eo33⟩ := Kd.S_slice HO445.out; subst eo33; have p448 : 0 ≤ (t438 : Int) := of_decide_eq_true (by first | (with_reducible assumption) | assumption); have q448 : t438 < (t442.length : Int) := of_decide_eq_true (by first | (with_reducible assumption) | assumption); obtain ⟨ad448, A448_0, c448_0, e448, hx448_0, hl448_0, hi448_0⟩ := at_L1 (Kd.S_reads' HO445.out).2.2 t438 p448 q448; cases e448; obtain ⟨ce448, hce448, hMe448, hcc448⟩ := Kd.S_get HO445.out [] t438 p448 (by first | exact q448 | exact of_decide_eq_true (by first | (with_reducible assumption) | assumption) | (have e_ := (Kd.S_reads' HO445.out).1; omega)); obtain ⟨ve448_0, rfl, ge448_0⟩ := hMe448; have hv448_0 := hcc448 0 _ rfl; rw [Nat.add_zero, show ((Kd.slice 3 (Kd.int .i64))).sz = 1 from rfl, Nat.mul_one] at hv448_0; replace hv448_0 := Option.some.inj (hv448_0.symm.trans hx448_0); rw [hv448_0] at ge448_0; have HL448_0 := zab.mk (show Kd.R (Kd.int .i64) 3 _ _ _ _ (rd_L1 t442 t438) from ge448_0); clear hv448_0 ge448_0; clear hcc448 hce448; have HR448_0 := zab.mk hi448_0; have HC448_0 := zab.mk hl448_0; clear hi448_0 hl448_0; replace p448 := eq_true p448; replace q448 := eq_true q448; have p449 : 0 ≤ (0 : Int) := (by omega); have q449 : 0 < ((rd_L1 t442 t438).length : Int) := of_decide_eq_true (by first | (with_reducible assumption) | assumption); obtain ⟨ad449, e449, hx449_0⟩ := Kd.at_int (by repeat (first | (with_reducible exact HR448_0.out) | (with_reducible refine Kd.C_alloc ?_ _) | (with_reducible refine Kd.C_drewN ?_ _) | (with_reducible refine Kd.C_drew ?_) | exact HR448_0.out)) 0 p449 q449; cases e449; have qi449 : (0 < (rd_L1 t442 t438).length) = True := eq_true (by omega); (try rw [show ((0 : Int)).toNat = 0 from rfl] at hx449_0); (try rw [Addr.add_zero'] at hx449_0); replace p449 := eq_true p449; replace q449 := eq_true q449; have p450 : 0 ≤ (3 : Int) := (by omega); have q450 : 3 < ((rd_L1 t442 t438).length : Int) := of_decide_eq_true (by first | (with_reducible assumption) | assumption); obtain ⟨ad450, e450, hx450_0⟩ := Kd.at_int (by repeat (first | (with_reducible exact HR448_0.out) | (with_reducible refine Kd.C_alloc ?_ _) | (with_reducible refine Kd.C_drewN ?_ _) | (with_reducible refine Kd.C_drew ?_) | exact HR448_0.out)) 3 p450 q450; obtain rfl : ad449 = ad450 := (by injection e450); (try simp only [show (3 : Int).toNat = 3 from rfl, Nat.reduceMul, Nat.reduceEqDiff, Go.Addr.add, ↓reduceIte] at hx450_0); have qi450 : (3 < (rd_L1 t442 t438).length) = True := eq_true (by omega); (try rw [show ((3 : Int)).toNat = 3 from rfl] at hx450_0); replace p450 := eq_true p450; replace q450 := eq_true q450; have p451 : 0 ≤ (0 : Int) := (by omega); have q451 : 0 < ((rd_L1 t442 t438).length : Int) := of_decide_eq_true (by first | (with_reducible assumption) | assumption); obtain ⟨ad451, e451, hx451_0⟩ := Kd.at_int (by repeat (first | (with_reducible exact HR448_0.out) | (with_reducible refine Kd.C_alloc ?_ _) | (with_reducible refine Kd.C_drewN ?_ _) | (with_reducible refine Kd.C_drew ?_) | exact HR448_0.out)) 0 p451 q451; obtain rfl : ad449 = ad451 := (by injection e451); have qi451 : (0 < (rd_L1 t442 t438).length) = True := eq_true (by omega); (try rw [show ((0 : Int)).toNat = 0 from rfl] at hx451_0); (try rw [Addr.add_zero'] at hx451_0); replace p451 := eq_true p451; replace q451 := eq_true q451; have p452 : 0 ≤ (3 : Int) := (by omega); have q452 : 3 < ((rd_L1 t442 t438).length : Int) := of_decide_eq_true (by first | (with_reducible assumption) | assumption); obtain ⟨ad452, e452, hx452_0⟩ := Kd.at_int (by repeat (first | (with_reducible exact HR448_0.out) | (with_reducible refine Kd.C_alloc ?_ _) | (with_reducible refine Kd.C_drewN ?_ _) | (with_reducible refine Kd.C_drew ?_) | exact HR448_0.out)) 3 p452 q452; obtain rfl : ad449 = ad452 := (by injection e452); (try simp only [show (3 : Int).toNat = 3 from rfl, Nat.reduceMul, Nat.reduceEqDiff, Go.Addr.add, ↓reduceIte] at hx452_0); have qi452 : (3 < (rd_L1 t442 t438).length) = True := eq_true (by omega); (try rw [show ((3 : Int)).toNat = 3 from rfl] at hx452_0); replace p452 := eq_true p452; replace q452 := eq_true q452; have p453 : 0 ≤ (0 : Int) := (by omega); have q453 : 0 < (t435.length : Int) := of_decide_eq_true (by first | (with_reducible assumption) | assumption); obtain ⟨ad453, e453, hx453_0⟩ := Kd.at_string (Kd.V_reads' HO_3.out).2.2 0 p453 q453; cases e453; have qi453 : (0 < t435.length) = True := eq_true (by omega); (try rw [show ((0 : Int)).toNat = 0 from rfl] at hx453_0); (try rw [Addr.add_zero'] at hx453_0); replace p453 := eq_true p453; replace q453 := eq_true q453)); try go_wp2_with (first | (go_at_call 24; (with_reducible refine (impl_WallList.calls _ _ t435 t442 true _ ?side1 ?side2 A15.out).mono ?_); (case side1 => repeat (first | exact (Kd.V_reads' HO_3.out).2.2 | (with_reducible refine Kd.C_alloc ?_ _) | (with_reducible refine Kd.C_drewN ?_ _) | (with_reducible refine Kd.C_drew ?_))); (case side2 => exact (Kd.V_reads' HO_3.out).2.1); rintro e w31 ⟨v444, rfl, ho0, hb⟩; have n0_ := zab.mk (Kd.V_elder' (by (with_reducible repeat (first | apply Kd.V_alloc | apply Kd.V_drewN | apply Kd.V_drew)); exact HO_3.out) (Kd.S_base ho0) hb); have n1_ := zab.mk (Kd.S_lower ho0 (zaj (by repeat (first | (with_reducible first | exact HB.out | apply zac | apply zaa | apply zad) | exact HB.out)))); have n2_ := zab.mk (zag (by repeat (first | (with_reducible first | exact HB.out | apply zac | apply zaa | apply zad) | exact HB.out)) hb); clear HO_3; clear HB; have HO_3 := n0_; have HO445 := n1_; have HB := n2_; clear n0_ n1_ n2_; (try clear hb); (try clear hb2); (try clear hk); (try clear hi); (try clear ho0)) | (go_at_call 45; (with_reducible refine (impl_CutMany.calls _ _ t435 t446 true _ ?side1 ?side2 A16.out).mono ?_); (case side1 => repeat (first | exact (Kd.V_reads' HO_3.out).2.2 | (with_reducible refine Kd.C_alloc ?_ _) | (with_reducible refine Kd.C_drewN ?_ _) | (with_reducible refine Kd.C_drew ?_))); (case side2 => exact (Kd.V_reads' HO_3.out).2.1); rintro e w32 ⟨rfl, hb⟩; have n0_ := zab.mk (Kd.V_below (by (with_reducible repeat (first | apply Kd.V_alloc | apply Kd.V_drewN | apply Kd.V_drew)); exact HO_3.out) hb); have n1_ := zab.mk (Kd.S_below (by (with_reducible repeat (first | apply Kd.S_alloc | apply Kd.S_drewN | apply Kd.S_drew)); exact HO445.out) hb); have n2_ := zab.mk (zag (by repeat (first | (with_reducible first | exact HB.out | apply zac | apply zaa | apply zad) | exact HB.out)) hb); clear HO_3; clear HO445; clear HB; have HO_3 := n0_; have HO445 := n1_; have HB := n2_; clear n0_ n1_ n2_; (try clear hb); (try clear hb2); (try clear hk); (try clear hi); obtain ⟨Ao33, co33, eo33⟩ := Kd.S_slice HO445.out; subst eo33; have p448 : 0 ≤ (t438 : Int) := of_decide_eq_true (by first | (with_reducible assumption) | assumption); have q448 : t438 < (t442.length : Int) := of_decide_eq_true (by first | (with_reducible assumption) | assumption); obtain ⟨ad448, A448_0, c448_0, e448, hx448_0, hl448_0, hi448_0⟩ := at_L1 (Kd.S_reads' HO445.out).2.2 t438 p448 q448; cases e448; obtain ⟨ce448, hce448, hMe448, hcc448⟩ := Kd.S_get HO445.out [] t438 p448 (by first | exact q448 | exact of_decide_eq_true (by first | (with_reducible assumption) | assumption) | (have e_ := (Kd.S_reads' HO445.out).1; omega)); obtain ⟨ve448_0, rfl, ge448_0⟩ := hMe448; have hv448_0 := hcc448 0 _ rfl; rw [Nat.add_zero, show ((Kd.slice 3 (Kd.int .i64))).sz = 1 from rfl, Nat.mul_one] at hv448_0; replace hv448_0 := Option.some.inj (hv448_0.symm.trans hx448_0); rw [hv448_0] at ge448_0; have HL448_0 := zab.mk (show Kd.R (Kd.int .i64) 3 _ _ _ _ (rd_L1 t442 t438) from ge448_0); clear hv448_0 ge448_0; clear hcc448 hce448; have HR448_0 := zab.mk hi448_0; have HC448_0 := zab.mk hl448_0; clear hi448_0 hl448_0; replace p448 := eq_true p448; replace q448 := eq_true q448; have p449 : 0 ≤ (0 : Int) := (by omega); have q449 : 0 < ((rd_L1 t442 t438).length : Int) := of_decide_eq_true (by first | (with_reducible assumption) | assumption); obtain ⟨ad449, e449, hx449_0⟩ := Kd.at_int (by repeat (first | (with_reducible exact HR448_0.out) | (with_reducible refine Kd.C_alloc ?_ _) | (with_reducible refine Kd.C_drewN ?_ _) | (with_reducible refine Kd.C_drew ?_) | exact HR448_0.out)) 0 p449 q449; cases e449; have qi449 : (0 < (rd_L1 t442 t438).length) = True := eq_true (by omega); (try rw [show ((0 : Int)).toNat = 0 from rfl] at hx449_0); (try rw [Addr.add_zero'] at hx449_0); replace p449 := eq_true p449; replace q449 := eq_true q449; have p450 : 0 ≤ (3 : Int) := (by omega); have q450 : 3 < ((rd_L1 t442 t438).length : Int) := of_decide_eq_true (by first | (with_reducible assumption) | assumption); obtain ⟨ad450, e450, hx450_0⟩ := Kd.at_int (by repeat (first | (with_reducible exact HR448_0.out) | (with_reducible refine Kd.C_alloc ?_ _) | (with_reducible refine Kd.C_drewN ?_ _) | (with_reducible refine Kd.C_drew ?_) | exact HR448_0.out)) 3 p450 q450; obtain rfl : ad449 = ad450 := (by injection e450); (try simp only [show (3 : Int).toNat = 3 from rfl, Nat.reduceMul, Nat.reduceEqDiff, Go.Addr.add, ↓reduceIte] at hx450_0); have qi450 : (3 < (rd_L1 t442 t438).length) = True := eq_true (by omega); (try rw [show ((3 : Int)).toNat = 3 from rfl] at hx450_0); replace p450 := eq_true p450; replace q450 := eq_true q450; have p451 : 0 ≤ (0 : Int) := (by omega); have q451 : 0 < ((rd_L1 t442 t438).length : Int) := of_decide_eq_true (by first | (with_reducible assumption) | assumption); obtain ⟨ad451, e451, hx451_0⟩ := Kd.at_int (by repeat (first | (with_reducible exact HR448_0.out) | (with_reducible refine Kd.C_alloc ?_ _) | (with_reducible refine Kd.C_drewN ?_ _) | (with_reducible refine Kd.C_drew ?_) | exact HR448_0.out)) 0 p451 q451; obtain rfl : ad449 = ad451 := (by injection e451); have qi451 : (0 < (rd_L1 t442 t438).length) = True := eq_true (by omega); (try rw [show ((0 : Int)).toNat = 0 from rfl] at hx451_0); (try rw [Addr.add_zero'] at hx451_0); replace p451 := eq_true p451; replace q451 := eq_true q451; have p452 : 0 ≤ (3 : Int) := (by omega); have q452 : 3 < ((rd_L1 t442 t438).length : Int) := of_decide_eq_true (by first | (with_reducible assumption) | assumption); obtain ⟨ad452, e452, hx452_0⟩ := Kd.at_int (by repeat (first | (with_reducible exact HR448_0.out) | (with_reducible refine Kd.C_alloc ?_ _) | (with_reducible refine Kd.C_drewN ?_ _) | (with_reducible refine Kd.C_drew ?_) | exact HR448_0.out)) 3 p452 q452; obtain rfl : ad449 = ad452 := (by injection e452); (try simp only [show (3 : Int).toNat = 3 from rfl, Nat.reduceMul, Nat.reduceEqDiff, Go.Addr.add, ↓reduceIte] at hx452_0); have qi452 : (3 < (rd_L1 t442 t438).length) = True := eq_true (by omega); (try rw [show ((3 : Int)).toNat = 3 from rfl] at hx452_0); replace p452 := eq_true p452; replace q452 := eq_true q452; have p453 : 0 ≤ (0 : Int) := (by omega); have q453 : 0 < (t435.length : Int) := of_decide_eq_true (by first | (with_reducible assumption) | assumption); obtain ⟨ad453, e453, hx453_0⟩ := Kd.at_string (Kd.V_reads' HO_3.out).2.2 0 p453 q453; cases e453; have qi453 : (0 < t435.length) = True := eq_true (by omega); (try rw [show ((0 : Int)).toNat = 0 from rfl] at hx453_0); (try rw [Addr.add_zero'] at hx453_0); replace p453 := eq_true p453; replace q453 := eq_true q453)))
                go_ret
                exact ⟨by first | rfl | (simp [zan, zam] <;> rfl) | (simp [*, zan, zam] <;> rfl), by repeat (first | (with_reducible first | exact HB.out | apply zac | apply zaa | apply zad) | exact HB.out)⟩
               ·rw [if_neg c30] at H
                exact absurd H (by simp)
              ·rw [if_neg c29] at H
               have c29b0 : ((rd (rd_L1 t442 t438) 0) == 1) = false := beq_eq_false_iff_ne.mpr c29
               have c29b1 : ((rd (rd_L1 t442 t438) 0) != 1) = true := bne_iff_ne.mpr c29
               obtain rfl := Option.some.inj H
               go_wp2_with (first | (go_at_call 24; (with_reducible refine (impl_WallList.calls _ _ t435 t442 true _ ?side1 ?side2 A15.out).mono ?_); (case side1 => repeat (first | exact (Kd.V_reads' HO_3.out).2.2 | (with_reducible refine Kd.C_alloc ?_ _) | (with_reducible refine Kd.C_drewN ?_ _) | (with_reducible refine Kd.C_drew ?_))); (case side2 => exact (Kd.V_reads' HO_3.out).2.1); rintro e w34 ⟨v444, rfl, ho0, hb⟩; have n0_ := zab.mk (Kd.V_elder' (by (with_reducible repeat (first | apply Kd.V_alloc | apply Kd.V_drewN | apply Kd.V_drew)); exact HO_3.out) (Kd.S_base ho0) hb); have n1_ := zab.mk (Kd.S_lower ho0 (zaj (by repeat (first | (with_reducible first | exact HB.out | apply zac | apply zaa | apply zad) | exact HB.out)))); have n2_ := zab.mk (zag (by repeat (first | (with_reducible first | exact HB.out | apply zac | apply zaa | apply zad) | exact HB.out)) hb); clear HO_3; clear HB; have HO_3 := n0_; have HO445 := n1_; have HB := n2_; clear n0_ n1_ n2_; (try clear hb); (try clear hb2); (try clear hk); (try clear hi); (try clear ho0)) | (go_at_call 45; (with_reducible refine (impl_CutMany.calls _ _ t435 t446 true _ ?side1 ?side2 A16.out).mono ?_); (case side1 => repeat (first | exact (Kd.V_reads' HO_3.out).2.2 | (with_reducible refine Kd.C_alloc ?_ _) | (with_reducible refine Kd.C_drewN ?_ _) | (with_reducible refine Kd.C_drew ?_))); (case side2 => exact (Kd.V_reads' HO_3.out).2.1); rintro e w35 ⟨rfl, hb⟩; have n0_ := zab.mk (Kd.V_below (by (with_reducible repeat (first | apply Kd.V_alloc | apply Kd.V_drewN | apply Kd.V_drew)); exact HO_3.out) hb); have n1_ := zab.mk (Kd.S_below (by (with_reducible repeat (first | apply Kd.S_alloc | apply Kd.S_drewN | apply Kd.S_drew)); exact HO445.out) hb); have n2_ := zab.mk (zag (by repeat (first | (with_reducible first | exact HB.out | apply zac | apply zaa | apply zad) | exact HB.out)) hb); clear HO_3; clear HO445; clear HB; have HO_3 := n0_; have HO445 := n1_; have HB := n2_; clear n0_ n1_ n2_; (try clear hb); (try clear hb2); (try clear hk); (try clear hi); obtain ⟨Ao36, co36, eo36⟩ := Kd.S_slice HO445.out; subst eo36; have p448 : 0 ≤ (t438 : Int) := of_decide_eq_true (by first | (with_reducible assumption) | assumption); have q448 : t438 < (t442.length : Int) := of_decide_eq_true (by first | (with_reducible assumption) | assumption); obtain ⟨ad448, A448_0, c448_0, e448, hx448_0, hl448_0, hi448_0⟩ := at_L1 (Kd.S_reads' HO445.out).2.2 t438 p448 q448; cases e448; obtain ⟨ce448, hce448, hMe448, hcc448⟩ := Kd.S_get HO445.out [] t438 p448 (by first | exact q448 | exact of_decide_eq_true (by first | (with_reducible assumption) | assumption) | (have e_ := (Kd.S_reads' HO445.out).1; omega)); obtain ⟨ve448_0, rfl, ge448_0⟩ := hMe448; have hv448_0 := hcc448 0 _ rfl; rw [Nat.add_zero, show ((Kd.slice 3 (Kd.int .i64))).sz = 1 from rfl, Nat.mul_one] at hv448_0; replace hv448_0 := Option.some.inj (hv448_0.symm.trans hx448_0); rw [hv448_0] at ge448_0; have HL448_0 := zab.mk (show Kd.R (Kd.int .i64) 3 _ _ _ _ (rd_L1 t442 t438) from ge448_0); clear hv448_0 ge448_0; clear hcc448 hce448; have HR448_0 := zab.mk hi448_0; have HC448_0 := zab.mk hl448_0; clear hi448_0 hl448_0; replace p448 := eq_true p448; replace q448 := eq_true q448; have p449 : 0 ≤ (0 : Int) := (by omega); have q449 : 0 < ((rd_L1 t442 t438).length : Int) := of_decide_eq_true (by first | (with_reducible assumption) | assumption); obtain ⟨ad449, e449, hx449_0⟩ := Kd.at_int (by repeat (first | (with_reducible exact HR448_0.out) | (with_reducible refine Kd.C_alloc ?_ _) | (with_reducible refine Kd.C_drewN ?_ _) | (with_reducible refine Kd.C_drew ?_) | exact HR448_0.out)) 0 p449 q449; cases e449; have qi449 : (0 < (rd_L1 t442 t438).length) = True := eq_true (by omega); (try rw [show ((0 : Int)).toNat = 0 from rfl] at hx449_0); (try rw [Addr.add_zero'] at hx449_0); replace p449 := eq_true p449; replace q449 := eq_true q449; have p450 : 0 ≤ (3 : Int) := (by omega); have q450 : 3 < ((rd_L1 t442 t438).length : Int) := of_decide_eq_true (by first | (with_reducible assumption) | assumption); obtain ⟨ad450, e450, hx450_0⟩ := Kd.at_int (by repeat (first | (with_reducible exact HR448_0.out) | (with_reducible refine Kd.C_alloc ?_ _) | (with_reducible refine Kd.C_drewN ?_ _) | (with_reducible refine Kd.C_drew ?_) | exact HR448_0.out)) 3 p450 q450; obtain rfl : ad449 = ad450 := (by injection e450); (try simp only [show (3 : Int).toNat = 3 from rfl, Nat.reduceMul, Nat.reduceEqDiff, Go.Addr.add, ↓reduceIte] at hx450_0); have qi450 : (3 < (rd_L1 t442 t438).length) = True := eq_true (by omega); (try rw [show ((3 : Int)).toNat = 3 from rfl] at hx450_0); replace p450 := eq_true p450; replace q450 := eq_true q450; have p451 : 0 ≤ (0 : Int) := (by omega); have q451 : 0 < ((rd_L1 t442 t438).length : Int) := of_decide_eq_true (by first | (with_reducible assumption) | assumption); obtain ⟨ad451, e451, hx451_0⟩ := Kd.at_int (by repeat (first | (with_reducible exact HR448_0.out) | (with_reducible refine Kd.C_alloc ?_ _) | (with_reducible refine Kd.C_drewN ?_ _) | (with_reducible refine Kd.C_drew ?_) | exact HR448_0.out)) 0 p451 q451; obtain rfl : ad449 = ad451 := (by injection e451); have qi451 : (0 < (rd_L1 t442 t438).length) = True := eq_true (by omega); (try rw [show ((0 : Int)).toNat = 0 from rfl] at hx451_0); (try rw [Addr.add_zero'] at hx451_0); replace p451 := eq_true p451; replace q451 := eq_true q451))
               repeat (go_quiet (first | (go_at_call 24; (with_reducible refine (impl_WallList.calls _ _ t435 t442 true _ ?side1 ?side2 A15.out).mono ?_); (case side1 => repeat (first | exact (Kd.V_reads' HO_3.out).2.2 | (with_reducible refine Kd.C_alloc ?_ _) | (with_reducible refine Kd.C_drewN ?_ _) | (with_reducible refine Kd.C_drew ?_))); (case side2 => exact (Kd.V_reads' HO_3.out).2.1); rintro e w34 ⟨v444, rfl, ho0, hb⟩; have n0_ := zab.mk (Kd.V_elder' (by (with_reducible repeat (first | apply Kd.V_alloc | apply Kd.V_drewN | apply Kd.V_drew)); exact HO_3.out) (Kd.S_base ho0) hb); have n1_ := zab.mk (Kd.S_lower ho0 (zaj (by repeat (first | (with_reducible first | exact HB.out | apply zac | apply zaa | apply zad) | exact HB.out)))); have n2_ := zab.mk (zag (by repeat (first | (with_reducible first | exact HB.out | apply zac | apply zaa | apply zad) | exact HB.out)) hb); clear HO_3; clear HB; have HO_3 := n0_; have HO445 := n1_; have HB := n2_; clear n0_ n1_ n2_; (try clear hb); (try clear hb2); (try clear hk); (try clear hi); (try clear ho0)) | (go_at_call 45; (with_reducible refine (impl_CutMany.calls _ _ t435 t446 true _ ?side1 ?side2 A16.out).mono ?_); (case side1 => repeat (first | exact (Kd.V_reads' HO_3.out).2.2 | (with_reducible refine Kd.C_alloc ?_ _) | (with_reducible refine Kd.C_drewN ?_ _) | (with_reducible refine Kd.C_drew ?_))); (case side2 => exact (Kd.V_reads' HO_3.out).2.1); rintro e w35 ⟨rfl, hb⟩; have n0_ := zab.mk (Kd.V_below (by (with_reducible repeat (first | apply Kd.V_alloc | apply Kd.V_drewN | apply Kd.V_drew)); exact HO_3.out) hb); have n1_ := zab.mk (Kd.S_below (by (with_reducible repeat (first | apply Kd.S_alloc | apply Kd.S_drewN | apply Kd.S_drew)); exact HO445.out) hb); have n2_ := zab.mk (zag (by repeat (first | (with_reducible first | exact HB.out | apply zac | apply zaa | apply zad) | exact HB.out)) hb); clear HO_3; clear HO445; clear HB; have HO_3 := n0_; have HO445 := n1_; have HB := n2_; clear n0_ n1_ n2_; (try clear hb); (try clear hb2); (try clear hk); (try clear hi); obtain ⟨Ao36, co36, eo36⟩ := Kd.S_slice HO445.out; subst eo36; have p448 : 0 ≤ (t438 : Int) := of_decide_eq_true (by first | (with_reducible assumption) | assumption); have q448 : t438 < (t442.length : Int) := of_decide_eq_true (by first | (with_reducible assumption) | assumption); obtain ⟨ad448, A448_0, c448_0, e448, hx448_0, hl448_0, hi448_0⟩ := at_L1 (Kd.S_reads' HO445.out).2.2 t438 p448 q448; cases e448; obtain ⟨ce448, hce448, hMe448, hcc448⟩ := Kd.S_get HO445.out [] t438 p448 (by first | exact q448 | exact of_decide_eq_true (by first | (with_reducible assumption) | assumption) | (have e_ := (Kd.S_reads' HO445.out).1; omega)); obtain ⟨ve448_0, rfl, ge448_0⟩ := hMe448; have hv448_0 := hcc448 0 _ rfl; rw [Nat.add_zero, show ((Kd.slice 3 (Kd.int .i64))).sz = 1 from rfl, Nat.mul_one] at hv448_0; replace hv448_0 := Option.some.inj (hv448_0.symm.trans hx448_0); rw [hv448_0] at ge448_0; have HL448_0 := zab.mk (show Kd.R (Kd.int .i64) 3 _ _ _ _ (rd_L1 t442 t438) from ge448_0); clear hv448_0 ge448_0; clear hcc448 hce448; have HR448_0 := zab.mk hi448_0; have HC448_0 := zab.mk hl448_0; clear hi448_0 hl448_0; replace p448 := eq_true p448; replace q448 := eq_true q448; have p449 : 0 ≤ (0 : Int) := (by omega); have q449 : 0 < ((rd_L1 t442 t438).length : Int) := of_decide_eq_true (by first | (with_reducible assumption) | assumption); obtain ⟨ad449, e449, hx449_0⟩ := Kd.at_int (by repeat (first | (with_reducible exact HR448_0.out) | (with_reducible refine Kd.C_alloc ?_ _) | (with_reducible refine Kd.C_drewN ?_ _) | (with_reducible refine Kd.C_drew ?_) | exact HR448_0.out)) 0 p449 q449; cases e449; have qi449 : (0 < (rd_L1 t442 t438).length) = True := eq_true (by omega); (try rw [show ((0 : Int)).toNat = 0 from rfl] at hx449_0); (try rw [Addr.add_zero'] at hx449_0); replace p449 := eq_true p449; replace q449 := eq_true q449; have p450 : 0 ≤ (3 : Int) := (by omega); have q450 : 3 < ((rd_L1 t442 t438).length : Int) := of_decide_eq_true (by first | (with_reducible assumption) | assumption); obtain ⟨ad450, e450, hx450_0⟩ := Kd.at_int (by repeat (first | (with_reducible exact HR448_0.out) | (with_reducible refine Kd.C_alloc ?_ _) | (with_reducible refine Kd.C_drewN ?_ _) | (with_reducible refine Kd.C_drew ?_) | exact HR448_0.out)) 3 p450 q450; obtain rfl : ad449 = ad450 := (by injection e450); (try simp only [show (3 : Int).toNat = 3 from rfl, Nat.reduceMul, Nat.reduceEqDiff, Go.Addr.add, ↓reduceIte] at hx450_0); have qi450 : (3 < (rd_L1 t442 t438).length) = True := eq_true (by omega); (try rw [show ((3 : Int)).toNat = 3 from rfl] at hx450_0); replace p450 := eq_true p450; replace q450 := eq_true q450; have p451 : 0 ≤ (0 : Int) := (by omega); have q451 : 0 < ((rd_L1 t442 t438).length : Int) := of_decide_eq_true (by first | (with_reducible assumption) | assumption); obtain ⟨ad451, e451, hx451_0⟩ := Kd.at_int (by repeat (first | (with_reducible exact HR448_0.out) | (with_reducible refine Kd.C_alloc ?_ _) | (with_reducible refine Kd.C_drewN ?_ _) | (with_reducible refine Kd.C_drew ?_) | exact HR448_0.out)) 0 p451 q451; obtain rfl : ad449 = ad451 := (by injection e451); have qi451 : (0 < (rd_L1 t442 t438).length) = True := eq_true (by omega); (try rw [show ((0 : Int)).toNat = 0 from rfl] at hx451_0); (try rw [Addr.add_zero'] at hx451_0); replace p451 := eq_true p451; replace q451 := eq_true q451)); try go_wp2_with (first | (go_at_call 24; (with_reducible refine (impl_WallList.calls _ _ t435 t442 true _ ?side1 ?side2 A15.out).mono ?_); (case side1 => repeat (first | exact (Kd.V_reads' HO_3.out).2.2 | (with_reducible refine Kd.C_alloc ?_ _) | (with_reducible refine Kd.C_drewN ?_ _) | (with_reducible refine Kd.C_drew ?_))); (case side2 => exact (Kd.V_reads' HO_3.out).2.1); rintro e w34 ⟨v444, rfl, ho0, hb⟩; have n0_ := zab.mk (Kd.V_elder' (by (with_reducible repeat (first | apply Kd.V_alloc | apply Kd.V_drewN | apply Kd.V_drew)); exact HO_3.out) (Kd.S_base ho0) hb); have n1_ := zab.mk (Kd.S_lower ho0 (zaj (by repeat (first | (with_reducible first | exact HB.out | apply zac | apply zaa | apply zad) | exact HB.out)))); have n2_ := zab.mk (zag (by repeat (first | (with_reducible first | exact HB.out | apply zac | apply zaa | apply zad) | exact HB.out)) hb); clear HO_3; clear HB; have HO_3 := n0_; have HO445 := n1_; have HB := n2_; clear n0_ n1_ n2_; (try clear hb); (try clear hb2); (try clear hk); (try clear hi); (try clear ho0)) | (go_at_call 45; (with_reducible refine (impl_CutMany.calls _ _ t435 t446 true _ ?side1 ?side2 A16.out).mono ?_); (case side1 => repeat (first | exact (Kd.V_reads' HO_3.out).2.2 | (with_reducible refine Kd.C_alloc ?_ _) | (with_reducible refine Kd.C_drewN ?_ _) | (with_reducible refine Kd.C_drew ?_))); (case side2 => exact (Kd.V_reads' HO_3.out).2.1); rintro e w35 ⟨rfl, hb⟩; have n0_ := zab.mk (Kd.V_below (by (with_reducible repeat (first | apply Kd.V_alloc | apply Kd.V_drewN | apply Kd.V_drew)); exact HO_3.out) hb); have n1_ := zab.mk (Kd.S_below (by (with_reducible repeat (first | apply Kd.S_alloc | apply Kd.S_drewN | apply Kd.S_drew)); exact HO445.out) hb); have n2_ := zab.mk (zag (by repeat (first | (with_reducible first | exact HB.out | apply zac | apply zaa | apply zad) | exact HB.out)) hb); clear HO_3; clear HO445; clear HB; have HO_3 := n0_; have HO445 := n1_; have HB := n2_; clear n0_ n1_ n2_; (try clear hb); (try clear hb2); (try clear hk); (try clear hi); obtain ⟨Ao36, co36, eo36⟩ := Kd.S_slice HO445.out; subst eo36; have p448 : 0 ≤ (t438 : Int) := of_decide_eq_true (by first | (with_reducible assumption) | assumption); have q448 : t438 < (t442.length : Int) := of_decide_eq_true (by first | (with_reducible assumption) | assumption); obtain ⟨ad448, A448_0, c448_0, e448, hx448_0, hl448_0, hi448_0⟩ := at_L1 (Kd.S_reads' HO445.out).2.2 t438 p448 q448; cases e448; obtain ⟨ce448, hce448, hMe448, hcc448⟩ := Kd.S_get HO445.out [] t438 p448 (by first | exact q448 | exact of_decide_eq_true (by first | (with_reducible assumption) | assumption) | (have e_ := (Kd.S_reads' HO445.out).1; omega)); obtain ⟨ve448_0, rfl, ge448_0⟩ := hMe448; have hv448_0 := hcc448 0 _ rfl; rw [Nat.add_zero, show ((Kd.slice 3 (Kd.int .i64))).sz = 1 from rfl, Nat.mul_one] at hv448_0; replace hv448_0 := Option.some.inj (hv448_0.symm.trans hx448_0); rw [hv448_0] at ge448_0; have HL448_0 := zab.mk (show Kd.R (Kd.int .i64) 3 _ _ _ _ (rd_L1 t442 t438) from ge448_0); clear hv448_0 ge448_0; clear hcc448 hce448; have HR448_0 := zab.mk hi448_0; have HC448_0 := zab.mk hl448_0; clear hi448_0 hl448_0; replace p448 := eq_true p448; replace q448 := eq_true q448; have p449 : 0 ≤ (0 : Int) := (by omega); have q449 : 0 < ((rd_L1 t442 t438).length : Int) := of_decide_eq_true (by first | (with_reducible assumption) | assumption); obtain ⟨ad449, e449, hx449_0⟩ := Kd.at_int (by repeat (first | (with_reducible exact HR448_0.out) | (with_reducible refine Kd.C_alloc ?_ _) | (with_reducible refine Kd.C_drewN ?_ _) | (with_reducible refine Kd.C_drew ?_) | exact HR448_0.out)) 0 p449 q449; cases e449; have qi449 : (0 < (rd_L1 t442 t438).length) = True := eq_true (by omega); (try rw [show ((0 : Int)).toNat = 0 from rfl] at hx449_0); (try rw [Addr.add_zero'] at hx449_0); replace p449 := eq_true p449; replace q449 := eq_true q449; have p450 : 0 ≤ (3 : Int) := (by omega); have q450 : 3 < ((rd_L1 t442 t438).length : Int) := of_decide_eq_true (by first | (with_reducible assumption) | assumption); obtain ⟨ad450, e450, hx450_0⟩ := Kd.at_int (by repeat (first | (with_reducible exact HR448_0.out) | (with_reducible refine Kd.C_alloc ?_ _) | (with_reducible refine Kd.C_drewN ?_ _) | (with_reducible refine Kd.C_drew ?_) | exact HR448_0.out)) 3 p450 q450; obtain rfl : ad449 = ad450 := (by injection e450); (try simp only [show (3 : Int).toNat = 3 from rfl, Nat.reduceMul, Nat.reduceEqDiff, Go.Addr.add, ↓reduceIte] at hx450_0); have qi450 : (3 < (rd_L1 t442 t438).length) = True := eq_true (by omega); (try rw [show ((3 : Int)).toNat = 3 from rfl] at hx450_0); replace p450 := eq_true p450; replace q450 := eq_true q450; have p451 : 0 ≤ (0 : Int) := (by omega); have q451 : 0 < ((rd_L1 t442 t438).length : Int) := of_decide_eq_true (by first | (with_reducible assumption) | assumption); obtain ⟨ad451, e451, hx451_0⟩ := Kd.at_int (by repeat (first | (with_reducible exact HR448_0.out) | (with_reducible refine Kd.C_alloc ?_ _) | (with_reducible refine Kd.C_drewN ?_ _) | (with_reducible refine Kd.C_drew ?_) | exact HR448_0.out)) 0 p451 q451; obtain rfl : ad449 = ad451 := (by injection e451); have qi451 : (0 < (rd_L1 t442 t438).length) = True := eq_true (by omega); (try rw [show ((0 : Int)).toNat = 0 from rfl] at hx451_0); (try rw [Addr.add_zero'] at hx451_0); replace p451 := eq_true p451; replace q451 := eq_true q451)))
               go_ret
               exact ⟨by first | rfl | (simp [zan, zam] <;> rfl) | (simp [*, zan, zam] <;> rfl), by repeat (first | (with_reducible first | exact HB.out | apply zac | apply zaa | apply zad) | exact HB.out)⟩
            ·rw [if_neg c24] at H
             exact absurd H (by simp)
           ·rw [if_neg c23] at H
            have c23b0 : ((rd (rd_L1 t442 t438) 0) == 0) = false := beq_eq_false_iff_ne.mpr c23
            have c23b1 : ((rd (rd_L1 t442 t438) 0) != 0) = true := bne_iff_ne.mpr c23
            by_cases c37 : (rd (rd_L1 t442 t438) 0) = 1
            ·rw [if_pos c37] at H
             have c37b0 : ((rd (rd_L1 t442 t438) 0) == 1) = true := beq_iff_eq.mpr c37
             have c37b1 : ((rd (rd_L1 t442 t438) 0) != 1) = false := bne_eq_false_iff_eq.mpr c37
             clear c37
             by_cases c38 : 3 < ((rd_L1 t442 t438).length : Int)
             ·rw [if_pos c38] at H
              have c38b0 : decide (3 < ((rd_L1 t442 t438).length : Int)) = true := decide_eq_true c38
              have c38b1 : decide (3 < (rd_L1 t442 t438).length) = true := decide_eq_true (by omega)
              clear c38
              by_cases c39 : 0 < (t435.length : Int)
              ·rw [if_pos c39] at H
               have c39b0 : decide (0 < (t435.length : Int)) = true := decide_eq_true c39
               have c39b1 : decide (0 < t435.length) = true := decide_eq_true (by omega)
               clear c39
               obtain rfl := Option.some.inj H
               go_wp2_with (first | (go_at_call 24; (with_reducible refine (impl_WallList.calls _ _ t435 t442 true _ ?side1 ?side2 A15.out).mono ?_); (case side1 => repeat (first | exact (Kd.V_reads' HO_3.out).2.2 | (with_reducible refine Kd.C_alloc ?_ _) | (with_reducible refine Kd.C_drewN ?_ _) | (with_reducible refine Kd.C_drew ?_))); (case side2 => exact (Kd.V_reads' HO_3.out).2.1); rintro e w40 ⟨v444, rfl, ho0, hb⟩; have n0_ := zab.mk (Kd.V_elder' (by (with_reducible repeat (first | apply Kd.V_alloc | apply Kd.V_drewN | apply Kd.V_drew)); exact HO_3.out) (Kd.S_base ho0) hb); have n1_ := zab.mk (Kd.S_lower ho0 (zaj (by repeat (first | (with_reducible first | exact HB.out | apply zac | apply zaa | apply zad) | exact HB.out)))); have n2_ := zab.mk (zag (by repeat (first | (with_reducible first | exact HB.out | apply zac | apply zaa | apply zad) | exact HB.out)) hb); clear HO_3; clear HB; have HO_3 := n0_; have HO445 := n1_; have HB := n2_; clear n0_ n1_ n2_; (try clear hb); (try clear hb2); (try clear hk); (try clear hi); (try clear ho0)) | (go_at_call 45; (with_reducible refine (impl_CutMany.calls _ _ t435 t446 true _ ?side1 ?side2 A16.out).mono ?_); (case side1 => repeat (first | exact (Kd.V_reads' HO_3.out).2.2 | (with_reducible refine Kd.C_alloc ?_ _) | (with_reducible refine Kd.C_drewN ?_ _) | (with_reducible refine Kd.C_drew ?_))); (case side2 => exact (Kd.V_reads' HO_3.out).2.1); rintro e w41 ⟨rfl, hb⟩; have n0_ := zab.mk (Kd.V_below (by (with_reducible repeat (first | apply Kd.V_alloc | apply Kd.V_drewN | apply Kd.V_drew)); exact HO_3.out) hb); have n1_ := zab.mk (Kd.S_below (by (with_reducible repeat (first | apply Kd.S_alloc | apply Kd.S_drewN | apply Kd.S_drew)); exact HO445.out) hb); have n2_ := zab.mk (zag (by repeat (first | (with_reducible first | exact HB.out | apply zac | apply zaa | apply zad) | exact HB.out)) hb); clear HO_3; clear HO445; clear HB; have HO_3 := n0_; have HO445 := n1_; have HB := n2_; clear n0_ n1_ n2_; (try clear hb); (try clear hb2); (try clear hk); (try clear hi); obtain ⟨Ao42, co42, eo42⟩ := Kd.S_slice HO445.out; subst eo42; have p448 : 0 ≤ (t438 : Int) := of_decide_eq_true (by first | (with_reducible assumption) | assumption); have q448 : t438 < (t442.length : Int) := of_decide_eq_true (by first | (with_reducible assumption) | assumption); obtain ⟨ad448, A448_0, c448_0, e448, hx448_0, hl448_0, hi448_0⟩ := at_L1 (Kd.S_reads' HO445.out).2.2 t438 p448 q448; cases e448; obtain ⟨ce448, hce448, hMe448, hcc448⟩ := Kd.S_get HO445.out [] t438 p448 (by first | exact q448 | exact of_decide_eq_true (by first | (with_reducible assumption) | assumption) | (have e_ := (Kd.S_reads' HO445.out).1; omega)); obtain ⟨ve448_0, rfl, ge448_0⟩ := hMe448; have hv448_0 := hcc448 0 _ rfl; rw [Nat.add_zero, show ((Kd.slice 3 (Kd.int .i64))).sz = 1 from rfl, Nat.mul_one] at hv448_0; replace hv448_0 := Option.some.inj (hv448_0.symm.trans hx448_0); rw [hv448_0] at ge448_0; have HL448_0 := zab.mk (show Kd.R (Kd.int .i64) 3 _ _ _ _ (rd_L1 t442 t438) from ge448_0); clear hv448_0 ge448_0; clear hcc448 hce448; have HR448_0 := zab.mk hi448_0; have HC448_0 := zab.mk hl448_0; clear hi448_0 hl448_0; replace p448 := eq_true p448; replace q448 := eq_true q448; have p449 : 0 ≤ (0 : Int) := (by omega); have q449 : 0 < ((rd_L1 t442 t438).length : Int) := of_decide_eq_true (by first | (with_reducible assumption) | assumption); obtain ⟨ad449, e449, hx449_0⟩ := Kd.at_int (by repeat (first | (with_reducible exact HR448_0.out) | (with_reducible refine Kd.C_alloc ?_ _) | (with_reducible refine Kd.C_drewN ?_ _) | (with_reducible refine Kd.C_drew ?_) | exact HR448_0.out)) 0 p449 q449; cases e449; have qi449 : (0 < (rd_L1 t442 t438).length) = True := eq_true (by omega); (try rw [show ((0 : Int)).toNat = 0 from rfl] at hx449_0); (try rw [Addr.add_zero'] at hx449_0); replace p449 := eq_true p449; replace q449 := eq_true q449; have p454 : 0 ≤ (0 : Int) := (by omega); have q454 : 0 < ((rd_L1 t442 t438).length : Int) := of_decide_eq_true (by first | (with_reducible assumption) | assumption); obtain ⟨ad454, e454, hx454_0⟩ := Kd.at_int (by repeat (first | (with_reducible exact HR448_0.out) | (with_reducible refine Kd.C_alloc ?_ _) | (with_reducible refine Kd.C_drewN ?_ _) | (with_reducible refine Kd.C_drew ?_) | exact HR448_0.out)) 0 p454 q454; obtain rfl : ad449 = ad454 := (by injection e454); have qi454 : (0 < (rd_L1 t442 t438).length) = True := eq_true (by omega); (try rw [show ((0 : Int)).toNat = 0 from rfl] at hx454_0); (try rw [Addr.add_zero'] at hx454_0); replace p454 := eq_true p454; replace q454 := eq_true q454; have p455 : 0 ≤ (3 : Int) := (by omega); have q455 : 3 < ((rd_L1 t442 t438).length : Int) := of_decide_eq_true (by first | (with_reducible assumption) | assumption); obtain ⟨ad455, e455, hx455_0⟩ := Kd.at_int (by repeat (first | (with_reducible exact HR448_0.out) | (with_reducible refine Kd.C_alloc ?_ _) | (with_reducible refine Kd.C_drewN ?_ _) | (with_reducible refine Kd.C_drew ?_) | exact HR448_0.out)) 3 p455 q455; obtain rfl : ad449 = ad455 := (by injection e455); (try simp only [show (3 : Int).toNat = 3 from rfl, Nat.reduceMul, Nat.reduceEqDiff, Go.Addr.add, ↓reduceIte] at hx455_0); have qi455 : (3 < (rd_L1 t442 t438).length) = True := eq_true (by omega); (try rw [show ((3 : Int)).toNat = 3 from rfl] at hx455_0); replace p455 := eq_true p455; replace q455 := eq_true q455; have p456 : 0 ≤ (0 : Int) := (by omega); have q456 : 0 < (t435.length : Int) := of_decide_eq_true (by first | (with_reducible assumption) | assumption); obtain ⟨ad456, e456, hx456_0⟩ := Kd.at_string (Kd.V_reads' HO_3.out).2.2 0 p456 q456; cases e456; have qi456 : (0 < t435.length) = True := eq_true (by omega); (try rw [show ((0 : Int)).toNat = 0 from rfl] at hx456_0); (try rw [Addr.add_zero'] at hx456_0); replace p456 := eq_true p456; replace q456 := eq_true q456))
               repeat (go_quiet (first | (go_at_call 24; (with_reducible refine (impl_WallList.calls _ _ t435 t442 true _ ?side1 ?side2 A15.out).mono ?_); (case side1 => repeat (first | exact (Kd.V_reads' HO_3.out).2.2 | (with_reducible refine Kd.C_alloc ?_ _) | (with_reducible refine Kd.C_drewN ?_ _) | (with_reducible refine Kd.C_drew ?_))); (case side2 => exact (Kd.V_reads' HO_3.out).2.1); rintro e w40 ⟨v444, rfl, ho0, hb⟩; have n0_ := zab.mk (Kd.V_elder' (by (with_reducible repeat (first | apply Kd.V_alloc | apply Kd.V_drewN | apply Kd.V_drew)); exact HO_3.out) (Kd.S_base ho0) hb); have n1_ := zab.mk (Kd.S_lower ho0 (zaj (by repeat (first | (with_reducible first | exact HB.out | apply zac | apply zaa | apply zad) | exact HB.out)))); have n2_ := zab.mk (zag (by repeat (first | (with_reducible first | exact HB.out | apply zac | apply zaa | apply zad) | exact HB.out)) hb); clear HO_3; clear HB; have HO_3 := n0_; have HO445 := n1_; have HB := n2_; clear n0_ n1_ n2_; (try clear hb); (try clear hb2); (try clear hk); (try clear hi); (try clear ho0)) | (go_at_call 45; (with_reducible refine (impl_CutMany.calls _ _ t435 t446 true _ ?side1 ?side2 A16.out).mono ?_); (case side1 => repeat (first | exact (Kd.V_reads' HO_3.out).2.2 | (with_reducible refine Kd.C_alloc ?_ _) | (with_reducible refine Kd.C_drewN ?_ _) | (with_reducible refine Kd.C_drew ?_))); (case side2 => exact (Kd.V_reads' HO_3.out).2.1); rintro e w41 ⟨rfl, hb⟩; have n0_ := zab.mk (Kd.V_below (by (with_reducible repeat (first | apply Kd.V_alloc | apply Kd.V_drewN | apply Kd.V_drew)); exact HO_3.out) hb); have n1_ := zab.mk (Kd.S_below (by (with_reducible repeat (first | apply Kd.S_alloc | apply Kd.S_drewN | apply Kd.S_drew)); exact HO445.out) hb); have n2_ := zab.mk (zag (by repeat (first | (with_reducible first | exact HB.out | apply zac | apply zaa | apply zad) | exact HB.out)) hb); clear HO_3; clear HO445; clear HB; have HO_3 := n0_; have HO445 := n1_; have HB := n2_; clear n0_ n1_ n2_; (try clear hb); (try clear hb2); (try clear hk); (try clear hi); obtain ⟨Ao42, co42, eo42⟩ := Kd.S_slice HO445.out; subst eo42; have p448 : 0 ≤ (t438 : Int) := of_decide_eq_true (by first | (with_reducible assumption) | assumption); have q448 : t438 < (t442.length : Int) := of_decide_eq_true (by first | (with_reducible assumption) | assumption); obtain ⟨ad448, A448_0, c448_0, e448, hx448_0, hl448_0, hi448_0⟩ := at_L1 (Kd.S_reads' HO445.out).2.2 t438 p448 q448; cases e448; obtain ⟨ce448, hce448, hMe448, hcc448⟩ := Kd.S_get HO445.out [] t438 p448 (by first | exact q448 | exact of_decide_eq_true (by first | (with_reducible assumption) | assumption) | (have e_ := (Kd.S_reads' HO445.out).1; omega)); obtain ⟨ve448_0, rfl, ge448_0⟩ := hMe448; have hv448_0 := hcc448 0 _ rfl; rw [Nat.add_zero, show ((Kd.slice 3 (Kd.int .i64))).sz = 1 from rfl, Nat.mul_one] at hv448_0; replace hv448_0 := Option.some.inj (hv448_0.symm.trans hx448_0); rw [hv448_0] at ge448_0; have HL448_0 := zab.mk (show Kd.R (Kd.int .i64) 3 _ _ _ _ (rd_L1 t442 t438) from ge448_0); clear hv448_0 ge448_0; clear hcc448 hce448; have HR448_0 := zab.mk hi448_0; have HC448_0 := zab.mk hl448_0; clear hi448_0 hl448_0; replace p448 := eq_true p448; replace q448 := eq_true q448; have p449 : 0 ≤ (0 : Int) := (by omega); have q449 : 0 < ((rd_L1 t442 t438).length : Int) := of_decide_eq_true (by first | (with_reducible assumption) | assumption); obtain ⟨ad449, e449, hx449_0⟩ := Kd.at_int (by repeat (first | (with_reducible exact HR448_0.out) | (with_reducible refine Kd.C_alloc ?_ _) | (with_reducible refine Kd.C_drewN ?_ _) | (with_reducible refine Kd.C_drew ?_) | exact HR448_0.out)) 0 p449 q449; cases e449; have qi449 : (0 < (rd_L1 t442 t438).length) = True := eq_true (by omega); (try rw [show ((0 : Int)).toNat = 0 from rfl] at hx449_0); (try rw [Addr.add_zero'] at hx449_0); replace p449 := eq_true p449; replace q449 := eq_true q449; have p454 : 0 ≤ (0 : Int) := (by omega); have q454 : 0 < ((rd_L1 t442 t438).length : Int) := of_decide_eq_true (by first | (with_reducible assumption) | assumption); obtain ⟨ad454, e454, hx454_0⟩ := Kd.at_int (by repeat (first | (with_reducible exact HR448_0.out) | (with_reducible refine Kd.C_alloc ?_ _) | (with_reducible refine Kd.C_drewN ?_ _) | (with_reducible refine Kd.C_drew ?_) | exact HR448_0.out)) 0 p454 q454; obtain rfl : ad449 = ad454 := (by injection e454); have qi454 : (0 < (rd_L1 t442 t438).length) = True := eq_true (by omega); (try rw [show ((0 : Int)).toNat = 0 from rfl] at hx454_0); (try rw [Addr.add_zero'] at hx454_0); replace p454 := eq_true p454; replace q454 := eq_true q454; have p455 : 0 ≤ (3 : Int) := (by omega); have q455 : 3 < ((rd_L1 t442 t438).length : Int) := of_decide_eq_true (by first | (with_reducible assumption) | assumption); obtain ⟨ad455, e455, hx455_0⟩ := Kd.at_int (by repeat (first | (with_reducible exact HR448_0.out) | (with_reducible refine Kd.C_alloc ?_ _) | (with_reducible refine Kd.C_drewN ?_ _) | (with_reducible refine Kd.C_drew ?_) | exact HR448_0.out)) 3 p455 q455; obtain rfl : ad449 = ad455 := (by injection e455); (try simp only [show (3 : Int).toNat = 3 from rfl, Nat.reduceMul, Nat.reduceEqDiff, Go.Addr.add, ↓reduceIte] at hx455_0); have qi455 : (3 < (rd_L1 t442 t438).length) = True := eq_true (by omega); (try rw [show ((3 : Int)).toNat = 3 from rfl] at hx455_0); replace p455 := eq_true p455; replace q455 := eq_true q455; have p456 : 0 ≤ (0 : Int) := (by omega); have q456 : 0 < (t435.length : Int) := of_decide_eq_true (by first | (with_reducible assumption) | assumption); obtain ⟨ad456, e456, hx456_0⟩ := Kd.at_string (Kd.V_reads' HO_3.out).2.2 0 p456 q456; cases e456; have qi456 : (0 < t435.length) = True := eq_true (by omega); (try rw [show ((0 : Int)).toNat = 0 from rfl] at hx456_0); (try rw [Addr.add_zero'] at hx456_0); replace p456 := eq_true p456; replace q456 := eq_true q456)); try go_wp2_with (first | (go_at_call 24; (with_reducible refine (impl_WallList.calls _ _ t435 t442 true _ ?side1 ?side2 A15.out).mono ?_); (case side1 => repeat (first | exact (Kd.V_reads' HO_3.out).2.2 | (with_reducible refine Kd.C_alloc ?_ _) | (with_reducible refine Kd.C_drewN ?_ _) | (with_reducible refine Kd.C_drew ?_))); (case side2 => exact (Kd.V_reads' HO_3.out).2.1); rintro e w40 ⟨v444, rfl, ho0, hb⟩; have n0_ := zab.mk (Kd.V_elder' (by (with_reducible repeat (first | apply Kd.V_alloc | apply Kd.V_drewN | apply Kd.V_drew)); exact HO_3.out) (Kd.S_base ho0) hb); have n1_ := zab.mk (Kd.S_lower ho0 (zaj (by repeat (first | (with_reducible first | exact HB.out | apply zac | apply zaa | apply zad) | exact HB.out)))); have n2_ := zab.mk (zag (by repeat (first | (with_reducible first | exact HB.out | apply zac | apply zaa | apply zad) | exact HB.out)) hb); clear HO_3; clear HB; have HO_3 := n0_; have HO445 := n1_; have HB := n2_; clear n0_ n1_ n2_; (try clear hb); (try clear hb2); (try clear hk); (try clear hi); (try clear ho0)) | (go_at_call 45; (with_reducible refine (impl_CutMany.calls _ _ t435 t446 true _ ?side1 ?side2 A16.out).mono ?_); (case side1 => repeat (first | exact (Kd.V_reads' HO_3.out).2.2 | (with_reducible refine Kd.C_alloc ?_ _) | (with_reducible refine Kd.C_drewN ?_ _) | (with_reducible refine Kd.C_drew ?_))); (case side2 => exact (Kd.V_reads' HO_3.out).2.1); rintro e w41 ⟨rfl, hb⟩; have n0_ := zab.mk (Kd.V_below (by (with_reducible repeat (first | apply Kd.V_alloc | apply Kd.V_drewN | apply Kd.V_drew)); exact HO_3.out) hb); have n1_ := zab.mk (Kd.S_below (by (with_reducible repeat (first | apply Kd.S_alloc | apply Kd.S_drewN | apply Kd.S_drew)); exact HO445.out) hb); have n2_ := zab.mk (zag (by repeat (first | (with_reducible first | exact HB.out | apply zac | apply zaa | apply zad) | exact HB.out)) hb); clear HO_3; clear HO445; clear HB; have HO_3 := n0_; have HO445 := n1_; have HB := n2_; clear n0_ n1_ n2_; (try clear hb); (try clear hb2); (try clear hk); (try clear hi); obtain ⟨Ao42, co42, eo42⟩ := Kd.S_slice HO445.out; subst eo42; have p448 : 0 ≤ (t438 : Int) := of_decide_eq_true (by first | (with_reducible assumption) | assumption); have q448 : t438 < (t442.length : Int) := of_decide_eq_true (by first | (with_reducible assumption) | assumption); obtain ⟨ad448, A448_0, c448_0, e448, hx448_0, hl448_0, hi448_0⟩ := at_L1 (Kd.S_reads' HO445.out).2.2 t438 p448 q448; cases e448; obtain ⟨ce448, hce448, hMe448, hcc448⟩ := Kd.S_get HO445.out [] t438 p448 (by first | exact q448 | exact of_decide_eq_true (by first | (with_reducible assumption) | assumption) | (have e_ := (Kd.S_reads' HO445.out).1; omega)); obtain ⟨ve448_0, rfl, ge448_0⟩ := hMe448; have hv448_0 := hcc448 0 _ rfl; rw [Nat.add_zero, show ((Kd.slice 3 (Kd.int .i64))).sz = 1 from rfl, Nat.mul_one] at hv448_0; replace hv448_0 := Option.some.inj (hv448_0.symm.trans hx448_0); rw [hv448_0] at ge448_0; have HL448_0 := zab.mk (show Kd.R (Kd.int .i64) 3 _ _ _ _ (rd_L1 t442 t438) from ge448_0); clear hv448_0 ge448_0; clear hcc448 hce448; have HR448_0 := zab.mk hi448_0; have HC448_0 := zab.mk hl448_0; clear hi448_0 hl448_0; replace p448 := eq_true p448; replace q448 := eq_true q448; have p449 : 0 ≤ (0 : Int) := (by omega); have q449 : 0 < ((rd_L1 t442 t438).length : Int) := of_decide_eq_true (by first | (with_reducible assumption) | assumption); obtain ⟨ad449, e449, hx449_0⟩ := Kd.at_int (by repeat (first | (with_reducible exact HR448_0.out) | (with_reducible refine Kd.C_alloc ?_ _) | (with_reducible refine Kd.C_drewN ?_ _) | (with_reducible refine Kd.C_drew ?_) | exact HR448_0.out)) 0 p449 q449; cases e449; have qi449 : (0 < (rd_L1 t442 t438).length) = True := eq_true (by omega); (try rw [show ((0 : Int)).toNat = 0 from rfl] at hx449_0); (try rw [Addr.add_zero'] at hx449_0); replace p449 := eq_true p449; replace q449 := eq_true q449; have p454 : 0 ≤ (0 : Int) := (by omega); have q454 : 0 < ((rd_L1 t442 t438).length : Int) := of_decide_eq_true (by first | (with_reducible assumption) | assumption); obtain ⟨ad454, e454, hx454_0⟩ := Kd.at_int (by repeat (first | (with_reducible exact HR448_0.out) | (with_reducible refine Kd.C_alloc ?_ _) | (with_reducible refine Kd.C_drewN ?_ _) | (with_reducible refine Kd.C_drew ?_) | exact HR448_0.out)) 0 p454 q454; obtain rfl : ad449 = ad454 := (by injection e454); have qi454 : (0 < (rd_L1 t442 t438).length) = True := eq_true (by omega); (try rw [show ((0 : Int)).toNat = 0 from rfl] at hx454_0); (try rw [Addr.add_zero'] at hx454_0); replace p454 := eq_true p454; replace q454 := eq_true q454; have p455 : 0 ≤ (3 : Int) := (by omega); have q455 : 3 < ((rd_L1 t442 t438).length : Int) := of_decide_eq_true (by first | (with_reducible assumption) | assumption); obtain ⟨ad455, e455, hx455_0⟩ := Kd.at_int (by repeat (first | (with_reducible exact HR448_0.out) | (with_reducible refine Kd.C_alloc ?_ _) | (with_reducible refine Kd.C_drewN ?_ _) | (with_reducible refine Kd.C_drew ?_) | exact HR448_0.out)) 3 p455 q455; obtain rfl : ad449 = ad455 := (by injection e455); (try simp only [show (3 : Int).toNat = 3 from rfl, Nat.reduceMul, Nat.reduceEqDiff, Go.Addr.add, ↓reduceIte] at hx455_0); have qi455 : (3 < (rd_L1 t442 t438).length) = True := eq_true (by omega); (try rw [show ((3 : Int)).toNat = 3 from rfl] at hx455_0); replace p455 := eq_true p455; replace q455 := eq_true q455; have p456 : 0 ≤ (0 : Int) := (by omega); have q456 : 0 < (t435.length : Int) := of_decide_eq_true (by first | (with_reducible assumption) | assumption); obtain ⟨ad456, e456, hx456_0⟩ := Kd.at_string (Kd.V_reads' HO_3.out).2.2 0 p456 q456; cases e456; have qi456 : (0 < t435.length) = True := eq_true (by omega); (try rw [show ((0 : Int)).toNat = 0 from rfl] at hx456_0); (try rw [Addr.add_zero'] at hx456_0); replace p456 := eq_true p456; replace q456 := eq_true q456)))
               go_ret
               exact ⟨by first | rfl | (simp [zan, zam] <;> rfl) | (simp [*, zan, zam] <;> rfl), by repeat (first | (with_reducible first | exact HB.out | apply zac | apply zaa | apply zad) | exact HB.out)⟩
              ·rw [if_neg c39] at H
               exact absurd H (by simp)
             ·rw [if_neg c38] at H
              exact absurd H (by simp)
            ·rw [if_neg c37] at H
             have c37b0 : ((rd (rd_L1 t442 t438) 0) == 1) = false := beq_eq_false_iff_ne.mpr c37
             have c37b1 : ((rd (rd_L1 t442 t438) 0) != 1) = true := bne_iff_ne.mpr c37
             obtain rfl := Option.some.inj H
             go_wp2_with (first | (go_at_call 24; (with_reducible refine (impl_WallList.calls _ _ t435 t442 true _ ?side1 ?side2 A15.out).mono ?_); (case side1 => repeat (first | exact (Kd.V_reads' HO_3.out).2.2 | (with_reducible refine Kd.C_alloc ?_ _) | (with_reducible refine Kd.C_drewN ?_ _) | (with_reducible refine Kd.C_drew ?_))); (case side2 => exact (Kd.V_reads' HO_3.out).2.1); rintro e w43 ⟨v444, rfl, ho0, hb⟩; have n0_ := zab.mk (Kd.V_elder' (by (with_reducible repeat (first | apply Kd.V_alloc | apply Kd.V_drewN | apply Kd.V_drew)); exact HO_3.out) (Kd.S_base ho0) hb); have n1_ := zab.mk (Kd.S_lower ho0 (zaj (by repeat (first | (with_reducible first | exact HB.out | apply zac | apply zaa | apply zad) | exact HB.out)))); have n2_ := zab.mk (zag (by repeat (first | (with_reducible first | exact HB.out | apply zac | apply zaa | apply zad) | exact HB.out)) hb); clear HO_3; clear HB; have HO_3 := n0_; have HO445 := n1_; have HB := n2_; clear n0_ n1_ n2_; (try clear hb); (try clear hb2); (try clear hk); (try clear hi); (try clear ho0)) | (go_at_call 45; (with_reducible refine (impl_CutMany.calls _ _ t435 t446 true _ ?side1 ?side2 A16.out).mono ?_); (case side1 => repeat (first | exact (Kd.V_reads' HO_3.out).2.2 | (with_reducible refine Kd.C_alloc ?_ _) | (with_reducible refine Kd.C_drewN ?_ _) | (with_reducible refine Kd.C_drew ?_))); (case side2 => exact (Kd.V_reads' HO_3.out).2.1); rintro e w44 ⟨rfl, hb⟩; have n0_ := zab.mk (Kd.V_below (by (with_reducible repeat (first | apply Kd.V_alloc | apply Kd.V_drewN | apply Kd.V_drew)); exact HO_3.out) hb); have n1_ := zab.mk (Kd.S_below (by (with_reducible repeat (first | apply Kd.S_alloc | apply Kd.S_drewN | apply Kd.S_drew)); exact HO445.out) hb); have n2_ := zab.mk (zag (by repeat (first | (with_reducible first | exact HB.out | apply zac | apply zaa | apply zad) | exact HB.out)) hb); clear HO_3; clear HO445; clear HB; have HO_3 := n0_; have HO445 := n1_; have HB := n2_; clear n0_ n1_ n2_; (try clear hb); (try clear hb2); (try clear hk); (try clear hi); obtain ⟨Ao45, co45, eo45⟩ := Kd.S_slice HO445.out; subst eo45; have p448 : 0 ≤ (t438 : Int) := of_decide_eq_true (by first | (with_reducible assumption) | assumption); have q448 : t438 < (t442.length : Int) := of_decide_eq_true (by first | (with_reducible assumption) | assumption); obtain ⟨ad448, A448_0, c448_0, e448, hx448_0, hl448_0, hi448_0⟩ := at_L1 (Kd.S_reads' HO445.out).2.2 t438 p448 q448; cases e448; obtain ⟨ce448, hce448, hMe448, hcc448⟩ := Kd.S_get HO445.out [] t438 p448 (by first | exact q448 | exact of_decide_eq_true (by first | (with_reducible assumption) | assumption) | (have e_ := (Kd.S_reads' HO445.out).1; omega)); obtain ⟨ve448_0, rfl, ge448_0⟩ := hMe448; have hv448_0 := hcc448 0 _ rfl; rw [Nat.add_zero, show ((Kd.slice 3 (Kd.int .i64))).sz = 1 from rfl, Nat.mul_one] at hv448_0; replace hv448_0 := Option.some.inj (hv448_0.symm.trans hx448_0); rw [hv448_0] at ge448_0; have HL448_0 := zab.mk (show Kd.R (Kd.int .i64) 3 _ _ _ _ (rd_L1 t442 t438) from ge448_0); clear hv448_0 ge448_0; clear hcc448 hce448; have HR448_0 := zab.mk hi448_0; have HC448_0 := zab.mk hl448_0; clear hi448_0 hl448_0; replace p448 := eq_true p448; replace q448 := eq_true q448; have p449 : 0 ≤ (0 : Int) := (by omega); have q449 : 0 < ((rd_L1 t442 t438).length : Int) := of_decide_eq_true (by first | (with_reducible assumption) | assumption); obtain ⟨ad449, e449, hx449_0⟩ := Kd.at_int (by repeat (first | (with_reducible exact HR448_0.out) | (with_reducible refine Kd.C_alloc ?_ _) | (with_reducible refine Kd.C_drewN ?_ _) | (with_reducible refine Kd.C_drew ?_) | exact HR448_0.out)) 0 p449 q449; cases e449; have qi449 : (0 < (rd_L1 t442 t438).length) = True := eq_true (by omega); (try rw [show ((0 : Int)).toNat = 0 from rfl] at hx449_0); (try rw [Addr.add_zero'] at hx449_0); replace p449 := eq_true p449; replace q449 := eq_true q449; have p454 : 0 ≤ (0 : Int) := (by omega); have q454 : 0 < ((rd_L1 t442 t438).length : Int) := of_decide_eq_true (by first | (with_reducible assumption) | assumption); obtain ⟨ad454, e454, hx454_0⟩ := Kd.at_int (by repeat (first | (with_reducible exact HR448_0.out) | (with_reducible refine Kd.C_alloc ?_ _) | (with_reducible refine Kd.C_drewN ?_ _) | (with_reducible refine Kd.C_drew ?_) | exact HR448_0.out)) 0 p454 q454; obtain rfl : ad449 = ad454 := (by injection e454); have qi454 : (0 < (rd_L1 t442 t438).length) = True := eq_true (by omega); (try rw [show ((0 : Int)).toNat = 0 from rfl] at hx454_0); (try rw [Addr.add_zero'] at hx454_0); replace p454 := eq_true p454; replace q454 := eq_true q454))
             repeat (go_quiet (first | (go_at_call 24; (with_reducible refine (impl_WallList.calls _ _ t435 t442 true _ ?side1 ?side2 A15.out).mono ?_); (case side1 => repeat (first | exact (Kd.V_reads' HO_3.out).2.2 | (with_reducible refine Kd.C_alloc ?_ _) | (with_reducible refine Kd.C_drewN ?_ _) | (with_reducible refine Kd.C_drew ?_))); (case side2 => exact (Kd.V_reads' HO_3.out).2.1); rintro e w43 ⟨v444, rfl, ho0, hb⟩; have n0_ := zab.mk (Kd.V_elder' (by (with_reducible repeat (first | apply Kd.V_alloc | apply Kd.V_drewN | apply Kd.V_drew)); exact HO_3.out) (Kd.S_base ho0) hb); have n1_ := zab.mk (Kd.S_lower ho0 (zaj (by repeat (first | (with_reducible first | exact HB.out | apply zac | apply zaa | apply zad) | exact HB.out)))); have n2_ := zab.mk (zag (by repeat (first | (with_reducible first | exact HB.out | apply zac | apply zaa | apply zad) | exact HB.out)) hb); clear HO_3; clear HB; have HO_3 := n0_; have HO445 := n1_; have HB := n2_; clear n0_ n1_ n2_; (try clear hb); (try clear hb2); (try clear hk); (try clear hi); (try clear ho0)) | (go_at_call 45; (with_reducible refine (impl_CutMany.calls _ _ t435 t446 true _ ?side1 ?side2 A16.out).mono ?_); (case side1 => repeat (first | exact (Kd.V_reads' HO_3.out).2.2 | (with_reducible refine Kd.C_alloc ?_ _) | (with_reducible refine Kd.C_drewN ?_ _) | (with_reducible refine Kd.C_drew ?_))); (case side2 => exact (Kd.V_reads' HO_3.out).2.1); rintro e w44 ⟨rfl, hb⟩; have n0_ := zab.mk (Kd.V_below (by (with_reducible repeat (first | apply Kd.V_alloc | apply Kd.V_drewN | apply Kd.V_drew)); exact HO_3.out) hb); have n1_ := zab.mk (Kd.S_below (by (with_reducible repeat (first | apply Kd.S_alloc | apply Kd.S_drewN | apply Kd.S_drew)); exact HO445.out) hb); have n2_ := zab.mk (zag (by repeat (first | (with_reducible first | exact HB.out | apply zac | apply zaa | apply zad) | exact HB.out)) hb); clear HO_3; clear HO445; clear HB; have HO_3 := n0_; have HO445 := n1_; have HB := n2_; clear n0_ n1_ n2_; (try clear hb); (try clear hb2); (try clear hk); (try clear hi); obtain ⟨Ao45, co45, eo45⟩ := Kd.S_slice HO445.out; subst eo45; have p448 : 0 ≤ (t438 : Int) := of_decide_eq_true (by first | (with_reducible assumption) | assumption); have q448 : t438 < (t442.length : Int) := of_decide_eq_true (by first | (with_reducible assumption) | assumption); obtain ⟨ad448, A448_0, c448_0, e448, hx448_0, hl448_0, hi448_0⟩ := at_L1 (Kd.S_reads' HO445.out).2.2 t438 p448 q448; cases e448; obtain ⟨ce448, hce448, hMe448, hcc448⟩ := Kd.S_get HO445.out [] t438 p448 (by first | exact q448 | exact of_decide_eq_true (by first | (with_reducible assumption) | assumption) | (have e_ := (Kd.S_reads' HO445.out).1; omega)); obtain ⟨ve448_0, rfl, ge448_0⟩ := hMe448; have hv448_0 := hcc448 0 _ rfl; rw [Nat.add_zero, show ((Kd.slice 3 (Kd.int .i64))).sz = 1 from rfl, Nat.mul_one] at hv448_0; replace hv448_0 := Option.some.inj (hv448_0.symm.trans hx448_0); rw [hv448_0] at ge448_0; have HL448_0 := zab.mk (show Kd.R (Kd.int .i64) 3 _ _ _ _ (rd_L1 t442 t438) from ge448_0); clear hv448_0 ge448_0; clear hcc448 hce448; have HR448_0 := zab.mk hi448_0; have HC448_0 := zab.mk hl448_0; clear hi448_0 hl448_0; replace p448 := eq_true p448; replace q448 := eq_true q448; have p449 : 0 ≤ (0 : Int) := (by omega); have q449 : 0 < ((rd_L1 t442 t438).length : Int) := of_decide_eq_true (by first | (with_reducible assumption) | assumption); obtain ⟨ad449, e449, hx449_0⟩ := Kd.at_int (by repeat (first | (with_reducible exact HR448_0.out) | (with_reducible refine Kd.C_alloc ?_ _) | (with_reducible refine Kd.C_drewN ?_ _) | (with_reducible refine Kd.C_drew ?_) | exact HR448_0.out)) 0 p449 q449; cases e449; have qi449 : (0 < (rd_L1 t442 t438).length) = True := eq_true (by omega); (try rw [show ((0 : Int)).toNat = 0 from rfl] at hx449_0); (try rw [Addr.add_zero'] at hx449_0); replace p449 := eq_true p449; replace q449 := eq_true q449; have p454 : 0 ≤ (0 : Int) := (by omega); have q454 : 0 < ((rd_L1 t442 t438).length : Int) := of_decide_eq_true (by first | (with_reducible assumption) | assumption); obtain ⟨ad454, e454, hx454_0⟩ := Kd.at_int (by repeat (first | (with_reducible exact HR448_0.out) | (with_reducible refine Kd.C_alloc ?_ _) | (with_reducible refine Kd.C_drewN ?_ _) | (with_reducible refine Kd.C_drew ?_) | exact HR448_0.out)) 0 p454 q454; obtain rfl : ad449 = ad454 := (by injection e454); have qi454 : (0 < (rd_L1 t442 t438).length) = True := eq_true (by omega); (try rw [show ((0 : Int)).toNat = 0 from rfl] at hx454_0); (try rw [Addr.add_zero'] at hx454_0); replace p454 := eq_true p454; replace q454 := eq_true q454)); try go_wp2_with (first | (go_at_call 24; (with_reducible refine (impl_WallList.calls _ _ t435 t442 true _ ?side1 ?side2 A15.out).mono ?_); (case side1 => repeat (first | exact (Kd.V_reads' HO_3.out).2.2 | (with_reducible refine Kd.C_alloc ?_ _) | (with_reducible refine Kd.C_drewN ?_ _) | (with_reducible refine Kd.C_drew ?_))); (case side2 => exact (Kd.V_reads' HO_3.out).2.1); rintro e w43 ⟨v444, rfl, ho0, hb⟩; have n0_ := zab.mk (Kd.V_elder' (by (with_reducible repeat (first | apply Kd.V_alloc | apply Kd.V_drewN | apply Kd.V_drew)); exact HO_3.out) (Kd.S_base ho0) hb); have n1_ := zab.mk (Kd.S_lower ho0 (zaj (by repeat (first | (with_reducible first | exact HB.out | apply zac | apply zaa | apply zad) | exact HB.out)))); have n2_ := zab.mk (zag (by repeat (first | (with_reducible first | exact HB.out | apply zac | apply zaa | apply zad) | exact HB.out)) hb); clear HO_3; clear HB; have HO_3 := n0_; have HO445 := n1_; have HB := n2_; clear n0_ n1_ n2_; (try clear hb); (try clear hb2); (try clear hk); (try clear hi); (try clear ho0)) | (go_at_call 45; (with_reducible refine (impl_CutMany.calls _ _ t435 t446 true _ ?side1 ?side2 A16.out).mono ?_); (case side1 => repeat (first | exact (Kd.V_reads' HO_3.out).2.2 | (with_reducible refine Kd.C_alloc ?_ _) | (with_reducible refine Kd.C_drewN ?_ _) | (with_reducible refine Kd.C_drew ?_))); (case side2 => exact (Kd.V_reads' HO_3.out).2.1); rintro e w44 ⟨rfl, hb⟩; have n0_ := zab.mk (Kd.V_below (by (with_reducible repeat (first | apply Kd.V_alloc | apply Kd.V_drewN | apply Kd.V_drew)); exact HO_3.out) hb); have n1_ := zab.mk (Kd.S_below (by (with_reducible repeat (first | apply Kd.S_alloc | apply Kd.S_drewN | apply Kd.S_drew)); exact HO445.out) hb); have n2_ := zab.mk (zag (by repeat (first | (with_reducible first | exact HB.out | apply zac | apply zaa | apply zad) | exact HB.out)) hb); clear HO_3; clear HO445; clear HB; have HO_3 := n0_; have HO445 := n1_; have HB := n2_; clear n0_ n1_ n2_; (try clear hb); (try clear hb2); (try clear hk); (try clear hi); obtain ⟨Ao45, co45, eo45⟩ := Kd.S_slice HO445.out; subst eo45; have p448 : 0 ≤ (t438 : Int) := of_decide_eq_true (by first | (with_reducible assumption) | assumption); have q448 : t438 < (t442.length : Int) := of_decide_eq_true (by first | (with_reducible assumption) | assumption); obtain ⟨ad448, A448_0, c448_0, e448, hx448_0, hl448_0, hi448_0⟩ := at_L1 (Kd.S_reads' HO445.out).2.2 t438 p448 q448; cases e448; obtain ⟨ce448, hce448, hMe448, hcc448⟩ := Kd.S_get HO445.out [] t438 p448 (by first | exact q448 | exact of_decide_eq_true (by first | (with_reducible assumption) | assumption) | (have e_ := (Kd.S_reads' HO445.out).1; omega)); obtain ⟨ve448_0, rfl, ge448_0⟩ := hMe448; have hv448_0 := hcc448 0 _ rfl; rw [Nat.add_zero, show ((Kd.slice 3 (Kd.int .i64))).sz = 1 from rfl, Nat.mul_one] at hv448_0; replace hv448_0 := Option.some.inj (hv448_0.symm.trans hx448_0); rw [hv448_0] at ge448_0; have HL448_0 := zab.mk (show Kd.R (Kd.int .i64) 3 _ _ _ _ (rd_L1 t442 t438) from ge448_0); clear hv448_0 ge448_0; clear hcc448 hce448; have HR448_0 := zab.mk hi448_0; have HC448_0 := zab.mk hl448_0; clear hi448_0 hl448_0; replace p448 := eq_true p448; replace q448 := eq_true q448; have p449 : 0 ≤ (0 : Int) := (by omega); have q449 : 0 < ((rd_L1 t442 t438).length : Int) := of_decide_eq_true (by first | (with_reducible assumption) | assumption); obtain ⟨ad449, e449, hx449_0⟩ := Kd.at_int (by repeat (first | (with_reducible exact HR448_0.out) | (with_reducible refine Kd.C_alloc ?_ _) | (with_reducible refine Kd.C_drewN ?_ _) | (with_reducible refine Kd.C_drew ?_) | exact HR448_0.out)) 0 p449 q449; cases e449; have qi449 : (0 < (rd_L1 t442 t438).length) = True := eq_true (by omega); (try rw [show ((0 : Int)).toNat = 0 from rfl] at hx449_0); (try rw [Addr.add_zero'] at hx449_0); replace p449 := eq_true p449; replace q449 := eq_true q449; have p454 : 0 ≤ (0 : Int) := (by omega); have q454 : 0 < ((rd_L1 t442 t438).length : Int) := of_decide_eq_true (by first | (with_reducible assumption) | assumption); obtain ⟨ad454, e454, hx454_0⟩ := Kd.at_int (by repeat (first | (with_reducible exact HR448_0.out) | (with_reducible refine Kd.C_alloc ?_ _) | (with_reducible refine Kd.C_drewN ?_ _) | (with_reducible refine Kd.C_drew ?_) | exact HR448_0.out)) 0 p454 q454; obtain rfl : ad449 = ad454 := (by injection e454); have qi454 : (0 < (rd_L1 t442 t438).length) = True := eq_true (by omega); (try rw [show ((0 : Int)).toNat = 0 from rfl] at hx454_0); (try rw [Addr.add_zero'] at hx454_0); replace p454 := eq_true p454; replace q454 := eq_true q454)))
             go_ret
             exact ⟨by first | rfl | (simp [zan, zam] <;> rfl) | (simp [*, zan, zam] <;> rfl), by repeat (first | (with_reducible first | exact HB.out | apply zac | apply zaa | apply zad) | exact HB.out)⟩
          ·rw [if_neg c22] at H
           exact absurd H (by simp)
         ·rw [if_neg c21] at H
          have c21b0 : decide (1 ≤ t446) = false := decide_eq_false c21
          clear c21
          obtain rfl := Option.some.inj H
          go_wp2_with (first | (go_at_call 24; (with_reducible refine (impl_WallList.calls _ _ t435 t442 true _ ?side1 ?side2 A15.out).mono ?_); (case side1 => repeat (first | exact (Kd.V_reads' HO_3.out).2.2 | (with_reducible refine Kd.C_alloc ?_ _) | (with_reducible refine Kd.C_drewN ?_ _) | (with_reducible refine Kd.C_drew ?_))); (case side2 => exact (Kd.V_reads' HO_3.out).2.1); rintro e w46 ⟨v444, rfl, ho0, hb⟩; have n0_ := zab.mk (Kd.V_elder' (by (with_reducible repeat (first | apply Kd.V_alloc | apply Kd.V_drewN | apply Kd.V_drew)); exact HO_3.out) (Kd.S_base ho0) hb); have n1_ := zab.mk (Kd.S_lower ho0 (zaj (by repeat (first | (with_reducible first | exact HB.out | apply zac | apply zaa | apply zad) | exact HB.out)))); have n2_ := zab.mk (zag (by repeat (first | (with_reducible first | exact HB.out | apply zac | apply zaa | apply zad) | exact HB.out)) hb); clear HO_3; clear HB; have HO_3 := n0_; have HO445 := n1_; have HB := n2_; clear n0_ n1_ n2_; (try clear hb); (try clear hb2); (try clear hk); (try clear hi); (try clear ho0)) | (go_at_call 45; (with_reducible refine (impl_CutMany.calls _ _ t435 t446 true _ ?side1 ?side2 A16.out).mono ?_); (case side1 => repeat (first | exact (Kd.V_reads' HO_3.out).2.2 | (with_reducible refine Kd.C_alloc ?_ _) | (with_reducible refine Kd.C_drewN ?_ _) | (with_reducible refine Kd.C_drew ?_))); (case side2 => exact (Kd.V_reads' HO_3.out).2.1); rintro e w47 ⟨rfl, hb⟩; have n0_ := zab.mk (Kd.V_below (by (with_reducible repeat (first | apply Kd.V_alloc | apply Kd.V_drewN | apply Kd.V_drew)); exact HO_3.out) hb); have n1_ := zab.mk (Kd.S_below (by (with_reducible repeat (first | apply Kd.S_alloc | apply Kd.S_drewN | apply Kd.S_drew)); exact HO445.out) hb); have n2_ := zab.mk (zag (by repeat (first | (with_reducible first | exact HB.out | apply zac | apply zaa | apply zad) | exact HB.out)) hb); clear HO_3; clear HO445; clear HB; have HO_3 := n0_; have HO445 := n1_; have HB := n2_; clear n0_ n1_ n2_; (try clear hb); (try clear hb2); (try clear hk); (try clear hi); obtain ⟨Ao48, co48, eo48⟩ := Kd.S_slice HO445.out; subst eo48; have p448 : 0 ≤ (t438 : Int) := of_decide_eq_true (by first | (with_reducible assumption) | assumption); have q448 : t438 < (t442.length : Int) := of_decide_eq_true (by first | (with_reducible assumption) | assumption); obtain ⟨ad448, A448_0, c448_0, e448, hx448_0, hl448_0, hi448_0⟩ := at_L1 (Kd.S_reads' HO445.out).2.2 t438 p448 q448; cases e448; obtain ⟨ce448, hce448, hMe448, hcc448⟩ := Kd.S_get HO445.out [] t438 p448 (by first | exact q448 | exact of_decide_eq_true (by first | (with_reducible assumption) | assumption) | (have e_ := (Kd.S_reads' HO445.out).1; omega)); obtain ⟨ve448_0, rfl, ge448_0⟩ := hMe448; have hv448_0 := hcc448 0 _ rfl; rw [Nat.add_zero, show ((Kd.slice 3 (Kd.int .i64))).sz = 1 from rfl, Nat.mul_one] at hv448_0; replace hv448_0 := Option.some.inj (hv448_0.symm.trans hx448_0); rw [hv448_0] at ge448_0; have HL448_0 := zab.mk (show Kd.R (Kd.int .i64) 3 _ _ _ _ (rd_L1 t442 t438) from ge448_0); clear hv448_0 ge448_0; clear hcc448 hce448; have HR448_0 := zab.mk hi448_0; have HC448_0 := zab.mk hl448_0; clear hi448_0 hl448_0; replace p448 := eq_true p448; replace q448 := eq_true q448))
          repeat (go_quiet (first | (go_at_call 24; (with_reducible refine (impl_WallList.calls _ _ t435 t442 true _ ?side1 ?side2 A15.out).mono ?_); (case side1 => repeat (first | exact (Kd.V_reads' HO_3.out).2.2 | (with_reducible refine Kd.C_alloc ?_ _) | (with_reducible refine Kd.C_drewN ?_ _) | (with_reducible refine Kd.C_drew ?_))); (case side2 => exact (Kd.V_reads' HO_3.out).2.1); rintro e w46 ⟨v444, rfl, ho0, hb⟩; have n0_ := zab.mk (Kd.V_elder' (by (with_reducible repeat (first | apply Kd.V_alloc | apply Kd.V_drewN | apply Kd.V_drew)); exact HO_3.out) (Kd.S_base ho0) hb); have n1_ := zab.mk (Kd.S_lower ho0 (zaj (by repeat (first | (with_reducible first | exact HB.out | apply zac | apply zaa | apply zad) | exact HB.out)))); have n2_ := zab.mk (zag (by repeat (first | (with_reducible first | exact HB.out | apply zac | apply zaa | apply zad) | exact HB.out)) hb); clear HO_3; clear HB; have HO_3 := n0_; have HO445 := n1_; have HB := n2_; clear n0_ n1_ n2_; (try clear hb); (try clear hb2); (try clear hk); (try clear hi); (try clear ho0)) | (go_at_call 45; (with_reducible refine (impl_CutMany.calls _ _ t435 t446 true _ ?side1 ?side2 A16.out).mono ?_); (case side1 => repeat (first | exact (Kd.V_reads' HO_3.out).2.2 | (with_reducible refine Kd.C_alloc ?_ _) | (with_reducible refine Kd.C_drewN ?_ _) | (with_reducible refine Kd.C_drew ?_))); (case side2 => exact (Kd.V_reads' HO_3.out).2.1); rintro e w47 ⟨rfl, hb⟩; have n0_ := zab.mk (Kd.V_below (by (with_reducible repeat (first | apply Kd.V_alloc | apply Kd.V_drewN | apply Kd.V_drew)); exact HO_3.out) hb); have n1_ := zab.mk (Kd.S_below (by (with_reducible repeat (first | apply Kd.S_alloc | apply Kd.S_drewN | apply Kd.S_drew)); exact HO445.out) hb); have n2_ := zab.mk (zag (by repeat (first | (with_reducible first | exact HB.out | apply zac | apply zaa | apply zad) | exact HB.out)) hb); clear HO_3; clear HO445; clear HB; have HO_3 := n0_; have HO445 := n1_; have HB := n2_; clear n0_ n1_ n2_; (try clear hb); (try clear hb2); (try clear hk); (try clear hi); obtain ⟨Ao48, co48, eo48⟩ := Kd.S_slice HO445.out; subst eo48; have p448 : 0 ≤ (t438 : Int) := of_decide_eq_true (by first | (with_reducible assumption) | assumption); have q448 : t438 < (t442.length : Int) := of_decide_eq_true (by first | (with_reducible assumption) | assumption); obtain ⟨ad448, A448_0, c448_0, e448, hx448_0, hl448_0, hi448_0⟩ := at_L1 (Kd.S_reads' HO445.out).2.2 t438 p448 q448; cases e448; obtain ⟨ce448, hce448, hMe448, hcc448⟩ := Kd.S_get HO445.out [] t438 p448 (by first | exact q448 | exact of_decide_eq_true (by first | (with_reducible assumption) | assumption) | (have e_ := (Kd.S_reads' HO445.out).1; omega)); obtain ⟨ve448_0, rfl, ge448_0⟩ := hMe448; have hv448_0 := hcc448 0 _ rfl; rw [Nat.add_zero, show ((Kd.slice 3 (Kd.int .i64))).sz = 1 from rfl, Nat.mul_one] at hv448_0; replace hv448_0 := Option.some.inj (hv448_0.symm.trans hx448_0); rw [hv448_0] at ge448_0; have HL448_0 := zab.mk (show Kd.R (Kd.int .i64) 3 _ _ _ _ (rd_L1 t442 t438) from ge448_0); clear hv448_0 ge448_0; clear hcc448 hce448; have HR448_0 := zab.mk hi448_0; have HC448_0 := zab.mk hl448_0; clear hi448_0 hl448_0; replace p448 := eq_true p448; replace q448 := eq_true q448)); try go_wp2_with (first | (go_at_call 24; (with_reducible refine (impl_WallList.calls _ _ t435 t442 true _ ?side1 ?side2 A15.out).mono ?_); (case side1 => repeat (first | exact (Kd.V_reads' HO_3.out).2.2 | (with_reducible refine Kd.C_alloc ?_ _) | (with_reducible refine Kd.C_drewN ?_ _) | (with_reducible refine Kd.C_drew ?_))); (case side2 => exact (Kd.V_reads' HO_3.out).2.1); rintro e w46 ⟨v444, rfl, ho0, hb⟩; have n0_ := zab.mk (Kd.V_elder' (by (with_reducible repeat (first | apply Kd.V_alloc | apply Kd.V_drewN | apply Kd.V_drew)); exact HO_3.out) (Kd.S_base ho0) hb); have n1_ := zab.mk (Kd.S_lower ho0 (zaj (by repeat (first | (with_reducible first | exact HB.out | apply zac | apply zaa | apply zad) | exact HB.out)))); have n2_ := zab.mk (zag (by repeat (first | (with_reducible first | exact HB.out | apply zac | apply zaa | apply zad) | exact HB.out)) hb); clear HO_3; clear HB; have HO_3 := n0_; have HO445 := n1_; have HB := n2_; clear n0_ n1_ n2_; (try clear hb); (try clear hb2); (try clear hk); (try clear hi); (try clear ho0)) | (go_at_call 45; (with_reducible refine (impl_CutMany.calls _ _ t435 t446 true _ ?side1 ?side2 A16.out).mono ?_); (case side1 => repeat (first | exact (Kd.V_reads' HO_3.out).2.2 | (with_reducible refine Kd.C_alloc ?_ _) | (with_reducible refine Kd.C_drewN ?_ _) | (with_reducible refine Kd.C_drew ?_))); (case side2 => exact (Kd.V_reads' HO_3.out).2.1); rintro e w47 ⟨rfl, hb⟩; have n0_ := zab.mk (Kd.V_below (by (with_reducible repeat (first | apply Kd.V_alloc | apply Kd.V_drewN | apply Kd.V_drew)); exact HO_3.out) hb); have n1_ := zab.mk (Kd.S_below (by (with_reducible repeat (first | apply Kd.S_alloc | apply Kd.S_drewN | apply Kd.S_drew)); exact HO445.out) hb); have n2_ := zab.mk (zag (by repeat (first | (with_reducible first | exact HB.out | apply zac | apply zaa | apply zad) | exact HB.out)) hb); clear HO_3; clear HO445; clear HB; have HO_3 := n0_; have HO445 := n1_; have HB := n2_; clear n0_ n1_ n2_; (try clear hb); (try clear hb2); (try clear hk); (try clear hi); obtain ⟨Ao48, co48, eo48⟩ := Kd.S_slice HO445.out; subst eo48; have p448 : 0 ≤ (t438 : Int) := of_decide_eq_true (by first | (with_reducible assumption) | assumption); have q448 : t438 < (t442.length : Int) := of_decide_eq_true (by first | (with_reducible assumption) | assumption); obtain ⟨ad448, A448_0, c448_0, e448, hx448_0, hl448_0, hi448_0⟩ := at_L1 (Kd.S_reads' HO445.out).2.2 t438 p448 q448; cases e448; obtain ⟨ce448, hce448, hMe448, hcc448⟩ := Kd.S_get HO445.out [] t438 p448 (by first | exact q448 | exact of_decide_eq_true (by first | (with_reducible assumption) | assumption) | (have e_ := (Kd.S_reads' HO445.out).1; omega)); obtain ⟨ve448_0, rfl, ge448_0⟩ := hMe448; have hv448_0 := hcc448 0 _ rfl; rw [Nat.add_zero, show ((Kd.slice 3 (Kd.int .i64))).sz = 1 from rfl, Nat.mul_one] at hv448_0; replace hv448_0 := Option.some.inj (hv448_0.symm.trans hx448_0); rw [hv448_0] at ge448_0; have HL448_0 := zab.mk (show Kd.R (Kd.int .i64) 3 _ _ _ _ (rd_L1 t442 t438) from ge448_0); clear hv448_0 ge448_0; clear hcc448 hce448; have HR448_0 := zab.mk hi448_0; have HC448_0 := zab.mk hl448_0; clear hi448_0 hl448_0; replace p448 := eq_true p448; replace q448 := eq_true q448)))
          go_ret
          exact ⟨by first | rfl | (simp [zan, zam] <;> rfl) | (simp [*, zan, zam] <;> rfl), by repeat (first | (with_reducible first | exact HB.out | apply zac | apply zaa | apply zad) | exact HB.out)⟩
        ·replace c20 := Bool.eq_false_iff.mpr c20
         subst c20
         have H1 : (some false) = some r := by rw [if_neg (show ¬ (false = true) by decide)] at H; exact H
         clear H
         have H := H1
         clear H1
         obtain rfl := Option.some.inj H
         go_wp2_with (first | (go_at_call 24; (with_reducible refine (impl_WallList.calls _ _ t435 t442 true _ ?side1 ?side2 A15.out).mono ?_); (case side1 => repeat (first | exact (Kd.V_reads' HO_3.out).2.2 | (with_reducible refine Kd.C_alloc ?_ _) | (with_reducible refine Kd.C_drewN ?_ _) | (with_reducible refine Kd.C_drew ?_))); (case side2 => exact (Kd.V_reads' HO_3.out).2.1); rintro e w49 ⟨v444, rfl, ho0, hb⟩; have n0_ := zab.mk (Kd.V_elder' (by (with_reducible repeat (first | apply Kd.V_alloc | apply Kd.V_drewN | apply Kd.V_drew)); exact HO_3.out) (Kd.S_base ho0) hb); have n1_ := zab.mk (Kd.S_lower ho0 (zaj (by repeat (first | (with_reducible first | exact HB.out | apply zac | apply zaa | apply zad) | exact HB.out)))); have n2_ := zab.mk (zag (by repeat (first | (with_reducible first | exact HB.out | apply zac | apply zaa | apply zad) | exact HB.out)) hb); clear HO_3; clear HB; have HO_3 := n0_; have HO445 := n1_; have HB := n2_; clear n0_ n1_ n2_; (try clear hb); (try clear hb2); (try clear hk); (try clear hi); (try clear ho0)) | (go_at_call 45; (with_reducible refine (impl_CutMany.calls _ _ t435 t446 false _ ?side1 ?side2 A16.out).mono ?_); (case side1 => repeat (first | exact (Kd.V_reads' HO_3.out).2.2 | (with_reducible refine Kd.C_alloc ?_ _) | (with_reducible refine Kd.C_drewN ?_ _) | (with_reducible refine Kd.C_drew ?_))); (case side2 => exact (Kd.V_reads' HO_3.out).2.1); rintro e w50 ⟨rfl, hb⟩; have n0_ := zab.mk (Kd.V_below (by (with_reducible repeat (first | apply Kd.V_alloc | apply Kd.V_drewN | apply Kd.V_drew)); exact HO_3.out) hb); have n1_ := zab.mk (Kd.S_below (by (with_reducible repeat (first | apply Kd.S_alloc | apply Kd.S_drewN | apply Kd.S_drew)); exact HO445.out) hb); have n2_ := zab.mk (zag (by repeat (first | (with_reducible first | exact HB.out | apply zac | apply zaa | apply zad) | exact HB.out)) hb); clear HO_3; clear HO445; clear HB; have HO_3 := n0_; have HO445 := n1_; have HB := n2_; clear n0_ n1_ n2_; (try clear hb); (try clear hb2); (try clear hk); (try clear hi); obtain ⟨Ao51, co51, eo51⟩ := Kd.S_slice HO445.out; subst eo51; have p448 : 0 ≤ (t438 : Int) := of_decide_eq_true (by first | (with_reducible assumption) | assumption); have q448 : t438 < (t442.length : Int) := of_decide_eq_true (by first | (with_reducible assumption) | assumption); obtain ⟨ad448, A448_0, c448_0, e448, hx448_0, hl448_0, hi448_0⟩ := at_L1 (Kd.S_reads' HO445.out).2.2 t438 p448 q448; cases e448; obtain ⟨ce448, hce448, hMe448, hcc448⟩ := Kd.S_get HO445.out [] t438 p448 (by first | exact q448 | exact of_decide_eq_true (by first | (with_reducible assumption) | assumption) | (have e_ := (Kd.S_reads' HO445.out).1; omega)); obtain ⟨ve448_0, rfl, ge448_0⟩ := hMe448; have hv448_0 := hcc448 0 _ rfl; rw [Nat.add_zero, show ((Kd.slice 3 (Kd.int .i64))).sz = 1 from rfl, Nat.mul_one] at hv448_0; replace hv448_0 := Option.some.inj (hv448_0.symm.trans hx448_0); rw [hv448_0] at ge448_0; have HL448_0 := zab.mk (show Kd.R (Kd.int .i64) 3 _ _ _ _ (rd_L1 t442 t438) from ge448_0); clear hv448_0 ge448_0; clear hcc448 hce448; have HR448_0 := zab.mk hi448_0; have HC448_0 := zab.mk hl448_0; clear hi448_0 hl448_0; replace p448 := eq_true p448; replace q448 := eq_true q448))
         repeat (go_quiet (first | (go_at_call 24; (with_reducible refine (impl_WallList.calls _ _ t435 t442 true _ ?side1 ?side2 A15.out).mono ?_); (case side1 => repeat (first | exact (Kd.V_reads' HO_3.out).2.2 | (with_reducible refine Kd.C_alloc ?_ _) | (with_reducible refine Kd.C_drewN ?_ _) | (with_reducible refine Kd.C_drew ?_))); (case side2 => exact (Kd.V_reads' HO_3.out).2.1); rintro e w49 ⟨v444, rfl, ho0, hb⟩; have n0_ := zab.mk (Kd.V_elder' (by (with_reducible repeat (first | apply Kd.V_alloc | apply Kd.V_drewN | apply Kd.V_drew)); exact HO_3.out) (Kd.S_base ho0) hb); have n1_ := zab.mk (Kd.S_lower ho0 (zaj (by repeat (first | (with_reducible first | exact HB.out | apply zac | apply zaa | apply zad) | exact HB.out)))); have n2_ := zab.mk (zag (by repeat (first | (with_reducible first | exact HB.out | apply zac | apply zaa | apply zad) | exact HB.out)) hb); clear HO_3; clear HB; have HO_3 := n0_; have HO445 := n1_; have HB := n2_; clear n0_ n1_ n2_; (try clear hb); (try clear hb2); (try clear hk); (try clear hi); (try clear ho0)) | (go_at_call 45; (with_reducible refine (impl_CutMany.calls _ _ t435 t446 false _ ?side1 ?side2 A16.out).mono ?_); (case side1 => repeat (first | exact (Kd.V_reads' HO_3.out).2.2 | (with_reducible refine Kd.C_alloc ?_ _) | (with_reducible refine Kd.C_drewN ?_ _) | (with_reducible refine Kd.C_drew ?_))); (case side2 => exact (Kd.V_reads' HO_3.out).2.1); rintro e w50 ⟨rfl, hb⟩; have n0_ := zab.mk (Kd.V_below (by (with_reducible repeat (first | apply Kd.V_alloc | apply Kd.V_drewN | apply Kd.V_drew)); exact HO_3.out) hb); have n1_ := zab.mk (Kd.S_below (by (with_reducible repeat (first | apply Kd.S_alloc | apply Kd.S_drewN | apply Kd.S_drew)); exact HO445.out) hb); have n2_ := zab.mk (zag (by repeat (first | (with_reducible first | exact HB.out | apply zac | apply zaa | apply zad) | exact HB.out)) hb); clear HO_3; clear HO445; clear HB; have HO_3 := n0_; have HO445 := n1_; have HB := n2_; clear n0_ n1_ n2_; (try clear hb); (try clear hb2); (try clear hk); (try clear hi); obtain ⟨Ao51, co51, eo51⟩ := Kd.S_slice HO445.out; subst eo51; have p448 : 0 ≤ (t438 : Int) := of_decide_eq_true (by first | (with_reducible assumption) | assumption); have q448 : t438 < (t442.length : Int) := of_decide_eq_true (by first | (with_reducible assumption) | assumption); obtain ⟨ad448, A448_0, c448_0, e448, hx448_0, hl448_0, hi448_0⟩ := at_L1 (Kd.S_reads' HO445.out).2.2 t438 p448 q448; cases e448; obtain ⟨ce448, hce448, hMe448, hcc448⟩ := Kd.S_get HO445.out [] t438 p448 (by first | exact q448 | exact of_decide_eq_true (by first | (with_reducible assumption) | assumption) | (have e_ := (Kd.S_reads' HO445.out).1; omega)); obtain ⟨ve448_0, rfl, ge448_0⟩ := hMe448; have hv448_0 := hcc448 0 _ rfl; rw [Nat.add_zero, show ((Kd.slice 3 (Kd.int .i64))).sz = 1 from rfl, Nat.mul_one] at hv448_0; replace hv448_0 := Option.some.inj (hv448_0.symm.trans hx448_0); rw [hv448_0] at ge448_0; have HL448_0 := zab.mk (show Kd.R (Kd.int .i64) 3 _ _ _ _ (rd_L1 t442 t438) from ge448_0); clear hv448_0 ge448_0; clear hcc448 hce448; have HR448_0 := zab.mk hi448_0; have HC448_0 := zab.mk hl448_0; clear hi448_0 hl448_0; replace p448 := eq_true p448; replace q448 := eq_true q448)); try go_wp2_with (first | (go_at_call 24; (with_reducible refine (impl_WallList.calls _ _ t435 t442 true _ ?side1 ?side2 A15.out).mono ?_); (case side1 => repeat (first | exact (Kd.V_reads' HO_3.out).2.2 | (with_reducible refine Kd.C_alloc ?_ _) | (with_reducible refine Kd.C_drewN ?_ _) | (with_reducible refine Kd.C_drew ?_))); (case side2 => exact (Kd.V_reads' HO_3.out).2.1); rintro e w49 ⟨v444, rfl, ho0, hb⟩; have n0_ := zab.mk (Kd.V_elder' (by (with_reducible repeat (first | apply Kd.V_alloc | apply Kd.V_drewN | apply Kd.V_drew)); exact HO_3.out) (Kd.S_base ho0) hb); have n1_ := zab.mk (Kd.S_lower ho0 (zaj (by repeat (first | (with_reducible first | exact HB.out | apply zac | apply zaa | apply zad) | exact HB.out)))); have n2_ := zab.mk (zag (by repeat (first | (with_reducible first | exact HB.out | apply zac | apply zaa | apply zad) | exact HB.out)) hb); clear HO_3; clear HB; have HO_3 := n0_; have HO445 := n1_; have HB := n2_; clear n0_ n1_ n2_; (try clear hb); (try clear hb2); (try clear hk); (try clear hi); (try clear ho0)) | (go_at_call 45; (with_reducible refine (impl_CutMany.calls _ _ t435 t446 false _ ?side1 ?side2 A16.out).mono ?_); (case side1 => repeat (first | exact (Kd.V_reads' HO_3.out).2.2 | (with_reducible refine Kd.C_alloc ?_ _) | (with_reducible refine Kd.C_drewN ?_ _) | (with_reducible refine Kd.C_drew ?_))); (case side2 => exact (Kd.V_reads' HO_3.out).2.1); rintro e w50 ⟨rfl, hb⟩; have n0_ := zab.mk (Kd.V_below (by (with_reducible repeat (first | apply Kd.V_alloc | apply Kd.V_drewN | apply Kd.V_drew)); exact HO_3.out) hb); have n1_ := zab.mk (Kd.S_below (by (with_reducible repeat (first | apply Kd.S_alloc | apply Kd.S_drewN | apply Kd.S_drew)); exact HO445.out) hb); have n2_ := zab.mk (zag (by repeat (first | (with_reducible first | exact HB.out | apply zac | apply zaa | apply zad) | exact HB.out)) hb); clear HO_3; clear HO445; clear HB; have HO_3 := n0_; have HO445 := n1_; have HB := n2_; clear n0_ n1_ n2_; (try clear hb); (try clear hb2); (try clear hk); (try clear hi); obtain ⟨Ao51, co51, eo51⟩ := Kd.S_slice HO445.out; subst eo51; have p448 : 0 ≤ (t438 : Int) := of_decide_eq_true (by first | (with_reducible assumption) | assumption); have q448 : t438 < (t442.length : Int) := of_decide_eq_true (by first | (with_reducible assumption) | assumption); obtain ⟨ad448, A448_0, c448_0, e448, hx448_0, hl448_0, hi448_0⟩ := at_L1 (Kd.S_reads' HO445.out).2.2 t438 p448 q448; cases e448; obtain ⟨ce448, hce448, hMe448, hcc448⟩ := Kd.S_get HO445.out [] t438 p448 (by first | exact q448 | exact of_decide_eq_true (by first | (with_reducible assumption) | assumption) | (have e_ := (Kd.S_reads' HO445.out).1; omega)); obtain ⟨ve448_0, rfl, ge448_0⟩ := hMe448; have hv448_0 := hcc448 0 _ rfl; rw [Nat.add_zero, show ((Kd.slice 3 (Kd.int .i64))).sz = 1 from rfl, Nat.mul_one] at hv448_0; replace hv448_0 := Option.some.inj (hv448_0.symm.trans hx448_0); rw [hv448_0] at ge448_0; have HL448_0 := zab.mk (show Kd.R (Kd.int .i64) 3 _ _ _ _ (rd_L1 t442 t438) from ge448_0); clear hv448_0 ge448_0; clear hcc448 hce448; have HR448_0 := zab.mk hi448_0; have HC448_0 := zab.mk hl448_0; clear hi448_0 hl448_0; replace p448 := eq_true p448; replace q448 := eq_true q448)))
         go_ret
         exact ⟨by first | rfl | (simp [zan, zam] <;> rfl) | (simp [*, zan, zam] <;> rfl), by repeat (first | (with_reducible first | exact HB.out | apply zac | apply zaa | apply zad) | exact HB.out)⟩
       ·replace c19 := Bool.eq_false_iff.mpr c19
        subst c19
        have H1 : (some false) = some r := by rw [if_neg (show ¬ (false = true) by decide)] at H; exact H
        clear H
        have H := H1
        clear H1
        obtain rfl := Option.some.inj H
        go_wp2_with (first | (go_at_call 24; (with_reducible refine (impl_WallList.calls _ _ t435 t442 false _ ?side1 ?side2 A15.out).mono ?_); (case side1 => repeat (first | exact (Kd.V_reads' HO_3.out).2.2 | (with_reducible refine Kd.C_alloc ?_ _) | (with_reducible refine Kd.C_drewN ?_ _) | (with_reducible refine Kd.C_drew ?_))); (case side2 => exact (Kd.V_reads' HO_3.out).2.1); rintro e w52 ⟨v444, rfl, ho0, hb⟩; have n0_ := zab.mk (Kd.V_elder' (by (with_reducible repeat (first | apply Kd.V_alloc | apply Kd.V_drewN | apply Kd.V_drew)); exact HO_3.out) (Kd.S_base ho0) hb); have n1_ := zab.mk (Kd.S_lower ho0 (zaj (by repeat (first | (with_reducible first | exact HB.out | apply zac | apply zaa | apply zad) | exact HB.out)))); have n2_ := zab.mk (zag (by repeat (first | (with_reducible first | exact HB.out | apply zac | apply zaa | apply zad) | exact HB.out)) hb); clear HO_3; clear HB; have HO_3 := n0_; have HO445 := n1_; have HB := n2_; clear n0_ n1_ n2_; (try clear hb); (try clear hb2); (try clear hk); (try clear hi); (try clear ho0)) | (go_at_call 45; (with_reducible refine (impl_CutMany.calls _ _ t435 t446 t447 _ ?side1 ?side2 A16.out).mono ?_); (case side1 => repeat (first | exact (Kd.V_reads' HO_3.out).2.2 | (with_reducible refine Kd.C_alloc ?_ _) | (with_reducible refine Kd.C_drewN ?_ _) | (with_reducible refine Kd.C_drew ?_))); (case side2 => exact (Kd.V_reads' HO_3.out).2.1); rintro e w53 ⟨rfl, hb⟩; have n0_ := zab.mk (Kd.V_below (by (with_reducible repeat (first | apply Kd.V_alloc | apply Kd.V_drewN | apply Kd.V_drew)); exact HO_3.out) hb); have n1_ := zab.mk (Kd.S_below (by (with_reducible repeat (first | apply Kd.S_alloc | apply Kd.S_drewN | apply Kd.S_drew)); exact HO445.out) hb); have n2_ := zab.mk (zag (by repeat (first | (with_reducible first | exact HB.out | apply zac | apply zaa | apply zad) | exact HB.out)) hb); clear HO_3; clear HO445; clear HB; have HO_3 := n0_; have HO445 := n1_; have HB := n2_; clear n0_ n1_ n2_; (try clear hb); (try clear hb2); (try clear hk); (try clear hi); obtain ⟨Ao54, co54, eo54⟩ := Kd.S_slice HO445.out; subst eo54; have p448 : 0 ≤ (t438 : Int) := of_decide_eq_true (by first | (with_reducible assumption) | assumption); have q448 : t438 < (t442.length : Int) := of_decide_eq_true (by first | (with_reducible assumption) | assumption); obtain ⟨ad448, A448_0, c448_0, e448, hx448_0, hl448_0, hi448_0⟩ := at_L1 (Kd.S_reads' HO445.out).2.2 t438 p448 q448; cases e448; obtain ⟨ce448, hce448, hMe448, hcc448⟩ := Kd.S_get HO445.out [] t438 p448 (by first | exact q448 | exact of_decide_eq_true (by first | (with_reducible assumption) | assumption) | (have e_ := (Kd.S_reads' HO445.out).1; omega)); obtain ⟨ve448_0, rfl, ge448_0⟩ := hMe448; have hv448_0 := hcc448 0 _ rfl; rw [Nat.add_zero, show ((Kd.slice 3 (Kd.int .i64))).sz = 1 from rfl, Nat.mul_one] at hv448_0; replace hv448_0 := Option.some.inj (hv448_0.symm.trans hx448_0); rw [hv448_0] at ge448_0; have HL448_0 := zab.mk (show Kd.R (Kd.int .i64) 3 _ _ _ _ (rd_L1 t442 t438) from ge448_0); clear hv448_0 ge448_0; clear hcc448 hce448; have HR448_0 := zab.mk hi448_0; have HC448_0 := zab.mk hl448_0; clear hi448_0 hl448_0; replace p448 := eq_true p448; replace q448 := eq_true q448))
        repeat (go_quiet (first | (go_at_call 24; (with_reducible refine (impl_WallList.calls _ _ t435 t442 false _ ?side1 ?side2 A15.out).mono ?_); (case side1 => repeat (first | exact (Kd.V_reads' HO_3.out).2.2 | (with_reducible refine Kd.C_alloc ?_ _) | (with_reducible refine Kd.C_drewN ?_ _) | (with_reducible refine Kd.C_drew ?_))); (case side2 => exact (Kd.V_reads' HO_3.out).2.1); rintro e w52 ⟨v444, rfl, ho0, hb⟩; have n0_ := zab.mk (Kd.V_elder' (by (with_reducible repeat (first | apply Kd.V_alloc | apply Kd.V_drewN | apply Kd.V_drew)); exact HO_3.out) (Kd.S_base ho0) hb); have n1_ := zab.mk (Kd.S_lower ho0 (zaj (by repeat (first | (with_reducible first | exact HB.out | apply zac | apply zaa | apply zad) | exact HB.out)))); have n2_ := zab.mk (zag (by repeat (first | (with_reducible first | exact HB.out | apply zac | apply zaa | apply zad) | exact HB.out)) hb); clear HO_3; clear HB; have HO_3 := n0_; have HO445 := n1_; have HB := n2_; clear n0_ n1_ n2_; (try clear hb); (try clear hb2); (try clear hk); (try clear hi); (try clear ho0)) | (go_at_call 45; (with_reducible refine (impl_CutMany.calls _ _ t435 t446 t447 _ ?side1 ?side2 A16.out).mono ?_); (case side1 => repeat (first | exact (Kd.V_reads' HO_3.out).2.2 | (with_reducible refine Kd.C_alloc ?_ _) | (with_reducible refine Kd.C_drewN ?_ _) | (with_reducible refine Kd.C_drew ?_))); (case side2 => exact (Kd.V_reads' HO_3.out).2.1); rintro e w53 ⟨rfl, hb⟩; have n0_ := zab.mk (Kd.V_below (by (with_reducible repeat (first | apply Kd.V_alloc | apply Kd.V_drewN | apply Kd.V_drew)); exact HO_3.out) hb); have n1_ := zab.mk (Kd.S_below (by (with_reducible repeat (first | apply Kd.S_alloc | apply Kd.S_drewN | apply Kd.S_drew)); exact HO445.out) hb); have n2_ := zab.mk (zag (by repeat (first | (with_reducible first | exact HB.out | apply zac | apply zaa | apply zad) | exact HB.out)) hb); clear HO_3; clear HO445; clear HB; have HO_3 := n0_; have HO445 := n1_; have HB := n2_; clear n0_ n1_ n2_; (try clear hb); (try clear hb2); (try clear hk); (try clear hi); obtain ⟨Ao54, co54, eo54⟩ := Kd.S_slice HO445.out; subst eo54; have p448 : 0 ≤ (t438 : Int) := of_decide_eq_true (by first | (with_reducible assumption) | assumption); have q448 : t438 < (t442.length : Int) := of_decide_eq_true (by first | (with_reducible assumption) | assumption); obtain ⟨ad448, A448_0, c448_0, e448, hx448_0, hl448_0, hi448_0⟩ := at_L1 (Kd.S_reads' HO445.out).2.2 t438 p448 q448; cases e448; obtain ⟨ce448, hce448, hMe448, hcc448⟩ := Kd.S_get HO445.out [] t438 p448 (by first | exact q448 | exact of_decide_eq_true (by first | (with_reducible assumption) | assumption) | (have e_ := (Kd.S_reads' HO445.out).1; omega)); obtain ⟨ve448_0, rfl, ge448_0⟩ := hMe448; have hv448_0 := hcc448 0 _ rfl; rw [Nat.add_zero, show ((Kd.slice 3 (Kd.int .i64))).sz = 1 from rfl, Nat.mul_one] at hv448_0; replace hv448_0 := Option.some.inj (hv448_0.symm.trans hx448_0); rw [hv448_0] at ge448_0; have HL448_0 := zab.mk (show Kd.R (Kd.int .i64) 3 _ _ _ _ (rd_L1 t442 t438) from ge448_0); clear hv448_0 ge448_0; clear hcc448 hce448; have HR448_0 := zab.mk hi448_0; have HC448_0 := zab.mk hl448_0; clear hi448_0 hl448_0; replace p448 := eq_true p448; replace q448 := eq_true q448)); try go_wp2_with (first | (go_at_call 24; (with_reducible refine (impl_WallList.calls _ _ t435 t442 false _ ?side1 ?side2 A15.out).mono ?_); (case side1 => repeat (first | exact (Kd.V_reads' HO_3.out).2.2 | (with_reducible refine Kd.C_alloc ?_ _) | (with_reducible refine Kd.C_drewN ?_ _) | (with_reducible refine Kd.C_drew ?_))); (case side2 => exact (Kd.V_reads' HO_3.out).2.1); rintro e w52 ⟨v444, rfl, ho0, hb⟩; have n0_ := zab.mk (Kd.V_elder' (by (with_reducible repeat (first | apply Kd.V_alloc | apply Kd.V_drewN | apply Kd.V_drew)); exact HO_3.out) (Kd.S_base ho0) hb); have n1_ := zab.mk (Kd.S_lower ho0 (zaj (by repeat (first | (with_reducible first | exact HB.out | apply zac | apply zaa | apply zad) | exact HB.out)))); have n2_ := zab.mk (zag (by repeat (first | (with_reducible first | exact HB.out | apply zac | apply zaa | apply zad) | exact HB.out)) hb); clear HO_3; clear HB; have HO_3 := n0_; have HO445 := n1_; have HB := n2_; clear n0_ n1_ n2_; (try clear hb); (try clear hb2); (try clear hk); (try clear hi); (try clear ho0)) | (go_at_call 45; (with_reducible refine (impl_CutMany.calls _ _ t435 t446 t447 _ ?side1 ?side2 A16.out).mono ?_); (case side1 => repeat (first | exact (Kd.V_reads' HO_3.out).2.2 | (with_reducible refine Kd.C_alloc ?_ _) | (with_reducible refine Kd.C_drewN ?_ _) | (with_reducible refine Kd.C_drew ?_))); (case side2 => exact (Kd.V_reads' HO_3.out).2.1); rintro e w53 ⟨rfl, hb⟩; have n0_ := zab.mk (Kd.V_below (by (with_reducible repeat (first | apply Kd.V_alloc | apply Kd.V_drewN | apply Kd.V_drew)); exact HO_3.out) hb); have n1_ := zab.mk (Kd.S_below (by (with_reducible repeat (first | apply Kd.S_alloc | apply Kd.S_drewN | apply Kd.S_drew)); exact HO445.out) hb); have n2_ := zab.mk (zag (by repeat (first | (with_reducible first | exact HB.out | apply zac | apply zaa | apply zad) | exact HB.out)) hb); clear HO_3; clear HO445; clear HB; have HO_3 := n0_; have HO445 := n1_; have HB := n2_; clear n0_ n1_ n2_; (try clear hb); (try clear hb2); (try clear hk); (try clear hi); obtain ⟨Ao54, co54, eo54⟩ := Kd.S_slice HO445.out; subst eo54; have p448 : 0 ≤ (t438 : Int) := of_decide_eq_true (by first | (with_reducible assumption) | assumption); have q448 : t438 < (t442.length : Int) := of_decide_eq_true (by first | (with_reducible assumption) | assumption); obtain ⟨ad448, A448_0, c448_0, e448, hx448_0, hl448_0, hi448_0⟩ := at_L1 (Kd.S_reads' HO445.out).2.2 t438 p448 q448; cases e448; obtain ⟨ce448, hce448, hMe448, hcc448⟩ := Kd.S_get HO445.out [] t438 p448 (by first | exact q448 | exact of_decide_eq_true (by first | (with_reducible assumption) | assumption) | (have e_ := (Kd.S_reads' HO445.out).1; omega)); obtain ⟨ve448_0, rfl, ge448_0⟩ := hMe448; have hv448_0 := hcc448 0 _ rfl; rw [Nat.add_zero, show ((Kd.slice 3 (Kd.int .i64))).sz = 1 from rfl, Nat.mul_one] at hv448_0; replace hv448_0 := Option.some.inj (hv448_0.symm.trans hx448_0); rw [hv448_0] at ge448_0; have HL448_0 := zab.mk (show Kd.R (Kd.int .i64) 3 _ _ _ _ (rd_L1 t442 t438) from ge448_0); clear hv448_0 ge448_0; clear hcc448 hce448; have HR448_0 := zab.mk hi448_0; have HC448_0 := zab.mk hl448_0; clear hi448_0 hl448_0; replace p448 := eq_true p448; replace q448 := eq_true q448)))
        go_ret
        exact ⟨by first | rfl | (simp [zan, zam] <;> rfl) | (simp [*, zan, zam] <;> rfl), by repeat (first | (with_reducible first | exact HB.out | apply zac | apply zaa | apply zad) | exact HB.out)⟩
      ·rw [if_neg c18] at H
       exact absurd H (by simp)
     ·rw [if_neg c17] at H
      exact absurd H (by simp)
def laws_FnCutFirst.Pure : Prop := ∀ (l0 : List Int), l0.length ≤ maxLen → l0.length * 1 ≤ 140737488351232 → (∀ x ∈ l0, (Lit.int .u8 x).wf = true) → ∃ k, laws_FnCutFirst.f k l0 = some true
theorem laws_FnCutFirst.walk (P : laws_FnCutFirst.Pure) (a0 : Option Addr) (len0 cap0 : Nat) (z0 : List Int) (w : World) (w0 : (a0 = none ∧ len0 = 0 ∧ cap0 = 0 ∧ z0 = []) ∨ ∃ x, a0 = some x ∧ len0 ≤ cap0 ∧ cap0 ≤ maxLen ∧ z0.length = cap0 ∧ (∀ i, i < z0.length → w.cell? (x.add i) = some (.int .u8 (z0.getD i 0))) ∧ ∀ n ∈ z0, (Lit.int .u8 n).wf = true) (y0 : len0 * 1 ≤ 140737488351232) :
  Calls Try.prog 10 #[.slice a0 len0 cap0] w fun e w' => e = .returned (.bool true) ∧ Below w.heap.size w w' := by
 obtain ⟨l0, rfl, hr0, hm0, hw0, hc0⟩ := zce.ofRowC w0
 obtain ⟨k, h⟩ := P l0 hm0 y0 hw0
 refine (laws_FnCutFirst.calls k _ _ l0 true w (Kd.C_of_reads (d := (0 : Int)) (h1 := fun _ => rfl) hr0) hc0 h).mono ?_
 rintro e w' ⟨rfl, hd⟩
 exact ⟨rfl, hd⟩
end Go.Proofs.Ytaepgogafkmooaa.CA
namespace Go.Proofs.Ytaepgogafkmooaa.Hd
open Go.RowKit Go.PW.PrintWords Go.PW.PrintLast Go.PW.PrintMore Go.Proofs.Ytaepgogafkmooaa.PB
def givenB (p : List ByteArray) (a : Int) : Bool := match zcn p with
 | none => false
 | some (_, rs) => hasB rs a
theorem l1Given_ev (p : List ByteArray) (a : Int) (hp : smallP p) : Evs (fun k => spec_l1Given.f k p a) (givenB p a) := by
 have h1 := PlanIn_ev p hp
 rcases planB_cases p with ⟨e1, f1⟩ | ⟨e1, cs, rs, f1⟩
 ·rw [e1] at h1
  have : givenB p a = false := by unfold givenB; rw [f1]
  rw [this]
  refine Evs.bind h1 ?_
  refine Evs.congr (h := fun _ => some false) (fun k => ?_) (Evs.const _)
  rw [if_neg (by simp)]
 ·rw [e1] at h1
  have F := floor_facts f1
  have hg : givenB p a = hasB rs a := by unfold givenB; rw [f1]
  have hR := l1Rooms_ev p _ (gridOk_small F.canon.grid)
  rw [F.canon.max, ← F.rooms] at hR
  have h9 := F.ok.many
  rw [hg]
  refine Evs.bind h1 ?_
  refine Evs.congr (h := fun k => (spec_l1Rooms.f k p).bind fun t167 => ((spec_l6In.f a 0 (wrap64 (t167 - 1))).bind fun t168 => (some t168))) (fun k => ?_) (Evs.bind hR ?_)
  ·rw [if_pos rfl]
  ·refine Evs.congr (h := fun _ => some (hasB rs a)) (fun k => ?_) (Evs.const _)
   rw [zav (by omega) (by omega), l6In_f]
   simp only [Option.bind_some]
   unfold hasB
   congr 2
   congr 1
   exact propext ⟨fun h => by omega, fun h => by omega⟩
theorem floor_sum {p : List ByteArray} {cs : List (List Int)} {rs : List Rc} (h : zcn p = some (cs, rs)) : zcd rs = (p.length : Int) * (zaq (zao p) : Int) := by
 have F := floor_facts h
 rw [floorF_grid F.canon.grid] at h
 split at h
 ·rename_i hc
  rw [F.rooms]
  exact hc.2.1
 ·cases h
theorem count_conv (rows : List (List Int)) (wi : Nat) (x : Int) (b : Rc) : ∀ n, (∀ m, m < n → zco rows wi m = x → inBox b wi m) → zck rows wi x n = countB b wi n → ∀ m, m < n → inBox b wi m → zco rows wi m = x
 | 0, _, _, m, hm, _ => by omega
 | n + 1, h, he, m, hm, hb => by
  have hle := countN_le_B rows wi x b n (fun m hm => h m (by omega))
  simp only [zck, countB] at he
  by_cases hx : zco rows wi n = x
  ·rw [if_pos hx, if_pos (h n (by omega) hx)] at he
   rcases Nat.lt_or_eq_of_le (Nat.lt_succ_iff.1 hm) with h1 | h1
   ·exact count_conv rows wi x b n (fun m hm => h m (by omega)) (by omega) m h1 hb
   ·subst h1; exact hx
  ·rw [if_neg hx] at he
   by_cases hbn : inBox b wi n
   ·rw [if_pos hbn] at he; omega
   ·rw [if_neg hbn] at he
    rcases Nat.lt_or_eq_of_le (Nat.lt_succ_iff.1 hm) with h1 | h1
    ·exact count_conv rows wi x b n (fun m hm => h m (by omega)) he m h1 hb
    ·subst h1; exact absurd hb hbn
theorem room_cells {p : List ByteArray} {cs : List (List Int)} {rs : List Rc} (h : zcn p = some (cs, rs)) (i : Nat) (hi : i < rs.length) (r c : Nat) (hr : r < cs.length) (hc : c < zaq cs) :
  zbh cs r c = (i : Int) ↔ ((rs.getD i zcg).f0 ≤ r ∧ (r : Int) < (rs.getD i zcg).f0 + (rs.getD i zcg).f2 ∧ (rs.getD i zcg).f1 ≤ c ∧ (c : Int) < (rs.getD i zcg).f1 + (rs.getD i zcg).f3) := by
 have F := floor_facts h
 have hsum := floor_sum h
 have hrs := F.rooms
 have hfull := full_iff F.canon
 rw [← hrs, decide_eq_true hsum, List.all_eq_true] at hfull
 have hf := of_decide_eq_true (hfull i (List.mem_range.2 hi))
 rw [← hrs] at hf
 have hs := F.canon.shape
 obtain ⟨x, hx, hb, hbd⟩ := rooms_box hs i (by rw [← hrs]; exact hi)
 rw [zbn, ← hrs] at hb hbd
 have hiff : ∀ m, m < p.length * zaq (zao p) → (zco (zao p) (zaq (zao p)) m = (i : Int) ↔ zbh (zao p) (m / zaq (zao p)) (m % zaq (zao p)) = x) := fun m hm => by
  rw [F.canon.cell m hm]
  exact idx_iff (ordAll_nodup _) hx (cell_mem hs m (by rw [zbn]; exact hm))
 have hin : ∀ m, m < p.length * zaq (zao p) → zco (zao p) (zaq (zao p)) m = (i : Int) → inBox (rs.getD i zcg) (zaq (zao p)) m := fun m hm hv => hb.ins m hm ((hiff m hm).1 hv)
 have hcb := countB_all (rs.getD i zcg) p.length (zaq (zao p)) hbd
 have hconv := count_conv _ _ _ _ _ hin (hf.trans hcb.symm)
 rw [F.wide] at hin hconv
 have hm : r * zaq cs + c < p.length * zaq cs := by
  rw [F.len]
  have : (r + 1) * zaq cs ≤ cs.length * zaq cs := Nat.mul_le_mul_right _ hr
  rw [Nat.succ_mul] at this
  omega
 obtain ⟨d1, d2⟩ := divmod_of (r := r) hc
 have hcell : zco (zao p) (zaq cs) (r * zaq cs + c) = zbh cs r c := by
  unfold zco
  rw [d1, d2, F.nums, valAt_map F.ok.rect _ hr hc]
  omega
 have hib : inBox (rs.getD i zcg) (zaq cs) (r * zaq cs + c) ↔ ((rs.getD i zcg).f0 ≤ r ∧ (r : Int) < (rs.getD i zcg).f0 + (rs.getD i zcg).f2 ∧ (rs.getD i zcg).f1 ≤ c ∧ (c : Int) < (rs.getD i zcg).f1 + (rs.getD i zcg).f3) := by unfold inBox; rw [d1, d2]
 rw [← hcell, ← hib]
 exact ⟨hin _ hm, hconv _ hm⟩
structure Lil (p : List ByteArray) : Prop where
 high : p.length ≤ 100
 row : ∀ s ∈ p, s.size ≤ 100
theorem Lil.small {p : List ByteArray} (h : Lil p) : smallP p := ⟨by have := h.high; omega, fun s hs => by have := h.row s hs; omega⟩
theorem Mid.lil {p : List ByteArray} {wi : Nat} (h : Mid p wi) : Lil p := ⟨h.high, fun s hs => by rw [h.row s hs]; exact h.wide⟩
theorem bt_range (s : ByteArray) (j : Nat) (hj : j < s.size) : 0 ≤ bt s (j : Int) ∧ bt s (j : Int) ≤ 255 := by
 obtain ⟨x, hx⟩ : ∃ x, (bytesOf s)[j]? = some x := ⟨_, List.getElem?_eq_getElem (by rw [zbk]; omega)⟩
 have hr := bytesOf_range s x (List.mem_of_getElem? hx)
 rw [← bt_get hx] at hr
 exact hr
theorem roomsA_l1 (p : List ByteArray) (h : Lil p) (i : Nat) (s : ByteArray) (hs : p[i]? = some s) (hnext : ∀ v, 0 ≤ v → v ≤ 255 → ∃ r, 0 ≤ r ∧ r ≤ 255 ∧ Evs (fun k => spec_l1Rooms.l0 k p v ((i + 1 : Nat) : Int)) r) :
  ∀ m j v, j + m = s.size → 0 ≤ v → v ≤ 255 → ∃ r, 0 ≤ r ∧ r ≤ 255 ∧ Evs (fun k => spec_l1Rooms.l1 k p v (i : Int) (j : Int)) r := by
 have h6 := h.high
 have w6 := h.row s (List.mem_of_getElem? hs)
 have hi := (List.getElem?_eq_some_iff.1 hs).1
 intro m
 induction m with
 | zero =>
  intro j v hj v0 v1
  obtain ⟨r, r0, r1, hr⟩ := hnext v v0 v1
  refine ⟨r, r0, r1, Evs.step (fun k => ?_) hr⟩
  conv => lhs; unfold spec_l1Rooms.l1
  rw [if_pos (by omega), if_pos (by omega), zcm hs, if_neg (by omega), zbi (by omega)]
 | succ m ih =>
  intro j v hj v0 v1
  have hb := bt_range s j (by omega)
  obtain ⟨r, r0, r1, hr⟩ := ih (j + 1) (max v (bt s (j : Int) - 97 + 1)) (by omega) (by omega) (by omega)
  refine ⟨r, r0, r1, Evs.step (fun k => ?_) hr⟩
  conv => lhs; unfold spec_l1Rooms.l1
  rw [if_pos (by omega), if_pos (by omega), zcm hs, if_pos (by omega), if_pos (by omega), zav (x := bt s (j : Int)) (by omega) (by omega), zav (x := bt s (j : Int) - 97) (by omega) (by omega), zav (x := bt s (j : Int) - 97 + 1) (by omega) (by omega), zbi (by omega), mx_max]
theorem roomsA_l0 (p : List ByteArray) (h : Lil p) : ∀ m i v, i + m = p.length → 0 ≤ v → v ≤ 255 → ∃ r, 0 ≤ r ∧ r ≤ 255 ∧ Evs (fun k => spec_l1Rooms.l0 k p v (i : Int)) r := by
 have h6 := h.high
 intro m
 induction m with
 | zero =>
  intro i v hi v0 v1
  refine ⟨v, v0, v1, Evs.step (h := fun _ => some v) (fun k => ?_) (Evs.const _)⟩
  conv => lhs; unfold spec_l1Rooms.l0
  rw [if_neg (by omega)]
 | succ m ih =>
  intro i v hi v0 v1
  obtain ⟨s, hs⟩ : ∃ s, p[i]? = some s := ⟨_, List.getElem?_eq_getElem (by omega)⟩
  obtain ⟨r, r0, r1, hr⟩ := roomsA_l1 p h i s hs (fun v v0 v1 => ih (i + 1) v (by omega) v0 v1) s.size 0 v (by omega) v0 v1
  refine ⟨r, r0, r1, Evs.step (fun k => ?_) hr⟩
  conv => lhs; unfold spec_l1Rooms.l0
  rw [if_pos (by omega)]
  rfl
theorem l1Rooms_any (p : List ByteArray) (h : Lil p) : ∃ r, 0 ≤ r ∧ r ≤ 255 ∧ Evs (fun k => spec_l1Rooms.f k p) r := roomsA_l0 p h p.length 0 0 (by omega) (by omega) (by omega)
theorem bytesOf_putS (s : ByteArray) (l n : Nat) (c : Int) (h0 : 0 ≤ c) (h1 : c ≤ 255) : bytesOf (putS s l n c) = putN (bytesOf s) l n c := by
 unfold putS
 refine bytesOf_strOfNums _ fun x hx => ?_
 unfold putN at hx
 obtain ⟨i, hi, e⟩ := List.mem_iff_getElem.1 hx
 rw [List.getElem_mapIdx] at e
 subst e
 split
 ·exact ⟨h0, h1⟩
 ·exact bytesOf_range s _ (List.getElem_mem _)
def putB (t l h m : Nat) (r c : Nat) : Prop := (t ≤ r ∧ r < t + h) ∧ (l ≤ c ∧ c < l + m)
instance (t l h m r c : Nat) : Decidable (putB t l h m r c) := by unfold putB; exact inferInstance
theorem numsOf_put {p : List ByteArray} {wi : Nat} (hs : Small p wi) (t l h m : Nat) (x : Int) (h0 : 0 ≤ x) (h1 : x ≤ 255) : zao (putR p t h l m x) = zbq p.length wi (fun r c => if putB t l h m r c then x else zbh (zao p) r c) := by
 apply List.ext_getElem?
 intro r
 by_cases hr : r < p.length
 ·rw [gridOf_get hr]
  unfold zao putR
  rw [List.getElem?_map, List.getElem?_mapIdx, List.getElem?_eq_getElem hr]
  simp only [Option.map_some]
  congr 1
  have hsz := hs.row _ (List.getElem_mem hr)
  have hrow : ∀ c, c < wi → (bytesOf p[r])[c]? = some (zbh (zao p) r c) := fun c hc => by
   obtain ⟨row, e1, e2⟩ := valAt_get hs.rect (by rw [zbn]; exact hr) hc
   unfold zao at e1
   rw [List.getElem?_map, List.getElem?_eq_getElem hr] at e1
   have e1 := Option.some.inj e1
   rw [e1]
   exact e2
  apply List.ext_getElem?
  intro c
  by_cases hc : c < wi
  ·rw [List.getElem?_map, List.getElem?_range hc]
   simp only [Option.map_some]
   by_cases ht : t ≤ r ∧ r < t + h
   ·rw [if_pos ht, bytesOf_putS _ _ _ _ h0 h1]
    unfold putN
    rw [List.getElem?_mapIdx, hrow c hc]
    simp only [Option.map_some]
    congr 1
    by_cases hl : l ≤ c ∧ c < l + m
    ·rw [if_pos hl, if_pos ⟨ht, hl⟩]
    ·rw [if_neg hl, if_neg (fun z => hl z.2)]; rfl
   ·rw [if_neg ht, if_neg (fun z => ht z.1)]
    exact hrow c hc
  ·rw [List.getElem?_eq_none (by
    split
    ·rw [bytesOf_putS _ _ _ _ h0 h1, putN_length, zbk]; omega
    ·rw [zbk]; omega), List.getElem?_eq_none (by simp; omega)]
 ·rw [List.getElem?_eq_none (by simp [zao, putR]; omega), List.getElem?_eq_none (by rw [zbt]; omega)]
theorem put_f {p : List ByteArray} {wi : Nat} (hs : Small p wi) (t l h m x : Int) (t0 : 0 ≤ t) (l0 : 0 ≤ l) (h0 : 0 ≤ h) (m0 : 0 ≤ m) (th : t + h ≤ p.length) (lm : l + m ≤ wi) (x0 : 0 ≤ x) (x1 : x ≤ 255) : spec_l1Put.f p t l h m x = some (putR p t.toNat h.toNat l.toNat m.toNat x) := by
 have hh := hs.high
 have hw := hs.wide
 have hall : (p.all fun s => decide (l + m ≤ s.size) && decide (s.size ≤ 1048576)) = true := by
  rw [List.all_eq_true]
  intro s hss
  rw [hs.row s hss, decide_eq_true lm, decide_eq_true (show wi ≤ 1048576 by omega)]
  rfl
 unfold spec_l1Put.f
 rw [if_pos]
 unfold putOk
 rw [hall, decide_eq_true t0, decide_eq_true l0, decide_eq_true h0, decide_eq_true m0, decide_eq_true x0, decide_eq_true x1, decide_eq_true (show p.length ≤ 1048576 by omega), decide_eq_true th, decide_eq_true (show l ≤ 1048576 by omega), decide_eq_true (show m ≤ 1048576 by omega)]
 rfl
theorem small_put {p : List ByteArray} {wi : Nat} (hs : Small p wi) (t h l m : Nat) (x : Int) : smallP (putR p t h l m x) := by
 have hh := hs.high
 have hw := hs.wide
 refine ⟨by rw [putR_length]; omega, fun s hss => ?_⟩
 unfold putR at hss
 obtain ⟨i, hi, e⟩ := List.mem_iff_getElem.1 hss
 rw [List.length_mapIdx] at hi
 rw [List.getElem_mapIdx] at e
 have hr := hs.row _ (List.getElem_mem hi)
 subst e
 split
 ·have hl := zbk p[i]
  show (List.map _ (putN (bytesOf p[i]) l m x)).toArray.size ≤ _
  simp [putN_length]
  omega
 ·rw [hr]; omega
theorem put_done {p : List ByteArray} {cs : List (List Int)} {rs : List Rc} (F : PlanFacts p cs rs) (t h l m : Nat) (x : Int) (x0 : 97 ≤ x) (x1 : x ≤ 122) (f : Int → Int) (hf : ∀ S, InjOn f S) (g : Nat → Nat → Int) (hg : ∀ r c, r < cs.length → c < zaq cs → f (g r c) = if putB t l h m r c then x else 97 + zbh cs r c) : doneF (putR p t h l m x) = planF (zbq cs.length (zaq cs) g) := by
 have hsm := gridOk_small F.canon.grid
 rw [F.wide] at hsm
 have hn := numsOf_put hsm t l h m x (by omega) (by omega)
 have hv : zao (putR p t h l m x) = mapG f (zbq cs.length (zaq cs) g) := by
  rw [hn, mapG_gridOf, F.len]
  refine gridOf_congr fun r c hr hc => ?_
  rw [hg r c hr hc, F.nums, valAt_map F.ok.rect _ hr hc]
 have hok : (putR p t h l m x).all okText = true := by
  rw [List.all_eq_true]
  intro s hs
  refine okText_of fun y hy => ?_
  have hm : bytesOf s ∈ zao (putR p t h l m x) := List.mem_map.2 ⟨s, hs, rfl⟩
  rw [hn, F.len] at hm
  unfold zbq at hm
  obtain ⟨i, hi, e⟩ := List.mem_map.1 hm
  rw [← e] at hy
  obtain ⟨j, hj, rfl⟩ := List.mem_map.1 hy
  have hi := List.mem_range.1 hi
  have hj := List.mem_range.1 hj
  have h1 := valAt_range F.ok i j hi hj
  have h2 := F.ok.many
  dsimp only
  rw [F.nums, valAt_map F.ok.rect _ hi hj]
  split <;> omega
 unfold doneF
 rw [if_pos hok, hv]
 exact plan_map (hf _)
def isH (letter : ByteArray) : Bool := letter.toList == [104]
def isV (letter : ByteArray) : Bool := letter.toList == [118]
theorem isHV {letter : ByteArray} (h : isH letter = true) : isV letter = false := by
 unfold isH at h
 unfold isV
 rw [beq_iff_eq] at h
 rw [h]
 rfl
def behindB (b : Rc) (letter : ByteArray) (k : Int) (r c : Nat) : Bool := (isH letter && decide (b.f0 + k ≤ r)) || (isV letter && decide (b.f1 + k ≤ c))
def splitG (cs : List (List Int)) (rs : List Rc) (room : Int) (letter : ByteArray) (k : Int) (r c : Nat) : Int :=
 if zbh cs r c = room ∧ behindB (rs.getD room.toNat zcg) letter k r c = true then rs.length else zbh cs r c
def splitF (p : List ByteArray) (room : Int) (letter : ByteArray) (k : Int) : List ByteArray × Bool := match zcn p with
 | none => ([], false)
 | some (cs, rs) =>
  if hasB rs room && (isH letter || isV letter) then
   if 1 ≤ k ∧ k < (if isH letter then (rs.getD room.toNat zcg).f2 else (rs.getD room.toNat zcg).f3) then planF (zbq cs.length (zaq cs) (splitG cs rs room letter k)) else ([], false)
  else ([], false)
end Go.Proofs.Ytaepgogafkmooaa.Hd
namespace Go.Proofs.Ytaepgogafkmooaa.Hd
open Go.RowKit Go.PW.PrintWords Go.PW.PrintLast Go.PW.PrintMore Go.Proofs.Ytaepgogafkmooaa.PB Go.Proofs.Ytaepgogafkmooaa.SM
theorem isH_iff (t : ByteArray) : isH t = true ↔ t.toList = ([104] : List UInt8) := by unfold isH; rw [beq_iff_eq]
theorem isV_iff (t : ByteArray) : isV t = true ↔ t.toList = ([118] : List UInt8) := by unfold isV; rw [beq_iff_eq]
def newName (n : Nat) (x : Int) : Int := if x = n then 122 else if x = 25 then 97 + n else 97 + x
theorem newName_inj (n : Nat) (S : Int → Prop) : InjOn (newName n) S := by
 intro a b _ _ e
 unfold newName at e
 by_cases h1 : a = n <;> by_cases h2 : a = 25 <;> by_cases h3 : b = n <;> by_cases h4 : b = 25 <;> simp only [h1, h2, h3, h4, if_true, if_false] at e <;> omega
theorem split_j1_false (p : List ByteArray) (k a b c d : Int) : Evs (fun q => spec_PlanSplit.j1 q p k a b c d false) ([], false) := by
 refine Evs.step (h := fun _ => some ([], false)) (fun q => ?_) (Evs.const _)
 show spec_PlanSplit.j1 (q + 1) p k a b c d false = _
 simp only [spec_PlanSplit.j1, Bool.false_eq_true, if_false, l1None_f, Option.bind_some]
theorem split_j0_none (p : List ByteArray) (t : ByteArray) (hV : isV t = false) (k a b c d : Int) : Evs (fun q => spec_PlanSplit.j0 q p t k a b c d false) ([], false) := by
 have hv : ¬ t.toList = ([118] : List UInt8) := fun h => by rw [(isV_iff t).2 h] at hV; cases hV
 refine Evs.step (h := fun q => spec_PlanSplit.j1 q p k a b c d false) (fun q => ?_) (split_j1_false p k a b c d)
 show spec_PlanSplit.j0 (q + 1) p t k a b c d false = _
 simp only [spec_PlanSplit.j0, Bool.false_eq_true, if_false, if_neg hv]
theorem split_none {p : List ByteArray} (a : Int) (t : ByteArray) (k : Int) : Evs (fun q => if (false = true) then ((spec_l1Room.f q p a).bind fun bt205 => (if t.toList = ([104] : List UInt8) then ((spec_l6In.f k 1 (wrap64 (bt205.2.2.1 - 1))).bind fun t209 => (spec_PlanSplit.j0 q p t k bt205.1 bt205.2.1 bt205.2.2.1 bt205.2.2.2 t209)) else (spec_PlanSplit.j0 q p t k bt205.1 bt205.2.1 bt205.2.2.1 bt205.2.2.2 false))) else ((spec_l1None.f).bind fun bt201 => (some (bt201.1, bt201.2)))) ([], false) := by
 refine Evs.congr (h := fun _ => some ([], false)) (fun q => ?_) (Evs.const _)
 rw [if_neg (by simp), l1None_f]
 rfl
theorem split_val {p : List ByteArray} {cs : List (List Int)} {rs : List Rc} (F : PlanFacts p cs rs) (room : Int) (t : ByteArray) (k : Int) (T H L M : Nat) (hcell : ∀ r c, r < cs.length → c < zaq cs → ((zbh cs r c = room ∧ behindB (rs.getD room.toNat zcg) t k r c = true) ↔ putB T L H M r c)) :
  doneF (putR p T H L M 122) = planF (zbq cs.length (zaq cs) (splitG cs rs room t k)) := by
 have h9 := F.ok.many
 refine put_done F T H L M 122 (by omega) (by omega) (newName rs.length) (newName_inj rs.length) (splitG cs rs room t k) (fun r c hr hc => ?_)
 have hc2 := hcell r c hr hc
 have hv := valAt_range F.ok r c hr hc
 unfold splitG
 by_cases h : zbh cs r c = room ∧ behindB (rs.getD room.toNat zcg) t k r c = true
 ·rw [if_pos h, if_pos (hc2.1 h)]
  unfold newName
  rw [if_pos rfl]
 ·rw [if_neg h, if_neg (fun z => h (hc2.2 z))]
  unfold newName
  rw [if_neg (by omega), if_neg (by omega)]
theorem PlanSplit_ev (p : List ByteArray) (a : Int) (t : ByteArray) (k : Int) (hp : smallP p) : Evs (fun q => spec_PlanSplit.f q p a t k) (splitF p a t k) := by
 have ha := l1Given_ev p a hp
 cases hF : zcn p with
 | none =>
  have e1 : givenB p a = false := by unfold givenB; rw [hF]
  have e2 : splitF p a t k = ([], false) := by unfold splitF; rw [hF]
  rw [e1] at ha
  rw [e2]
  exact Evs.bind ha (split_none a t k)
 | some z =>
  obtain ⟨cs, rs⟩ := z
  have e1 : givenB p a = hasB rs a := by unfold givenB; rw [hF]
  have e2 : splitF p a t k = if hasB rs a && (isH t || isV t) then
   if 1 ≤ k ∧ k < (if isH t then (rs.getD a.toNat zcg).f2 else (rs.getD a.toNat zcg).f3) then planF (zbq cs.length (zaq cs) (splitG cs rs a t k)) else ([], false)
   else ([], false) := by unfold splitF; rw [hF]
  rw [e1] at ha
  rw [e2]
  cases hA : hasB rs a with
  | false =>
   rw [hA] at ha
   exact Evs.bind ha (split_none a t k)
  | true =>
   rw [hA] at ha
   have F := floor_facts hF
   have hsm := gridOk_small F.canon.grid
   have hL := F.ok.many
   have o1 := F.ok.h1
   have o6 := F.ok.h6
   have q1 := F.len
   unfold hasB at hA
   rw [Bool.and_eq_true, decide_eq_true_eq, decide_eq_true_eq] at hA
   obtain ⟨i, rfl⟩ := Int.eq_ofNat_of_zero_le hA.1
   have hi : i < rs.length := by omega
   have hR := l1Room_ev p _ hsm (by omega) (i : Int)
   obtain ⟨c1, c2, c3⟩ := F.canon.room i (by rw [← F.rooms]; exact hi)
   rw [← F.rooms] at c1 c3
   rw [c1] at hR
   have hcell := room_cells hF i hi
   obtain ⟨b1, b2, b3, b4, b5, b6⟩ := c3
   have w6 := hsm.wide
   rw [F.wide] at b6 w6
   rw [F.wide] at hsm
   rw [Int.toNat_natCast]
   have hvalue := fun T H L M h => split_val F (i : Int) t k T H L M h
   rw [Int.toNat_natCast] at hvalue
   unfold behindB at hvalue
   generalize rs.getD i zcg = bx at *
   refine Evs.bind ha ?_
   refine Evs.congr (h := fun q => (spec_l1Room.f q p (i : Int)).bind fun bt205 => (if t.toList = ([104] : List UInt8) then ((spec_l6In.f k 1 (wrap64 (bt205.2.2.1 - 1))).bind fun t209 => (spec_PlanSplit.j0 q p t k bt205.1 bt205.2.1 bt205.2.2.1 bt205.2.2.2 t209)) else (spec_PlanSplit.j0 q p t k bt205.1 bt205.2.1 bt205.2.2.1 bt205.2.2.2 false))) (fun q => by rw [if_pos rfl]) (Evs.bind hR ?_)
   dsimp only
   cases hH : isH t with
   | true =>
    have hV := isHV hH
    rw [hV] at hvalue
    refine Evs.pos ((isH_iff t).1 hH) ?_
    rw [zav (x := bx.f2 - 1) (by omega) (by omega)]
    refine Evs.bindS (l6In_f k 1 (bx.f2 - 1)) ?_
    simp only [Bool.true_or, Bool.and_self, if_true]
    by_cases hk : 1 ≤ k ∧ k < bx.f2
    ·rw [if_pos hk, show (decide (1 ≤ k) && decide (k ≤ bx.f2 - 1)) = true by rw [Bool.and_eq_true, decide_eq_true_eq, decide_eq_true_eq]; omega]
     have hput := put_f hsm (bx.f0 + k) bx.f1 (bx.f2 - k) bx.f3 122 (by omega) b2 (by omega) (by omega) (by omega) b6 (by omega) (by omega)
     have hd := hvalue (bx.f0 + k).toNat (bx.f2 - k).toNat bx.f1.toNat bx.f3.toNat (fun r c hr hc => by
      have hc2 := hcell r c hr hc
      rw [hc2, hH]
      simp only [Bool.true_and, Bool.false_and, Bool.or_false, decide_eq_true_eq]
      unfold putB
      omega)
     have hdn := l1Done_ev _ (small_put hsm (bx.f0 + k).toNat (bx.f2 - k).toNat bx.f1.toNat bx.f3.toNat 122)
     rw [hd] at hdn
     refine Evs.step (h := fun q => (spec_l1Put.f p (wrap64 (bx.f0 + k)) bx.f1 (wrap64 (bx.f2 - k)) bx.f3 122).bind fun t210 => ((spec_l1Done.f q t210).bind fun bt213 => (some (bt213.1, bt213.2)))) (fun q => ?_) ?_
     ·show spec_PlanSplit.j0 (q + 1) p t k bx.f0 bx.f1 bx.f2 bx.f3 true = _
      simp only [spec_PlanSplit.j0, if_true]
     ·rw [zav (x := bx.f0 + k) (by omega) (by omega), zav (x := bx.f2 - k) (by omega) (by omega), hput]
      simp only [Option.bind_some]
      exact Evs.bind hdn (Evs.const _)
    ·rw [if_neg hk, show (decide (1 ≤ k) && decide (k ≤ bx.f2 - 1)) = false by rw [← Bool.not_eq_true, Bool.and_eq_true, decide_eq_true_eq, decide_eq_true_eq]; omega]
     exact split_j0_none p t hV k _ _ _ _
   | false =>
    have hnh : ¬ t.toList = ([104] : List UInt8) := fun h => by rw [(isH_iff t).2 h] at hH; cases hH
    refine Evs.neg hnh ?_
    cases hV : isV t with
    | false =>
     simp only [Bool.false_or, Bool.and_false, Bool.false_eq_true, if_false]
     exact split_j0_none p t hV k _ _ _ _
    | true =>
     rw [hV] at hvalue
     simp only [Bool.false_or, Bool.and_self, if_true, Bool.false_eq_true, if_false]
     refine Evs.step (h := fun q => (spec_l6In.f k 1 (wrap64 (bx.f3 - 1))).bind fun t217 => (spec_PlanSplit.j1 q p k bx.f0 bx.f1 bx.f2 bx.f3 t217)) (fun q => ?_) ?_
     ·show spec_PlanSplit.j0 (q + 1) p t k bx.f0 bx.f1 bx.f2 bx.f3 false = _
      simp only [spec_PlanSplit.j0, Bool.false_eq_true, if_false, if_pos ((isV_iff t).1 hV)]
     rw [zav (x := bx.f3 - 1) (by omega) (by omega)]
     refine Evs.bindS (l6In_f k 1 (bx.f3 - 1)) ?_
     by_cases hk : 1 ≤ k ∧ k < bx.f3
     ·rw [if_pos hk, show (decide (1 ≤ k) && decide (k ≤ bx.f3 - 1)) = true by rw [Bool.and_eq_true, decide_eq_true_eq, decide_eq_true_eq]; omega]
      have hput := put_f hsm bx.f0 (bx.f1 + k) bx.f2 (bx.f3 - k) 122 b1 (by omega) (by omega) (by omega) b5 (by omega) (by omega) (by omega)
      have hd := hvalue bx.f0.toNat bx.f2.toNat (bx.f1 + k).toNat (bx.f3 - k).toNat (fun r c hr hc => by
       have hc2 := hcell r c hr hc
       rw [hc2, hH]
       simp only [Bool.true_and, Bool.false_and, Bool.false_or, decide_eq_true_eq]
       unfold putB
       omega)
      have hdn := l1Done_ev _ (small_put hsm bx.f0.toNat bx.f2.toNat (bx.f1 + k).toNat (bx.f3 - k).toNat 122)
      rw [hd] at hdn
      refine Evs.step (h := fun q => (spec_l1Put.f p bx.f0 (wrap64 (bx.f1 + k)) bx.f2 (wrap64 (bx.f3 - k)) 122).bind fun t218 => ((spec_l1Done.f q t218).bind fun bt221 => (some (bt221.1, bt221.2)))) (fun q => ?_) ?_
      ·show spec_PlanSplit.j1 (q + 1) p k bx.f0 bx.f1 bx.f2 bx.f3 true = _
       simp only [spec_PlanSplit.j1, if_true]
      ·rw [zav (x := bx.f1 + k) (by omega) (by omega), zav (x := bx.f3 - k) (by omega) (by omega), hput]
       simp only [Option.bind_some]
       exact Evs.bind hdn (Evs.const _)
     ·rw [if_neg hk, show (decide (1 ≤ k) && decide (k ≤ bx.f3 - 1)) = false by rw [← Bool.not_eq_true, Bool.and_eq_true, decide_eq_true_eq, decide_eq_true_eq]; omega]
      exact split_j1_false p k _ _ _ _
end Go.Proofs.Ytaepgogafkmooaa.Hd
namespace Go.Proofs.Ytaepgogafkmooaa.Hd
open Go.RowKit Go.PW.PrintWords Go.PW.PrintLast Go.PW.PrintMore Go.Proofs.Ytaepgogafkmooaa.PB
def Conv (hi wi : Nat) (g : Nat → Nat → Int) : Prop := ∀ r c r' c' i j, r < hi → c < wi → r' < hi → c' < wi → g r c = g r' c' → min r r' ≤ i → i ≤ max r r' → min c c' ≤ j → j ≤ max c c' → g i j = g r c
def ConvG (rows : List (List Int)) : Prop := Conv rows.length (zaq rows) (zbh rows)
theorem Conv.congr {hi wi : Nat} {g g' : Nat → Nat → Int} (h : Conv hi wi g) (e : ∀ r c, r < hi → c < wi → g r c = g' r c) : Conv hi wi g' := by
 intro r c r' c' i j h1 h2 h3 h4 hv k1 k2 k3 k4
 rw [← e i j (by omega) (by omega), ← e r c h1 h2]
 exact h r c r' c' i j h1 h2 h3 h4 (by rw [e r c h1 h2, e r' c' h3 h4]; exact hv) k1 k2 k3 k4
theorem Conv.map {hi wi : Nat} {g : Nat → Nat → Int} (h : Conv hi wi g) (f : Int → Int) (hf : ∀ r c r' c', r < hi → c < wi → r' < hi → c' < wi → f (g r c) = f (g r' c') → g r c = g r' c') : Conv hi wi (fun r c => f (g r c)) := by
 intro r c r' c' i j h1 h2 h3 h4 hv k1 k2 k3 k4
 show f _ = f _
 rw [h r c r' c' i j h1 h2 h3 h4 (hf _ _ _ _ h1 h2 h3 h4 hv) k1 k2 k3 k4]
theorem names_canon {rows : List (List Int)} (hs : zbr rows = true) (h9 : (zaz rows).length ≤ 9) : Canon (zbu (canon rows)) := by
 have hn := names_nums hs
 have hinj := names_inj rows
 have hL := rooms_len hs
 refine ⟨?_, ?_⟩
 ·unfold gridOk
  rw [Bool.and_eq_true, hn, mapG_shape]
  refine ⟨hs, ?_⟩
  rw [List.all_eq_true]
  intro s hss
  obtain ⟨r, hr, rfl⟩ := List.mem_map.1 hss
  unfold okText
  rw [bytesOf_rowText r (canon_val hs r hr), List.all_eq_true]
  intro x hx
  obtain ⟨y, hy, rfl⟩ := List.mem_map.1 hx
  unfold canon canonL at hr
  obtain ⟨r0, hr0, rfl⟩ := List.mem_map.1 hr
  obtain ⟨z, hz, rfl⟩ := List.mem_map.1 hy
  have h3 : (zcb rows).idxOf z < (zcb rows).length := List.idxOf_lt_length_of_mem (ordL_mem rows.flatten [] z (List.mem_flatten.2 ⟨r0, hr0, hz⟩))
  simp only [okLetter, Bool.not_eq_true', Bool.or_eq_false_iff, decide_eq_false_iff_not]
  omega
 ·unfold namesOf
  rw [hn, canon_map hinj]
theorem text_length (rows : List (List Int)) : (zbu (canon rows)).length = rows.length := by simp [zbu, canon, canonL]
theorem canon_length (rows : List (List Int)) : (canon rows).length = rows.length := by simp [canon, canonL]
theorem names_floor {rows : List (List Int)} (hs : zbr rows = true) (h9 : (zaz rows).length ≤ 9) : zcn (zbu (canon rows)) = if zcd (zaz rows) = (rows.length : Int) * (zaq rows : Int) then some (canon rows, zaz rows) else none := by
 have hC := names_canon hs h9
 have hn := names_nums hs
 have hinj := names_inj rows
 rw [floorF_grid hC.grid, hn, rooms_map hs hinj, mapG_wide, text_length, canon_map hinj]
 by_cases h : zcd (zaz rows) = (rows.length : Int) * (zaq rows : Int)
 ·rw [if_pos h, if_pos ⟨h9, h, hC.names⟩]
 ·rw [if_neg h, if_neg (fun z => h z.2.1)]
theorem canon_wide (rows : List (List Int)) : zaq (canon rows) = zaq rows := by
 unfold zaq canon canonL
 cases rows with
 | nil => rfl
 | cons a r => simp
theorem canon_at {rows : List (List Int)} (hs : zbr rows = true) {r c : Nat} (hr : r < rows.length) (hc : c < zaq rows) : zbh (canon rows) r c = ((zcb rows).idxOf (zbh rows r c) : Int) := by
 have e := congrArg (fun R => zbh R r c) (rect_map (zcr hs) (fun x => ((zcb rows).idxOf x : Int)))
 exact Eq.trans e (valAt_gridOf hr hc)
theorem idxOf_inj {L : List Int} {x y : Int} (hx : x ∈ L) (hy : y ∈ L) (e : L.idxOf x = L.idxOf y) : x = y := by
 have h1 := List.idxOf_lt_length_of_mem hx
 have h2 := List.idxOf_lt_length_of_mem hy
 have e1 : L[L.idxOf x] = x := List.getElem_idxOf h1
 have e2 : L[L.idxOf y] = y := List.getElem_idxOf h2
 rw [← e1, ← e2]
 congr 1
theorem val_ord {rows : List (List Int)} (hs : zbr rows = true) {r c : Nat} (hr : r < rows.length) (hc : c < zaq rows) : zbh rows r c ∈ zcb rows := ordL_mem rows.flatten [] _ (val_mem (zcr hs) hr hc)
theorem canon_eq_iff {rows : List (List Int)} (hs : zbr rows = true) {r c r' c' : Nat} (hr : r < rows.length) (hc : c < zaq rows) (hr' : r' < rows.length) (hc' : c' < zaq rows) : zbh (canon rows) r c = zbh (canon rows) r' c' ↔ zbh rows r c = zbh rows r' c' := by
 rw [canon_at hs hr hc, canon_at hs hr' hc']
 constructor
 ·exact fun h => idxOf_inj (val_ord hs hr hc) (val_ord hs hr' hc') (by omega)
 ·intro h
  rw [h]
theorem conv_canon {rows : List (List Int)} (hs : zbr rows = true) : ConvG (canon rows) ↔ ConvG rows := by
 unfold ConvG
 rw [canon_length, canon_wide]
 constructor
 ·intro h r c r' c' i j h1 h2 h3 h4 hv k1 k2 k3 k4
  exact (canon_eq_iff hs (by omega) (by omega) h1 h2).1 (h r c r' c' i j h1 h2 h3 h4 ((canon_eq_iff hs h1 h2 h3 h4).2 hv) k1 k2 k3 k4)
 ·intro h r c r' c' i j h1 h2 h3 h4 hv k1 k2 k3 k4
  exact (canon_eq_iff hs (by omega) (by omega) h1 h2).2 (h r c r' c' i j h1 h2 h3 h4 ((canon_eq_iff hs h1 h2 h3 h4).1 hv) k1 k2 k3 k4)
theorem countN_conv (rows : List (List Int)) (wi : Nat) (x : Int) (b : Rc) : ∀ n, (∀ m, m < n → (zco rows wi m = x ↔ inBox b wi m)) → zck rows wi x n = countB b wi n
 | 0, _ => rfl
 | n + 1, h => by
  have ih := countN_conv rows wi x b n (fun m hm => h m (by omega))
  simp only [zck, countB]
  by_cases hx : zco rows wi n = x
  ·rw [if_pos hx, if_pos ((h n (by omega)).1 hx), ih]
  ·rw [if_neg hx, if_neg (fun z => hx ((h n (by omega)).2 z)), ih]
theorem conv_sum {rows : List (List Int)} (hs : zbr rows = true) (h9 : (zaz rows).length ≤ 9) : zcd (zaz rows) = (rows.length : Int) * (zaq rows : Int) ↔ ConvG rows := by
 have hfl := names_floor hs h9
 constructor
 ·intro h
  rw [if_pos h] at hfl
  have F := floor_facts hfl
  rw [← conv_canon hs]
  intro r c r' c' i j h1 h2 h3 h4 hv k1 k2 k3 k4
  have hv1 := valAt_range F.ok r c h1 h2
  obtain ⟨q, hq⟩ := Int.eq_ofNat_of_zero_le hv1.1
  have hq2 : q < (zaz rows).length := by omega
  have hc := fun r c hr hc => room_cells hfl q hq2 r c hr hc
  have a1 := (hc r c h1 h2).1 hq
  have a2 := (hc r' c' h3 h4).1 (by rw [← hv]; exact hq)
  rw [hq]
  exact (hc i j (by omega) (by omega)).2 (by omega)
 ·intro h
  have hC := names_canon hs h9
  have hn := names_nums hs
  have hinj := names_inj rows
  have hiff := full_iff hC
  rw [hn, rooms_map hs hinj, mapG_wide, text_length] at hiff
  have hall : (List.range (zaz rows).length).all (fullB (zbu (canon rows))) = true := by
   rw [List.all_eq_true]
   intro x hx
   have hx := List.mem_range.1 hx
   unfold fullB
   rw [decide_eq_true_eq, hn, rooms_map hs hinj, mapG_wide, text_length]
   obtain ⟨v, hv, hb, hbd⟩ := rooms_box hs x hx
   rw [← countB_all _ _ _ hbd]
   obtain ⟨s1, s2, s3, s4, s5⟩ := (zch _).1 hs
   have hR := zcr hs
   refine countN_conv _ _ _ _ _ fun m hm => ?_
   have hr : m / zaq rows < rows.length := by rw [Nat.div_lt_iff_lt_mul (by omega)]; exact hm
   have hc := Nat.mod_lt m (show 0 < zaq rows by omega)
   have hcell : zco (mapG (fun x => 97 + ((zcb rows).idxOf x : Int)) rows) (zaq rows) m = ((zcb rows).idxOf (zbh rows (m / zaq rows) (m % zaq rows)) : Int) := by
    unfold zco
    rw [valAt_map hR _ hr hc]
    omega
   rw [hcell, idx_iff (ordAll_nodup rows) hv (val_ord hs hr hc)]
   constructor
   ·exact fun h => hb.ins m hm h
   ·intro hin
    obtain ⟨i1, i2, i3, i4⟩ := hin
    obtain ⟨mt, nt, vt, et⟩ := hb.top
    obtain ⟨ml, nl, vl, el⟩ := hb.left
    obtain ⟨mw, nw, vw, ew⟩ := hb.low
    obtain ⟨mr, nr, vr, er⟩ := hb.right
    have rr : ∀ m, m < rows.length * zaq rows → m / zaq rows < rows.length ∧ m % zaq rows < zaq rows := fun m hm => ⟨by rw [Nat.div_lt_iff_lt_mul (by omega)]; exact hm, Nat.mod_lt m (by omega)⟩
    obtain ⟨t1, t2⟩ := rr mt nt
    obtain ⟨l1, l2⟩ := rr ml nl
    obtain ⟨w1, w2⟩ := rr mw nw
    obtain ⟨r1, r2⟩ := rr mr nr
    have gt := hb.ins mt nt vt
    have gl := hb.ins ml nl vl
    have gw := hb.ins mw nw vw
    have gr := hb.ins mr nr vr
    generalize hbx : (zaz rows).getD x zcg = bx at *
    -- the upper left and the lower right corner
    have c1 := h (mt / zaq rows) (mt % zaq rows) (ml / zaq rows) (ml % zaq rows) (mt / zaq rows) (ml % zaq rows) t1 t2 l1 l2 (vt.trans vl.symm) (by omega) (by omega) (by omega) (by omega)
    have c2 := h (mw / zaq rows) (mw % zaq rows) (mr / zaq rows) (mr % zaq rows) (mw / zaq rows) (mr % zaq rows) w1 w2 r1 r2 (vw.trans vr.symm) (by omega) (by omega) (by omega) (by omega)
    have c3 := h (mt / zaq rows) (ml % zaq rows) (mw / zaq rows) (mr % zaq rows) (m / zaq rows) (m % zaq rows) t1 l2 w1 r2 (by rw [c1, c2, vt, vw]) (by omega) (by omega) (by omega) (by omega)
    rw [c3, c1, vt]
  rw [hall] at hiff
  exact of_decide_eq_true hiff.symm
structure OkG (rows : List (List Int)) : Prop where
 shape : zbr rows = true
 many : (zcb rows).length ≤ 9
 conv : ConvG rows
theorem OkG.plan {rows : List (List Int)} (h : OkG rows) : planF rows = (zbu (canon rows), true) := by
 have h9 : (zaz rows).length ≤ 9 := by rw [← rooms_len h.shape]; exact h.many
 rw [planF_shape h.shape, if_pos ⟨h9, (conv_sum h.shape h9).2 h.conv⟩]
theorem OkG.floor {rows : List (List Int)} (h : OkG rows) : zcn (zbu (canon rows)) = some (canon rows, zaz rows) := by
 have h9 : (zaz rows).length ≤ 9 := by rw [← rooms_len h.shape]; exact h.many
 rw [names_floor h.shape h9, if_pos ((conv_sum h.shape h9).2 h.conv)]
theorem planF_cases (rows : List (List Int)) : (OkG rows ∧ planF rows = (zbu (canon rows), true)) ∨ (¬ OkG rows ∧ planF rows = ([], false)) := by
 by_cases h : OkG rows
 ·exact .inl ⟨h, h.plan⟩
 ·refine .inr ⟨h, ?_⟩
  cases hs : zbr rows with
  | false => exact planF_noshape hs
  | true =>
   rw [planF_shape hs]
   by_cases hc : (zaz rows).length ≤ 9 ∧ zcd (zaz rows) = (rows.length : Int) * (zaq rows : Int)
   ·exact absurd ⟨hs, by rw [rooms_len hs]; exact hc.1, (conv_sum hs hc.1).1 hc.2⟩ h
   ·rw [if_neg hc]
theorem floor_shape {cs : List (List Int)} {rs : List Rc} (h : FloorOk cs rs) : zbr cs = true := (zch _).2 ⟨h.h1, h.h6, h.w1, h.w6, h.rect⟩
theorem add_inj (a : Int) (S : Int → Prop) : InjOn (fun x => a + x) S := fun x y _ _ e => by have : a + x = a + y := e; omega
theorem floor_okG {p : List ByteArray} {cs : List (List Int)} {rs : List Rc} (h : zcn p = some (cs, rs)) : OkG cs ∧ canon cs = cs ∧ rs = zaz cs ∧ p = zbu cs := by
 have F := floor_facts h
 have hs := floor_shape F.ok
 have e1 : canon cs = cs := by
  have e2 : canon (mapG (fun x => 97 + x) cs) = canon cs := canon_map (add_inj 97 _)
  rw [← F.nums, ← F.cells] at e2
  exact e2.symm
 have e2 : rs = zaz cs := by rw [F.rooms, F.nums, rooms_map hs (add_inj 97 _)]
 have h9 : (zaz cs).length ≤ 9 := by rw [← e2]; exact F.ok.many
 have hsum := floor_sum h
 rw [F.wide, F.len, e2] at hsum
 exact ⟨⟨hs, by rw [rooms_len hs]; exact h9, (conv_sum hs h9).1 hsum⟩, e1, e2, F.text⟩
end Go.Proofs.Ytaepgogafkmooaa.Hd
namespace Go.Proofs.Ytaepgogafkmooaa.Hd
open Go.RowKit Go.PW.PrintWords Go.PW.PrintLast Go.PW.PrintMore Go.Proofs.Ytaepgogafkmooaa.PB Go.Proofs.Ytaepgogafkmooaa.SM
theorem xor_nonneg {a b : Int} (ha : 0 ≤ a) (hb : 0 ≤ b) (ha' : a < 1099511627776) (hb' : b < 1099511627776) : 0 ≤ Go.bits .xor .i64 a b := by
 obtain ⟨x, rfl⟩ := Int.eq_ofNat_of_zero_le ha
 obtain ⟨y, rfl⟩ := Int.eq_ofNat_of_zero_le hb
 have hx : x < 2 ^ 40 := by omega
 have hy : y < 2 ^ 40 := by omega
 have h := Nat.xor_lt_two_pow hx hy
 simp only [Go.bits, BitVec.ofInt_natCast, BitVec.toNat_xor, BitVec.toNat_ofNat]
 rw [Nat.mod_eq_of_lt (show x < 2 ^ IntKind.i64.bits by show x < 2 ^ 64; omega), Nat.mod_eq_of_lt (show y < 2 ^ IntKind.i64.bits by show y < 2 ^ 64; omega), IntKind.wrap_i64]
 omega
theorem tmod_in {x n : Int} (hx : 0 ≤ x) (hn : 1 ≤ n) : 0 ≤ Int.tmod x n ∧ Int.tmod x n < n := ⟨Int.tmod_nonneg _ hx, Int.tmod_lt_of_pos _ (by omega)⟩
structure RdB (b : List Int) : Prop where
 len : b.length ≤ 2000
 val : ∀ x ∈ b, 0 ≤ x ∧ x ≤ 255
theorem RdB.byte {b : List Int} (h : RdB b) (i : Int) : 0 ≤ rd b i ∧ rd b i ≤ 255 := by
 unfold rd
 rw [List.getD_eq_getElem?_getD]
 cases e : b[i.toNat]? with
 | none => simp
 | some x => exact h.val x (List.mem_of_getElem? e)
theorem pick_j0_true (b : List Int) (q n : Int) : Evs (fun k => spec_l6Rd_pick.j0 k n true b q) (0, q) := by
 refine Evs.step (h := fun _ => some (0, q)) (fun k => ?_) (Evs.const _)
 show spec_l6Rd_pick.j0 (k + 1) n true b q = _
 simp only [spec_l6Rd_pick.j0, if_true]
theorem pick_ev (b : List Int) (h : RdB b) (q : Nat) (hq : q ≤ 1000000) (n : Int) : ∃ v, Evs (fun k => spec_l6Rd_pick.f k b (q : Int) n) (v, ((q + 1 : Nat) : Int)) ∧ 0 ≤ v ∧ (1 ≤ n → v < n) ∧ (n < 1 → v = 0) := by
 have hw : wrap64 ((q : Int) + 1) = ((q + 1 : Nat) : Int) := by rw [zav (by omega) (by omega)]; omega
 by_cases hn : n < 1
 ·refine ⟨0, ?_, Int.le_refl _, fun h => by omega, fun _ => rfl⟩
  refine Evs.congr (fun k => ?_) (pick_j0_true b ((q + 1 : Nat) : Int) n)
  unfold spec_l6Rd_pick.f
  rw [if_pos hn, hw]
 ·by_cases hl : b.length = 0
  ·refine ⟨0, ?_, Int.le_refl _, fun h => by omega, fun h => absurd h hn⟩
   refine Evs.congr (fun k => ?_) (pick_j0_true b ((q + 1 : Nat) : Int) n)
   unfold spec_l6Rd_pick.f
   rw [if_neg hn, hw, show ((b.length : Int) == 0) = true by rw [beq_iff_eq]; omega]
  ·have hlen := h.len
   have e1 : wrap64 (((q + 1 : Nat) : Int) - 1) = (q : Int) := by rw [zav (by omega) (by omega)]; omega
   have main : ∃ v, (∀ k, spec_l6Rd_pick.j0 (k + 1) n false b ((q + 1 : Nat) : Int) = some (v, ((q + 1 : Nat) : Int))) ∧ 0 ≤ v ∧ v < n := by
    by_cases hql : (q : Int) < (b.length : Int)
    ·have hr := h.byte (q : Int)
     obtain ⟨t0, t1⟩ := tmod_in (x := rd b (q : Int)) (n := n) hr.1 (by omega)
     refine ⟨Int.tmod (rd b (q : Int)) n, fun k => ?_, t0, t1⟩
     simp only [spec_l6Rd_pick.j0, Bool.false_eq_true, if_false]
     rw [e1, if_pos hql, if_pos (by omega), if_neg (by omega), zav (x := rd b (q : Int)) (by omega) (by omega)]
    ·have i1 := tmod_in (x := (q : Int)) (n := (b.length : Int)) (by omega) (by omega)
     have e2 : wrap64 (wrap64 ((q : Int) * 7) + 3) = (q : Int) * 7 + 3 := by rw [zav (x := (q : Int) * 7) (by omega) (by omega), zav (by omega) (by omega)]
     have i2 := tmod_in (x := (q : Int) * 7 + 3) (n := (b.length : Int)) (by omega) (by omega)
     have r1 := h.byte (Int.tmod (q : Int) (b.length : Int))
     have r2 := h.byte (Int.tmod ((q : Int) * 7 + 3) (b.length : Int))
     have d1 : 0 ≤ Int.tdiv (q : Int) (b.length : Int) ∧ Int.tdiv (q : Int) (b.length : Int) ≤ 1000000 := by
      rw [Int.tdiv_eq_ediv_of_nonneg (by omega)]
      refine ⟨Int.ediv_nonneg (by omega) (by omega), Int.le_trans (Int.ediv_le_self _ (by omega)) (by omega)⟩
     have key : ∃ v, (∀ k, spec_l6Rd_pick.j0 (k + 1) n false b ((q + 1 : Nat) : Int) = some (v, ((q + 1 : Nat) : Int))) ∧ 0 ≤ v ∧ v < n := by
      have hform : ∀ k, spec_l6Rd_pick.j0 (k + 1) n false b ((q + 1 : Nat) : Int) = some (Int.tmod (Go.bits .xor .i64 (rd b (Int.tmod (q : Int) (b.length : Int)) * 131 + rd b (Int.tmod ((q : Int) * 7 + 3) (b.length : Int)) * 1117 + (q : Int) * 29 + Int.tdiv (q : Int) (b.length : Int) * 53) (wrap64 (Int.tdiv (rd b (Int.tmod (q : Int) (b.length : Int)) * 131 + rd b (Int.tmod ((q : Int) * 7 + 3) (b.length : Int)) * 1117 + (q : Int) * 29 + Int.tdiv (q : Int) (b.length : Int) * 53) 64))) n, ((q + 1 : Nat) : Int)) := fun k => by
       simp only [spec_l6Rd_pick.j0, Bool.false_eq_true, if_false]
       rw [e1, if_neg hql, if_neg (by omega), if_pos i1.1, if_pos i1.2, e2, if_pos i2.1, if_pos i2.2, if_neg (by omega)]
       generalize rd b (Int.tmod (q : Int) (b.length : Int)) = a at *
       generalize rd b (Int.tmod ((q : Int) * 7 + 3) (b.length : Int)) = c at *
       generalize Int.tdiv (q : Int) (b.length : Int) = d at *
       rw [zav (x := a) (by omega) (by omega), zav (x := a * 131) (by omega) (by omega), zav (x := c) (by omega) (by omega), zav (x := c * 1117) (by omega) (by omega), zav (x := a * 131 + c * 1117) (by omega) (by omega), zav (x := (q : Int) * 29) (by omega) (by omega), zav (x := a * 131 + c * 1117 + (q : Int) * 29) (by omega) (by omega), zav (x := d) (by omega) (by omega), zav (x := d * 53) (by omega) (by omega), zav (x := a * 131 + c * 1117 + (q : Int) * 29 + d * 53) (by omega) (by omega)]
      have hX : 0 ≤ rd b (Int.tmod (q : Int) (b.length : Int)) * 131 + rd b (Int.tmod ((q : Int) * 7 + 3) (b.length : Int)) * 1117 + (q : Int) * 29 + Int.tdiv (q : Int) (b.length : Int) * 53 ∧ rd b (Int.tmod (q : Int) (b.length : Int)) * 131 + rd b (Int.tmod ((q : Int) * 7 + 3) (b.length : Int)) * 1117 + (q : Int) * 29 + Int.tdiv (q : Int) (b.length : Int) * 53 < 1099511627776 := by omega
      generalize rd b (Int.tmod (q : Int) (b.length : Int)) * 131 + rd b (Int.tmod ((q : Int) * 7 + 3) (b.length : Int)) * 1117 + (q : Int) * 29 + Int.tdiv (q : Int) (b.length : Int) * 53 = X at *
      have hd : 0 ≤ Int.tdiv X 64 ∧ Int.tdiv X 64 ≤ X := by
       rw [Int.tdiv_eq_ediv_of_nonneg hX.1]
       exact ⟨Int.ediv_nonneg hX.1 (by omega), Int.ediv_le_self _ hX.1⟩
      rw [zav (x := Int.tdiv X 64) (by omega) (by omega)] at hform
      obtain ⟨t0, t1⟩ := tmod_in (n := n) (xor_nonneg hX.1 hd.1 hX.2 (by omega)) (by omega)
      exact ⟨_, hform, t0, t1⟩
     exact key
   obtain ⟨v, hv, v0, v1⟩ := main
   refine ⟨v, ?_, v0, fun _ => v1, fun h => absurd h hn⟩
   refine Evs.congr (h := fun k => spec_l6Rd_pick.j0 k n false b ((q + 1 : Nat) : Int)) (fun k => ?_) (Evs.step (h := fun _ => some (v, ((q + 1 : Nat) : Int))) hv (Evs.const _))
   unfold spec_l6Rd_pick.f
   rw [if_neg hn, hw, show ((b.length : Int) == 0) = false by rw [beq_eq_false_iff_ne]; omega]
theorem of_ev (b : List Int) (h : RdB b) (q : Nat) (hq : q ≤ 1000000) (L : List ByteArray) (hL : 1 ≤ L.length) : ∃ s, Evs (fun k => spec_l6Rd_of.f k b (q : Int) L) (s, ((q + 1 : Nat) : Int)) ∧ s ∈ L := by
 obtain ⟨v, hv, v0, v1, -⟩ := pick_ev b h q hq (L.length : Int)
 have hv1 := v1 (by omega)
 obtain ⟨i, rfl⟩ := Int.eq_ofNat_of_zero_le v0
 refine ⟨rdOf ByteArray.empty L (i : Int), Evs.bind hv (Evs.pos (by omega) (Evs.pos hv1 (Evs.const _))), ?_⟩
 rw [rdOf_get L i (by omega)]
 exact List.getElem_mem _
theorem open_ev (l : List Int) (hv : ∀ x ∈ l, 0 ≤ x ∧ x ≤ 255) : ∃ b, spec_l6Open.f l = some (b, 0) ∧ RdB b := by
 unfold spec_l6Open.f
 by_cases h : (l.length : Int) > 2000
 ·rw [if_pos h, if_pos (by omega)]
  exact ⟨_, rfl, by simp; omega, fun x hx => hv x (List.mem_of_mem_take hx)⟩
 ·rw [if_neg h]
  exact ⟨_, rfl, by omega, hv⟩
theorem empty_l1 (n m : Nat) (hm : m ≤ 100) (i : Nat) (hi : i ≤ 100) (x5 : List ByteArray) (h5 : x5.length ≤ 100) (r : List ByteArray) (hnext : Evs (fun k => spec_l91Empty.l0 k (n : Int) (m : Int) (x5 ++ [strOfNums (List.replicate m 97)]) ((i + 1 : Nat) : Int)) r) :
  ∀ d j, j + d = m → Evs (fun k => spec_l91Empty.l1 k (n : Int) (m : Int) x5 (i : Int) (List.replicate j 97) (j : Int)) r := by
 intro d
 induction d with
 | zero =>
  intro j hj
  obtain rfl : j = m := by omega
  refine Evs.step (fun k => ?_) hnext
  conv => lhs; unfold spec_l91Empty.l1
  rw [if_neg (by omega), if_pos (by omega), zbi (by omega)]
 | succ d ih =>
  intro j hj
  have hnx := ih (j + 1) (by omega)
  rw [List.replicate_succ'] at hnx
  refine Evs.step (fun k => ?_) hnx
  conv => lhs; unfold spec_l91Empty.l1
  rw [if_pos (by omega), if_pos (by simp; omega), zbi (by omega)]
theorem empty_l0 (n m : Nat) (hn : n ≤ 100) (hm : m ≤ 100) : ∀ d i, i + d = n → Evs (fun k => spec_l91Empty.l0 k (n : Int) (m : Int) (List.replicate i (strOfNums (List.replicate m 97))) (i : Int)) (List.replicate n (strOfNums (List.replicate m 97))) := by
 intro d
 induction d with
 | zero =>
  intro i hi
  obtain rfl : i = n := by omega
  refine Evs.step (h := fun _ => some (List.replicate i (strOfNums (List.replicate m 97)))) (fun k => ?_) (Evs.const _)
  conv => lhs; unfold spec_l91Empty.l0
  rw [if_neg (by omega)]
 | succ d ih =>
  intro i hi
  have hnx := ih (i + 1) (by omega)
  rw [List.replicate_succ'] at hnx
  have := empty_l1 n m hm i (by omega) (List.replicate i (strOfNums (List.replicate m 97))) (by simp; omega) _ hnx m 0 (by omega)
  refine Evs.step (fun k => ?_) this
  conv => lhs; unfold spec_l91Empty.l0
  rw [if_pos (by omega)]
  rfl
theorem Empty_ev (n m : Nat) (hn : n ≤ 100) (hm : m ≤ 100) : ∃ p, Evs (fun k => spec_l91Empty.f k (n : Int) (m : Int)) p ∧ Mid p m ∧ p.length = n := by
 refine ⟨_, empty_l0 n m hn hm n 0 (by omega), ⟨by simp; omega, hm, fun s hs => ?_⟩, by simp⟩
 rw [List.eq_of_mem_replicate hs]
 show (List.map _ (List.replicate m (97 : Int))).toArray.size = m
 simp
theorem rowText_size (row : List Int) : (rowText row).size = row.length := by
 show (List.map letterOf row).toArray.size = _
 simp
theorem planF_mid {h w : Nat} {g : Nat → Nat → Int} {p : List ByteArray} (h1 : 1 ≤ h) (e : planF (zbq h w g) = (p, true)) : Mid p w ∧ p.length = h := by
 rcases planF_cases (zbq h w g) with ⟨hO, hp⟩ | ⟨_, hp⟩
 ·rw [hp] at e
  injection e with e1 _
  subst e1
  obtain ⟨s1, s2, s3, s4, s5⟩ := (zch _).1 hO.shape
  rw [zbt] at s1 s2
  have hw : zaq (zbq h w g) = w := by
   have := gridOf_get (hi := h) (wi := w) (g := g) (r := 0) (by omega)
   unfold zaq
   rw [List.getD_eq_getElem?_getD, this]
   simp
  rw [hw] at s3 s4
  have hl : (zbu (canon (zbq h w g))).length = h := by rw [text_length, zbt]
  refine ⟨⟨by omega, by omega, fun s hs => ?_⟩, hl⟩
  obtain ⟨r, hr, rfl⟩ := List.mem_map.1 hs
  rw [rowText_size]
  unfold canon canonL at hr
  obtain ⟨r0, hr0, rfl⟩ := List.mem_map.1 hr
  rw [List.length_map]
  exact gridOf_row r0 hr0
 ·rw [hp] at e
  injection e with _ e2
  cases e2
theorem split_mid {p : List ByteArray} {m : Nat} (h : Mid p m) (h1 : 1 ≤ p.length) {a k : Int} {t : ByteArray} {r : List ByteArray} (e : splitF p a t k = (r, true)) : Mid r m ∧ r.length = p.length := by
 unfold splitF at e
 cases hF : zcn p with
 | none => rw [hF] at e; injection e with _ e; cases e
 | some z =>
  obtain ⟨cs, rs⟩ := z
  rw [hF] at e
  have F := floor_facts hF
  dsimp only at e
  split at e
  ·by_cases hc : 1 ≤ k ∧ k < (if isH t = true then (rs.getD a.toNat zcg).f2 else (rs.getD a.toNat zcg).f3)
   ·rw [if_pos hc] at e
    have hw : zaq cs = m := by
     rw [← F.wide, wideOf_numsOf]
     refine h.row _ ?_
     rw [List.getD_eq_getElem?_getD, List.getElem?_eq_getElem (by omega)]
     exact List.getElem_mem _
    obtain ⟨q1, q2⟩ := planF_mid F.ok.h1 e
    rw [hw] at q1
    exact ⟨q1, by rw [q2, F.len]⟩
   ·rw [if_neg hc] at e
    injection e with _ e
    cases e
  ·injection e with _ e
   cases e
theorem cut_l0 (b : List Int) (hb : RdB b) (many m n : Nat) (hmany : many ≤ 1000) (hn : 1 ≤ n) : ∀ d t (p : List ByteArray) (q : Nat), t + d = many → Mid p m → p.length = n → q + 3 * d ≤ 100000 → ∃ p' q', Evs (fun k => spec_l91Cut.l0 k p (many : Int) (t : Int) b (q : Int)) (p', ((q' : Nat) : Int)) ∧ Mid p' m ∧ p'.length = n ∧ q' ≤ q + 3 * d := by
 intro d
 induction d with
 | zero =>
  intro t p q ht hp hl hq
  refine ⟨p, q, Evs.step (h := fun _ => some (p, (q : Int))) (fun k => ?_) (Evs.const _), hp, hl, by omega⟩
  conv => lhs; unfold spec_l91Cut.l0
  rw [if_neg (by omega)]
 | succ d ih =>
  intro t p q ht hp hl hq
  obtain ⟨rm, _, _, hrm⟩ := l1Rooms_any p hp.lil
  obtain ⟨v1, hv1, -, -, -⟩ := pick_ev b hb q (by omega) rm
  obtain ⟨s, hs, -⟩ := of_ev b hb (q + 1) (by omega) [(⟨#[104]⟩ : ByteArray), (⟨#[118]⟩ : ByteArray)] (by simp)
  obtain ⟨v2, hv2, -, -, -⟩ := pick_ev b hb (q + 1 + 1) (by omega) 3
  have hsp := PlanSplit_ev p v1 s (wrap64 (1 + v2)) hp.lil.small
  rcases hr : splitF p v1 s (wrap64 (1 + v2)) with ⟨r, ok⟩
  rw [hr] at hsp
  cases ok with
  | true =>
   obtain ⟨m1, m2⟩ := split_mid hp (by omega) hr
   obtain ⟨p', q', hE, h1, h2, h3⟩ := ih (t + 1) r (q + 1 + 1 + 1) (by omega) m1 (by omega) (by omega)
   refine ⟨p', q', Evs.step (h := fun k => ((spec_l1Rooms.f k p).bind fun t221 => ((spec_l6Rd_pick.f k b (q : Int) t221).bind fun bt222 => ((spec_l6Rd_of.f k b bt222.2 (([(⟨#[104]⟩ : ByteArray), (⟨#[118]⟩ : ByteArray)] : List ByteArray))).bind fun bt227 => ((spec_l6Rd_pick.f k b bt227.2 3).bind fun bt229 => ((spec_PlanSplit.f k p bt222.1 bt227.1 (wrap64 (1 + bt229.1))).bind fun bt231 => (if bt231.2 = true then (spec_l91Cut.l0 k bt231.1 (many : Int) (wrap64 ((t : Int) + 1)) b bt229.2) else (spec_l91Cut.l0 k p (many : Int) (wrap64 ((t : Int) + 1)) b bt229.2)))))))) (fun k => ?_) (Evs.bind hrm (Evs.bind hv1 (Evs.bind hs (Evs.bind hv2 (Evs.bind hsp (Evs.pos rfl ?_)))))), h1, h2, by omega⟩
   ·conv => lhs; unfold spec_l91Cut.l0
    rw [if_pos (by omega)]
   ·rw [zbi (by omega)]
    exact hE
  | false =>
   obtain ⟨p', q', hE, h1, h2, h3⟩ := ih (t + 1) p (q + 1 + 1 + 1) (by omega) hp hl (by omega)
   refine ⟨p', q', Evs.step (h := fun k => ((spec_l1Rooms.f k p).bind fun t221 => ((spec_l6Rd_pick.f k b (q : Int) t221).bind fun bt222 => ((spec_l6Rd_of.f k b bt222.2 (([(⟨#[104]⟩ : ByteArray), (⟨#[118]⟩ : ByteArray)] : List ByteArray))).bind fun bt227 => ((spec_l6Rd_pick.f k b bt227.2 3).bind fun bt229 => ((spec_PlanSplit.f k p bt222.1 bt227.1 (wrap64 (1 + bt229.1))).bind fun bt231 => (if bt231.2 = true then (spec_l91Cut.l0 k bt231.1 (many : Int) (wrap64 ((t : Int) + 1)) b bt229.2) else (spec_l91Cut.l0 k p (many : Int) (wrap64 ((t : Int) + 1)) b bt229.2)))))))) (fun k => ?_) (Evs.bind hrm (Evs.bind hv1 (Evs.bind hs (Evs.bind hv2 (Evs.bind hsp (Evs.neg (by simp) ?_)))))), h1, h2, by omega⟩
   ·conv => lhs; unfold spec_l91Cut.l0
    rw [if_pos (by omega)]
   ·rw [zbi (by omega)]
    exact hE
theorem Cut_ev (b : List Int) (hb : RdB b) (q : Nat) (hq : q ≤ 10000) (p : List ByteArray) (m : Nat) (hp : Mid p m) (h1 : 1 ≤ p.length) (many : Int) (h0 : 0 ≤ many) (hm : many ≤ 100) : ∃ p' q', Evs (fun k => spec_l91Cut.f k b (q : Int) p many) (p', ((q' : Nat) : Int)) ∧ Mid p' m ∧ p'.length = p.length ∧ q' ≤ q + 300 := by
 obtain ⟨n, rfl⟩ := Int.eq_ofNat_of_zero_le h0
 obtain ⟨p', q', hE, h1, h2, h3⟩ := cut_l0 b hb n m p.length (by omega) h1 n 0 p q (by omega) hp rfl (by omega)
 exact ⟨p', q', hE, h1, h2, by omega⟩
theorem plan_j1 (b : List Int) (hb : RdB b) (q : Nat) (hq : q ≤ 1000) (n m : Nat) (n1 : 1 ≤ n) (n7 : n ≤ 10) (m7 : m ≤ 10) (c : Bool) (hc : c = true → n = 4 ∧ m = 4) : ∃ p q', Evs (fun k => spec_l91Plan.j1 k (n : Int) (m : Int) c b (q : Int)) (p, ((q' : Nat) : Int)) ∧ Mid p m ∧ p.length = n ∧ q' ≤ q + 400 := by
 cases c with
 | true =>
  obtain ⟨rfl, rfl⟩ := hc rfl
  obtain ⟨v, hv, v0, v1, -⟩ := pick_ev b hb q (by omega) 4
  obtain ⟨p, q', hE, h1, h2, h3⟩ := Cut_ev b hb (q + 1) (by omega) [(⟨#[97, 97, 97, 98]⟩ : ByteArray), (⟨#[99, 100, 100, 98]⟩ : ByteArray), (⟨#[99, 100, 100, 98]⟩ : ByteArray), (⟨#[99, 101, 101, 101]⟩ : ByteArray)] 4 ⟨by simp, by omega, fun s hs => by simp at hs; rcases hs with rfl | rfl | rfl <;> rfl⟩ (by simp) v v0 (by have := v1 (by omega); omega)
  refine ⟨p, q', Evs.step (h := fun k => (spec_l6Rd_pick.f k b (q : Int) 4).bind fun bt263 => ((spec_l91Cut.f k b bt263.2 (([(⟨#[97, 97, 97, 98]⟩ : ByteArray), (⟨#[99, 100, 100, 98]⟩ : ByteArray), (⟨#[99, 100, 100, 98]⟩ : ByteArray), (⟨#[99, 101, 101, 101]⟩ : ByteArray)] : List ByteArray)) bt263.1).bind fun bt265 => (some (bt265.1, bt265.2)))) (fun k => ?_) (Evs.bind hv (Evs.bind hE (Evs.const _))), h1, h2, by omega⟩
  show spec_l91Plan.j1 (k + 1) _ _ true b (q : Int) = _
  simp only [spec_l91Plan.j1, if_true]
 | false =>
  obtain ⟨e, hE0, e1, e2⟩ := Empty_ev n m (by omega) (by omega)
  obtain ⟨v, hv, v0, v1, -⟩ := pick_ev b hb q (by omega) 9
  obtain ⟨p, q', hE, h1, h2, h3⟩ := Cut_ev b hb (q + 1) (by omega) e m e1 (by omega) v v0 (by have := v1 (by omega); omega)
  refine ⟨p, q', Evs.step (h := fun k => (spec_l91Empty.f k (n : Int) (m : Int)).bind fun t269 => ((spec_l6Rd_pick.f k b (q : Int) 9).bind fun bt272 => ((spec_l91Cut.f k b bt272.2 t269 bt272.1).bind fun bt274 => (some (bt274.1, bt274.2))))) (fun k => ?_) (Evs.bind hE0 (Evs.bind hv (Evs.bind hE (Evs.const _)))), h1, by omega, by omega⟩
  show spec_l91Plan.j1 (k + 1) _ _ false b (q : Int) = _
  simp only [spec_l91Plan.j1, Bool.false_eq_true, if_false]
theorem plan_j0 (b : List Int) (hb : RdB b) (q : Nat) (hq : q ≤ 900) (n m : Nat) (n1 : 1 ≤ n) (n7 : n ≤ 10) (m7 : m ≤ 10) (c : Bool) (hc : c = true → n = 3 ∧ m = 3) : ∃ p q', Evs (fun k => spec_l91Plan.j0 k (n : Int) (m : Int) c b (q : Int)) (p, ((q' : Nat) : Int)) ∧ Mid p m ∧ p.length = n ∧ q' ≤ q + 500 := by
 cases c with
 | true =>
  obtain ⟨rfl, rfl⟩ := hc rfl
  obtain ⟨v, hv, v0, v1, -⟩ := pick_ev b hb q (by omega) 2
  obtain ⟨p, q', hE, h1, h2, h3⟩ := Cut_ev b hb (q + 1) (by omega) [(⟨#[97, 97, 98]⟩ : ByteArray), (⟨#[99, 100, 98]⟩ : ByteArray), (⟨#[99, 101, 101]⟩ : ByteArray)] 3 ⟨by simp, by omega, fun s hs => by simp at hs; rcases hs with rfl | rfl | rfl <;> rfl⟩ (by simp) v v0 (by have := v1 (by omega); omega)
  refine ⟨p, q', Evs.step (h := fun k => (spec_l6Rd_pick.f k b (q : Int) 2).bind fun bt252 => ((spec_l91Cut.f k b bt252.2 (([(⟨#[97, 97, 98]⟩ : ByteArray), (⟨#[99, 100, 98]⟩ : ByteArray), (⟨#[99, 101, 101]⟩ : ByteArray)] : List ByteArray)) bt252.1).bind fun bt254 => (some (bt254.1, bt254.2)))) (fun k => ?_) (Evs.bind hv (Evs.bind hE (Evs.const _))), h1, h2, by omega⟩
  show spec_l91Plan.j0 (k + 1) _ _ true b (q : Int) = _
  simp only [spec_l91Plan.j0, if_true]
 | false =>
  by_cases h4 : (n : Int) = 4 ∧ (m : Int) = 4
  ·obtain ⟨v, hv, v0, v1, -⟩ := pick_ev b hb q (by omega) 2
   obtain ⟨p, q', hE, h1, h2, h3⟩ := plan_j1 b hb (q + 1) (by omega) n m n1 n7 m7 (v == 0) (fun _ => by omega)
   refine ⟨p, q', Evs.step (h := fun k => (spec_l6Rd_pick.f k b (q : Int) 2).bind fun bt258 => (spec_l91Plan.j1 k (n : Int) (m : Int) (bt258.1 == 0) b bt258.2)) (fun k => ?_) (Evs.bind hv hE), h1, h2, by omega⟩
   show spec_l91Plan.j0 (k + 1) _ _ false b (q : Int) = _
   simp only [spec_l91Plan.j0, Bool.false_eq_true, if_false]
   rw [if_pos h4.1, if_pos h4.2]
  ·obtain ⟨p, q', hE, h1, h2, h3⟩ := plan_j1 b hb q (by omega) n m n1 n7 m7 false (fun h => by cases h)
   refine ⟨p, q', Evs.step (fun k => ?_) hE, h1, h2, by omega⟩
   show spec_l91Plan.j0 (k + 1) _ _ false b (q : Int) = _
   simp only [spec_l91Plan.j0, Bool.false_eq_true, if_false]
   by_cases hn : (n : Int) = 4
   ·rw [if_pos hn, if_neg (fun h => h4 ⟨hn, h⟩)]
   ·rw [if_neg hn]
theorem Plan_ev (b : List Int) (hb : RdB b) (q : Nat) (hq : q ≤ 800) (n m : Nat) (n1 : 1 ≤ n) (n7 : n ≤ 10) (m7 : m ≤ 10) : ∃ p q', Evs (fun k => spec_l91Plan.f k b (q : Int) (n : Int) (m : Int)) (p, ((q' : Nat) : Int)) ∧ Mid p m ∧ p.length = n ∧ q' ≤ q + 600 := by
 by_cases h3 : (n : Int) = 3 ∧ (m : Int) = 3
 ·obtain ⟨v, hv, v0, v1, -⟩ := pick_ev b hb q (by omega) 2
  obtain ⟨p, q', hE, h1, h2, h3'⟩ := plan_j0 b hb (q + 1) (by omega) n m n1 n7 m7 (v == 0) (fun _ => by omega)
  refine ⟨p, q', Evs.congr (h := fun k => (spec_l6Rd_pick.f k b (q : Int) 2).bind fun bt247 => (spec_l91Plan.j0 k (n : Int) (m : Int) (bt247.1 == 0) b bt247.2)) (fun k => ?_) (Evs.bind hv hE), h1, h2, by omega⟩
  unfold spec_l91Plan.f
  rw [if_pos h3.1, if_pos h3.2]
 ·obtain ⟨p, q', hE, h1, h2, h3'⟩ := plan_j0 b hb q (by omega) n m n1 n7 m7 false (fun h => by cases h)
  refine ⟨p, q', Evs.congr (fun k => ?_) hE, h1, h2, by omega⟩
  unfold spec_l91Plan.f
  by_cases hn : (n : Int) = 3
  ·rw [if_pos hn, if_neg (fun h => h3 ⟨hn, h⟩)]
  ·rw [if_neg hn]
theorem Some_ev (b : List Int) (hb : RdB b) (q : Nat) (hq : q ≤ 700) (rows cols : Int) (r1 : 1 ≤ rows) (r7 : rows ≤ 9) (c1 : 1 ≤ cols) (c7 : cols ≤ 9) : ∃ p q', Evs (fun k => spec_l91Some.f k b (q : Int) rows cols) (p, ((q' : Nat) : Int)) ∧ Lil p ∧ q' ≤ 2000 := by
 obtain ⟨v1, hv1, a0, a1, -⟩ := pick_ev b hb q (by omega) rows
 obtain ⟨v2, hv2, b0, b1, -⟩ := pick_ev b hb (q + 1) (by omega) cols
 have a1 := a1 r1
 have b1 := b1 c1
 obtain ⟨i, rfl⟩ := Int.eq_ofNat_of_zero_le a0
 obtain ⟨j, rfl⟩ := Int.eq_ofNat_of_zero_le b0
 have e1 : wrap64 (1 + (i : Int)) = ((i + 1 : Nat) : Int) := by rw [zav (by omega) (by omega)]; omega
 have e2 : wrap64 (1 + (j : Int)) = ((j + 1 : Nat) : Int) := by rw [zav (by omega) (by omega)]; omega
 obtain ⟨p, q', hE, h1, h2, h3⟩ := Plan_ev b hb (q + 1 + 1) (by omega) (i + 1) (j + 1) (by omega) (by omega) (by omega)
 obtain ⟨v3, hv3, c0, -, -⟩ := pick_ev b hb q' (by omega) 50
 have hlast : wrap64 (((i + 1 : Nat) : Int) - 1) = (i : Int) := by rw [zav (by omega) (by omega)]; omega
 have hsz : ∀ k (hk : k < p.length), (p[k]'hk).size = j + 1 := fun k hk => h1.row _ (List.getElem_mem hk)
 by_cases z0 : v3 = 0
 ·refine ⟨p.set i (rdOf ByteArray.empty p (i : Int) ++ (⟨#[97]⟩ : ByteArray)), q' + 1, Evs.bind hv1 (Evs.bind hv2 ?_), ⟨by rw [List.length_set]; omega, fun s hs => ?_⟩, by omega⟩
  ·dsimp only
   rw [e1, e2]
   refine Evs.bind hE (Evs.bind hv3 (Evs.pos z0 ?_))
   simp only [Option.bind_some, List.nil_append, List.length_nil]
   refine Evs.pos (by omega) ?_
   rw [hlast]
   refine Evs.pos (by omega) (Evs.pos (by omega) (Evs.pos ?_ ?_))
   ·rw [rdOf_get p i (by omega), hsz i (by omega)]; omega
   ·rw [Int.toNat_natCast]; exact Evs.const _
  ·rcases List.mem_or_eq_of_mem_set hs with h | h
   ·rw [h1.row s h]; omega
   ·subst h
    rw [rdOf_get p i (by omega), ByteArray.size_append, hsz i (by omega)]
    show j + 1 + 1 ≤ 100
    omega
 ·by_cases z1 : v3 = 1
  ·refine ⟨p.set 0 ((⟨#[122]⟩ : ByteArray) ++ ((rdOf ByteArray.empty p 0).extract 1 (rdOf ByteArray.empty p 0).size)), q' + 1, Evs.bind hv1 (Evs.bind hv2 ?_), ⟨by rw [List.length_set]; omega, fun s hs => ?_⟩, by omega⟩
   ·dsimp only
    rw [e1, e2]
    refine Evs.bind hE (Evs.bind hv3 (Evs.neg z0 (Evs.pos z1 ?_)))
    simp only [Option.bind_some, List.nil_append, List.length_nil]
    have hr0 : rdOf ByteArray.empty p 0 = p[0]'(by omega) := rdOf_get p 0 (by omega)
    refine Evs.pos (by omega) (Evs.pos (by omega) (Evs.pos ?_ (Evs.pos ?_ ?_)))
    ·rw [hr0, hsz 0 (by omega)]; omega
    ·rw [hr0, ByteArray.size_extract, hsz 0 (by omega)]; omega
    ·exact Evs.const _
   ·rcases List.mem_or_eq_of_mem_set hs with h | h
    ·rw [h1.row s h]; omega
    ·subst h
     have hr0 : rdOf ByteArray.empty p 0 = p[0]'(by omega) := rdOf_get p 0 (by omega)
     rw [ByteArray.size_append, ByteArray.size_extract, hr0, hsz 0 (by omega)]
     show 1 + _ ≤ 100
     omega
  ·refine ⟨p, q' + 1, Evs.bind hv1 (Evs.bind hv2 ?_), h1.lil, by omega⟩
   dsimp only
   rw [e1, e2]
   exact Evs.bind hE (Evs.bind hv3 (Evs.neg z0 (Evs.neg z1 (Evs.const _))))
theorem One_ev (l : List Int) (hv : ∀ x ∈ l, 0 ≤ x ∧ x ≤ 255) : ∃ p, Evs (fun k => spec_l91One.f k l) p ∧ Lil p := by
 obtain ⟨b, ho, hb⟩ := open_ev l hv
 obtain ⟨p, q, hE, h1, -⟩ := Some_ev b hb 0 (by omega) 5 5 (by omega) (by omega) (by omega) (by omega)
 exact ⟨p, Evs.bindS ho (Evs.bind hE (Evs.const _)), h1⟩
end Go.Proofs.Ytaepgogafkmooaa.Hd
namespace Go.Proofs.Ytaepgogafkmooaa.Hd
open Go.RowKit Go.PW.PrintWords Go.PW.PrintLast Go.PW.PrintMore Go.Proofs.Ytaepgogafkmooaa.PB
theorem OkG.canon {X : List (List Int)} (h : OkG X) : OkG (canon X) := (floor_okG h.floor).1
theorem byte_of {x : Int} (h : (Lit.int .u8 x).wf = true) : 0 ≤ x ∧ x ≤ 255 := by
 simp only [Lit.wf, IntKind.min, IntKind.max, IntKind.signed, IntKind.bits, Bool.and_eq_true, decide_eq_true_eq] at h
 have h1 := h.1
 have h2 := h.2
 simp at h1 h2
 omega
theorem Evs.ex {α : Type} {g : Nat → Option α} {r : α} (h : Evs g r) : ∃ k, g k = some r := by
 obtain ⟨K, hK⟩ := h
 exact ⟨K, hK K (by omega)⟩
end Go.Proofs.Ytaepgogafkmooaa.Hd
namespace Go.Proofs.Ytaepgogafkmooaa.Hd
open Go.RowKit Go.PW.PrintWords Go.PW.PrintLast Go.PW.PrintMore Go.Proofs.Ytaepgogafkmooaa.PB Go.Proofs.Ytaepgogafkmooaa.SM
theorem Evs.stepNeg {α : Type} {c : Prop} {inst : Decidable c} {a h g : Nat → Option α} {r : α} (e : ∀ k, g (k + 1) = @ite _ c inst (a k) (h k)) (hc : ¬ c) (hh : Evs h r) : Evs g r := Evs.step (fun k => (e k).trans (if_neg hc)) hh
theorem DrawCutFirst_ev (l : List Int) (hv : ∀ x ∈ l, 0 ≤ x ∧ x ≤ 255) : ∃ p, Evs (fun k => spec_DrawCutFirst.f k l) p ∧ Lil p := by
 obtain ⟨p, h, hl⟩ := One_ev l hv
 exact ⟨p, Evs.bind h (Evs.const _), hl⟩
end Go.Proofs.Ytaepgogafkmooaa.Hd
namespace Go.Proofs.Ytaepgogafkmooaa.Pure
open Go.RowKit Go.Proofs.Ytaepgogafkmooaa.CA Go.Proofs.Ytaepgogafkmooaa.PB Go.Proofs.Ytaepgogafkmooaa.SM Go.Proofs.Ytaepgogafkmooaa.Hd Go.PW.PrintWords Go.PW.PrintLast
theorem FnCutFirst : laws_FnCutFirst.Pure := by
 intro l0 h1 h2 h3
 by_cases big : (l0.length : Int) > 1048576
 ·exact ⟨0, by unfold laws_FnCutFirst.f; rw [if_pos big]⟩
 ·obtain ⟨p, hp, hl⟩ := DrawCutFirst_ev l0 (fun x hx => byte_of (h3 x hx))
  have hsm : smallB p = true := (smallB_iff _).2 hl.small
  have hI : impl_CutFirst.f p = some (zcc p) := by unfold impl_CutFirst.f; rw [if_pos hsm]
  have hJ : impl_WallList.f p = some (wallListF p) := by unfold impl_WallList.f; rw [if_pos hsm]
  have hK : impl_CutMany.f p = some (cutManyF p) := by unfold impl_CutMany.f; rw [if_pos hsm]
  apply Evs.ex
  refine Evs.neg big (Evs.bind hp (Evs.bindS hI (Evs.bind (CutFirst_ev p hl.small) (Evs.neg (by simp) (Evs.pos rfl ?_)))))
  have bad : zcc p = (0, false) → Evs (fun k => laws_FnCutFirst.j0 k p (zcc p).1 (zcc p).2 (zcc p).1 (zcc p).2 (!(zcc p).2)) true := by
   intro e
   rw [e]
   refine Evs.step (h := fun k => some true) (fun k => ?_) (Evs.const _)
   conv => lhs; unfold laws_FnCutFirst.j0
   exact (if_pos (by simp)).trans (if_pos (by simp))
  rcases planB_cases p with ⟨-, f1⟩ | ⟨-, cs, rs, f1⟩
  ·exact bad (by unfold zcc; rw [f1])
  ·have F := floor_facts f1
   have e : zcc p = headF (cutN cs) := by unfold zcc; rw [f1]
   rcases hc : cutN cs with _ | ⟨i, r⟩
   ·exact bad (by rw [e, hc]; rfl)
   ·have hmem : i ∈ cutN cs := by rw [hc]; exact List.mem_cons_self
    have e1 : zcc p = ((i : Int), true) := by rw [e, hc]; rfl
    have e2 : wallListF p = (walls4 cs, true) := by unfold wallListF; rw [f1]
    have e3 : cutManyF p = (((cutN cs).length : Int), true) := by unfold cutManyF; rw [f1]
    unfold cutN cutP at hmem
    obtain ⟨m1, m2⟩ := List.mem_filter.1 hmem
    have m1 := List.mem_range.1 m1
    have hw : Go.Proofs.Ytaepgogafkmooaa.CA.rd_L1 (walls4 cs) (i : Int) = fourW ((zbw cs).getD i zeroW) := walls4_at cs i m1
    have hl4 := walls4_len cs
    have o1 := F.ok.h1
    have l1 := F.len
    have s0 := size0 F
    rw [e2] at hJ
    rw [e3, hc] at hK
    rw [e1]
    refine Evs.stepNeg (fun k => by conv => lhs; unfold laws_FnCutFirst.j0) (by simp) (Evs.bindS hJ (Evs.bindS hK ?_))
    dsimp only
    rw [hw]
    generalize (zbw cs).getD i zeroW = a at *
    obtain ⟨lv, a1, a2, a3⟩ := a
    have tl : ((fourW ⟨lv, a1, a2, a3⟩).length : Int) = 4 := rfl
    have t3 : rd (fourW ⟨lv, a1, a2, a3⟩) 3 = a3 := rfl
    unfold cutW endOf at m2
    have m2 := of_decide_eq_true m2
    dsimp only at m2
    rw [tl, t3]
    refine Evs.pos (by omega) (Evs.pos (by omega) (Evs.pos rfl (Evs.pos rfl (Evs.pos (by simp; omega) (Evs.pos (by omega) ?_)))))
    cases lv with
    | false =>
     rw [if_neg (by simp)] at m2
     exact Evs.pos rfl (Evs.pos (by omega) (Evs.pos (by omega) (Evs.const _)))
    | true =>
     rw [if_pos rfl] at m2
     have t0 : rd (fourW ⟨true, a1, a2, a3⟩) 0 = 1 := rfl
     rw [t0, s0, m2]
     refine Evs.neg (by omega) (Evs.pos rfl (Evs.pos (by omega) (Evs.pos (by omega) ?_)))
     rw [beq_self_eq_true]
     exact Evs.const _
end Go.Proofs.Ytaepgogafkmooaa.Pure
