/- Part 4 of the proof of FnExactNearOut: what the program's functions and the reference's compute. -/
import Derived.Shelf.Slices.CompactI
import Derived.Test.YtickdcegnlldjaaProg
import Derived.Below
import Derived.Deep.Draws
import Derived.Deep.AppendLies
import Derived.Maps.AppendAt
import Derived.OwnWalk
import Derived.Laws.BytesArg
import Derived.Laws.MakeOwn
import Derived.Laws.OwnMore
import Derived.Deep.OwnRows
import Derived.Tactics
import Derived.Lib.ConvBytes
import Derived.Laws.Slices
import Derived.WalkKit
import Derived.KernelRfl
import Derived.RowKit3
import Derived.Deep.LoopGhost
import Derived.Deep.QuietTactic
import Derived.BigQuiet
import Derived.WideLaws
import Derived.Deep.DeepCutAuto
import Derived.Deep.CutBlock
import Derived.Deep.RegionHeld3
import Derived.Laws.Rows
import Derived.Lib.AppendStr
import Derived.ArgAppend
import Derived.Laws.IdiomCopy
import Derived.OrdersHeld
import Derived.Laws.BitsLemmas
import Derived.RowKit
import Derived.Test.YtickdcegnlldjaaCLOc
set_option linter.unusedSimpArgs false
set_option linter.unusedVariables false
namespace Go.Proofs.Ytickdcegnlldjaa.Hd
open Go.RowKit Go.PW.PrintWords Go.PW.PrintLast Go.PW.PrintMore Go.Proofs.Ytickdcegnlldjaa.PB
def sumI (f : Nat → Int) : Nat → Int
 | 0 => 0
 | n + 1 => sumI f n + f n
theorem sumI_add (f g : Nat → Int) : ∀ n, sumI (fun x => f x + g x) n = sumI f n + sumI g n
 | 0 => rfl
 | n + 1 => by simp only [sumI, sumI_add f g n]; omega
theorem sumI_congr {f g : Nat → Int} : ∀ n, (∀ x, x < n → f x = g x) → sumI f n = sumI g n
 | 0, _ => rfl
 | n + 1, h => by simp only [sumI]; rw [sumI_congr n (fun x hx => h x (by omega)), h n (by omega)]
theorem sumI_le {f g : Nat → Int} : ∀ n, (∀ x, x < n → f x ≤ g x) → sumI f n ≤ sumI g n
 | 0, _ => Int.le_refl _
 | n + 1, h => by
  have := sumI_le n (fun x hx => h x (by omega))
  have := h n (by omega)
  simp only [sumI]
  omega
theorem sumI_eq {f g : Nat → Int} : ∀ n, (∀ x, x < n → f x ≤ g x) → sumI f n = sumI g n → ∀ x, x < n → f x = g x
 | 0, _, _, x, hx => by omega
 | n + 1, h, he, x, hx => by
  have h1 := sumI_le n (fun x hx => h x (by omega))
  have h2 := h n (by omega)
  simp only [sumI] at he
  rcases Nat.lt_or_eq_of_le (Nat.lt_succ_iff.1 hx) with h3 | h3
  ·exact sumI_eq n (fun x hx => h x (by omega)) (by omega) x h3
  ·subst h3; omega
theorem sumI_one (v : Int) : ∀ n, sumI (fun x => if v = (x : Int) then 1 else 0) n = if 0 ≤ v ∧ v < n then 1 else 0
 | 0 => by
  simp only [sumI]
  rw [if_neg (by omega)]
 | n + 1 => by
  simp only [sumI, sumI_one v n]
  by_cases h : v = (n : Int)
  ·rw [if_neg (by omega), if_pos h, if_pos (by omega)]; omega
  ·rw [if_neg h]
   by_cases h2 : 0 ≤ v ∧ v < n
   ·rw [if_pos h2, if_pos (by omega)]; omega
   ·rw [if_neg h2, if_neg (by omega)]; omega
theorem count_sum (rows : List (List Int)) (wi n : Nat) : ∀ N, (∀ m, m < N → 0 ≤ zca rows wi m ∧ zca rows wi m < n) → sumI (fun x => zbt rows wi (x : Int) N) n = N
 | 0, _ => by
  have : sumI (fun x => zbt rows wi (x : Int) 0) n = sumI (fun _ => 0) n := rfl
  rw [this]
  have h0 : ∀ n, sumI (fun _ => 0) n = 0 := fun n => by induction n with
   | zero => rfl
   | succ n ih => simp only [sumI, ih]; rfl
  rw [h0]
  rfl
 | N + 1, h => by
  have ih := count_sum rows wi n N (fun m hm => h m (by omega))
  have h1 := h N (by omega)
  have h2 := sumI_one (zca rows wi N) n
  rw [if_pos h1] at h2
  have h3 : sumI (fun x => zbt rows wi (x : Int) (N + 1)) n = sumI (fun x => zbt rows wi (x : Int) N + (if zca rows wi N = (x : Int) then 1 else 0)) n := by
   apply sumI_congr
   intro x hx
   simp only [zbt]
   split <;> omega
  rw [h3, sumI_add, ih, h2]
  omega
def inBox (b : Rc) (wi m : Nat) : Prop := b.f0 ≤ (m / wi : Nat) ∧ ((m / wi : Nat) : Int) < b.f0 + b.f2 ∧ b.f1 ≤ (m % wi : Nat) ∧ ((m % wi : Nat) : Int) < b.f1 + b.f3
instance (b : Rc) (wi m : Nat) : Decidable (inBox b wi m) := by unfold inBox; exact inferInstance
def countB (b : Rc) (wi : Nat) : Nat → Int
 | 0 => 0
 | n + 1 => if inBox b wi n then countB b wi n + 1 else countB b wi n
theorem countN_le_B (rows : List (List Int)) (wi : Nat) (x : Int) (b : Rc) : ∀ n, (∀ m, m < n → zca rows wi m = x → inBox b wi m) → zbt rows wi x n ≤ countB b wi n
 | 0, _ => Int.le_refl _
 | n + 1, h => by
  have ih := countN_le_B rows wi x b n (fun m hm => h m (by omega))
  simp only [zbt, countB]
  by_cases hx : zca rows wi n = x
  ·rw [if_pos hx, if_pos (h n (by omega) hx)]; omega
  ·rw [if_neg hx]
   split <;> omega
def clamp (a n : Int) : Int := max 0 (min a n)
theorem countB_at (b : Rc) (hi wi : Nat) (hb : boundR b hi wi) : ∀ i j, i ≤ hi → j ≤ wi → (i < hi ∨ j = 0) → countB b wi (i * wi + j) = clamp ((i : Int) - b.f0) b.f2 * b.f3 + (if b.f0 ≤ i ∧ (i : Int) < b.f0 + b.f2 then clamp ((j : Int) - b.f1) b.f3 else 0) := by
 obtain ⟨b0, b1, b2, b3, b4, b5⟩ := hb
 intro i
 induction i with
 | zero =>
  intro j
  induction j with
  | zero =>
   intro _ _ _
   have h1 : clamp (((0 : Nat) : Int) - b.f0) b.f2 = 0 := by unfold clamp; omega
   have h2 : clamp (((0 : Nat) : Int) - b.f1) b.f3 = 0 := by unfold clamp; omega
   rw [h1, h2]
   simp [countB]
  | succ j ih =>
   intro h1 h2 h3
   have h := ih h1 (by omega) (by omega)
   obtain ⟨d1, d2⟩ := divmod_of (r := 0) (show j < wi by omega)
   show (if inBox b wi (0 * wi + j) then countB b wi (0 * wi + j) + 1 else countB b wi (0 * wi + j)) = _
   rw [h]
   have hib : inBox b wi (0 * wi + j) ↔ (b.f0 ≤ ((0 : Nat) : Int) ∧ ((0 : Nat) : Int) < b.f0 + b.f2 ∧ b.f1 ≤ (j : Int) ∧ (j : Int) < b.f1 + b.f3) := by unfold inBox; rw [d1, d2]
   by_cases hr : b.f0 ≤ ((0 : Nat) : Int) ∧ ((0 : Nat) : Int) < b.f0 + b.f2
   ·rw [if_pos hr, if_pos hr]
    have : clamp (((j + 1 : Nat) : Int) - b.f1) b.f3 = clamp ((j : Int) - b.f1) b.f3 + (if b.f1 ≤ (j : Int) ∧ (j : Int) < b.f1 + b.f3 then 1 else 0) := by
     unfold clamp; split <;> omega
    rw [this]
    by_cases hc : b.f1 ≤ (j : Int) ∧ (j : Int) < b.f1 + b.f3
    ·rw [if_pos (hib.2 ⟨hr.1, hr.2, hc.1, hc.2⟩), if_pos hc]; omega
    ·rw [if_neg (fun h => hc ⟨(hib.1 h).2.2.1, (hib.1 h).2.2.2⟩), if_neg hc]; omega
   ·rw [if_neg hr, if_neg hr, if_neg (fun h => hr ⟨(hib.1 h).1, (hib.1 h).2.1⟩)]
 | succ i ihi =>
  intro j
  induction j with
  | zero =>
   intro h1 _ _
   have h := ihi wi (by omega) (Nat.le_refl _) (by omega)
   rw [show (i + 1) * wi + 0 = i * wi + wi by rw [Nat.succ_mul]; omega, h]
   have e2 : clamp (((0 : Nat) : Int) - b.f1) b.f3 = 0 := by unfold clamp; omega
   have e3 : clamp ((wi : Int) - b.f1) b.f3 = b.f3 := by unfold clamp; omega
   rw [e2, e3]
   have e4 : (if b.f0 ≤ ((i + 1 : Nat) : Int) ∧ ((i + 1 : Nat) : Int) < b.f0 + b.f2 then (0 : Int) else 0) = 0 := by split <;> rfl
   rw [e4]
   by_cases hr : b.f0 ≤ (i : Int) ∧ (i : Int) < b.f0 + b.f2
   ·have e5 : clamp (((i + 1 : Nat) : Int) - b.f0) b.f2 = clamp ((i : Int) - b.f0) b.f2 + 1 := by unfold clamp; omega
    rw [if_pos hr, e5, Int.add_mul]
    omega
   ·have e5 : clamp (((i + 1 : Nat) : Int) - b.f0) b.f2 = clamp ((i : Int) - b.f0) b.f2 := by unfold clamp; omega
    rw [if_neg hr, e5]
  | succ j ih =>
   intro h1 h2 h3
   have h := ih h1 (by omega) (by omega)
   obtain ⟨d1, d2⟩ := divmod_of (r := i + 1) (show j < wi by omega)
   show (if inBox b wi ((i + 1) * wi + j) then countB b wi ((i + 1) * wi + j) + 1 else countB b wi ((i + 1) * wi + j)) = _
   rw [h]
   have hib : inBox b wi ((i + 1) * wi + j) ↔ (b.f0 ≤ ((i + 1 : Nat) : Int) ∧ ((i + 1 : Nat) : Int) < b.f0 + b.f2 ∧ b.f1 ≤ (j : Int) ∧ (j : Int) < b.f1 + b.f3) := by unfold inBox; rw [d1, d2]
   by_cases hr : b.f0 ≤ ((i + 1 : Nat) : Int) ∧ ((i + 1 : Nat) : Int) < b.f0 + b.f2
   ·rw [if_pos hr, if_pos hr]
    have : clamp (((j + 1 : Nat) : Int) - b.f1) b.f3 = clamp ((j : Int) - b.f1) b.f3 + (if b.f1 ≤ (j : Int) ∧ (j : Int) < b.f1 + b.f3 then 1 else 0) := by
     unfold clamp; split <;> omega
    rw [this]
    by_cases hc : b.f1 ≤ (j : Int) ∧ (j : Int) < b.f1 + b.f3
    ·rw [if_pos (hib.2 ⟨hr.1, hr.2, hc.1, hc.2⟩), if_pos hc]; omega
    ·rw [if_neg (fun h => hc ⟨(hib.1 h).2.2.1, (hib.1 h).2.2.2⟩), if_neg hc]; omega
   ·rw [if_neg hr, if_neg hr, if_neg (fun h => hr ⟨(hib.1 h).1, (hib.1 h).2.1⟩)]
theorem countB_all (b : Rc) (hi wi : Nat) (hb : boundR b hi wi) : countB b wi (hi * wi) = areaR b := by
 have := countB_at b hi wi hb hi 0 (Nat.le_refl _) (by omega) (Or.inr rfl)
 obtain ⟨b0, b1, b2, b3, b4, b5⟩ := hb
 rw [Nat.add_zero] at this
 have h2 : clamp (((0 : Nat) : Int) - b.f1) b.f3 = 0 := by unfold clamp; omega
 have h3 : clamp ((hi : Int) - b.f0) b.f2 = b.f2 := by unfold clamp; omega
 rw [this, h2, h3]
 unfold areaR
 split <;> omega
theorem maxN_ge (rows : List (List Int)) (wi : Nat) : ∀ n m, m < n → zca rows wi m + 1 ≤ maxN rows wi n
 | 0, m, h => by omega
 | n + 1, m, h => by
  simp only [maxN]
  rcases Nat.lt_or_eq_of_le (Nat.lt_succ_iff.1 h) with h1 | h1
  ·have := maxN_ge rows wi n m h1; omega
  ·subst h1; omega
theorem maxN_ub (rows : List (List Int)) (wi : Nat) (M : Int) (hM : 0 ≤ M) : ∀ n, (∀ m, m < n → zca rows wi m + 1 ≤ M) → maxN rows wi n ≤ M
 | 0, _ => hM
 | n + 1, h => by
  have := maxN_ub rows wi M hM n (fun m hm => h m (by omega))
  have := h n (by omega)
  simp only [maxN]
  omega
theorem roomN_ge (rows : List (List Int)) (wi : Nat) (x t l : Int) : ∀ n m, m < n → zca rows wi m = x → (zcq rows wi x t l n).1 ≤ (m / wi : Nat) ∧ (zcq rows wi x t l n).2.1 ≤ (m % wi : Nat) ∧ ((m / wi : Nat) : Int) ≤ (zcq rows wi x t l n).2.2.1 ∧ ((m % wi : Nat) : Int) ≤ (zcq rows wi x t l n).2.2.2
 | 0, m, h, _ => by omega
 | n + 1, m, h, hx => by
  simp only [zcq]
  rcases Nat.lt_or_eq_of_le (Nat.lt_succ_iff.1 h) with h1 | h1
  ·have ih := roomN_ge rows wi x t l n m h1 hx
   generalize zcq rows wi x t l n = q at *
   split
   ·dsimp only; omega
   ·exact ih
  ·subst h1
   rw [if_pos hx]
   dsimp only
   omega
theorem roomN_at (rows : List (List Int)) (wi : Nat) (x t l : Int) : ∀ n,
  ((zcq rows wi x t l n).1 = t ∨ ∃ m, m < n ∧ zca rows wi m = x ∧ (zcq rows wi x t l n).1 = (m / wi : Nat)) ∧
  ((zcq rows wi x t l n).2.1 = l ∨ ∃ m, m < n ∧ zca rows wi m = x ∧ (zcq rows wi x t l n).2.1 = (m % wi : Nat)) ∧
  ((zcq rows wi x t l n).2.2.1 = -1 ∨ ∃ m, m < n ∧ zca rows wi m = x ∧ (zcq rows wi x t l n).2.2.1 = (m / wi : Nat)) ∧
  ((zcq rows wi x t l n).2.2.2 = -1 ∨ ∃ m, m < n ∧ zca rows wi m = x ∧ (zcq rows wi x t l n).2.2.2 = (m % wi : Nat))
 | 0 => ⟨.inl rfl, .inl rfl, .inl rfl, .inl rfl⟩
 | n + 1 => by
  obtain ⟨h1, h2, h3, h4⟩ := roomN_at rows wi x t l n
  simp only [zcq]
  generalize zcq rows wi x t l n = q at *
  by_cases hx : zca rows wi n = x
  ·rw [if_pos hx]
   dsimp only
   refine ⟨?_, ?_, ?_, ?_⟩
   ·by_cases hc : q.1 ≤ ((n / wi : Nat) : Int)
    ·rw [Int.min_eq_left hc]
     rcases h1 with h | ⟨m, a, b, c⟩
     ·exact .inl h
     ·exact .inr ⟨m, by omega, b, c⟩
    ·exact .inr ⟨n, by omega, hx, Int.min_eq_right (by omega)⟩
   ·by_cases hc : q.2.1 ≤ ((n % wi : Nat) : Int)
    ·rw [Int.min_eq_left hc]
     rcases h2 with h | ⟨m, a, b, c⟩
     ·exact .inl h
     ·exact .inr ⟨m, by omega, b, c⟩
    ·exact .inr ⟨n, by omega, hx, Int.min_eq_right (by omega)⟩
   ·by_cases hc : ((n / wi : Nat) : Int) ≤ q.2.2.1
    ·rw [Int.max_eq_left hc]
     rcases h3 with h | ⟨m, a, b, c⟩
     ·exact .inl h
     ·exact .inr ⟨m, by omega, b, c⟩
    ·exact .inr ⟨n, by omega, hx, Int.max_eq_right (by omega)⟩
   ·by_cases hc : ((n % wi : Nat) : Int) ≤ q.2.2.2
    ·rw [Int.max_eq_left hc]
     rcases h4 with h | ⟨m, a, b, c⟩
     ·exact .inl h
     ·exact .inr ⟨m, by omega, b, c⟩
    ·exact .inr ⟨n, by omega, hx, Int.max_eq_right (by omega)⟩
  ·rw [if_neg hx]
   refine ⟨?_, ?_, ?_, ?_⟩
   ·rcases h1 with h | ⟨m, a, b, c⟩
    ·exact .inl h
    ·exact .inr ⟨m, by omega, b, c⟩
   ·rcases h2 with h | ⟨m, a, b, c⟩
    ·exact .inl h
    ·exact .inr ⟨m, by omega, b, c⟩
   ·rcases h3 with h | ⟨m, a, b, c⟩
    ·exact .inl h
    ·exact .inr ⟨m, by omega, b, c⟩
   ·rcases h4 with h | ⟨m, a, b, c⟩
    ·exact .inl h
    ·exact .inr ⟨m, by omega, b, c⟩
theorem room_box {rows rows' : List (List Int)} {hi wi : Nat} {x y : Int} {b : Rc} (he : ∀ m, m < hi * wi → (zca rows wi m = x ↔ zas rows' (m / wi) (m % wi) = y)) (hb : BoxN rows' wi (hi * wi) y b) (hbd : boundR b hi wi) (t l : Int) (ht : (hi : Int) ≤ t) (hl : (wi : Int) ≤ l) :
  roomOut (zcq rows wi x t l (hi * wi)) = (b.f0, b.f1, b.f2, b.f3) := by
 obtain ⟨b0, b1, b2, b3, b4, b5⟩ := hbd
 obtain ⟨m1, n1, v1, e1⟩ := hb.top
 obtain ⟨m2, n2, v2, e2⟩ := hb.low
 obtain ⟨m3, n3, v3, e3⟩ := hb.left
 obtain ⟨m4, n4, v4, e4⟩ := hb.right
 have g1 := roomN_ge rows wi x t l (hi * wi) m1 n1 ((he m1 n1).2 v1)
 have g2 := roomN_ge rows wi x t l (hi * wi) m2 n2 ((he m2 n2).2 v2)
 have g3 := roomN_ge rows wi x t l (hi * wi) m3 n3 ((he m3 n3).2 v3)
 have g4 := roomN_ge rows wi x t l (hi * wi) m4 n4 ((he m4 n4).2 v4)
 obtain ⟨a1, a2, a3, a4⟩ := roomN_at rows wi x t l (hi * wi)
 have key : ∀ m, m < hi * wi → zca rows wi m = x → b.f0 ≤ (m / wi : Nat) ∧ ((m / wi : Nat) : Int) < b.f0 + b.f2 ∧ b.f1 ≤ (m % wi : Nat) ∧ ((m % wi : Nat) : Int) < b.f1 + b.f3 := fun m hm hx => hb.ins m hm ((he m hm).1 hx)
 generalize zcq rows wi x t l (hi * wi) = q at *
 have r1 : q.1 = b.f0 := by
  rcases a1 with h | ⟨m, n, v, e⟩
  ·omega
  ·have := key m n v; omega
 have r2 : q.2.1 = b.f1 := by
  rcases a2 with h | ⟨m, n, v, e⟩
  ·omega
  ·have := key m n v; omega
 have r3 : q.2.2.1 = b.f0 + b.f2 - 1 := by
  rcases a3 with h | ⟨m, n, v, e⟩
  ·omega
  ·have := key m n v; omega
 have r4 : q.2.2.2 = b.f1 + b.f3 - 1 := by
  rcases a4 with h | ⟨m, n, v, e⟩
  ·omega
  ·have := key m n v; omega
 unfold roomOut
 rw [r1, r2, r3, r4]
 congr 3
 ·omega
 ·omega
theorem letterOf_toNat {x : Int} (h0 : 0 ≤ x) (h1 : x ≤ 100) : ((letterOf x).toNat : Int) = 97 + x := by
 unfold letterOf
 rw [UInt8.toNat_ofNat']
 omega
theorem bytesOf_rowText (row : List Int) (h : ∀ x ∈ row, 0 ≤ x ∧ x ≤ 100) : zax (rowText row) = row.map (fun x => 97 + x) := by
 unfold zax rowText rowBytes
 show ((row.map letterOf).toArray.toList).map _ = _
 rw [List.map_map]
 apply List.map_congr_left
 intro x hx
 exact letterOf_toNat (h x hx).1 (h x hx).2
theorem numsOf_textOf (cs : List (List Int)) (h : ∀ r ∈ cs, ∀ x ∈ r, 0 ≤ x ∧ x ≤ 100) : zah (zbw cs) = cs.map (fun r => r.map (fun x => 97 + x)) := by
 unfold zah zbw
 rw [List.map_map]
 apply List.map_congr_left
 intro r hr
 exact bytesOf_rowText r (h r hr)
theorem canon_val {rows : List (List Int)} (h : zbi rows = true) : ∀ r ∈ canon rows, ∀ x ∈ r, 0 ≤ x ∧ x ≤ 100 := by
 have hL := shape_order h
 intro r hr x hx
 unfold canon canonL at hr
 simp at hr
 obtain ⟨a, _, rfl⟩ := hr
 simp at hx
 obtain ⟨y, _, rfl⟩ := hx
 have := List.idxOf_le_length (a := y) (l := zbj rows)
 omega
structure Canon (p : List ByteArray) : Prop where
 grid : gridOk p = true
 names : namesOf p = p
theorem Canon.shape {p : List ByteArray} (h : Canon p) : zbi (zah p) = true := by
 have := h.grid
 unfold gridOk at this
 rw [Bool.and_eq_true] at this
 exact this.1
theorem zbg (p : List ByteArray) : (zah p).length = p.length := by simp [zah]
theorem Canon.cell {p : List ByteArray} (h : Canon p) : ∀ m, m < p.length * zag (zah p) → zca (zah p) (zag (zah p)) m = ((zbj (zah p)).idxOf (zas (zah p) (m / zag (zah p)) (m % zag (zah p))) : Int) := by
 intro m hm
 have hR := zch h.shape
 have h1 : zah p = (canon (zah p)).map (fun r => r.map (fun x => 97 + x)) := by
  have := numsOf_textOf (canon (zah p)) (canon_val h.shape)
  rw [show zbw (canon (zah p)) = p from h.names] at this
  exact this
 have hwi : 0 < zag (zah p) := by
  rcases Nat.eq_zero_or_pos (zag (zah p)) with h0 | h0
  ·rw [h0] at hm; simp at hm
  ·exact h0
 have hr : m / zag (zah p) < (zah p).length := by rw [zbg, Nat.div_lt_iff_lt_mul hwi]; exact hm
 have hc := Nat.mod_lt m hwi
 have hcr : Rect (zag (zah p)) (canon (zah p)) := by rw [canon_grid hR]; exact gridOf_rect _ _ _
 have h2 := rect_map hcr (fun x => 97 + x)
 rw [← h1] at h2
 have hcl : (canon (zah p)).length = (zah p).length := by simp [canon, canonL]
 unfold zca
 have h3 := congrArg (fun R => zas R (m / zag (zah p)) (m % zag (zah p))) h2
 have h4 := congrArg (fun R => zas R (m / zag (zah p)) (m % zag (zah p))) (canon_grid hR)
 try dsimp only at h3 h4
 rw [valAt_gridOf (by rw [hcl]; exact hr) hc] at h3
 rw [valAt_gridOf hr hc] at h4
 omega
theorem rooms_len {rows : List (List Int)} (h : zbi rows = true) : (zbj rows).length = (zau rows).length := by
 rw [← stAt_all (zch h)]
 exact (stAt_len rows (zag rows) _).1
theorem rooms_box {rows : List (List Int)} (h : zbi rows = true) (i : Nat) (hi : i < (zau rows).length) : ∃ x, (zbj rows)[i]? = some x ∧ BoxN rows (zag rows) (rows.length * zag rows) x ((zau rows).getD i zbz) ∧ boundR ((zau rows).getD i zbz) rows.length (zag rows) := by
 have hl := rooms_len h
 obtain ⟨x, hx⟩ : ∃ x, (zbj rows)[i]? = some x := ⟨_, List.getElem?_eq_getElem (by omega)⟩
 have hb : (zau rows)[i]? = some ((zau rows).getD i zbz) := by
  rw [List.getD_eq_getElem?_getD, List.getElem?_eq_getElem hi]
  rfl
 have hx2 := hx
 rw [← stAt_all (zch h)] at hx2
 exact ⟨x, hx, stAt_box rows (zag rows) _ i x _ hx2 hb, (stAt_inv rows rows.length (zag rows) _ (Nat.le_refl _)).2.2.2 _ (List.mem_of_getElem? hb)⟩
theorem idx_iff {L : List Int} (hn : L.Nodup) {i : Nat} {x v : Int} (hx : L[i]? = some x) (hv : v ∈ L) : ((L.idxOf v : Int) = (i : Int) ↔ v = x) := by
 have hi := (List.getElem?_eq_some_iff.1 hx).1
 have hk := List.idxOf_lt_length_of_mem hv
 have e : L[L.idxOf v] = v := List.getElem_idxOf hk
 rw [List.getElem?_eq_getElem hi] at hx
 have hx := Option.some.inj hx
 constructor
 ·intro h
  have h : L.idxOf v = i := by omega
  subst h
  rw [← e, hx]
 ·rintro rfl
  have := nodup_inj hn hk hi (e.trans hx.symm)
  omega
theorem ordAll_nodup (rows : List (List Int)) : (zbj rows).Nodup := ordL_nodup _ _ List.nodup_nil
theorem cell_mem {rows : List (List Int)} (h : zbi rows = true) (m : Nat) (hm : m < rows.length * zag rows) : zas rows (m / zag rows) (m % zag rows) ∈ zbj rows := by
 have := flatten_get rows (zch h) m hm
 exact ordL_mem _ _ _ (List.mem_of_getElem? this)
theorem mem_cell {rows : List (List Int)} (h : zbi rows = true) (x : Int) (hx : x ∈ zbj rows) : ∃ m, m < rows.length * zag rows ∧ zas rows (m / zag rows) (m % zag rows) = x := by
 rcases ordL_sub _ _ x hx with h1 | h1
 ·cases h1
 ·obtain ⟨m, hm, e⟩ := List.mem_iff_getElem.1 h1
  have hl := flatten_length_le rows _ (zch h)
  refine ⟨m, by omega, ?_⟩
  have := flatten_get rows (zch h) m (by omega)
  rw [List.getElem?_eq_getElem hm, e] at this
  exact (Option.some.inj this).symm
theorem Canon.max {p : List ByteArray} (h : Canon p) : maxN (zah p) (zag (zah p)) (p.length * zag (zah p)) = (zau (zah p)).length := by
 have hs := h.shape
 have hl := rooms_len hs
 have hc := h.cell
 obtain ⟨s1, s2, s3, s4, s5⟩ := (zbv _).1 hs
 rw [zbg] at s1 s2
 have hpos : 0 < p.length * zag (zah p) := Nat.mul_pos (by omega) (by omega)
 have hub := maxN_ub (zah p) (zag (zah p)) ((zau (zah p)).length : Int) (by omega) (p.length * zag (zah p)) (fun m hm => by
  rw [hc m hm]
  have := List.idxOf_lt_length_of_mem (cell_mem hs m (by rw [zbg]; exact hm))
  omega)
 have h0 := List.idxOf_lt_length_of_mem (cell_mem hs 0 (by rw [zbg]; exact hpos))
 obtain ⟨y, hy⟩ : ∃ y, (zbj (zah p))[(zbj (zah p)).length - 1]? = some y := ⟨_, List.getElem?_eq_getElem (by omega)⟩
 obtain ⟨m, hm, hv⟩ := mem_cell hs y (List.mem_of_getElem? hy)
 rw [zbg] at hm
 have hge := maxN_ge (zah p) (zag (zah p)) _ m hm
 have hi := (idx_iff (ordAll_nodup (zah p)) hy (List.mem_of_getElem? hy)).2 rfl
 rw [hc m hm, hv] at hge
 omega
theorem Canon.room {p : List ByteArray} (h : Canon p) (i : Nat) (hi : i < (zau (zah p)).length) : let b := (zau (zah p)).getD i zbz
  roomOut (zcq (zah p) (zag (zah p)) (i : Int) (p.length : Int) (zag (zah p) : Int) (p.length * zag (zah p))) = (b.f0, b.f1, b.f2, b.f3) ∧ zbt (zah p) (zag (zah p)) (i : Int) (p.length * zag (zah p)) ≤ areaR b ∧ boundR b p.length (zag (zah p)) := by
 intro b
 have hs := h.shape
 obtain ⟨x, hx, hb, hbd⟩ := rooms_box hs i hi
 rw [zbg] at hb hbd
 have hiff : ∀ m, m < p.length * zag (zah p) → (zca (zah p) (zag (zah p)) m = (i : Int) ↔ zas (zah p) (m / zag (zah p)) (m % zag (zah p)) = x) := fun m hm => by
  rw [h.cell m hm]
  exact idx_iff (ordAll_nodup _) hx (cell_mem hs m (by rw [zbg]; exact hm))
 refine ⟨room_box hiff hb hbd _ _ (Int.le_refl _) (Int.le_refl _), ?_, hbd⟩
 rw [← countB_all b p.length (zag (zah p)) hbd]
 exact countN_le_B _ _ _ _ _ (fun m hm hv => hb.ins m hm ((hiff m hm).1 hv))
theorem Canon.sum {p : List ByteArray} (h : Canon p) : sumI (fun x => zbt (zah p) (zag (zah p)) (x : Int) (p.length * zag (zah p))) (zau (zah p)).length = ((p.length * zag (zah p) : Nat) : Int) := by
 refine count_sum _ _ _ _ (fun m hm => ?_)
 rw [h.cell m hm]
 have := List.idxOf_lt_length_of_mem (cell_mem h.shape m (by rw [zbg]; exact hm))
 have := rooms_len h.shape
 omega
theorem sumArea_sumI (rs : List Rc) : zbs rs = sumI (fun x => areaR (rs.getD x zbz)) rs.length := by
 have : ∀ n, n ≤ rs.length → zbs (rs.take n) = sumI (fun x => areaR (rs.getD x zbz)) n := by
  intro n
  induction n with
  | zero => intro _; simp [zbs, sumI]
  | succ n ih => intro hn; rw [sum_take rs n (by omega), ih (by omega)]; rfl
 have h := this rs.length (Nat.le_refl _)
 rwa [List.take_length] at h
def fullB (p : List ByteArray) (x : Nat) : Bool := decide (zbt (zah p) (zag (zah p)) (x : Int) (p.length * zag (zah p)) = areaR ((zau (zah p)).getD x zbz))
theorem full_iff {p : List ByteArray} (h : Canon p) : (List.range (zau (zah p)).length).all (fullB p) = decide (zbs (zau (zah p)) = (p.length : Int) * (zag (zah p) : Int)) := by
 rw [Bool.eq_iff_iff, List.all_eq_true, decide_eq_true_eq, sumArea_sumI, ← Int.natCast_mul, ← h.sum]
 constructor
 ·intro hall
  refine (sumI_congr _ (fun x hx => ?_)).symm
  have := hall x (List.mem_range.2 hx)
  unfold fullB at this
  exact of_decide_eq_true this
 ·intro he x hx
  have := sumI_eq _ (fun x hx => (h.room x hx).2.1) he.symm x (List.mem_range.1 hx)
  unfold fullB
  exact decide_eq_true this
theorem planIn_l0 {p : List ByteArray} (h : Canon p) : ∀ m r, r + m = (zau (zah p)).length → Evs (fun k => spec_PlanIn.l0 k p (r : Int)) (((List.range (zau (zah p)).length).drop r).all (fullB p)) := by
 have hsm := gridOk_small h.grid
 obtain ⟨s1, s2, s3, s4, s5⟩ := (zbv _).1 h.shape
 rw [zbg] at s1 s2
 have hR := l1Rooms_ev p _ hsm
 rw [h.max] at hR
 have hrl : (zau (zah p)).length ≤ 36 := by have := rooms_len h.shape; have := shape_order h.shape; omega
 intro m
 induction m with
 | zero =>
  intro r hr
  rw [List.drop_eq_nil_of_le (by simp; omega)]
  refine Evs.step (h := fun k => (spec_l1Rooms.f k p).bind fun t => if (r : Int) < t then ((spec_l1Room.f k p (r : Int)).bind fun bt161 => ((spec_l1Cells.f k p (r : Int)).bind fun t165 => (if t165 = (wrap64 (bt161.2.2.1 * bt161.2.2.2)) then (spec_PlanIn.l0 k p (wrap64 ((r : Int) + 1))) else (some false)))) else some true) (fun k => ?_) (Evs.bind hR ?_)
  ·conv => lhs; unfold spec_PlanIn.l0
  ·refine Evs.congr (h := fun _ => some true) (fun k => ?_) (Evs.const _)
   try dsimp only
   rw [if_neg (by omega)]
 | succ m ih =>
  intro r hr
  obtain ⟨q1, q2, q3⟩ := h.room r (by omega)
  have hroom := l1Room_ev p _ hsm s1 (r : Int)
  have hcnt := l1Cells_ev p _ hsm (r : Int)
  rw [q1] at hroom
  have hab := area_bound q3 s2 s4
  have hdrop : (List.range (zau (zah p)).length).drop r = r :: (List.range (zau (zah p)).length).drop (r + 1) := by
   rw [List.drop_eq_getElem_cons (by simp; omega)]
   simp
  rw [hdrop, List.all_cons]
  refine Evs.step (h := fun k => (spec_l1Rooms.f k p).bind fun t => if (r : Int) < t then ((spec_l1Room.f k p (r : Int)).bind fun bt161 => ((spec_l1Cells.f k p (r : Int)).bind fun t165 => (if t165 = (wrap64 (bt161.2.2.1 * bt161.2.2.2)) then (spec_PlanIn.l0 k p (wrap64 ((r : Int) + 1))) else (some false)))) else some true) (fun k => ?_) (Evs.bind hR ?_)
  ·conv => lhs; unfold spec_PlanIn.l0
  ·refine Evs.congr (h := fun k => ((spec_l1Room.f k p (r : Int)).bind fun bt161 => ((spec_l1Cells.f k p (r : Int)).bind fun t165 => (if t165 = (wrap64 (bt161.2.2.1 * bt161.2.2.2)) then (spec_PlanIn.l0 k p (wrap64 ((r : Int) + 1))) else (some false))))) (fun k => ?_) ?_
   ·try dsimp only
    rw [if_pos (by omega)]
   ·refine Evs.bind hroom (Evs.bind hcnt ?_)
    try dsimp only
    have hw : wrap64 (((zau (zah p)).getD r zbz).f2 * ((zau (zah p)).getD r zbz).f3) = areaR ((zau (zah p)).getD r zbz) := by
     have h3 := hab
     unfold areaR at h3 ⊢
     exact zap (by omega) (by omega)
    rw [hw]
    have hnx := ih (r + 1) (by omega)
    by_cases hf : zbt (zah p) (zag (zah p)) (r : Int) (p.length * zag (zah p)) = areaR ((zau (zah p)).getD r zbz)
    ·have : fullB p r = true := decide_eq_true hf
     rw [this, Bool.true_and]
     refine Evs.congr (fun k => ?_) hnx
     rw [if_pos hf, zbf (by omega)]
    ·have : fullB p r = false := decide_eq_false hf
     rw [this, Bool.false_and]
     refine Evs.congr (h := fun _ => some false) (fun k => ?_) (Evs.const _)
     rw [if_neg hf]
theorem planIn_j0 (k : Nat) (p : List ByteArray) (b : Bool) : spec_PlanIn.j0 (k + 1) p b = if b = true then some false else spec_PlanIn.l0 k p 0 := by simp only [spec_PlanIn.j0]
def planB (p : List ByteArray) : Bool := (zby p).isSome
theorem settled_shape {rows : List (List Int)} (h : zbi rows = true) : zcc rows = if (zau rows).length ≤ 9 then some (canon rows, zau rows, decide (zbs (zau rows) = (rows.length : Int) * (zag rows : Int))) else none := by
 unfold zcc
 rw [if_pos h, cellsOf_canon h]
theorem floorF_grid {p : List ByteArray} (h : gridOk p = true) : zby p = if (zau (zah p)).length ≤ 9 ∧ zbs (zau (zah p)) = (p.length : Int) * (zag (zah p) : Int) ∧ namesOf p = p then some (canon (zah p), zau (zah p)) else none := by
 unfold gridOk at h
 rw [Bool.and_eq_true] at h
 unfold zby readF
 rw [if_pos h.2, settled_shape h.1, zbg]
 by_cases h9 : (zau (zah p)).length ≤ 9
 ·rw [if_pos h9]
  simp only [Option.bind_some, decide_eq_true_eq]
  rw [show zbw (canon (zah p)) = namesOf p from rfl]
  by_cases hs : zbs (zau (zah p)) = (p.length : Int) * (zag (zah p) : Int) ∧ namesOf p = p
  ·rw [if_pos hs, if_pos ⟨h9, hs⟩]
  ·rw [if_neg hs, if_neg (fun hh => hs hh.2)]
 ·rw [if_neg h9, if_neg (fun hh => h9 hh.1)]
  rfl
theorem floorF_nogrid {p : List ByteArray} (h : gridOk p = false) : zby p = none := by
 unfold zby readF
 unfold gridOk at h
 by_cases ha : p.all okText = true
 ·rw [ha, Bool.and_true] at h
  rw [if_pos ha]
  unfold zcc
  rw [if_neg (by rw [h]; simp)]
  rfl
 ·rw [if_neg ha]
  rfl
theorem PlanIn_ev (p : List ByteArray) (hp : zcp p) : Evs (fun k => spec_PlanIn.f k p) (planB p) := by
 have hg := l1Grid_ev p hp
 cases hG : gridOk p
 ·rw [hG] at hg
  have : planB p = false := by unfold planB; rw [floorF_nogrid hG]; rfl
  rw [this]
  refine Evs.bind hg ?_
  refine Evs.congr (h := fun k => spec_PlanIn.j0 k p true) (fun k => ?_) (Evs.step (h := fun _ => some false) (fun k => ?_) (Evs.const _))
  ·try dsimp only
   rw [if_neg (by simp)]
  ·rw [planIn_j0]
   rw [if_pos rfl]
 ·rw [hG] at hg
  have hs : zbi (zah p) = true := by
   unfold gridOk at hG
   rw [Bool.and_eq_true] at hG
   exact hG.1
  have hn := l1Names_ev p hp (by have := shape_order hs; omega)
  have hsame := l1Same_ev (namesOf p) p (by simp [namesOf, zbw, canon, canonL, zah]; have := hp.1; omega)
  refine Evs.bind hg ?_
  refine Evs.congr (h := fun k => (spec_l1Names.f k p).bind fun t155 => ((spec_l1Same.f k t155 p).bind fun t158 => (if t158 = true then ((spec_l1Rooms.f k p).bind fun t159 => (spec_PlanIn.j0 k p (decide (t159 > 9)))) else (spec_PlanIn.j0 k p true)))) (fun k => ?_) (Evs.bind hn (Evs.bind hsame ?_))
  ·try dsimp only
   rw [if_pos rfl]
  ·unfold planB
   rw [floorF_grid hG]
   by_cases hN : namesOf p = p
   ·have hC : Canon p := ⟨hG, hN⟩
    have hR := l1Rooms_ev p _ (gridOk_small hG)
    rw [hC.max] at hR
    refine Evs.congr (h := fun k => (spec_l1Rooms.f k p).bind fun t159 => (spec_PlanIn.j0 k p (decide (t159 > 9)))) (fun k => ?_) (Evs.bind hR ?_)
    ·try dsimp only
     rw [decide_eq_true hN, if_pos rfl]
    ·by_cases h9 : (zau (zah p)).length ≤ 9
     ·refine Evs.step (h := fun k => spec_PlanIn.l0 k p ((0 : Nat) : Int)) (fun k => ?_) ?_
      ·try dsimp only
       rw [planIn_j0]
       rw [decide_eq_false (by omega), if_neg (by simp)]
       rfl
      ·have := planIn_l0 hC (zau (zah p)).length 0 (by omega)
       rw [List.drop_zero, full_iff hC] at this
       by_cases hsum : zbs (zau (zah p)) = (p.length : Int) * (zag (zah p) : Int)
       ·rw [decide_eq_true hsum] at this
        rw [if_pos ⟨h9, hsum, hN⟩]
        exact this
       ·rw [decide_eq_false hsum] at this
        rw [if_neg (fun hh => hsum hh.2.1)]
        exact this
     ·rw [if_neg (fun hh => h9 hh.1)]
      refine Evs.step (h := fun _ => some false) (fun k => ?_) (Evs.const _)
      try dsimp only
      rw [planIn_j0]
      rw [decide_eq_true (by omega), if_pos rfl]
   ·rw [if_neg (fun hh => hN hh.2.2)]
    refine Evs.congr (h := fun k => spec_PlanIn.j0 k p true) (fun k => ?_) (Evs.step (h := fun _ => some false) (fun k => ?_) (Evs.const _))
    ·try dsimp only
     rw [decide_eq_false hN, if_neg (by simp)]
    ·rw [planIn_j0]
     rw [if_pos rfl]
def mapG (f : Int → Int) (rows : List (List Int)) : List (List Int) := rows.map fun r => r.map f
def InjOn (f : Int → Int) (S : Int → Prop) : Prop := ∀ a b, S a → S b → f a = f b → a = b
theorem idxOf_map (f : Int → Int) (S : Int → Prop) (hf : InjOn f S) (x : Int) (hx : S x) : ∀ L : List Int, (∀ y ∈ L, S y) → (L.map f).idxOf (f x) = L.idxOf x
 | [], _ => rfl
 | y :: r, h => by
  rw [List.map_cons, List.idxOf_cons, List.idxOf_cons]
  by_cases he : y = x
  ·subst he; simp
  ·have : f y ≠ f x := fun e => he (hf y x (h y List.mem_cons_self) hx e)
   have h1 : (f y == f x) = false := by simp [this]
   have h2 : (y == x) = false := by simp [he]
   rw [h1, h2, idxOf_map f S hf x hx r (fun z hz => h z (List.mem_cons_of_mem _ hz))]
theorem pushL_map (f : Int → Int) (S : Int → Prop) (hf : InjOn f S) (x : Int) (hx : S x) (o : List Int) (ho : ∀ y ∈ o, S y) : pushL (o.map f) (f x) = (pushL o x).map f := by
 have hiff : f x ∈ o.map f ↔ x ∈ o := by
  rw [List.mem_map]
  constructor
  ·rintro ⟨y, hy, e⟩
   rw [← hf y x (ho y hy) hx e]
   exact hy
  ·exact fun h => ⟨x, h, rfl⟩
 unfold pushL
 by_cases h : x ∈ o
 ·rw [if_pos h, if_pos (hiff.2 h)]
 ·rw [if_neg h, if_neg (fun hh => h (hiff.1 hh))]
  simp
theorem pushL_all {S : Int → Prop} {x : Int} (hx : S x) {o : List Int} (ho : ∀ y ∈ o, S y) : ∀ y ∈ pushL o x, S y := by
 intro y hy
 unfold pushL at hy
 split at hy
 ·exact ho y hy
 ·rcases List.mem_append.1 hy with h | h
  ·exact ho y h
  ·simp at h; subst h; exact hx
theorem ordL_map (f : Int → Int) (S : Int → Prop) (hf : InjOn f S) : ∀ (xs o : List Int), (∀ y ∈ xs, S y) → (∀ y ∈ o, S y) → ordL (xs.map f) (o.map f) = (ordL xs o).map f
 | [], o, _, _ => rfl
 | x :: r, o, h, ho => by
  show ordL (r.map f) (pushL (o.map f) (f x)) = (ordL r (pushL o x)).map f
  have hx := h x List.mem_cons_self
  rw [pushL_map f S hf x hx o ho]
  exact ordL_map f S hf r (pushL o x) (fun z hz => h z (List.mem_cons_of_mem _ hz)) (pushL_all hx ho)
theorem mapG_length (f : Int → Int) (rows : List (List Int)) : (mapG f rows).length = rows.length := by simp [mapG]
theorem mapG_flatten (f : Int → Int) (rows : List (List Int)) : (mapG f rows).flatten = rows.flatten.map f := by
 unfold mapG
 rw [List.map_flatten]
theorem mapG_wide (f : Int → Int) (rows : List (List Int)) : zag (mapG f rows) = zag rows := by
 unfold zag mapG
 cases rows with
 | nil => rfl
 | cons a r => simp
theorem mapG_shape (f : Int → Int) (rows : List (List Int)) : zbi (mapG f rows) = zbi rows := by
 rw [Bool.eq_iff_iff, zbv, zbv, mapG_length, mapG_wide]
 have : (∀ r ∈ mapG f rows, r.length = zag rows) ↔ (∀ r ∈ rows, r.length = zag rows) := by
  constructor
  ·intro h r hr
   have := h (r.map f) (List.mem_map.2 ⟨r, hr, rfl⟩)
   simpa using this
  ·intro h r hr
   obtain ⟨a, ha, rfl⟩ := List.mem_map.1 hr
   rw [List.length_map]
   exact h a ha
 rw [this]
def Vals (rows : List (List Int)) (x : Int) : Prop := x ∈ rows.flatten
theorem ordAll_map {f : Int → Int} {rows : List (List Int)} (hf : InjOn f (Vals rows)) : zbj (mapG f rows) = (zbj rows).map f := by
 unfold zbj
 rw [mapG_flatten]
 exact ordL_map f (Vals rows) hf rows.flatten [] (fun y hy => hy) (by simp)
theorem ordAll_vals (rows : List (List Int)) : ∀ y ∈ zbj rows, Vals rows y := by
 intro y hy
 rcases ordL_sub _ _ y hy with h | h
 ·cases h
 ·exact h
theorem canon_map {f : Int → Int} {rows : List (List Int)} (hf : InjOn f (Vals rows)) : canon (mapG f rows) = canon rows := by
 unfold canon canonL
 rw [ordAll_map hf]
 unfold mapG
 rw [List.map_map]
 apply List.map_congr_left
 intro r hr
 show (r.map f).map _ = _
 rw [List.map_map]
 apply List.map_congr_left
 intro x hx
 show (((zbj rows).map f).idxOf (f x) : Int) = _
 rw [idxOf_map f (Vals rows) hf x (List.mem_flatten.2 ⟨r, hr, hx⟩) _ (ordAll_vals rows)]
theorem valAt_map {rows : List (List Int)} {wi r c : Nat} (h : Rect wi rows) (f : Int → Int) (hr : r < rows.length) (hc : c < wi) : zas (mapG f rows) r c = f (zas rows r c) := by
 have := congrArg (fun R => zas R r c) (rect_map h f)
 unfold mapG
 rw [show zas (rows.map fun r => r.map f) r c = zas (zbl rows.length wi fun r c => f (zas rows r c)) r c from this, valAt_gridOf hr hc]
theorem val_mem {rows : List (List Int)} {wi r c : Nat} (h : Rect wi rows) (hr : r < rows.length) (hc : c < wi) : Vals rows (zas rows r c) := by
 obtain ⟨row, h1, h2⟩ := valAt_get h hr hc
 exact List.mem_flatten.2 ⟨row, List.mem_of_getElem? h1, List.mem_of_getElem? h2⟩
theorem stAt_map {f : Int → Int} {rows : List (List Int)} {wi : Nat} (h : Rect wi rows) (hf : InjOn f (Vals rows)) : ∀ n, n ≤ rows.length * wi → stAt (mapG f rows) wi n = ((stAt rows wi n).1.map f, (stAt rows wi n).2)
 | 0, _ => rfl
 | n + 1, hn => by
  have hwi : 0 < wi := by
   rcases Nat.eq_zero_or_pos wi with h0 | h0
   ·subst h0; simp at hn
   ·exact h0
  have hr : n / wi < rows.length := by rw [Nat.div_lt_iff_lt_mul hwi]; omega
  have hc := Nat.mod_lt n hwi
  have hvals : ∀ y ∈ (stAt rows wi n).1, Vals rows y := by
   rw [stAt_ord h n (by omega)]
   intro y hy
   rcases ordL_sub _ _ y hy with h1 | h1
   ·cases h1
   ·exact List.mem_of_mem_take h1
  have hv := val_mem h hr hc
  simp only [stAt]
  rw [stAt_map h hf n (by omega), valAt_map h f hr hc]
  have hiff : f (zas rows (n / wi) (n % wi)) ∈ (stAt rows wi n).1.map f ↔ zas rows (n / wi) (n % wi) ∈ (stAt rows wi n).1 := by
   rw [List.mem_map]
   constructor
   ·rintro ⟨y, hy, e⟩
    rw [← hf y _ (hvals y hy) hv e]
    exact hy
   ·exact fun h => ⟨_, h, rfl⟩
  unfold stepS
  by_cases hm : zas rows (n / wi) (n % wi) ∈ (stAt rows wi n).1
  ·rw [if_pos hm, if_pos (hiff.2 hm)]
   simp only
   rw [idxOf_map f (Vals rows) hf _ hv _ hvals]
  ·rw [if_neg hm, if_neg (fun hh => hm (hiff.1 hh))]
   simp
theorem rooms_map {f : Int → Int} {rows : List (List Int)} (hs : zbi rows = true) (hf : InjOn f (Vals rows)) : zau (mapG f rows) = zau rows := by
 unfold zau
 rw [mapG_length, mapG_wide, stAt_map (zch hs) hf _ (Nat.le_refl _)]
theorem names_nums {rows : List (List Int)} (h : zbi rows = true) : zah (zbw (canon rows)) = mapG (fun x => 97 + ((zbj rows).idxOf x : Int)) rows := by
 rw [numsOf_textOf _ (canon_val h)]
 unfold canon canonL mapG
 rw [List.map_map]
 apply List.map_congr_left
 intro r hr
 show (r.map _).map _ = _
 rw [List.map_map]
 rfl
theorem names_inj (rows : List (List Int)) : InjOn (fun x => 97 + ((zbj rows).idxOf x : Int)) (Vals rows) := by
 intro a b ha hb e
 have e2 : (zbj rows).idxOf a = (zbj rows).idxOf b := by
  have : (97 : Int) + ((zbj rows).idxOf a : Int) = 97 + ((zbj rows).idxOf b : Int) := e
  omega
 have h1 := List.idxOf_lt_length_of_mem (ordL_mem rows.flatten [] a ha)
 have h2 := List.idxOf_lt_length_of_mem (ordL_mem rows.flatten [] b hb)
 have e3 : (zbj rows)[(zbj rows).idxOf a]'h1 = a := List.getElem_idxOf h1
 have e4 : (zbj rows)[(zbj rows).idxOf b]'h2 = b := List.getElem_idxOf h2
 rw [← e3, ← e4]
 congr 1
theorem zcb.rooms {w : World} {g : Nat} {cs : List (List Int)} {rs : List Rc} (hf : zcb w g cs rs) : ∃ A c, w.cell? ⟨g, 1, none⟩ = some (.slice A rs.length c) ∧ kRc.C w A rs.length rs := by
 obtain ⟨A0, c0, A1, c1, h1, h2, h3, h4⟩ := hf
 exact ⟨A1, c1, (zaj h1 1).trans rfl, h4⟩
theorem box_cell {w : World} {v : Value} {t : TypeId} {g : Nat} (h : w.heap[g]? = some (.cells #[v] t (0, 0))) : w.cell? ⟨g, 0, none⟩ = some v := (zaj h 0).trans rfl
structure PlanFacts (p : List ByteArray) (cs : List (List Int)) (rs : List Rc) : Prop where
 canon : Canon p
 cells : cs = Hd.canon (zah p)
 rooms : rs = zau (zah p)
 nums : zah p = mapG (fun x => 97 + x) cs
 ok : FloorOk cs rs
 len : p.length = cs.length
 wide : zag (zah p) = zag cs
 text : p = zbw cs
theorem floor_facts {p : List ByteArray} {cs : List (List Int)} {rs : List Rc} (h : zby p = some (cs, rs)) : PlanFacts p cs rs := by
 have hok := floorF_ok h
 cases hG : gridOk p with
 | false => rw [floorF_nogrid hG] at h; cases h
 | true =>
  rw [floorF_grid hG] at h
  split at h
  ·rename_i hc
   injection h with h
   injection h with e1 e2
   have hC : Canon p := ⟨hG, hc.2.2⟩
   have hn : zah p = mapG (fun x => 97 + x) cs := by
    have := numsOf_textOf (canon (zah p)) (canon_val hC.shape)
    rw [show zbw (canon (zah p)) = p from hC.names, e1] at this
    exact this
   refine ⟨hC, e1.symm, e2.symm, hn, hok, ?_, ?_, ?_⟩
   ·rw [← zbg, hn, mapG_length]
   ·rw [hn, mapG_wide]
   ·rw [← e1]; exact hC.names.symm
  ·cases h
theorem bytesOf_strOfNums (xs : List Int) (h : ∀ x ∈ xs, 0 ≤ x ∧ x ≤ 255) : zax (strOfNums xs) = xs := by
 unfold zax strOfNums
 show ((xs.map fun n => UInt8.ofNat n.toNat).toArray.toList).map _ = _
 rw [List.map_map]
 conv => rhs; rw [← List.map_id xs]
 apply List.map_congr_left
 intro x hx
 have := h x hx
 show ((UInt8.ofNat x.toNat).toNat : Int) = x
 rw [UInt8.toNat_ofNat']
 omega
theorem FloorOk.rect {cs : List (List Int)} {rs : List Rc} (h : FloorOk cs rs) : Rect (zag cs) cs := h.cells.row
theorem planB_cases (p : List ByteArray) : (planB p = false ∧ zby p = none) ∨ (planB p = true ∧ ∃ cs rs, zby p = some (cs, rs)) := by
 unfold planB
 cases h : zby p with
 | none => exact .inl ⟨rfl, rfl⟩
 | some t => exact .inr ⟨rfl, t.1, t.2, rfl⟩
section
variable {P : Program} {ops : Array Oper} {Q : Exit → Act → World → Prop}
end
def HowFn (P : Program) (f : FuncId) (caps : Array Value) (w : World) (how : List (List Int) → List Rc → List (List Int)) : Prop :=
 ∀ (W : World) (g : Nat) (cs : List (List Int)) (rs : List Rc), FloorOk cs rs → zcb W g cs rs → Sees w W → Calls P f (#[.pointer (some ⟨g, 0, none⟩)] ++ caps) W (GridRes W (how cs rs))
end Go.Proofs.Ytickdcegnlldjaa.Hd
namespace Go.Proofs.Ytickdcegnlldjaa.PB
open Go.RowKit Go.PW.PrintWords Go.PW.PrintLast Go.PW.PrintMore
attribute [local go_sem] zcg zce zco zcn zbo zbn zcf zcd   -- for this text's walks alone
mutual
def spec_l1Trans.l0 : Nat → List ByteArray → List ByteArray → Int → Option (List ByteArray)
 | 0, _, _, _ => none
 | k + 1, x0, x3, x4 => if 0 < (x0.length : Int) then (if x4 < ((rdOf ByteArray.empty x0 0).size : Int) then (spec_l1Trans.l1 k x0 x3 x4 (([] : List Int)) 0) else (some x3)) else (none)
def spec_l1Trans.l1 : Nat → List ByteArray → List ByteArray → Int → List Int → Int → Option (List ByteArray)
 | 0, _, _, _, _, _ => none
 | k + 1, x0, x3, x4, x5, x6 => if x6 < (x0.length : Int) then (if 0 ≤ x6 then (if 0 ≤ x4 then (if x4 < ((rdOf ByteArray.empty x0 x6).size : Int) then (if x5.length < 140737488355328 then (spec_l1Trans.l1 k x0 x3 x4 (x5 ++ [bt (rdOf ByteArray.empty x0 x6) x4]) (wrap64 (x6 + 1))) else (none)) else (none)) else (none)) else (none)) else (if x3.length < 8796093022208 then (spec_l1Trans.l0 k x0 (x3 ++ [strOfNums x5]) (wrap64 (x4 + 1))) else (none))
end
def spec_l1Trans.f (k : Nat) (l0 : List ByteArray) : Option (List ByteArray) := spec_l1Trans.l0 k l0 (([] : List ByteArray)) 0
set_option maxHeartbeats 8000000 in
set_option maxRecDepth 100000 in
theorem spec_l1Trans.calls (k : Nat) (A0 : Option Addr) (c0 : Nat) (l0 : List ByteArray) (r : List ByteArray) (w : World) (hr0 : Kd.C Kd.string w A0 l0.length l0) (hc0 : l0.length ≤ c0) (h : spec_l1Trans.f k l0 = some r) :
  Calls Try.prog 47 #[.slice A0 l0.length c0] w fun e w' => ∃ v0_ : Value, e = .returned (v0_) ∧ Kd.R Kd.string 9 w' w.heap.size (fun _ => True) v0_ r ∧ Below w.heap.size w w' := by
 have HR0 := zaa.mk hr0
 have HC0 := zaa.mk hc0
 clear hr0 hc0
 have HB := zaa.mk (Below.refl w.heap.size w)
 have H : (spec_l1Trans.l0 k l0 (([] : List ByteArray)) 0) = some r := h
 clear h
 obtain ⟨y166, hy166⟩ : ∃ y_ : List ByteArray, y_ = (([] : List ByteArray)) := ⟨_, rfl⟩
 replace H : (spec_l1Trans.l0 k l0 y166 0) = some r := by first | (rw [hy166]; with_reducible exact H) | (have H2_ := (Option.bind_some _ _).symm.trans H; rw [hy166]; with_reducible exact H2_) | (have H2_ := (Option.bind_some _ _).symm.trans H; with_reducible exact H2_) | with_reducible exact H | (rw [hy166]; exact H) | exact H
 have Ny166 := zaa.mk hy166
 clear hy166
 have H' := zaa.mk H
 clear H
 go_enter Try.func47, Try.ntmps47
 go_wp2_with (first | ((with_reducible refine zay (N := 7) rfl ?_); refine Kd.R_lit Kd.string _ 9 ?hg (N := 7) ?hd (xs := ([] : List ByteArray)) (inner := []) (ok := fun _ => True) (okp := fun _ => True) ?hr ?hp (fun _ hk => hk) trivial (Below.refl _ _) (Nat.le_refl _) (by simp) ?_; (case hd => rfl); (case hg => rfl); (case hr => first | (go_simp; done) | (go_simp; rfl)); (case hp => exact (Reps.none _ _)); intro v167 w2 ho3 hb hg_ hnew_; clear hg_ hnew_; (first | rw [← Ny166.out] at ho3 | (simp only [Int.reduceToNat] at ho3; rw [← Ny166.out] at ho3)); have n0_ := zaa.mk (Kd.R_lower ho3 (zai (by repeat (first | (with_reducible first | exact HB.out | apply zac | apply zab | apply zad) | exact HB.out)))); have n1_ := zaa.mk (zaf (by repeat (first | (with_reducible first | exact HB.out | apply zac | apply zab | apply zad) | exact HB.out)) hb); clear HB; have HO168 := n0_; have HB := n1_; clear n0_ n1_; clear hb ho3))
 go_loopg [3, 4] k (fun kq v3 v4 w' => ∃ (x3_1 : List ByteArray) (x4_1 : Int), v4 = .int .i64 x4_1 ∧ zaa (spec_l1Trans.l0 kq l0 x3_1 x4_1 = some r) ∧ zaa (kq ≤ k) ∧ zaa (Kd.R Kd.string 9 w' w.heap.size (fun _ => True) v3 x3_1) ∧ zaa (Below w.heap.size w w'))
 case atStart => exact ⟨(y166), (0), (by first | rfl | (simp; done) | (simp [*]; done)), H', ⟨Nat.le_refl _⟩, ⟨by (with_reducible repeat (first | apply Kd.R_alloc | apply Kd.R_drewN | apply Kd.R_drew)); exact HO168.out⟩, ⟨by repeat (first | (with_reducible first | exact HB.out | apply zac | apply zab | apply zad) | exact HB.out)⟩⟩
 case round =>
  clear H'
  try clear p2
  obtain ⟨x3_1, x4_1, rfl, HA, HK1, HO_3, HB⟩ := hrel
  cases gk with
  | zero => exact absurd HA.out (by simp [spec_l1Trans.l0])
  | succ k1 =>
   have H := HA.out
   clear HA
   simp only [spec_l1Trans.l0] at H
   by_cases c4 : 0 < (l0.length : Int)
   ·rw [if_pos c4] at H
    have c4b0 : decide (0 < (l0.length : Int)) = true := decide_eq_true c4
    have c4b1 : decide (0 < l0.length) = true := decide_eq_true (by omega)
    clear c4
    by_cases c5 : x4_1 < ((rdOf ByteArray.empty l0 0).size : Int)
    ·rw [if_pos c5] at H
     have c5b0 : decide (x4_1 < ((rdOf ByteArray.empty l0 0).size : Int)) = true := decide_eq_true c5
     clear c5
     obtain ⟨y170, hy170⟩ : ∃ y_ : List Int, y_ = (([] : List Int)) := ⟨_, rfl⟩
     replace H : (spec_l1Trans.l1 k1 l0 x3_1 x4_1 y170 0) = some r := by first | (rw [hy170]; with_reducible exact H) | (have H2_ := (Option.bind_some _ _).symm.trans H; rw [hy170]; with_reducible exact H2_) | (have H2_ := (Option.bind_some _ _).symm.trans H; with_reducible exact H2_) | with_reducible exact H | (rw [hy170]; exact H) | exact H
     have Ny170 := zaa.mk hy170
     clear hy170
     have H' := zaa.mk H
     clear H
     have p169 : 0 ≤ (0 : Int) := (by omega)
     have q169 : 0 < (l0.length : Int) := of_decide_eq_true (by first | (with_reducible assumption) | assumption)
     obtain ⟨ad169, e169, hx169_0⟩ := Kd.at_string HR0.out 0 p169 q169
     cases e169
     have qi169 : (0 < l0.length) = True := eq_true (by omega)
     (try rw [show ((0 : Int)).toNat = 0 from rfl] at hx169_0)
     (try rw [Addr.add_zero'] at hx169_0)
     replace hx169_0 := (HB.out.cell (World.block_lt_of_cell? w _ hx169_0)).trans hx169_0
     replace p169 := eq_true p169
     replace q169 := eq_true q169
     go_wp2_with (first | ((with_reducible refine zay (N := 16) rfl ?_); refine Kd.R_lit (Kd.int .u8) _ 5 ?hg (N := 16) ?hd (xs := ([] : List Int)) (inner := []) (ok := fun _ => True) (okp := fun _ => True) ?hr ?hp (fun _ hk => hk) trivial (Below.refl _ _) (Nat.le_refl _) (by simp) ?_; (case hd => rfl); (case hg => rfl); (case hr => first | (go_simp; done) | (go_simp; rfl)); (case hp => exact (Reps.none _ _)); intro v171 w6 ho7 hb hg_ hnew_; clear hg_ hnew_; (first | rw [← Ny170.out] at ho7 | (simp only [Int.reduceToNat] at ho7; rw [← Ny170.out] at ho7)); have n0_ := zaa.mk (Kd.R_below (by (with_reducible repeat (first | apply Kd.R_alloc | apply Kd.R_drewN | apply Kd.R_drew)); exact HO_3.out) hb); have n1_ := zaa.mk (Kd.R_lower ho7 (zai (by repeat (first | (with_reducible first | exact HB.out | apply zac | apply zab | apply zad) | exact HB.out)))); have n2_ := zaa.mk (zaf (by repeat (first | (with_reducible first | exact HB.out | apply zac | apply zab | apply zad) | exact HB.out)) hb); clear HO_3; clear HB; have HO_3 := n0_; have HO172 := n1_; have HB := n2_; clear n0_ n1_ n2_; clear hb ho7))
     go_loopg [5, 6] k1 (fun kq v5 v6 w' => ∃ (x5_2 : List Int) (x6_2 : Int), v6 = .int .i64 x6_2 ∧ zaa (spec_l1Trans.l1 kq l0 x3_1 x4_1 x5_2 x6_2 = some r) ∧ zaa (kq ≤ k1) ∧ zaa (Kd.R Kd.string 9 w' w.heap.size (fun _ => True) u3 x3_1) ∧ zaa (Kd.R (Kd.int .u8) 5 w' w.heap.size (fun _ => True) v5 x5_2) ∧ zaa (Below w.heap.size w w'))
     case atStart => exact ⟨(y170), (0), (by first | rfl | (simp; done) | (simp [*]; done)), H', ⟨Nat.le_refl _⟩, ⟨by (with_reducible repeat (first | apply Kd.R_alloc | apply Kd.R_drewN | apply Kd.R_drew)); exact HO_3.out⟩, ⟨by (with_reducible repeat (first | apply Kd.R_alloc | apply Kd.R_drewN | apply Kd.R_drew)); exact HO172.out⟩, ⟨by repeat (first | (with_reducible first | exact HB.out | apply zac | apply zab | apply zad) | exact HB.out)⟩⟩
     case round =>
      clear H'
      try clear p1
      try clear q1
      try clear hx1
      try clear qi1
      try clear p2
      try clear c4
      try clear c4b0
      try clear c4b1
      try clear c5
      try clear c5b0
      try clear hx169_0
      try clear p169
      try clear p2
      try clear q169
      obtain ⟨x5_2, x6_2, rfl, HA, HK2, HO_3, HO_5, HB⟩ := hrel
      cases gk with
      | zero => exact absurd HA.out (by simp [spec_l1Trans.l1])
      | succ k2 =>
       have H := HA.out
       clear HA
       simp only [spec_l1Trans.l1] at H
       by_cases c8 : x6_2 < (l0.length : Int)
       ·rw [if_pos c8] at H
        have c8b0 : decide (x6_2 < (l0.length : Int)) = true := decide_eq_true c8
        clear c8
        by_cases c9 : 0 ≤ x6_2
        ·rw [if_pos c9] at H
         have c9b0 : decide (0 ≤ x6_2) = true := decide_eq_true c9
         clear c9
         by_cases c10 : 0 ≤ x4_1
         ·rw [if_pos c10] at H
          have c10b0 : decide (0 ≤ x4_1) = true := decide_eq_true c10
          clear c10
          by_cases c11 : x4_1 < ((rdOf ByteArray.empty l0 x6_2).size : Int)
          ·rw [if_pos c11] at H
           have c11b0 : decide (x4_1 < ((rdOf ByteArray.empty l0 x6_2).size : Int)) = true := decide_eq_true c11
           clear c11
           by_cases c13 : x5_2.length < 140737488355328
           ·rw [if_pos c13] at H
            have LMc13 := zaa.mk c13
            clear c13
            obtain ⟨y174, hy174⟩ : ∃ y_ : List Int, y_ = (x5_2 ++ [bt (rdOf ByteArray.empty l0 x6_2) x4_1]) := ⟨_, rfl⟩
            replace H : (spec_l1Trans.l1 k2 l0 x3_1 x4_1 y174 (wrap64 (x6_2 + 1))) = some r := by first | (rw [hy174]; with_reducible exact H) | (have H2_ := (Option.bind_some _ _).symm.trans H; rw [hy174]; with_reducible exact H2_) | (have H2_ := (Option.bind_some _ _).symm.trans H; with_reducible exact H2_) | with_reducible exact H | (rw [hy174]; exact H) | exact H
            have Ny174 := zaa.mk hy174
            clear hy174
            have H' := zaa.mk H
            clear H
            have p173 : 0 ≤ (x6_2 : Int) := of_decide_eq_true (by first | (with_reducible assumption) | assumption)
            have q173 : x6_2 < (l0.length : Int) := of_decide_eq_true (by first | (with_reducible assumption) | assumption)
            obtain ⟨ad173, e173, hx173_0⟩ := Kd.at_string HR0.out x6_2 p173 q173
            obtain rfl : ad169 = ad173 := (by injection e173)
            replace hx173_0 := (HB.out.cell (World.block_lt_of_cell? w _ hx173_0)).trans hx173_0
            replace p173 := eq_true p173
            replace q173 := eq_true q173
            have p12 : 0 ≤ (x4_1 : Int) := of_decide_eq_true (by first | (with_reducible assumption) | assumption)
            have q12 : x4_1 < ((rdOf ByteArray.empty l0 x6_2).size : Int) := of_decide_eq_true (by first | (with_reducible assumption) | assumption)
            have hx12 := bt_at (rdOf ByteArray.empty l0 x6_2) x4_1
            replace p12 := eq_true p12
            replace q12 := eq_true q12
            go_wp2_with (first | ((with_reducible refine zav (b := .append) (xs := #[.tmp 23, .tmp 30]) rfl ?_); at_builtin; refine Kd.R_append (Kd.int .u8) (w0 := w) w.heap.size rfl (.tmp 23) (.tmp 30) 32 5 (.int .u8 0) 1 rfl Try.underlying32 info5 rfl (by decide) (by omega) u5 x5_2 (bt (rdOf ByteArray.empty l0 x6_2) x4_1) [.int .u8 (bt (rdOf ByteArray.empty l0 x6_2) x4_1)] (fun _ => True) (fun _ => False) rfl rfl ?aP (fun _ hk => hk.elim) ?aF ?aO ?aB ?aS ?aL ?_; (case aP => exact rfl); (case aB => exact (by repeat (first | (with_reducible first | exact HB.out | apply zac | apply zab | apply zad) | exact HB.out))); (case aF => exact (fun _ _ => trivial)); (case aO => exact (by (with_reducible repeat (first | apply Kd.R_alloc | apply Kd.R_drewN | apply Kd.R_drew)); exact HO_5.out)); (case aS => exact (zai (by repeat (first | (with_reducible first | exact HB.out | apply zac | apply zab | apply zad) | exact HB.out)))); (case aL => have := LMc13.out; omega); intro v175 w14 ho hb hg hat; rw [← Ny174.out] at ho; have n0_ := zaa.mk (Kd.R_over' (by (with_reducible repeat (first | apply Kd.R_alloc | apply Kd.R_drewN | apply Kd.R_drew)); exact HO_3.out) (Kd.R_typed (by (with_reducible repeat (first | apply Kd.R_alloc | apply Kd.R_drewN | apply Kd.R_drew)); exact HO_5.out)) (by decide) hg); have n1_ := zaa.mk (hb); have n2_ := zaa.mk (ho); clear HO_3; clear HB; clear HO_5; have HO_3 := n0_; have HB := n1_; have HO176 := n2_; clear n0_ n1_ n2_; clear ho hb hg hat))
            go_roundg k2
            case measure => have := HK1.out; have := HK2.out; omega
            case rel => exact ⟨(y174), (wrap64 (x6_2 + 1)), (by first | rfl | (simp; done) | (simp [*]; done)), H', ⟨by have := HK1.out; have := HK2.out; omega⟩, ⟨by (with_reducible repeat (first | apply Kd.R_alloc | apply Kd.R_drewN | apply Kd.R_drew)); exact HO_3.out⟩, ⟨by (with_reducible repeat (first | apply Kd.R_alloc | apply Kd.R_drewN | apply Kd.R_drew)); exact HO176.out⟩, ⟨by repeat (first | (with_reducible first | exact HB.out | apply zac | apply zab | apply zad) | exact HB.out)⟩⟩
           ·rw [if_neg c13] at H
            exact absurd H (by simp)
          ·rw [if_neg c11] at H
           exact absurd H (by simp)
         ·rw [if_neg c10] at H
          exact absurd H (by simp)
        ·rw [if_neg c9] at H
         exact absurd H (by simp)
       ·rw [if_neg c8] at H
        have c8b0 : decide (x6_2 < (l0.length : Int)) = false := decide_eq_false c8
        clear c8
        by_cases c15 : x3_1.length < 8796093022208
        ·rw [if_pos c15] at H
         have LMc15 := zaa.mk c15
         clear c15
         obtain ⟨y177, hy177⟩ : ∃ y_ : List ByteArray, y_ = (x3_1 ++ [strOfNums x5_2]) := ⟨_, rfl⟩
         replace H : (spec_l1Trans.l0 k2 l0 y177 (wrap64 (x4_1 + 1))) = some r := by first | (rw [hy177]; with_reducible exact H) | (have H2_ := (Option.bind_some _ _).symm.trans H; rw [hy177]; with_reducible exact H2_) | (have H2_ := (Option.bind_some _ _).symm.trans H; with_reducible exact H2_) | with_reducible exact H | (rw [hy177]; exact H) | exact H
         have Ny177 := zaa.mk hy177
         clear hy177
         have H' := zaa.mk H
         clear H
         have hcv16 := own_string (P := Try.prog) Try.underlying32 Try.underlying5 Try.underlying9 (Kd.own_of_R HO_5.out)
         go_wp2_with (first | ((with_reducible refine zav (b := .append) (xs := #[.tmp 32, .tmp 35]) rfl ?_); at_builtin; refine Kd.R_append Kd.string (w0 := w) w.heap.size rfl (.tmp 32) (.tmp 35) 22 9 (.string ⟨#[]⟩) 16 rfl Try.underlying22 info9 rfl (by decide) (by omega) u3 x3_1 (strOfNums x5_2) [.string (strOfNums x5_2)] (fun _ => True) (fun _ => False) rfl rfl ?aP (fun _ hk => hk.elim) ?aF ?aO ?aB ?aS ?aL ?_; (case aP => exact rfl); (case aB => exact (by repeat (first | (with_reducible first | exact HB.out | apply zac | apply zab | apply zad) | exact HB.out))); (case aF => exact (fun _ _ => trivial)); (case aO => exact (by (with_reducible repeat (first | apply Kd.R_alloc | apply Kd.R_drewN | apply Kd.R_drew)); exact HO_3.out)); (case aS => exact (zai (by repeat (first | (with_reducible first | exact HB.out | apply zac | apply zab | apply zad) | exact HB.out)))); (case aL => have := LMc15.out; omega); intro v178 w17 ho hb hg hat; rw [← Ny177.out] at ho; have n0_ := zaa.mk (Kd.R_over' (by (with_reducible repeat (first | apply Kd.R_alloc | apply Kd.R_drewN | apply Kd.R_drew)); exact HO_5.out) (Kd.R_typed (by (with_reducible repeat (first | apply Kd.R_alloc | apply Kd.R_drewN | apply Kd.R_drew)); exact HO_3.out)) (by decide) hg); have n1_ := zaa.mk (hb); have n2_ := zaa.mk (ho); clear HO_5; clear HB; clear HO_3; have HO_5 := n0_; have HB := n1_; have HO179 := n2_; clear n0_ n1_ n2_; clear ho hb hg hat))
         go_roundg k2
         case measure => have := HK1.out; have := HK2.out; omega
         case rel => exact ⟨(y177), (wrap64 (x4_1 + 1)), (by first | rfl | (simp; done) | (simp [*]; done)), H', ⟨by have := HK1.out; have := HK2.out; omega⟩, ⟨by (with_reducible repeat (first | apply Kd.R_alloc | apply Kd.R_drewN | apply Kd.R_drew)); exact HO179.out⟩, ⟨by repeat (first | (with_reducible first | exact HB.out | apply zac | apply zab | apply zad) | exact HB.out)⟩⟩
        ·rw [if_neg c15] at H
         exact absurd H (by simp)
    ·rw [if_neg c5] at H
     have c5b0 : decide (x4_1 < ((rdOf ByteArray.empty l0 0).size : Int)) = false := decide_eq_false c5
     clear c5
     obtain rfl := Option.some.inj H
     have p169 : 0 ≤ (0 : Int) := (by omega)
     have q169 : 0 < (l0.length : Int) := of_decide_eq_true (by first | (with_reducible assumption) | assumption)
     obtain ⟨ad169, e169, hx169_0⟩ := Kd.at_string HR0.out 0 p169 q169
     cases e169
     have qi169 : (0 < l0.length) = True := eq_true (by omega)
     (try rw [show ((0 : Int)).toNat = 0 from rfl] at hx169_0)
     (try rw [Addr.add_zero'] at hx169_0)
     replace hx169_0 := (HB.out.cell (World.block_lt_of_cell? w _ hx169_0)).trans hx169_0
     replace p169 := eq_true p169
     replace q169 := eq_true q169
     go_wp2
     go_ret
     exact ⟨_, by first | rfl | (simp [zam, zal] <;> rfl) | (simp [*, zam, zal] <;> rfl), by (with_reducible repeat (first | apply Kd.R_alloc | apply Kd.R_drewN | apply Kd.R_drew)); exact HO_3.out, by repeat (first | (with_reducible first | exact HB.out | apply zac | apply zab | apply zad) | exact HB.out)⟩
   ·rw [if_neg c4] at H
    exact absurd H (by simp)
def spec_l2Put.f (l0 : List Int) (a1 : Int) : Option (List Int) := if (l0.length : Int) > 0 then (if 0 ≤ (wrap64 ((l0.length : Int) - 1)) then (if (wrap64 ((l0.length : Int) - 1)) < (l0.length : Int) then (if (rd l0 (wrap64 ((l0.length : Int) - 1))) = a1 then (some l0) else (if l0.length < 17592186044416 then (some (l0 ++ [a1])) else (none))) else (none)) else (none)) else (if l0.length < 17592186044416 then (some (l0 ++ [a1])) else (none))
set_option maxHeartbeats 8000000 in
set_option maxRecDepth 100000 in
theorem spec_l2Put.calls (P0_ : Nat → Prop) (u9000_ : Value) (l0 : List Int) (a1 : Int) (r : List Int) (w0 w : World) (hB : Below w0.heap.size w0 w) (ho0 : Kd.R (Kd.int .i64) 3 w w0.heap.size P0_ u9000_ l0) (h : spec_l2Put.f l0 a1 = some r) :
  Calls Try.prog 48 #[u9000_, .int .i64 a1] w fun e w' => ∃ v0_ : Value, e = .returned (v0_) ∧ Kd.R (Kd.int .i64) 3 w' w0.heap.size (fun k_ => (P0_ k_ ∨ w.heap.size ≤ k_)) v0_ r ∧ Below w0.heap.size w0 w' ∧ Kept w w' (fun k_ => P0_ k_) := by
 have HO0 := zaa.mk (show Kd.R (Kd.int .i64) 3 w w0.heap.size (fun k_ => (P0_ k_ ∨ w.heap.size ≤ k_)) u9000_ l0 from Kd.R_mono ho0 (fun k_ hk => (.inl hk)))
 have HK := zaa.mk (Kept.refl w (fun k_ => P0_ k_))
 have HW0 := zaa.mk hB.size
 have HB := zaa.mk hB
 clear hB
 have H : (if (l0.length : Int) > 0 then (if 0 ≤ (wrap64 ((l0.length : Int) - 1)) then (if (wrap64 ((l0.length : Int) - 1)) < (l0.length : Int) then (if (rd l0 (wrap64 ((l0.length : Int) - 1))) = a1 then (some l0) else (if l0.length < 17592186044416 then (some (l0 ++ [a1])) else (none))) else (none)) else (none)) else (if l0.length < 17592186044416 then (some (l0 ++ [a1])) else (none))) = some r := h
 clear h
 by_cases c3 : (l0.length : Int) > 0
 ·rw [if_pos c3] at H
  have c3b0 : decide (0 < (l0.length : Int)) = true := decide_eq_true c3
  have c3b1 : decide (0 < l0.length) = true := decide_eq_true (by omega)
  clear c3
  obtain ⟨ji4, hji4⟩ : ∃ j_ : Int, (wrap64 ((l0.length : Int) - 1)) = j_ := ⟨_, rfl⟩
  replace H : (if 0 ≤ (ji4) then (if (ji4) < (l0.length : Int) then (if (rd l0 (ji4)) = a1 then (some l0) else (if l0.length < 17592186044416 then (some (l0 ++ [a1])) else (none))) else (none)) else (none)) = some r := by first | (rw [hji4] at H; exact H) | (simp only [hji4] at H ⊢; exact H)
  have hji4w : (IntKind.i64.wrap ((l0.length : Int) - 1)) = ji4 := (zak _).trans hji4
  by_cases c5 : 0 ≤ (ji4)
  ·rw [if_pos c5] at H
   have c5b0 : decide (0 ≤ (ji4)) = true := decide_eq_true c5
   clear c5
   by_cases c6 : (ji4) < (l0.length : Int)
   ·rw [if_pos c6] at H
    have c6b0 : decide ((ji4) < (l0.length : Int)) = true := decide_eq_true c6
    clear c6
    by_cases c7 : (rd l0 (ji4)) = a1
    ·rw [if_pos c7] at H
     have c7b0 : ((rd l0 (ji4)) == a1) = true := beq_iff_eq.mpr c7
     have c7b1 : ((rd l0 (ji4)) != a1) = false := bne_eq_false_iff_eq.mpr c7
     clear c7
     obtain rfl := Option.some.inj H
     obtain ⟨Ao8, co8, eo8⟩ := Kd.R_slice HO0.out
     subst eo8
     have p180 : 0 ≤ ((ji4) : Int) := of_decide_eq_true (by first | (with_reducible assumption) | assumption)
     have q180 : (ji4) < (l0.length : Int) := of_decide_eq_true (by first | (with_reducible assumption) | assumption)
     obtain ⟨ad180, e180, hx180_0⟩ := Kd.at_int (Kd.R_reads' HO0.out).2.2 (ji4) p180 q180
     cases e180
     replace p180 := eq_true p180
     replace q180 := eq_true q180
     go_enter Try.func48, Try.ntmps48
     go_wp2
     go_ret
     exact ⟨_, by first | rfl | (simp [zam, zal] <;> rfl) | (simp only [← hji4]; first | rfl | (simp [zam, zal] <;> rfl)) | (simp [*, zam, zal] <;> rfl), by (with_reducible repeat (first | apply Kd.R_alloc | apply Kd.R_drewN | apply Kd.R_drew)); exact HO0.out, by repeat (first | (with_reducible first | exact HB.out | apply zac | apply zab | apply zad) | exact HB.out), by repeat (first | (with_reducible first | exact HK.out | apply Kept.alloc | apply Kept.drewN | apply Kept.drew) | exact HK.out)⟩
    ·rw [if_neg c7] at H
     have c7b0 : ((rd l0 (ji4)) == a1) = false := beq_eq_false_iff_ne.mpr c7
     have c7b1 : ((rd l0 (ji4)) != a1) = true := bne_iff_ne.mpr c7
     by_cases c9 : l0.length < 17592186044416
     ·rw [if_pos c9] at H
      have LMc9 := zaa.mk c9
      clear c9
      obtain ⟨y181, hy181⟩ : ∃ y_ : List Int, y_ = (l0 ++ [a1]) := ⟨_, rfl⟩
      replace H : (some y181) = some r := by first | (rw [hy181]; with_reducible exact H) | (have H2_ := (Option.bind_some _ _).symm.trans H; rw [hy181]; with_reducible exact H2_) | (have H2_ := (Option.bind_some _ _).symm.trans H; with_reducible exact H2_) | with_reducible exact H | (rw [hy181]; exact H) | exact H
      have Ny181 := zaa.mk hy181
      clear hy181
      obtain rfl := Option.some.inj H
      obtain ⟨Ao10, co10, eo10⟩ := Kd.R_slice HO0.out
      subst eo10
      have p180 : 0 ≤ ((ji4) : Int) := of_decide_eq_true (by first | (with_reducible assumption) | assumption)
      have q180 : (ji4) < (l0.length : Int) := of_decide_eq_true (by first | (with_reducible assumption) | assumption)
      obtain ⟨ad180, e180, hx180_0⟩ := Kd.at_int (Kd.R_reads' HO0.out).2.2 (ji4) p180 q180
      cases e180
      replace p180 := eq_true p180
      replace q180 := eq_true q180
      go_enter Try.func48, Try.ntmps48
      go_wp2_with (first | ((with_reducible refine zav (b := .append) (xs := #[.tmp 19, .tmp 21]) rfl ?_); (try (refine gate_guard (by rfl) ?_; dsimp only)); at_builtin; refine Kd.R_append (Kd.int .i64) (w0 := w0) w0.heap.size rfl (.tmp 19) (.tmp 21) 24 3 (.int .i64 0) 8 rfl Try.underlying24 info3 rfl (by decide) (by omega) (.slice (some ad180) l0.length co10) l0 a1 [.int .i64 a1] (fun k_ => (P0_ k_ ∨ w.heap.size ≤ k_)) (fun _ => False) rfl rfl ?aP (fun _ hk => hk.elim) ?aF ?aO ?aB ?aS ?aL ?_; (case aP => exact rfl); (case aB => exact (by repeat (first | (with_reducible first | exact HB.out | apply zac | apply zab | apply zad) | exact HB.out))); (case aF => exact (fun k_ hk => (.inr (Nat.le_trans (by first | exact HK.out.1 | exact (show Kept w _ (fun k_ => P0_ k_) from by repeat (first | (with_reducible first | exact HK.out | apply Kept.alloc | apply Kept.drewN | apply Kept.drew) | exact HK.out)).1) hk)))); (case aO => exact (by (with_reducible repeat (first | apply Kd.R_alloc | apply Kd.R_drewN | apply Kd.R_drew)); exact HO0.out)); (case aS => exact (zai (by repeat (first | (with_reducible first | exact HB.out | apply zac | apply zab | apply zad) | exact HB.out)))); (case aL => have := LMc9.out; omega); intro v182 w11 ho hb hg hat; rw [← Ny181.out] at ho; have n0_ := zaa.mk (hb); have n1_ := zaa.mk (Kept.of_grown (S := (fun k_ => P0_ k_)) hg (by repeat (first | (with_reducible first | exact HK.out | apply Kept.alloc | apply Kept.drewN | apply Kept.drew) | exact HK.out)) (fun k_ e_ => (HO0.out.1 k_ e_))); have n2_ := zaa.mk (ho); clear HB; clear HK; clear HO0; have HB := n0_; have HK := n1_; have HO183 := n2_; clear n0_ n1_ n2_; clear ho hb hg hat))
      go_ret
      exact ⟨_, by first | rfl | (simp [zam, zal] <;> rfl) | (simp only [← hji4]; first | rfl | (simp [zam, zal] <;> rfl)) | (simp [*, zam, zal] <;> rfl), by (with_reducible repeat (first | apply Kd.R_alloc | apply Kd.R_drewN | apply Kd.R_drew)); exact HO183.out, by repeat (first | (with_reducible first | exact HB.out | apply zac | apply zab | apply zad) | exact HB.out), by repeat (first | (with_reducible first | exact HK.out | apply Kept.alloc | apply Kept.drewN | apply Kept.drew) | exact HK.out)⟩
     ·rw [if_neg c9] at H
      exact absurd H (by simp)
   ·rw [if_neg c6] at H
    exact absurd H (by simp)
  ·rw [if_neg c5] at H
   exact absurd H (by simp)
 ·rw [if_neg c3] at H
  have c3b0 : decide (0 < (l0.length : Int)) = false := decide_eq_false c3
  have c3b1 : decide (0 < l0.length) = false := decide_eq_false (by omega)
  clear c3
  by_cases c12 : l0.length < 17592186044416
  ·rw [if_pos c12] at H
   have LMc12 := zaa.mk c12
   clear c12
   obtain ⟨y184, hy184⟩ : ∃ y_ : List Int, y_ = (l0 ++ [a1]) := ⟨_, rfl⟩
   replace H : (some y184) = some r := by first | (rw [hy184]; with_reducible exact H) | (have H2_ := (Option.bind_some _ _).symm.trans H; rw [hy184]; with_reducible exact H2_) | (have H2_ := (Option.bind_some _ _).symm.trans H; with_reducible exact H2_) | with_reducible exact H | (rw [hy184]; exact H) | exact H
   have Ny184 := zaa.mk hy184
   clear hy184
   obtain rfl := Option.some.inj H
   obtain ⟨Ao13, co13, eo13⟩ := Kd.R_slice HO0.out
   subst eo13
   go_enter Try.func48, Try.ntmps48
   go_wp2_with (first | ((with_reducible refine zav (b := .append) (xs := #[.tmp 19, .tmp 21]) rfl ?_); (try (refine gate_guard (by rfl) ?_; dsimp only)); at_builtin; refine Kd.R_append (Kd.int .i64) (w0 := w0) w0.heap.size rfl (.tmp 19) (.tmp 21) 24 3 (.int .i64 0) 8 rfl Try.underlying24 info3 rfl (by decide) (by omega) (.slice Ao13 l0.length co13) l0 a1 [.int .i64 a1] (fun k_ => (P0_ k_ ∨ w.heap.size ≤ k_)) (fun _ => False) rfl rfl ?aP (fun _ hk => hk.elim) ?aF ?aO ?aB ?aS ?aL ?_; (case aP => exact rfl); (case aB => exact (by repeat (first | (with_reducible first | exact HB.out | apply zac | apply zab | apply zad) | exact HB.out))); (case aF => exact (fun k_ hk => (.inr (Nat.le_trans (by first | exact HK.out.1 | exact (show Kept w _ (fun k_ => P0_ k_) from by repeat (first | (with_reducible first | exact HK.out | apply Kept.alloc | apply Kept.drewN | apply Kept.drew) | exact HK.out)).1) hk)))); (case aO => exact (by (with_reducible repeat (first | apply Kd.R_alloc | apply Kd.R_drewN | apply Kd.R_drew)); exact HO0.out)); (case aS => exact (zai (by repeat (first | (with_reducible first | exact HB.out | apply zac | apply zab | apply zad) | exact HB.out)))); (case aL => have := LMc12.out; omega); intro v185 w14 ho hb hg hat; rw [← Ny184.out] at ho; have n0_ := zaa.mk (hb); have n1_ := zaa.mk (Kept.of_grown (S := (fun k_ => P0_ k_)) hg (by repeat (first | (with_reducible first | exact HK.out | apply Kept.alloc | apply Kept.drewN | apply Kept.drew) | exact HK.out)) (fun k_ e_ => (HO0.out.1 k_ e_))); have n2_ := zaa.mk (ho); clear HB; clear HK; clear HO0; have HB := n0_; have HK := n1_; have HO186 := n2_; clear n0_ n1_ n2_; clear ho hb hg hat))
   go_ret
   exact ⟨_, by first | rfl | (simp [zam, zal] <;> rfl) | (simp [*, zam, zal] <;> rfl), by (with_reducible repeat (first | apply Kd.R_alloc | apply Kd.R_drewN | apply Kd.R_drew)); exact HO186.out, by repeat (first | (with_reducible first | exact HB.out | apply zac | apply zab | apply zad) | exact HB.out), by repeat (first | (with_reducible first | exact HK.out | apply Kept.alloc | apply Kept.drewN | apply Kept.drew) | exact HK.out)⟩
  ·rw [if_neg c12] at H
   exact absurd H (by simp)
end Go.Proofs.Ytickdcegnlldjaa.PB
namespace Go.Proofs.Ytickdcegnlldjaa.Hd
open Go.RowKit Go.PW.PrintWords Go.PW.PrintLast Go.PW.PrintMore Go.Proofs.Ytickdcegnlldjaa.PB
structure Mid (p : List ByteArray) (wi : Nat) : Prop where
 high : p.length ≤ 100
 wide : wi ≤ 100
 row : ∀ s ∈ p, s.size = wi
theorem Mid.rect {p : List ByteArray} {wi : Nat} (h : Mid p wi) : Rect wi (zah p) := by
 intro r hr
 obtain ⟨s, hs, rfl⟩ := List.mem_map.1 hr
 rw [zbk]
 exact h.row s hs
def colOf (p : List ByteArray) (c : Nat) : List Int := p.map fun s => (zax s).getD c 0
def zcl (p : List ByteArray) (wi : Nat) : List ByteArray := (List.range wi).map fun c => strOfNums (colOf p c)
theorem trans_l1 (p : List ByteArray) (wi : Nat) (h : Mid p wi) (c : Nat) (hc : c < wi) (x3 : List ByteArray) (h3 : x3.length ≤ 1000) (r : List ByteArray) (hnext : Evs (fun k => spec_l1Trans.l0 k p (x3 ++ [strOfNums (colOf p c)]) ((c + 1 : Nat) : Int)) r) :
  ∀ m i, i + m = p.length → Evs (fun k => spec_l1Trans.l1 k p x3 (c : Int) (colOf (p.take i) c) (i : Int)) r := by
 have hh := h.high
 have hw := h.wide
 intro m
 induction m with
 | zero =>
  intro i hi
  rw [List.take_of_length_le (by omega)]
  refine Evs.step (h := fun k => spec_l1Trans.l0 k p (x3 ++ [strOfNums (colOf p c)]) ((c + 1 : Nat) : Int)) (fun k => ?_) hnext
  conv => lhs; unfold spec_l1Trans.l1
  rw [if_neg (by omega), if_pos (by omega), zbf (by omega)]
 | succ m ih =>
  intro i hi
  obtain ⟨s, hs⟩ : ∃ s, p[i]? = some s := ⟨_, List.getElem?_eq_getElem (by omega)⟩
  have hsz := h.row s (List.mem_of_getElem? hs)
  have hnx := ih (i + 1) (by omega)
  have e : colOf (p.take (i + 1)) c = colOf (p.take i) c ++ [(zax s).getD c 0] := by
   unfold colOf
   rw [List.take_add_one, hs, List.map_append]
   rfl
  rw [e] at hnx
  refine Evs.step (h := fun k => spec_l1Trans.l1 k p x3 (c : Int) (colOf (p.take i) c ++ [(zax s).getD c 0]) ((i + 1 : Nat) : Int)) (fun k => ?_) hnx
  conv => lhs; unfold spec_l1Trans.l1
  rw [if_pos (by omega), if_pos (by omega), if_pos (by omega), zbm hs, if_pos (by omega), if_pos (by simp [colOf]; omega), ← bytesOf_get, zbf (by omega)]
theorem trans_l0 (p : List ByteArray) (wi : Nat) (h : Mid p wi) (h1 : 1 ≤ p.length) : ∀ m c, c + m = wi → Evs (fun k => spec_l1Trans.l0 k p ((List.range c).map fun c => strOfNums (colOf p c)) (c : Int)) (zcl p wi) := by
 have hh := h.high
 have hw := h.wide
 obtain ⟨s, hs⟩ : ∃ s, p[0]? = some s := ⟨_, List.getElem?_eq_getElem (by omega)⟩
 have hsz := h.row s (List.mem_of_getElem? hs)
 have e0 : rdOf ByteArray.empty p 0 = s := zbm (i := 0) hs
 intro m
 induction m with
 | zero =>
  intro c hc
  obtain rfl : c = wi := by omega
  refine Evs.step (h := fun _ => some (zcl p c)) (fun k => ?_) (Evs.const _)
  conv => lhs; unfold spec_l1Trans.l0
  rw [if_pos (by omega), e0, if_neg (by omega)]
  rfl
 | succ m ih =>
  intro c hc
  have hnx := ih (c + 1) (by omega)
  rw [List.range_succ, List.map_append] at hnx
  have := trans_l1 p wi h c (by omega) ((List.range c).map fun c => strOfNums (colOf p c)) (by simp; omega) _ hnx p.length 0 (by omega)
  refine Evs.step (h := fun k => spec_l1Trans.l1 k p ((List.range c).map fun c => strOfNums (colOf p c)) (c : Int) (colOf (p.take 0) c) ((0 : Nat) : Int)) (fun k => ?_) this
  conv => lhs; unfold spec_l1Trans.l0
  rw [if_pos (by omega), e0, if_pos (by omega)]
  rfl
theorem l1Trans_ev (p : List ByteArray) (wi : Nat) (h : Mid p wi) (h1 : 1 ≤ p.length) : Evs (fun k => spec_l1Trans.f k p) (zcl p wi) := trans_l0 p wi h h1 wi 0 (by omega)
theorem colOf_range (p : List ByteArray) (c : Nat) : ∀ x ∈ colOf p c, 0 ≤ x ∧ x ≤ 255 := by
 intro x hx
 obtain ⟨s, hs, rfl⟩ := List.mem_map.1 hx
 rw [List.getD_eq_getElem?_getD]
 cases h : (zax s)[c]? with
 | none => simp
 | some y => exact bytesOf_range s y (List.mem_of_getElem? h)
theorem numsOf_trans (p : List ByteArray) (wi : Nat) : zah (zcl p wi) = zbl wi p.length (fun r c => zas (zah p) c r) := by
 unfold zah zcl zbl
 rw [List.map_map]
 apply List.map_congr_left
 intro c hc
 show zax (strOfNums (colOf p c)) = _
 rw [bytesOf_strOfNums _ (colOf_range p c)]
 unfold colOf
 apply List.ext_getElem?
 intro i
 rw [List.getElem?_map, List.getElem?_map]
 by_cases hi : i < p.length
 ·rw [List.getElem?_range hi, List.getElem?_eq_getElem hi]
  simp only [Option.map_some]
  congr 1
  unfold zas
  rw [List.getD_eq_getElem?_getD (l := List.map zax p), List.getElem?_map, List.getElem?_eq_getElem hi]
  rfl
 ·rw [List.getElem?_eq_none (by omega), List.getElem?_eq_none (by simp; omega)]
  rfl
theorem mid_trans {p : List ByteArray} {wi : Nat} (h : Mid p wi) : Mid (zcl p wi) p.length := by
 refine ⟨by simp [zcl]; exact h.wide, h.high, fun s hs => ?_⟩
 obtain ⟨c, hc, rfl⟩ := List.mem_map.1 hs
 show (List.map _ (colOf p c)).toArray.size = _
 simp [colOf]
theorem trans_length (p : List ByteArray) (wi : Nat) : (zcl p wi).length = wi := by simp [zcl]
section
variable {α : Type} {g h : Nat → Option α} {r : α} {c : Prop} [Decidable c]
theorem Evs.pos (hc : c) (hg : Evs g r) : Evs (fun k => if c then g k else h k) r := Evs.congr (fun k => if_pos hc) hg
theorem Evs.neg (hc : ¬ c) (hh : Evs h r) : Evs (fun k => if c then g k else h k) r := Evs.congr (fun k => if_neg hc) hh
end
def fits (p : List ByteArray) : Prop := p.length ≤ 9223372036854775807 ∧ ∀ s ∈ p, s.size ≤ 9223372036854775807
end Go.Proofs.Ytickdcegnlldjaa.Hd
namespace Go.Proofs.Ytickdcegnlldjaa.Hd
open Go.RowKit Go.PW.PrintWords Go.PW.PrintLast Go.PW.PrintMore Go.Proofs.Ytickdcegnlldjaa.PB
theorem PlanFacts.mid {p : List ByteArray} {cs : List (List Int)} {rs : List Rc} (F : PlanFacts p cs rs) : Mid p (zag cs) := by
 have hsm := gridOk_small F.canon.grid
 rw [F.wide] at hsm
 exact ⟨by have := hsm.high; omega, by have := hsm.wide; omega, hsm.row⟩
theorem trans_plan {p : List ByteArray} {cs : List (List Int)} {rs : List Rc} (F : PlanFacts p cs rs) : Evs (fun k => spec_l1Trans.f k p) (zcl p (zag cs)) := by
 have o1 := F.ok.h1
 have l1 := F.len
 exact l1Trans_ev p (zag cs) F.mid (by omega)
theorem floor_sum {p : List ByteArray} {cs : List (List Int)} {rs : List Rc} (h : zby p = some (cs, rs)) : zbs rs = (p.length : Int) * (zag (zah p) : Int) := by
 have F := floor_facts h
 rw [floorF_grid F.canon.grid] at h
 split at h
 ·rename_i hc
  rw [F.rooms]
  exact hc.2.1
 ·cases h
theorem count_conv (rows : List (List Int)) (wi : Nat) (x : Int) (b : Rc) : ∀ n, (∀ m, m < n → zca rows wi m = x → inBox b wi m) → zbt rows wi x n = countB b wi n → ∀ m, m < n → inBox b wi m → zca rows wi m = x
 | 0, _, _, m, hm, _ => by omega
 | n + 1, h, he, m, hm, hb => by
  have hle := countN_le_B rows wi x b n (fun m hm => h m (by omega))
  simp only [zbt, countB] at he
  by_cases hx : zca rows wi n = x
  ·rw [if_pos hx, if_pos (h n (by omega) hx)] at he
   rcases Nat.lt_or_eq_of_le (Nat.lt_succ_iff.1 hm) with h1 | h1
   ·exact count_conv rows wi x b n (fun m hm => h m (by omega)) (by omega) m h1 hb
   ·subst h1; exact hx
  ·rw [if_neg hx] at he
   by_cases hbn : inBox b wi n
   ·rw [if_pos hbn] at he; omega
   ·rw [if_neg hbn] at he
    rcases Nat.lt_or_eq_of_le (Nat.lt_succ_iff.1 hm) with h1 | h1
    ·exact count_conv rows wi x b n (fun m hm => h m (by omega)) he m h1 hb
    ·subst h1; exact absurd hb hbn
theorem room_cells {p : List ByteArray} {cs : List (List Int)} {rs : List Rc} (h : zby p = some (cs, rs)) (i : Nat) (hi : i < rs.length) (r c : Nat) (hr : r < cs.length) (hc : c < zag cs) :
  zas cs r c = (i : Int) ↔ ((rs.getD i zbz).f0 ≤ r ∧ (r : Int) < (rs.getD i zbz).f0 + (rs.getD i zbz).f2 ∧ (rs.getD i zbz).f1 ≤ c ∧ (c : Int) < (rs.getD i zbz).f1 + (rs.getD i zbz).f3) := by
 have F := floor_facts h
 have hsum := floor_sum h
 have hrs := F.rooms
 have hfull := full_iff F.canon
 rw [← hrs, decide_eq_true hsum, List.all_eq_true] at hfull
 have hf := of_decide_eq_true (hfull i (List.mem_range.2 hi))
 rw [← hrs] at hf
 have hs := F.canon.shape
 obtain ⟨x, hx, hb, hbd⟩ := rooms_box hs i (by rw [← hrs]; exact hi)
 rw [zbg, ← hrs] at hb hbd
 have hiff : ∀ m, m < p.length * zag (zah p) → (zca (zah p) (zag (zah p)) m = (i : Int) ↔ zas (zah p) (m / zag (zah p)) (m % zag (zah p)) = x) := fun m hm => by
  rw [F.canon.cell m hm]
  exact idx_iff (ordAll_nodup _) hx (cell_mem hs m (by rw [zbg]; exact hm))
 have hin : ∀ m, m < p.length * zag (zah p) → zca (zah p) (zag (zah p)) m = (i : Int) → inBox (rs.getD i zbz) (zag (zah p)) m := fun m hm hv => hb.ins m hm ((hiff m hm).1 hv)
 have hcb := countB_all (rs.getD i zbz) p.length (zag (zah p)) hbd
 have hconv := count_conv _ _ _ _ _ hin (hf.trans hcb.symm)
 rw [F.wide] at hin hconv
 have hm : r * zag cs + c < p.length * zag cs := by
  rw [F.len]
  have : (r + 1) * zag cs ≤ cs.length * zag cs := Nat.mul_le_mul_right _ hr
  rw [Nat.succ_mul] at this
  omega
 obtain ⟨d1, d2⟩ := divmod_of (r := r) hc
 have hcell : zca (zah p) (zag cs) (r * zag cs + c) = zas cs r c := by
  unfold zca
  rw [d1, d2, F.nums, valAt_map F.ok.rect _ hr hc]
  omega
 have hib : inBox (rs.getD i zbz) (zag cs) (r * zag cs + c) ↔ ((rs.getD i zbz).f0 ≤ r ∧ (r : Int) < (rs.getD i zbz).f0 + (rs.getD i zbz).f2 ∧ (rs.getD i zbz).f1 ≤ c ∧ (c : Int) < (rs.getD i zbz).f1 + (rs.getD i zbz).f3) := by unfold inBox; rw [d1, d2]
 rw [← hcell, ← hib]
 exact ⟨hin _ hm, hconv _ hm⟩
end Go.Proofs.Ytickdcegnlldjaa.Hd
namespace Go.Proofs.Ytickdcegnlldjaa.Hd
open Go.RowKit Go.Shelf Go.PW.PrintWords Go.PW.PrintLast Go.PW.PrintMore Go.Proofs.Ytickdcegnlldjaa.PB
def renC : Go.Shelf.Ren := ⟨fun | 20 => 53 | n => n, fun | 0 => 0 | 3 => 3 | 4 => 4 | 22 => 24 | n => n, fun n => n⟩
theorem lays20 : Lays2.n20 Try.prog renC := { mixed := by kernel_rfl, f20 := Try.func53.trans (congrArg some (by kernel_rfl)), t0 := Try.underlying0, a0 := Try.isAgg0, z0 := Try.sizeOf0, v0 := Try.zeroValue0, t3 := Try.underlying3, a3 := Try.isAgg3, z3 := Try.sizeOf3, v3 := Try.zeroValue3, t4 := Try.underlying4, a4 := Try.isAgg4, z4 := Try.sizeOf4, v4 := Try.zeroValue4, t22 := Try.underlying24, a22 := Try.isAgg24, z22 := Try.sizeOf24, v22 := Try.zeroValue24, i3 := by kernel_rfl }
theorem compact_le (xs : List Int) : (Go.Lib.compact xs).length ≤ xs.length := by
 unfold Go.Lib.compact Go.Lib.compactUpTo
 rw [List.length_map]
 have := List.length_filter_le (Go.Lib.keeps xs.toArray) (List.range xs.length)
 rw [List.length_range] at this
 exact this
theorem putRow_heap (w : World) (g : Nat) (D : Array Int) (cur : Array Value) (e : TypeId) (hh : w.heap[g]? = some (.cells cur e (0, 0))) : (Go.Sort.putRow (Value.int .i64) w g 0 D).heap[g]? = some (.cells (Go.Sort.putCells (Value.int .i64) 0 D cur) e (0, 0)) := by
 unfold Go.Sort.putRow Go.Sort.mapBlock
 rw [Array.getElem?_modify, if_pos rfl, hh]
 rfl
theorem putRow_other (w : World) (g k : Nat) (D : Array Int) (hk : k ≠ g) : (Go.Sort.putRow (Value.int .i64) w g 0 D).heap[k]? = w.heap[k]? := by
 unfold Go.Sort.putRow Go.Sort.mapBlock
 rw [Array.getElem?_modify, if_neg (Ne.symm hk)]
theorem put_take (xs : List Int) (L : List Int) (cur : Array Value) (hl : L.length ≤ cur.size) (z : Nat) : (Go.Sort.putCells (Value.int .i64) 0 (L ++ List.replicate z 0).toArray cur).toList.take L.length = encs (Value.int .i64) L := by
 apply List.ext_getElem?
 intro i
 rw [List.getElem?_take]
 unfold Go.Sort.putCells
 by_cases hi : i < L.length
 ·rw [if_pos hi]
  simp only [Array.toList_mapIdx, List.getElem?_mapIdx, encs, List.getElem?_map]
  obtain ⟨u, h1⟩ : ∃ u, cur.toList[i]? = some u := ⟨_, List.getElem?_eq_getElem (show i < cur.toList.length by rw [Array.length_toList]; omega)⟩
  rw [h1, List.getElem?_eq_getElem hi]
  simp only [Option.map_some]
  rw [if_pos (by simp; omega)]
  congr 2
  rw [Nat.sub_zero, getElem!_pos _ i (by simp; omega)]
  simp [hi]
 ·rw [if_neg hi, List.getElem?_eq_none (by rw [encs, List.length_map]; omega)]
set_option maxHeartbeats 1000000 in
theorem compact_calls (xs : List Int) (v : Value) (w : World) (base : Nat) (ok : Nat → Prop) (h : Kd.R (Kd.int .i64) 3 w base ok v xs) :
  Calls Try.prog 53 #[v] w fun e w' => ∃ v', e = .returned v' ∧ Kd.R (Kd.int .i64) 3 w' base ok v' (Go.Lib.compact xs) ∧ w.grownBy w' v.ownBlock ∧ v'.ownBlock = v.ownBlock := by
 have hok := h.1
 have hown := Kd.own_of_R h
 rcases hown.2 with ⟨hv, hx0⟩ | ⟨g, cap, cur, hv, hb, hh, hnc, hcm, hcs, htake⟩
 ·obtain ⟨A, c, rfl⟩ := own_slice hown
  have e0 : xs.length = 0 := hx0
  rw [e0]
  refine (Any.slices_Compact_int_empty lays20 A c w).mono ?_
  rintro e w' ⟨rfl, rfl⟩
  have : xs = [] := List.length_eq_zero_iff.1 e0
  subst this
  exact ⟨_, rfl, h, World.grownBy.refl _ _, rfl⟩
 ·subst hv
  rw [Nat.mul_one] at htake hcs
  have hle := compact_le xs
  have hcm' := hcm
  unfold maxLen at hcm'
  have hH : Go.Sort.Holds (Value.int .i64) w g 0 xs.toArray := by
   intro j hj
   have hj : j < xs.length := by simpa using hj
   rw [Nat.zero_add]
   refine ⟨?_, zaq hh j⟩
   rw [cell_of_row w g j cur 3 (0, 0) hh]
   have h1 : (cur.toList.take xs.length)[j]? = some (.int .i64 xs[j]) := by rw [htake]; simp [encs, hj]
   rw [List.getElem?_take, if_pos hj] at h1
   rw [getElem!_pos _ j (by simpa using hj)]
   simpa using h1
  refine (Any.slices_Compact_int lays20 g 0 cap xs w hH (by omega) (by omega)).mono ?_
  rintro e w' ⟨rfl, q, rfl⟩
  refine ⟨_, rfl, Kd.R_of_own ⟨by rw [encs_length, Nat.mul_one], .inr ⟨g, cap, _, rfl, hb, putRow_heap _ g _ cur 3 hh, by omega, hcm, by simp [Go.Sort.putCells, hcs], ?_⟩⟩ hok, ?_, rfl⟩
  ·rw [Nat.mul_one]
   exact put_take xs _ cur (by omega) _
  ·refine ⟨rfl, rfl, rfl, by simp [Go.Sort.putRow, Go.Sort.mapBlock, Go.Sort.ahead], fun k _ hk => ?_⟩
   have hk : k ≠ g := fun e => hk (by rw [e]; rfl)
   exact putRow_other _ g k _ hk
def putL (L : List Int) (x : Int) : List Int := if L.getLast? = some x then L else L ++ [x]
def foldP (xs : List Int) : List Int := xs.foldl putL []
theorem foldP_snoc (xs : List Int) (x : Int) : foldP (xs ++ [x]) = putL (foldP xs) x := by simp [foldP]
theorem foldP_last (xs : List Int) (x : Int) : (foldP (xs ++ [x])).getLast? = some x := by
 rw [foldP_snoc]
 unfold putL
 split
 ·assumption
 ·simp
theorem upTo_eq (d : Array Int) : ∀ m, m ≤ d.size → Go.Lib.compactUpTo d m = foldP (d.toList.take m)
 | 0, _ => by simp [Go.Lib.compactUpTo, foldP]
 | m + 1, hm => by
  have ih := upTo_eq d m (by omega)
  have e : d.toList.take (m + 1) = d.toList.take m ++ [d[m]!] := by
   rw [List.take_add_one, getElem!_pos d m (by omega)]
   simp [show m < d.size by omega]
  unfold Go.Lib.compactUpTo at ih ⊢
  rw [List.range_succ, List.filter_append, List.map_append, ih, e, foldP_snoc]
  unfold putL
  rcases Nat.eq_zero_or_pos m with h0 | h0
  ·subst h0
   simp [Go.Lib.keeps, foldP]
  ·have e2 : d.toList.take m = d.toList.take (m - 1) ++ [d[m - 1]!] := by
    have : d.toList.take (m - 1 + 1) = d.toList.take (m - 1) ++ [d[m - 1]!] := by
     rw [List.take_add_one, getElem!_pos d (m - 1) (by omega)]
     simp [show m - 1 < d.size by omega]
    rwa [show m - 1 + 1 = m by omega] at this
   have hl : (foldP (d.toList.take m)).getLast? = some d[m - 1]! := by rw [e2]; exact foldP_last _ _
   rw [hl]
   by_cases hd : d[m]! = d[m - 1]!
   ·rw [if_pos (by rw [hd])]
    simp [Go.Lib.keeps_neg h0 hd]
   ·rw [if_neg (fun z => hd (Option.some.inj z).symm)]
    simp [Go.Lib.keeps_pos hd]
theorem compact_fold (xs : List Int) : Go.Lib.compact xs = foldP xs := by
 unfold Go.Lib.compact
 have := upTo_eq xs.toArray xs.length (by simp)
 rw [this]
 simp
end Go.Proofs.Ytickdcegnlldjaa.Hd
namespace Go.Proofs.Ytickdcegnlldjaa.Hd
open Go.RowKit Go.PW.PrintWords Go.PW.PrintLast Go.PW.PrintMore Go.Proofs.Ytickdcegnlldjaa.PB
def Conv (hi wi : Nat) (g : Nat → Nat → Int) : Prop := ∀ r c r' c' i j, r < hi → c < wi → r' < hi → c' < wi → g r c = g r' c' → min r r' ≤ i → i ≤ max r r' → min c c' ≤ j → j ≤ max c c' → g i j = g r c
def ConvG (rows : List (List Int)) : Prop := Conv rows.length (zag rows) (zas rows)
theorem Conv.congr {hi wi : Nat} {g g' : Nat → Nat → Int} (h : Conv hi wi g) (e : ∀ r c, r < hi → c < wi → g r c = g' r c) : Conv hi wi g' := by
 intro r c r' c' i j h1 h2 h3 h4 hv k1 k2 k3 k4
 rw [← e i j (by omega) (by omega), ← e r c h1 h2]
 exact h r c r' c' i j h1 h2 h3 h4 (by rw [e r c h1 h2, e r' c' h3 h4]; exact hv) k1 k2 k3 k4
theorem Conv.map {hi wi : Nat} {g : Nat → Nat → Int} (h : Conv hi wi g) (f : Int → Int) (hf : ∀ r c r' c', r < hi → c < wi → r' < hi → c' < wi → f (g r c) = f (g r' c') → g r c = g r' c') : Conv hi wi (fun r c => f (g r c)) := by
 intro r c r' c' i j h1 h2 h3 h4 hv k1 k2 k3 k4
 show f _ = f _
 rw [h r c r' c' i j h1 h2 h3 h4 (hf _ _ _ _ h1 h2 h3 h4 hv) k1 k2 k3 k4]
theorem names_canon {rows : List (List Int)} (hs : zbi rows = true) (h9 : (zau rows).length ≤ 9) : Canon (zbw (canon rows)) := by
 have hn := names_nums hs
 have hinj := names_inj rows
 have hL := rooms_len hs
 refine ⟨?_, ?_⟩
 ·unfold gridOk
  rw [Bool.and_eq_true, hn, mapG_shape]
  refine ⟨hs, ?_⟩
  rw [List.all_eq_true]
  intro s hss
  obtain ⟨r, hr, rfl⟩ := List.mem_map.1 hss
  unfold okText
  rw [bytesOf_rowText r (canon_val hs r hr), List.all_eq_true]
  intro x hx
  obtain ⟨y, hy, rfl⟩ := List.mem_map.1 hx
  unfold canon canonL at hr
  obtain ⟨r0, hr0, rfl⟩ := List.mem_map.1 hr
  obtain ⟨z, hz, rfl⟩ := List.mem_map.1 hy
  have h3 : (zbj rows).idxOf z < (zbj rows).length := List.idxOf_lt_length_of_mem (ordL_mem rows.flatten [] z (List.mem_flatten.2 ⟨r0, hr0, hz⟩))
  simp only [okLetter, Bool.not_eq_true', Bool.or_eq_false_iff, decide_eq_false_iff_not]
  omega
 ·unfold namesOf
  rw [hn, canon_map hinj]
theorem text_length (rows : List (List Int)) : (zbw (canon rows)).length = rows.length := by simp [zbw, canon, canonL]
theorem canon_length (rows : List (List Int)) : (canon rows).length = rows.length := by simp [canon, canonL]
theorem names_floor {rows : List (List Int)} (hs : zbi rows = true) (h9 : (zau rows).length ≤ 9) : zby (zbw (canon rows)) = if zbs (zau rows) = (rows.length : Int) * (zag rows : Int) then some (canon rows, zau rows) else none := by
 have hC := names_canon hs h9
 have hn := names_nums hs
 have hinj := names_inj rows
 rw [floorF_grid hC.grid, hn, rooms_map hs hinj, mapG_wide, text_length, canon_map hinj]
 by_cases h : zbs (zau rows) = (rows.length : Int) * (zag rows : Int)
 ·rw [if_pos h, if_pos ⟨h9, h, hC.names⟩]
 ·rw [if_neg h, if_neg (fun z => h z.2.1)]
theorem canon_wide (rows : List (List Int)) : zag (canon rows) = zag rows := by
 unfold zag canon canonL
 cases rows with
 | nil => rfl
 | cons a r => simp
theorem canon_at {rows : List (List Int)} (hs : zbi rows = true) {r c : Nat} (hr : r < rows.length) (hc : c < zag rows) : zas (canon rows) r c = ((zbj rows).idxOf (zas rows r c) : Int) := by
 have e := congrArg (fun R => zas R r c) (rect_map (zch hs) (fun x => ((zbj rows).idxOf x : Int)))
 exact Eq.trans e (valAt_gridOf hr hc)
theorem idxOf_inj {L : List Int} {x y : Int} (hx : x ∈ L) (hy : y ∈ L) (e : L.idxOf x = L.idxOf y) : x = y := by
 have h1 := List.idxOf_lt_length_of_mem hx
 have h2 := List.idxOf_lt_length_of_mem hy
 have e1 : L[L.idxOf x] = x := List.getElem_idxOf h1
 have e2 : L[L.idxOf y] = y := List.getElem_idxOf h2
 rw [← e1, ← e2]
 congr 1
theorem val_ord {rows : List (List Int)} (hs : zbi rows = true) {r c : Nat} (hr : r < rows.length) (hc : c < zag rows) : zas rows r c ∈ zbj rows := ordL_mem rows.flatten [] _ (val_mem (zch hs) hr hc)
theorem canon_eq_iff {rows : List (List Int)} (hs : zbi rows = true) {r c r' c' : Nat} (hr : r < rows.length) (hc : c < zag rows) (hr' : r' < rows.length) (hc' : c' < zag rows) : zas (canon rows) r c = zas (canon rows) r' c' ↔ zas rows r c = zas rows r' c' := by
 rw [canon_at hs hr hc, canon_at hs hr' hc']
 constructor
 ·exact fun h => idxOf_inj (val_ord hs hr hc) (val_ord hs hr' hc') (by omega)
 ·intro h
  rw [h]
theorem conv_canon {rows : List (List Int)} (hs : zbi rows = true) : ConvG (canon rows) ↔ ConvG rows := by
 unfold ConvG
 rw [canon_length, canon_wide]
 constructor
 ·intro h r c r' c' i j h1 h2 h3 h4 hv k1 k2 k3 k4
  exact (canon_eq_iff hs (by omega) (by omega) h1 h2).1 (h r c r' c' i j h1 h2 h3 h4 ((canon_eq_iff hs h1 h2 h3 h4).2 hv) k1 k2 k3 k4)
 ·intro h r c r' c' i j h1 h2 h3 h4 hv k1 k2 k3 k4
  exact (canon_eq_iff hs (by omega) (by omega) h1 h2).2 (h r c r' c' i j h1 h2 h3 h4 ((canon_eq_iff hs h1 h2 h3 h4).1 hv) k1 k2 k3 k4)
theorem countN_conv (rows : List (List Int)) (wi : Nat) (x : Int) (b : Rc) : ∀ n, (∀ m, m < n → (zca rows wi m = x ↔ inBox b wi m)) → zbt rows wi x n = countB b wi n
 | 0, _ => rfl
 | n + 1, h => by
  have ih := countN_conv rows wi x b n (fun m hm => h m (by omega))
  simp only [zbt, countB]
  by_cases hx : zca rows wi n = x
  ·rw [if_pos hx, if_pos ((h n (by omega)).1 hx), ih]
  ·rw [if_neg hx, if_neg (fun z => hx ((h n (by omega)).2 z)), ih]
theorem conv_sum {rows : List (List Int)} (hs : zbi rows = true) (h9 : (zau rows).length ≤ 9) : zbs (zau rows) = (rows.length : Int) * (zag rows : Int) ↔ ConvG rows := by
 have hfl := names_floor hs h9
 constructor
 ·intro h
  rw [if_pos h] at hfl
  have F := floor_facts hfl
  rw [← conv_canon hs]
  intro r c r' c' i j h1 h2 h3 h4 hv k1 k2 k3 k4
  have hv1 := valAt_range F.ok r c h1 h2
  obtain ⟨q, hq⟩ := Int.eq_ofNat_of_zero_le hv1.1
  have hq2 : q < (zau rows).length := by omega
  have hc := fun r c hr hc => room_cells hfl q hq2 r c hr hc
  have a1 := (hc r c h1 h2).1 hq
  have a2 := (hc r' c' h3 h4).1 (by rw [← hv]; exact hq)
  rw [hq]
  exact (hc i j (by omega) (by omega)).2 (by omega)
 ·intro h
  have hC := names_canon hs h9
  have hn := names_nums hs
  have hinj := names_inj rows
  have hiff := full_iff hC
  rw [hn, rooms_map hs hinj, mapG_wide, text_length] at hiff
  have hall : (List.range (zau rows).length).all (fullB (zbw (canon rows))) = true := by
   rw [List.all_eq_true]
   intro x hx
   have hx := List.mem_range.1 hx
   unfold fullB
   rw [decide_eq_true_eq, hn, rooms_map hs hinj, mapG_wide, text_length]
   obtain ⟨v, hv, hb, hbd⟩ := rooms_box hs x hx
   rw [← countB_all _ _ _ hbd]
   obtain ⟨s1, s2, s3, s4, s5⟩ := (zbv _).1 hs
   have hR := zch hs
   refine countN_conv _ _ _ _ _ fun m hm => ?_
   have hr : m / zag rows < rows.length := by rw [Nat.div_lt_iff_lt_mul (by omega)]; exact hm
   have hc := Nat.mod_lt m (show 0 < zag rows by omega)
   have hcell : zca (mapG (fun x => 97 + ((zbj rows).idxOf x : Int)) rows) (zag rows) m = ((zbj rows).idxOf (zas rows (m / zag rows) (m % zag rows)) : Int) := by
    unfold zca
    rw [valAt_map hR _ hr hc]
    omega
   rw [hcell, idx_iff (ordAll_nodup rows) hv (val_ord hs hr hc)]
   constructor
   ·exact fun h => hb.ins m hm h
   ·intro hin
    obtain ⟨i1, i2, i3, i4⟩ := hin
    obtain ⟨mt, nt, vt, et⟩ := hb.top
    obtain ⟨ml, nl, vl, el⟩ := hb.left
    obtain ⟨mw, nw, vw, ew⟩ := hb.low
    obtain ⟨mr, nr, vr, er⟩ := hb.right
    have rr : ∀ m, m < rows.length * zag rows → m / zag rows < rows.length ∧ m % zag rows < zag rows := fun m hm => ⟨by rw [Nat.div_lt_iff_lt_mul (by omega)]; exact hm, Nat.mod_lt m (by omega)⟩
    obtain ⟨t1, t2⟩ := rr mt nt
    obtain ⟨l1, l2⟩ := rr ml nl
    obtain ⟨w1, w2⟩ := rr mw nw
    obtain ⟨r1, r2⟩ := rr mr nr
    have gt := hb.ins mt nt vt
    have gl := hb.ins ml nl vl
    have gw := hb.ins mw nw vw
    have gr := hb.ins mr nr vr
    generalize hbx : (zau rows).getD x zbz = bx at *
    -- the upper left and the lower right corner
    have c1 := h (mt / zag rows) (mt % zag rows) (ml / zag rows) (ml % zag rows) (mt / zag rows) (ml % zag rows) t1 t2 l1 l2 (vt.trans vl.symm) (by omega) (by omega) (by omega) (by omega)
    have c2 := h (mw / zag rows) (mw % zag rows) (mr / zag rows) (mr % zag rows) (mw / zag rows) (mr % zag rows) w1 w2 r1 r2 (vw.trans vr.symm) (by omega) (by omega) (by omega) (by omega)
    have c3 := h (mt / zag rows) (ml % zag rows) (mw / zag rows) (mr % zag rows) (m / zag rows) (m % zag rows) t1 l2 w1 r2 (by rw [c1, c2, vt, vw]) (by omega) (by omega) (by omega) (by omega)
    rw [c3, c1, vt]
  rw [hall] at hiff
  exact of_decide_eq_true hiff.symm
structure OkG (rows : List (List Int)) : Prop where
 shape : zbi rows = true
 many : (zbj rows).length ≤ 9
 conv : ConvG rows
theorem OkG.floor {rows : List (List Int)} (h : OkG rows) : zby (zbw (canon rows)) = some (canon rows, zau rows) := by
 have h9 : (zau rows).length ≤ 9 := by rw [← rooms_len h.shape]; exact h.many
 rw [names_floor h.shape h9, if_pos ((conv_sum h.shape h9).2 h.conv)]
theorem floor_shape {cs : List (List Int)} {rs : List Rc} (h : FloorOk cs rs) : zbi cs = true := (zbv _).2 ⟨h.h1, h.h6, h.w1, h.w6, h.rect⟩
theorem add_inj (a : Int) (S : Int → Prop) : InjOn (fun x => a + x) S := fun x y _ _ e => by have : a + x = a + y := e; omega
theorem floor_okG {p : List ByteArray} {cs : List (List Int)} {rs : List Rc} (h : zby p = some (cs, rs)) : OkG cs ∧ canon cs = cs ∧ rs = zau cs ∧ p = zbw cs := by
 have F := floor_facts h
 have hs := floor_shape F.ok
 have e1 : canon cs = cs := by
  have e2 : canon (mapG (fun x => 97 + x) cs) = canon cs := canon_map (add_inj 97 _)
  rw [← F.nums, ← F.cells] at e2
  exact e2.symm
 have e2 : rs = zau cs := by rw [F.rooms, F.nums, rooms_map hs (add_inj 97 _)]
 have h9 : (zau cs).length ≤ 9 := by rw [← e2]; exact F.ok.many
 have hsum := floor_sum h
 rw [F.wide, F.len, e2] at hsum
 exact ⟨⟨hs, by rw [rooms_len hs]; exact h9, (conv_sum hs h9).1 hsum⟩, e1, e2, F.text⟩
def reG (X : List (List Int)) (h w : Nat) (a b : Nat → Nat → Nat) : List (List Int) := zbl h w fun r c => zas X (a r c) (b r c)
def crossX (X : List (List Int)) : List (List Int) := reG X (zag X) X.length (fun r c => c) (fun r c => r)
theorem OkG.canon {X : List (List Int)} (h : OkG X) : OkG (canon X) := (floor_okG h.floor).1
def crossH (cs : List (List Int)) (_ : List Rc) : List (List Int) := crossX cs
theorem bt_val (p : List ByteArray) {i : Nat} {s : ByteArray} (hs : p[i]? = some s) (j : Nat) : bt s (j : Int) = zas (zah p) i j := by
 unfold zas zah
 rw [List.getD_eq_getElem?_getD (l := List.map _ _), List.getElem?_map, hs, ← bytesOf_get]
 rfl
theorem l2Put_f (L : List Int) (x : Int) (hl : L.length ≤ 100000) : spec_l2Put.f L x = some (putL L x) := by
 unfold spec_l2Put.f putL
 by_cases h0 : L = []
 ·subst h0
  rw [if_neg (by simp), if_pos (by simp), if_neg (by simp)]
 ·have hp : 0 < L.length := List.length_pos_iff.2 h0
  have hw : wrap64 ((L.length : Int) - 1) = ((L.length - 1 : Nat) : Int) := by rw [zap (by omega) (by omega)]; omega
  have hg : L.getLast? = some (rd L ((L.length - 1 : Nat) : Int)) := by
   rw [List.getLast?_eq_getElem?, List.getElem?_eq_getElem (by omega)]
   unfold rd
   rw [Int.toNat_natCast, List.getD_eq_getElem?_getD, List.getElem?_eq_getElem (by omega)]
   rfl
  rw [if_pos (by omega), hw, if_pos (by omega), if_pos (by omega), hg]
  by_cases hx : rd L ((L.length - 1 : Nat) : Int) = x
  ·rw [if_pos hx, if_pos (by rw [hx])]
  ·rw [if_neg hx, if_pos (by omega), if_neg (fun z => hx (Option.some.inj z))]
theorem foldP_length (xs : List Int) : (foldP xs).length ≤ xs.length := by
 rw [← compact_fold]
 exact compact_le xs
theorem PlanFacts.byte {p : List ByteArray} {cs : List (List Int)} {rs : List Rc} (F : PlanFacts p cs rs) (r c : Nat) (hr : r < cs.length) (hc : c < zag cs) :
  bt (rdOf ByteArray.empty p (r : Int)) (c : Int) = 97 + zas cs r c ∧ (rdOf ByteArray.empty p (r : Int)).size = zag cs := by
 have hrl : r < p.length := by rw [F.len]; exact hr
 have hs : p[r]? = some p[r] := List.getElem?_eq_getElem hrl
 refine ⟨?_, ?_⟩
 ·rw [zbm hs, bt_val p hs c, F.nums]
  exact valAt_map F.ok.rect _ hr hc
 ·rw [zbm hs]
  exact F.mid.row _ (List.getElem_mem _)
def sideL (cs : List (List Int)) (side : Int) : List Int :=
 if side = 0 then (List.range (zag cs)).map (fun c => zas cs 0 c)
 else if side = 1 then (List.range cs.length).map (fun r => zas cs r (zag cs - 1))
 else if side = 2 then (List.range (zag cs)).map (fun c => zas cs (cs.length - 1) c)
 else (List.range cs.length).map (fun r => zas cs r 0)
def zbc (p : List ByteArray) (side : Int) : List Int × Bool := match zby p with
 | none => ([], false)
 | some (cs, rs) => if 0 ≤ side ∧ side ≤ 3 then (foldP (sideL cs side), true) else ([], false)
set_option maxHeartbeats 4000000 in
set_option maxRecDepth 100000 in
theorem specOut_none (A0 : Option Addr) (c0 : Nat) (l0 : List ByteArray) (side : Int) (w : World) (hr0 : Kd.C Kd.string w A0 l0.length l0) (hc0 : l0.length ≤ c0) (hp : zcp l0) (hF : zby l0 = none) :
  Calls Try.prog 13 #[.slice A0 l0.length c0, .int .i64 side] w fun e w' => ∃ v0_ : Value, e = .returned (.tuple #[v0_, .bool false]) ∧ Kd.R (Kd.int .i64) 3 w' w.heap.size (fun _ => True) v0_ [] ∧ Below w.heap.size w w' := by
 obtain ⟨K1, hK1⟩ := PlanIn_ev l0 hp
 have hk := hK1 K1 (Nat.le_refl _)
 rcases planB_cases l0 with ⟨e1, f1⟩ | ⟨e1, cs, rs, f1⟩
 ·rw [e1] at hk
  have HR0 := zaa.mk hr0
  have HC0 := zaa.mk hc0
  have HPI := zaa.mk hk
  clear hr0 hc0 hk hK1 e1 f1 hF hp
  go_enter Try.func13, Try.ntmps13
  go_wp2_with (first
   | ((with_reducible refine zay (N := 10) rfl ?_); refine Kd.R_lit (Kd.int .i64) _ 3 ?hg (N := 10) ?hd (xs := ([] : List Int)) (inner := []) (ok := fun _ => True) (okp := fun _ => True) ?hr ?hp (fun _ hk => hk) trivial (Below.refl _ _) (Nat.le_refl _) (by simp) ?_; (case hd => rfl); (case hg => rfl); (case hr => first | (go_simp; done) | (go_simp; rfl)); (case hp => exact (Reps.none _ _)); intro v10 w3 ho4 hb hg_ hnew_; clear hg_ hnew_; have HO := zaa.mk ho4; have HB := zaa.mk hb; clear hb ho4)
   | (go_at_call 45; refine (spec_PlanIn.calls K1 A0 c0 l0 false _ (Kd.C_below HR0.out HB.out) HC0.out HPI.out).mono ?_; rintro e w8 ⟨rfl, hb8⟩; have HO8 := zaa.mk (Kd.R_below HO.out hb8); have HB8 := zaa.mk (zaf HB.out hb8); clear hb8))
  go_ret2
  exact ⟨_, rfl, HO8.out, HB8.out⟩
 ·rw [f1] at hF; cases hF
theorem l6In_out (side : Int) (h : ¬ (0 ≤ side ∧ side ≤ 3)) : spec_l6In.f side 0 3 = some false := by
 unfold spec_l6In.f
 by_cases h0 : side ≥ 0
 ·rw [if_pos h0, decide_eq_false (by omega)]
 ·rw [if_neg h0]
theorem l6In_in (side : Int) (h : 0 ≤ side ∧ side ≤ 3) : spec_l6In.f side 0 3 = some true := by
 unfold spec_l6In.f
 rw [if_pos h.1, decide_eq_true h.2]
set_option maxHeartbeats 4000000 in
set_option maxRecDepth 100000 in
theorem specOut_far (A0 : Option Addr) (c0 : Nat) (l0 : List ByteArray) (side : Int) (w : World) (hr0 : Kd.C Kd.string w A0 l0.length l0) (hc0 : l0.length ≤ c0) (hp : zcp l0) (hs : ¬ (0 ≤ side ∧ side ≤ 3)) :
  Calls Try.prog 13 #[.slice A0 l0.length c0, .int .i64 side] w fun e w' => ∃ v0_ : Value, e = .returned (.tuple #[v0_, .bool false]) ∧ Kd.R (Kd.int .i64) 3 w' w.heap.size (fun _ => True) v0_ [] ∧ Below w.heap.size w w' := by
 obtain ⟨K1, hK1⟩ := PlanIn_ev l0 hp
 have hk := hK1 K1 (Nat.le_refl _)
 rcases planB_cases l0 with ⟨e1, f1⟩ | ⟨e1, cs, rs, f1⟩
 ·exact specOut_none A0 c0 l0 side w hr0 hc0 hp f1
 ·rw [e1] at hk
  have HR0 := zaa.mk hr0
  have HC0 := zaa.mk hc0
  have HPI := zaa.mk hk
  have HIn := zaa.mk (l6In_out side hs)
  clear hr0 hc0 hk hK1 e1 f1 hp hs
  go_enter Try.func13, Try.ntmps13
  go_wp2_with (first
   | ((with_reducible refine zay (N := 10) rfl ?_); refine Kd.R_lit (Kd.int .i64) _ 3 ?hg (N := 10) ?hd (xs := ([] : List Int)) (inner := []) (ok := fun _ => True) (okp := fun _ => True) ?hr ?hp (fun _ hk => hk) trivial (Below.refl _ _) (Nat.le_refl _) (by simp) ?_; (case hd => rfl); (case hg => rfl); (case hr => first | (go_simp; done) | (go_simp; rfl)); (case hp => exact (Reps.none _ _)); intro v10 w3 ho4 hb hg_ hnew_; clear hg_ hnew_; have HO := zaa.mk ho4; have HB := zaa.mk hb; clear hb ho4)
   | (go_at_call 45; refine (spec_PlanIn.calls K1 A0 c0 l0 true _ (Kd.C_below HR0.out HB.out) HC0.out HPI.out).mono ?_; rintro e w8 ⟨rfl, hb8⟩; have HO8 := zaa.mk (Kd.R_below HO.out hb8); have HB8 := zaa.mk (zaf HB.out hb8); clear hb8)
   | (go_at_call 46; refine (spec_l6In.calls side 0 3 false _ HIn.out).mono ?_; rintro e w9 ⟨rfl, hd9⟩; have HO9 := zaa.mk (Kd.R_below HO8.out hd9.below); have HB9 := zaa.mk (zaf HB8.out hd9.below); clear hd9))
  go_ret2
  exact ⟨_, rfl, HO9.out, HB9.out⟩
set_option maxHeartbeats 400000 in
set_option maxRecDepth 100000 in
theorem specOut_even (A0 : Option Addr) (c0 : Nat) (l0 : List ByteArray) (sd : Int) (w : World) (hr0 : Kd.C Kd.string w A0 l0.length l0) (hc0 : l0.length ≤ c0) (hp : zcp l0) (cs : List (List Int)) (rs : List Rc) (hF : zby l0 = some (cs, rs)) (h03 : 0 ≤ sd ∧ sd ≤ 3)
  (q1 : (sd == 1) = false) (q2 : (sd == 2) = false) (q3 : (Int.tmod sd 2 == 1) = false) (hsd : sideL cs sd = (List.range (zag cs)).map (fun c => zas cs 0 c)) :
  Calls Try.prog 13 #[.slice A0 l0.length c0, .int .i64 sd] w fun e w' => ∃ v0_ : Value, e = .returned (.tuple #[v0_, .bool true]) ∧ Kd.R (Kd.int .i64) 3 w' w.heap.size (fun _ => True) v0_ (foldP (sideL cs sd)) ∧ Below w.heap.size w w' := by
 obtain ⟨K1, hK1⟩ := PlanIn_ev l0 hp
 have hk := hK1 K1 (Nat.le_refl _)
 rcases planB_cases l0 with ⟨e1, f1⟩ | ⟨e1, cs', rs', f1⟩
 ·rw [f1] at hF; cases hF
 ·rw [e1] at hk
  have F := floor_facts hF
  have HR0 := zaa.mk hr0
  have HC0 := zaa.mk hc0
  have HPI := zaa.mk hk
  have HIn := zaa.mk (l6In_in sd h03)
  have h1 := F.ok.h1
  have h6 := F.ok.h6
  have w6 := F.ok.w6
  have HF := zaa.mk F
  have HSd := zaa.mk hsd
  clear hsd
  have HLen := zaa.mk F.len
  have hb := fun c (hc : c < zag cs) => F.byte 0 c (by omega) hc
  have HBy := zaa.mk hb
  have HSz := zaa.mk (show (rdOf ByteArray.empty l0 0).size = zag cs from (hb 0 (by have := F.ok.w1; omega)).2)
  clear hb
  clear hr0 hc0 hk hK1 e1 f1 hp h03 F hF
  go_enter Try.func13, Try.ntmps13
  go_wp2_with (first
   | ((with_reducible refine zay (N := 10) rfl ?_); refine Kd.R_lit (Kd.int .i64) _ 3 ?hg (N := 10) ?hd (xs := ([] : List Int)) (inner := []) (ok := fun _ => True) (okp := fun _ => True) ?hr ?hp (fun _ hk => hk) trivial (Below.refl _ _) (Nat.le_refl _) (by simp) ?_; (case hd => rfl); (case hg => rfl); (case hr => first | (go_simp; done) | (go_simp; rfl)); (case hp => exact (Reps.none _ _)); intro v10 w3 ho4 hb hg_ hnew_; clear hg_ hnew_; have HO := zaa.mk ho4; have HB := zaa.mk hb; clear hb ho4)
   | (go_at_call 45; refine (spec_PlanIn.calls K1 A0 c0 l0 true _ (Kd.C_below HR0.out HB.out) HC0.out HPI.out).mono ?_; rintro e w8 ⟨rfl, hb8⟩; have HO8 := zaa.mk (Kd.R_below HO.out hb8); have HB8 := zaa.mk (zaf HB.out hb8); clear hb8)
   | (go_at_call 46; refine (spec_l6In.calls sd 0 3 true _ HIn.out).mono ?_; rintro e w9 ⟨rfl, hd9⟩; have HO9 := zaa.mk (Kd.R_below HO8.out hd9.below); have HB9 := zaa.mk (zaf HB8.out hd9.below); clear hd9))
  go_loopg [6, 9] (zag cs) (fun kq v6 v9 w' => ∃ (k : Nat) (P : Nat → Prop), v9 = .int .i64 (k : Int) ∧ zaa (k + kq = zag cs) ∧ zaa (Kd.R (Kd.int .i64) 3 w' w.heap.size P v6 (foldP ((List.range k).map fun c => zas cs 0 c))) ∧ zaa (Below w.heap.size w w'))
  case atStart => exact ⟨0, _, rfl, ⟨by omega⟩, HO9, HB9⟩
  case round =>
   obtain ⟨k, P, rfl, HK, HOk, HBk⟩ := hrel
   have HK' := HK.out
   have z1 : (0 : Int) < (l0.length : Int) := by have := HLen.out; omega
   obtain ⟨ad, ead, hz⟩ := Kd.at_string (Kd.C_below HR0.out HBk.out) 0 (by omega) z1
   cases ead
   rw [show ((0 : Int)).toNat = 0 from rfl, Addr.add_zero'] at hz
   by_cases hk : k < zag cs
   ·have y0 : (0 : Int) ≤ (k : Int) := by omega
    have y1 : (k : Int) < ((rdOf ByteArray.empty l0 0).size : Int) := by have := HSz.out; omega
    have hv : ∀ h : k < (rdOf ByteArray.empty l0 0).size, wrap64 (wrap64 (((rdOf ByteArray.empty l0 0)[k]'h).toNat : Int) - 97) = zas cs 0 k := fun h => by
     have e1 := bt_at (rdOf ByteArray.empty l0 0) (k : Int) h
     have e2 := (HBy.out k hk).1
     have e3 : (((rdOf ByteArray.empty l0 0)[k]'h).toNat : Int) = 97 + zas cs 0 k := e1.trans e2
     have e4 := valAt_range HF.out.ok 0 k (by omega) hk
     have e5 := HF.out.ok.many
     rw [e3, zap (x := 97 + zas cs 0 k) (by omega) (by omega), zap (by omega) (by omega)]
     omega
    have HV := zaa.mk hv
    clear hv
    have hf : ((List.range k).map fun c => zas cs 0 c).length ≤ 9 := by simp; omega
    have hp := l2Put_f (foldP ((List.range k).map fun c => zas cs 0 c)) (zas cs 0 k) (by have := foldP_length ((List.range k).map fun c => zas cs 0 c); omega)
    rw [← foldP_snoc] at hp
    have HPt := zaa.mk hp
    clear hp hf
    go_wp2_with (first
     | (go_at_call 48; refine calls_of_args (args' := #[u6, .int .i64 (zas cs 0 k)]) (by rw [HV.out]) ?_; refine (spec_l2Put.calls P u6 _ _ _ w _ HBk.out HOk.out HPt.out).mono ?_; rintro e w10 ⟨v10, rfl, hr10, hb10, -⟩; have HO10 := zaa.mk hr10; have HB10 := zaa.mk hb10; clear hr10 hb10))
    go_roundg (zag cs - (k + 1))
    case measure => omega
    case rel => exact ⟨k + 1, _, by first | rfl | (congr 1; omega), ⟨by omega⟩, by rw [List.range_succ, List.map_append]; exact HO10, HB10⟩
   ·obtain rfl : k = zag cs := by omega
    have y1 : ¬ (zag cs : Int) < ((rdOf ByteArray.empty l0 0).size : Int) := by have := HSz.out; omega
    go_wp2
    go_ret2
    refine ⟨u6, rfl, ?_, HBk.out⟩
    have e6 : sideL cs sd = (List.range (zag cs)).map (fun c => zas cs 0 c) := HSd.out
    rw [e6]
    exact ⟨fun _ _ => trivial, HOk.out.2⟩
set_option maxHeartbeats 400000 in
set_option maxRecDepth 100000 in
theorem specOut_last (A0 : Option Addr) (c0 : Nat) (l0 : List ByteArray) (sd : Int) (w : World) (hr0 : Kd.C Kd.string w A0 l0.length l0) (hc0 : l0.length ≤ c0) (hp : zcp l0) (cs : List (List Int)) (rs : List Rc) (z : Nat) (hz0 : z + 1 = cs.length) (hF : zby l0 = some (cs, rs)) (h03 : 0 ≤ sd ∧ sd ≤ 3)
  (q1 : (sd == 1) = false) (q2 : (sd == 2) = true) (q3 : (Int.tmod sd 2 == 1) = false) (hsd : sideL cs sd = (List.range (zag cs)).map (fun c => zas cs z c)) :
  Calls Try.prog 13 #[.slice A0 l0.length c0, .int .i64 sd] w fun e w' => ∃ v0_ : Value, e = .returned (.tuple #[v0_, .bool true]) ∧ Kd.R (Kd.int .i64) 3 w' w.heap.size (fun _ => True) v0_ (foldP (sideL cs sd)) ∧ Below w.heap.size w w' := by
 obtain ⟨K1, hK1⟩ := PlanIn_ev l0 hp
 have hk := hK1 K1 (Nat.le_refl _)
 rcases planB_cases l0 with ⟨e1, f1⟩ | ⟨e1, cs', rs', f1⟩
 ·rw [f1] at hF; cases hF
 ·rw [e1] at hk
  have F := floor_facts hF
  have HR0 := zaa.mk hr0
  have HC0 := zaa.mk hc0
  have HPI := zaa.mk hk
  have HIn := zaa.mk (l6In_in sd h03)
  have h1 := F.ok.h1
  have h6 := F.ok.h6
  have w6 := F.ok.w6
  have HF := zaa.mk F
  have HSd := zaa.mk hsd
  clear hsd
  have HLen := zaa.mk F.len
  have wz : wrap64 ((l0.length : Int) - 1) = (z : Int) := by have := F.len; rw [zap (by omega) (by omega)]; omega
  have zz0 : (0 : Int) ≤ (z : Int) := by omega
  have hb := fun c (hc : c < zag cs) => F.byte z c (by omega) hc
  have HBy := zaa.mk hb
  have HSz := zaa.mk (show (rdOf ByteArray.empty l0 (z : Int)).size = zag cs from (hb 0 (by have := F.ok.w1; omega)).2)
  clear hb
  clear hr0 hc0 hk hK1 e1 f1 hp h03 F hF
  go_enter Try.func13, Try.ntmps13
  go_wp2_with (first
   | ((with_reducible refine zay (N := 10) rfl ?_); refine Kd.R_lit (Kd.int .i64) _ 3 ?hg (N := 10) ?hd (xs := ([] : List Int)) (inner := []) (ok := fun _ => True) (okp := fun _ => True) ?hr ?hp (fun _ hk => hk) trivial (Below.refl _ _) (Nat.le_refl _) (by simp) ?_; (case hd => rfl); (case hg => rfl); (case hr => first | (go_simp; done) | (go_simp; rfl)); (case hp => exact (Reps.none _ _)); intro v10 w3 ho4 hb hg_ hnew_; clear hg_ hnew_; have HO := zaa.mk ho4; have HB := zaa.mk hb; clear hb ho4)
   | (go_at_call 45; refine (spec_PlanIn.calls K1 A0 c0 l0 true _ (Kd.C_below HR0.out HB.out) HC0.out HPI.out).mono ?_; rintro e w8 ⟨rfl, hb8⟩; have HO8 := zaa.mk (Kd.R_below HO.out hb8); have HB8 := zaa.mk (zaf HB.out hb8); clear hb8)
   | (go_at_call 46; refine (spec_l6In.calls sd 0 3 true _ HIn.out).mono ?_; rintro e w9 ⟨rfl, hd9⟩; have HO9 := zaa.mk (Kd.R_below HO8.out hd9.below); have HB9 := zaa.mk (zaf HB8.out hd9.below); clear hd9))
  rw [wz]
  go_loopg [6, 9] (zag cs) (fun kq v6 v9 w' => ∃ (k : Nat) (P : Nat → Prop), v9 = .int .i64 (k : Int) ∧ zaa (k + kq = zag cs) ∧ zaa (Kd.R (Kd.int .i64) 3 w' w.heap.size P v6 (foldP ((List.range k).map fun c => zas cs z c))) ∧ zaa (Below w.heap.size w w'))
  case atStart => exact ⟨0, _, rfl, ⟨by omega⟩, HO9, HB9⟩
  case round =>
   obtain ⟨k, P, rfl, HK, HOk, HBk⟩ := hrel
   have HK' := HK.out
   have z1 : (z : Int) < (l0.length : Int) := by have := HLen.out; omega
   obtain ⟨ad, ead, hz⟩ := Kd.at_string (Kd.C_below HR0.out HBk.out) (z : Int) (by omega) z1
   cases ead
   rw [Int.toNat_natCast] at hz
   by_cases hk : k < zag cs
   ·have y0 : (0 : Int) ≤ (k : Int) := by omega
    have y1 : (k : Int) < ((rdOf ByteArray.empty l0 (z : Int)).size : Int) := by have := HSz.out; omega
    have hv : ∀ h : k < (rdOf ByteArray.empty l0 (z : Int)).size, wrap64 (wrap64 (((rdOf ByteArray.empty l0 (z : Int))[k]'h).toNat : Int) - 97) = zas cs z k := fun h => by
     have e1 := bt_at (rdOf ByteArray.empty l0 (z : Int)) (k : Int) h
     have e2 := (HBy.out k hk).1
     have e3 : (((rdOf ByteArray.empty l0 (z : Int))[k]'h).toNat : Int) = 97 + zas cs z k := e1.trans e2
     have e4 := valAt_range HF.out.ok z k (by omega) hk
     have e5 := HF.out.ok.many
     rw [e3, zap (x := 97 + zas cs z k) (by omega) (by omega), zap (by omega) (by omega)]
     omega
    have HV := zaa.mk hv
    clear hv
    have hf : ((List.range k).map fun c => zas cs z c).length ≤ 9 := by simp; omega
    have hp := l2Put_f (foldP ((List.range k).map fun c => zas cs z c)) (zas cs z k) (by have := foldP_length ((List.range k).map fun c => zas cs z c); omega)
    rw [← foldP_snoc] at hp
    have HPt := zaa.mk hp
    clear hp hf
    go_wp2_with (first
     | (go_at_call 48; refine calls_of_args (args' := #[u6, .int .i64 (zas cs z k)]) (by rw [HV.out]) ?_; refine (spec_l2Put.calls P u6 _ _ _ w _ HBk.out HOk.out HPt.out).mono ?_; rintro e w10 ⟨v10, rfl, hr10, hb10, -⟩; have HO10 := zaa.mk hr10; have HB10 := zaa.mk hb10; clear hr10 hb10))
    go_roundg (zag cs - (k + 1))
    case measure => omega
    case rel => exact ⟨k + 1, _, by first | rfl | (congr 1; omega), ⟨by omega⟩, by rw [List.range_succ, List.map_append]; exact HO10, HB10⟩
   ·obtain rfl : k = zag cs := by omega
    have y1 : ¬ (zag cs : Int) < ((rdOf ByteArray.empty l0 (z : Int)).size : Int) := by have := HSz.out; omega
    go_wp2
    go_ret2
    refine ⟨u6, rfl, ?_, HBk.out⟩
    have e6 : sideL cs sd = (List.range (zag cs)).map (fun c => zas cs z c) := HSd.out
    rw [e6]
    exact ⟨fun _ _ => trivial, HOk.out.2⟩
theorem PlanFacts.tbyte {p : List ByteArray} {cs : List (List Int)} {rs : List Rc} (F : PlanFacts p cs rs) (c r : Nat) (hc : c < zag cs) (hr : r < cs.length) :
  bt (rdOf ByteArray.empty (zcl p (zag cs)) (c : Int)) (r : Int) = 97 + zas cs r c ∧ (rdOf ByteArray.empty (zcl p (zag cs)) (c : Int)).size = cs.length := by
 have hcl : c < (zcl p (zag cs)).length := by rw [trans_length]; exact hc
 have hs : (zcl p (zag cs))[c]? = some (zcl p (zag cs))[c] := List.getElem?_eq_getElem hcl
 refine ⟨?_, ?_⟩
 ·rw [zbm hs, bt_val _ hs r, numsOf_trans, F.len, valAt_gridOf hc hr, F.nums]
  exact valAt_map F.ok.rect _ hr hc
 ·rw [zbm hs, ← F.len]
  exact (mid_trans F.mid).row _ (List.getElem_mem _)
set_option maxHeartbeats 400000 in
set_option maxRecDepth 100000 in
theorem specOut_right (A0 : Option Addr) (c0 : Nat) (l0 : List ByteArray) (sd : Int) (w : World) (hr0 : Kd.C Kd.string w A0 l0.length l0) (hc0 : l0.length ≤ c0) (hp : zcp l0) (cs : List (List Int)) (rs : List Rc) (z : Nat) (hz0 : z + 1 = zag cs) (hF : zby l0 = some (cs, rs)) (h03 : 0 ≤ sd ∧ sd ≤ 3)
  (q1 : (sd == 1) = true) (q2 : (sd == 2) = false) (q3 : (Int.tmod sd 2 == 1) = true) (hsd : sideL cs sd = (List.range cs.length).map (fun r => zas cs r z)) :
  Calls Try.prog 13 #[.slice A0 l0.length c0, .int .i64 sd] w fun e w' => ∃ v0_ : Value, e = .returned (.tuple #[v0_, .bool true]) ∧ Kd.R (Kd.int .i64) 3 w' w.heap.size (fun _ => True) v0_ (foldP (sideL cs sd)) ∧ Below w.heap.size w w' := by
 obtain ⟨K1, hK1⟩ := PlanIn_ev l0 hp
 have hk := hK1 K1 (Nat.le_refl _)
 rcases planB_cases l0 with ⟨e1, f1⟩ | ⟨e1, cs', rs', f1⟩
 ·rw [f1] at hF; cases hF
 ·rw [e1] at hk
  have F := floor_facts hF
  obtain ⟨K2, hK2⟩ := trans_plan F
  have HTr := zaa.mk (hK2 K2 (Nat.le_refl _))
  have HR0 := zaa.mk hr0
  have HC0 := zaa.mk hc0
  have HPI := zaa.mk hk
  have HIn := zaa.mk (l6In_in sd h03)
  have h1 := F.ok.h1
  have h6 := F.ok.h6
  have w6 := F.ok.w6
  have w1 := F.ok.w1
  have HW := zaa.mk (show z < zag cs by omega)
  have HF := zaa.mk F
  have HSd := zaa.mk hsd
  have tl : (zcl l0 (zag cs)).length = zag cs := trans_length _ _
  have hb := fun r (hr : r < cs.length) => F.tbyte z r (by omega) hr
  clear hsd hK2
  generalize zcl l0 (zag cs) = lt at *
  have wz : wrap64 ((lt.length : Int) - 1) = ((zag cs - 1 : Nat) : Int) := by rw [zap (by omega) (by omega)]; omega
  have HZ := zaa.mk hz0
  have HLen := zaa.mk tl
  have HBy := zaa.mk hb
  have HSz := zaa.mk (show (rdOf ByteArray.empty lt (z : Int)).size = cs.length from (hb 0 (by omega)).2)
  have WZ := zaa.mk wz
  obtain ⟨nn, hnn⟩ : ∃ nn, nn = cs.length := ⟨_, rfl⟩
  rw [← hnn] at h1 h6
  have HNN := zaa.mk hnn
  clear hb tl hz0 wz hnn
  clear hr0 hc0 hk hK1 e1 f1 hp h03 F hF w6 w1
  go_enter Try.func13, Try.ntmps13
  go_wp2_with (first
   | ((with_reducible refine zay (N := 10) rfl ?_); refine Kd.R_lit (Kd.int .i64) _ 3 ?hg (N := 10) ?hd (xs := ([] : List Int)) (inner := []) (ok := fun _ => True) (okp := fun _ => True) ?hr ?hp (fun _ hk => hk) trivial (Below.refl _ _) (Nat.le_refl _) (by simp) ?_; (case hd => rfl); (case hg => rfl); (case hr => first | (go_simp; done) | (go_simp; rfl)); (case hp => exact (Reps.none _ _)); intro v10 w3 ho4 hb hg_ hnew_; clear hg_ hnew_; have HO := zaa.mk ho4; have HB := zaa.mk hb; clear hb ho4)
   | (go_at_call 45; refine (spec_PlanIn.calls K1 A0 c0 l0 true _ (Kd.C_below HR0.out HB.out) HC0.out HPI.out).mono ?_; rintro e w8 ⟨rfl, hb8⟩; have HO8 := zaa.mk (Kd.R_below HO.out hb8); have HB8 := zaa.mk (zaf HB.out hb8); clear hb8)
   | (go_at_call 46; refine (spec_l6In.calls sd 0 3 true _ HIn.out).mono ?_; rintro e w9 ⟨rfl, hd9⟩; have HO9 := zaa.mk (Kd.R_below HO8.out hd9.below); have HB9 := zaa.mk (zaf HB8.out hd9.below); clear hd9)
   | (go_at_call 47; refine (spec_l1Trans.calls K2 A0 c0 l0 lt _ (Kd.C_below HR0.out HB9.out) HC0.out HTr.out).mono ?_; rintro e w11 ⟨v11, rfl, hr11, hb11⟩; obtain ⟨A11, c11, e11, hl11, hC11⟩ := Kd.R_reads hr11; subst e11; have HO11 := zaa.mk (Kd.R_below (Kd.R_mono (Kd.R_bound HO9.out) (fun k_ hk => hk.2.2.1)) hb11); have HT11 := zaa.mk (Kd.R_lower (Kd.R_mono (Kd.R_bound hr11) (fun k_ hk => Nat.not_lt.2 hk.2.1)) HB9.out.size); have HB11 := zaa.mk (zaf HB9.out hb11); clear hb11 hr11 hC11 hl11))
  rw [WZ.out, show ((zag cs - 1 : Nat) : Int) = (z : Int) by have := HZ.out; omega]
  go_loopg [6, 9] nn (fun kq v6 v9 w' => ∃ (k : Nat) (P : Nat → Prop), v9 = .int .i64 (k : Int) ∧ zaa (k + kq = nn) ∧ zaa (Kd.R (Kd.int .i64) 3 w' w.heap.size P v6 (foldP ((List.range k).map fun r => zas cs r z))) ∧ zaa (Below w.heap.size w w') ∧ zaa (Kd.R Kd.string 9 w' w.heap.size (fun k_ => ¬ P k_) (.slice A11 lt.length c11) lt))
  case atStart => exact ⟨0, _, (by first | rfl | exact congrArg (Value.int .i64) (by have := HZ.out; omega)), ⟨by omega⟩, HO11, HB11, HT11⟩
  case round =>
   obtain ⟨k, P, rfl, HK, HOk, HBk, HTk⟩ := hrel
   have HK' := HK.out
   have z1 : (z : Int) < (lt.length : Int) := by have := HLen.out; have := HW.out; omega
   obtain ⟨ad, ead, hz⟩ := Kd.at_string (Kd.R_reads' HTk.out).2.2 (z : Int) (by omega) z1
   cases ead
   have z0 : (0 : Int) ≤ (z : Int) := by omega
   rw [Int.toNat_natCast] at hz
   by_cases hk : k < nn
   ·have y0 : (0 : Int) ≤ (k : Int) := by omega
    have y1 : (k : Int) < ((rdOf ByteArray.empty lt (z : Int)).size : Int) := by have := HSz.out; have := HNN.out; omega
    have hv : ∀ h : k < (rdOf ByteArray.empty lt (z : Int)).size, wrap64 (wrap64 (((rdOf ByteArray.empty lt (z : Int))[k]'h).toNat : Int) - 97) = zas cs k z := fun h => by
     have e1 := bt_at (rdOf ByteArray.empty lt (z : Int)) (k : Int) h
     have e2 := (HBy.out k (by have := HNN.out; omega)).1
     have e3 : (((rdOf ByteArray.empty lt (z : Int))[k]'h).toNat : Int) = 97 + zas cs k z := e1.trans e2
     have e4 := valAt_range HF.out.ok k z (by have := HNN.out; omega) HW.out
     have e5 := HF.out.ok.many
     rw [e3, zap (x := 97 + zas cs k z) (by omega) (by omega), zap (by omega) (by omega)]
     omega
    have HV := zaa.mk hv
    clear hv
    have hf : ((List.range k).map fun r => zas cs r z).length ≤ 9 := by simp; omega
    have hp := l2Put_f (foldP ((List.range k).map fun r => zas cs r z)) (zas cs k z) (by have := foldP_length ((List.range k).map fun r => zas cs r z); omega)
    rw [← foldP_snoc] at hp
    have HPt := zaa.mk hp
    clear hp hf
    go_wp2_with (first
     | (go_at_call 48; refine calls_of_args (args' := #[u6, .int .i64 (zas cs k z)]) (by rw [HV.out]) ?_; refine (spec_l2Put.calls P u6 _ _ _ w _ HBk.out HOk.out HPt.out).mono ?_; rintro e w10 ⟨v10, rfl, hr10, hb10, hgr10⟩; have HO10 := zaa.mk hr10; have HB10 := zaa.mk hb10; clear hr10 hb10))
    go_roundg (nn - (k + 1))
    case measure => omega
    case rel => exact ⟨k + 1, _, by first | rfl | (congr 1; omega), ⟨by omega⟩, by rw [List.range_succ, List.map_append]; exact HO10, HB10, ⟨Kd.R_mono (Kd.R_kept (Kd.R_bound HTk.out) hgr10 (fun k_ hk hP => hk.1 hP)) (fun k_ hk (h2 : _ ∨ _) => Or.elim h2 hk.1 (fun h3 => absurd hk.2.2.1 (Nat.not_lt.2 h3)))⟩⟩
   ·obtain rfl : k = nn := by omega
    have y1 : ¬ (k : Int) < ((rdOf ByteArray.empty lt (z : Int)).size : Int) := by have := HSz.out; have := HNN.out; omega
    go_wp2
    go_ret2
    refine ⟨u6, rfl, ?_, HBk.out⟩
    have e6 : sideL cs sd = (List.range cs.length).map (fun r => zas cs r z) := HSd.out
    rw [e6, ← HNN.out]
    exact ⟨fun _ _ => trivial, HOk.out.2⟩
set_option maxHeartbeats 400000 in
set_option maxRecDepth 100000 in
theorem specOut_left (A0 : Option Addr) (c0 : Nat) (l0 : List ByteArray) (sd : Int) (w : World) (hr0 : Kd.C Kd.string w A0 l0.length l0) (hc0 : l0.length ≤ c0) (hp : zcp l0) (cs : List (List Int)) (rs : List Rc) (z : Nat) (hz0 : z = 0 ∧ 0 < zag cs) (hF : zby l0 = some (cs, rs)) (h03 : 0 ≤ sd ∧ sd ≤ 3)
  (q1 : (sd == 1) = false) (q2 : (sd == 2) = false) (q3 : (Int.tmod sd 2 == 1) = true) (hsd : sideL cs sd = (List.range cs.length).map (fun r => zas cs r z)) :
  Calls Try.prog 13 #[.slice A0 l0.length c0, .int .i64 sd] w fun e w' => ∃ v0_ : Value, e = .returned (.tuple #[v0_, .bool true]) ∧ Kd.R (Kd.int .i64) 3 w' w.heap.size (fun _ => True) v0_ (foldP (sideL cs sd)) ∧ Below w.heap.size w w' := by
 obtain ⟨K1, hK1⟩ := PlanIn_ev l0 hp
 have hk := hK1 K1 (Nat.le_refl _)
 rcases planB_cases l0 with ⟨e1, f1⟩ | ⟨e1, cs', rs', f1⟩
 ·rw [f1] at hF; cases hF
 ·rw [e1] at hk
  have F := floor_facts hF
  obtain ⟨K2, hK2⟩ := trans_plan F
  have HTr := zaa.mk (hK2 K2 (Nat.le_refl _))
  have HR0 := zaa.mk hr0
  have HC0 := zaa.mk hc0
  have HPI := zaa.mk hk
  have HIn := zaa.mk (l6In_in sd h03)
  have h1 := F.ok.h1
  have h6 := F.ok.h6
  have w6 := F.ok.w6
  have w1 := F.ok.w1
  have HW := zaa.mk (show z < zag cs by omega)
  have HF := zaa.mk F
  have HSd := zaa.mk hsd
  have tl : (zcl l0 (zag cs)).length = zag cs := trans_length _ _
  have hb := fun r (hr : r < cs.length) => F.tbyte z r (by omega) hr
  clear hsd hK2
  generalize zcl l0 (zag cs) = lt at *
  have wz : wrap64 ((lt.length : Int) - 1) = ((zag cs - 1 : Nat) : Int) := by rw [zap (by omega) (by omega)]; omega
  have HZ := zaa.mk hz0
  have HLen := zaa.mk tl
  have HBy := zaa.mk hb
  have HSz := zaa.mk (show (rdOf ByteArray.empty lt (z : Int)).size = cs.length from (hb 0 (by omega)).2)
  have WZ := zaa.mk wz
  obtain ⟨nn, hnn⟩ : ∃ nn, nn = cs.length := ⟨_, rfl⟩
  rw [← hnn] at h1 h6
  have HNN := zaa.mk hnn
  clear hb tl hz0 wz hnn
  clear hr0 hc0 hk hK1 e1 f1 hp h03 F hF w6 w1
  go_enter Try.func13, Try.ntmps13
  go_wp2_with (first
   | ((with_reducible refine zay (N := 10) rfl ?_); refine Kd.R_lit (Kd.int .i64) _ 3 ?hg (N := 10) ?hd (xs := ([] : List Int)) (inner := []) (ok := fun _ => True) (okp := fun _ => True) ?hr ?hp (fun _ hk => hk) trivial (Below.refl _ _) (Nat.le_refl _) (by simp) ?_; (case hd => rfl); (case hg => rfl); (case hr => first | (go_simp; done) | (go_simp; rfl)); (case hp => exact (Reps.none _ _)); intro v10 w3 ho4 hb hg_ hnew_; clear hg_ hnew_; have HO := zaa.mk ho4; have HB := zaa.mk hb; clear hb ho4)
   | (go_at_call 45; refine (spec_PlanIn.calls K1 A0 c0 l0 true _ (Kd.C_below HR0.out HB.out) HC0.out HPI.out).mono ?_; rintro e w8 ⟨rfl, hb8⟩; have HO8 := zaa.mk (Kd.R_below HO.out hb8); have HB8 := zaa.mk (zaf HB.out hb8); clear hb8)
   | (go_at_call 46; refine (spec_l6In.calls sd 0 3 true _ HIn.out).mono ?_; rintro e w9 ⟨rfl, hd9⟩; have HO9 := zaa.mk (Kd.R_below HO8.out hd9.below); have HB9 := zaa.mk (zaf HB8.out hd9.below); clear hd9)
   | (go_at_call 47; refine (spec_l1Trans.calls K2 A0 c0 l0 lt _ (Kd.C_below HR0.out HB9.out) HC0.out HTr.out).mono ?_; rintro e w11 ⟨v11, rfl, hr11, hb11⟩; obtain ⟨A11, c11, e11, hl11, hC11⟩ := Kd.R_reads hr11; subst e11; have HO11 := zaa.mk (Kd.R_below (Kd.R_mono (Kd.R_bound HO9.out) (fun k_ hk => hk.2.2.1)) hb11); have HT11 := zaa.mk (Kd.R_lower (Kd.R_mono (Kd.R_bound hr11) (fun k_ hk => Nat.not_lt.2 hk.2.1)) HB9.out.size); have HB11 := zaa.mk (zaf HB9.out hb11); clear hb11 hr11 hC11 hl11))
  rw [show (0 : Int) = (z : Int) by have := HZ.out; omega]
  go_loopg [6, 9] nn (fun kq v6 v9 w' => ∃ (k : Nat) (P : Nat → Prop), v9 = .int .i64 (k : Int) ∧ zaa (k + kq = nn) ∧ zaa (Kd.R (Kd.int .i64) 3 w' w.heap.size P v6 (foldP ((List.range k).map fun r => zas cs r z))) ∧ zaa (Below w.heap.size w w') ∧ zaa (Kd.R Kd.string 9 w' w.heap.size (fun k_ => ¬ P k_) (.slice A11 lt.length c11) lt))
  case atStart => exact ⟨0, _, (by first | rfl | exact congrArg (Value.int .i64) (by have := HZ.out; omega)), ⟨by omega⟩, HO11, HB11, HT11⟩
  case round =>
   obtain ⟨k, P, rfl, HK, HOk, HBk, HTk⟩ := hrel
   have HK' := HK.out
   have z1 : (z : Int) < (lt.length : Int) := by have := HLen.out; have := HW.out; omega
   obtain ⟨ad, ead, hz⟩ := Kd.at_string (Kd.R_reads' HTk.out).2.2 (z : Int) (by omega) z1
   cases ead
   have z0 : (0 : Int) ≤ (z : Int) := by omega
   rw [Int.toNat_natCast] at hz
   by_cases hk : k < nn
   ·have y0 : (0 : Int) ≤ (k : Int) := by omega
    have y1 : (k : Int) < ((rdOf ByteArray.empty lt (z : Int)).size : Int) := by have := HSz.out; have := HNN.out; omega
    have hv : ∀ h : k < (rdOf ByteArray.empty lt (z : Int)).size, wrap64 (wrap64 (((rdOf ByteArray.empty lt (z : Int))[k]'h).toNat : Int) - 97) = zas cs k z := fun h => by
     have e1 := bt_at (rdOf ByteArray.empty lt (z : Int)) (k : Int) h
     have e2 := (HBy.out k (by have := HNN.out; omega)).1
     have e3 : (((rdOf ByteArray.empty lt (z : Int))[k]'h).toNat : Int) = 97 + zas cs k z := e1.trans e2
     have e4 := valAt_range HF.out.ok k z (by have := HNN.out; omega) HW.out
     have e5 := HF.out.ok.many
     rw [e3, zap (x := 97 + zas cs k z) (by omega) (by omega), zap (by omega) (by omega)]
     omega
    have HV := zaa.mk hv
    clear hv
    have hf : ((List.range k).map fun r => zas cs r z).length ≤ 9 := by simp; omega
    have hp := l2Put_f (foldP ((List.range k).map fun r => zas cs r z)) (zas cs k z) (by have := foldP_length ((List.range k).map fun r => zas cs r z); omega)
    rw [← foldP_snoc] at hp
    have HPt := zaa.mk hp
    clear hp hf
    go_wp2_with (first
     | (go_at_call 48; refine calls_of_args (args' := #[u6, .int .i64 (zas cs k z)]) (by rw [HV.out]) ?_; refine (spec_l2Put.calls P u6 _ _ _ w _ HBk.out HOk.out HPt.out).mono ?_; rintro e w10 ⟨v10, rfl, hr10, hb10, hgr10⟩; have HO10 := zaa.mk hr10; have HB10 := zaa.mk hb10; clear hr10 hb10))
    go_roundg (nn - (k + 1))
    case measure => omega
    case rel => exact ⟨k + 1, _, by first | rfl | (congr 1; omega), ⟨by omega⟩, by rw [List.range_succ, List.map_append]; exact HO10, HB10, ⟨Kd.R_mono (Kd.R_kept (Kd.R_bound HTk.out) hgr10 (fun k_ hk hP => hk.1 hP)) (fun k_ hk (h2 : _ ∨ _) => Or.elim h2 hk.1 (fun h3 => absurd hk.2.2.1 (Nat.not_lt.2 h3)))⟩⟩
   ·obtain rfl : k = nn := by omega
    have y1 : ¬ (k : Int) < ((rdOf ByteArray.empty lt (z : Int)).size : Int) := by have := HSz.out; have := HNN.out; omega
    go_wp2
    go_ret2
    refine ⟨u6, rfl, ?_, HBk.out⟩
    have e6 : sideL cs sd = (List.range cs.length).map (fun r => zas cs r z) := HSd.out
    rw [e6, ← HNN.out]
    exact ⟨fun _ _ => trivial, HOk.out.2⟩
theorem specOut_calls (A0 : Option Addr) (c0 : Nat) (l0 : List ByteArray) (sd : Int) (w : World) (hr0 : Kd.C Kd.string w A0 l0.length l0) (hc0 : l0.length ≤ c0) (hp : zcp l0) :
  Calls Try.prog 13 #[.slice A0 l0.length c0, .int .i64 sd] w fun e w' => ∃ v0_ : Value, e = .returned (.tuple #[v0_, .bool (zbc l0 sd).2]) ∧ Kd.R (Kd.int .i64) 3 w' w.heap.size (fun _ => True) v0_ (zbc l0 sd).1 ∧ Below w.heap.size w w' := by
 rcases hF : zby l0 with _ | ⟨cs, rs⟩
 ·have e : zbc l0 sd = ([], false) := by unfold zbc; rw [hF]
  rw [e]
  exact specOut_none A0 c0 l0 sd w hr0 hc0 hp hF
 ·by_cases h03 : 0 ≤ sd ∧ sd ≤ 3
  ·have e : zbc l0 sd = (foldP (sideL cs sd), true) := by unfold zbc; rw [hF]; exact if_pos h03
   rw [e]
   have hok := floorF_ok hF
   have h1 := hok.h1
   have w1 := hok.w1
   have : sd = 0 ∨ sd = 1 ∨ sd = 2 ∨ sd = 3 := by omega
   rcases this with rfl | rfl | rfl | rfl
   ·exact specOut_even A0 c0 l0 0 w hr0 hc0 hp cs rs hF h03 rfl rfl rfl rfl
   ·exact specOut_right A0 c0 l0 1 w hr0 hc0 hp cs rs (zag cs - 1) (by omega) hF h03 rfl rfl rfl rfl
   ·exact specOut_last A0 c0 l0 2 w hr0 hc0 hp cs rs (cs.length - 1) (by omega) hF h03 rfl rfl rfl rfl
   ·exact specOut_left A0 c0 l0 3 w hr0 hc0 hp cs rs 0 ⟨rfl, w1⟩ hF h03 rfl rfl rfl rfl
  ·have e : zbc l0 sd = ([], false) := by unfold zbc; rw [hF]; exact if_neg h03
   rw [e]
   exact specOut_far A0 c0 l0 sd w hr0 hc0 hp h03
def spec_NearOut.f (l0 : List ByteArray) (a1 : Int) : Option (List Int × Bool) := if smallB l0 = true then some (zbc l0 a1) else none
theorem spec_NearOut.calls (A0 : Option Addr) (c0 : Nat) (l0 : List ByteArray) (a1 : Int) (r1 : List Int) (r2 : Bool) (w : World) (hr0 : Kd.C Kd.string w A0 l0.length l0) (hc0 : l0.length ≤ c0) (h : spec_NearOut.f l0 a1 = some (r1, r2)) :
  Calls Try.prog 13 #[.slice A0 l0.length c0, .int .i64 a1] w fun e w' => ∃ v0_ : Value, e = .returned (.tuple #[v0_, .bool r2]) ∧ Kd.R (Kd.int .i64) 3 w' w.heap.size (fun _ => True) v0_ r1 ∧ Below w.heap.size w w' := by
 unfold spec_NearOut.f at h
 split at h
 ·rename_i hs
  have e := Option.some.inj h
  have := specOut_calls A0 c0 l0 a1 w hr0 hc0 ((smallB_iff _).1 hs)
  rw [e] at this
  exact this
 ·cases h
set_option maxHeartbeats 2000000 in
set_option maxRecDepth 100000 in
theorem clone_calls (A : Option Addr) (c : Nat) (xs : List Int) (w : World) (hC : (Kd.int .i64).C w A xs.length xs) (h0 : 0 < xs.length) (h6 : xs.length ≤ 1048576) :
  Calls Try.prog 54 #[.slice A xs.length c] w fun e w' => ∃ v', e = .returned v' ∧ Kd.R (Kd.int .i64) 3 w' w.heap.size (fun _ => True) v' xs ∧ Below w.heap.size w w' := by
 obtain ⟨ad, rfl, -⟩ := hC.2.2 h0
 have i3 : (Try.prog.info? 3).map (fun i => (i.zero, i.size, i.bytes)) = some (some (.int .i64 0), 1, 8) := by kernel_rfl
 obtain ⟨i0, hi, hzz⟩ := Option.map_eq_some_iff.1 i3
 simp only [Prod.mk.injEq] at hzz
 obtain ⟨hz0, hz1, hz2⟩ := hzz
 have HC := zaa.mk hC
 have H6 := zaa.mk h6
 have H0 := zaa.mk h0
 have HI := zaa.mk hi
 have HZ0 := zaa.mk hz0
 have HZ1 := zaa.mk hz1
 have HZ2 := zaa.mk hz2
 clear hC h6 h0 i3 hi hz0 hz1 hz2
 have q22 : ∀ (w : World) (a : Option Addr) (n c n' c' : Nat), (binOp .eql 24 (.slice a n c) (.slice none n' c')).run Try.prog w = .ok (.bool a.isNone) w := fun w a n c n' c' => Lib.run_eql_slice_nil w _ _ a n c n' c' Try.underlying24
 go_enter Try.func54, Try.ntmps54
 go_wp2_with (at_builtin; refine wpList_append_own _ rfl _ _ 24 rfl w.heap.size 3 i0 (.int .i64 0) 1 8 Try.underlying24 HI.out HZ0.out HZ1.out HZ2.out rfl (by decide) _ _ _ rfl (World.ownsRow_made w #[] 0 (Nat.le_refl _) (Nat.zero_le _) rfl) ad xs.length c (encs (Value.int .i64) xs) rfl ?qc1 ?qc2 ?qc3 ?qc4 ?qc5 ?qc6 ?_)
 case qc1 => rw [encs_length, Nat.mul_one]
 case qc2 =>
  intro j u hj
  have hjn : j < xs.length := by
   have := (List.getElem?_eq_some_iff.1 hj).1
   rwa [encs_length] at this
  obtain ⟨ad', e1, hx⟩ := C_int_cell HC.out j hjn
  cases e1
  refine Lib.cell?_alloc_some _ ?_
  rw [hx]
  have e2 : (encs (Value.int .i64) xs)[j]? = some (Value.int .i64 (rd xs (j : Int))) := by
   unfold rd
   simp [encs, List.getD, hjn, List.getElem?_eq_getElem hjn]
  rw [e2] at hj
  exact hj
 case qc3 => intro u hu; obtain ⟨x, _, rfl⟩ := List.mem_map.1 hu; rfl
 case qc4 => have := H6.out; unfold maxLen; omega
 case qc5 => have := H6.out; omega
 case qc6 => simp
 intro v' w1 hown hgrow hnil
 have HO := zaa.mk hown
 have HG := zaa.mk hgrow
 clear hown hgrow hnil
 go_wp2
 go_ret
 refine ⟨v', rfl, Kd.R_of_own (by simpa using HO.out) (fun _ _ => trivial), ?_⟩
 exact ((Below.refl _ w).alloc (Nat.le_refl _) _).grown HG.out (by simp) (by intro k hk; simp [Value.ownBlock] at hk; omega)
set_option maxHeartbeats 4000000 in
set_option maxRecDepth 100000 in
theorem cross1_read (w : World) (p1 g : Nat) (cs : List (List Int)) (rs : List Rc) (hk : FloorOk cs rs) (hf : zcb w g cs rs) (hp1 : w.cell? ⟨p1, 0, none⟩ = some (.pointer (some ⟨g, 0, none⟩))) :
  ReadFn Try.prog 93 #[.pointer (some ⟨p1, 0, none⟩)] w (zag cs) cs.length (fun r c => zas cs c r) := by
 intro W r c hr hc hS
 show Calls Try.prog _ _ _ fun e W' => e = .returned (.int .i64 (zas cs c r)) ∧ Below W.heap.size W W'
 replace hf := hf.sees hS
 replace hp1 := hS.cell hp1
 have hh1 := hk.h6
 have hw6 := hk.w6
 have HF := zaa.mk hf
 have H1 := zaa.mk (high_f cs rs)
 have W1 := zaa.mk (wide_f hk)
 have r0 : (0 : Int) ≤ r := by omega
 have c0 : (0 : Int) ≤ c := by omega
 obtain ⟨ad, q0, ad2, q2, x1, x2, x3⟩ := hf.cell hk c r hc hr
 have c1 : (c : Int) < cs.length := by omega
 have r1 : (r : Int) < zag cs := by omega
 have HG := zaa.mk (show zas cs c r = zas cs c r from rfl)
 generalize zas cs c r = x at *
 clear hk hf hS hr hc
 show Calls Try.prog _ #[.int .i64 (r : Int), .int .i64 (c : Int), .pointer (some ⟨p1, 0, none⟩)] _ _
 go_enter Try.func93, Try.ntmps93
 go_wp2
 go_ret
 exact ⟨rfl, Below.refl _ _⟩
set_option maxHeartbeats 4000000 in
set_option maxRecDepth 100000 in
theorem cross_fn (w : World) : HowFn Try.prog 50 #[] w crossH := by
 intro W g cs rs hk hf hS
 have HK := zaa.mk hk
 have HF := zaa.mk hf
 have H1 := zaa.mk (high_f cs rs)
 have W1 := zaa.mk (wide_f hk)
 have a1 := hk.h6
 have a3 := hk.w6
 clear hk hf hS
 show Calls Try.prog _ #[.pointer (some ⟨g, 0, none⟩)] _ _
 go_enter Try.func50, Try.ntmps50
 go_upto_region 1 with (first
  | ((with_reducible refine zay (N := 1) rfl ?_); refine zbq ?hg (N := 1) ?hd (cs := #[.pointer (some ⟨g, 0, none⟩)]) (t := 52) ?hr ?_; (case hd => rfl); (case hg => rfl); (case hr => first | (go_simp; done) | (go_simp; rfl)); intro p1 hq1 w1 hbox hb; have HB1 := zaa.mk hb; have hp1 : w1.cell? ⟨p1, 0, none⟩ = some (.pointer (some ⟨g, 0, none⟩)) := box_cell hbox; have HF1 := zaa.mk (HF.out.below hb); clear hb hbox hq1))
 refine start_ (n := 7) (S := fun w' => (w'.cell? ⟨p1, 0, none⟩ = some (.pointer (some ⟨g, 0, none⟩))) ∧ (zcb w' g cs rs) ∧ (Below W.heap.size W w')) (ds := []) #[false, false, false, false, false, false, false] (by kernel_rfl) rfl rfl (⟨hp1, HF1.out, ⟨HB1.out.os, HB1.out.tape, HB1.out.output, HB1.out.size, HB1.out.block⟩⟩) (fun hHeld => ?_)
 clear hp1
 refine zbu (i := 0) (N := some 3) (v := ?_) (a' := ?_) #[true, false, false, false, false, false, false] rfl rfl (by kernel_rfl) (fun _ _ _ h => h) (Or.inl ⟨by rfl, ?_⟩) hHeld ?_ ?_
 rotate_left
 ·rintro w' ⟨s0, s1, s2⟩
  go_simp
  with_reducible rfl
 rotate_left
 ·simp only [Act.put, List.setIfInBounds_toArray, List.set_cons_zero, List.set_cons_succ, zak, zan]
  rfl
 refine zbu (i := 2) (N := some 5) (v := ?_) (a' := ?_) #[true, false, true, false, false, false, false] rfl rfl (by kernel_rfl) (fun _ _ _ h => h) (Or.inl ⟨by rfl, ?_⟩) hHeld ?_ ?_
 rotate_left
 ·rintro w' ⟨s0, s1, s2⟩
  go_simp
  with_reducible rfl
 rotate_left
 ·simp only [Act.put, List.setIfInBounds_toArray, List.set_cons_zero, List.set_cons_succ, zak, zan]
  rfl
 refine zaz (i := 4) (N := some 7) (v := ?_) (a' := ?_) #[true, false, true, false, true, false, false] rfl rfl (by kernel_rfl) (fun _ _ _ h => h) (Or.inl ⟨by rfl, ?_⟩) ?_ ?_
 rotate_left
 ·intro w'
  go_simp
  with_reducible rfl
 rotate_left
 ·simp only [Act.put, List.setIfInBounds_toArray, List.set_cons_zero, List.set_cons_succ, zak, zan]
  rfl
 refine one_ (i := 1) (N := some 4) #[true, true, true, false, true, false, false] rfl rfl (by kernel_rfl) (by decide) (fun K hK => ?_)
 refine goes_ Try.func51 (by kernel_rfl) rfl #[.pointer (some ⟨g, 0, none⟩)] (by rfl) rfl rfl (by (try simp only [List.map_toArray, List.map_cons, List.map_nil]); first | done | rfl) ?_
 have hs_ := hHeld
 obtain ⟨s0, s1, s2⟩ := hs_
 refine (impl_floor_wide.calls g cs rs _ _ _ s1 (Below.refl _ _) W1.out).mono ?_
 rintro e w16 ⟨rfl, -, hb, -⟩
 refine ⟨_, rfl, ?_⟩
 refine hK.out _ _ ⟨zae hb s0, zcb.below s1 hb, zaf s2 hb⟩ (fun hHeld => ?_)
 clear hK K hb s0 s1 s2
 refine zcr (a' := ?_) ?_ ?_
 rotate_left
 ·show Act.put _ (some 4) _ = _
  simp only [Act.put, List.setIfInBounds_toArray, List.set_cons_zero, List.set_cons_succ, zak, zan]
  rfl
 refine one_ (i := 3) (N := some 6) #[true, true, true, true, true, false, false] rfl rfl (by kernel_rfl) (by decide) (fun K hK => ?_)
 refine goes_ Try.func52 (by kernel_rfl) rfl #[.pointer (some ⟨g, 0, none⟩)] (by rfl) rfl rfl (by (try simp only [List.map_toArray, List.map_cons, List.map_nil]); first | done | rfl) ?_
 have hs_ := hHeld
 obtain ⟨s0, s1, s2⟩ := hs_
 refine (impl_floor_high.calls g cs rs _ _ _ s1 (Below.refl _ _) H1.out).mono ?_
 rintro e w17 ⟨rfl, -, hb, -⟩
 refine ⟨_, rfl, ?_⟩
 refine hK.out _ _ ⟨zae hb s0, zcb.below s1 hb, zaf s2 hb⟩ (fun hHeld => ?_)
 clear hK K hb s0 s1 s2
 refine zcr (a' := ?_) ?_ ?_
 rotate_left
 ·show Act.put _ (some 6) _ = _
  simp only [Act.put, List.setIfInBounds_toArray, List.set_cons_zero, List.set_cons_succ, zak, zan]
  rfl
 refine one_ (i := 5) (N := some 8) #[true, true, true, true, true, true, false] rfl rfl (by kernel_rfl) (by decide) (fun K hK => ?_)
 refine goes_ Try.func75 (by kernel_rfl) rfl #[.int .i64 (zag cs : Int), .int .i64 (cs.length : Int), .func (.func 93) #[] #[.pointer (some ⟨p1, 0, none⟩)]] (by rfl) rfl rfl (by (try simp only [List.map_toArray, List.map_cons, List.map_nil]); first | done | rfl) ?_
 have hs_ := hHeld
 obtain ⟨s0, s1, s2⟩ := hs_
 refine (blank_reads 93 Try.f93 Try.func93 (by kernel_rfl) rfl _ (zag cs) cs.length _ _ (cross1_read _ p1 g cs rs HK.out s1 s0) (by omega) (by omega)).mono ?_
 rintro e w14 ⟨A14, c14, rfl, hl14, hC14, hb⟩
 have HC14 := zaa.mk hC14
 have HL14 := zaa.mk hl14
 have HB14 := zaa.mk (zaf s2 hb)
 clear hC14 hl14
 refine ⟨_, rfl, ?_⟩
 refine hK.out _ _ ⟨zae hb s0, zcb.below s1 hb, zaf s2 hb⟩ (fun hHeld => ?_)
 clear hK K hb s0 s1 s2
 refine zcr (a' := ?_) ?_ ?_
 rotate_left
 ·show Act.put _ (some 8) _ = _
  simp only [Act.put, List.setIfInBounds_toArray, List.set_cons_zero, List.set_cons_succ, zak, zan]
  rfl
 refine zaz (i := 6) (N := some 2) (v := ?_) (a' := ?_) #[true, true, true, true, true, true, true] rfl rfl (by kernel_rfl) (fun _ _ _ h => h) (Or.inl ⟨by rfl, ?_⟩) ?_ ?_
 rotate_left
 ·intro w'
  go_simp
  with_reducible rfl
 rotate_left
 ·simp only [Act.put, List.setIfInBounds_toArray, List.set_cons_zero, List.set_cons_succ, zak, zan]
  rfl
 refine done_ (by kernel_rfl) ?_
 go_wp2
 go_ret
 exact ⟨A14, c14, rfl, HL14.out, HC14.out, HB14.out⟩
theorem zcm (g : Nat) (cs : List (List Int)) (rs : List Rc) (W : World) (hk : FloorOk cs rs) (hf : zcb W g cs rs) :
  Calls Try.prog 50 #[.pointer (some ⟨g, 0, none⟩)] W (GridRes W (crossH cs rs)) := cross_fn W W g cs rs hk hf (Sees.refl _)
section
variable {P : Program} {ops : Array Oper} {Q : Exit → Act → World → Prop} {md : Region.Mode} {S S' : World → Prop} {ds : List Nat}
def onlyLast (md : Region.Mode) (ops : Array Oper) (ds : List Nat) : Bool :=
 ds.all fun d => match ops[d]? with
  | some o => (List.range ops.size).all fun j => j == d || o.after.any fun e => Region.binds md e && e.on == j
  | none => true
theorem onlyLast_ready {listed : Array Bool} {d : Nat} (h : onlyLast md ops ds = true) (hd : d ∈ ds) (hr : d ∈ Region.ready md ops listed) : Region.ready md ops (listed.setIfInBounds d true) = [] := by
 apply List.eq_nil_iff_forall_not_mem.2
 intro k hk
 obtain ⟨hun, ok, hok, -⟩ := mem_ready.1 hk
 obtain ⟨-, o, ho, hall⟩ := mem_ready.1 hr
 have h1 := List.all_eq_true.1 h d hd
 rw [ho] at h1
 have hks : k < ops.size := (Array.getElem?_eq_some_iff.1 hok).1
 have h2 := List.all_eq_true.1 h1 k (List.mem_range.2 hks)
 by_cases e : d = k
 ·subst e
  rcases Nat.lt_or_ge d listed.size with h' | h'
  ·simp [h'] at hun
  ·rw [Array.getD_eq_getD_getElem?, Array.getElem?_eq_none (by simpa using h')] at hun
   cases hun
 ·rw [Bool.or_eq_true] at h2
  rcases h2 with h2 | h2
  ·exact e (by simpa using Eq.symm (by simpa using h2))
  ·obtain ⟨ed, he, h3⟩ := Array.any_eq_true'.1 h2
   rw [Bool.and_eq_true, beq_iff_eq] at h3
   have h4 := hall ed he h3.1
   rw [h3.2] at h4
   rw [getD_set_ne true e] at hun
   rcases Nat.lt_or_ge k listed.size with h' | h'
   ·simp [h'] at hun h4
    rw [hun] at h4
    cases h4
   ·simp [Array.getElem?_eq_none h'] at hun
theorem turn_ (hl : onlyLast md ops ds = true) (h : ∀ v, S' v → S v) : ∀ (fuel : Nat) (listed : Array Bool) (a : Act) (w : World), S' w → zaw P md ops Q S' ds fuel listed a w → zaw P md ops Q S ds fuel listed a w
 | 0, _, _, _, _, H => H
 | fuel + 1, listed, a, w, hw, H => ⟨H.1, fun i hi => wpOp_mono (fun a' w' hh => by
  by_cases hd : i ∈ ds
  ·refine ⟨fun z => absurd hd z, ?_⟩
   have hr := onlyLast_ready hl hd hi
   have h2 := hh.2
   cases fuel with
   | zero => exact h2
   | succ n => exact wpAnyLast_done hr (h2.1 hr) (n + 1)
  ·have hs := hh.1 hd hw
   exact ⟨fun _ _ => h _ hs, turn_ hl h fuel _ a' w' hs hh.2⟩) (H.2 i hi)⟩
theorem turnB_ {W w : World} {fuel : Nat} {l : Array Bool} {a : Act} (hl : onlyLast md ops ds = true) (h : Below W.heap.size W w) (hk : zaw P md ops Q (fun v => Below w.heap.size w v) ds fuel l a w) : zaw P md ops Q (fun v => Below W.heap.size W v) ds fuel l a w :=
 turn_ hl (fun v hv => zaf h hv) fuel l a w (Below.refl _ _) hk
theorem joinB_ {σ : Type} {fuel : Nat} {l : Array Bool} {a : Act} {w : World} (fuel' : Nat) (l' : Array Bool) (ns : σ → List (Tmp × Value)) (F : σ → World → Prop)
  (hcont : ∀ s w', F s w' → zaw P md ops Q (fun v => Below w'.heap.size w' v) ds fuel' l' (putAll a (ns s)) w')
  (h : zaa (∀ s w', F s w' → zaw P md ops Q (fun v => Below w'.heap.size w' v) ds fuel' l' (putAll a (ns s)) w') → zaw P md ops Q S ds fuel l a w) : zaw P md ops Q S ds fuel l a w := h ⟨hcont⟩
end
theorem valO_step {P : Program} {ops : Array Oper} {o : Oper} {a : Act} {Q : Exit → Act → World → Prop} {Kc : Act → World → Prop} {N : Option Tmp} {W w1 : World} {v : Value} (hw : Region.wanted o (yielded ops a.tmps) = true) (hrun : (execOp a.eval o).run P W = .ok (.value v) w1) (h : Kc (a.put o.dst v) w1) : if Region.wanted o (yielded ops a.tmps) = true then Oper.wp P o a W Kc Q else Kc (a.put N undef) W := by
 rw [if_pos hw]
 unfold Oper.wp
 rw [hrun, Oper.upon_value]
 exact h
def OutF (w8 : World) (s0 s1 s2 s3 : List Int) (s : List Value) (w' : World) : Prop :=
 ∃ (b : Nat) (A0 A1 A2 A3 : Option Addr) (c0 c1 c2 c3 : Nat), s.getD 13 undef = .pointer (some ⟨b, 0, none⟩) ∧ s.getD 12 undef = .agg #[.slice A0 s0.length c0, .slice A1 s1.length c1, .slice A2 s2.length c2, .slice A3 s3.length c3] ∧
  w'.heap[b]? = some (.cells #[.slice none 0 0, .slice none 0 0, .slice none 0 0, .slice none 0 0] 61 (0, 0)) ∧ w8.heap.size ≤ b ∧
  (Kd.int .i64).C w' A0 s0.length s0 ∧ (Kd.int .i64).C w' A1 s1.length s1 ∧ (Kd.int .i64).C w' A2 s2.length s2 ∧ (Kd.int .i64).C w' A3 s3.length s3 ∧ Below w8.heap.size w8 w'
theorem ne_of_int {w : World} {b : Nat} {t : TypeId} (h : w.heap[b]? = some (.cells #[.slice none 0 0, .slice none 0 0, .slice none 0 0, .slice none 0 0] t (0, 0))) {A : Option Addr} {n : Nat} {xs : List Int} (hC : (Kd.int .i64).C w A n xs) : ∀ ad, A = some ad → 0 < n → ad.block ≠ b := by
 intro ad hA hn e
 obtain ⟨ad', e1, hx⟩ := C_int_cell hC 0 hn
 rw [hA] at e1
 cases e1
 rw [Addr.add_zero'] at hx
 subst e
 unfold World.cell? at hx
 rw [h] at hx
 dsimp only at hx
 split at hx
 ·cases hx
 ·rcases hq : ad.off with _ | _ | _ | _ | n <;> rw [hq] at hx <;> simp at hx
theorem C_keep_ne {w W : World} {b : Nat} {t : TypeId} (h : w.heap[b]? = some (.cells #[.slice none 0 0, .slice none 0 0, .slice none 0 0, .slice none 0 0] t (0, 0))) {A : Option Addr} {n : Nat} {xs : List Int} (hC : (Kd.int .i64).C w A n xs) (hk : zbe w W b none) : (Kd.int .i64).C W A n xs :=
 Kd.C_keep (0 : Int) hC hk (ne_of_int h hC)
theorem set_four {w : World} {b : Nat} {t : TypeId} {x0 x1 x2 x3 : Value} (h : w.heap[b]? = some (.cells #[x0, x1, x2, x3] t (0, 0))) (v0 v1 v2 v3 : Value) :
  ((((w.setCell ⟨b, 0, none⟩ v0).setCell ⟨b, 1, none⟩ v1).setCell ⟨b, 2, none⟩ v2).setCell ⟨b, 3, none⟩ v3).heap[b]? = some (.cells #[v0, v1, v2, v3] t (0, 0)) := by
 simp only [World.setCell, Array.getElem?_modify, if_true, h, Option.map_some]
 simp
theorem side_rows {cs : List (List Int)} {rs : List Rc} (h : FloorOk cs rs) : cs[0]? = some (sideL cs 0) ∧ cs[cs.length - 1]? = some (sideL cs 2) ∧ (crossH cs rs)[zag cs - 1]? = some (sideL cs 1) ∧ (crossH cs rs)[0]? = some (sideL cs 3) := by
 have h1 := h.h1
 have w1 := h.w1
 have row : ∀ r, r < cs.length → cs[r]? = some ((List.range (zag cs)).map fun c => zas cs r c) := fun r hr => by
  have e := rect_eq h.rect
  have := gridOf_get (g := zas cs) (wi := zag cs) hr
  rw [← e] at this
  exact this
 refine ⟨row 0 (by omega), row _ (by omega), ?_, ?_⟩
 ·exact gridOf_get (by omega)
 ·exact gridOf_get (by omega)
set_option maxHeartbeats 4000000 in
set_option maxRecDepth 100000 in
theorem implOut_in (A0 : Option Addr) (c0 : Nat) (l0 : List ByteArray) (sd : Int) (w : World) (hr0 : Kd.C Kd.string w A0 l0.length l0) (hc0 : l0.length ≤ c0) (hp : zcp l0) (cs : List (List Int)) (rs : List Rc) (hF : zby l0 = some (cs, rs)) (y0 : 0 ≤ sd) (y3 : sd ≤ 3) :
  Calls Try.prog 15 #[.slice A0 l0.length c0, .int .i64 sd] w fun e w' => ∃ v0_ : Value, e = .returned (.tuple #[v0_, .bool true]) ∧ Kd.R (Kd.int .i64) 3 w' w.heap.size (fun _ => True) v0_ (foldP (sideL cs sd)) ∧ Below w.heap.size w w' := by
 have HR := zaa.mk hr0
 have HC := zaa.mk hc0
 have HP := zaa.mk hp
 have HFf := zaa.mk hF
 have hk := floorF_ok hF
 have HK := zaa.mk hk
 have H1 := zaa.mk (high_f cs rs)
 have W1 := zaa.mk (wide_f hk)
 have k1 := hk.h1
 have k2 := hk.w1
 have k3 := hk.h6
 have k4 := hk.w6
 obtain ⟨r0, r2, r1, r3⟩ := side_rows hk
 have hX : (crossH cs rs).length = zag cs := zbh _ _ _
 obtain ⟨zw, hzw⟩ : ∃ zw, zw + 1 = zag cs := ⟨zag cs - 1, by omega⟩
 obtain ⟨zh, hzh⟩ : ∃ zh, zh + 1 = cs.length := ⟨cs.length - 1, by omega⟩
 rw [show zag cs - 1 = zw by omega] at r1
 rw [show cs.length - 1 = zh by omega] at r2
 have z0 : (0 : Int) ≤ (zw : Int) := by omega
 have z1 : (zw : Int) < ((crossH cs rs).length : Int) := by omega
 have z2 : (0 : Int) ≤ (zh : Int) := by omega
 have z3 : (zh : Int) < (cs.length : Int) := by omega
 have z4 : (0 : Int) < ((crossH cs rs).length : Int) := by omega
 have z5 : (0 : Int) < (cs.length : Int) := by omega
 have z6 : 0 < cs.length := by omega
 have z7 : 0 < (crossH cs rs).length := by omega
 have wz1 : wrap64 ((zag cs : Int) - 1) = (zw : Int) := by rw [zap (by omega) (by omega)]; omega
 have wz2 : IntKind.i64.wrap ((zag cs : Int) - 1) = (zw : Int) := by rw [zak]; exact wz1
 have wz3 : wrap64 ((cs.length : Int) - 1) = (zh : Int) := by rw [zap (by omega) (by omega)]; omega
 have wz4 : IntKind.i64.wrap ((cs.length : Int) - 1) = (zh : Int) := by rw [zak]; exact wz3
 have HZ := zaa.mk (show 0 < (sideL cs 0).length ∧ 0 < (sideL cs 1).length ∧ 0 < (sideL cs 2).length ∧ 0 < (sideL cs 3).length by simp [sideL]; omega)
 obtain ⟨s0, e0⟩ : ∃ s0, s0 = sideL cs 0 := ⟨_, rfl⟩
 obtain ⟨s1, e1⟩ : ∃ s1, s1 = sideL cs 1 := ⟨_, rfl⟩
 obtain ⟨s2, e2⟩ : ∃ s2, s2 = sideL cs 2 := ⟨_, rfl⟩
 obtain ⟨s3, e3⟩ : ∃ s3, s3 = sideL cs 3 := ⟨_, rfl⟩
 rw [← e0] at r0
 rw [← e1] at r1
 rw [← e2] at r2
 rw [← e3] at r3
 have E0 := zaa.mk e0
 have E1 := zaa.mk e1
 have E2 := zaa.mk e2
 have E3 := zaa.mk e3
 have HX1 := zaa.mk r1
 have HX3 := zaa.mk r3
 have HX0 := zaa.mk r0
 have HX2 := zaa.mk r2
 clear hr0 hc0 hp hF hk e0 e1 e2 e3 r0 r1 r2 r3 hX hzw hzh
 go_enter Try.func15, Try.ntmps15
 go_upto_region 4 with (first
  | (go_at_call 49; refine (floorOf_calls A0 c0 l0 _ HR.out HC.out HP.out).mono ?_; rw [HFf.out]; rintro e w8 ⟨hb8, v8, b8, rfl, rfl, g, rfl, hfl⟩; have HB8 := zaa.mk hb8; have HFl8 := zaa.mk hfl; clear hb8 hfl))
 obtain ⟨Ag, cg, Ag1, cg1, hg1, hg2, hg3, hg4⟩ := HFl8.out
 obtain ⟨ad, P0, u0, eg, y0', hu0, hr0⟩ := C_row hg3 0 s0 HX0.out
 obtain ⟨ad', PH, uH, eg', yH, huH, hrH⟩ := C_row hg3 zh s2 HX2.out
 subst eg
 cases eg'
 have YG := zaa.mk ((cell_of_row w8 g 0 _ _ _ hg1).trans rfl)
 rw [Addr.add_zero'] at y0'
 have Y0 := zaa.mk y0'
 have YH := zaa.mk yH
 have HR0 := zaa.mk hr0
 have HR2 := zaa.mk hrH
 have HF := zaa.mk HFl8.out
 have HB := zaa.mk (Below.refl w8.heap.size w8)
 clear hg1 hg2 hg3 hg4 y0' yH hr0 hrH hu0 huH
 refine start_ (n := 29) (S := fun w' => Below w8.drew.heap.size w8.drew w') (ds := [28]) #[false, false, false, false, false, false, false, false, false, false, false, false, false, false, false, false, false, false, false, false, false, false, false, false, false, false, false, false, false] (by kernel_rfl) rfl rfl (Below.refl _ _) (fun hHeld => ?_)
 have hb : Below w8.heap.size w8 w8.drew := below_drew (Below.refl _ _)
 have n_ := zaa.mk (HF.out.below hb); clear HF; have HF := n_; clear n_
 have n_ := zaa.mk (zaf HB.out hb); clear HB; have HB := n_; clear n_
 have n_ := zaa.mk (Kd.C_below HR0.out hb); clear HR0; have HR0 := n_; clear n_
 have n_ := zaa.mk (Kd.C_below HR2.out hb); clear HR2; have HR2 := n_; clear n_
 have n_ := zaa.mk (zae hb Y0.out); clear Y0; have Y0 := n_; clear n_
 have n_ := zaa.mk (zae hb YH.out); clear YH; have YH := n_; clear n_
 have n_ := zaa.mk (zae hb YG.out); clear YG; have YG := n_; clear n_
 clear hb
 generalize w8.drew = wd at *
 refine zaz (i := 0) (N := some 24) (v := ?_) (a' := ?_) #[true, false, false, false, false, false, false, false, false, false, false, false, false, false, false, false, false, false, false, false, false, false, false, false, false, false, false, false, false] rfl rfl (by kernel_rfl) (fun _ _ _ h => h) (Or.inl ⟨by rfl, ?_⟩) ?_ ?_
 rotate_left
 ·intro w'
  go_simp
  with_reducible rfl
 rotate_left
 ·simp only [Act.put, List.setIfInBounds_toArray, List.set_cons_zero, List.set_cons_succ, zak, zan]
  rfl
 refine zaz (i := 6) (N := some 30) (v := ?_) (a' := ?_) #[true, false, false, false, false, false, true, false, false, false, false, false, false, false, false, false, false, false, false, false, false, false, false, false, false, false, false, false, false] rfl rfl (by kernel_rfl) (fun _ _ _ h => h) (Or.inl ⟨by rfl, ?_⟩) ?_ ?_
 rotate_left
 ·intro w'
  go_simp
  with_reducible rfl
 rotate_left
 ·simp only [Act.put, List.setIfInBounds_toArray, List.set_cons_zero, List.set_cons_succ, zak, zan]
  rfl
 refine zaz (i := 8) (N := some 32) (v := ?_) (a' := ?_) #[true, false, false, false, false, false, true, false, true, false, false, false, false, false, false, false, false, false, false, false, false, false, false, false, false, false, false, false, false] rfl rfl (by kernel_rfl) (fun _ _ _ h => h) (Or.inl ⟨by rfl, ?_⟩) ?_ ?_
 rotate_left
 ·intro w'
  go_simp
  with_reducible rfl
 rotate_left
 ·simp only [Act.put, List.setIfInBounds_toArray, List.set_cons_zero, List.set_cons_succ, zak, zan]
  rfl
 refine zaz (i := 13) (N := some 37) (v := ?_) (a' := ?_) #[true, false, false, false, false, false, true, false, true, false, false, false, false, true, false, false, false, false, false, false, false, false, false, false, false, false, false, false, false] rfl rfl (by kernel_rfl) (fun _ _ _ h => h) (Or.inl ⟨by rfl, ?_⟩) ?_ ?_
 rotate_left
 ·intro w'
  go_simp
  with_reducible rfl
 rotate_left
 ·simp only [Act.put, List.setIfInBounds_toArray, List.set_cons_zero, List.set_cons_succ, zak, zan]
  rfl
 refine zaz (i := 17) (N := some 41) (v := ?_) (a' := ?_) #[true, false, false, false, false, false, true, false, true, false, false, false, false, true, false, false, false, true, false, false, false, false, false, false, false, false, false, false, false] rfl rfl (by kernel_rfl) (fun _ _ _ h => h) (Or.inl ⟨by rfl, ?_⟩) ?_ ?_
 rotate_left
 ·intro w'
  go_simp
  with_reducible rfl
 rotate_left
 ·simp only [Act.put, List.setIfInBounds_toArray, List.set_cons_zero, List.set_cons_succ, zak, zan]
  rfl
 refine zaz (i := 22) (N := some 46) (v := ?_) (a' := ?_) #[true, false, false, false, false, false, true, false, true, false, false, false, false, true, false, false, false, true, false, false, false, false, true, false, false, false, false, false, false] rfl rfl (by kernel_rfl) (fun _ _ _ h => h) (Or.inl ⟨by rfl, ?_⟩) ?_ ?_
 rotate_left
 ·intro w'
  go_simp
  with_reducible rfl
 rotate_left
 ·simp only [Act.put, List.setIfInBounds_toArray, List.set_cons_zero, List.set_cons_succ, zak, zan]
  rfl
 refine zaz (i := 1) (N := some 25) (v := ?_) (a' := ?_) #[true, true, false, false, false, false, true, false, true, false, false, false, false, true, false, false, false, true, false, false, false, false, true, false, false, false, false, false, false] rfl rfl (by kernel_rfl) (fun _ _ _ h => h) (Or.inl ⟨by rfl, ?_⟩) ?_ ?_
 rotate_left
 ·intro w'
  go_simp
  with_reducible rfl
 rotate_left
 ·simp only [Act.put, List.setIfInBounds_toArray, List.set_cons_zero, List.set_cons_succ, zak, zan]
  rfl
 refine zaz (i := 2) (N := some 26) (v := ?_) (a' := ?_) #[true, true, true, false, false, false, true, false, true, false, false, false, false, true, false, false, false, true, false, false, false, false, true, false, false, false, false, false, false] rfl rfl (by kernel_rfl) (fun _ _ _ h => h) (Or.inl ⟨by rfl, ?_⟩) ?_ ?_
 rotate_left
 ·intro w'
  go_simp
  with_reducible rfl
 rotate_left
 ·simp only [Act.put, List.setIfInBounds_toArray, List.set_cons_zero, List.set_cons_succ, zak, zan]
  rfl
 refine zaz (i := 14) (N := some 38) (v := ?_) (a' := ?_) #[true, true, true, false, false, false, true, false, true, false, false, false, false, true, true, false, false, true, false, false, false, false, true, false, false, false, false, false, false] rfl rfl (by kernel_rfl) (fun _ _ _ h => h) (Or.inl ⟨by rfl, ?_⟩) ?_ ?_
 rotate_left
 ·intro w'
  go_simp
  with_reducible rfl
 rotate_left
 ·simp only [Act.put, List.setIfInBounds_toArray, List.set_cons_zero, List.set_cons_succ, zak, zan]
  rfl
 refine zaz (i := 15) (N := some 39) (v := ?_) (a' := ?_) #[true, true, true, false, false, false, true, false, true, false, false, false, false, true, true, true, false, true, false, false, false, false, true, false, false, false, false, false, false] rfl rfl (by kernel_rfl) (fun _ _ _ h => h) (Or.inl ⟨by rfl, ?_⟩) ?_ ?_
 rotate_left
 ·intro w'
  go_simp
  with_reducible rfl
 rotate_left
 ·simp only [Act.put, List.setIfInBounds_toArray, List.set_cons_zero, List.set_cons_succ, zak, zan]
  rfl
 refine zbu (i := 3) (N := some 27) (v := ?_) (a' := ?_) #[true, true, true, true, false, false, true, false, true, false, false, false, false, true, true, true, false, true, false, false, false, false, true, false, false, false, false, false, false] rfl rfl (by kernel_rfl) (fun _ _ _ h => h) (Or.inl ⟨by rfl, ?_⟩) hHeld ?_ ?_
 rotate_left
 ·intro w' s0
  have s1 := zae s0 YG.out
  clear s0
  go_simp
  with_reducible rfl
 rotate_left
 ·simp only [Act.put, List.setIfInBounds_toArray, List.set_cons_zero, List.set_cons_succ, zak, zan]
  rfl
 refine zaz (i := 4) (N := some 28) (v := ?_) (a' := ?_) #[true, true, true, true, true, false, true, false, true, false, false, false, false, true, true, true, false, true, false, false, false, false, true, false, false, false, false, false, false] rfl rfl (by kernel_rfl) (fun _ _ _ h => h) (Or.inl ⟨by rfl, ?_⟩) ?_ ?_
 rotate_left
 ·intro w'
  go_simp
  with_reducible rfl
 rotate_left
 ·simp only [Act.put, List.setIfInBounds_toArray, List.set_cons_zero, List.set_cons_succ, zak, zan]
  rfl
 refine zbu (i := 5) (N := some 29) (v := ?_) (a' := ?_) #[true, true, true, true, true, true, true, false, true, false, false, false, false, true, true, true, false, true, false, false, false, false, true, false, false, false, false, false, false] rfl rfl (by kernel_rfl) (fun _ _ _ h => h) (Or.inl ⟨by rfl, ?_⟩) hHeld ?_ ?_
 rotate_left
 ·intro w' s0
  have s1 := zae s0 Y0.out
  clear s0
  go_simp
  with_reducible rfl
 rotate_left
 ·simp only [Act.put, List.setIfInBounds_toArray, List.set_cons_zero, List.set_cons_succ, zak, zan]
  rfl
 refine zbu (i := 16) (N := some 40) (v := ?_) (a' := ?_) #[true, true, true, true, true, true, true, false, true, false, false, false, false, true, true, true, true, true, false, false, false, false, true, false, false, false, false, false, false] rfl rfl (by kernel_rfl) (fun _ _ _ h => h) (Or.inl ⟨by rfl, ?_⟩) hHeld ?_ ?_
 rotate_left
 ·intro w' s0
  have s1 := zae s0 YG.out
  clear s0
  go_simp
  with_reducible rfl
 rotate_left
 ·simp only [Act.put, List.setIfInBounds_toArray, List.set_cons_zero, List.set_cons_succ, zak, zan]
  rfl
 refine joinB_ 1 #[true, true, true, true, true, true, true, true, true, true, true, true, true, true, true, true, true, true, true, true, true, true, true, true, true, true, true, true, false] (fun s : List Value => [(31, s.getD 0 undef), (33, s.getD 1 undef), (34, s.getD 2 undef), (35, s.getD 3 undef), (36, s.getD 4 undef), (42, s.getD 5 undef), (43, s.getD 6 undef), (44, s.getD 7 undef), (45, s.getD 8 undef), (47, s.getD 9 undef), (48, s.getD 10 undef), (49, s.getD 11 undef), (50, s.getD 12 undef), (8, s.getD 13 undef)]) (OutF w8 s0 s1 s2 s3) ?cont (fun HFin => ?main)
 case main =>
  refine two_ (i := 7) (j := 27) (Ni := some 31) (Nj := some 8) #[true, true, true, true, true, true, true, true, true, false, false, false, false, true, true, true, true, true, false, false, false, false, true, false, false, false, false, false, false] #[true, true, true, true, true, true, true, false, true, false, false, false, false, true, true, true, true, true, false, false, false, false, true, false, false, false, false, true, false] rfl rfl rfl rfl (by kernel_rfl) (by decide) (by decide) (fun K hK => ?_) (fun K hK => ?_)
  ·refine goes_ Try.func50 (by kernel_rfl) rfl #[.pointer (some ⟨g, 0, none⟩)] (by rfl) rfl rfl (by (try simp only [List.map_toArray, List.map_cons, List.map_nil]); first | done | rfl) ?_
   refine (zcm g cs rs _ HK.out HF.out).mono ?_
   rintro e x1 ⟨A7, q7, rfl, hl, hC, hb⟩
   obtain ⟨ad7, P7, u7, ea, y7, hu, hr⟩ := C_row hC zw s1 HX1.out
   subst ea
   have Y7 := zaa.mk y7
   clear hl hC hu y7
   refine ⟨_, rfl, ?_⟩
   refine hK.out _ _ hb (fun hHeld => ?_)
   have n_ := zaa.mk (HF.out.below hb); clear HF; have HF := n_; clear n_
   have n_ := zaa.mk (zaf HB.out hb); clear HB; have HB := n_; clear n_
   have n_ := zaa.mk (Kd.C_below HR0.out hb); clear HR0; have HR0 := n_; clear n_
   have n_ := zaa.mk (Kd.C_below HR2.out hb); clear HR2; have HR2 := n_; clear n_
   have n_ := zaa.mk (zae hb Y0.out); clear Y0; have Y0 := n_; clear n_
   have n_ := zaa.mk (zae hb YH.out); clear YH; have YH := n_; clear n_
   have n_ := zaa.mk (zae hb YG.out); clear YG; have YG := n_; clear n_
   clear hK K hb
   refine turnB_ (by kernel_rfl) hHeld ?_
   clear hHeld
   have HR1 := zaa.mk hr
   clear hr
   have hHeld := Below.refl x1.heap.size x1
   refine zcr (a' := ?_) ?_ ?_
   rotate_left
   ·show Act.put _ (some 31) _ = _
    simp only [Act.put, List.setIfInBounds_toArray, List.set_cons_zero, List.set_cons_succ, zak, zan]
    rfl
   refine two_ (i := 9) (j := 27) (Ni := some 33) (Nj := some 8) #[true, true, true, true, true, true, true, true, true, true, false, false, false, true, true, true, true, true, false, false, false, false, true, false, false, false, false, false, false] #[true, true, true, true, true, true, true, true, true, false, false, false, false, true, true, true, true, true, false, false, false, false, true, false, false, false, false, true, false] rfl rfl rfl rfl (by kernel_rfl) (by decide) (by decide) (fun K hK => ?_) (fun K hK => ?_)
   ·refine goes_ Try.func51 (by kernel_rfl) rfl #[.pointer (some ⟨g, 0, none⟩)] (by rfl) rfl rfl (by (try simp only [List.map_toArray, List.map_cons, List.map_nil]); first | done | rfl) ?_
    refine (impl_floor_wide.calls g cs rs _ _ _ HF.out (Below.refl _ _) W1.out).mono ?_
    rintro e x2 ⟨rfl, -, hb, -⟩
    refine ⟨_, rfl, ?_⟩
    refine hK.out _ _ hb (fun hHeld => ?_)
    have n_ := zaa.mk (HF.out.below hb); clear HF; have HF := n_; clear n_
    have n_ := zaa.mk (zaf HB.out hb); clear HB; have HB := n_; clear n_
    have n_ := zaa.mk (Kd.C_below HR0.out hb); clear HR0; have HR0 := n_; clear n_
    have n_ := zaa.mk (Kd.C_below HR2.out hb); clear HR2; have HR2 := n_; clear n_
    have n_ := zaa.mk (zae hb Y0.out); clear Y0; have Y0 := n_; clear n_
    have n_ := zaa.mk (zae hb YH.out); clear YH; have YH := n_; clear n_
    have n_ := zaa.mk (zae hb YG.out); clear YG; have YG := n_; clear n_
    have n_ := zaa.mk (Kd.C_below HR1.out hb); clear HR1; have HR1 := n_; clear n_
    have n_ := zaa.mk (zae hb Y7.out); clear Y7; have Y7 := n_; clear n_
    clear hK K hb
    refine turnB_ (by kernel_rfl) hHeld ?_
    clear hHeld
    have hHeld := Below.refl x2.heap.size x2
    refine zcr (a' := ?_) ?_ ?_
    rotate_left
    ·show Act.put _ (some 33) _ = _
     simp only [Act.put, List.setIfInBounds_toArray, List.set_cons_zero, List.set_cons_succ, zak, zan]
     rfl
    refine zaz (i := 10) (N := some 34) (v := ?_) (a' := ?_) #[true, true, true, true, true, true, true, true, true, true, true, false, false, true, true, true, true, true, false, false, false, false, true, false, false, false, false, false, false] rfl rfl (by kernel_rfl) (fun _ _ _ h => h) (Or.inl ⟨by rfl, ?_⟩) ?_ ?_
    rotate_left
    ·intro w'
     go_simp
     with_reducible rfl
    rotate_left
    ·simp only [Act.put, List.setIfInBounds_toArray, List.set_cons_zero, List.set_cons_succ, zak, zan]
     rfl
    refine zaz (i := 11) (N := some 35) (v := ?_) (a' := ?_) #[true, true, true, true, true, true, true, true, true, true, true, true, false, true, true, true, true, true, false, false, false, false, true, false, false, false, false, false, false] rfl rfl (by kernel_rfl) (fun _ _ _ h => h) (Or.inl ⟨by rfl, ?_⟩) ?_ ?_
    rotate_left
    ·intro w'
     go_simp
     with_reducible rfl
    rotate_left
    ·simp only [Act.put, List.setIfInBounds_toArray, List.set_cons_zero, List.set_cons_succ, zak, zan]
     rfl
    refine zbu (i := 12) (N := some 36) (v := ?_) (a' := ?_) #[true, true, true, true, true, true, true, true, true, true, true, true, true, true, true, true, true, true, false, false, false, false, true, false, false, false, false, false, false] rfl rfl (by kernel_rfl) (fun _ _ _ h => h) (Or.inl ⟨by rfl, ?_⟩) hHeld ?_ ?_
    rotate_left
    ·intro w' s0
     have s1 := zae s0 Y7.out
     clear s0
     go_simp
     with_reducible rfl
    rotate_left
    ·simp only [Act.put, List.setIfInBounds_toArray, List.set_cons_zero, List.set_cons_succ, zak, zan]
     rfl
    refine two_ (i := 18) (j := 27) (Ni := some 42) (Nj := some 8) #[true, true, true, true, true, true, true, true, true, true, true, true, true, true, true, true, true, true, true, false, false, false, true, false, false, false, false, false, false] #[true, true, true, true, true, true, true, true, true, true, true, true, true, true, true, true, true, true, false, false, false, false, true, false, false, false, false, true, false] rfl rfl rfl rfl (by kernel_rfl) (by decide) (by decide) (fun K hK => ?_) (fun K hK => ?_)
    ·refine goes_ Try.func52 (by kernel_rfl) rfl #[.pointer (some ⟨g, 0, none⟩)] (by rfl) rfl rfl (by (try simp only [List.map_toArray, List.map_cons, List.map_nil]); first | done | rfl) ?_
     refine (impl_floor_high.calls g cs rs _ _ _ HF.out (Below.refl _ _) H1.out).mono ?_
     rintro e x3 ⟨rfl, -, hb, -⟩
     refine ⟨_, rfl, ?_⟩
     refine hK.out _ _ hb (fun hHeld => ?_)
     have n_ := zaa.mk (HF.out.below hb); clear HF; have HF := n_; clear n_
     have n_ := zaa.mk (zaf HB.out hb); clear HB; have HB := n_; clear n_
     have n_ := zaa.mk (Kd.C_below HR0.out hb); clear HR0; have HR0 := n_; clear n_
     have n_ := zaa.mk (Kd.C_below HR2.out hb); clear HR2; have HR2 := n_; clear n_
     have n_ := zaa.mk (zae hb Y0.out); clear Y0; have Y0 := n_; clear n_
     have n_ := zaa.mk (zae hb YH.out); clear YH; have YH := n_; clear n_
     have n_ := zaa.mk (zae hb YG.out); clear YG; have YG := n_; clear n_
     have n_ := zaa.mk (Kd.C_below HR1.out hb); clear HR1; have HR1 := n_; clear n_
     have n_ := zaa.mk (zae hb Y7.out); clear Y7; have Y7 := n_; clear n_
     clear hK K hb
     refine turnB_ (by kernel_rfl) hHeld ?_
     clear hHeld
     have hHeld := Below.refl x3.heap.size x3
     refine zcr (a' := ?_) ?_ ?_
     rotate_left
     ·show Act.put _ (some 42) _ = _
      simp only [Act.put, List.setIfInBounds_toArray, List.set_cons_zero, List.set_cons_succ, zak, zan]
      rfl
     refine zaz (i := 19) (N := some 43) (v := ?_) (a' := ?_) #[true, true, true, true, true, true, true, true, true, true, true, true, true, true, true, true, true, true, true, true, false, false, true, false, false, false, false, false, false] rfl rfl (by kernel_rfl) (fun _ _ _ h => h) (Or.inl ⟨by rfl, ?_⟩) ?_ ?_
     rotate_left
     ·intro w'
      go_simp
      with_reducible rfl
     rotate_left
     ·simp only [Act.put, List.setIfInBounds_toArray, List.set_cons_zero, List.set_cons_succ, zak, zan]
      rfl
     refine zaz (i := 20) (N := some 44) (v := ?_) (a' := ?_) #[true, true, true, true, true, true, true, true, true, true, true, true, true, true, true, true, true, true, true, true, true, false, true, false, false, false, false, false, false] rfl rfl (by kernel_rfl) (fun _ _ _ h => h) (Or.inl ⟨by rfl, ?_⟩) ?_ ?_
     rotate_left
     ·intro w'
      go_simp
      with_reducible rfl
     rotate_left
     ·simp only [Act.put, List.setIfInBounds_toArray, List.set_cons_zero, List.set_cons_succ, zak, zan]
      rfl
     refine zbu (i := 21) (N := some 45) (v := ?_) (a' := ?_) #[true, true, true, true, true, true, true, true, true, true, true, true, true, true, true, true, true, true, true, true, true, true, true, false, false, false, false, false, false] rfl rfl (by kernel_rfl) (fun _ _ _ h => h) (Or.inl ⟨by rfl, ?_⟩) hHeld ?_ ?_
     rotate_left
     ·intro w' s0
      have s1 := zae s0 YH.out
      clear s0
      go_simp
      with_reducible rfl
     rotate_left
     ·simp only [Act.put, List.setIfInBounds_toArray, List.set_cons_zero, List.set_cons_succ, zak, zan]
      rfl
     refine two_ (i := 23) (j := 27) (Ni := some 47) (Nj := some 8) #[true, true, true, true, true, true, true, true, true, true, true, true, true, true, true, true, true, true, true, true, true, true, true, true, false, false, false, false, false] #[true, true, true, true, true, true, true, true, true, true, true, true, true, true, true, true, true, true, true, true, true, true, true, false, false, false, false, true, false] rfl rfl rfl rfl (by kernel_rfl) (by decide) (by decide) (fun K hK => ?_) (fun K hK => ?_)
     ·refine goes_ Try.func50 (by kernel_rfl) rfl #[.pointer (some ⟨g, 0, none⟩)] (by rfl) rfl rfl (by (try simp only [List.map_toArray, List.map_cons, List.map_nil]); first | done | rfl) ?_
      refine (zcm g cs rs _ HK.out HF.out).mono ?_
      rintro e x4 ⟨A23, q23, rfl, hl, hC, hb⟩
      obtain ⟨ad23, P23, u23, ea, y23, hu, hr⟩ := C_row hC 0 s3 HX3.out
      subst ea
      rw [Addr.add_zero'] at y23
      have Y23 := zaa.mk y23
      clear hl hC hu y23
      refine ⟨_, rfl, ?_⟩
      refine hK.out _ _ hb (fun hHeld => ?_)
      have n_ := zaa.mk (HF.out.below hb); clear HF; have HF := n_; clear n_
      have n_ := zaa.mk (zaf HB.out hb); clear HB; have HB := n_; clear n_
      have n_ := zaa.mk (Kd.C_below HR0.out hb); clear HR0; have HR0 := n_; clear n_
      have n_ := zaa.mk (Kd.C_below HR2.out hb); clear HR2; have HR2 := n_; clear n_
      have n_ := zaa.mk (zae hb Y0.out); clear Y0; have Y0 := n_; clear n_
      have n_ := zaa.mk (zae hb YH.out); clear YH; have YH := n_; clear n_
      have n_ := zaa.mk (zae hb YG.out); clear YG; have YG := n_; clear n_
      have n_ := zaa.mk (Kd.C_below HR1.out hb); clear HR1; have HR1 := n_; clear n_
      have n_ := zaa.mk (zae hb Y7.out); clear Y7; have Y7 := n_; clear n_
      clear hK K hb
      refine turnB_ (by kernel_rfl) hHeld ?_
      clear hHeld
      have HR3 := zaa.mk hr
      clear hr
      have hHeld := Below.refl x4.heap.size x4
      refine zcr (a' := ?_) ?_ ?_
      rotate_left
      ·show Act.put _ (some 47) _ = _
       simp only [Act.put, List.setIfInBounds_toArray, List.set_cons_zero, List.set_cons_succ, zak, zan]
       rfl
      refine zaz (i := 24) (N := some 48) (v := ?_) (a' := ?_) #[true, true, true, true, true, true, true, true, true, true, true, true, true, true, true, true, true, true, true, true, true, true, true, true, true, false, false, false, false] rfl rfl (by kernel_rfl) (fun _ _ _ h => h) (Or.inl ⟨by rfl, ?_⟩) ?_ ?_
      rotate_left
      ·intro w'
       go_simp
       with_reducible rfl
      rotate_left
      ·simp only [Act.put, List.setIfInBounds_toArray, List.set_cons_zero, List.set_cons_succ, zak, zan]
       rfl
      refine zbu (i := 25) (N := some 49) (v := ?_) (a' := ?_) #[true, true, true, true, true, true, true, true, true, true, true, true, true, true, true, true, true, true, true, true, true, true, true, true, true, true, false, false, false] rfl rfl (by kernel_rfl) (fun _ _ _ h => h) (Or.inl ⟨by rfl, ?_⟩) hHeld ?_ ?_
      rotate_left
      ·intro w' s0
       have s1 := zae s0 Y23.out
       clear s0
       go_simp
       with_reducible rfl
      rotate_left
      ·simp only [Act.put, List.setIfInBounds_toArray, List.set_cons_zero, List.set_cons_succ, zak, zan]
       rfl
      refine zaz (i := 26) (N := some 50) (v := ?_) (a' := ?_) #[true, true, true, true, true, true, true, true, true, true, true, true, true, true, true, true, true, true, true, true, true, true, true, true, true, true, true, false, false] rfl rfl (by kernel_rfl) (fun _ _ _ h => h) (Or.inl ⟨by rfl, ?_⟩) ?_ ?_
      rotate_left
      ·intro w'
       go_simp
       with_reducible rfl
      rotate_left
      ·simp only [Act.put, List.setIfInBounds_toArray, List.set_cons_zero, List.set_cons_succ, zak, zan]
       rfl
      refine one_ (i := 27) (N := some 8) #[true, true, true, true, true, true, true, true, true, true, true, true, true, true, true, true, true, true, true, true, true, true, true, true, true, true, true, true, false] rfl rfl (by kernel_rfl) (by decide) (fun K hK => ?_)
      refine valO_step (by rfl) (v := .pointer (some ⟨x4.heap.size, 0, none⟩)) (w1 := x4.alloc (.cells #[.slice none 0 0, .slice none 0 0, .slice none 0 0, .slice none 0 0] 61)) (by go_simp) ?_
      have hb := zac (Below.refl x4.heap.size x4) (.cells #[.slice none 0 0, .slice none 0 0, .slice none 0 0, .slice none 0 0] 61)
      have hk := heap_alloc_new x4 (.cells #[.slice none 0 0, .slice none 0 0, .slice none 0 0, .slice none 0 0] 61)
      have HBs := zaa.mk (show w8.heap.size ≤ x4.heap.size from HB.out.size)
      generalize x4.alloc (.cells #[.slice none 0 0, .slice none 0 0, .slice none 0 0, .slice none 0 0] 61) = x5 at *
      refine hK.out _ _ hb (fun hHeld => ?_)
      have n_ := zaa.mk (HF.out.below hb); clear HF; have HF := n_; clear n_
      have n_ := zaa.mk (zaf HB.out hb); clear HB; have HB := n_; clear n_
      have n_ := zaa.mk (Kd.C_below HR0.out hb); clear HR0; have HR0 := n_; clear n_
      have n_ := zaa.mk (Kd.C_below HR2.out hb); clear HR2; have HR2 := n_; clear n_
      have n_ := zaa.mk (zae hb Y0.out); clear Y0; have Y0 := n_; clear n_
      have n_ := zaa.mk (zae hb YH.out); clear YH; have YH := n_; clear n_
      have n_ := zaa.mk (zae hb YG.out); clear YG; have YG := n_; clear n_
      have n_ := zaa.mk (Kd.C_below HR1.out hb); clear HR1; have HR1 := n_; clear n_
      have n_ := zaa.mk (zae hb Y7.out); clear Y7; have Y7 := n_; clear n_
      have n_ := zaa.mk (Kd.C_below HR3.out hb); clear HR3; have HR3 := n_; clear n_
      have n_ := zaa.mk (zae hb Y23.out); clear Y23; have Y23 := n_; clear n_
      have HBk := zaa.mk hk
      clear hk hK K hb
      refine turnB_ (by kernel_rfl) hHeld ?_
      clear hHeld
      generalize x4.heap.size = bk at *
      have hHeld := Below.refl x5.heap.size x5
      refine zcr (a' := ?_) ?_ ?_
      rotate_left
      ·show Act.put _ (some 8) _ = _
       simp only [Act.put, List.setIfInBounds_toArray, List.set_cons_zero, List.set_cons_succ, zak, zan]
       rfl
      refine zcr ?_ (HFin.out [?v5_0, ?v5_1, ?v5_2, ?v5_3, ?v5_4, ?v5_5, ?v5_6, ?v5_7, ?v5_8, ?v5_9, ?v5_10, ?v5_11, ?v5_12, ?v5_13] _ ?_)
      ·show _ = putAll _ _
       simp only [putAll, Act.put, List.setIfInBounds_toArray, List.set_cons_zero, List.set_cons_succ, List.getD_cons_zero, List.getD_cons_succ]
       rfl
      ·exact ⟨bk, P0, P7, PH, P23, u0, u7, uH, u23, rfl, rfl, HBk.out, HBs.out, HR0.out, HR1.out, HR2.out, HR3.out, HB.out⟩
     ·refine valO_step (by rfl) (v := .pointer (some ⟨x3.heap.size, 0, none⟩)) (w1 := x3.alloc (.cells #[.slice none 0 0, .slice none 0 0, .slice none 0 0, .slice none 0 0] 61)) (by go_simp) ?_
      have hb := zac (Below.refl x3.heap.size x3) (.cells #[.slice none 0 0, .slice none 0 0, .slice none 0 0, .slice none 0 0] 61)
      have hk := heap_alloc_new x3 (.cells #[.slice none 0 0, .slice none 0 0, .slice none 0 0, .slice none 0 0] 61)
      have HBs := zaa.mk (show w8.heap.size ≤ x3.heap.size from HB.out.size)
      generalize x3.alloc (.cells #[.slice none 0 0, .slice none 0 0, .slice none 0 0, .slice none 0 0] 61) = x6 at *
      refine hK.out _ _ hb (fun hHeld => ?_)
      have n_ := zaa.mk (HF.out.below hb); clear HF; have HF := n_; clear n_
      have n_ := zaa.mk (zaf HB.out hb); clear HB; have HB := n_; clear n_
      have n_ := zaa.mk (Kd.C_below HR0.out hb); clear HR0; have HR0 := n_; clear n_
      have n_ := zaa.mk (Kd.C_below HR2.out hb); clear HR2; have HR2 := n_; clear n_
      have n_ := zaa.mk (zae hb Y0.out); clear Y0; have Y0 := n_; clear n_
      have n_ := zaa.mk (zae hb YH.out); clear YH; have YH := n_; clear n_
      have n_ := zaa.mk (zae hb YG.out); clear YG; have YG := n_; clear n_
      have n_ := zaa.mk (Kd.C_below HR1.out hb); clear HR1; have HR1 := n_; clear n_
      have n_ := zaa.mk (zae hb Y7.out); clear Y7; have Y7 := n_; clear n_
      have HBk := zaa.mk hk
      clear hk hK K hb
      refine turnB_ (by kernel_rfl) hHeld ?_
      clear hHeld
      generalize x3.heap.size = bk at *
      have hHeld := Below.refl x6.heap.size x6
      refine zcr (a' := ?_) ?_ ?_
      rotate_left
      ·show Act.put _ (some 8) _ = _
       simp only [Act.put, List.setIfInBounds_toArray, List.set_cons_zero, List.set_cons_succ, zak, zan]
       rfl
      refine one_ (i := 23) (N := some 47) #[true, true, true, true, true, true, true, true, true, true, true, true, true, true, true, true, true, true, true, true, true, true, true, true, false, false, false, true, false] rfl rfl (by kernel_rfl) (by decide) (fun K hK => ?_)
      refine goes_ Try.func50 (by kernel_rfl) rfl #[.pointer (some ⟨g, 0, none⟩)] (by rfl) rfl rfl (by (try simp only [List.map_toArray, List.map_cons, List.map_nil]); first | done | rfl) ?_
      refine (zcm g cs rs _ HK.out HF.out).mono ?_
      rintro e x7 ⟨A23, q23, rfl, hl, hC, hb⟩
      obtain ⟨ad23, P23, u23, ea, y23, hu, hr⟩ := C_row hC 0 s3 HX3.out
      subst ea
      rw [Addr.add_zero'] at y23
      have Y23 := zaa.mk y23
      clear hl hC hu y23
      refine ⟨_, rfl, ?_⟩
      refine hK.out _ _ hb (fun hHeld => ?_)
      have n_ := zaa.mk (HF.out.below hb); clear HF; have HF := n_; clear n_
      have n_ := zaa.mk (zaf HB.out hb); clear HB; have HB := n_; clear n_
      have n_ := zaa.mk (Kd.C_below HR0.out hb); clear HR0; have HR0 := n_; clear n_
      have n_ := zaa.mk (Kd.C_below HR2.out hb); clear HR2; have HR2 := n_; clear n_
      have n_ := zaa.mk (zae hb Y0.out); clear Y0; have Y0 := n_; clear n_
      have n_ := zaa.mk (zae hb YH.out); clear YH; have YH := n_; clear n_
      have n_ := zaa.mk (zae hb YG.out); clear YG; have YG := n_; clear n_
      have n_ := zaa.mk (Kd.C_below HR1.out hb); clear HR1; have HR1 := n_; clear n_
      have n_ := zaa.mk (zae hb Y7.out); clear Y7; have Y7 := n_; clear n_
      have n_ := zaa.mk ((hb.block _ (zbr HBk.out)).trans HBk.out); clear HBk; have HBk := n_; clear n_
      clear hK K hb
      refine turnB_ (by kernel_rfl) hHeld ?_
      clear hHeld
      have HR3 := zaa.mk hr
      clear hr
      have hHeld := Below.refl x7.heap.size x7
      refine zcr (a' := ?_) ?_ ?_
      rotate_left
      ·show Act.put _ (some 47) _ = _
       simp only [Act.put, List.setIfInBounds_toArray, List.set_cons_zero, List.set_cons_succ, zak, zan]
       rfl
      refine zaz (i := 24) (N := some 48) (v := ?_) (a' := ?_) #[true, true, true, true, true, true, true, true, true, true, true, true, true, true, true, true, true, true, true, true, true, true, true, true, true, false, false, true, false] rfl rfl (by kernel_rfl) (fun _ _ _ h => h) (Or.inl ⟨by rfl, ?_⟩) ?_ ?_
      rotate_left
      ·intro w'
       go_simp
       with_reducible rfl
      rotate_left
      ·simp only [Act.put, List.setIfInBounds_toArray, List.set_cons_zero, List.set_cons_succ, zak, zan]
       rfl
      refine zbu (i := 25) (N := some 49) (v := ?_) (a' := ?_) #[true, true, true, true, true, true, true, true, true, true, true, true, true, true, true, true, true, true, true, true, true, true, true, true, true, true, false, true, false] rfl rfl (by kernel_rfl) (fun _ _ _ h => h) (Or.inl ⟨by rfl, ?_⟩) hHeld ?_ ?_
      rotate_left
      ·intro w' s0
       have s1 := zae s0 Y23.out
       clear s0
       go_simp
       with_reducible rfl
      rotate_left
      ·simp only [Act.put, List.setIfInBounds_toArray, List.set_cons_zero, List.set_cons_succ, zak, zan]
       rfl
      refine zaz (i := 26) (N := some 50) (v := ?_) (a' := ?_) #[true, true, true, true, true, true, true, true, true, true, true, true, true, true, true, true, true, true, true, true, true, true, true, true, true, true, true, true, false] rfl rfl (by kernel_rfl) (fun _ _ _ h => h) (Or.inl ⟨by rfl, ?_⟩) ?_ ?_
      rotate_left
      ·intro w'
       go_simp
       with_reducible rfl
      rotate_left
      ·simp only [Act.put, List.setIfInBounds_toArray, List.set_cons_zero, List.set_cons_succ, zak, zan]
       rfl
      refine zcr ?_ (HFin.out [?v7_0, ?v7_1, ?v7_2, ?v7_3, ?v7_4, ?v7_5, ?v7_6, ?v7_7, ?v7_8, ?v7_9, ?v7_10, ?v7_11, ?v7_12, ?v7_13] _ ?_)
      ·show _ = putAll _ _
       simp only [putAll, Act.put, List.setIfInBounds_toArray, List.set_cons_zero, List.set_cons_succ, List.getD_cons_zero, List.getD_cons_succ]
       rfl
      ·exact ⟨bk, P0, P7, PH, P23, u0, u7, uH, u23, rfl, rfl, HBk.out, HBs.out, HR0.out, HR1.out, HR2.out, HR3.out, HB.out⟩
    ·refine valO_step (by rfl) (v := .pointer (some ⟨x2.heap.size, 0, none⟩)) (w1 := x2.alloc (.cells #[.slice none 0 0, .slice none 0 0, .slice none 0 0, .slice none 0 0] 61)) (by go_simp) ?_
     have hb := zac (Below.refl x2.heap.size x2) (.cells #[.slice none 0 0, .slice none 0 0, .slice none 0 0, .slice none 0 0] 61)
     have hk := heap_alloc_new x2 (.cells #[.slice none 0 0, .slice none 0 0, .slice none 0 0, .slice none 0 0] 61)
     have HBs := zaa.mk (show w8.heap.size ≤ x2.heap.size from HB.out.size)
     generalize x2.alloc (.cells #[.slice none 0 0, .slice none 0 0, .slice none 0 0, .slice none 0 0] 61) = x8 at *
     refine hK.out _ _ hb (fun hHeld => ?_)
     have n_ := zaa.mk (HF.out.below hb); clear HF; have HF := n_; clear n_
     have n_ := zaa.mk (zaf HB.out hb); clear HB; have HB := n_; clear n_
     have n_ := zaa.mk (Kd.C_below HR0.out hb); clear HR0; have HR0 := n_; clear n_
     have n_ := zaa.mk (Kd.C_below HR2.out hb); clear HR2; have HR2 := n_; clear n_
     have n_ := zaa.mk (zae hb Y0.out); clear Y0; have Y0 := n_; clear n_
     have n_ := zaa.mk (zae hb YH.out); clear YH; have YH := n_; clear n_
     have n_ := zaa.mk (zae hb YG.out); clear YG; have YG := n_; clear n_
     have n_ := zaa.mk (Kd.C_below HR1.out hb); clear HR1; have HR1 := n_; clear n_
     have n_ := zaa.mk (zae hb Y7.out); clear Y7; have Y7 := n_; clear n_
     have HBk := zaa.mk hk
     clear hk hK K hb
     refine turnB_ (by kernel_rfl) hHeld ?_
     clear hHeld
     generalize x2.heap.size = bk at *
     have hHeld := Below.refl x8.heap.size x8
     refine zcr (a' := ?_) ?_ ?_
     rotate_left
     ·show Act.put _ (some 8) _ = _
      simp only [Act.put, List.setIfInBounds_toArray, List.set_cons_zero, List.set_cons_succ, zak, zan]
      rfl
     refine one_ (i := 18) (N := some 42) #[true, true, true, true, true, true, true, true, true, true, true, true, true, true, true, true, true, true, true, false, false, false, true, false, false, false, false, true, false] rfl rfl (by kernel_rfl) (by decide) (fun K hK => ?_)
     refine goes_ Try.func52 (by kernel_rfl) rfl #[.pointer (some ⟨g, 0, none⟩)] (by rfl) rfl rfl (by (try simp only [List.map_toArray, List.map_cons, List.map_nil]); first | done | rfl) ?_
     refine (impl_floor_high.calls g cs rs _ _ _ HF.out (Below.refl _ _) H1.out).mono ?_
     rintro e x9 ⟨rfl, -, hb, -⟩
     refine ⟨_, rfl, ?_⟩
     refine hK.out _ _ hb (fun hHeld => ?_)
     have n_ := zaa.mk (HF.out.below hb); clear HF; have HF := n_; clear n_
     have n_ := zaa.mk (zaf HB.out hb); clear HB; have HB := n_; clear n_
     have n_ := zaa.mk (Kd.C_below HR0.out hb); clear HR0; have HR0 := n_; clear n_
     have n_ := zaa.mk (Kd.C_below HR2.out hb); clear HR2; have HR2 := n_; clear n_
     have n_ := zaa.mk (zae hb Y0.out); clear Y0; have Y0 := n_; clear n_
     have n_ := zaa.mk (zae hb YH.out); clear YH; have YH := n_; clear n_
     have n_ := zaa.mk (zae hb YG.out); clear YG; have YG := n_; clear n_
     have n_ := zaa.mk (Kd.C_below HR1.out hb); clear HR1; have HR1 := n_; clear n_
     have n_ := zaa.mk (zae hb Y7.out); clear Y7; have Y7 := n_; clear n_
     have n_ := zaa.mk ((hb.block _ (zbr HBk.out)).trans HBk.out); clear HBk; have HBk := n_; clear n_
     clear hK K hb
     refine turnB_ (by kernel_rfl) hHeld ?_
     clear hHeld
     have hHeld := Below.refl x9.heap.size x9
     refine zcr (a' := ?_) ?_ ?_
     rotate_left
     ·show Act.put _ (some 42) _ = _
      simp only [Act.put, List.setIfInBounds_toArray, List.set_cons_zero, List.set_cons_succ, zak, zan]
      rfl
     refine zaz (i := 19) (N := some 43) (v := ?_) (a' := ?_) #[true, true, true, true, true, true, true, true, true, true, true, true, true, true, true, true, true, true, true, true, false, false, true, false, false, false, false, true, false] rfl rfl (by kernel_rfl) (fun _ _ _ h => h) (Or.inl ⟨by rfl, ?_⟩) ?_ ?_
     rotate_left
     ·intro w'
      go_simp
      with_reducible rfl
     rotate_left
     ·simp only [Act.put, List.setIfInBounds_toArray, List.set_cons_zero, List.set_cons_succ, zak, zan]
      rfl
     refine zaz (i := 20) (N := some 44) (v := ?_) (a' := ?_) #[true, true, true, true, true, true, true, true, true, true, true, true, true, true, true, true, true, true, true, true, true, false, true, false, false, false, false, true, false] rfl rfl (by kernel_rfl) (fun _ _ _ h => h) (Or.inl ⟨by rfl, ?_⟩) ?_ ?_
     rotate_left
     ·intro w'
      go_simp
      with_reducible rfl
     rotate_left
     ·simp only [Act.put, List.setIfInBounds_toArray, List.set_cons_zero, List.set_cons_succ, zak, zan]
      rfl
     refine zbu (i := 21) (N := some 45) (v := ?_) (a' := ?_) #[true, true, true, true, true, true, true, true, true, true, true, true, true, true, true, true, true, true, true, true, true, true, true, false, false, false, false, true, false] rfl rfl (by kernel_rfl) (fun _ _ _ h => h) (Or.inl ⟨by rfl, ?_⟩) hHeld ?_ ?_
     rotate_left
     ·intro w' s0
      have s1 := zae s0 YH.out
      clear s0
      go_simp
      with_reducible rfl
     rotate_left
     ·simp only [Act.put, List.setIfInBounds_toArray, List.set_cons_zero, List.set_cons_succ, zak, zan]
      rfl
     refine one_ (i := 23) (N := some 47) #[true, true, true, true, true, true, true, true, true, true, true, true, true, true, true, true, true, true, true, true, true, true, true, true, false, false, false, true, false] rfl rfl (by kernel_rfl) (by decide) (fun K hK => ?_)
     refine goes_ Try.func50 (by kernel_rfl) rfl #[.pointer (some ⟨g, 0, none⟩)] (by rfl) rfl rfl (by (try simp only [List.map_toArray, List.map_cons, List.map_nil]); first | done | rfl) ?_
     refine (zcm g cs rs _ HK.out HF.out).mono ?_
     rintro e x10 ⟨A23, q23, rfl, hl, hC, hb⟩
     obtain ⟨ad23, P23, u23, ea, y23, hu, hr⟩ := C_row hC 0 s3 HX3.out
     subst ea
     rw [Addr.add_zero'] at y23
     have Y23 := zaa.mk y23
     clear hl hC hu y23
     refine ⟨_, rfl, ?_⟩
     refine hK.out _ _ hb (fun hHeld => ?_)
     have n_ := zaa.mk (HF.out.below hb); clear HF; have HF := n_; clear n_
     have n_ := zaa.mk (zaf HB.out hb); clear HB; have HB := n_; clear n_
     have n_ := zaa.mk (Kd.C_below HR0.out hb); clear HR0; have HR0 := n_; clear n_
     have n_ := zaa.mk (Kd.C_below HR2.out hb); clear HR2; have HR2 := n_; clear n_
     have n_ := zaa.mk (zae hb Y0.out); clear Y0; have Y0 := n_; clear n_
     have n_ := zaa.mk (zae hb YH.out); clear YH; have YH := n_; clear n_
     have n_ := zaa.mk (zae hb YG.out); clear YG; have YG := n_; clear n_
     have n_ := zaa.mk (Kd.C_below HR1.out hb); clear HR1; have HR1 := n_; clear n_
     have n_ := zaa.mk (zae hb Y7.out); clear Y7; have Y7 := n_; clear n_
     have n_ := zaa.mk ((hb.block _ (zbr HBk.out)).trans HBk.out); clear HBk; have HBk := n_; clear n_
     clear hK K hb
     refine turnB_ (by kernel_rfl) hHeld ?_
     clear hHeld
     have HR3 := zaa.mk hr
     clear hr
     have hHeld := Below.refl x10.heap.size x10
     refine zcr (a' := ?_) ?_ ?_
     rotate_left
     ·show Act.put _ (some 47) _ = _
      simp only [Act.put, List.setIfInBounds_toArray, List.set_cons_zero, List.set_cons_succ, zak, zan]
      rfl
     refine zaz (i := 24) (N := some 48) (v := ?_) (a' := ?_) #[true, true, true, true, true, true, true, true, true, true, true, true, true, true, true, true, true, true, true, true, true, true, true, true, true, false, false, true, false] rfl rfl (by kernel_rfl) (fun _ _ _ h => h) (Or.inl ⟨by rfl, ?_⟩) ?_ ?_
     rotate_left
     ·intro w'
      go_simp
      with_reducible rfl
     rotate_left
     ·simp only [Act.put, List.setIfInBounds_toArray, List.set_cons_zero, List.set_cons_succ, zak, zan]
      rfl
     refine zbu (i := 25) (N := some 49) (v := ?_) (a' := ?_) #[true, true, true, true, true, true, true, true, true, true, true, true, true, true, true, true, true, true, true, true, true, true, true, true, true, true, false, true, false] rfl rfl (by kernel_rfl) (fun _ _ _ h => h) (Or.inl ⟨by rfl, ?_⟩) hHeld ?_ ?_
     rotate_left
     ·intro w' s0
      have s1 := zae s0 Y23.out
      clear s0
      go_simp
      with_reducible rfl
     rotate_left
     ·simp only [Act.put, List.setIfInBounds_toArray, List.set_cons_zero, List.set_cons_succ, zak, zan]
      rfl
     refine zaz (i := 26) (N := some 50) (v := ?_) (a' := ?_) #[true, true, true, true, true, true, true, true, true, true, true, true, true, true, true, true, true, true, true, true, true, true, true, true, true, true, true, true, false] rfl rfl (by kernel_rfl) (fun _ _ _ h => h) (Or.inl ⟨by rfl, ?_⟩) ?_ ?_
     rotate_left
     ·intro w'
      go_simp
      with_reducible rfl
     rotate_left
     ·simp only [Act.put, List.setIfInBounds_toArray, List.set_cons_zero, List.set_cons_succ, zak, zan]
      rfl
     refine zcr ?_ (HFin.out [?v10_0, ?v10_1, ?v10_2, ?v10_3, ?v10_4, ?v10_5, ?v10_6, ?v10_7, ?v10_8, ?v10_9, ?v10_10, ?v10_11, ?v10_12, ?v10_13] _ ?_)
     ·show _ = putAll _ _
      simp only [putAll, Act.put, List.setIfInBounds_toArray, List.set_cons_zero, List.set_cons_succ, List.getD_cons_zero, List.getD_cons_succ]
      rfl
     ·exact ⟨bk, P0, P7, PH, P23, u0, u7, uH, u23, rfl, rfl, HBk.out, HBs.out, HR0.out, HR1.out, HR2.out, HR3.out, HB.out⟩
   ·refine valO_step (by rfl) (v := .pointer (some ⟨x1.heap.size, 0, none⟩)) (w1 := x1.alloc (.cells #[.slice none 0 0, .slice none 0 0, .slice none 0 0, .slice none 0 0] 61)) (by go_simp) ?_
    have hb := zac (Below.refl x1.heap.size x1) (.cells #[.slice none 0 0, .slice none 0 0, .slice none 0 0, .slice none 0 0] 61)
    have hk := heap_alloc_new x1 (.cells #[.slice none 0 0, .slice none 0 0, .slice none 0 0, .slice none 0 0] 61)
    have HBs := zaa.mk (show w8.heap.size ≤ x1.heap.size from HB.out.size)
    generalize x1.alloc (.cells #[.slice none 0 0, .slice none 0 0, .slice none 0 0, .slice none 0 0] 61) = x11 at *
    refine hK.out _ _ hb (fun hHeld => ?_)
    have n_ := zaa.mk (HF.out.below hb); clear HF; have HF := n_; clear n_
    have n_ := zaa.mk (zaf HB.out hb); clear HB; have HB := n_; clear n_
    have n_ := zaa.mk (Kd.C_below HR0.out hb); clear HR0; have HR0 := n_; clear n_
    have n_ := zaa.mk (Kd.C_below HR2.out hb); clear HR2; have HR2 := n_; clear n_
    have n_ := zaa.mk (zae hb Y0.out); clear Y0; have Y0 := n_; clear n_
    have n_ := zaa.mk (zae hb YH.out); clear YH; have YH := n_; clear n_
    have n_ := zaa.mk (zae hb YG.out); clear YG; have YG := n_; clear n_
    have n_ := zaa.mk (Kd.C_below HR1.out hb); clear HR1; have HR1 := n_; clear n_
    have n_ := zaa.mk (zae hb Y7.out); clear Y7; have Y7 := n_; clear n_
    have HBk := zaa.mk hk
    clear hk hK K hb
    refine turnB_ (by kernel_rfl) hHeld ?_
    clear hHeld
    generalize x1.heap.size = bk at *
    have hHeld := Below.refl x11.heap.size x11
    refine zcr (a' := ?_) ?_ ?_
    rotate_left
    ·show Act.put _ (some 8) _ = _
     simp only [Act.put, List.setIfInBounds_toArray, List.set_cons_zero, List.set_cons_succ, zak, zan]
     rfl
    refine one_ (i := 9) (N := some 33) #[true, true, true, true, true, true, true, true, true, true, false, false, false, true, true, true, true, true, false, false, false, false, true, false, false, false, false, true, false] rfl rfl (by kernel_rfl) (by decide) (fun K hK => ?_)
    refine goes_ Try.func51 (by kernel_rfl) rfl #[.pointer (some ⟨g, 0, none⟩)] (by rfl) rfl rfl (by (try simp only [List.map_toArray, List.map_cons, List.map_nil]); first | done | rfl) ?_
    refine (impl_floor_wide.calls g cs rs _ _ _ HF.out (Below.refl _ _) W1.out).mono ?_
    rintro e x12 ⟨rfl, -, hb, -⟩
    refine ⟨_, rfl, ?_⟩
    refine hK.out _ _ hb (fun hHeld => ?_)
    have n_ := zaa.mk (HF.out.below hb); clear HF; have HF := n_; clear n_
    have n_ := zaa.mk (zaf HB.out hb); clear HB; have HB := n_; clear n_
    have n_ := zaa.mk (Kd.C_below HR0.out hb); clear HR0; have HR0 := n_; clear n_
    have n_ := zaa.mk (Kd.C_below HR2.out hb); clear HR2; have HR2 := n_; clear n_
    have n_ := zaa.mk (zae hb Y0.out); clear Y0; have Y0 := n_; clear n_
    have n_ := zaa.mk (zae hb YH.out); clear YH; have YH := n_; clear n_
    have n_ := zaa.mk (zae hb YG.out); clear YG; have YG := n_; clear n_
    have n_ := zaa.mk (Kd.C_below HR1.out hb); clear HR1; have HR1 := n_; clear n_
    have n_ := zaa.mk (zae hb Y7.out); clear Y7; have Y7 := n_; clear n_
    have n_ := zaa.mk ((hb.block _ (zbr HBk.out)).trans HBk.out); clear HBk; have HBk := n_; clear n_
    clear hK K hb
    refine turnB_ (by kernel_rfl) hHeld ?_
    clear hHeld
    have hHeld := Below.refl x12.heap.size x12
    refine zcr (a' := ?_) ?_ ?_
    rotate_left
    ·show Act.put _ (some 33) _ = _
     simp only [Act.put, List.setIfInBounds_toArray, List.set_cons_zero, List.set_cons_succ, zak, zan]
     rfl
    refine zaz (i := 10) (N := some 34) (v := ?_) (a' := ?_) #[true, true, true, true, true, true, true, true, true, true, true, false, false, true, true, true, true, true, false, false, false, false, true, false, false, false, false, true, false] rfl rfl (by kernel_rfl) (fun _ _ _ h => h) (Or.inl ⟨by rfl, ?_⟩) ?_ ?_
    rotate_left
    ·intro w'
     go_simp
     with_reducible rfl
    rotate_left
    ·simp only [Act.put, List.setIfInBounds_toArray, List.set_cons_zero, List.set_cons_succ, zak, zan]
     rfl
    refine zaz (i := 11) (N := some 35) (v := ?_) (a' := ?_) #[true, true, true, true, true, true, true, true, true, true, true, true, false, true, true, true, true, true, false, false, false, false, true, false, false, false, false, true, false] rfl rfl (by kernel_rfl) (fun _ _ _ h => h) (Or.inl ⟨by rfl, ?_⟩) ?_ ?_
    rotate_left
    ·intro w'
     go_simp
     with_reducible rfl
    rotate_left
    ·simp only [Act.put, List.setIfInBounds_toArray, List.set_cons_zero, List.set_cons_succ, zak, zan]
     rfl
    refine zbu (i := 12) (N := some 36) (v := ?_) (a' := ?_) #[true, true, true, true, true, true, true, true, true, true, true, true, true, true, true, true, true, true, false, false, false, false, true, false, false, false, false, true, false] rfl rfl (by kernel_rfl) (fun _ _ _ h => h) (Or.inl ⟨by rfl, ?_⟩) hHeld ?_ ?_
    rotate_left
    ·intro w' s0
     have s1 := zae s0 Y7.out
     clear s0
     go_simp
     with_reducible rfl
    rotate_left
    ·simp only [Act.put, List.setIfInBounds_toArray, List.set_cons_zero, List.set_cons_succ, zak, zan]
     rfl
    refine one_ (i := 18) (N := some 42) #[true, true, true, true, true, true, true, true, true, true, true, true, true, true, true, true, true, true, true, false, false, false, true, false, false, false, false, true, false] rfl rfl (by kernel_rfl) (by decide) (fun K hK => ?_)
    refine goes_ Try.func52 (by kernel_rfl) rfl #[.pointer (some ⟨g, 0, none⟩)] (by rfl) rfl rfl (by (try simp only [List.map_toArray, List.map_cons, List.map_nil]); first | done | rfl) ?_
    refine (impl_floor_high.calls g cs rs _ _ _ HF.out (Below.refl _ _) H1.out).mono ?_
    rintro e x13 ⟨rfl, -, hb, -⟩
    refine ⟨_, rfl, ?_⟩
    refine hK.out _ _ hb (fun hHeld => ?_)
    have n_ := zaa.mk (HF.out.below hb); clear HF; have HF := n_; clear n_
    have n_ := zaa.mk (zaf HB.out hb); clear HB; have HB := n_; clear n_
    have n_ := zaa.mk (Kd.C_below HR0.out hb); clear HR0; have HR0 := n_; clear n_
    have n_ := zaa.mk (Kd.C_below HR2.out hb); clear HR2; have HR2 := n_; clear n_
    have n_ := zaa.mk (zae hb Y0.out); clear Y0; have Y0 := n_; clear n_
    have n_ := zaa.mk (zae hb YH.out); clear YH; have YH := n_; clear n_
    have n_ := zaa.mk (zae hb YG.out); clear YG; have YG := n_; clear n_
    have n_ := zaa.mk (Kd.C_below HR1.out hb); clear HR1; have HR1 := n_; clear n_
    have n_ := zaa.mk (zae hb Y7.out); clear Y7; have Y7 := n_; clear n_
    have n_ := zaa.mk ((hb.block _ (zbr HBk.out)).trans HBk.out); clear HBk; have HBk := n_; clear n_
    clear hK K hb
    refine turnB_ (by kernel_rfl) hHeld ?_
    clear hHeld
    have hHeld := Below.refl x13.heap.size x13
    refine zcr (a' := ?_) ?_ ?_
    rotate_left
    ·show Act.put _ (some 42) _ = _
     simp only [Act.put, List.setIfInBounds_toArray, List.set_cons_zero, List.set_cons_succ, zak, zan]
     rfl
    refine zaz (i := 19) (N := some 43) (v := ?_) (a' := ?_) #[true, true, true, true, true, true, true, true, true, true, true, true, true, true, true, true, true, true, true, true, false, false, true, false, false, false, false, true, false] rfl rfl (by kernel_rfl) (fun _ _ _ h => h) (Or.inl ⟨by rfl, ?_⟩) ?_ ?_
    rotate_left
    ·intro w'
     go_simp
     with_reducible rfl
    rotate_left
    ·simp only [Act.put, List.setIfInBounds_toArray, List.set_cons_zero, List.set_cons_succ, zak, zan]
     rfl
    refine zaz (i := 20) (N := some 44) (v := ?_) (a' := ?_) #[true, true, true, true, true, true, true, true, true, true, true, true, true, true, true, true, true, true, true, true, true, false, true, false, false, false, false, true, false] rfl rfl (by kernel_rfl) (fun _ _ _ h => h) (Or.inl ⟨by rfl, ?_⟩) ?_ ?_
    rotate_left
    ·intro w'
     go_simp
     with_reducible rfl
    rotate_left
    ·simp only [Act.put, List.setIfInBounds_toArray, List.set_cons_zero, List.set_cons_succ, zak, zan]
     rfl
    refine zbu (i := 21) (N := some 45) (v := ?_) (a' := ?_) #[true, true, true, true, true, true, true, true, true, true, true, true, true, true, true, true, true, true, true, true, true, true, true, false, false, false, false, true, false] rfl rfl (by kernel_rfl) (fun _ _ _ h => h) (Or.inl ⟨by rfl, ?_⟩) hHeld ?_ ?_
    rotate_left
    ·intro w' s0
     have s1 := zae s0 YH.out
     clear s0
     go_simp
     with_reducible rfl
    rotate_left
    ·simp only [Act.put, List.setIfInBounds_toArray, List.set_cons_zero, List.set_cons_succ, zak, zan]
     rfl
    refine one_ (i := 23) (N := some 47) #[true, true, true, true, true, true, true, true, true, true, true, true, true, true, true, true, true, true, true, true, true, true, true, true, false, false, false, true, false] rfl rfl (by kernel_rfl) (by decide) (fun K hK => ?_)
    refine goes_ Try.func50 (by kernel_rfl) rfl #[.pointer (some ⟨g, 0, none⟩)] (by rfl) rfl rfl (by (try simp only [List.map_toArray, List.map_cons, List.map_nil]); first | done | rfl) ?_
    refine (zcm g cs rs _ HK.out HF.out).mono ?_
    rintro e x14 ⟨A23, q23, rfl, hl, hC, hb⟩
    obtain ⟨ad23, P23, u23, ea, y23, hu, hr⟩ := C_row hC 0 s3 HX3.out
    subst ea
    rw [Addr.add_zero'] at y23
    have Y23 := zaa.mk y23
    clear hl hC hu y23
    refine ⟨_, rfl, ?_⟩
    refine hK.out _ _ hb (fun hHeld => ?_)
    have n_ := zaa.mk (HF.out.below hb); clear HF; have HF := n_; clear n_
    have n_ := zaa.mk (zaf HB.out hb); clear HB; have HB := n_; clear n_
    have n_ := zaa.mk (Kd.C_below HR0.out hb); clear HR0; have HR0 := n_; clear n_
    have n_ := zaa.mk (Kd.C_below HR2.out hb); clear HR2; have HR2 := n_; clear n_
    have n_ := zaa.mk (zae hb Y0.out); clear Y0; have Y0 := n_; clear n_
    have n_ := zaa.mk (zae hb YH.out); clear YH; have YH := n_; clear n_
    have n_ := zaa.mk (zae hb YG.out); clear YG; have YG := n_; clear n_
    have n_ := zaa.mk (Kd.C_below HR1.out hb); clear HR1; have HR1 := n_; clear n_
    have n_ := zaa.mk (zae hb Y7.out); clear Y7; have Y7 := n_; clear n_
    have n_ := zaa.mk ((hb.block _ (zbr HBk.out)).trans HBk.out); clear HBk; have HBk := n_; clear n_
    clear hK K hb
    refine turnB_ (by kernel_rfl) hHeld ?_
    clear hHeld
    have HR3 := zaa.mk hr
    clear hr
    have hHeld := Below.refl x14.heap.size x14
    refine zcr (a' := ?_) ?_ ?_
    rotate_left
    ·show Act.put _ (some 47) _ = _
     simp only [Act.put, List.setIfInBounds_toArray, List.set_cons_zero, List.set_cons_succ, zak, zan]
     rfl
    refine zaz (i := 24) (N := some 48) (v := ?_) (a' := ?_) #[true, true, true, true, true, true, true, true, true, true, true, true, true, true, true, true, true, true, true, true, true, true, true, true, true, false, false, true, false] rfl rfl (by kernel_rfl) (fun _ _ _ h => h) (Or.inl ⟨by rfl, ?_⟩) ?_ ?_
    rotate_left
    ·intro w'
     go_simp
     with_reducible rfl
    rotate_left
    ·simp only [Act.put, List.setIfInBounds_toArray, List.set_cons_zero, List.set_cons_succ, zak, zan]
     rfl
    refine zbu (i := 25) (N := some 49) (v := ?_) (a' := ?_) #[true, true, true, true, true, true, true, true, true, true, true, true, true, true, true, true, true, true, true, true, true, true, true, true, true, true, false, true, false] rfl rfl (by kernel_rfl) (fun _ _ _ h => h) (Or.inl ⟨by rfl, ?_⟩) hHeld ?_ ?_
    rotate_left
    ·intro w' s0
     have s1 := zae s0 Y23.out
     clear s0
     go_simp
     with_reducible rfl
    rotate_left
    ·simp only [Act.put, List.setIfInBounds_toArray, List.set_cons_zero, List.set_cons_succ, zak, zan]
     rfl
    refine zaz (i := 26) (N := some 50) (v := ?_) (a' := ?_) #[true, true, true, true, true, true, true, true, true, true, true, true, true, true, true, true, true, true, true, true, true, true, true, true, true, true, true, true, false] rfl rfl (by kernel_rfl) (fun _ _ _ h => h) (Or.inl ⟨by rfl, ?_⟩) ?_ ?_
    rotate_left
    ·intro w'
     go_simp
     with_reducible rfl
    rotate_left
    ·simp only [Act.put, List.setIfInBounds_toArray, List.set_cons_zero, List.set_cons_succ, zak, zan]
     rfl
    refine zcr ?_ (HFin.out [?v14_0, ?v14_1, ?v14_2, ?v14_3, ?v14_4, ?v14_5, ?v14_6, ?v14_7, ?v14_8, ?v14_9, ?v14_10, ?v14_11, ?v14_12, ?v14_13] _ ?_)
    ·show _ = putAll _ _
     simp only [putAll, Act.put, List.setIfInBounds_toArray, List.set_cons_zero, List.set_cons_succ, List.getD_cons_zero, List.getD_cons_succ]
     rfl
    ·exact ⟨bk, P0, P7, PH, P23, u0, u7, uH, u23, rfl, rfl, HBk.out, HBs.out, HR0.out, HR1.out, HR2.out, HR3.out, HB.out⟩
  ·refine valO_step (by rfl) (v := .pointer (some ⟨wd.heap.size, 0, none⟩)) (w1 := wd.alloc (.cells #[.slice none 0 0, .slice none 0 0, .slice none 0 0, .slice none 0 0] 61)) (by go_simp) ?_
   have hb := zac (Below.refl wd.heap.size wd) (.cells #[.slice none 0 0, .slice none 0 0, .slice none 0 0, .slice none 0 0] 61)
   have hk := heap_alloc_new wd (.cells #[.slice none 0 0, .slice none 0 0, .slice none 0 0, .slice none 0 0] 61)
   have HBs := zaa.mk (show w8.heap.size ≤ wd.heap.size from HB.out.size)
   generalize wd.alloc (.cells #[.slice none 0 0, .slice none 0 0, .slice none 0 0, .slice none 0 0] 61) = x15 at *
   refine hK.out _ _ hb (fun hHeld => ?_)
   have n_ := zaa.mk (HF.out.below hb); clear HF; have HF := n_; clear n_
   have n_ := zaa.mk (zaf HB.out hb); clear HB; have HB := n_; clear n_
   have n_ := zaa.mk (Kd.C_below HR0.out hb); clear HR0; have HR0 := n_; clear n_
   have n_ := zaa.mk (Kd.C_below HR2.out hb); clear HR2; have HR2 := n_; clear n_
   have n_ := zaa.mk (zae hb Y0.out); clear Y0; have Y0 := n_; clear n_
   have n_ := zaa.mk (zae hb YH.out); clear YH; have YH := n_; clear n_
   have n_ := zaa.mk (zae hb YG.out); clear YG; have YG := n_; clear n_
   have HBk := zaa.mk hk
   clear hk hK K hb
   refine turnB_ (by kernel_rfl) hHeld ?_
   clear hHeld
   generalize wd.heap.size = bk at *
   have hHeld := Below.refl x15.heap.size x15
   refine zcr (a' := ?_) ?_ ?_
   rotate_left
   ·show Act.put _ (some 8) _ = _
    simp only [Act.put, List.setIfInBounds_toArray, List.set_cons_zero, List.set_cons_succ, zak, zan]
    rfl
   refine one_ (i := 7) (N := some 31) #[true, true, true, true, true, true, true, true, true, false, false, false, false, true, true, true, true, true, false, false, false, false, true, false, false, false, false, true, false] rfl rfl (by kernel_rfl) (by decide) (fun K hK => ?_)
   refine goes_ Try.func50 (by kernel_rfl) rfl #[.pointer (some ⟨g, 0, none⟩)] (by rfl) rfl rfl (by (try simp only [List.map_toArray, List.map_cons, List.map_nil]); first | done | rfl) ?_
   refine (zcm g cs rs _ HK.out HF.out).mono ?_
   rintro e x16 ⟨A7, q7, rfl, hl, hC, hb⟩
   obtain ⟨ad7, P7, u7, ea, y7, hu, hr⟩ := C_row hC zw s1 HX1.out
   subst ea
   have Y7 := zaa.mk y7
   clear hl hC hu y7
   refine ⟨_, rfl, ?_⟩
   refine hK.out _ _ hb (fun hHeld => ?_)
   have n_ := zaa.mk (HF.out.below hb); clear HF; have HF := n_; clear n_
   have n_ := zaa.mk (zaf HB.out hb); clear HB; have HB := n_; clear n_
   have n_ := zaa.mk (Kd.C_below HR0.out hb); clear HR0; have HR0 := n_; clear n_
   have n_ := zaa.mk (Kd.C_below HR2.out hb); clear HR2; have HR2 := n_; clear n_
   have n_ := zaa.mk (zae hb Y0.out); clear Y0; have Y0 := n_; clear n_
   have n_ := zaa.mk (zae hb YH.out); clear YH; have YH := n_; clear n_
   have n_ := zaa.mk (zae hb YG.out); clear YG; have YG := n_; clear n_
   have n_ := zaa.mk ((hb.block _ (zbr HBk.out)).trans HBk.out); clear HBk; have HBk := n_; clear n_
   clear hK K hb
   refine turnB_ (by kernel_rfl) hHeld ?_
   clear hHeld
   have HR1 := zaa.mk hr
   clear hr
   have hHeld := Below.refl x16.heap.size x16
   refine zcr (a' := ?_) ?_ ?_
   rotate_left
   ·show Act.put _ (some 31) _ = _
    simp only [Act.put, List.setIfInBounds_toArray, List.set_cons_zero, List.set_cons_succ, zak, zan]
    rfl
   refine one_ (i := 9) (N := some 33) #[true, true, true, true, true, true, true, true, true, true, false, false, false, true, true, true, true, true, false, false, false, false, true, false, false, false, false, true, false] rfl rfl (by kernel_rfl) (by decide) (fun K hK => ?_)
   refine goes_ Try.func51 (by kernel_rfl) rfl #[.pointer (some ⟨g, 0, none⟩)] (by rfl) rfl rfl (by (try simp only [List.map_toArray, List.map_cons, List.map_nil]); first | done | rfl) ?_
   refine (impl_floor_wide.calls g cs rs _ _ _ HF.out (Below.refl _ _) W1.out).mono ?_
   rintro e x17 ⟨rfl, -, hb, -⟩
   refine ⟨_, rfl, ?_⟩
   refine hK.out _ _ hb (fun hHeld => ?_)
   have n_ := zaa.mk (HF.out.below hb); clear HF; have HF := n_; clear n_
   have n_ := zaa.mk (zaf HB.out hb); clear HB; have HB := n_; clear n_
   have n_ := zaa.mk (Kd.C_below HR0.out hb); clear HR0; have HR0 := n_; clear n_
   have n_ := zaa.mk (Kd.C_below HR2.out hb); clear HR2; have HR2 := n_; clear n_
   have n_ := zaa.mk (zae hb Y0.out); clear Y0; have Y0 := n_; clear n_
   have n_ := zaa.mk (zae hb YH.out); clear YH; have YH := n_; clear n_
   have n_ := zaa.mk (zae hb YG.out); clear YG; have YG := n_; clear n_
   have n_ := zaa.mk ((hb.block _ (zbr HBk.out)).trans HBk.out); clear HBk; have HBk := n_; clear n_
   have n_ := zaa.mk (Kd.C_below HR1.out hb); clear HR1; have HR1 := n_; clear n_
   have n_ := zaa.mk (zae hb Y7.out); clear Y7; have Y7 := n_; clear n_
   clear hK K hb
   refine turnB_ (by kernel_rfl) hHeld ?_
   clear hHeld
   have hHeld := Below.refl x17.heap.size x17
   refine zcr (a' := ?_) ?_ ?_
   rotate_left
   ·show Act.put _ (some 33) _ = _
    simp only [Act.put, List.setIfInBounds_toArray, List.set_cons_zero, List.set_cons_succ, zak, zan]
    rfl
   refine zaz (i := 10) (N := some 34) (v := ?_) (a' := ?_) #[true, true, true, true, true, true, true, true, true, true, true, false, false, true, true, true, true, true, false, false, false, false, true, false, false, false, false, true, false] rfl rfl (by kernel_rfl) (fun _ _ _ h => h) (Or.inl ⟨by rfl, ?_⟩) ?_ ?_
   rotate_left
   ·intro w'
    go_simp
    with_reducible rfl
   rotate_left
   ·simp only [Act.put, List.setIfInBounds_toArray, List.set_cons_zero, List.set_cons_succ, zak, zan]
    rfl
   refine zaz (i := 11) (N := some 35) (v := ?_) (a' := ?_) #[true, true, true, true, true, true, true, true, true, true, true, true, false, true, true, true, true, true, false, false, false, false, true, false, false, false, false, true, false] rfl rfl (by kernel_rfl) (fun _ _ _ h => h) (Or.inl ⟨by rfl, ?_⟩) ?_ ?_
   rotate_left
   ·intro w'
    go_simp
    with_reducible rfl
   rotate_left
   ·simp only [Act.put, List.setIfInBounds_toArray, List.set_cons_zero, List.set_cons_succ, zak, zan]
    rfl
   refine zbu (i := 12) (N := some 36) (v := ?_) (a' := ?_) #[true, true, true, true, true, true, true, true, true, true, true, true, true, true, true, true, true, true, false, false, false, false, true, false, false, false, false, true, false] rfl rfl (by kernel_rfl) (fun _ _ _ h => h) (Or.inl ⟨by rfl, ?_⟩) hHeld ?_ ?_
   rotate_left
   ·intro w' s0
    have s1 := zae s0 Y7.out
    clear s0
    go_simp
    with_reducible rfl
   rotate_left
   ·simp only [Act.put, List.setIfInBounds_toArray, List.set_cons_zero, List.set_cons_succ, zak, zan]
    rfl
   refine one_ (i := 18) (N := some 42) #[true, true, true, true, true, true, true, true, true, true, true, true, true, true, true, true, true, true, true, false, false, false, true, false, false, false, false, true, false] rfl rfl (by kernel_rfl) (by decide) (fun K hK => ?_)
   refine goes_ Try.func52 (by kernel_rfl) rfl #[.pointer (some ⟨g, 0, none⟩)] (by rfl) rfl rfl (by (try simp only [List.map_toArray, List.map_cons, List.map_nil]); first | done | rfl) ?_
   refine (impl_floor_high.calls g cs rs _ _ _ HF.out (Below.refl _ _) H1.out).mono ?_
   rintro e x18 ⟨rfl, -, hb, -⟩
   refine ⟨_, rfl, ?_⟩
   refine hK.out _ _ hb (fun hHeld => ?_)
   have n_ := zaa.mk (HF.out.below hb); clear HF; have HF := n_; clear n_
   have n_ := zaa.mk (zaf HB.out hb); clear HB; have HB := n_; clear n_
   have n_ := zaa.mk (Kd.C_below HR0.out hb); clear HR0; have HR0 := n_; clear n_
   have n_ := zaa.mk (Kd.C_below HR2.out hb); clear HR2; have HR2 := n_; clear n_
   have n_ := zaa.mk (zae hb Y0.out); clear Y0; have Y0 := n_; clear n_
   have n_ := zaa.mk (zae hb YH.out); clear YH; have YH := n_; clear n_
   have n_ := zaa.mk (zae hb YG.out); clear YG; have YG := n_; clear n_
   have n_ := zaa.mk ((hb.block _ (zbr HBk.out)).trans HBk.out); clear HBk; have HBk := n_; clear n_
   have n_ := zaa.mk (Kd.C_below HR1.out hb); clear HR1; have HR1 := n_; clear n_
   have n_ := zaa.mk (zae hb Y7.out); clear Y7; have Y7 := n_; clear n_
   clear hK K hb
   refine turnB_ (by kernel_rfl) hHeld ?_
   clear hHeld
   have hHeld := Below.refl x18.heap.size x18
   refine zcr (a' := ?_) ?_ ?_
   rotate_left
   ·show Act.put _ (some 42) _ = _
    simp only [Act.put, List.setIfInBounds_toArray, List.set_cons_zero, List.set_cons_succ, zak, zan]
    rfl
   refine zaz (i := 19) (N := some 43) (v := ?_) (a' := ?_) #[true, true, true, true, true, true, true, true, true, true, true, true, true, true, true, true, true, true, true, true, false, false, true, false, false, false, false, true, false] rfl rfl (by kernel_rfl) (fun _ _ _ h => h) (Or.inl ⟨by rfl, ?_⟩) ?_ ?_
   rotate_left
   ·intro w'
    go_simp
    with_reducible rfl
   rotate_left
   ·simp only [Act.put, List.setIfInBounds_toArray, List.set_cons_zero, List.set_cons_succ, zak, zan]
    rfl
   refine zaz (i := 20) (N := some 44) (v := ?_) (a' := ?_) #[true, true, true, true, true, true, true, true, true, true, true, true, true, true, true, true, true, true, true, true, true, false, true, false, false, false, false, true, false] rfl rfl (by kernel_rfl) (fun _ _ _ h => h) (Or.inl ⟨by rfl, ?_⟩) ?_ ?_
   rotate_left
   ·intro w'
    go_simp
    with_reducible rfl
   rotate_left
   ·simp only [Act.put, List.setIfInBounds_toArray, List.set_cons_zero, List.set_cons_succ, zak, zan]
    rfl
   refine zbu (i := 21) (N := some 45) (v := ?_) (a' := ?_) #[true, true, true, true, true, true, true, true, true, true, true, true, true, true, true, true, true, true, true, true, true, true, true, false, false, false, false, true, false] rfl rfl (by kernel_rfl) (fun _ _ _ h => h) (Or.inl ⟨by rfl, ?_⟩) hHeld ?_ ?_
   rotate_left
   ·intro w' s0
    have s1 := zae s0 YH.out
    clear s0
    go_simp
    with_reducible rfl
   rotate_left
   ·simp only [Act.put, List.setIfInBounds_toArray, List.set_cons_zero, List.set_cons_succ, zak, zan]
    rfl
   refine one_ (i := 23) (N := some 47) #[true, true, true, true, true, true, true, true, true, true, true, true, true, true, true, true, true, true, true, true, true, true, true, true, false, false, false, true, false] rfl rfl (by kernel_rfl) (by decide) (fun K hK => ?_)
   refine goes_ Try.func50 (by kernel_rfl) rfl #[.pointer (some ⟨g, 0, none⟩)] (by rfl) rfl rfl (by (try simp only [List.map_toArray, List.map_cons, List.map_nil]); first | done | rfl) ?_
   refine (zcm g cs rs _ HK.out HF.out).mono ?_
   rintro e x19 ⟨A23, q23, rfl, hl, hC, hb⟩
   obtain ⟨ad23, P23, u23, ea, y23, hu, hr⟩ := C_row hC 0 s3 HX3.out
   subst ea
   rw [Addr.add_zero'] at y23
   have Y23 := zaa.mk y23
   clear hl hC hu y23
   refine ⟨_, rfl, ?_⟩
   refine hK.out _ _ hb (fun hHeld => ?_)
   have n_ := zaa.mk (HF.out.below hb); clear HF; have HF := n_; clear n_
   have n_ := zaa.mk (zaf HB.out hb); clear HB; have HB := n_; clear n_
   have n_ := zaa.mk (Kd.C_below HR0.out hb); clear HR0; have HR0 := n_; clear n_
   have n_ := zaa.mk (Kd.C_below HR2.out hb); clear HR2; have HR2 := n_; clear n_
   have n_ := zaa.mk (zae hb Y0.out); clear Y0; have Y0 := n_; clear n_
   have n_ := zaa.mk (zae hb YH.out); clear YH; have YH := n_; clear n_
   have n_ := zaa.mk (zae hb YG.out); clear YG; have YG := n_; clear n_
   have n_ := zaa.mk ((hb.block _ (zbr HBk.out)).trans HBk.out); clear HBk; have HBk := n_; clear n_
   have n_ := zaa.mk (Kd.C_below HR1.out hb); clear HR1; have HR1 := n_; clear n_
   have n_ := zaa.mk (zae hb Y7.out); clear Y7; have Y7 := n_; clear n_
   clear hK K hb
   refine turnB_ (by kernel_rfl) hHeld ?_
   clear hHeld
   have HR3 := zaa.mk hr
   clear hr
   have hHeld := Below.refl x19.heap.size x19
   refine zcr (a' := ?_) ?_ ?_
   rotate_left
   ·show Act.put _ (some 47) _ = _
    simp only [Act.put, List.setIfInBounds_toArray, List.set_cons_zero, List.set_cons_succ, zak, zan]
    rfl
   refine zaz (i := 24) (N := some 48) (v := ?_) (a' := ?_) #[true, true, true, true, true, true, true, true, true, true, true, true, true, true, true, true, true, true, true, true, true, true, true, true, true, false, false, true, false] rfl rfl (by kernel_rfl) (fun _ _ _ h => h) (Or.inl ⟨by rfl, ?_⟩) ?_ ?_
   rotate_left
   ·intro w'
    go_simp
    with_reducible rfl
   rotate_left
   ·simp only [Act.put, List.setIfInBounds_toArray, List.set_cons_zero, List.set_cons_succ, zak, zan]
    rfl
   refine zbu (i := 25) (N := some 49) (v := ?_) (a' := ?_) #[true, true, true, true, true, true, true, true, true, true, true, true, true, true, true, true, true, true, true, true, true, true, true, true, true, true, false, true, false] rfl rfl (by kernel_rfl) (fun _ _ _ h => h) (Or.inl ⟨by rfl, ?_⟩) hHeld ?_ ?_
   rotate_left
   ·intro w' s0
    have s1 := zae s0 Y23.out
    clear s0
    go_simp
    with_reducible rfl
   rotate_left
   ·simp only [Act.put, List.setIfInBounds_toArray, List.set_cons_zero, List.set_cons_succ, zak, zan]
    rfl
   refine zaz (i := 26) (N := some 50) (v := ?_) (a' := ?_) #[true, true, true, true, true, true, true, true, true, true, true, true, true, true, true, true, true, true, true, true, true, true, true, true, true, true, true, true, false] rfl rfl (by kernel_rfl) (fun _ _ _ h => h) (Or.inl ⟨by rfl, ?_⟩) ?_ ?_
   rotate_left
   ·intro w'
    go_simp
    with_reducible rfl
   rotate_left
   ·simp only [Act.put, List.setIfInBounds_toArray, List.set_cons_zero, List.set_cons_succ, zak, zan]
    rfl
   refine zcr ?_ (HFin.out [?v19_0, ?v19_1, ?v19_2, ?v19_3, ?v19_4, ?v19_5, ?v19_6, ?v19_7, ?v19_8, ?v19_9, ?v19_10, ?v19_11, ?v19_12, ?v19_13] _ ?_)
   ·show _ = putAll _ _
    simp only [putAll, Act.put, List.setIfInBounds_toArray, List.set_cons_zero, List.set_cons_succ, List.getD_cons_zero, List.getD_cons_succ]
    rfl
   ·exact ⟨bk, P0, P7, PH, P23, u0, u7, uH, u23, rfl, rfl, HBk.out, HBs.out, HR0.out, HR1.out, HR2.out, HR3.out, HB.out⟩
 case cont =>
  clear HF HB HR0 HR2 Y0 YH YG hHeld
  intro s w' hF
  obtain ⟨b, B0, B1, B2, B3, d0, d1, d2, d3, e8, e50, hblk, hle, r0, r1, r2, r3, hB⟩ := hF
  refine zcr (a' := ?_) ?_ ?_
  rotate_left
  ·simp only [putAll, Act.put, List.setIfInBounds_toArray, List.set_cons_zero, List.set_cons_succ]
   rfl
  rw [e8, e50]
  generalize s.getD 0 undef = j0
  generalize s.getD 1 undef = j1
  generalize s.getD 2 undef = j2
  generalize s.getD 3 undef = j3
  generalize s.getD 4 undef = j4
  generalize s.getD 5 undef = j5
  generalize s.getD 6 undef = j6
  generalize s.getD 7 undef = j7
  generalize s.getD 8 undef = j8
  generalize s.getD 9 undef = j9
  generalize s.getD 10 undef = j10
  generalize s.getD 11 undef = j11
  clear e8 e50 s
  have HR0 := zaa.mk r0
  have HR1 := zaa.mk r1
  have HR2 := zaa.mk r2
  have HR3 := zaa.mk r3
  have HB := zaa.mk hB
  have HBk := zaa.mk hblk
  have HLe := zaa.mk hle
  clear hle
  clear r0 r1 r2 r3 hB
  have q0 := (zaj hblk 0).trans rfl
  have q1 := (zaj hblk 1).trans rfl
  have q2 := (zaj hblk 2).trans rfl
  have q3 := (zaj hblk 3).trans rfl
  have g0 := zaq hblk 0
  have g1 := zaq hblk 1
  have g2 := zaq hblk 2
  have g3 := zaq hblk 3
  clear hblk
  refine last_ (i := 28) (N := none) #[true, true, true, true, true, true, true, true, true, true, true, true, true, true, true, true, true, true, true, true, true, true, true, true, true, true, true, true, true] rfl rfl (by kernel_rfl) (by decide) (fun K hK => ?_)
  rw [if_pos (by rfl)]
  go_simp
  have hle' : w.heap.size ≤ b := Nat.le_trans HB8.out.size HLe.out
  have hBw : Below w.heap.size w ((((w'.setCell ⟨b, 0, none⟩ (.slice B0 s0.length d0)).setCell ⟨b, 1, none⟩ (.slice B1 s1.length d1)).setCell ⟨b, 2, none⟩ (.slice B2 s2.length d2)).setCell ⟨b, 3, none⟩ (.slice B3 s3.length d3)) := zat (zat (zat (zat (zaf HB8.out HB.out) hle') hle') hle') hle'
  have hkp : zbe w' ((((w'.setCell ⟨b, 0, none⟩ (.slice B0 s0.length d0)).setCell ⟨b, 1, none⟩ (.slice B1 s1.length d1)).setCell ⟨b, 2, none⟩ (.slice B2 s2.length d2)).setCell ⟨b, 3, none⟩ (.slice B3 s3.length d3)) b none := ((((zbe.refl w' b none).set_ 0 _).set_ 1 _).set_ 2 _).set_ 3 _
  have hbl := set_four HBk.out (.slice B0 s0.length d0) (.slice B1 s1.length d1) (.slice B2 s2.length d2) (.slice B3 s3.length d3)
  generalize (((w'.setCell ⟨b, 0, none⟩ (.slice B0 s0.length d0)).setCell ⟨b, 1, none⟩ (.slice B1 s1.length d1)).setCell ⟨b, 2, none⟩ (.slice B2 s2.length d2)).setCell ⟨b, 3, none⟩ (.slice B3 s3.length d3) = wz at *
  have HW := zaa.mk hBw
  have R0 := zaa.mk (C_keep_ne HBk.out HR0.out hkp)
  have R1 := zaa.mk (C_keep_ne HBk.out HR1.out hkp)
  have R2 := zaa.mk (C_keep_ne HBk.out HR2.out hkp)
  have R3 := zaa.mk (C_keep_ne HBk.out HR3.out hkp)
  have c0' := (zaj hbl 0).trans rfl
  have c1' := (zaj hbl 1).trans rfl
  have c2' := (zaj hbl 2).trans rfl
  have c3' := (zaj hbl 3).trans rfl
  clear q0 q1 q2 q3 g0 g1 g2 g3 hbl hkp hBw hle' HR0 HR1 HR2 HR3 HBk HB
  refine hK.out _ _ ?_
  clear hK K
  refine done_ (by kernel_rfl) ?_
  have HL := zaa.mk (show s0.length ≤ 6 ∧ s1.length ≤ 6 ∧ s2.length ≤ 6 ∧ s3.length ≤ 6 by rw [E0.out, E1.out, E2.out, E3.out]; simp [sideL]; omega)
  have hsd : sd = 0 ∨ sd = 1 ∨ sd = 2 ∨ sd = 3 := by omega
  have HZ' := zaa.mk (show 0 < s0.length ∧ 0 < s1.length ∧ 0 < s2.length ∧ 0 < s3.length by rw [E0.out, E1.out, E2.out, E3.out]; exact HZ.out)
  rcases hsd with rfl | rfl | rfl | rfl
  ·go_wp2_with (first
    | (go_at_call 54; (with_reducible refine (clone_calls B0 d0 s0 _ R0.out HZ'.out.1 (by have := HL.out; omega)).mono ?_); rintro e w20 ⟨v20, rfl, hr20, hb20⟩; have HB20 := zaa.mk (zaf HW.out hb20); have HR20 := zaa.mk (Kd.R_lower hr20 HW.out.size); clear hr20 hb20)
    | (go_at_call 53; (with_reducible refine (compact_calls s0 v20 _ w.heap.size _ HR20.out).mono ?_); rintro e w21 ⟨v21, rfl, hr21, hg21, he21⟩; have HB21 := zaa.mk (HB20.out.grown hg21 HB20.out.size (own_base (Kd.own_of_R HR20.out))); have HR21 := zaa.mk hr21; clear hr21 hg21 he21))
   go_ret2
   refine ⟨_, rfl, ?_, HB21.out⟩
   rw [← E0.out, ← compact_fold]
   exact HR21.out
  ·go_wp2_with (first
    | (go_at_call 54; (with_reducible refine (clone_calls B1 d1 s1 _ R1.out HZ'.out.2.1 (by have := HL.out; omega)).mono ?_); rintro e w20 ⟨v20, rfl, hr20, hb20⟩; have HB20 := zaa.mk (zaf HW.out hb20); have HR20 := zaa.mk (Kd.R_lower hr20 HW.out.size); clear hr20 hb20)
    | (go_at_call 53; (with_reducible refine (compact_calls s1 v20 _ w.heap.size _ HR20.out).mono ?_); rintro e w21 ⟨v21, rfl, hr21, hg21, he21⟩; have HB21 := zaa.mk (HB20.out.grown hg21 HB20.out.size (own_base (Kd.own_of_R HR20.out))); have HR21 := zaa.mk hr21; clear hr21 hg21 he21))
   go_ret2
   refine ⟨_, rfl, ?_, HB21.out⟩
   rw [← E1.out, ← compact_fold]
   exact HR21.out
  ·go_wp2_with (first
    | (go_at_call 54; (with_reducible refine (clone_calls B2 d2 s2 _ R2.out HZ'.out.2.2.1 (by have := HL.out; omega)).mono ?_); rintro e w20 ⟨v20, rfl, hr20, hb20⟩; have HB20 := zaa.mk (zaf HW.out hb20); have HR20 := zaa.mk (Kd.R_lower hr20 HW.out.size); clear hr20 hb20)
    | (go_at_call 53; (with_reducible refine (compact_calls s2 v20 _ w.heap.size _ HR20.out).mono ?_); rintro e w21 ⟨v21, rfl, hr21, hg21, he21⟩; have HB21 := zaa.mk (HB20.out.grown hg21 HB20.out.size (own_base (Kd.own_of_R HR20.out))); have HR21 := zaa.mk hr21; clear hr21 hg21 he21))
   go_ret2
   refine ⟨_, rfl, ?_, HB21.out⟩
   rw [← E2.out, ← compact_fold]
   exact HR21.out
  ·go_wp2_with (first
    | (go_at_call 54; (with_reducible refine (clone_calls B3 d3 s3 _ R3.out HZ'.out.2.2.2 (by have := HL.out; omega)).mono ?_); rintro e w20 ⟨v20, rfl, hr20, hb20⟩; have HB20 := zaa.mk (zaf HW.out hb20); have HR20 := zaa.mk (Kd.R_lower hr20 HW.out.size); clear hr20 hb20)
    | (go_at_call 53; (with_reducible refine (compact_calls s3 v20 _ w.heap.size _ HR20.out).mono ?_); rintro e w21 ⟨v21, rfl, hr21, hg21, he21⟩; have HB21 := zaa.mk (HB20.out.grown hg21 HB20.out.size (own_base (Kd.own_of_R HR20.out))); have HR21 := zaa.mk hr21; clear hr21 hg21 he21))
   go_ret2
   refine ⟨_, rfl, ?_, HB21.out⟩
   rw [← E3.out, ← compact_fold]
   exact HR21.out
end Go.Proofs.Ytickdcegnlldjaa.Hd
namespace Go.Proofs.Ytickdcegnlldjaa.Hd
open Go.RowKit Go.PW.PrintWords Go.PW.PrintLast Go.PW.PrintMore Go.Proofs.Ytickdcegnlldjaa.PB
set_option maxHeartbeats 4000000 in
set_option maxRecDepth 100000 in
theorem NearOut_calls (A0 : Option Addr) (c0 : Nat) (l0 : List ByteArray) (sd : Int) (w : World) (hr0 : Kd.C Kd.string w A0 l0.length l0) (hc0 : l0.length ≤ c0) (hp : zcp l0) :
  Calls Try.prog 15 #[.slice A0 l0.length c0, .int .i64 sd] w fun e w' => ∃ v0_ : Value, e = .returned (.tuple #[v0_, .bool (zbc l0 sd).2]) ∧ Kd.R (Kd.int .i64) 3 w' w.heap.size (fun _ => True) v0_ (zbc l0 sd).1 ∧ Below w.heap.size w w' := by
 rcases hF : zby l0 with _ | ⟨cs, rs⟩
 ·have e : zbc l0 sd = ([], false) := by unfold zbc; rw [hF]
  rw [e]
  have HR := zaa.mk hr0
  have HC := zaa.mk hc0
  have HP := zaa.mk hp
  have HF := zaa.mk hF
  clear hr0 hc0 hp hF e
  go_enter Try.func15, Try.ntmps15
  go_wp2_with (first
   | (go_at_call 49; refine (floorOf_calls A0 c0 l0 _ HR.out HC.out HP.out).mono ?_; rw [HF.out]; rintro e w8 ⟨hb8, v8, b8, rfl, rfl⟩; have HB8 := zaa.mk hb8; clear hb8))
  go_ret2
  exact ⟨_, rfl, Kd.R_nil _ _ _ _ _, HB8.out⟩
 ·by_cases h03 : 0 ≤ sd ∧ sd ≤ 3
  ·have e : zbc l0 sd = (foldP (sideL cs sd), true) := by unfold zbc; rw [hF]; exact if_pos h03
   rw [e]
   exact implOut_in A0 c0 l0 sd w hr0 hc0 hp cs rs hF h03.1 h03.2
  ·have e : zbc l0 sd = ([], false) := by unfold zbc; rw [hF]; exact if_neg h03
   rw [e]
   have HR := zaa.mk hr0
   have HC := zaa.mk hc0
   have HP := zaa.mk hp
   have HF := zaa.mk hF
   clear hr0 hc0 hp hF e
   by_cases hn : sd < 0
   ·clear h03
    go_enter Try.func15, Try.ntmps15
    go_wp2_with (first
     | (go_at_call 49; refine (floorOf_calls A0 c0 l0 _ HR.out HC.out HP.out).mono ?_; rw [HF.out]; rintro e w8 ⟨hb8, v8, b8, rfl, rfl, g, rfl, hfl⟩; have HB8 := zaa.mk hb8; clear hb8 hfl))
    go_ret2
    exact ⟨_, rfl, Kd.R_nil _ _ _ _ _, HB8.out⟩
   ·have hg : 3 < sd := by omega
    clear h03
    have hd : decide (sd < 0) = false := decide_eq_false hn
    go_enter Try.func15, Try.ntmps15
    go_wp2_with (first
     | (go_at_call 49; refine (floorOf_calls A0 c0 l0 _ HR.out HC.out HP.out).mono ?_; rw [HF.out]; rintro e w8 ⟨hb8, v8, b8, rfl, rfl, g, rfl, hfl⟩; have HB8 := zaa.mk hb8; clear hb8 hfl))
    go_ret2
    exact ⟨_, rfl, Kd.R_nil _ _ _ _ _, HB8.out⟩
def impl_NearOut.f (l0 : List ByteArray) (a1 : Int) : Option (List Int × Bool) := if smallB l0 = true then some (zbc l0 a1) else none
theorem impl_NearOut.calls (A0 : Option Addr) (c0 : Nat) (l0 : List ByteArray) (a1 : Int) (r1 : List Int) (r2 : Bool) (w : World) (hr0 : Kd.C Kd.string w A0 l0.length l0) (hc0 : l0.length ≤ c0) (h : impl_NearOut.f l0 a1 = some (r1, r2)) :
  Calls Try.prog 15 #[.slice A0 l0.length c0, .int .i64 a1] w fun e w' => ∃ v0_ : Value, e = .returned (.tuple #[v0_, .bool r2]) ∧ Kd.R (Kd.int .i64) 3 w' w.heap.size (fun _ => True) v0_ r1 ∧ Below w.heap.size w w' := by
 unfold impl_NearOut.f at h
 split at h
 ·rename_i hs
  have e := Option.some.inj h
  have := NearOut_calls A0 c0 l0 a1 w hr0 hc0 ((smallB_iff _).1 hs)
  rw [e] at this
  exact this
 ·cases h
theorem sideL_length {cs : List (List Int)} {rs : List Rc} (h : FloorOk cs rs) (sd : Int) : 1 ≤ (sideL cs sd).length ∧ (sideL cs sd).length ≤ 6 := by
 have h1 := h.h1
 have h6 := h.h6
 have w1 := h.w1
 have w6 := h.w6
 unfold sideL
 split
 ·simp; omega
 ·split
  ·simp; omega
  ·split <;> simp <;> omega
theorem nearOutF_len (l0 : List ByteArray) (sd : Int) : (zbc l0 sd).1.length ≤ 6 := by
 unfold zbc
 rcases hF : zby l0 with _ | ⟨cs, rs⟩
 ·simp
 ·dsimp only
  split
  ·have := foldP_length (sideL cs sd)
   have := (sideL_length (floorF_ok hF) sd).2
   dsimp only
   omega
  ·simp
theorem NearOut_ev (l0 : List ByteArray) (a1 : Int) (hp : zcp l0) : Evs (fun _ => spec_NearOut.f l0 a1) (zbc l0 a1) := by
 refine Evs.congr (h := fun _ => some (zbc l0 a1)) (fun q => ?_) (Evs.const _)
 unfold spec_NearOut.f
 rw [if_pos ((smallB_iff _).2 hp)]
end Go.Proofs.Ytickdcegnlldjaa.Hd
namespace Go.Proofs.Ytickdcegnlldjaa.LO
open Go.Proofs.Ytickdcegnlldjaa.PB Go.Proofs.Ytickdcegnlldjaa.Hd
open Go.RowKit Go.PW.PrintWords Go.PW.PrintLast Go.PW.PrintMore
attribute [local go_sem] zcg zce zco zcn zbo zbn zcf zcd   -- for this text's walks alone
def errW : Option Int → Value
 | none => .nilIface
 | some c => .iface 0 (.int .i64 c)
theorem zam : errW none = .nilIface := rfl
theorem zal (c : Int) : errW (some c) = .iface 0 (.int .i64 c) := rfl
theorem info3 : (Try.prog.info? 3).map (fun i => (i.zero, i.size, i.bytes)) = some (some (.int .i64 0), 1, 8) := by kernel_rfl
theorem info5 : (Try.prog.info? 5).map (fun i => (i.zero, i.size, i.bytes)) = some (some (.int .u8 0), 1, 1) := by kernel_rfl
theorem info9 : (Try.prog.info? 9).map (fun i => (i.zero, i.size, i.bytes)) = some (some (.string ⟨#[]⟩), 1, 16) := by kernel_rfl
def rd_L3 (xs : List (List Int)) (i : Int) : (List Int) := xs.getD i.toNat ([] : List Int)
theorem at_L3 {w : World} {A : Option Addr} {n : Nat} {xs : List (List Int)} (h : Kd.C (Kd.slice 3 (Kd.int .i64)) w A n xs) (i : Int) (h0 : 0 ≤ i) (h1 : i < n) : ∃ ad A0 c0, A = some ad ∧ w.cell? (ad.add i.toNat) = some (.slice A0 (rd_L3 xs i).length c0) ∧ (rd_L3 xs i).length ≤ c0 ∧ (Kd.int .i64).C w A0 (rd_L3 xs i).length (rd_L3 xs i) := by
 obtain ⟨ad, c, e, _, hK, hc0⟩ := Kd.C_get h ([] : List Int) i h0 h1
 have hc : ∀ j u, c[j]? = some u → w.cell? (ad.add (i.toNat * 1 + j)) = some u := hc0
 obtain ⟨A0, c0, rfl, l0, g0⟩ := hK
 exact ⟨ad, A0, c0, e, by have hq := hc 0 _ rfl; rwa [Nat.mul_one, Nat.add_zero] at hq, l0, g0⟩
structure S120 where
 f0 : Int
 f1 : Int
 f2 : Int
 f3 : Int
def z120 : S120 := ⟨(0 : Int), (0 : Int), (0 : Int), (0 : Int)⟩
def k120 : Kd S120 := Kd.iso (Kd.pair (Kd.int .i64) (Kd.pair (Kd.int .i64) (Kd.pair (Kd.int .i64) (Kd.int .i64)))) (fun x : S120 => (x.f0, x.f1, x.f2, x.f3))
theorem k120_open {w : World} {x : S120} {cs : List Value} (h : k120.K w x cs) : cs = [.int .i64 x.f0, .int .i64 x.f1, .int .i64 x.f2, .int .i64 x.f3] := by
 obtain ⟨_, _, rfl, rfl, ⟨_, _, rfl, rfl, ⟨_, _, rfl, rfl, rfl⟩⟩⟩ := h
 exact rfl
theorem k120_mkM (w : World) (base : Nat) (ok : Nat → Prop) (x : S120)  : k120.M w base ok x [.int .i64 x.f0, .int .i64 x.f1, .int .i64 x.f2, .int .i64 x.f3] := ⟨[.int .i64 x.f0], [.int .i64 x.f1, .int .i64 x.f2, .int .i64 x.f3], rfl, rfl, ⟨[.int .i64 x.f1], [.int .i64 x.f2, .int .i64 x.f3], rfl, rfl, ⟨[.int .i64 x.f2], [.int .i64 x.f3], rfl, rfl, rfl⟩⟩⟩
def rd_T120 (xs : List S120) (i : Int) : S120 := xs.getD i.toNat z120
theorem at_T120 {w : World} {A : Option Addr} {n : Nat} {xs : List S120} (h : Kd.C k120 w A n xs) (i : Int) (h0 : 0 ≤ i) (h1 : i < n) : ∃ ad , A = some ad ∧ w.cell? (ad.add (i.toNat * 4)) = some (.int .i64 (rd_T120 xs i).f0) ∧ w.cell? ⟨(ad.add (i.toNat * 4)).block, (ad.add (i.toNat * 4)).off + 1, none⟩ = some (.int .i64 (rd_T120 xs i).f1) ∧ w.cell? ⟨(ad.add (i.toNat * 4)).block, (ad.add (i.toNat * 4)).off + 2, none⟩ = some (.int .i64 (rd_T120 xs i).f2) ∧ w.cell? ⟨(ad.add (i.toNat * 4)).block, (ad.add (i.toNat * 4)).off + 3, none⟩ = some (.int .i64 (rd_T120 xs i).f3) := by
 obtain ⟨ad, c, e, _, hK, hc0⟩ := Kd.C_get h z120 i h0 h1
 have hc : ∀ j u, c[j]? = some u → w.cell? (ad.add (i.toNat * 4 + j)) = some u := hc0
 obtain rfl := k120_open hK
 exact ⟨ad, e, hc 0 _ rfl, by rw [← add_field _ _ 1 (by omega)]; exact hc 1 _ rfl, by rw [← add_field _ _ 2 (by omega)]; exact hc 2 _ rfl, by rw [← add_field _ _ 3 (by omega)]; exact hc 3 _ rfl⟩
end Go.Proofs.Ytickdcegnlldjaa.LO
