/- Part 4 of the proof of FnExactPlanUnder: what the program's functions and the reference's compute. -/
import Derived.Test.YtjaolkfjpnpglaaProg
import Derived.Below
import Derived.Deep.Draws
import Derived.Deep.AppendLies
import Derived.Maps.AppendAt
import Derived.OwnWalk
import Derived.Laws.BytesArg
import Derived.Laws.MakeOwn
import Derived.Laws.OwnMore
import Derived.Deep.OwnRows
import Derived.Tactics
import Derived.Lib.ConvBytes
import Derived.Laws.Slices
import Derived.WalkKit
import Derived.KernelRfl
import Derived.RowKit3
import Derived.Deep.LoopGhost
import Derived.Deep.QuietTactic
import Derived.BigQuiet
import Derived.WideLaws
import Derived.Deep.DeepCutAuto
import Derived.Deep.CutBlock
import Derived.Deep.RegionHeld3
import Derived.Laws.Rows
import Derived.Lib.AppendStr
import Derived.ArgAppend
import Derived.Laws.IdiomCopy
import Derived.OrdersHeld
import Derived.Laws.BitsLemmas
import Derived.RowKit
import Derived.Test.YtjaolkfjpnpglaaWWords
import Derived.Test.YtjaolkfjpnpglaaWLast
import Derived.Test.YtjaolkfjpnpglaaWTab
import Derived.Test.YtjaolkfjpnpglaaWQPut
import Derived.Test.YtjaolkfjpnpglaaWApart
import Derived.Test.YtjaolkfjpnpglaaWArr
import Derived.Test.YtjaolkfjpnpglaaWZeros
import Derived.Test.YtjaolkfjpnpglaaWFoot
import Derived.Test.YtjaolkfjpnpglaaWKept
import Derived.Test.YtjaolkfjpnpglaaWShare
import Derived.Test.YtjaolkfjpnpglaaWN
import Derived.Test.YtjaolkfjpnpglaaWRepsOne
import Derived.Test.YtjaolkfjpnpglaaWGuard
import Derived.Test.YtjaolkfjpnpglaaWNEv
import Derived.Test.YtjaolkfjpnpglaaWMore
import Derived.Test.YtjaolkfjpnpglaaCLUc
/- Plain laws, no program: the reference's PlanIn says of a list just what impl.floorOf says. -/
namespace Go.Proofs.Ytjaolkfjpnpglaa.Hd
open Go.RowKit Go.Proofs.YtjaolkfjpnpglaaW.PrintWords Go.Proofs.YtjaolkfjpnpglaaW.PrintLast Go.Proofs.YtjaolkfjpnpglaaW.PrintMore Go.Proofs.Ytjaolkfjpnpglaa.PB
set_option linter.unusedVariables false
set_option linter.unusedSimpArgs false
/-! ### sums -/
def sumI (f : Nat → Int) : Nat → Int
  | 0 => 0
  | n + 1 => sumI f n + f n
theorem sumI_add (f g : Nat → Int) : ∀ n, sumI (fun x => f x + g x) n = sumI f n + sumI g n
  | 0 => rfl
  | n + 1 => by simp only [sumI, sumI_add f g n]; omega
theorem sumI_congr {f g : Nat → Int} : ∀ n, (∀ x, x < n → f x = g x) → sumI f n = sumI g n
  | 0, _ => rfl
  | n + 1, h => by simp only [sumI]; rw [sumI_congr n (fun x hx => h x (by omega)), h n (by omega)]
theorem sumI_le {f g : Nat → Int} : ∀ n, (∀ x, x < n → f x ≤ g x) → sumI f n ≤ sumI g n
  | 0, _ => Int.le_refl _
  | n + 1, h => by
    have := sumI_le n (fun x hx => h x (by omega))
    have := h n (by omega)
    simp only [sumI]
    omega
theorem sumI_eq {f g : Nat → Int} : ∀ n, (∀ x, x < n → f x ≤ g x) → sumI f n = sumI g n → ∀ x, x < n → f x = g x
  | 0, _, _, x, hx => by omega
  | n + 1, h, he, x, hx => by
    have h1 := sumI_le n (fun x hx => h x (by omega))
    have h2 := h n (by omega)
    simp only [sumI] at he
    rcases Nat.lt_or_eq_of_le (Nat.lt_succ_iff.1 hx) with h3 | h3
    · exact sumI_eq n (fun x hx => h x (by omega)) (by omega) x h3
    · subst h3; omega
theorem sumI_one (v : Int) : ∀ n, sumI (fun x => if v = (x : Int) then 1 else 0) n = if 0 ≤ v ∧ v < n then 1 else 0
  | 0 => by
    simp only [sumI]
    rw [if_neg (by omega)]
  | n + 1 => by
    simp only [sumI, sumI_one v n]
    by_cases h : v = (n : Int)
    · rw [if_neg (by omega), if_pos h, if_pos (by omega)]; omega
    · rw [if_neg h]
      by_cases h2 : 0 ≤ v ∧ v < n
      · rw [if_pos h2, if_pos (by omega)]; omega
      · rw [if_neg h2, if_neg (by omega)]; omega
/-- All cells are counted once. -/
theorem count_sum (rows : List (List Int)) (wi n : Nat) : ∀ N, (∀ m, m < N → 0 ≤ cellN rows wi m ∧ cellN rows wi m < n) → sumI (fun x => countN rows wi (x : Int) N) n = N
  | 0, _ => by
    have : sumI (fun x => countN rows wi (x : Int) 0) n = sumI (fun _ => 0) n := rfl
    rw [this]
    have h0 : ∀ n, sumI (fun _ => 0) n = 0 := fun n => by induction n with
      | zero => rfl
      | succ n ih => simp only [sumI, ih]; rfl
    rw [h0]
    rfl
  | N + 1, h => by
    have ih := count_sum rows wi n N (fun m hm => h m (by omega))
    have h1 := h N (by omega)
    have h2 := sumI_one (cellN rows wi N) n
    rw [if_pos h1] at h2
    have h3 : sumI (fun x => countN rows wi (x : Int) (N + 1)) n = sumI (fun x => countN rows wi (x : Int) N + (if cellN rows wi N = (x : Int) then 1 else 0)) n := by
      apply sumI_congr
      intro x hx
      simp only [countN]
      split <;> omega
    rw [h3, sumI_add, ih, h2]
    omega
/-! ### as many cells as a rectangle has -/
def inBox (b : Rc) (wi m : Nat) : Prop := b.f0 ≤ (m / wi : Nat) ∧ ((m / wi : Nat) : Int) < b.f0 + b.f2 ∧ b.f1 ≤ (m % wi : Nat) ∧ ((m % wi : Nat) : Int) < b.f1 + b.f3
instance (b : Rc) (wi m : Nat) : Decidable (inBox b wi m) := by unfold inBox; exact inferInstance
def countB (b : Rc) (wi : Nat) : Nat → Int
  | 0 => 0
  | n + 1 => if inBox b wi n then countB b wi n + 1 else countB b wi n
theorem countN_le_B (rows : List (List Int)) (wi : Nat) (x : Int) (b : Rc) : ∀ n, (∀ m, m < n → cellN rows wi m = x → inBox b wi m) → countN rows wi x n ≤ countB b wi n
  | 0, _ => Int.le_refl _
  | n + 1, h => by
    have ih := countN_le_B rows wi x b n (fun m hm => h m (by omega))
    simp only [countN, countB]
    by_cases hx : cellN rows wi n = x
    · rw [if_pos hx, if_pos (h n (by omega) hx)]; omega
    · rw [if_neg hx]
      split <;> omega
def clamp (a n : Int) : Int := max 0 (min a n)
theorem countB_at (b : Rc) (hi wi : Nat) (hb : boundR b hi wi) : ∀ i j, i ≤ hi → j ≤ wi → (i < hi ∨ j = 0) → countB b wi (i * wi + j) = clamp ((i : Int) - b.f0) b.f2 * b.f3 + (if b.f0 ≤ i ∧ (i : Int) < b.f0 + b.f2 then clamp ((j : Int) - b.f1) b.f3 else 0) := by
  obtain ⟨b0, b1, b2, b3, b4, b5⟩ := hb
  intro i
  induction i with
  | zero =>
    intro j
    induction j with
    | zero =>
      intro _ _ _
      have h1 : clamp (((0 : Nat) : Int) - b.f0) b.f2 = 0 := by unfold clamp; omega
      have h2 : clamp (((0 : Nat) : Int) - b.f1) b.f3 = 0 := by unfold clamp; omega
      rw [h1, h2]
      simp [countB]
    | succ j ih =>
      intro h1 h2 h3
      have h := ih h1 (by omega) (by omega)
      obtain ⟨d1, d2⟩ := divmod_of (r := 0) (show j < wi by omega)
      show (if inBox b wi (0 * wi + j) then countB b wi (0 * wi + j) + 1 else countB b wi (0 * wi + j)) = _
      rw [h]
      have hib : inBox b wi (0 * wi + j) ↔ (b.f0 ≤ ((0 : Nat) : Int) ∧ ((0 : Nat) : Int) < b.f0 + b.f2 ∧ b.f1 ≤ (j : Int) ∧ (j : Int) < b.f1 + b.f3) := by unfold inBox; rw [d1, d2]
      by_cases hr : b.f0 ≤ ((0 : Nat) : Int) ∧ ((0 : Nat) : Int) < b.f0 + b.f2
      · rw [if_pos hr, if_pos hr]
        have : clamp (((j + 1 : Nat) : Int) - b.f1) b.f3 = clamp ((j : Int) - b.f1) b.f3 + (if b.f1 ≤ (j : Int) ∧ (j : Int) < b.f1 + b.f3 then 1 else 0) := by
          unfold clamp; split <;> omega
        rw [this]
        by_cases hc : b.f1 ≤ (j : Int) ∧ (j : Int) < b.f1 + b.f3
        · rw [if_pos (hib.2 ⟨hr.1, hr.2, hc.1, hc.2⟩), if_pos hc]; omega
        · rw [if_neg (fun h => hc ⟨(hib.1 h).2.2.1, (hib.1 h).2.2.2⟩), if_neg hc]; omega
      · rw [if_neg hr, if_neg hr, if_neg (fun h => hr ⟨(hib.1 h).1, (hib.1 h).2.1⟩)]
  | succ i ihi =>
    intro j
    induction j with
    | zero =>
      intro h1 _ _
      have h := ihi wi (by omega) (Nat.le_refl _) (by omega)
      rw [show (i + 1) * wi + 0 = i * wi + wi by rw [Nat.succ_mul]; omega, h]
      have e2 : clamp (((0 : Nat) : Int) - b.f1) b.f3 = 0 := by unfold clamp; omega
      have e3 : clamp ((wi : Int) - b.f1) b.f3 = b.f3 := by unfold clamp; omega
      rw [e2, e3]
      have e4 : (if b.f0 ≤ ((i + 1 : Nat) : Int) ∧ ((i + 1 : Nat) : Int) < b.f0 + b.f2 then (0 : Int) else 0) = 0 := by split <;> rfl
      rw [e4]
      by_cases hr : b.f0 ≤ (i : Int) ∧ (i : Int) < b.f0 + b.f2
      · have e5 : clamp (((i + 1 : Nat) : Int) - b.f0) b.f2 = clamp ((i : Int) - b.f0) b.f2 + 1 := by unfold clamp; omega
        rw [if_pos hr, e5, Int.add_mul]
        omega
      · have e5 : clamp (((i + 1 : Nat) : Int) - b.f0) b.f2 = clamp ((i : Int) - b.f0) b.f2 := by unfold clamp; omega
        rw [if_neg hr, e5]
    | succ j ih =>
      intro h1 h2 h3
      have h := ih h1 (by omega) (by omega)
      obtain ⟨d1, d2⟩ := divmod_of (r := i + 1) (show j < wi by omega)
      show (if inBox b wi ((i + 1) * wi + j) then countB b wi ((i + 1) * wi + j) + 1 else countB b wi ((i + 1) * wi + j)) = _
      rw [h]
      have hib : inBox b wi ((i + 1) * wi + j) ↔ (b.f0 ≤ ((i + 1 : Nat) : Int) ∧ ((i + 1 : Nat) : Int) < b.f0 + b.f2 ∧ b.f1 ≤ (j : Int) ∧ (j : Int) < b.f1 + b.f3) := by unfold inBox; rw [d1, d2]
      by_cases hr : b.f0 ≤ ((i + 1 : Nat) : Int) ∧ ((i + 1 : Nat) : Int) < b.f0 + b.f2
      · rw [if_pos hr, if_pos hr]
        have : clamp (((j + 1 : Nat) : Int) - b.f1) b.f3 = clamp ((j : Int) - b.f1) b.f3 + (if b.f1 ≤ (j : Int) ∧ (j : Int) < b.f1 + b.f3 then 1 else 0) := by
          unfold clamp; split <;> omega
        rw [this]
        by_cases hc : b.f1 ≤ (j : Int) ∧ (j : Int) < b.f1 + b.f3
        · rw [if_pos (hib.2 ⟨hr.1, hr.2, hc.1, hc.2⟩), if_pos hc]; omega
        · rw [if_neg (fun h => hc ⟨(hib.1 h).2.2.1, (hib.1 h).2.2.2⟩), if_neg hc]; omega
      · rw [if_neg hr, if_neg hr, if_neg (fun h => hr ⟨(hib.1 h).1, (hib.1 h).2.1⟩)]
theorem countB_all (b : Rc) (hi wi : Nat) (hb : boundR b hi wi) : countB b wi (hi * wi) = areaR b := by
  have := countB_at b hi wi hb hi 0 (Nat.le_refl _) (by omega) (Or.inr rfl)
  obtain ⟨b0, b1, b2, b3, b4, b5⟩ := hb
  rw [Nat.add_zero] at this
  have h2 : clamp (((0 : Nat) : Int) - b.f1) b.f3 = 0 := by unfold clamp; omega
  have h3 : clamp ((hi : Int) - b.f0) b.f2 = b.f2 := by unfold clamp; omega
  rw [this, h2, h3]
  unfold areaR
  split <;> omega
/-! ### the folds at a numbered grid -/
theorem maxN_ge (rows : List (List Int)) (wi : Nat) : ∀ n m, m < n → cellN rows wi m + 1 ≤ maxN rows wi n
  | 0, m, h => by omega
  | n + 1, m, h => by
    simp only [maxN]
    rcases Nat.lt_or_eq_of_le (Nat.lt_succ_iff.1 h) with h1 | h1
    · have := maxN_ge rows wi n m h1; omega
    · subst h1; omega
theorem maxN_ub (rows : List (List Int)) (wi : Nat) (M : Int) (hM : 0 ≤ M) : ∀ n, (∀ m, m < n → cellN rows wi m + 1 ≤ M) → maxN rows wi n ≤ M
  | 0, _ => hM
  | n + 1, h => by
    have := maxN_ub rows wi M hM n (fun m hm => h m (by omega))
    have := h n (by omega)
    simp only [maxN]
    omega
theorem roomN_ge (rows : List (List Int)) (wi : Nat) (x t l : Int) : ∀ n m, m < n → cellN rows wi m = x → (roomN rows wi x t l n).1 ≤ (m / wi : Nat) ∧ (roomN rows wi x t l n).2.1 ≤ (m % wi : Nat) ∧ ((m / wi : Nat) : Int) ≤ (roomN rows wi x t l n).2.2.1 ∧ ((m % wi : Nat) : Int) ≤ (roomN rows wi x t l n).2.2.2
  | 0, m, h, _ => by omega
  | n + 1, m, h, hx => by
    simp only [roomN]
    rcases Nat.lt_or_eq_of_le (Nat.lt_succ_iff.1 h) with h1 | h1
    · have ih := roomN_ge rows wi x t l n m h1 hx
      generalize roomN rows wi x t l n = q at *
      split
      · dsimp only; omega
      · exact ih
    · subst h1
      rw [if_pos hx]
      dsimp only
      omega
theorem roomN_at (rows : List (List Int)) (wi : Nat) (x t l : Int) : ∀ n,
    ((roomN rows wi x t l n).1 = t ∨ ∃ m, m < n ∧ cellN rows wi m = x ∧ (roomN rows wi x t l n).1 = (m / wi : Nat)) ∧
    ((roomN rows wi x t l n).2.1 = l ∨ ∃ m, m < n ∧ cellN rows wi m = x ∧ (roomN rows wi x t l n).2.1 = (m % wi : Nat)) ∧
    ((roomN rows wi x t l n).2.2.1 = -1 ∨ ∃ m, m < n ∧ cellN rows wi m = x ∧ (roomN rows wi x t l n).2.2.1 = (m / wi : Nat)) ∧
    ((roomN rows wi x t l n).2.2.2 = -1 ∨ ∃ m, m < n ∧ cellN rows wi m = x ∧ (roomN rows wi x t l n).2.2.2 = (m % wi : Nat))
  | 0 => ⟨.inl rfl, .inl rfl, .inl rfl, .inl rfl⟩
  | n + 1 => by
    obtain ⟨h1, h2, h3, h4⟩ := roomN_at rows wi x t l n
    simp only [roomN]
    generalize roomN rows wi x t l n = q at *
    by_cases hx : cellN rows wi n = x
    · rw [if_pos hx]
      dsimp only
      refine ⟨?_, ?_, ?_, ?_⟩
      · by_cases hc : q.1 ≤ ((n / wi : Nat) : Int)
        · rw [Int.min_eq_left hc]
          rcases h1 with h | ⟨m, a, b, c⟩
          · exact .inl h
          · exact .inr ⟨m, by omega, b, c⟩
        · exact .inr ⟨n, by omega, hx, Int.min_eq_right (by omega)⟩
      · by_cases hc : q.2.1 ≤ ((n % wi : Nat) : Int)
        · rw [Int.min_eq_left hc]
          rcases h2 with h | ⟨m, a, b, c⟩
          · exact .inl h
          · exact .inr ⟨m, by omega, b, c⟩
        · exact .inr ⟨n, by omega, hx, Int.min_eq_right (by omega)⟩
      · by_cases hc : ((n / wi : Nat) : Int) ≤ q.2.2.1
        · rw [Int.max_eq_left hc]
          rcases h3 with h | ⟨m, a, b, c⟩
          · exact .inl h
          · exact .inr ⟨m, by omega, b, c⟩
        · exact .inr ⟨n, by omega, hx, Int.max_eq_right (by omega)⟩
      · by_cases hc : ((n % wi : Nat) : Int) ≤ q.2.2.2
        · rw [Int.max_eq_left hc]
          rcases h4 with h | ⟨m, a, b, c⟩
          · exact .inl h
          · exact .inr ⟨m, by omega, b, c⟩
        · exact .inr ⟨n, by omega, hx, Int.max_eq_right (by omega)⟩
    · rw [if_neg hx]
      refine ⟨?_, ?_, ?_, ?_⟩
      · rcases h1 with h | ⟨m, a, b, c⟩
        · exact .inl h
        · exact .inr ⟨m, by omega, b, c⟩
      · rcases h2 with h | ⟨m, a, b, c⟩
        · exact .inl h
        · exact .inr ⟨m, by omega, b, c⟩
      · rcases h3 with h | ⟨m, a, b, c⟩
        · exact .inl h
        · exact .inr ⟨m, by omega, b, c⟩
      · rcases h4 with h | ⟨m, a, b, c⟩
        · exact .inl h
        · exact .inr ⟨m, by omega, b, c⟩
theorem room_box {rows rows' : List (List Int)} {hi wi : Nat} {x y : Int} {b : Rc} (he : ∀ m, m < hi * wi → (cellN rows wi m = x ↔ valAt rows' (m / wi) (m % wi) = y)) (hb : BoxN rows' wi (hi * wi) y b) (hbd : boundR b hi wi) (t l : Int) (ht : (hi : Int) ≤ t) (hl : (wi : Int) ≤ l) :
    roomOut (roomN rows wi x t l (hi * wi)) = (b.f0, b.f1, b.f2, b.f3) := by
  obtain ⟨b0, b1, b2, b3, b4, b5⟩ := hbd
  obtain ⟨m1, n1, v1, e1⟩ := hb.top
  obtain ⟨m2, n2, v2, e2⟩ := hb.low
  obtain ⟨m3, n3, v3, e3⟩ := hb.left
  obtain ⟨m4, n4, v4, e4⟩ := hb.right
  have g1 := roomN_ge rows wi x t l (hi * wi) m1 n1 ((he m1 n1).2 v1)
  have g2 := roomN_ge rows wi x t l (hi * wi) m2 n2 ((he m2 n2).2 v2)
  have g3 := roomN_ge rows wi x t l (hi * wi) m3 n3 ((he m3 n3).2 v3)
  have g4 := roomN_ge rows wi x t l (hi * wi) m4 n4 ((he m4 n4).2 v4)
  obtain ⟨a1, a2, a3, a4⟩ := roomN_at rows wi x t l (hi * wi)
  have key : ∀ m, m < hi * wi → cellN rows wi m = x → b.f0 ≤ (m / wi : Nat) ∧ ((m / wi : Nat) : Int) < b.f0 + b.f2 ∧ b.f1 ≤ (m % wi : Nat) ∧ ((m % wi : Nat) : Int) < b.f1 + b.f3 := fun m hm hx => hb.ins m hm ((he m hm).1 hx)
  generalize roomN rows wi x t l (hi * wi) = q at *
  have r1 : q.1 = b.f0 := by
    rcases a1 with h | ⟨m, n, v, e⟩
    · omega
    · have := key m n v; omega
  have r2 : q.2.1 = b.f1 := by
    rcases a2 with h | ⟨m, n, v, e⟩
    · omega
    · have := key m n v; omega
  have r3 : q.2.2.1 = b.f0 + b.f2 - 1 := by
    rcases a3 with h | ⟨m, n, v, e⟩
    · omega
    · have := key m n v; omega
  have r4 : q.2.2.2 = b.f1 + b.f3 - 1 := by
    rcases a4 with h | ⟨m, n, v, e⟩
    · omega
    · have := key m n v; omega
  unfold roomOut
  rw [r1, r2, r3, r4]
  congr 3
  · omega
  · omega
end Go.Proofs.Ytjaolkfjpnpglaa.Hd
/- Plain laws, no program: the reference's PlanIn says of a list just what impl.floorOf says. -/
namespace Go.Proofs.Ytjaolkfjpnpglaa.Hd
open Go.RowKit Go.Proofs.YtjaolkfjpnpglaaW.PrintWords Go.Proofs.YtjaolkfjpnpglaaW.PrintLast Go.Proofs.YtjaolkfjpnpglaaW.PrintMore Go.Proofs.Ytjaolkfjpnpglaa.PB
set_option linter.unusedVariables false
set_option linter.unusedSimpArgs false
theorem letterOf_toNat {x : Int} (h0 : 0 ≤ x) (h1 : x ≤ 100) : ((letterOf x).toNat : Int) = 97 + x := by
  unfold letterOf
  rw [UInt8.toNat_ofNat']
  omega
theorem bytesOf_rowText (row : List Int) (h : ∀ x ∈ row, 0 ≤ x ∧ x ≤ 100) : bytesOf (rowText row) = row.map (fun x => 97 + x) := by
  unfold bytesOf rowText rowBytes
  show ((row.map letterOf).toArray.toList).map _ = _
  rw [List.map_map]
  apply List.map_congr_left
  intro x hx
  exact letterOf_toNat (h x hx).1 (h x hx).2
theorem numsOf_textOf (cs : List (List Int)) (h : ∀ r ∈ cs, ∀ x ∈ r, 0 ≤ x ∧ x ≤ 100) : numsOf (textOf cs) = cs.map (fun r => r.map (fun x => 97 + x)) := by
  unfold numsOf textOf
  rw [List.map_map]
  apply List.map_congr_left
  intro r hr
  exact bytesOf_rowText r (h r hr)
theorem canon_val {rows : List (List Int)} (h : shapeOk rows = true) : ∀ r ∈ canon rows, ∀ x ∈ r, 0 ≤ x ∧ x ≤ 100 := by
  have hL := shape_order h
  intro r hr x hx
  unfold canon canonL at hr
  simp at hr
  obtain ⟨a, _, rfl⟩ := hr
  simp at hx
  obtain ⟨y, _, rfl⟩ := hx
  have := List.idxOf_le_length (a := y) (l := ordAll rows)
  omega
/-- A list whose letters are given in the order in which they come. -/
structure Canon (p : List ByteArray) : Prop where
  grid : gridOk p = true
  names : namesOf p = p
theorem Canon.shape {p : List ByteArray} (h : Canon p) : shapeOk (numsOf p) = true := by
  have := h.grid
  unfold gridOk at this
  rw [Bool.and_eq_true] at this
  exact this.1
theorem numsOf_length (p : List ByteArray) : (numsOf p).length = p.length := by simp [numsOf]
theorem Canon.cell {p : List ByteArray} (h : Canon p) : ∀ m, m < p.length * wideOf (numsOf p) → cellN (numsOf p) (wideOf (numsOf p)) m = ((ordAll (numsOf p)).idxOf (valAt (numsOf p) (m / wideOf (numsOf p)) (m % wideOf (numsOf p))) : Int) := by
  intro m hm
  have hR := shape_rect h.shape
  have h1 : numsOf p = (canon (numsOf p)).map (fun r => r.map (fun x => 97 + x)) := by
    have := numsOf_textOf (canon (numsOf p)) (canon_val h.shape)
    rw [show textOf (canon (numsOf p)) = p from h.names] at this
    exact this
  have hwi : 0 < wideOf (numsOf p) := by
    rcases Nat.eq_zero_or_pos (wideOf (numsOf p)) with h0 | h0
    · rw [h0] at hm; simp at hm
    · exact h0
  have hr : m / wideOf (numsOf p) < (numsOf p).length := by rw [numsOf_length, Nat.div_lt_iff_lt_mul hwi]; exact hm
  have hc := Nat.mod_lt m hwi
  have hcr : Rect (wideOf (numsOf p)) (canon (numsOf p)) := by rw [canon_grid hR]; exact gridOf_rect _ _ _
  have h2 := rect_map hcr (fun x => 97 + x)
  rw [← h1] at h2
  have hcl : (canon (numsOf p)).length = (numsOf p).length := by simp [canon, canonL]
  unfold cellN
  have h3 := congrArg (fun R => valAt R (m / wideOf (numsOf p)) (m % wideOf (numsOf p))) h2
  have h4 := congrArg (fun R => valAt R (m / wideOf (numsOf p)) (m % wideOf (numsOf p))) (canon_grid hR)
  try dsimp only at h3 h4
  rw [valAt_gridOf (by rw [hcl]; exact hr) hc] at h3
  rw [valAt_gridOf hr hc] at h4
  omega
theorem rooms_len {rows : List (List Int)} (h : shapeOk rows = true) : (ordAll rows).length = (roomsOf rows).length := by
  rw [← stAt_all (shape_rect h)]
  exact (stAt_len rows (wideOf rows) _).1
theorem rooms_box {rows : List (List Int)} (h : shapeOk rows = true) (i : Nat) (hi : i < (roomsOf rows).length) : ∃ x, (ordAll rows)[i]? = some x ∧ BoxN rows (wideOf rows) (rows.length * wideOf rows) x ((roomsOf rows).getD i zeroR) ∧ boundR ((roomsOf rows).getD i zeroR) rows.length (wideOf rows) := by
  have hl := rooms_len h
  obtain ⟨x, hx⟩ : ∃ x, (ordAll rows)[i]? = some x := ⟨_, List.getElem?_eq_getElem (by omega)⟩
  have hb : (roomsOf rows)[i]? = some ((roomsOf rows).getD i zeroR) := by
    rw [List.getD_eq_getElem?_getD, List.getElem?_eq_getElem hi]
    rfl
  have hx2 := hx
  rw [← stAt_all (shape_rect h)] at hx2
  exact ⟨x, hx, stAt_box rows (wideOf rows) _ i x _ hx2 hb, (stAt_inv rows rows.length (wideOf rows) _ (Nat.le_refl _)).2.2.2 _ (List.mem_of_getElem? hb)⟩
theorem idx_iff {L : List Int} (hn : L.Nodup) {i : Nat} {x v : Int} (hx : L[i]? = some x) (hv : v ∈ L) : ((L.idxOf v : Int) = (i : Int) ↔ v = x) := by
  have hi := (List.getElem?_eq_some_iff.1 hx).1
  have hk := List.idxOf_lt_length_of_mem hv
  have e : L[L.idxOf v] = v := List.getElem_idxOf hk
  rw [List.getElem?_eq_getElem hi] at hx
  have hx := Option.some.inj hx
  constructor
  · intro h
    have h : L.idxOf v = i := by omega
    subst h
    rw [← e, hx]
  · rintro rfl
    have := nodup_inj hn hk hi (e.trans hx.symm)
    omega
theorem ordAll_nodup (rows : List (List Int)) : (ordAll rows).Nodup := ordL_nodup _ _ List.nodup_nil
theorem cell_mem {rows : List (List Int)} (h : shapeOk rows = true) (m : Nat) (hm : m < rows.length * wideOf rows) : valAt rows (m / wideOf rows) (m % wideOf rows) ∈ ordAll rows := by
  have := flatten_get rows (shape_rect h) m hm
  exact ordL_mem _ _ _ (List.mem_of_getElem? this)
theorem mem_cell {rows : List (List Int)} (h : shapeOk rows = true) (x : Int) (hx : x ∈ ordAll rows) : ∃ m, m < rows.length * wideOf rows ∧ valAt rows (m / wideOf rows) (m % wideOf rows) = x := by
  rcases ordL_sub _ _ x hx with h1 | h1
  · cases h1
  · obtain ⟨m, hm, e⟩ := List.mem_iff_getElem.1 h1
    have hl := flatten_length_le rows _ (shape_rect h)
    refine ⟨m, by omega, ?_⟩
    have := flatten_get rows (shape_rect h) m (by omega)
    rw [List.getElem?_eq_getElem hm, e] at this
    exact (Option.some.inj this).symm
theorem Canon.max {p : List ByteArray} (h : Canon p) : maxN (numsOf p) (wideOf (numsOf p)) (p.length * wideOf (numsOf p)) = (roomsOf (numsOf p)).length := by
  have hs := h.shape
  have hl := rooms_len hs
  have hc := h.cell
  obtain ⟨s1, s2, s3, s4, s5⟩ := (shapeOk_iff _).1 hs
  rw [numsOf_length] at s1 s2
  have hpos : 0 < p.length * wideOf (numsOf p) := Nat.mul_pos (by omega) (by omega)
  have hub := maxN_ub (numsOf p) (wideOf (numsOf p)) ((roomsOf (numsOf p)).length : Int) (by omega) (p.length * wideOf (numsOf p)) (fun m hm => by
    rw [hc m hm]
    have := List.idxOf_lt_length_of_mem (cell_mem hs m (by rw [numsOf_length]; exact hm))
    omega)
  have h0 := List.idxOf_lt_length_of_mem (cell_mem hs 0 (by rw [numsOf_length]; exact hpos))
  obtain ⟨y, hy⟩ : ∃ y, (ordAll (numsOf p))[(ordAll (numsOf p)).length - 1]? = some y := ⟨_, List.getElem?_eq_getElem (by omega)⟩
  obtain ⟨m, hm, hv⟩ := mem_cell hs y (List.mem_of_getElem? hy)
  rw [numsOf_length] at hm
  have hge := maxN_ge (numsOf p) (wideOf (numsOf p)) _ m hm
  have hi := (idx_iff (ordAll_nodup (numsOf p)) hy (List.mem_of_getElem? hy)).2 rfl
  rw [hc m hm, hv] at hge
  omega
theorem Canon.room {p : List ByteArray} (h : Canon p) (i : Nat) (hi : i < (roomsOf (numsOf p)).length) : let b := (roomsOf (numsOf p)).getD i zeroR
    roomOut (roomN (numsOf p) (wideOf (numsOf p)) (i : Int) (p.length : Int) (wideOf (numsOf p) : Int) (p.length * wideOf (numsOf p))) = (b.f0, b.f1, b.f2, b.f3) ∧ countN (numsOf p) (wideOf (numsOf p)) (i : Int) (p.length * wideOf (numsOf p)) ≤ areaR b ∧ boundR b p.length (wideOf (numsOf p)) := by
  intro b
  have hs := h.shape
  obtain ⟨x, hx, hb, hbd⟩ := rooms_box hs i hi
  rw [numsOf_length] at hb hbd
  have hiff : ∀ m, m < p.length * wideOf (numsOf p) → (cellN (numsOf p) (wideOf (numsOf p)) m = (i : Int) ↔ valAt (numsOf p) (m / wideOf (numsOf p)) (m % wideOf (numsOf p)) = x) := fun m hm => by
    rw [h.cell m hm]
    exact idx_iff (ordAll_nodup _) hx (cell_mem hs m (by rw [numsOf_length]; exact hm))
  refine ⟨room_box hiff hb hbd _ _ (Int.le_refl _) (Int.le_refl _), ?_, hbd⟩
  rw [← countB_all b p.length (wideOf (numsOf p)) hbd]
  exact countN_le_B _ _ _ _ _ (fun m hm hv => hb.ins m hm ((hiff m hm).1 hv))
theorem Canon.sum {p : List ByteArray} (h : Canon p) : sumI (fun x => countN (numsOf p) (wideOf (numsOf p)) (x : Int) (p.length * wideOf (numsOf p))) (roomsOf (numsOf p)).length = ((p.length * wideOf (numsOf p) : Nat) : Int) := by
  refine count_sum _ _ _ _ (fun m hm => ?_)
  rw [h.cell m hm]
  have := List.idxOf_lt_length_of_mem (cell_mem h.shape m (by rw [numsOf_length]; exact hm))
  have := rooms_len h.shape
  omega
theorem sumArea_sumI (rs : List Rc) : sumArea rs = sumI (fun x => areaR (rs.getD x zeroR)) rs.length := by
  have : ∀ n, n ≤ rs.length → sumArea (rs.take n) = sumI (fun x => areaR (rs.getD x zeroR)) n := by
    intro n
    induction n with
    | zero => intro _; simp [sumArea, sumI]
    | succ n ih => intro hn; rw [sum_take rs n (by omega), ih (by omega)]; rfl
  have h := this rs.length (Nat.le_refl _)
  rwa [List.take_length] at h
/-- All rooms are full. -/
def fullB (p : List ByteArray) (x : Nat) : Bool := decide (countN (numsOf p) (wideOf (numsOf p)) (x : Int) (p.length * wideOf (numsOf p)) = areaR ((roomsOf (numsOf p)).getD x zeroR))
theorem full_iff {p : List ByteArray} (h : Canon p) : (List.range (roomsOf (numsOf p)).length).all (fullB p) = decide (sumArea (roomsOf (numsOf p)) = (p.length : Int) * (wideOf (numsOf p) : Int)) := by
  rw [Bool.eq_iff_iff, List.all_eq_true, decide_eq_true_eq, sumArea_sumI, ← Int.natCast_mul, ← h.sum]
  constructor
  · intro hall
    refine (sumI_congr _ (fun x hx => ?_)).symm
    have := hall x (List.mem_range.2 hx)
    unfold fullB at this
    exact of_decide_eq_true this
  · intro he x hx
    have := sumI_eq _ (fun x hx => (h.room x hx).2.1) he.symm x (List.mem_range.1 hx)
    unfold fullB
    exact decide_eq_true this
theorem planIn_l0 {p : List ByteArray} (h : Canon p) : ∀ m r, r + m = (roomsOf (numsOf p)).length → Evs (fun k => spec_PlanIn.l0 k p (r : Int)) (((List.range (roomsOf (numsOf p)).length).drop r).all (fullB p)) := by
  have hsm := gridOk_small h.grid
  obtain ⟨s1, s2, s3, s4, s5⟩ := (shapeOk_iff _).1 h.shape
  rw [numsOf_length] at s1 s2
  have hR := l1Rooms_ev p _ hsm
  rw [h.max] at hR
  have hrl : (roomsOf (numsOf p)).length ≤ 36 := by have := rooms_len h.shape; have := shape_order h.shape; omega
  intro m
  induction m with
  | zero =>
    intro r hr
    rw [List.drop_eq_nil_of_le (by simp; omega)]
    refine Evs.step (h := fun k => (spec_l1Rooms.f k p).bind fun t => if (r : Int) < t then ((spec_l1Room.f k p (r : Int)).bind fun bt161 => ((spec_l1Cells.f k p (r : Int)).bind fun t165 => (if t165 = (wrap64 (bt161.2.2.1 * bt161.2.2.2)) then (spec_PlanIn.l0 k p (wrap64 ((r : Int) + 1))) else (some false)))) else some true) (fun k => ?_) (Evs.bind hR ?_)
    · conv => lhs; unfold spec_PlanIn.l0
    · refine Evs.congr (h := fun _ => some true) (fun k => ?_) (Evs.const _)
      try dsimp only
      rw [if_neg (by omega)]
  | succ m ih =>
    intro r hr
    obtain ⟨q1, q2, q3⟩ := h.room r (by omega)
    have hroom := l1Room_ev p _ hsm s1 (r : Int)
    have hcnt := l1Cells_ev p _ hsm (r : Int)
    rw [q1] at hroom
    have hab := area_bound q3 s2 s4
    have hdrop : (List.range (roomsOf (numsOf p)).length).drop r = r :: (List.range (roomsOf (numsOf p)).length).drop (r + 1) := by
      rw [List.drop_eq_getElem_cons (by simp; omega)]
      simp
    rw [hdrop, List.all_cons]
    refine Evs.step (h := fun k => (spec_l1Rooms.f k p).bind fun t => if (r : Int) < t then ((spec_l1Room.f k p (r : Int)).bind fun bt161 => ((spec_l1Cells.f k p (r : Int)).bind fun t165 => (if t165 = (wrap64 (bt161.2.2.1 * bt161.2.2.2)) then (spec_PlanIn.l0 k p (wrap64 ((r : Int) + 1))) else (some false)))) else some true) (fun k => ?_) (Evs.bind hR ?_)
    · conv => lhs; unfold spec_PlanIn.l0
    · refine Evs.congr (h := fun k => ((spec_l1Room.f k p (r : Int)).bind fun bt161 => ((spec_l1Cells.f k p (r : Int)).bind fun t165 => (if t165 = (wrap64 (bt161.2.2.1 * bt161.2.2.2)) then (spec_PlanIn.l0 k p (wrap64 ((r : Int) + 1))) else (some false))))) (fun k => ?_) ?_
      · try dsimp only
        rw [if_pos (by omega)]
      · refine Evs.bind hroom (Evs.bind hcnt ?_)
        try dsimp only
        have hw : wrap64 (((roomsOf (numsOf p)).getD r zeroR).f2 * ((roomsOf (numsOf p)).getD r zeroR).f3) = areaR ((roomsOf (numsOf p)).getD r zeroR) := by
          have h3 := hab
          unfold areaR at h3 ⊢
          exact wrap64_small (by omega) (by omega)
        rw [hw]
        have hnx := ih (r + 1) (by omega)
        by_cases hf : countN (numsOf p) (wideOf (numsOf p)) (r : Int) (p.length * wideOf (numsOf p)) = areaR ((roomsOf (numsOf p)).getD r zeroR)
        · have : fullB p r = true := decide_eq_true hf
          rw [this, Bool.true_and]
          refine Evs.congr (fun k => ?_) hnx
          rw [if_pos hf, wrap_succ (by omega)]
        · have : fullB p r = false := decide_eq_false hf
          rw [this, Bool.false_and]
          refine Evs.congr (h := fun _ => some false) (fun k => ?_) (Evs.const _)
          rw [if_neg hf]
theorem planIn_j0 (k : Nat) (p : List ByteArray) (b : Bool) : spec_PlanIn.j0 (k + 1) p b = if b = true then some false else spec_PlanIn.l0 k p 0 := by simp only [spec_PlanIn.j0]
def planB (p : List ByteArray) : Bool := (floorF p).isSome
theorem settled_shape {rows : List (List Int)} (h : shapeOk rows = true) : settledF rows = if (roomsOf rows).length ≤ 9 then some (canon rows, roomsOf rows, decide (sumArea (roomsOf rows) = (rows.length : Int) * (wideOf rows : Int))) else none := by
  unfold settledF
  rw [if_pos h, cellsOf_canon h]
theorem floorF_grid {p : List ByteArray} (h : gridOk p = true) : floorF p = if (roomsOf (numsOf p)).length ≤ 9 ∧ sumArea (roomsOf (numsOf p)) = (p.length : Int) * (wideOf (numsOf p) : Int) ∧ namesOf p = p then some (canon (numsOf p), roomsOf (numsOf p)) else none := by
  unfold gridOk at h
  rw [Bool.and_eq_true] at h
  unfold floorF readF
  rw [if_pos h.2, settled_shape h.1, numsOf_length]
  by_cases h9 : (roomsOf (numsOf p)).length ≤ 9
  · rw [if_pos h9]
    simp only [Option.bind_some, decide_eq_true_eq]
    rw [show textOf (canon (numsOf p)) = namesOf p from rfl]
    by_cases hs : sumArea (roomsOf (numsOf p)) = (p.length : Int) * (wideOf (numsOf p) : Int) ∧ namesOf p = p
    · rw [if_pos hs, if_pos ⟨h9, hs⟩]
    · rw [if_neg hs, if_neg (fun hh => hs hh.2)]
  · rw [if_neg h9, if_neg (fun hh => h9 hh.1)]
    rfl
theorem floorF_nogrid {p : List ByteArray} (h : gridOk p = false) : floorF p = none := by
  unfold floorF readF
  unfold gridOk at h
  by_cases ha : p.all okText = true
  · rw [ha, Bool.and_true] at h
    rw [if_pos ha]
    unfold settledF
    rw [if_neg (by rw [h]; simp)]
    rfl
  · rw [if_neg ha]
    rfl
theorem PlanIn_ev (p : List ByteArray) (hp : smallP p) : Evs (fun k => spec_PlanIn.f k p) (planB p) := by
  have hg := l1Grid_ev p hp
  cases hG : gridOk p
  · rw [hG] at hg
    have : planB p = false := by unfold planB; rw [floorF_nogrid hG]; rfl
    rw [this]
    refine Evs.bind hg ?_
    refine Evs.congr (h := fun k => spec_PlanIn.j0 k p true) (fun k => ?_) (Evs.step (h := fun _ => some false) (fun k => ?_) (Evs.const _))
    · try dsimp only
      rw [if_neg (by simp)]
    · rw [planIn_j0]
      rw [if_pos rfl]
  · rw [hG] at hg
    have hs : shapeOk (numsOf p) = true := by
      unfold gridOk at hG
      rw [Bool.and_eq_true] at hG
      exact hG.1
    have hn := l1Names_ev p hp (by have := shape_order hs; omega)
    have hsame := l1Same_ev (namesOf p) p (by simp [namesOf, textOf, canon, canonL, numsOf]; have := hp.1; omega)
    refine Evs.bind hg ?_
    refine Evs.congr (h := fun k => (spec_l1Names.f k p).bind fun t155 => ((spec_l1Same.f k t155 p).bind fun t158 => (if t158 = true then ((spec_l1Rooms.f k p).bind fun t159 => (spec_PlanIn.j0 k p (decide (t159 > 9)))) else (spec_PlanIn.j0 k p true)))) (fun k => ?_) (Evs.bind hn (Evs.bind hsame ?_))
    · try dsimp only
      rw [if_pos rfl]
    · unfold planB
      rw [floorF_grid hG]
      by_cases hN : namesOf p = p
      · have hC : Canon p := ⟨hG, hN⟩
        have hR := l1Rooms_ev p _ (gridOk_small hG)
        rw [hC.max] at hR
        refine Evs.congr (h := fun k => (spec_l1Rooms.f k p).bind fun t159 => (spec_PlanIn.j0 k p (decide (t159 > 9)))) (fun k => ?_) (Evs.bind hR ?_)
        · try dsimp only
          rw [decide_eq_true hN, if_pos rfl]
        · by_cases h9 : (roomsOf (numsOf p)).length ≤ 9
          · refine Evs.step (h := fun k => spec_PlanIn.l0 k p ((0 : Nat) : Int)) (fun k => ?_) ?_
            · try dsimp only
              rw [planIn_j0]
              rw [decide_eq_false (by omega), if_neg (by simp)]
              rfl
            · have := planIn_l0 hC (roomsOf (numsOf p)).length 0 (by omega)
              rw [List.drop_zero, full_iff hC] at this
              by_cases hsum : sumArea (roomsOf (numsOf p)) = (p.length : Int) * (wideOf (numsOf p) : Int)
              · rw [decide_eq_true hsum] at this
                rw [if_pos ⟨h9, hsum, hN⟩]
                exact this
              · rw [decide_eq_false hsum] at this
                rw [if_neg (fun hh => hsum hh.2.1)]
                exact this
          · rw [if_neg (fun hh => h9 hh.1)]
            refine Evs.step (h := fun _ => some false) (fun k => ?_) (Evs.const _)
            try dsimp only
            rw [planIn_j0]
            rw [decide_eq_true (by omega), if_pos rfl]
      · rw [if_neg (fun hh => hN hh.2.2)]
        refine Evs.congr (h := fun k => spec_PlanIn.j0 k p true) (fun k => ?_) (Evs.step (h := fun _ => some false) (fun k => ?_) (Evs.const _))
        · try dsimp only
          rw [decide_eq_false hN, if_neg (by simp)]
        · rw [planIn_j0]
          rw [if_pos rfl]
end Go.Proofs.Ytjaolkfjpnpglaa.Hd
/- Plain laws, no program: other names for the rooms give the same plan; the reference's l1Done is the plan of the letters' numbers. -/
namespace Go.Proofs.Ytjaolkfjpnpglaa.Hd
open Go.RowKit Go.Proofs.YtjaolkfjpnpglaaW.PrintWords Go.Proofs.YtjaolkfjpnpglaaW.PrintLast Go.Proofs.YtjaolkfjpnpglaaW.PrintMore Go.Proofs.Ytjaolkfjpnpglaa.PB
set_option linter.unusedVariables false
set_option linter.unusedSimpArgs false
def mapG (f : Int → Int) (rows : List (List Int)) : List (List Int) := rows.map fun r => r.map f
def InjOn (f : Int → Int) (S : Int → Prop) : Prop := ∀ a b, S a → S b → f a = f b → a = b
theorem idxOf_map (f : Int → Int) (S : Int → Prop) (hf : InjOn f S) (x : Int) (hx : S x) : ∀ L : List Int, (∀ y ∈ L, S y) → (L.map f).idxOf (f x) = L.idxOf x
  | [], _ => rfl
  | y :: r, h => by
    rw [List.map_cons, List.idxOf_cons, List.idxOf_cons]
    by_cases he : y = x
    · subst he; simp
    · have : f y ≠ f x := fun e => he (hf y x (h y List.mem_cons_self) hx e)
      have h1 : (f y == f x) = false := by simp [this]
      have h2 : (y == x) = false := by simp [he]
      rw [h1, h2, idxOf_map f S hf x hx r (fun z hz => h z (List.mem_cons_of_mem _ hz))]
theorem pushL_map (f : Int → Int) (S : Int → Prop) (hf : InjOn f S) (x : Int) (hx : S x) (o : List Int) (ho : ∀ y ∈ o, S y) : pushL (o.map f) (f x) = (pushL o x).map f := by
  have hiff : f x ∈ o.map f ↔ x ∈ o := by
    rw [List.mem_map]
    constructor
    · rintro ⟨y, hy, e⟩
      rw [← hf y x (ho y hy) hx e]
      exact hy
    · exact fun h => ⟨x, h, rfl⟩
  unfold pushL
  by_cases h : x ∈ o
  · rw [if_pos h, if_pos (hiff.2 h)]
  · rw [if_neg h, if_neg (fun hh => h (hiff.1 hh))]
    simp
theorem pushL_all {S : Int → Prop} {x : Int} (hx : S x) {o : List Int} (ho : ∀ y ∈ o, S y) : ∀ y ∈ pushL o x, S y := by
  intro y hy
  unfold pushL at hy
  split at hy
  · exact ho y hy
  · rcases List.mem_append.1 hy with h | h
    · exact ho y h
    · simp at h; subst h; exact hx
theorem ordL_map (f : Int → Int) (S : Int → Prop) (hf : InjOn f S) : ∀ (xs o : List Int), (∀ y ∈ xs, S y) → (∀ y ∈ o, S y) → ordL (xs.map f) (o.map f) = (ordL xs o).map f
  | [], o, _, _ => rfl
  | x :: r, o, h, ho => by
    show ordL (r.map f) (pushL (o.map f) (f x)) = (ordL r (pushL o x)).map f
    have hx := h x List.mem_cons_self
    rw [pushL_map f S hf x hx o ho]
    exact ordL_map f S hf r (pushL o x) (fun z hz => h z (List.mem_cons_of_mem _ hz)) (pushL_all hx ho)
theorem mapG_length (f : Int → Int) (rows : List (List Int)) : (mapG f rows).length = rows.length := by simp [mapG]
theorem mapG_flatten (f : Int → Int) (rows : List (List Int)) : (mapG f rows).flatten = rows.flatten.map f := by
  unfold mapG
  rw [List.map_flatten]
theorem mapG_wide (f : Int → Int) (rows : List (List Int)) : wideOf (mapG f rows) = wideOf rows := by
  unfold wideOf mapG
  cases rows with
  | nil => rfl
  | cons a r => simp
theorem mapG_shape (f : Int → Int) (rows : List (List Int)) : shapeOk (mapG f rows) = shapeOk rows := by
  rw [Bool.eq_iff_iff, shapeOk_iff, shapeOk_iff, mapG_length, mapG_wide]
  have : (∀ r ∈ mapG f rows, r.length = wideOf rows) ↔ (∀ r ∈ rows, r.length = wideOf rows) := by
    constructor
    · intro h r hr
      have := h (r.map f) (List.mem_map.2 ⟨r, hr, rfl⟩)
      simpa using this
    · intro h r hr
      obtain ⟨a, ha, rfl⟩ := List.mem_map.1 hr
      rw [List.length_map]
      exact h a ha
  rw [this]
def Vals (rows : List (List Int)) (x : Int) : Prop := x ∈ rows.flatten
theorem ordAll_map {f : Int → Int} {rows : List (List Int)} (hf : InjOn f (Vals rows)) : ordAll (mapG f rows) = (ordAll rows).map f := by
  unfold ordAll
  rw [mapG_flatten]
  exact ordL_map f (Vals rows) hf rows.flatten [] (fun y hy => hy) (by simp)
theorem ordAll_vals (rows : List (List Int)) : ∀ y ∈ ordAll rows, Vals rows y := by
  intro y hy
  rcases ordL_sub _ _ y hy with h | h
  · cases h
  · exact h
theorem canon_map {f : Int → Int} {rows : List (List Int)} (hf : InjOn f (Vals rows)) : canon (mapG f rows) = canon rows := by
  unfold canon canonL
  rw [ordAll_map hf]
  unfold mapG
  rw [List.map_map]
  apply List.map_congr_left
  intro r hr
  show (r.map f).map _ = _
  rw [List.map_map]
  apply List.map_congr_left
  intro x hx
  show (((ordAll rows).map f).idxOf (f x) : Int) = _
  rw [idxOf_map f (Vals rows) hf x (List.mem_flatten.2 ⟨r, hr, hx⟩) _ (ordAll_vals rows)]
theorem valAt_map {rows : List (List Int)} {wi r c : Nat} (h : Rect wi rows) (f : Int → Int) (hr : r < rows.length) (hc : c < wi) : valAt (mapG f rows) r c = f (valAt rows r c) := by
  have := congrArg (fun R => valAt R r c) (rect_map h f)
  unfold mapG
  rw [show valAt (rows.map fun r => r.map f) r c = valAt (gridOf rows.length wi fun r c => f (valAt rows r c)) r c from this, valAt_gridOf hr hc]
theorem val_mem {rows : List (List Int)} {wi r c : Nat} (h : Rect wi rows) (hr : r < rows.length) (hc : c < wi) : Vals rows (valAt rows r c) := by
  obtain ⟨row, h1, h2⟩ := valAt_get h hr hc
  exact List.mem_flatten.2 ⟨row, List.mem_of_getElem? h1, List.mem_of_getElem? h2⟩
theorem stAt_map {f : Int → Int} {rows : List (List Int)} {wi : Nat} (h : Rect wi rows) (hf : InjOn f (Vals rows)) : ∀ n, n ≤ rows.length * wi → stAt (mapG f rows) wi n = ((stAt rows wi n).1.map f, (stAt rows wi n).2)
  | 0, _ => rfl
  | n + 1, hn => by
    have hwi : 0 < wi := by
      rcases Nat.eq_zero_or_pos wi with h0 | h0
      · subst h0; simp at hn
      · exact h0
    have hr : n / wi < rows.length := by rw [Nat.div_lt_iff_lt_mul hwi]; omega
    have hc := Nat.mod_lt n hwi
    have hvals : ∀ y ∈ (stAt rows wi n).1, Vals rows y := by
      rw [stAt_ord h n (by omega)]
      intro y hy
      rcases ordL_sub _ _ y hy with h1 | h1
      · cases h1
      · exact List.mem_of_mem_take h1
    have hv := val_mem h hr hc
    simp only [stAt]
    rw [stAt_map h hf n (by omega), valAt_map h f hr hc]
    have hiff : f (valAt rows (n / wi) (n % wi)) ∈ (stAt rows wi n).1.map f ↔ valAt rows (n / wi) (n % wi) ∈ (stAt rows wi n).1 := by
      rw [List.mem_map]
      constructor
      · rintro ⟨y, hy, e⟩
        rw [← hf y _ (hvals y hy) hv e]
        exact hy
      · exact fun h => ⟨_, h, rfl⟩
    unfold stepS
    by_cases hm : valAt rows (n / wi) (n % wi) ∈ (stAt rows wi n).1
    · rw [if_pos hm, if_pos (hiff.2 hm)]
      simp only
      rw [idxOf_map f (Vals rows) hf _ hv _ hvals]
    · rw [if_neg hm, if_neg (fun hh => hm (hiff.1 hh))]
      simp
theorem rooms_map {f : Int → Int} {rows : List (List Int)} (hs : shapeOk rows = true) (hf : InjOn f (Vals rows)) : roomsOf (mapG f rows) = roomsOf rows := by
  unfold roomsOf
  rw [mapG_length, mapG_wide, stAt_map (shape_rect hs) hf _ (Nat.le_refl _)]
theorem settled_map {f : Int → Int} {rows : List (List Int)} (hf : InjOn f (Vals rows)) : settledF (mapG f rows) = settledF rows := by
  by_cases hs : shapeOk rows = true
  · rw [settled_shape hs, settled_shape (by rw [mapG_shape]; exact hs), rooms_map hs hf, canon_map hf, mapG_length, mapG_wide]
  · unfold settledF
    rw [if_neg hs, if_neg (by rw [mapG_shape]; exact hs)]
theorem plan_map {f : Int → Int} {rows : List (List Int)} (hf : InjOn f (Vals rows)) : planF (mapG f rows) = planF rows := by
  unfold planF
  rw [settled_map hf]
/-! ### l1Done -/
def doneF (t : List ByteArray) : List ByteArray × Bool := if t.all okText = true then planF (numsOf t) else ([], false)
theorem planF_shape {rows : List (List Int)} (h : shapeOk rows = true) : planF rows = if (roomsOf rows).length ≤ 9 ∧ sumArea (roomsOf rows) = (rows.length : Int) * (wideOf rows : Int) then (textOf (canon rows), true) else ([], false) := by
  unfold planF
  rw [settled_shape h]
  by_cases h9 : (roomsOf rows).length ≤ 9
  · rw [if_pos h9]
    by_cases hs : sumArea (roomsOf rows) = (rows.length : Int) * (wideOf rows : Int)
    · rw [decide_eq_true hs, if_pos ⟨h9, hs⟩]
    · rw [decide_eq_false hs, if_neg (fun hh => hs hh.2)]
  · rw [if_neg h9, if_neg (fun hh => h9 hh.1)]
theorem planF_noshape {rows : List (List Int)} (h : shapeOk rows = false) : planF rows = ([], false) := by
  unfold planF settledF
  rw [if_neg (by rw [h]; simp)]
/-- The numbers of the names are the numbers, by other names. -/
theorem names_nums {rows : List (List Int)} (h : shapeOk rows = true) : numsOf (textOf (canon rows)) = mapG (fun x => 97 + ((ordAll rows).idxOf x : Int)) rows := by
  rw [numsOf_textOf _ (canon_val h)]
  unfold canon canonL mapG
  rw [List.map_map]
  apply List.map_congr_left
  intro r hr
  show (r.map _).map _ = _
  rw [List.map_map]
  rfl
theorem names_inj (rows : List (List Int)) : InjOn (fun x => 97 + ((ordAll rows).idxOf x : Int)) (Vals rows) := by
  intro a b ha hb e
  have e2 : (ordAll rows).idxOf a = (ordAll rows).idxOf b := by
    have : (97 : Int) + ((ordAll rows).idxOf a : Int) = 97 + ((ordAll rows).idxOf b : Int) := e
    omega
  have h1 := List.idxOf_lt_length_of_mem (ordL_mem rows.flatten [] a ha)
  have h2 := List.idxOf_lt_length_of_mem (ordL_mem rows.flatten [] b hb)
  have e3 : (ordAll rows)[(ordAll rows).idxOf a]'h1 = a := List.getElem_idxOf h1
  have e4 : (ordAll rows)[(ordAll rows).idxOf b]'h2 = b := List.getElem_idxOf h2
  rw [← e3, ← e4]
  congr 1
/-- The names' plan. -/
theorem names_plan {rows : List (List Int)} (h : shapeOk rows = true) : planB (textOf (canon rows)) = decide ((roomsOf rows).length ≤ 9 ∧ sumArea (roomsOf rows) = (rows.length : Int) * (wideOf rows : Int)) := by
  have hn := names_nums h
  have hinj := names_inj rows
  have hl : (textOf (canon rows)).length = rows.length := by simp [textOf, canon, canonL]
  have hnm : namesOf (textOf (canon rows)) = textOf (canon rows) := by
    unfold namesOf
    rw [hn, canon_map hinj]
  unfold planB
  cases hG : gridOk (textOf (canon rows))
  · rw [floorF_nogrid hG]
    have : ¬ (roomsOf rows).length ≤ 9 := by
      intro h9
      have hL := rooms_len h
      have ht : gridOk (textOf (canon rows)) = true := by
        unfold gridOk
        rw [Bool.and_eq_true, hn, mapG_shape]
        refine ⟨h, ?_⟩
        rw [List.all_eq_true]
        intro s hs
        obtain ⟨r, hr, rfl⟩ := List.mem_map.1 hs
        unfold okText
        rw [bytesOf_rowText r (canon_val h r hr), List.all_eq_true]
        intro x hx
        obtain ⟨y, hy, rfl⟩ := List.mem_map.1 hx
        unfold canon canonL at hr
        obtain ⟨r0, hr0, rfl⟩ := List.mem_map.1 hr
        obtain ⟨z, hz, rfl⟩ := List.mem_map.1 hy
        have := List.idxOf_lt_length_of_mem (ordL_mem rows.flatten [] z (List.mem_flatten.2 ⟨r0, hr0, hz⟩))
        have h3 : (ordAll rows).idxOf z < (ordAll rows).length := this
        simp only [okLetter, Bool.not_eq_true', Bool.or_eq_false_iff, decide_eq_false_iff_not]
        omega
      rw [hG] at ht
      cases ht
    rw [decide_eq_false (fun hh => this hh.1)]
    rfl
  · rw [floorF_grid hG, hn, rooms_map h hinj, mapG_wide, hl]
    by_cases hc : (roomsOf rows).length ≤ 9 ∧ sumArea (roomsOf rows) = (rows.length : Int) * (wideOf rows : Int)
    · rw [if_pos ⟨hc.1, hc.2, hnm⟩, decide_eq_true hc]
      rfl
    · rw [if_neg (fun hh => hc ⟨hh.1, hh.2.1⟩), decide_eq_false hc]
      rfl
theorem l1Done_j0 (k : Nat) (p : List ByteArray) (b : Bool) : spec_l1Done.j0 (k + 1) p b = if b = true then ((spec_l1None.f).bind fun bt177 => (some (bt177.1, bt177.2))) else ((spec_l1Names.f k p).bind fun t181 => (some (t181, true))) := by simp only [spec_l1Done.j0]
theorem l1None_f : spec_l1None.f = some ([], false) := rfl
theorem small_names {p : List ByteArray} (hp : smallP p) : smallP (namesOf p) := by
  have hl : (namesOf p).length = p.length := by simp [namesOf, textOf, canon, canonL, numsOf]
  refine ⟨by rw [hl]; exact hp.1, fun s hs => ?_⟩
  unfold namesOf textOf canon canonL numsOf at hs
  rw [List.map_map, List.map_map] at hs
  obtain ⟨s0, h0, rfl⟩ := List.mem_map.1 hs
  have := hp.2 s0 h0
  have hb := bytesOf_length s0
  show (rowText _).size ≤ _
  unfold rowText rowBytes
  show ((List.map letterOf (List.map _ (bytesOf s0))).toArray).size ≤ _
  simp
  omega
theorem l1Done_ev (t : List ByteArray) (hp : smallP t) : Evs (fun k => spec_l1Done.f k t) (doneF t) := by
  have hg := l1Grid_ev t hp
  cases hG : gridOk t
  · rw [hG] at hg
    have hd : doneF t = ([], false) := by
      unfold doneF
      unfold gridOk at hG
      by_cases ha : t.all okText = true
      · rw [ha, Bool.and_true] at hG
        rw [if_pos ha, planF_noshape hG]
      · rw [if_neg ha]
    rw [hd]
    refine Evs.bind hg ?_
    refine Evs.congr (h := fun k => spec_l1Done.j0 k t true) (fun k => ?_) (Evs.step (h := fun _ => some ([], false)) (fun k => ?_) (Evs.const _))
    · rw [if_neg (by simp)]
    · rw [l1Done_j0, if_pos rfl, l1None_f]
      rfl
  · rw [hG] at hg
    have hG2 := hG
    unfold gridOk at hG2
    rw [Bool.and_eq_true] at hG2
    have hs := hG2.1
    have hd : doneF t = if (roomsOf (numsOf t)).length ≤ 9 ∧ sumArea (roomsOf (numsOf t)) = ((numsOf t).length : Int) * (wideOf (numsOf t) : Int) then (namesOf t, true) else ([], false) := by
      unfold doneF
      rw [if_pos hG2.2, planF_shape hs]
      rfl
    have hn := l1Names_ev t hp (by have := shape_order hs; omega)
    have hpl := PlanIn_ev (namesOf t) (small_names hp)
    rw [show planB (namesOf t) = _ from names_plan hs] at hpl
    rw [hd]
    refine Evs.bind hg ?_
    refine Evs.congr (h := fun k => (spec_l1Names.f k t).bind fun t173 => ((spec_PlanIn.f k t173).bind fun t176 => (spec_l1Done.j0 k t (!t176)))) (fun k => ?_) (Evs.bind hn (Evs.bind hpl ?_))
    · rw [if_pos rfl]
    · by_cases hc : (roomsOf (numsOf t)).length ≤ 9 ∧ sumArea (roomsOf (numsOf t)) = ((numsOf t).length : Int) * (wideOf (numsOf t) : Int)
      · rw [if_pos hc, decide_eq_true hc]
        refine Evs.step (h := fun k => (spec_l1Names.f k t).bind fun t181 => (some (t181, true))) (fun k => ?_) (Evs.bind hn (Evs.const _))
        rw [l1Done_j0, if_neg (by simp)]
      · rw [if_neg hc, decide_eq_false hc]
        refine Evs.step (h := fun _ => some ([], false)) (fun k => ?_) (Evs.const _)
        rw [l1Done_j0, if_pos (by simp), l1None_f]
        rfl
end Go.Proofs.Ytjaolkfjpnpglaa.Hd
/- Plain laws, no program: the statements' helpers on lists of texts: sizes, copies, comparisons, marks. -/
namespace Go.Proofs.Ytjaolkfjpnpglaa.Hd
open Go.RowKit Go.Proofs.YtjaolkfjpnpglaaW.PrintWords Go.Proofs.YtjaolkfjpnpglaaW.PrintLast Go.Proofs.YtjaolkfjpnpglaaW.PrintMore Go.Proofs.Ytjaolkfjpnpglaa.PB
set_option linter.unusedVariables false
set_option linter.unusedSimpArgs false
section
variable {α : Type} {g h : Nat → Option α} {r : α} {c : Prop} [Decidable c]
theorem Evs.pos (hc : c) (hg : Evs g r) : Evs (fun k => if c then g k else h k) r := Evs.congr (fun k => if_pos hc) hg
theorem Evs.neg (hc : ¬ c) (hh : Evs h r) : Evs (fun k => if c then g k else h k) r := Evs.congr (fun k => if_neg hc) hh
end
theorem textOf_len (cs : List (List Int)) : (textOf cs).length = cs.length := by simp [textOf]
theorem planF_len (rows : List (List Int)) : (planF rows).1.length ≤ 6 := by
  cases h : shapeOk rows with
  | false => rw [planF_noshape h]; simp
  | true =>
    rw [planF_shape h]
    split
    · obtain ⟨h1, h2, h3⟩ := (shapeOk_iff _).1 h
      simp [textOf_len, canon, canonL]
      omega
    · simp
theorem ite_len {c : Prop} [Decidable c] {x : List (List Int)} : (if c then planF x else ([], false)).1.length ≤ 6 := by
  split
  · exact planF_len _
  · simp
theorem joinedF_len (p q : List ByteArray) (fit : List (List Int) → List (List Int) → Bool) (how : How2) : (joinedF p q fit how).1.length ≤ 6 := by
  unfold joinedF
  split
  · split
    · exact planF_len _
    · simp
  · simp
theorem remadeF_len (p : List ByteArray) (how : List (List Int) → List Rc → List (List Int)) : (remadeF p how).1.length ≤ 6 := by
  unfold remadeF
  split
  · simp
  · exact planF_len _
/-- No longer than a slice or a string can be. -/
def fits (p : List ByteArray) : Prop := p.length ≤ 9223372036854775807 ∧ ∀ s ∈ p, s.size ≤ 9223372036854775807
theorem sz_loop (l : List ByteArray) (hl : l.length ≤ 1048576) (hs : ∀ s ∈ l, s.size ≤ 9223372036854775807) : ∀ m i (a : Int), i + m = l.length → 0 ≤ a → a ≤ 1048576 → (∀ j, j < i → ∀ s, l[j]? = some s → s.size ≤ 1048576) → ∃ v, Evs (fun k => laws_szStringS.l0 k l a (i : Int)) v ∧ (v < 0 ∨ (smallP l ∧ 0 ≤ v ∧ v ≤ a)) := by
  intro m
  induction m with
  | zero =>
    intro i a hi h0 h1 hj
    refine ⟨a, Evs.step (h := fun _ => some a) (fun k => ?_) (Evs.const _), .inr ⟨⟨hl, fun s hs => ?_⟩, h0, Int.le_refl _⟩⟩
    · conv => lhs; unfold laws_szStringS.l0
      rw [if_neg (by omega)]
    · obtain ⟨j, hj2, e⟩ := List.mem_iff_getElem.1 hs
      exact hj j (by omega) s (by rw [List.getElem?_eq_getElem hj2, e])
  | succ m ih =>
    intro i a hi h0 h1 hj
    obtain ⟨s, hsi⟩ : ∃ s, l[i]? = some s := ⟨_, List.getElem?_eq_getElem (by omega)⟩
    have hsz := hs s (List.mem_of_getElem? hsi)
    by_cases hneg : a - (s.size : Int) < 0
    · refine ⟨-1, Evs.step (h := fun _ => some (-1)) (fun k => ?_) (Evs.const _), .inl (by omega)⟩
      conv => lhs; unfold laws_szStringS.l0
      rw [if_pos (by omega), if_pos (by omega), rdOf_at hsi, wrap64_small (by omega) (by omega), if_pos hneg]
    · obtain ⟨v, hv, hor⟩ := ih (i + 1) (a - (s.size : Int)) (by omega) (by omega) (by omega) (fun j hj1 s1 h1 => by
        rcases Nat.lt_or_eq_of_le (Nat.lt_succ_iff.1 hj1) with h2 | h2
        · exact hj j h2 s1 h1
        · subst h2
          rw [hsi] at h1
          have := Option.some.inj h1
          subst this
          omega)
      refine ⟨v, Evs.step (h := fun k => laws_szStringS.l0 k l (a - (s.size : Int)) ((i + 1 : Nat) : Int)) (fun k => ?_) hv, ?_⟩
      · conv => lhs; unfold laws_szStringS.l0
        rw [if_pos (by omega), if_pos (by omega), rdOf_at hsi, wrap64_small (x := a - (s.size : Int)) (by omega) (by omega), if_neg hneg, wrap_succ (by omega)]
      · rcases hor with h | ⟨h2, h3, h4⟩
        · exact .inl h
        · exact .inr ⟨h2, h3, by omega⟩
theorem sz_ev (l : List ByteArray) (hf : fits l) (a : Int) (h0 : 0 ≤ a) (h1 : a ≤ 1048576) : ∃ v, Evs (fun k => laws_szStringS.f k l a) v ∧ (v < 0 ∨ (smallP l ∧ 0 ≤ v ∧ v ≤ a)) := by
  have hl := hf.1
  by_cases hneg : a - (l.length : Int) < 0
  · refine ⟨-1, Evs.congr (h := fun _ => some (-1)) (fun k => ?_) (Evs.const _), .inl (by omega)⟩
    unfold laws_szStringS.f
    rw [wrap64_small (by omega) (by omega), if_pos hneg]
  · obtain ⟨v, hv, hor⟩ := sz_loop l (by omega) hf.2 l.length 0 (a - (l.length : Int)) (by omega) (by omega) (by omega) (fun j hj => by omega)
    refine ⟨v, Evs.congr (fun k => ?_) hv, ?_⟩
    · unfold laws_szStringS.f
      rw [wrap64_small (by omega) (by omega), if_neg hneg]
      rfl
    · rcases hor with h | ⟨h2, h3, h4⟩
      · exact .inl h
      · exact .inr ⟨h2, h3, by omega⟩
theorem to_loop (l : List ByteArray) (hl : l.length ≤ 1048576) : ∀ m i, i + m = l.length → Evs (fun k => laws_toStringS.l0 k l (l.take i ++ List.replicate m (⟨#[]⟩ : ByteArray)) (i : Int)) l := by
  intro m
  induction m with
  | zero =>
    intro i hi
    refine Evs.step (h := fun _ => some l) (fun k => ?_) (Evs.const _)
    conv => lhs; unfold laws_toStringS.l0
    rw [if_neg (by omega), List.take_of_length_le (by omega)]
    simp
  | succ m ih =>
    intro i hi
    obtain ⟨s, hsi⟩ : ∃ s, l[i]? = some s := ⟨_, List.getElem?_eq_getElem (by omega)⟩
    refine Evs.step (h := fun k => laws_toStringS.l0 k l (l.take (i + 1) ++ List.replicate m (⟨#[]⟩ : ByteArray)) ((i + 1 : Nat) : Int)) (fun k => ?_) (ih (i + 1) (by omega))
    conv => lhs; unfold laws_toStringS.l0
    have hset : (l.take i ++ List.replicate (m + 1) (⟨#[]⟩ : ByteArray)).set i s = l.take (i + 1) ++ List.replicate m (⟨#[]⟩ : ByteArray) := by
      rw [List.set_append_right _ _ (by simp; omega), show i - (l.take i).length = 0 by simp; omega, List.replicate_succ, List.set_cons_zero, List.take_add_one, hsi]
      simp
    rw [if_pos (by omega), if_pos (by omega), if_pos (by simp; omega), rdOf_at hsi, Int.toNat_natCast, hset, wrap_succ (by omega)]
theorem toS_ev (l : List ByteArray) (hl : l.length ≤ 1048576) : Evs (fun k => laws_toStringS.f k l) l := by
  refine Evs.congr (fun k => ?_) (to_loop l hl l.length 0 (by omega))
  unfold laws_toStringS.f
  rw [if_pos (by omega), if_pos (by omega), Int.toNat_natCast]
  simp
theorem eq_loop (p q : List ByteArray) (hl : p.length = q.length) (hb : p.length ≤ 1048576) : ∀ m i, i + m = p.length → p.take i = q.take i → Evs (fun k => laws_eqStringS.l0 k p q (i : Int)) (decide (p = q)) := by
  intro m
  induction m with
  | zero =>
    intro i hi ht
    have e : p = q := by
      rw [show i = p.length by omega, List.take_length, hl, List.take_length] at ht
      exact ht
    refine Evs.step (h := fun _ => some (decide (p = q))) (fun k => ?_) (Evs.const _)
    conv => lhs; unfold laws_eqStringS.l0
    rw [if_neg (by omega), decide_eq_true e]
  | succ m ih =>
    intro i hi ht
    by_cases he : p[i] = q[i]
    · refine Evs.step (h := fun k => laws_eqStringS.l0 k p q ((i + 1 : Nat) : Int)) (fun k => ?_) (ih (i + 1) (by omega) (by
        rw [List.take_add_one, List.take_add_one, ht, List.getElem?_eq_getElem (by omega), List.getElem?_eq_getElem (by omega), he]))
      conv => lhs; unfold laws_eqStringS.l0
      rw [if_pos (by omega), if_pos (by omega), if_pos (by omega), rdOf_get p i (by omega), rdOf_get q i (by omega), if_pos (toList_inj.2 he), wrap_succ (by omega)]
    · have hne : p ≠ q := by rintro rfl; exact he rfl
      refine Evs.step (h := fun _ => some (decide (p = q))) (fun k => ?_) (Evs.const _)
      conv => lhs; unfold laws_eqStringS.l0
      rw [if_pos (by omega), if_pos (by omega), if_pos (by omega), rdOf_get p i (by omega), rdOf_get q i (by omega), if_neg (fun h => he (toList_inj.1 h)), decide_eq_false hne]
theorem eqS_ev (p q : List ByteArray) (hb : p.length ≤ 1048576) : Evs (fun k => laws_eqStringS.f k p q) (decide (p = q)) := by
  by_cases h : p.length = q.length
  · refine Evs.congr (fun k => ?_) (eq_loop p q h hb p.length 0 (by omega) (by simp))
    unfold laws_eqStringS.f
    rw [if_pos (by omega)]
    rfl
  · have hne : p ≠ q := by rintro rfl; exact h rfl
    refine Evs.congr (h := fun _ => some (decide (p = q))) (fun k => ?_) (Evs.const _)
    unfold laws_eqStringS.f
    rw [if_neg (by omega), decide_eq_false hne]
theorem eqS_same (p : List ByteArray) (hb : p.length ≤ 1048576) : Evs (fun k => laws_eqStringS.f k p p) true := by
  have := eqS_ev p p hb
  rwa [decide_eq_true rfl] at this
/-! ### marks -/
theorem append_size (a b : ByteArray) : (a ++ b).size = a.size + b.size := by simp
theorem mark_loop : ∀ (B n : Nat) (out : ByteArray), n ≤ B → out.size + n ≤ 1099511627776 → ∃ s, Evs (fun k => laws_markText.l0 k (n : Int) out) s
  | 0, n, out, hn, hb => by
    refine ⟨(⟨#[109]⟩ : ByteArray) ++ out, Evs.step (h := fun _ => some ((⟨#[109]⟩ : ByteArray) ++ out)) (fun k => ?_) (Evs.const _)⟩
    conv => lhs; unfold laws_markText.l0
    rw [if_neg (by omega), if_pos (by omega)]
  | B + 1, n, out, hn, hb => by
    rcases Nat.eq_zero_or_pos n with h0 | h0
    · subst h0
      refine ⟨(⟨#[109]⟩ : ByteArray) ++ out, Evs.step (h := fun _ => some ((⟨#[109]⟩ : ByteArray) ++ out)) (fun k => ?_) (Evs.const _)⟩
      conv => lhs; unfold laws_markText.l0
      rw [if_neg (by omega), if_pos (by omega)]
    · have hsz : (strOfNums [(wrap64 (48 + (Int.tmod (n : Int) 10))) % 256]).size = 1 := rfl
      obtain ⟨s, hs⟩ := mark_loop B (n / 10) (strOfNums [(wrap64 (48 + (Int.tmod (n : Int) 10))) % 256] ++ out) (by omega) (by rw [append_size, hsz]; omega)
      refine ⟨s, Evs.step (h := fun k => laws_markText.l0 k ((n / 10 : Nat) : Int) (strOfNums [(wrap64 (48 + (Int.tmod (n : Int) 10))) % 256] ++ out)) (fun k => ?_) hs⟩
      conv => lhs; unfold laws_markText.l0
      have hd : Int.tdiv (n : Int) 10 = ((n / 10 : Nat) : Int) := by rw [Int.tdiv_eq_ediv_of_nonneg (by omega)]; omega
      rw [if_pos (by omega)]
      simp only [Option.bind_some]
      rw [hsz, if_pos (by omega), hd, wrap64_small (x := ((n / 10 : Nat) : Int)) (by omega) (by omega)]
theorem mark_ex (n : Nat) : ∃ s, n ≤ 1099511627776 → Evs (fun k => laws_markText.f k (n : Int)) s := by
  by_cases hn : n ≤ 1099511627776
  · rcases Nat.eq_zero_or_pos n with h0 | h0
    · subst h0
      refine ⟨⟨#[109, 48]⟩, fun _ => Evs.congr (h := fun _ => some (⟨#[109, 48]⟩ : ByteArray)) (fun k => ?_) (Evs.const _)⟩
      unfold laws_markText.f
      rw [if_pos (by omega)]
    · obtain ⟨s, hs⟩ := mark_loop n n ⟨#[]⟩ (Nat.le_refl _) (by show 0 + n ≤ _; omega)
      refine ⟨s, fun _ => Evs.congr (fun k => ?_) hs⟩
      unfold laws_markText.f
      rw [if_neg (by omega)]
  · exact ⟨⟨#[]⟩, fun h => absurd h hn⟩
/-- The text of a mark. -/
noncomputable def mkT (n : Nat) : ByteArray := (mark_ex n).choose
theorem mkT_ev (n : Nat) (hn : n ≤ 1099511627776) : Evs (fun k => laws_markText.f k (n : Int)) (mkT n) := (mark_ex n).choose_spec hn
noncomputable def marksOf (a n : Nat) : List ByteArray := (List.range n).map fun i => mkT (a + i)
theorem marksOf_length (a n : Nat) : (marksOf a n).length = n := by simp [marksOf]
theorem markS_loop (l : List ByteArray) (hl : l.length ≤ 1048576) (a : Nat) (ha : a ≤ 2097153) : ∀ m i, i + m = l.length → Evs (fun k => laws_markStringS.l0 k (marksOf a i ++ l.drop i) ((a + i : Nat) : Int) (i : Int)) (((a + l.length : Nat) : Int), marksOf a l.length) := by
  intro m
  induction m with
  | zero =>
    intro i hi
    obtain rfl : i = l.length := by omega
    refine Evs.step (h := fun _ => some (((a + l.length : Nat) : Int), marksOf a l.length)) (fun k => ?_) (Evs.const _)
    conv => lhs; unfold laws_markStringS.l0
    rw [if_neg (by simp [marksOf_length])]
    simp
  | succ m ih =>
    intro i hi
    have hset : (marksOf a i ++ l.drop i).set i (mkT (a + i)) = marksOf a (i + 1) ++ l.drop (i + 1) := by
      rw [List.set_append_right _ _ (by rw [marksOf_length]; exact Nat.le_refl _), marksOf_length, Nat.sub_self, List.drop_eq_getElem_cons (by omega), List.set_cons_zero]
      unfold marksOf
      rw [List.range_succ, List.map_append]
      simp
    refine Evs.step (h := fun k => (laws_markText.f k ((a + i : Nat) : Int)).bind fun t220 => laws_markStringS.l0 k ((marksOf a i ++ l.drop i).set i t220) ((a + (i + 1) : Nat) : Int) ((i + 1 : Nat) : Int)) (fun k => ?_) (Evs.bind (mkT_ev (a + i) (by omega)) (by rw [hset]; exact ih (i + 1) (by omega)))
    conv => lhs; unfold laws_markStringS.l0
    rw [if_pos (by simp [marksOf_length]; omega)]
    congr 1
    funext t
    have e : wrap64 (((a + i : Nat) : Int) + 1) = ((a + (i + 1) : Nat) : Int) := by rw [wrap64_small (by omega) (by omega)]; omega
    rw [if_pos (by omega), Int.toNat_natCast, wrap_succ (i := i) (by omega), e]
theorem markS_ev (l : List ByteArray) (hl : l.length ≤ 1048576) (a : Nat) (ha : a ≤ 2097153) : Evs (fun k => laws_markStringS.f k l (a : Int)) (((a + l.length : Nat) : Int), marksOf a l.length) := by
  have := markS_loop l hl a ha l.length 0 (by omega)
  refine Evs.congr (fun k => ?_) this
  unfold laws_markStringS.f
  simp [marksOf]
theorem heldS_loop (n : Nat) (hl : n ≤ 1048576) (a : Nat) (ha : a ≤ 2097153) : ∀ m i, i + m = n → Evs (fun k => laws_heldStringS.l0 k (marksOf a n) ((a + i : Nat) : Int) (i : Int)) ((a + n : Nat) : Int) := by
  intro m
  induction m with
  | zero =>
    intro i hi
    obtain rfl : i = n := by omega
    refine Evs.step (h := fun _ => some ((a + i : Nat) : Int)) (fun k => ?_) (Evs.const _)
    conv => lhs; unfold laws_heldStringS.l0
    rw [if_neg (by simp [marksOf_length])]
  | succ m ih =>
    intro i hi
    have hget : (marksOf a n)[i]? = some (mkT (a + i)) := by
      unfold marksOf
      rw [List.getElem?_map, List.getElem?_range (by omega)]
      rfl
    refine Evs.step (h := fun k => (laws_markText.f k ((a + i : Nat) : Int)).bind fun t223 => if (mkT (a + i)).toList = t223.toList then laws_heldStringS.l0 k (marksOf a n) ((a + (i + 1) : Nat) : Int) ((i + 1 : Nat) : Int) else some (-1)) (fun k => ?_) (Evs.bind (mkT_ev (a + i) (by omega)) (Evs.congr (fun k => ?_) (ih (i + 1) (by omega))))
    · conv => lhs; unfold laws_heldStringS.l0
      rw [if_pos (by rw [marksOf_length]; omega), if_pos (by omega)]
      congr 1
      funext t
      have e : wrap64 (((a + i : Nat) : Int) + 1) = ((a + (i + 1) : Nat) : Int) := by rw [wrap64_small (by omega) (by omega)]; omega
      rw [rdOf_at hget, wrap_succ (i := i) (by omega), e]
    · rw [if_pos rfl]
theorem heldS_ev (n : Nat) (hl : n ≤ 1048576) (a : Nat) (ha : a ≤ 2097153) : Evs (fun k => laws_heldStringS.f k (marksOf a n) (a : Int)) ((a + n : Nat) : Int) := heldS_loop n hl a ha n 0 (by omega)
end Go.Proofs.Ytjaolkfjpnpglaa.Hd
/- impl.PlanUnder, in the shape of the print's contracts. -/
namespace Go.Proofs.Ytjaolkfjpnpglaa.Hd
open Go.RowKit Go.Proofs.YtjaolkfjpnpglaaW.PrintWords Go.Proofs.YtjaolkfjpnpglaaW.PrintLast Go.Proofs.YtjaolkfjpnpglaaW.PrintMore Go.Proofs.Ytjaolkfjpnpglaa.PB
set_option linter.unusedVariables false
set_option linter.unusedSimpArgs false
theorem underF_len (p q : List ByteArray) : (underF p q).1.length ≤ 6 := joinedF_len _ _ _ _
def impl_PlanUnder.f (l0 l1 : List ByteArray) : Option (List ByteArray × Bool) := if smallB l0 = true ∧ smallB l1 = true then some (underF l0 l1) else none
theorem impl_PlanUnder.calls (A0 : Option Addr) (c0 : Nat) (l0 : List ByteArray) (A1 : Option Addr) (c1 : Nat) (l1 : List ByteArray) (r1 : List ByteArray) (r2 : Bool) (w : World) (hr0 : Kd.C Kd.string w A0 l0.length l0) (hc0 : l0.length ≤ c0) (hr1 : Kd.C Kd.string w A1 l1.length l1) (hc1 : l1.length ≤ c1) (h : impl_PlanUnder.f l0 l1 = some (r1, r2)) :
    Calls Try.prog 23 #[.slice A0 l0.length c0, .slice A1 l1.length c1] w fun e w' => ∃ v0_ : Value, e = .returned (.tuple #[v0_, .bool r2]) ∧ Kd.R Kd.string 9 w' w.heap.size (fun _ => True) v0_ r1 ∧ Below w.heap.size w w' := by
  unfold impl_PlanUnder.f at h
  split at h
  · rename_i hs
    have e := Option.some.inj h
    have := PlanUnder_calls A0 c0 l0 A1 c1 l1 w hr0 hc0 ((smallB_iff _).1 hs.1) hr1 hc1 ((smallB_iff _).1 hs.2)
    rw [e] at this
    exact this
  · cases h
end Go.Proofs.Ytjaolkfjpnpglaa.Hd
namespace Go.Proofs.Ytjaolkfjpnpglaa.LU
open Go.Proofs.Ytjaolkfjpnpglaa.PB Go.Proofs.Ytjaolkfjpnpglaa.Hd
open Go.RowKit Go.Proofs.YtjaolkfjpnpglaaW.PrintWords Go.Proofs.YtjaolkfjpnpglaaW.PrintLast Go.Proofs.YtjaolkfjpnpglaaW.PrintMore
attribute [local go_sem] max2_int min2_int max_two min_two max_three min_three max_four min_four   -- for this text's walks alone
set_option linter.unusedVariables false
set_option linter.unusedSimpArgs false
def errW : Option Int → Value
  | none => .nilIface
  | some c => .iface 0 (.int .i64 c)
theorem errW_none : errW none = .nilIface := rfl
theorem errW_some (c : Int) : errW (some c) = .iface 0 (.int .i64 c) := rfl
theorem info5 : (Try.prog.info? 5).map (fun i => (i.zero, i.size, i.bytes)) = some (some (.int .u8 0), 1, 1) := by kernel_rfl
theorem info9 : (Try.prog.info? 9).map (fun i => (i.zero, i.size, i.bytes)) = some (some (.string ⟨#[]⟩), 1, 16) := by kernel_rfl
-- the values' own types
def rd_L3 (xs : List (List Int)) (i : Int) : (List Int) := xs.getD i.toNat ([] : List Int)
theorem at_L3 {w : World} {A : Option Addr} {n : Nat} {xs : List (List Int)} (h : Kd.C (Kd.slice 3 (Kd.int .i64)) w A n xs) (i : Int) (h0 : 0 ≤ i) (h1 : i < n) : ∃ ad A0 c0, A = some ad ∧ w.cell? (ad.add i.toNat) = some (.slice A0 (rd_L3 xs i).length c0) ∧ (rd_L3 xs i).length ≤ c0 ∧ (Kd.int .i64).C w A0 (rd_L3 xs i).length (rd_L3 xs i) := by
  obtain ⟨ad, c, e, _, hK, hc0⟩ := Kd.C_get h ([] : List Int) i h0 h1
  have hc : ∀ j u, c[j]? = some u → w.cell? (ad.add (i.toNat * 1 + j)) = some u := hc0
  obtain ⟨A0, c0, rfl, l0, g0⟩ := hK
  exact ⟨ad, A0, c0, e, by have hq := hc 0 _ rfl; rwa [Nat.mul_one, Nat.add_zero] at hq, l0, g0⟩
/-! #### struct type 73 -/
structure S73 where
  f0 : Int
  f1 : Int
  f2 : Int
  f3 : Int
def z73 : S73 := ⟨(0 : Int), (0 : Int), (0 : Int), (0 : Int)⟩
def k73 : Kd S73 := Kd.iso (Kd.pair (Kd.int .i64) (Kd.pair (Kd.int .i64) (Kd.pair (Kd.int .i64) (Kd.int .i64)))) (fun x : S73 => (x.f0, x.f1, x.f2, x.f3))
theorem k73_open {w : World} {x : S73} {cs : List Value} (h : k73.K w x cs) : cs = [.int .i64 x.f0, .int .i64 x.f1, .int .i64 x.f2, .int .i64 x.f3] := by
  obtain ⟨_, _, rfl, rfl, ⟨_, _, rfl, rfl, ⟨_, _, rfl, rfl, rfl⟩⟩⟩ := h
  exact rfl
theorem k73_openM {w : World} {base : Nat} {ok : Nat → Prop} {x : S73} {cs : List Value} (h : k73.M w base ok x cs) : cs = [.int .i64 x.f0, .int .i64 x.f1, .int .i64 x.f2, .int .i64 x.f3] := by
  obtain ⟨_, _, rfl, rfl, ⟨_, _, rfl, rfl, ⟨_, _, rfl, rfl, rfl⟩⟩⟩ := h
  exact rfl
theorem k73_mk (w : World) (x : S73)  : k73.K w x [.int .i64 x.f0, .int .i64 x.f1, .int .i64 x.f2, .int .i64 x.f3] := ⟨[.int .i64 x.f0], [.int .i64 x.f1, .int .i64 x.f2, .int .i64 x.f3], rfl, rfl, ⟨[.int .i64 x.f1], [.int .i64 x.f2, .int .i64 x.f3], rfl, rfl, ⟨[.int .i64 x.f2], [.int .i64 x.f3], rfl, rfl, rfl⟩⟩⟩
theorem k73_mkM (w : World) (base : Nat) (ok : Nat → Prop) (x : S73)  : k73.M w base ok x [.int .i64 x.f0, .int .i64 x.f1, .int .i64 x.f2, .int .i64 x.f3] := ⟨[.int .i64 x.f0], [.int .i64 x.f1, .int .i64 x.f2, .int .i64 x.f3], rfl, rfl, ⟨[.int .i64 x.f1], [.int .i64 x.f2, .int .i64 x.f3], rfl, rfl, ⟨[.int .i64 x.f2], [.int .i64 x.f3], rfl, rfl, rfl⟩⟩⟩
def rd_T73 (xs : List S73) (i : Int) : S73 := xs.getD i.toNat z73
theorem at_T73 {w : World} {A : Option Addr} {n : Nat} {xs : List S73} (h : Kd.C k73 w A n xs) (i : Int) (h0 : 0 ≤ i) (h1 : i < n) : ∃ ad , A = some ad ∧ w.cell? (ad.add (i.toNat * 4)) = some (.int .i64 (rd_T73 xs i).f0) ∧ w.cell? ⟨(ad.add (i.toNat * 4)).block, (ad.add (i.toNat * 4)).off + 1, none⟩ = some (.int .i64 (rd_T73 xs i).f1) ∧ w.cell? ⟨(ad.add (i.toNat * 4)).block, (ad.add (i.toNat * 4)).off + 2, none⟩ = some (.int .i64 (rd_T73 xs i).f2) ∧ w.cell? ⟨(ad.add (i.toNat * 4)).block, (ad.add (i.toNat * 4)).off + 3, none⟩ = some (.int .i64 (rd_T73 xs i).f3) := by
  obtain ⟨ad, c, e, _, hK, hc0⟩ := Kd.C_get h z73 i h0 h1
  have hc : ∀ j u, c[j]? = some u → w.cell? (ad.add (i.toNat * 4 + j)) = some u := hc0
  obtain rfl := k73_open hK
  exact ⟨ad, e, hc 0 _ rfl, by rw [← add_field _ _ 1 (by omega)]; exact hc 1 _ rfl, by rw [← add_field _ _ 2 (by omega)]; exact hc 2 _ rfl, by rw [← add_field _ _ 3 (by omega)]; exact hc 3 _ rfl⟩
end Go.Proofs.Ytjaolkfjpnpglaa.LU
namespace Go.Proofs.Ytjaolkfjpnpglaa.LU
open Go.Proofs.Ytjaolkfjpnpglaa.PB Go.Proofs.Ytjaolkfjpnpglaa.Hd
open Go.RowKit Go.Proofs.YtjaolkfjpnpglaaW.PrintWords Go.Proofs.YtjaolkfjpnpglaaW.PrintLast Go.Proofs.YtjaolkfjpnpglaaW.PrintMore
attribute [local go_sem] max2_int min2_int max_two min_two max_three min_three max_four min_four   -- for this text's walks alone
set_option linter.unusedVariables false
set_option linter.unusedSimpArgs false
/-! ### laws_FnExactPlanUnder: function 4 -/
mutual
def laws_FnExactPlanUnder.j0 : Nat → List ByteArray → List ByteArray → List ByteArray → Bool → List ByteArray → List ByteArray → List ByteArray → Bool → Bool → Option (Bool)
  | 0, _, _, _, _, _, _, _, _, _ => none
  | k + 1, x0, x1, x6, x7, x8, x9, x10, x11, x53 => if x53 = true then (some false) else ((laws_toStringS.f k x0).bind fun t265 => ((laws_eqStringS.f k x8 t265).bind fun t268 => (if t268 = true then ((laws_toStringS.f k x1).bind fun t269 => ((laws_eqStringS.f k x9 t269).bind fun t272 => (if t272 = true then ((laws_markStringS.f k x8 1).bind fun bt273 => ((laws_markStringS.f k x9 bt273.1).bind fun bt275 => (if bt275.1 < 0 then (laws_FnExactPlanUnder.j1 k x0 x1 x6 x7 x10 true) else ((laws_eqStringS.f k x10 x6).bind fun t277 => (if t277 = true then (laws_FnExactPlanUnder.j1 k x0 x1 x6 x7 x10 (x11 != x7)) else (laws_FnExactPlanUnder.j1 k x0 x1 x6 x7 x10 true)))))) else (some false)))) else (some false))))
def laws_FnExactPlanUnder.j1 : Nat → List ByteArray → List ByteArray → List ByteArray → Bool → List ByteArray → Bool → Option (Bool)
  | 0, _, _, _, _, _, _ => none
  | k + 1, x0, x1, x6, x7, x10, x82 => if x82 = true then (some false) else ((laws_markStringS.f k x10 1).bind fun bt278 => ((laws_heldStringS.f k bt278.2 1).bind fun t280 => (if t280 < 0 then (some false) else (if t280 = bt278.1 then ((laws_toStringS.f k x0).bind fun t281 => ((laws_toStringS.f k x1).bind fun t284 => ((impl_PlanUnder.f t281 t284).bind fun bt287 => ((laws_eqStringS.f k bt287.1 x6).bind fun t291 => (if t291 = true then (laws_FnExactPlanUnder.j2 k bt278.2 bt278.1 (bt287.2 != x7)) else (laws_FnExactPlanUnder.j2 k bt278.2 bt278.1 true)))))) else (some false)))))
def laws_FnExactPlanUnder.j2 : Nat → List ByteArray → Int → Bool → Option (Bool)
  | 0, _, _, _ => none
  | k + 1, x10, x13, x110 => if x110 = true then (some false) else ((laws_heldStringS.f k x10 1).bind fun t292 => (if t292 < 0 then (some false) else (if t292 = x13 then (some true) else (some false))))
end
def laws_FnExactPlanUnder.f (k : Nat) (l0 : List ByteArray) (l1 : List ByteArray) : Option (Bool) := (laws_szStringS.f k l0 1048576).bind fun t242 => (if t242 < 0 then (some true) else ((laws_szStringS.f k l1 t242).bind fun t243 => (if t243 < 0 then (some true) else ((laws_toStringS.f k l0).bind fun t244 => ((laws_toStringS.f k l1).bind fun t247 => ((spec_PlanUnder.f k t244 t247).bind fun bt250 => ((laws_toStringS.f k l0).bind fun t254 => ((laws_toStringS.f k l1).bind fun t257 => ((impl_PlanUnder.f t254 t257).bind fun bt260 => ((laws_eqStringS.f k bt260.1 bt250.1).bind fun t264 => (if t264 = true then (laws_FnExactPlanUnder.j0 k l0 l1 bt250.1 bt250.2 t254 t257 bt260.1 bt260.2 (bt260.2 != bt250.2)) else (laws_FnExactPlanUnder.j0 k l0 l1 bt250.1 bt250.2 t254 t257 bt260.1 bt260.2 true))))))))))))
set_option maxHeartbeats 8000000 in
set_option maxRecDepth 100000 in
theorem laws_FnExactPlanUnder.calls (k : Nat) (A0 : Option Addr) (c0 : Nat) (l0 : List ByteArray) (A1 : Option Addr) (c1 : Nat) (l1 : List ByteArray) (r : Bool) (w : World) (hr0 : Kd.C Kd.string w A0 l0.length l0) (hc0 : l0.length ≤ c0) (hr1 : Kd.C Kd.string w A1 l1.length l1) (hc1 : l1.length ≤ c1) (h : laws_FnExactPlanUnder.f k l0 l1 = some r) :
    Calls Try.prog 4 #[.slice A0 l0.length c0, .slice A1 l1.length c1] w fun e w' => e = .returned (.bool r) ∧ Below w.heap.size w w' := by
  have HR0 := Aside0.mk hr0
  have HC0 := Aside0.mk hc0
  clear hr0 hc0
  have HR1 := Aside0.mk hr1
  have HC1 := Aside0.mk hc1
  clear hr1 hc1
  have HB := Aside0.mk (Below.refl w.heap.size w)
  have H : ((laws_szStringS.f k l0 1048576).bind fun t242 => (if t242 < 0 then (some true) else ((laws_szStringS.f k l1 t242).bind fun t243 => (if t243 < 0 then (some true) else ((laws_toStringS.f k l0).bind fun t244 => ((laws_toStringS.f k l1).bind fun t247 => ((spec_PlanUnder.f k t244 t247).bind fun bt250 => ((laws_toStringS.f k l0).bind fun t254 => ((laws_toStringS.f k l1).bind fun t257 => ((impl_PlanUnder.f t254 t257).bind fun bt260 => ((laws_eqStringS.f k bt260.1 bt250.1).bind fun t264 => (if t264 = true then (laws_FnExactPlanUnder.j0 k l0 l1 bt250.1 bt250.2 t254 t257 bt260.1 bt260.2 (bt260.2 != bt250.2)) else (laws_FnExactPlanUnder.j0 k l0 l1 bt250.1 bt250.2 t254 t257 bt260.1 bt260.2 true))))))))))))) = some r := h
  clear h
  replace H := Option.bind_eq_some_iff.mp H
  obtain ⟨t242, A30, H⟩ := H
  replace H : (if t242 < 0 then (some true) else ((laws_szStringS.f k l1 t242).bind fun t243 => (if t243 < 0 then (some true) else ((laws_toStringS.f k l0).bind fun t244 => ((laws_toStringS.f k l1).bind fun t247 => ((spec_PlanUnder.f k t244 t247).bind fun bt250 => ((laws_toStringS.f k l0).bind fun t254 => ((laws_toStringS.f k l1).bind fun t257 => ((impl_PlanUnder.f t254 t257).bind fun bt260 => ((laws_eqStringS.f k bt260.1 bt250.1).bind fun t264 => (if t264 = true then (laws_FnExactPlanUnder.j0 k l0 l1 bt250.1 bt250.2 t254 t257 bt260.1 bt260.2 (bt260.2 != bt250.2)) else (laws_FnExactPlanUnder.j0 k l0 l1 bt250.1 bt250.2 t254 t257 bt260.1 bt260.2 true)))))))))))) = some r := H
  have A3 := Aside0.mk A30
  clear A30
  by_cases c4 : t242 < 0
  · rw [if_pos c4] at H
    have c4b0 : decide (t242 < 0) = true := decide_eq_true c4
    clear c4
    obtain rfl := Option.some.inj H
    go_enter Try.func4, Try.ntmps4
    go_wp2_with (first | ((with_reducible refine gate_callee (f := 15) rfl ?_); refine goesL_ (some 19) rfl rfl Try.func15 (by kernel_rfl) rfl #[.slice A0 l0.length c0, .int .i64 1048576] rfl (by (try simp only [List.map_toArray, List.map_cons, List.map_nil]); first | done | rfl | (simp only [List.length_drop, List.length_take]; rfl)) ?_; (with_reducible refine (laws_szStringS.calls k _ _ l0 1048576 t242 _ ?side1 ?side2 A3.out).mono ?_); (case side1 => repeat (first | exact HR0.out | (with_reducible refine Kd.C_alloc ?_ _) | (with_reducible refine Kd.C_drewN ?_ _) | (with_reducible refine Kd.C_drew ?_))); (case side2 => exact HC0.out); rintro e w' ⟨rfl, ⟨nd, rfl⟩⟩; refine ⟨_, rfl, ?_⟩))
    go_ret
    exact ⟨by first | rfl | (simp [errW_none, errW_some] <;> rfl) | (simp [*, errW_none, errW_some] <;> rfl), by repeat (first | (with_reducible first | exact HB.out | apply below_alloc | apply pw_below_drewN | apply below_drew1) | exact HB.out)⟩
  · rw [if_neg c4] at H
    have c4b0 : decide (t242 < 0) = false := decide_eq_false c4
    clear c4
    replace H := Option.bind_eq_some_iff.mp H
    obtain ⟨t243, A50, H⟩ := H
    replace H : (if t243 < 0 then (some true) else ((laws_toStringS.f k l0).bind fun t244 => ((laws_toStringS.f k l1).bind fun t247 => ((spec_PlanUnder.f k t244 t247).bind fun bt250 => ((laws_toStringS.f k l0).bind fun t254 => ((laws_toStringS.f k l1).bind fun t257 => ((impl_PlanUnder.f t254 t257).bind fun bt260 => ((laws_eqStringS.f k bt260.1 bt250.1).bind fun t264 => (if t264 = true then (laws_FnExactPlanUnder.j0 k l0 l1 bt250.1 bt250.2 t254 t257 bt260.1 bt260.2 (bt260.2 != bt250.2)) else (laws_FnExactPlanUnder.j0 k l0 l1 bt250.1 bt250.2 t254 t257 bt260.1 bt260.2 true)))))))))) = some r := H
    have A5 := Aside0.mk A50
    clear A50
    by_cases c6 : t243 < 0
    · rw [if_pos c6] at H
      have c6b0 : decide (t243 < 0) = true := decide_eq_true c6
      clear c6
      obtain rfl := Option.some.inj H
      go_enter Try.func4, Try.ntmps4
      go_wp2_with (first | ((with_reducible refine gate_callee (f := 15) rfl ?_); refine goesL_ (some 19) rfl rfl Try.func15 (by kernel_rfl) rfl #[.slice A0 l0.length c0, .int .i64 1048576] rfl (by (try simp only [List.map_toArray, List.map_cons, List.map_nil]); first | done | rfl | (simp only [List.length_drop, List.length_take]; rfl)) ?_; (with_reducible refine (laws_szStringS.calls k _ _ l0 1048576 t242 _ ?side1 ?side2 A3.out).mono ?_); (case side1 => repeat (first | exact HR0.out | (with_reducible refine Kd.C_alloc ?_ _) | (with_reducible refine Kd.C_drewN ?_ _) | (with_reducible refine Kd.C_drew ?_))); (case side2 => exact HC0.out); rintro e w' ⟨rfl, ⟨nd, rfl⟩⟩; refine ⟨_, rfl, ?_⟩) | ((with_reducible refine gate_callee (f := 15) rfl ?_); refine goesL_ (some 24) rfl rfl Try.func15 (by kernel_rfl) rfl #[.slice A1 l1.length c1, .int .i64 t242] rfl (by (try simp only [List.map_toArray, List.map_cons, List.map_nil]); first | done | rfl | (simp only [List.length_drop, List.length_take]; rfl)) ?_; (with_reducible refine (laws_szStringS.calls k _ _ l1 t242 t243 _ ?side1 ?side2 A5.out).mono ?_); (case side1 => repeat (first | exact HR1.out | (with_reducible refine Kd.C_alloc ?_ _) | (with_reducible refine Kd.C_drewN ?_ _) | (with_reducible refine Kd.C_drew ?_))); (case side2 => exact HC1.out); rintro e w' ⟨rfl, ⟨nd, rfl⟩⟩; refine ⟨_, rfl, ?_⟩))
      go_ret
      exact ⟨by first | rfl | (simp [errW_none, errW_some] <;> rfl) | (simp [*, errW_none, errW_some] <;> rfl), by repeat (first | (with_reducible first | exact HB.out | apply below_alloc | apply pw_below_drewN | apply below_drew1) | exact HB.out)⟩
    · rw [if_neg c6] at H
      have c6b0 : decide (t243 < 0) = false := decide_eq_false c6
      clear c6
      replace H := Option.bind_eq_some_iff.mp H
      obtain ⟨t244, A70, H⟩ := H
      replace H : ((laws_toStringS.f k l1).bind fun t247 => ((spec_PlanUnder.f k t244 t247).bind fun bt250 => ((laws_toStringS.f k l0).bind fun t254 => ((laws_toStringS.f k l1).bind fun t257 => ((impl_PlanUnder.f t254 t257).bind fun bt260 => ((laws_eqStringS.f k bt260.1 bt250.1).bind fun t264 => (if t264 = true then (laws_FnExactPlanUnder.j0 k l0 l1 bt250.1 bt250.2 t254 t257 bt260.1 bt260.2 (bt260.2 != bt250.2)) else (laws_FnExactPlanUnder.j0 k l0 l1 bt250.1 bt250.2 t254 t257 bt260.1 bt260.2 true)))))))) = some r := H
      have A7 := Aside0.mk A70
      clear A70
      replace H := Option.bind_eq_some_iff.mp H
      obtain ⟨t247, A80, H⟩ := H
      replace H : ((spec_PlanUnder.f k t244 t247).bind fun bt250 => ((laws_toStringS.f k l0).bind fun t254 => ((laws_toStringS.f k l1).bind fun t257 => ((impl_PlanUnder.f t254 t257).bind fun bt260 => ((laws_eqStringS.f k bt260.1 bt250.1).bind fun t264 => (if t264 = true then (laws_FnExactPlanUnder.j0 k l0 l1 bt250.1 bt250.2 t254 t257 bt260.1 bt260.2 (bt260.2 != bt250.2)) else (laws_FnExactPlanUnder.j0 k l0 l1 bt250.1 bt250.2 t254 t257 bt260.1 bt260.2 true))))))) = some r := H
      have A8 := Aside0.mk A80
      clear A80
      replace H := Option.bind_eq_some_iff.mp H
      obtain ⟨⟨t250, t251⟩, A90, H⟩ := H
      replace H : ((laws_toStringS.f k l0).bind fun t254 => ((laws_toStringS.f k l1).bind fun t257 => ((impl_PlanUnder.f t254 t257).bind fun bt260 => ((laws_eqStringS.f k bt260.1 t250).bind fun t264 => (if t264 = true then (laws_FnExactPlanUnder.j0 k l0 l1 t250 t251 t254 t257 bt260.1 bt260.2 (bt260.2 != t251)) else (laws_FnExactPlanUnder.j0 k l0 l1 t250 t251 t254 t257 bt260.1 bt260.2 true)))))) = some r := H
      have A9 := Aside0.mk A90
      clear A90
      replace H := Option.bind_eq_some_iff.mp H
      obtain ⟨t254, A100, H⟩ := H
      replace H : ((laws_toStringS.f k l1).bind fun t257 => ((impl_PlanUnder.f t254 t257).bind fun bt260 => ((laws_eqStringS.f k bt260.1 t250).bind fun t264 => (if t264 = true then (laws_FnExactPlanUnder.j0 k l0 l1 t250 t251 t254 t257 bt260.1 bt260.2 (bt260.2 != t251)) else (laws_FnExactPlanUnder.j0 k l0 l1 t250 t251 t254 t257 bt260.1 bt260.2 true))))) = some r := H
      have A10 := Aside0.mk A100
      clear A100
      replace H := Option.bind_eq_some_iff.mp H
      obtain ⟨t257, A110, H⟩ := H
      replace H : ((impl_PlanUnder.f t254 t257).bind fun bt260 => ((laws_eqStringS.f k bt260.1 t250).bind fun t264 => (if t264 = true then (laws_FnExactPlanUnder.j0 k l0 l1 t250 t251 t254 t257 bt260.1 bt260.2 (bt260.2 != t251)) else (laws_FnExactPlanUnder.j0 k l0 l1 t250 t251 t254 t257 bt260.1 bt260.2 true)))) = some r := H
      have A11 := Aside0.mk A110
      clear A110
      replace H := Option.bind_eq_some_iff.mp H
      obtain ⟨⟨t260, t261⟩, A120, H⟩ := H
      replace H : ((laws_eqStringS.f k t260 t250).bind fun t264 => (if t264 = true then (laws_FnExactPlanUnder.j0 k l0 l1 t250 t251 t254 t257 t260 t261 (t261 != t251)) else (laws_FnExactPlanUnder.j0 k l0 l1 t250 t251 t254 t257 t260 t261 true))) = some r := H
      have A12 := Aside0.mk A120
      clear A120
      have HC13 := Aside0.mk H
      clear H
      go_enter Try.func4, Try.ntmps4
      go_upto_region 12 with (first | ((with_reducible refine gate_callee (f := 15) rfl ?_); refine goesL_ (some 19) rfl rfl Try.func15 (by kernel_rfl) rfl #[.slice A0 l0.length c0, .int .i64 1048576] rfl (by (try simp only [List.map_toArray, List.map_cons, List.map_nil]); first | done | rfl | (simp only [List.length_drop, List.length_take]; rfl)) ?_; (with_reducible refine (laws_szStringS.calls k _ _ l0 1048576 t242 _ ?side1 ?side2 A3.out).mono ?_); (case side1 => repeat (first | exact HR0.out | (with_reducible refine Kd.C_alloc ?_ _) | (with_reducible refine Kd.C_drewN ?_ _) | (with_reducible refine Kd.C_drew ?_))); (case side2 => exact HC0.out); rintro e w' ⟨rfl, ⟨nd, rfl⟩⟩; refine ⟨_, rfl, ?_⟩) | ((with_reducible refine gate_callee (f := 15) rfl ?_); refine goesL_ (some 24) rfl rfl Try.func15 (by kernel_rfl) rfl #[.slice A1 l1.length c1, .int .i64 t242] rfl (by (try simp only [List.map_toArray, List.map_cons, List.map_nil]); first | done | rfl | (simp only [List.length_drop, List.length_take]; rfl)) ?_; (with_reducible refine (laws_szStringS.calls k _ _ l1 t242 t243 _ ?side1 ?side2 A5.out).mono ?_); (case side1 => repeat (first | exact HR1.out | (with_reducible refine Kd.C_alloc ?_ _) | (with_reducible refine Kd.C_drewN ?_ _) | (with_reducible refine Kd.C_drew ?_))); (case side2 => exact HC1.out); rintro e w' ⟨rfl, ⟨nd, rfl⟩⟩; refine ⟨_, rfl, ?_⟩) | ((with_reducible refine gate_callee (f := 17) rfl ?_); refine goesL_ (some 29) rfl rfl Try.func17 (by kernel_rfl) rfl #[.slice A0 l0.length c0] rfl (by (try simp only [List.map_toArray, List.map_cons, List.map_nil]); first | done | rfl | (simp only [List.length_drop, List.length_take]; rfl)) ?_; (with_reducible refine (laws_toStringS.calls k _ _ l0 t244 _ ?side1 ?side2 A7.out).mono ?_); (case side1 => repeat (first | exact HR0.out | (with_reducible refine Kd.C_alloc ?_ _) | (with_reducible refine Kd.C_drewN ?_ _) | (with_reducible refine Kd.C_drew ?_))); (case side2 => exact HC0.out); rintro e w14 ⟨v245, rfl, ho0, hb⟩; refine ⟨_, rfl, ?_⟩; have n0_ := Aside0.mk (Kd.R_lower ho0 (below_size (by repeat (first | (with_reducible first | exact HB.out | apply below_alloc | apply pw_below_drewN | apply below_drew1) | exact HB.out)))); have n1_ := Aside0.mk (below_step (by repeat (first | (with_reducible first | exact HB.out | apply below_alloc | apply pw_below_drewN | apply below_drew1) | exact HB.out)) hb); clear HB; have HO246 := n0_; have HB := n1_; clear n0_ n1_; (try clear hb); (try clear hb2); (try clear hk); (try clear hi); (try clear ho0)) | ((with_reducible refine gate_callee (f := 17) rfl ?_); refine goesL_ (some 31) rfl rfl Try.func17 (by kernel_rfl) rfl #[.slice A1 l1.length c1] rfl (by (try simp only [List.map_toArray, List.map_cons, List.map_nil]); first | done | rfl | (simp only [List.length_drop, List.length_take]; rfl)) ?_; (with_reducible refine (laws_toStringS.calls k _ _ l1 t247 _ ?side1 ?side2 A8.out).mono ?_); (case side1 => repeat (first | exact (Kd.C_below HR1.out HB.out) | (with_reducible refine Kd.C_alloc ?_ _) | (with_reducible refine Kd.C_drewN ?_ _) | (with_reducible refine Kd.C_drew ?_))); (case side2 => exact HC1.out); rintro e w15 ⟨v248, rfl, ho0, hb⟩; refine ⟨_, rfl, ?_⟩; have n0_ := Aside0.mk (Kd.R_elder' (by (with_reducible repeat (first | apply Kd.R_alloc | apply Kd.R_drewN | apply Kd.R_drew)); exact HO246.out) (Kd.R_base ho0) hb); have n1_ := Aside0.mk (Kd.R_lower (Kd.R_new' ho0 (Kd.R_lt (by (with_reducible repeat (first | apply Kd.R_alloc | apply Kd.R_drewN | apply Kd.R_drew)); exact HO246.out))) (below_size (by repeat (first | (with_reducible first | exact HB.out | apply below_alloc | apply pw_below_drewN | apply below_drew1) | exact HB.out)))); have n2_ := Aside0.mk (below_step (by repeat (first | (with_reducible first | exact HB.out | apply below_alloc | apply pw_below_drewN | apply below_drew1) | exact HB.out)) hb); clear HO246; clear HB; have HO246 := n0_; have HO249 := n1_; have HB := n2_; clear n0_ n1_ n2_; (try clear hb); (try clear hb2); (try clear hk); (try clear hi); (try clear ho0); obtain ⟨Ao16, co16, eo16⟩ := Kd.R_slice HO246.out; subst eo16; obtain ⟨Ao17, co17, eo17⟩ := Kd.R_slice HO249.out; subst eo17) | ((with_reducible refine gate_callee (f := 22) rfl ?_); refine goesL_ (some 32) rfl rfl Try.func22 (by kernel_rfl) rfl #[.slice Ao16 t244.length co16, .slice Ao17 t247.length co17] rfl (by (try simp only [List.map_toArray, List.map_cons, List.map_nil]); first | done | rfl | (simp only [List.length_drop, List.length_take]; rfl)) ?_; (with_reducible refine (spec_PlanUnder.calls k _ _ t244 _ _ t247 t250 t251 _ ?side1 ?side2 ?side3 ?side4 A9.out).mono ?_); (case side1 => repeat (first | exact (Kd.R_reads' HO246.out).2.2 | (with_reducible refine Kd.C_alloc ?_ _) | (with_reducible refine Kd.C_drewN ?_ _) | (with_reducible refine Kd.C_drew ?_))); (case side2 => exact (Kd.R_reads' HO246.out).2.1); (case side3 => repeat (first | exact (Kd.R_reads' HO249.out).2.2 | (with_reducible refine Kd.C_alloc ?_ _) | (with_reducible refine Kd.C_drewN ?_ _) | (with_reducible refine Kd.C_drew ?_))); (case side4 => exact (Kd.R_reads' HO249.out).2.1); rintro e w18 ⟨v252, rfl, ho0, hb⟩; refine ⟨_, rfl, ?_⟩; have n0_ := Aside0.mk (Kd.R_elder' (by (with_reducible repeat (first | apply Kd.R_alloc | apply Kd.R_drewN | apply Kd.R_drew)); exact HO246.out) (Kd.R_base ho0) hb); have n1_ := Aside0.mk (Kd.R_elder' (by (with_reducible repeat (first | apply Kd.R_alloc | apply Kd.R_drewN | apply Kd.R_drew)); exact HO249.out) (Kd.R_base ho0) hb); have n2_ := Aside0.mk (Kd.R_lower (Kd.R_new' (Kd.R_new' ho0 (Kd.R_lt (by (with_reducible repeat (first | apply Kd.R_alloc | apply Kd.R_drewN | apply Kd.R_drew)); exact HO246.out))) (Kd.R_lt (by (with_reducible repeat (first | apply Kd.R_alloc | apply Kd.R_drewN | apply Kd.R_drew)); exact HO249.out))) (below_size (by repeat (first | (with_reducible first | exact HB.out | apply below_alloc | apply pw_below_drewN | apply below_drew1) | exact HB.out)))); have n3_ := Aside0.mk (below_step (by repeat (first | (with_reducible first | exact HB.out | apply below_alloc | apply pw_below_drewN | apply below_drew1) | exact HB.out)) hb); clear HO246; clear HO249; clear HB; have HO246 := n0_; have HO249 := n1_; have HO253 := n2_; have HB := n3_; clear n0_ n1_ n2_ n3_; (try clear hb); (try clear hb2); (try clear hk); (try clear hi); (try clear ho0)) | ((with_reducible refine gate_callee (f := 17) rfl ?_); refine goesL_ (some 36) rfl rfl Try.func17 (by kernel_rfl) rfl #[.slice A0 l0.length c0] rfl (by (try simp only [List.map_toArray, List.map_cons, List.map_nil]); first | done | rfl | (simp only [List.length_drop, List.length_take]; rfl)) ?_; (with_reducible refine (laws_toStringS.calls k _ _ l0 t254 _ ?side1 ?side2 A10.out).mono ?_); (case side1 => repeat (first | exact (Kd.C_below HR0.out HB.out) | (with_reducible refine Kd.C_alloc ?_ _) | (with_reducible refine Kd.C_drewN ?_ _) | (with_reducible refine Kd.C_drew ?_))); (case side2 => exact HC0.out); rintro e w19 ⟨v255, rfl, ho0, hb⟩; refine ⟨_, rfl, ?_⟩; have n0_ := Aside0.mk (Kd.R_elder' (by (with_reducible repeat (first | apply Kd.R_alloc | apply Kd.R_drewN | apply Kd.R_drew)); exact HO246.out) (Kd.R_base ho0) hb); have n1_ := Aside0.mk (Kd.R_elder' (by (with_reducible repeat (first | apply Kd.R_alloc | apply Kd.R_drewN | apply Kd.R_drew)); exact HO249.out) (Kd.R_base ho0) hb); have n2_ := Aside0.mk (Kd.R_elder' (by (with_reducible repeat (first | apply Kd.R_alloc | apply Kd.R_drewN | apply Kd.R_drew)); exact HO253.out) (Kd.R_base ho0) hb); have n3_ := Aside0.mk (Kd.R_lower (Kd.R_new' (Kd.R_new' (Kd.R_new' ho0 (Kd.R_lt (by (with_reducible repeat (first | apply Kd.R_alloc | apply Kd.R_drewN | apply Kd.R_drew)); exact HO246.out))) (Kd.R_lt (by (with_reducible repeat (first | apply Kd.R_alloc | apply Kd.R_drewN | apply Kd.R_drew)); exact HO249.out))) (Kd.R_lt (by (with_reducible repeat (first | apply Kd.R_alloc | apply Kd.R_drewN | apply Kd.R_drew)); exact HO253.out))) (below_size (by repeat (first | (with_reducible first | exact HB.out | apply below_alloc | apply pw_below_drewN | apply below_drew1) | exact HB.out)))); have n4_ := Aside0.mk (below_step (by repeat (first | (with_reducible first | exact HB.out | apply below_alloc | apply pw_below_drewN | apply below_drew1) | exact HB.out)) hb); clear HO246; clear HO249; clear HO253; clear HB; have HO246 := n0_; have HO249 := n1_; have HO253 := n2_; have HO256 := n3_; have HB := n4_; clear n0_ n1_ n2_ n3_ n4_; (try clear hb); (try clear hb2); (try clear hk); (try clear hi); (try clear ho0)) | ((with_reducible refine gate_callee (f := 17) rfl ?_); refine goesL_ (some 38) rfl rfl Try.func17 (by kernel_rfl) rfl #[.slice A1 l1.length c1] rfl (by (try simp only [List.map_toArray, List.map_cons, List.map_nil]); first | done | rfl | (simp only [List.length_drop, List.length_take]; rfl)) ?_; (with_reducible refine (laws_toStringS.calls k _ _ l1 t257 _ ?side1 ?side2 A11.out).mono ?_); (case side1 => repeat (first | exact (Kd.C_below HR1.out HB.out) | (with_reducible refine Kd.C_alloc ?_ _) | (with_reducible refine Kd.C_drewN ?_ _) | (with_reducible refine Kd.C_drew ?_))); (case side2 => exact HC1.out); rintro e w20 ⟨v258, rfl, ho0, hb⟩; refine ⟨_, rfl, ?_⟩; have n0_ := Aside0.mk (Kd.R_elder' (by (with_reducible repeat (first | apply Kd.R_alloc | apply Kd.R_drewN | apply Kd.R_drew)); exact HO246.out) (Kd.R_base ho0) hb); have n1_ := Aside0.mk (Kd.R_elder' (by (with_reducible repeat (first | apply Kd.R_alloc | apply Kd.R_drewN | apply Kd.R_drew)); exact HO249.out) (Kd.R_base ho0) hb); have n2_ := Aside0.mk (Kd.R_elder' (by (with_reducible repeat (first | apply Kd.R_alloc | apply Kd.R_drewN | apply Kd.R_drew)); exact HO253.out) (Kd.R_base ho0) hb); have n3_ := Aside0.mk (Kd.R_elder' (by (with_reducible repeat (first | apply Kd.R_alloc | apply Kd.R_drewN | apply Kd.R_drew)); exact HO256.out) (Kd.R_base ho0) hb); have n4_ := Aside0.mk (Kd.R_lower (Kd.R_new' (Kd.R_new' (Kd.R_new' (Kd.R_new' ho0 (Kd.R_lt (by (with_reducible repeat (first | apply Kd.R_alloc | apply Kd.R_drewN | apply Kd.R_drew)); exact HO246.out))) (Kd.R_lt (by (with_reducible repeat (first | apply Kd.R_alloc | apply Kd.R_drewN | apply Kd.R_drew)); exact HO249.out))) (Kd.R_lt (by (with_reducible repeat (first | apply Kd.R_alloc | apply Kd.R_drewN | apply Kd.R_drew)); exact HO253.out))) (Kd.R_lt (by (with_reducible repeat (first | apply Kd.R_alloc | apply Kd.R_drewN | apply Kd.R_drew)); exact HO256.out))) (below_size (by repeat (first | (with_reducible first | exact HB.out | apply below_alloc | apply pw_below_drewN | apply below_drew1) | exact HB.out)))); have n5_ := Aside0.mk (below_step (by repeat (first | (with_reducible first | exact HB.out | apply below_alloc | apply pw_below_drewN | apply below_drew1) | exact HB.out)) hb); clear HO246; clear HO249; clear HO253; clear HO256; clear HB; have HO246 := n0_; have HO249 := n1_; have HO253 := n2_; have HO256 := n3_; have HO259 := n4_; have HB := n5_; clear n0_ n1_ n2_ n3_ n4_ n5_; (try clear hb); (try clear hb2); (try clear hk); (try clear hi); (try clear ho0); obtain ⟨Ao21, co21, eo21⟩ := Kd.R_slice HO256.out; subst eo21; obtain ⟨Ao22, co22, eo22⟩ := Kd.R_slice HO259.out; subst eo22) | ((with_reducible refine gate_callee (f := 23) rfl ?_); refine goesL_ (some 42) rfl rfl Try.func23 (by kernel_rfl) rfl #[.slice Ao21 t254.length co21, .slice Ao22 t257.length co22] rfl (by (try simp only [List.map_toArray, List.map_cons, List.map_nil]); first | done | rfl | (simp only [List.length_drop, List.length_take]; rfl)) ?_; (with_reducible refine (impl_PlanUnder.calls _ _ t254 _ _ t257 t260 t261 _ ?side1 ?side2 ?side3 ?side4 A12.out).mono ?_); (case side1 => repeat (first | exact (Kd.R_reads' HO256.out).2.2 | (with_reducible refine Kd.C_alloc ?_ _) | (with_reducible refine Kd.C_drewN ?_ _) | (with_reducible refine Kd.C_drew ?_))); (case side2 => exact (Kd.R_reads' HO256.out).2.1); (case side3 => repeat (first | exact (Kd.R_reads' HO259.out).2.2 | (with_reducible refine Kd.C_alloc ?_ _) | (with_reducible refine Kd.C_drewN ?_ _) | (with_reducible refine Kd.C_drew ?_))); (case side4 => exact (Kd.R_reads' HO259.out).2.1); rintro e w23 ⟨v262, rfl, ho0, hb⟩; refine ⟨_, rfl, ?_⟩; have n0_ := Aside0.mk (Kd.R_elder' (by (with_reducible repeat (first | apply Kd.R_alloc | apply Kd.R_drewN | apply Kd.R_drew)); exact HO246.out) (Kd.R_base ho0) hb); have n1_ := Aside0.mk (Kd.R_elder' (by (with_reducible repeat (first | apply Kd.R_alloc | apply Kd.R_drewN | apply Kd.R_drew)); exact HO249.out) (Kd.R_base ho0) hb); have n2_ := Aside0.mk (Kd.R_elder' (by (with_reducible repeat (first | apply Kd.R_alloc | apply Kd.R_drewN | apply Kd.R_drew)); exact HO253.out) (Kd.R_base ho0) hb); have n3_ := Aside0.mk (Kd.R_elder' (by (with_reducible repeat (first | apply Kd.R_alloc | apply Kd.R_drewN | apply Kd.R_drew)); exact HO256.out) (Kd.R_base ho0) hb); have n4_ := Aside0.mk (Kd.R_elder' (by (with_reducible repeat (first | apply Kd.R_alloc | apply Kd.R_drewN | apply Kd.R_drew)); exact HO259.out) (Kd.R_base ho0) hb); have n5_ := Aside0.mk (Kd.R_lower (Kd.R_new' (Kd.R_new' (Kd.R_new' (Kd.R_new' (Kd.R_new' ho0 (Kd.R_lt (by (with_reducible repeat (first | apply Kd.R_alloc | apply Kd.R_drewN | apply Kd.R_drew)); exact HO246.out))) (Kd.R_lt (by (with_reducible repeat (first | apply Kd.R_alloc | apply Kd.R_drewN | apply Kd.R_drew)); exact HO249.out))) (Kd.R_lt (by (with_reducible repeat (first | apply Kd.R_alloc | apply Kd.R_drewN | apply Kd.R_drew)); exact HO253.out))) (Kd.R_lt (by (with_reducible repeat (first | apply Kd.R_alloc | apply Kd.R_drewN | apply Kd.R_drew)); exact HO256.out))) (Kd.R_lt (by (with_reducible repeat (first | apply Kd.R_alloc | apply Kd.R_drewN | apply Kd.R_drew)); exact HO259.out))) (below_size (by repeat (first | (with_reducible first | exact HB.out | apply below_alloc | apply pw_below_drewN | apply below_drew1) | exact HB.out)))); have n6_ := Aside0.mk (below_step (by repeat (first | (with_reducible first | exact HB.out | apply below_alloc | apply pw_below_drewN | apply below_drew1) | exact HB.out)) hb); clear HO246; clear HO249; clear HO253; clear HO256; clear HO259; clear HB; have HO246 := n0_; have HO249 := n1_; have HO253 := n2_; have HO256 := n3_; have HO259 := n4_; have HO263 := n5_; have HB := n6_; clear n0_ n1_ n2_ n3_ n4_ n5_ n6_; (try clear hb); (try clear hb2); (try clear hk); (try clear hi); (try clear ho0)))
      (try simp only [Act.put, List.setIfInBounds_toArray, List.set_cons_zero, List.set_cons_succ])
      go_cut [53] (fun v53 wc => ∃ (kq : Nat) (x53_12 : Bool), v53 = .bool x53_12 ∧ Aside0 (laws_FnExactPlanUnder.j0 kq l0 l1 t250 t251 t254 t257 t260 t261 x53_12 = some r) ∧ Aside0 (kq ≤ k) ∧ Aside0 (Kd.R Kd.string 9 wc w.heap.size (fun k_ => some k_ ≠ ((.slice Ao21 t254.length co21) : Value).ownBlock ∧ some k_ ≠ ((.slice Ao22 t257.length co22) : Value).ownBlock ∧ some k_ ≠ (v262 : Value).ownBlock) v252 t250) ∧ Aside0 (Kd.R Kd.string 9 wc w.heap.size (fun k_ => some k_ ≠ (v252 : Value).ownBlock ∧ some k_ ≠ ((.slice Ao22 t257.length co22) : Value).ownBlock ∧ some k_ ≠ (v262 : Value).ownBlock) (.slice Ao21 t254.length co21) t254) ∧ Aside0 (Kd.R Kd.string 9 wc w.heap.size (fun k_ => some k_ ≠ (v252 : Value).ownBlock ∧ some k_ ≠ ((.slice Ao21 t254.length co21) : Value).ownBlock ∧ some k_ ≠ (v262 : Value).ownBlock) (.slice Ao22 t257.length co22) t257) ∧ Aside0 (Kd.R Kd.string 9 wc w.heap.size (fun k_ => some k_ ≠ (v252 : Value).ownBlock ∧ some k_ ≠ ((.slice Ao21 t254.length co21) : Value).ownBlock ∧ some k_ ≠ ((.slice Ao22 t257.length co22) : Value).ownBlock) v262 t260) ∧ Aside0 (Below w.heap.size w wc))
      case first =>
        have H := HC13.out
        clear HC13
        replace H := Option.bind_eq_some_iff.mp H
        obtain ⟨t264, A240, H⟩ := H
        replace H : (if t264 = true then (laws_FnExactPlanUnder.j0 k l0 l1 t250 t251 t254 t257 t260 t261 (t261 != t251)) else (laws_FnExactPlanUnder.j0 k l0 l1 t250 t251 t254 t257 t260 t261 true)) = some r := H
        have A24 := Aside0.mk A240
        clear A240
        by_cases c25 : t264 = true
        · subst c25
          have H1 : (laws_FnExactPlanUnder.j0 k l0 l1 t250 t251 t254 t257 t260 t261 (t261 != t251)) = some r := by rw [if_pos rfl] at H; exact H
          clear H
          have H := H1
          clear H1
          have H' := Aside0.mk H
          clear H
          obtain ⟨Ao26, co26, eo26⟩ := Kd.R_slice HO263.out
          subst eo26
          obtain ⟨Ao27, co27, eo27⟩ := Kd.R_slice HO253.out
          subst eo27
          go_wp2_with (first | ((with_reducible refine gate_callee (f := 19) rfl ?_); refine goesL_ (some 47) rfl rfl Try.func19 (by kernel_rfl) rfl #[.slice Ao26 t260.length co26, .slice Ao27 t250.length co27] rfl (by (try simp only [List.map_toArray, List.map_cons, List.map_nil]); first | done | rfl | (simp only [List.length_drop, List.length_take]; rfl)) ?_; (with_reducible refine (laws_eqStringS.calls k _ _ t260 _ _ t250 true _ ?side1 ?side2 ?side3 ?side4 A24.out).mono ?_); (case side1 => repeat (first | exact (Kd.R_reads' HO263.out).2.2 | (with_reducible refine Kd.C_alloc ?_ _) | (with_reducible refine Kd.C_drewN ?_ _) | (with_reducible refine Kd.C_drew ?_))); (case side2 => exact (Kd.R_reads' HO263.out).2.1); (case side3 => repeat (first | exact (Kd.R_reads' HO253.out).2.2 | (with_reducible refine Kd.C_alloc ?_ _) | (with_reducible refine Kd.C_drewN ?_ _) | (with_reducible refine Kd.C_drew ?_))); (case side4 => exact (Kd.R_reads' HO253.out).2.1); rintro e w' ⟨rfl, ⟨nd, rfl⟩⟩; refine ⟨_, rfl, ?_⟩))
          go_meet
          case rel => exact ⟨_, ((t261 != t251)), (by first | rfl | (simp; done) | (simp [*]; done)), H', ⟨by first | omega | exact Nat.le_refl _⟩, ⟨by (with_reducible repeat (first | apply Kd.R_alloc | apply Kd.R_drewN | apply Kd.R_drew)); exact Kd.R_mono HO253.out (fun _ hk => ⟨hk.1.1.2, ⟨hk.1.2, hk.2⟩⟩)⟩, ⟨by (with_reducible repeat (first | apply Kd.R_alloc | apply Kd.R_drewN | apply Kd.R_drew)); exact Kd.R_mono HO256.out (fun _ hk => ⟨hk.1.1.2, ⟨hk.1.2, hk.2⟩⟩)⟩, ⟨by (with_reducible repeat (first | apply Kd.R_alloc | apply Kd.R_drewN | apply Kd.R_drew)); exact Kd.R_mono HO259.out (fun _ hk => ⟨hk.1.1.2, ⟨hk.1.2, hk.2⟩⟩)⟩, ⟨by (with_reducible repeat (first | apply Kd.R_alloc | apply Kd.R_drewN | apply Kd.R_drew)); exact Kd.R_mono HO263.out (fun _ hk => ⟨hk.1.1.2, ⟨hk.1.2, hk.2⟩⟩)⟩, ⟨by repeat (first | (with_reducible first | exact HB.out | apply below_alloc | apply pw_below_drewN | apply below_drew1) | exact HB.out)⟩⟩
        · replace c25 := Bool.eq_false_iff.mpr c25
          subst c25
          have H1 : (laws_FnExactPlanUnder.j0 k l0 l1 t250 t251 t254 t257 t260 t261 true) = some r := by rw [if_neg (show ¬ (false = true) by decide)] at H; exact H
          clear H
          have H := H1
          clear H1
          have H' := Aside0.mk H
          clear H
          obtain ⟨Ao28, co28, eo28⟩ := Kd.R_slice HO263.out
          subst eo28
          obtain ⟨Ao29, co29, eo29⟩ := Kd.R_slice HO253.out
          subst eo29
          go_wp2_with (first | ((with_reducible refine gate_callee (f := 19) rfl ?_); refine goesL_ (some 47) rfl rfl Try.func19 (by kernel_rfl) rfl #[.slice Ao28 t260.length co28, .slice Ao29 t250.length co29] rfl (by (try simp only [List.map_toArray, List.map_cons, List.map_nil]); first | done | rfl | (simp only [List.length_drop, List.length_take]; rfl)) ?_; (with_reducible refine (laws_eqStringS.calls k _ _ t260 _ _ t250 false _ ?side1 ?side2 ?side3 ?side4 A24.out).mono ?_); (case side1 => repeat (first | exact (Kd.R_reads' HO263.out).2.2 | (with_reducible refine Kd.C_alloc ?_ _) | (with_reducible refine Kd.C_drewN ?_ _) | (with_reducible refine Kd.C_drew ?_))); (case side2 => exact (Kd.R_reads' HO263.out).2.1); (case side3 => repeat (first | exact (Kd.R_reads' HO253.out).2.2 | (with_reducible refine Kd.C_alloc ?_ _) | (with_reducible refine Kd.C_drewN ?_ _) | (with_reducible refine Kd.C_drew ?_))); (case side4 => exact (Kd.R_reads' HO253.out).2.1); rintro e w' ⟨rfl, ⟨nd, rfl⟩⟩; refine ⟨_, rfl, ?_⟩))
          go_meet
          case rel => exact ⟨_, (true), (by first | rfl | (simp; done) | (simp [*]; done)), H', ⟨by first | omega | exact Nat.le_refl _⟩, ⟨by (with_reducible repeat (first | apply Kd.R_alloc | apply Kd.R_drewN | apply Kd.R_drew)); exact Kd.R_mono HO253.out (fun _ hk => ⟨hk.1.1.2, ⟨hk.1.2, hk.2⟩⟩)⟩, ⟨by (with_reducible repeat (first | apply Kd.R_alloc | apply Kd.R_drewN | apply Kd.R_drew)); exact Kd.R_mono HO256.out (fun _ hk => ⟨hk.1.1.2, ⟨hk.1.2, hk.2⟩⟩)⟩, ⟨by (with_reducible repeat (first | apply Kd.R_alloc | apply Kd.R_drewN | apply Kd.R_drew)); exact Kd.R_mono HO259.out (fun _ hk => ⟨hk.1.1.2, ⟨hk.1.2, hk.2⟩⟩)⟩, ⟨by (with_reducible repeat (first | apply Kd.R_alloc | apply Kd.R_drewN | apply Kd.R_drew)); exact Kd.R_mono HO263.out (fun _ hk => ⟨hk.1.1.2, ⟨hk.1.2, hk.2⟩⟩)⟩, ⟨by repeat (first | (with_reducible first | exact HB.out | apply below_alloc | apply pw_below_drewN | apply below_drew1) | exact HB.out)⟩⟩
      case rest =>
        clear HC13
        try clear c1
        try clear c2
        try clear p2
        try clear c4
        try clear c4b0
        try clear c6
        try clear c6b0
        try clear c15
        try clear c17
        try clear c19
        try clear c22
        try clear c23
        try clear c25
        obtain ⟨kq, x53_12, rfl, HA, HJ12, HO_6, HO_8, HO_9, HO_10, HB⟩ := hcut
        cases kq with
        | zero => exact absurd HA.out (by simp [laws_FnExactPlanUnder.j0])
        | succ kj12 =>
          have H := HA.out
          clear HA
          simp only [laws_FnExactPlanUnder.j0] at H
          by_cases c30 : x53_12 = true
          · subst c30
            have H1 : (some false) = some r := by rw [if_pos rfl] at H; exact H
            clear H
            have H := H1
            clear H1
            obtain rfl := Option.some.inj H
            go_wp2
            go_ret
            exact ⟨by first | rfl | (simp [errW_none, errW_some] <;> rfl) | (simp [*, errW_none, errW_some] <;> rfl), by repeat (first | (with_reducible first | exact HB.out | apply below_alloc | apply pw_below_drewN | apply below_drew1) | exact HB.out)⟩
          · replace c30 := Bool.eq_false_iff.mpr c30
            subst c30
            have H1 : ((laws_toStringS.f kj12 l0).bind fun t265 => ((laws_eqStringS.f kj12 t254 t265).bind fun t268 => (if t268 = true then ((laws_toStringS.f kj12 l1).bind fun t269 => ((laws_eqStringS.f kj12 t257 t269).bind fun t272 => (if t272 = true then ((laws_markStringS.f kj12 t254 1).bind fun bt273 => ((laws_markStringS.f kj12 t257 bt273.1).bind fun bt275 => (if bt275.1 < 0 then (laws_FnExactPlanUnder.j1 kj12 l0 l1 t250 t251 t260 true) else ((laws_eqStringS.f kj12 t260 t250).bind fun t277 => (if t277 = true then (laws_FnExactPlanUnder.j1 kj12 l0 l1 t250 t251 t260 (t261 != t251)) else (laws_FnExactPlanUnder.j1 kj12 l0 l1 t250 t251 t260 true)))))) else (some false)))) else (some false)))) = some r := by rw [if_neg (show ¬ (false = true) by decide)] at H; exact H
            clear H
            have H := H1
            clear H1
            replace H := Option.bind_eq_some_iff.mp H
            obtain ⟨t265, A310, H⟩ := H
            replace H : ((laws_eqStringS.f kj12 t254 t265).bind fun t268 => (if t268 = true then ((laws_toStringS.f kj12 l1).bind fun t269 => ((laws_eqStringS.f kj12 t257 t269).bind fun t272 => (if t272 = true then ((laws_markStringS.f kj12 t254 1).bind fun bt273 => ((laws_markStringS.f kj12 t257 bt273.1).bind fun bt275 => (if bt275.1 < 0 then (laws_FnExactPlanUnder.j1 kj12 l0 l1 t250 t251 t260 true) else ((laws_eqStringS.f kj12 t260 t250).bind fun t277 => (if t277 = true then (laws_FnExactPlanUnder.j1 kj12 l0 l1 t250 t251 t260 (t261 != t251)) else (laws_FnExactPlanUnder.j1 kj12 l0 l1 t250 t251 t260 true)))))) else (some false)))) else (some false))) = some r := H
            have A31 := Aside0.mk A310
            clear A310
            replace H := Option.bind_eq_some_iff.mp H
            obtain ⟨t268, A320, H⟩ := H
            replace H : (if t268 = true then ((laws_toStringS.f kj12 l1).bind fun t269 => ((laws_eqStringS.f kj12 t257 t269).bind fun t272 => (if t272 = true then ((laws_markStringS.f kj12 t254 1).bind fun bt273 => ((laws_markStringS.f kj12 t257 bt273.1).bind fun bt275 => (if bt275.1 < 0 then (laws_FnExactPlanUnder.j1 kj12 l0 l1 t250 t251 t260 true) else ((laws_eqStringS.f kj12 t260 t250).bind fun t277 => (if t277 = true then (laws_FnExactPlanUnder.j1 kj12 l0 l1 t250 t251 t260 (t261 != t251)) else (laws_FnExactPlanUnder.j1 kj12 l0 l1 t250 t251 t260 true)))))) else (some false)))) else (some false)) = some r := H
            have A32 := Aside0.mk A320
            clear A320
            by_cases c33 : t268 = true
            · subst c33
              have H1 : ((laws_toStringS.f kj12 l1).bind fun t269 => ((laws_eqStringS.f kj12 t257 t269).bind fun t272 => (if t272 = true then ((laws_markStringS.f kj12 t254 1).bind fun bt273 => ((laws_markStringS.f kj12 t257 bt273.1).bind fun bt275 => (if bt275.1 < 0 then (laws_FnExactPlanUnder.j1 kj12 l0 l1 t250 t251 t260 true) else ((laws_eqStringS.f kj12 t260 t250).bind fun t277 => (if t277 = true then (laws_FnExactPlanUnder.j1 kj12 l0 l1 t250 t251 t260 (t261 != t251)) else (laws_FnExactPlanUnder.j1 kj12 l0 l1 t250 t251 t260 true)))))) else (some false)))) = some r := by rw [if_pos rfl] at H; exact H
              clear H
              have H := H1
              clear H1
              replace H := Option.bind_eq_some_iff.mp H
              obtain ⟨t269, A340, H⟩ := H
              replace H : ((laws_eqStringS.f kj12 t257 t269).bind fun t272 => (if t272 = true then ((laws_markStringS.f kj12 t254 1).bind fun bt273 => ((laws_markStringS.f kj12 t257 bt273.1).bind fun bt275 => (if bt275.1 < 0 then (laws_FnExactPlanUnder.j1 kj12 l0 l1 t250 t251 t260 true) else ((laws_eqStringS.f kj12 t260 t250).bind fun t277 => (if t277 = true then (laws_FnExactPlanUnder.j1 kj12 l0 l1 t250 t251 t260 (t261 != t251)) else (laws_FnExactPlanUnder.j1 kj12 l0 l1 t250 t251 t260 true)))))) else (some false))) = some r := H
              have A34 := Aside0.mk A340
              clear A340
              replace H := Option.bind_eq_some_iff.mp H
              obtain ⟨t272, A350, H⟩ := H
              replace H : (if t272 = true then ((laws_markStringS.f kj12 t254 1).bind fun bt273 => ((laws_markStringS.f kj12 t257 bt273.1).bind fun bt275 => (if bt275.1 < 0 then (laws_FnExactPlanUnder.j1 kj12 l0 l1 t250 t251 t260 true) else ((laws_eqStringS.f kj12 t260 t250).bind fun t277 => (if t277 = true then (laws_FnExactPlanUnder.j1 kj12 l0 l1 t250 t251 t260 (t261 != t251)) else (laws_FnExactPlanUnder.j1 kj12 l0 l1 t250 t251 t260 true)))))) else (some false)) = some r := H
              have A35 := Aside0.mk A350
              clear A350
              by_cases c36 : t272 = true
              · subst c36
                have H1 : ((laws_markStringS.f kj12 t254 1).bind fun bt273 => ((laws_markStringS.f kj12 t257 bt273.1).bind fun bt275 => (if bt275.1 < 0 then (laws_FnExactPlanUnder.j1 kj12 l0 l1 t250 t251 t260 true) else ((laws_eqStringS.f kj12 t260 t250).bind fun t277 => (if t277 = true then (laws_FnExactPlanUnder.j1 kj12 l0 l1 t250 t251 t260 (t261 != t251)) else (laws_FnExactPlanUnder.j1 kj12 l0 l1 t250 t251 t260 true)))))) = some r := by rw [if_pos rfl] at H; exact H
                clear H
                have H := H1
                clear H1
                replace H := Option.bind_eq_some_iff.mp H
                obtain ⟨⟨t273, t274⟩, A370, H⟩ := H
                replace H : ((laws_markStringS.f kj12 t257 t273).bind fun bt275 => (if bt275.1 < 0 then (laws_FnExactPlanUnder.j1 kj12 l0 l1 t250 t251 t260 true) else ((laws_eqStringS.f kj12 t260 t250).bind fun t277 => (if t277 = true then (laws_FnExactPlanUnder.j1 kj12 l0 l1 t250 t251 t260 (t261 != t251)) else (laws_FnExactPlanUnder.j1 kj12 l0 l1 t250 t251 t260 true))))) = some r := H
                have A37 := Aside0.mk A370
                clear A370
                replace H := Option.bind_eq_some_iff.mp H
                obtain ⟨⟨t275, t276⟩, A380, H⟩ := H
                replace H : (if t275 < 0 then (laws_FnExactPlanUnder.j1 kj12 l0 l1 t250 t251 t260 true) else ((laws_eqStringS.f kj12 t260 t250).bind fun t277 => (if t277 = true then (laws_FnExactPlanUnder.j1 kj12 l0 l1 t250 t251 t260 (t261 != t251)) else (laws_FnExactPlanUnder.j1 kj12 l0 l1 t250 t251 t260 true)))) = some r := H
                have A38 := Aside0.mk A380
                clear A380
                have HC39 := Aside0.mk H
                clear H
                go_upto_region 21 with (first | ((with_reducible refine gate_callee (f := 17) rfl ?_); refine goesL_ (some 56) rfl rfl Try.func17 (by kernel_rfl) rfl #[.slice A0 l0.length c0] rfl (by (try simp only [List.map_toArray, List.map_cons, List.map_nil]); first | done | rfl | (simp only [List.length_drop, List.length_take]; rfl)) ?_; (with_reducible refine (laws_toStringS.calls kj12 _ _ l0 t265 _ ?side1 ?side2 A31.out).mono ?_); (case side1 => repeat (first | exact (Kd.C_below HR0.out HB.out) | (with_reducible refine Kd.C_alloc ?_ _) | (with_reducible refine Kd.C_drewN ?_ _) | (with_reducible refine Kd.C_drew ?_))); (case side2 => exact HC0.out); rintro e w40 ⟨v266, rfl, ho0, hb⟩; refine ⟨_, rfl, ?_⟩; have n0_ := Aside0.mk (Kd.R_elder' (by (with_reducible repeat (first | apply Kd.R_alloc | apply Kd.R_drewN | apply Kd.R_drew)); exact HO_6.out) (Kd.R_base ho0) hb); have n1_ := Aside0.mk (Kd.R_elder' (by (with_reducible repeat (first | apply Kd.R_alloc | apply Kd.R_drewN | apply Kd.R_drew)); exact HO_8.out) (Kd.R_base ho0) hb); have n2_ := Aside0.mk (Kd.R_elder' (by (with_reducible repeat (first | apply Kd.R_alloc | apply Kd.R_drewN | apply Kd.R_drew)); exact HO_9.out) (Kd.R_base ho0) hb); have n3_ := Aside0.mk (Kd.R_elder' (by (with_reducible repeat (first | apply Kd.R_alloc | apply Kd.R_drewN | apply Kd.R_drew)); exact HO_10.out) (Kd.R_base ho0) hb); have n4_ := Aside0.mk (Kd.R_lower (Kd.R_new' (Kd.R_new' (Kd.R_new' (Kd.R_new' ho0 (Kd.R_lt (by (with_reducible repeat (first | apply Kd.R_alloc | apply Kd.R_drewN | apply Kd.R_drew)); exact HO_6.out))) (Kd.R_lt (by (with_reducible repeat (first | apply Kd.R_alloc | apply Kd.R_drewN | apply Kd.R_drew)); exact HO_8.out))) (Kd.R_lt (by (with_reducible repeat (first | apply Kd.R_alloc | apply Kd.R_drewN | apply Kd.R_drew)); exact HO_9.out))) (Kd.R_lt (by (with_reducible repeat (first | apply Kd.R_alloc | apply Kd.R_drewN | apply Kd.R_drew)); exact HO_10.out))) (below_size (by repeat (first | (with_reducible first | exact HB.out | apply below_alloc | apply pw_below_drewN | apply below_drew1) | exact HB.out)))); have n5_ := Aside0.mk (below_step (by repeat (first | (with_reducible first | exact HB.out | apply below_alloc | apply pw_below_drewN | apply below_drew1) | exact HB.out)) hb); clear HO_6; clear HO_8; clear HO_9; clear HO_10; clear HB; have HO_6 := n0_; have HO_8 := n1_; have HO_9 := n2_; have HO_10 := n3_; have HO267 := n4_; have HB := n5_; clear n0_ n1_ n2_ n3_ n4_ n5_; (try clear hb); (try clear hb2); (try clear hk); (try clear hi); (try clear ho0); obtain ⟨Ao41, co41, eo41⟩ := Kd.R_slice HO267.out; subst eo41) | ((with_reducible refine gate_callee (f := 19) rfl ?_); refine goesL_ (some 57) rfl rfl Try.func19 (by kernel_rfl) rfl #[.slice Ao21 t254.length co21, .slice Ao41 t265.length co41] rfl (by (try simp only [List.map_toArray, List.map_cons, List.map_nil]); first | done | rfl | (simp only [List.length_drop, List.length_take]; rfl)) ?_; (with_reducible refine (laws_eqStringS.calls kj12 _ _ t254 _ _ t265 true _ ?side1 ?side2 ?side3 ?side4 A32.out).mono ?_); (case side1 => repeat (first | exact (Kd.R_reads' HO_8.out).2.2 | (with_reducible refine Kd.C_alloc ?_ _) | (with_reducible refine Kd.C_drewN ?_ _) | (with_reducible refine Kd.C_drew ?_))); (case side2 => exact (Kd.R_reads' HO_8.out).2.1); (case side3 => repeat (first | exact (Kd.R_reads' HO267.out).2.2 | (with_reducible refine Kd.C_alloc ?_ _) | (with_reducible refine Kd.C_drewN ?_ _) | (with_reducible refine Kd.C_drew ?_))); (case side4 => exact (Kd.R_reads' HO267.out).2.1); rintro e w' ⟨rfl, ⟨nd, rfl⟩⟩; refine ⟨_, rfl, ?_⟩) | ((with_reducible refine gate_callee (f := 17) rfl ?_); refine goesL_ (some 61) rfl rfl Try.func17 (by kernel_rfl) rfl #[.slice A1 l1.length c1] rfl (by (try simp only [List.map_toArray, List.map_cons, List.map_nil]); first | done | rfl | (simp only [List.length_drop, List.length_take]; rfl)) ?_; (with_reducible refine (laws_toStringS.calls kj12 _ _ l1 t269 _ ?side1 ?side2 A34.out).mono ?_); (case side1 => repeat (first | exact (Kd.C_below HR1.out (by repeat (first | (with_reducible first | exact HB.out | apply below_alloc | apply pw_below_drewN | apply below_drew1) | exact HB.out))) | (with_reducible refine Kd.C_alloc ?_ _) | (with_reducible refine Kd.C_drewN ?_ _) | (with_reducible refine Kd.C_drew ?_))); (case side2 => exact HC1.out); rintro e w42 ⟨v270, rfl, ho0, hb⟩; refine ⟨_, rfl, ?_⟩; have n0_ := Aside0.mk (Kd.R_elder' (by (with_reducible repeat (first | apply Kd.R_alloc | apply Kd.R_drewN | apply Kd.R_drew)); exact HO_6.out) (Kd.R_base ho0) hb); have n1_ := Aside0.mk (Kd.R_elder' (by (with_reducible repeat (first | apply Kd.R_alloc | apply Kd.R_drewN | apply Kd.R_drew)); exact HO_8.out) (Kd.R_base ho0) hb); have n2_ := Aside0.mk (Kd.R_elder' (by (with_reducible repeat (first | apply Kd.R_alloc | apply Kd.R_drewN | apply Kd.R_drew)); exact HO_9.out) (Kd.R_base ho0) hb); have n3_ := Aside0.mk (Kd.R_elder' (by (with_reducible repeat (first | apply Kd.R_alloc | apply Kd.R_drewN | apply Kd.R_drew)); exact HO_10.out) (Kd.R_base ho0) hb); have n4_ := Aside0.mk (Kd.R_elder' (by (with_reducible repeat (first | apply Kd.R_alloc | apply Kd.R_drewN | apply Kd.R_drew)); exact HO267.out) (Kd.R_base ho0) hb); have n5_ := Aside0.mk (Kd.R_lower (Kd.R_new' (Kd.R_new' (Kd.R_new' (Kd.R_new' (Kd.R_new' ho0 (Kd.R_lt (by (with_reducible repeat (first | apply Kd.R_alloc | apply Kd.R_drewN | apply Kd.R_drew)); exact HO_6.out))) (Kd.R_lt (by (with_reducible repeat (first | apply Kd.R_alloc | apply Kd.R_drewN | apply Kd.R_drew)); exact HO_8.out))) (Kd.R_lt (by (with_reducible repeat (first | apply Kd.R_alloc | apply Kd.R_drewN | apply Kd.R_drew)); exact HO_9.out))) (Kd.R_lt (by (with_reducible repeat (first | apply Kd.R_alloc | apply Kd.R_drewN | apply Kd.R_drew)); exact HO_10.out))) (Kd.R_lt (by (with_reducible repeat (first | apply Kd.R_alloc | apply Kd.R_drewN | apply Kd.R_drew)); exact HO267.out))) (below_size (by repeat (first | (with_reducible first | exact HB.out | apply below_alloc | apply pw_below_drewN | apply below_drew1) | exact HB.out)))); have n6_ := Aside0.mk (below_step (by repeat (first | (with_reducible first | exact HB.out | apply below_alloc | apply pw_below_drewN | apply below_drew1) | exact HB.out)) hb); clear HO_6; clear HO_8; clear HO_9; clear HO_10; clear HO267; clear HB; have HO_6 := n0_; have HO_8 := n1_; have HO_9 := n2_; have HO_10 := n3_; have HO267 := n4_; have HO271 := n5_; have HB := n6_; clear n0_ n1_ n2_ n3_ n4_ n5_ n6_; (try clear hb); (try clear hb2); (try clear hk); (try clear hi); (try clear ho0); obtain ⟨Ao43, co43, eo43⟩ := Kd.R_slice HO271.out; subst eo43) | ((with_reducible refine gate_callee (f := 19) rfl ?_); refine goesL_ (some 62) rfl rfl Try.func19 (by kernel_rfl) rfl #[.slice Ao22 t257.length co22, .slice Ao43 t269.length co43] rfl (by (try simp only [List.map_toArray, List.map_cons, List.map_nil]); first | done | rfl | (simp only [List.length_drop, List.length_take]; rfl)) ?_; (with_reducible refine (laws_eqStringS.calls kj12 _ _ t257 _ _ t269 true _ ?side1 ?side2 ?side3 ?side4 A35.out).mono ?_); (case side1 => repeat (first | exact (Kd.R_reads' HO_9.out).2.2 | (with_reducible refine Kd.C_alloc ?_ _) | (with_reducible refine Kd.C_drewN ?_ _) | (with_reducible refine Kd.C_drew ?_))); (case side2 => exact (Kd.R_reads' HO_9.out).2.1); (case side3 => repeat (first | exact (Kd.R_reads' HO271.out).2.2 | (with_reducible refine Kd.C_alloc ?_ _) | (with_reducible refine Kd.C_drewN ?_ _) | (with_reducible refine Kd.C_drew ?_))); (case side4 => exact (Kd.R_reads' HO271.out).2.1); rintro e w' ⟨rfl, ⟨nd, rfl⟩⟩; refine ⟨_, rfl, ?_⟩) | ((with_reducible refine gate_callee (f := 20) rfl ?_); refine goesL_ (some 66) rfl rfl Try.func20 (by kernel_rfl) rfl #[.slice Ao21 t254.length co21, .int .i64 1] rfl (by (try simp only [List.map_toArray, List.map_cons, List.map_nil]); first | done | rfl | (simp only [List.length_drop, List.length_take]; rfl)) ?_; (with_reducible refine (laws_markStringS.calls kj12 (fun k_ => some k_ = (.slice Ao21 t254.length co21 : Value).ownBlock) (.slice Ao21 t254.length co21) t254 1 t273 t274 w _ ?side1 ?side2 A37.out).mono ?_); (case side1 => repeat (first | (with_reducible first | exact HB.out | apply below_alloc | apply pw_below_drewN | apply below_drew1) | exact HB.out)); (case side2 => exact Kd.R_tight rfl HO_8.out); rintro e w44 ⟨rfl, hy0, hb, hkp⟩; refine ⟨_, rfl, ?_⟩; have n0_ := Aside0.mk (Kd.R_mono (ok' := fun k_ => some k_ ≠ (.slice Ao21 t254.length co21 : Value).ownBlock ∧ some k_ ≠ (.slice Ao22 t257.length co22 : Value).ownBlock ∧ some k_ ≠ (v262 : Value).ownBlock ∧ some k_ ≠ (.slice Ao41 t265.length co41 : Value).ownBlock ∧ some k_ ≠ (.slice Ao43 t269.length co43 : Value).ownBlock) (Kd.R_keptB (HO_6.out) hkp (fun k_ hk_ hs_ => (hk_.1.1.1) hs_)) (fun k_ hk_ => ⟨hk_.1.1.1.1, hk_.1.1.1.2.1, hk_.1.1.1.2.2, hk_.1.1.2, hk_.1.2⟩)); have n1_ := Aside0.mk (Kd.R_reok rfl hy0 (fun k_ e_ => HO_8.out.1 k_ e_)); have n2_ := Aside0.mk (Kd.R_mono (ok' := fun k_ => some k_ ≠ (v252 : Value).ownBlock ∧ some k_ ≠ (.slice Ao21 t254.length co21 : Value).ownBlock ∧ some k_ ≠ (v262 : Value).ownBlock ∧ some k_ ≠ (.slice Ao41 t265.length co41 : Value).ownBlock ∧ some k_ ≠ (.slice Ao43 t269.length co43 : Value).ownBlock) (Kd.R_keptB (HO_9.out) hkp (fun k_ hk_ hs_ => (hk_.1.1.2.1) hs_)) (fun k_ hk_ => ⟨hk_.1.1.1.1, hk_.1.1.1.2.1, hk_.1.1.1.2.2, hk_.1.1.2, hk_.1.2⟩)); have n3_ := Aside0.mk (Kd.R_mono (ok' := fun k_ => some k_ ≠ (v252 : Value).ownBlock ∧ some k_ ≠ (.slice Ao21 t254.length co21 : Value).ownBlock ∧ some k_ ≠ (.slice Ao22 t257.length co22 : Value).ownBlock ∧ some k_ ≠ (.slice Ao41 t265.length co41 : Value).ownBlock ∧ some k_ ≠ (.slice Ao43 t269.length co43 : Value).ownBlock) (Kd.R_keptB (HO_10.out) hkp (fun k_ hk_ hs_ => (hk_.1.1.2.1) hs_)) (fun k_ hk_ => ⟨hk_.1.1.1.1, hk_.1.1.1.2.1, hk_.1.1.1.2.2, hk_.1.1.2, hk_.1.2⟩)); have n4_ := Aside0.mk (Kd.R_mono (ok' := fun k_ => some k_ ≠ (v252 : Value).ownBlock ∧ some k_ ≠ (.slice Ao21 t254.length co21 : Value).ownBlock ∧ some k_ ≠ (.slice Ao22 t257.length co22 : Value).ownBlock ∧ some k_ ≠ (v262 : Value).ownBlock ∧ some k_ ≠ (.slice Ao43 t269.length co43 : Value).ownBlock) (Kd.R_keptB (HO267.out) hkp (fun k_ hk_ hs_ => (hk_.1.1.1.2) hs_)) (fun k_ hk_ => ⟨hk_.1.1.1.1.1.2, hk_.1.1.1.1.2, hk_.1.1.1.2, hk_.1.1.2, hk_.1.2⟩)); have n5_ := Aside0.mk (Kd.R_mono (ok' := fun k_ => some k_ ≠ (v252 : Value).ownBlock ∧ some k_ ≠ (.slice Ao21 t254.length co21 : Value).ownBlock ∧ some k_ ≠ (.slice Ao22 t257.length co22 : Value).ownBlock ∧ some k_ ≠ (v262 : Value).ownBlock ∧ some k_ ≠ (.slice Ao41 t265.length co41 : Value).ownBlock) (Kd.R_keptB (HO271.out) hkp (fun k_ hk_ hs_ => (hk_.1.1.1.2) hs_)) (fun k_ hk_ => ⟨hk_.1.1.1.1.1.2, hk_.1.1.1.1.2, hk_.1.1.1.2, hk_.1.1.2, hk_.1.2⟩)); have n6_ := Aside0.mk (hb); clear HO_6; clear HO_8; clear HO_9; clear HO_10; clear HO267; clear HO271; clear HB; have HO_6 := n0_; have HO_8 := n1_; have HO_9 := n2_; have HO_10 := n3_; have HO267 := n4_; have HO271 := n5_; have HB := n6_; clear n0_ n1_ n2_ n3_ n4_ n5_ n6_; (try clear hb); (try clear hkp); (try clear hy0)) | ((with_reducible refine gate_callee (f := 20) rfl ?_); refine goesL_ (some 69) rfl rfl Try.func20 (by kernel_rfl) rfl #[.slice Ao22 t257.length co22, .int .i64 t273] rfl (by (try simp only [List.map_toArray, List.map_cons, List.map_nil]); first | done | rfl | (simp only [List.length_drop, List.length_take]; rfl)) ?_; (with_reducible refine (laws_markStringS.calls kj12 (fun k_ => some k_ = (.slice Ao22 t257.length co22 : Value).ownBlock) (.slice Ao22 t257.length co22) t257 t273 t275 t276 w _ ?side1 ?side2 A38.out).mono ?_); (case side1 => repeat (first | (with_reducible first | exact HB.out | apply below_alloc | apply pw_below_drewN | apply below_drew1) | exact HB.out)); (case side2 => exact Kd.R_tight rfl HO_9.out); rintro e w45 ⟨rfl, hy0, hb, hkp⟩; refine ⟨_, rfl, ?_⟩; have n0_ := Aside0.mk (Kd.R_mono (ok' := fun k_ => some k_ ≠ (.slice Ao21 t254.length co21 : Value).ownBlock ∧ some k_ ≠ (.slice Ao22 t257.length co22 : Value).ownBlock ∧ some k_ ≠ (v262 : Value).ownBlock ∧ some k_ ≠ (.slice Ao41 t265.length co41 : Value).ownBlock ∧ some k_ ≠ (.slice Ao43 t269.length co43 : Value).ownBlock) (Kd.R_keptB (HO_6.out) hkp (fun k_ hk_ hs_ => (hk_.2.1) hs_)) (fun k_ hk_ => ⟨hk_.1.1, hk_.1.2.1, hk_.1.2.2.1, hk_.1.2.2.2.1, hk_.1.2.2.2.2⟩)); have n1_ := Aside0.mk (Kd.R_mono (ok' := fun k_ => some k_ ≠ (v252 : Value).ownBlock ∧ some k_ ≠ (.slice Ao22 t257.length co22 : Value).ownBlock ∧ some k_ ≠ (v262 : Value).ownBlock ∧ some k_ ≠ (.slice Ao41 t265.length co41 : Value).ownBlock ∧ some k_ ≠ (.slice Ao43 t269.length co43 : Value).ownBlock) (Kd.R_keptB (HO_8.out) hkp (fun k_ hk_ hs_ => (hk_.1.1.2.1) hs_)) (fun k_ hk_ => ⟨hk_.1.1.1.1, hk_.1.1.1.2.1, hk_.1.1.1.2.2, hk_.1.1.2, hk_.1.2⟩)); have n2_ := Aside0.mk (Kd.R_reok rfl hy0 (fun k_ e_ => HO_9.out.1 k_ e_)); have n3_ := Aside0.mk (Kd.R_mono (ok' := fun k_ => some k_ ≠ (v252 : Value).ownBlock ∧ some k_ ≠ (.slice Ao21 t254.length co21 : Value).ownBlock ∧ some k_ ≠ (.slice Ao22 t257.length co22 : Value).ownBlock ∧ some k_ ≠ (.slice Ao41 t265.length co41 : Value).ownBlock ∧ some k_ ≠ (.slice Ao43 t269.length co43 : Value).ownBlock) (Kd.R_keptB (HO_10.out) hkp (fun k_ hk_ hs_ => (hk_.2.2.1) hs_)) (fun k_ hk_ => ⟨hk_.1.1, hk_.1.2.1, hk_.1.2.2.1, hk_.1.2.2.2.1, hk_.1.2.2.2.2⟩)); have n4_ := Aside0.mk (Kd.R_mono (ok' := fun k_ => some k_ ≠ (v252 : Value).ownBlock ∧ some k_ ≠ (.slice Ao21 t254.length co21 : Value).ownBlock ∧ some k_ ≠ (.slice Ao22 t257.length co22 : Value).ownBlock ∧ some k_ ≠ (v262 : Value).ownBlock ∧ some k_ ≠ (.slice Ao43 t269.length co43 : Value).ownBlock) (Kd.R_keptB (HO267.out) hkp (fun k_ hk_ hs_ => (hk_.2.2.1) hs_)) (fun k_ hk_ => ⟨hk_.1.1, hk_.1.2.1, hk_.1.2.2.1, hk_.1.2.2.2.1, hk_.1.2.2.2.2⟩)); have n5_ := Aside0.mk (Kd.R_mono (ok' := fun k_ => some k_ ≠ (v252 : Value).ownBlock ∧ some k_ ≠ (.slice Ao21 t254.length co21 : Value).ownBlock ∧ some k_ ≠ (.slice Ao22 t257.length co22 : Value).ownBlock ∧ some k_ ≠ (v262 : Value).ownBlock ∧ some k_ ≠ (.slice Ao41 t265.length co41 : Value).ownBlock) (Kd.R_keptB (HO271.out) hkp (fun k_ hk_ hs_ => (hk_.2.2.1) hs_)) (fun k_ hk_ => ⟨hk_.1.1, hk_.1.2.1, hk_.1.2.2.1, hk_.1.2.2.2.1, hk_.1.2.2.2.2⟩)); have n6_ := Aside0.mk (hb); clear HO_6; clear HO_8; clear HO_9; clear HO_10; clear HO267; clear HO271; clear HB; have HO_6 := n0_; have HO_8 := n1_; have HO_9 := n2_; have HO_10 := n3_; have HO267 := n4_; have HO271 := n5_; have HB := n6_; clear n0_ n1_ n2_ n3_ n4_ n5_ n6_; (try clear hb); (try clear hkp); (try clear hy0)))
                (try simp only [Act.put, List.setIfInBounds_toArray, List.set_cons_zero, List.set_cons_succ])
                go_cut [82] (fun v82 wc => ∃ (kq : Nat) (x82_38 : Bool), v82 = .bool x82_38 ∧ Aside0 (laws_FnExactPlanUnder.j1 kq l0 l1 t250 t251 t260 x82_38 = some r) ∧ Aside0 (kq ≤ kj12) ∧ Aside0 (Kd.R Kd.string 9 wc w.heap.size (fun k_ => some k_ ≠ (v262 : Value).ownBlock) v252 t250) ∧ Aside0 (Kd.R Kd.string 9 wc w.heap.size (fun k_ => some k_ ≠ (v252 : Value).ownBlock) v262 t260) ∧ Aside0 (Below w.heap.size w wc))
                case first =>
                  have H := HC39.out
                  clear HC39
                  by_cases c46 : t275 < 0
                  · rw [if_pos c46] at H
                    have c46b0 : decide (t275 < 0) = true := decide_eq_true c46
                    clear c46
                    (first | rw [c46b0] | (simp only [i64_w, i32_w]; rw [c46b0]) | skip)
                    have H' := Aside0.mk H
                    clear H
                    go_wp2
                    go_meet
                    case rel => exact ⟨_, (true), (by first | rfl | (simp; done) | (simp [*]; done)), H', ⟨by have := HJ12.out; first | omega | exact Nat.le_refl _⟩, ⟨by (with_reducible repeat (first | apply Kd.R_alloc | apply Kd.R_drewN | apply Kd.R_drew)); exact Kd.R_mono HO_6.out (fun _ hk => hk.2.2.1)⟩, ⟨by (with_reducible repeat (first | apply Kd.R_alloc | apply Kd.R_drewN | apply Kd.R_drew)); exact Kd.R_mono HO_10.out (fun _ hk => hk.1)⟩, ⟨by repeat (first | (with_reducible first | exact HB.out | apply below_alloc | apply pw_below_drewN | apply below_drew1) | exact HB.out)⟩⟩
                  · rw [if_neg c46] at H
                    have c46b0 : decide (t275 < 0) = false := decide_eq_false c46
                    clear c46
                    (first | rw [c46b0] | (simp only [i64_w, i32_w]; rw [c46b0]) | skip)
                    replace H := Option.bind_eq_some_iff.mp H
                    obtain ⟨t277, A470, H⟩ := H
                    replace H : (if t277 = true then (laws_FnExactPlanUnder.j1 kj12 l0 l1 t250 t251 t260 (t261 != t251)) else (laws_FnExactPlanUnder.j1 kj12 l0 l1 t250 t251 t260 true)) = some r := H
                    have A47 := Aside0.mk A470
                    clear A470
                    by_cases c48 : t277 = true
                    · subst c48
                      have H1 : (laws_FnExactPlanUnder.j1 kj12 l0 l1 t250 t251 t260 (t261 != t251)) = some r := by rw [if_pos rfl] at H; exact H
                      clear H
                      have H := H1
                      clear H1
                      have H' := Aside0.mk H
                      clear H
                      obtain ⟨Ao49, co49, eo49⟩ := Kd.R_slice HO_10.out
                      subst eo49
                      obtain ⟨Ao50, co50, eo50⟩ := Kd.R_slice HO_6.out
                      subst eo50
                      go_wp2_with (first | (go_at_call 19; (with_reducible refine (laws_eqStringS.calls kj12 _ _ t260 _ _ t250 true _ ?side1 ?side2 ?side3 ?side4 A47.out).mono ?_); (case side1 => repeat (first | exact (Kd.R_reads' HO_10.out).2.2 | (with_reducible refine Kd.C_alloc ?_ _) | (with_reducible refine Kd.C_drewN ?_ _) | (with_reducible refine Kd.C_drew ?_))); (case side2 => exact (Kd.R_reads' HO_10.out).2.1); (case side3 => repeat (first | exact (Kd.R_reads' HO_6.out).2.2 | (with_reducible refine Kd.C_alloc ?_ _) | (with_reducible refine Kd.C_drewN ?_ _) | (with_reducible refine Kd.C_drew ?_))); (case side4 => exact (Kd.R_reads' HO_6.out).2.1); rintro e w' ⟨rfl, ⟨nd, rfl⟩⟩))
                      go_meet
                      case rel => exact ⟨_, ((t261 != t251)), (by first | rfl | (simp; done) | (simp [*]; done)), H', ⟨by have := HJ12.out; first | omega | exact Nat.le_refl _⟩, ⟨by (with_reducible repeat (first | apply Kd.R_alloc | apply Kd.R_drewN | apply Kd.R_drew)); exact Kd.R_mono HO_6.out (fun _ hk => hk.2.2.1)⟩, ⟨by (with_reducible repeat (first | apply Kd.R_alloc | apply Kd.R_drewN | apply Kd.R_drew)); exact Kd.R_mono HO_10.out (fun _ hk => hk.1)⟩, ⟨by repeat (first | (with_reducible first | exact HB.out | apply below_alloc | apply pw_below_drewN | apply below_drew1) | exact HB.out)⟩⟩
                    · replace c48 := Bool.eq_false_iff.mpr c48
                      subst c48
                      have H1 : (laws_FnExactPlanUnder.j1 kj12 l0 l1 t250 t251 t260 true) = some r := by rw [if_neg (show ¬ (false = true) by decide)] at H; exact H
                      clear H
                      have H := H1
                      clear H1
                      have H' := Aside0.mk H
                      clear H
                      obtain ⟨Ao51, co51, eo51⟩ := Kd.R_slice HO_10.out
                      subst eo51
                      obtain ⟨Ao52, co52, eo52⟩ := Kd.R_slice HO_6.out
                      subst eo52
                      go_wp2_with (first | (go_at_call 19; (with_reducible refine (laws_eqStringS.calls kj12 _ _ t260 _ _ t250 false _ ?side1 ?side2 ?side3 ?side4 A47.out).mono ?_); (case side1 => repeat (first | exact (Kd.R_reads' HO_10.out).2.2 | (with_reducible refine Kd.C_alloc ?_ _) | (with_reducible refine Kd.C_drewN ?_ _) | (with_reducible refine Kd.C_drew ?_))); (case side2 => exact (Kd.R_reads' HO_10.out).2.1); (case side3 => repeat (first | exact (Kd.R_reads' HO_6.out).2.2 | (with_reducible refine Kd.C_alloc ?_ _) | (with_reducible refine Kd.C_drewN ?_ _) | (with_reducible refine Kd.C_drew ?_))); (case side4 => exact (Kd.R_reads' HO_6.out).2.1); rintro e w' ⟨rfl, ⟨nd, rfl⟩⟩))
                      go_meet
                      case rel => exact ⟨_, (true), (by first | rfl | (simp; done) | (simp [*]; done)), H', ⟨by have := HJ12.out; first | omega | exact Nat.le_refl _⟩, ⟨by (with_reducible repeat (first | apply Kd.R_alloc | apply Kd.R_drewN | apply Kd.R_drew)); exact Kd.R_mono HO_6.out (fun _ hk => hk.2.2.1)⟩, ⟨by (with_reducible repeat (first | apply Kd.R_alloc | apply Kd.R_drewN | apply Kd.R_drew)); exact Kd.R_mono HO_10.out (fun _ hk => hk.1)⟩, ⟨by repeat (first | (with_reducible first | exact HB.out | apply below_alloc | apply pw_below_drewN | apply below_drew1) | exact HB.out)⟩⟩
                case rest =>
                  clear HC39
                  try clear c1
                  try clear c2
                  try clear p2
                  try clear c3
                  try clear c4
                  try clear c4b0
                  try clear c6
                  try clear c6b0
                  try clear c15
                  try clear c17
                  try clear c19
                  try clear c20
                  try clear c22
                  try clear c23
                  try clear c25
                  try clear c30
                  try clear c33
                  try clear c36
                  try clear c46
                  try clear c46b0
                  try clear c48
                  try clear p2
                  obtain ⟨kq, x82_38, rfl, HA, HJ38, HO_6, HO_10, HB⟩ := hcut
                  cases kq with
                  | zero => exact absurd HA.out (by simp [laws_FnExactPlanUnder.j1])
                  | succ kj38 =>
                    have H := HA.out
                    clear HA
                    simp only [laws_FnExactPlanUnder.j1] at H
                    by_cases c53 : x82_38 = true
                    · subst c53
                      have H1 : (some false) = some r := by rw [if_pos rfl] at H; exact H
                      clear H
                      have H := H1
                      clear H1
                      obtain rfl := Option.some.inj H
                      go_wp2
                      go_ret
                      exact ⟨by first | rfl | (simp [errW_none, errW_some] <;> rfl) | (simp [*, errW_none, errW_some] <;> rfl), by repeat (first | (with_reducible first | exact HB.out | apply below_alloc | apply pw_below_drewN | apply below_drew1) | exact HB.out)⟩
                    · replace c53 := Bool.eq_false_iff.mpr c53
                      subst c53
                      have H1 : ((laws_markStringS.f kj38 t260 1).bind fun bt278 => ((laws_heldStringS.f kj38 bt278.2 1).bind fun t280 => (if t280 < 0 then (some false) else (if t280 = bt278.1 then ((laws_toStringS.f kj38 l0).bind fun t281 => ((laws_toStringS.f kj38 l1).bind fun t284 => ((impl_PlanUnder.f t281 t284).bind fun bt287 => ((laws_eqStringS.f kj38 bt287.1 t250).bind fun t291 => (if t291 = true then (laws_FnExactPlanUnder.j2 kj38 bt278.2 bt278.1 (bt287.2 != t251)) else (laws_FnExactPlanUnder.j2 kj38 bt278.2 bt278.1 true)))))) else (some false))))) = some r := by rw [if_neg (show ¬ (false = true) by decide)] at H; exact H
                      clear H
                      have H := H1
                      clear H1
                      replace H := Option.bind_eq_some_iff.mp H
                      obtain ⟨⟨t278, t279⟩, A540, H⟩ := H
                      replace H : ((laws_heldStringS.f kj38 t279 1).bind fun t280 => (if t280 < 0 then (some false) else (if t280 = t278 then ((laws_toStringS.f kj38 l0).bind fun t281 => ((laws_toStringS.f kj38 l1).bind fun t284 => ((impl_PlanUnder.f t281 t284).bind fun bt287 => ((laws_eqStringS.f kj38 bt287.1 t250).bind fun t291 => (if t291 = true then (laws_FnExactPlanUnder.j2 kj38 t279 t278 (bt287.2 != t251)) else (laws_FnExactPlanUnder.j2 kj38 t279 t278 true)))))) else (some false)))) = some r := H
                      have A54 := Aside0.mk A540
                      clear A540
                      replace H := Option.bind_eq_some_iff.mp H
                      obtain ⟨t280, A550, H⟩ := H
                      replace H : (if t280 < 0 then (some false) else (if t280 = t278 then ((laws_toStringS.f kj38 l0).bind fun t281 => ((laws_toStringS.f kj38 l1).bind fun t284 => ((impl_PlanUnder.f t281 t284).bind fun bt287 => ((laws_eqStringS.f kj38 bt287.1 t250).bind fun t291 => (if t291 = true then (laws_FnExactPlanUnder.j2 kj38 t279 t278 (bt287.2 != t251)) else (laws_FnExactPlanUnder.j2 kj38 t279 t278 true)))))) else (some false))) = some r := H
                      have A55 := Aside0.mk A550
                      clear A550
                      by_cases c56 : t280 < 0
                      · rw [if_pos c56] at H
                        have c56b0 : decide (t280 < 0) = true := decide_eq_true c56
                        clear c56
                        obtain rfl := Option.some.inj H
                        obtain ⟨Ao57, co57, eo57⟩ := Kd.R_slice HO_10.out
                        subst eo57
                        go_wp2_with (first | ((with_reducible refine gate_callee (f := 20) rfl ?_); refine goesL_ (some 85) rfl rfl Try.func20 (by kernel_rfl) rfl #[.slice Ao57 t260.length co57, .int .i64 1] rfl (by (try simp only [List.map_toArray, List.map_cons, List.map_nil]); first | done | rfl | (simp only [List.length_drop, List.length_take]; rfl)) ?_; (with_reducible refine (laws_markStringS.calls kj38 (fun k_ => some k_ = (.slice Ao57 t260.length co57 : Value).ownBlock) (.slice Ao57 t260.length co57) t260 1 t278 t279 w _ ?side1 ?side2 A54.out).mono ?_); (case side1 => repeat (first | (with_reducible first | exact HB.out | apply below_alloc | apply pw_below_drewN | apply below_drew1) | exact HB.out)); (case side2 => exact Kd.R_tight rfl HO_10.out); rintro e w58 ⟨rfl, hy0, hb, hkp⟩; refine ⟨_, rfl, ?_⟩; have n0_ := Aside0.mk (Kd.R_mono (ok' := fun k_ => some k_ ≠ (.slice Ao57 t260.length co57 : Value).ownBlock) (Kd.R_keptB (HO_6.out) hkp (fun k_ hk_ hs_ => (hk_) hs_)) (fun k_ hk_ => hk_.1)); have n1_ := Aside0.mk (Kd.R_reok rfl hy0 (fun k_ e_ => HO_10.out.1 k_ e_)); have n2_ := Aside0.mk (hb); clear HO_6; clear HO_10; clear HB; have HO_6 := n0_; have HO_10 := n1_; have HB := n2_; clear n0_ n1_ n2_; (try clear hb); (try clear hkp); (try clear hy0)) | ((with_reducible refine gate_callee (f := 21) rfl ?_); refine goesL_ (some 88) rfl rfl Try.func21 (by kernel_rfl) rfl #[.slice Ao57 t279.length co57, .int .i64 1] rfl (by (try simp only [List.map_toArray, List.map_cons, List.map_nil]); first | done | (rw [show t279.length = t260.length from (Kd.R_reads' HO_10.out).1.symm] <;> rfl) | rfl | (simp only [List.length_drop, List.length_take]; rfl)) ?_; (with_reducible refine (laws_heldStringS.calls kj38 _ _ t279 1 t280 _ ?side1 ?side2 A55.out).mono ?_); (case side1 => repeat (first | exact (Kd.R_reads' HO_10.out).2.2 | (with_reducible refine Kd.C_alloc ?_ _) | (with_reducible refine Kd.C_drewN ?_ _) | (with_reducible refine Kd.C_drew ?_))); (case side2 => rw [show t279.length = t260.length from (Kd.R_reads' HO_10.out).1.symm]; exact (Kd.R_reads' HO_10.out).2.1); rintro e w59 ⟨rfl, hb⟩; refine ⟨_, rfl, ?_⟩; have n0_ := Aside0.mk (Kd.R_below (by (with_reducible repeat (first | apply Kd.R_alloc | apply Kd.R_drewN | apply Kd.R_drew)); exact HO_6.out) hb); have n1_ := Aside0.mk (Kd.R_below (by (with_reducible repeat (first | apply Kd.R_alloc | apply Kd.R_drewN | apply Kd.R_drew)); exact HO_10.out) hb); have n2_ := Aside0.mk (below_step (by repeat (first | (with_reducible first | exact HB.out | apply below_alloc | apply pw_below_drewN | apply below_drew1) | exact HB.out)) hb); clear HO_6; clear HO_10; clear HB; have HO_6 := n0_; have HO_10 := n1_; have HB := n2_; clear n0_ n1_ n2_; (try clear hb); (try clear hb2); (try clear hk); (try clear hi)))
                        go_ret
                        exact ⟨by first | rfl | (simp [errW_none, errW_some] <;> rfl) | (simp [*, errW_none, errW_some] <;> rfl), by repeat (first | (with_reducible first | exact HB.out | apply below_alloc | apply pw_below_drewN | apply below_drew1) | exact HB.out)⟩
                      · rw [if_neg c56] at H
                        have c56b0 : decide (t280 < 0) = false := decide_eq_false c56
                        clear c56
                        by_cases c60 : t280 = t278
                        · rw [if_pos c60] at H
                          have c60b0 : (t280 == t278) = true := beq_iff_eq.mpr c60
                          have c60b1 : (t280 != t278) = false := bne_eq_false_iff_eq.mpr c60
                          clear c60
                          replace H := Option.bind_eq_some_iff.mp H
                          obtain ⟨t281, A610, H⟩ := H
                          replace H : ((laws_toStringS.f kj38 l1).bind fun t284 => ((impl_PlanUnder.f t281 t284).bind fun bt287 => ((laws_eqStringS.f kj38 bt287.1 t250).bind fun t291 => (if t291 = true then (laws_FnExactPlanUnder.j2 kj38 t279 t278 (bt287.2 != t251)) else (laws_FnExactPlanUnder.j2 kj38 t279 t278 true))))) = some r := H
                          have A61 := Aside0.mk A610
                          clear A610
                          replace H := Option.bind_eq_some_iff.mp H
                          obtain ⟨t284, A620, H⟩ := H
                          replace H : ((impl_PlanUnder.f t281 t284).bind fun bt287 => ((laws_eqStringS.f kj38 bt287.1 t250).bind fun t291 => (if t291 = true then (laws_FnExactPlanUnder.j2 kj38 t279 t278 (bt287.2 != t251)) else (laws_FnExactPlanUnder.j2 kj38 t279 t278 true)))) = some r := H
                          have A62 := Aside0.mk A620
                          clear A620
                          replace H := Option.bind_eq_some_iff.mp H
                          obtain ⟨⟨t287, t288⟩, A630, H⟩ := H
                          replace H : ((laws_eqStringS.f kj38 t287 t250).bind fun t291 => (if t291 = true then (laws_FnExactPlanUnder.j2 kj38 t279 t278 (t288 != t251)) else (laws_FnExactPlanUnder.j2 kj38 t279 t278 true))) = some r := H
                          have A63 := Aside0.mk A630
                          clear A630
                          have HC64 := Aside0.mk H
                          clear H
                          obtain ⟨Ao65, co65, eo65⟩ := Kd.R_slice HO_10.out
                          subst eo65
                          go_upto_region 32 with (first | ((with_reducible refine gate_callee (f := 20) rfl ?_); refine goesL_ (some 85) rfl rfl Try.func20 (by kernel_rfl) rfl #[.slice Ao65 t260.length co65, .int .i64 1] rfl (by (try simp only [List.map_toArray, List.map_cons, List.map_nil]); first | done | rfl | (simp only [List.length_drop, List.length_take]; rfl)) ?_; (with_reducible refine (laws_markStringS.calls kj38 (fun k_ => some k_ = (.slice Ao65 t260.length co65 : Value).ownBlock) (.slice Ao65 t260.length co65) t260 1 t278 t279 w _ ?side1 ?side2 A54.out).mono ?_); (case side1 => repeat (first | (with_reducible first | exact HB.out | apply below_alloc | apply pw_below_drewN | apply below_drew1) | exact HB.out)); (case side2 => exact Kd.R_tight rfl HO_10.out); rintro e w66 ⟨rfl, hy0, hb, hkp⟩; refine ⟨_, rfl, ?_⟩; have n0_ := Aside0.mk (Kd.R_mono (ok' := fun k_ => some k_ ≠ (.slice Ao65 t260.length co65 : Value).ownBlock) (Kd.R_keptB (HO_6.out) hkp (fun k_ hk_ hs_ => (hk_) hs_)) (fun k_ hk_ => hk_.1)); have n1_ := Aside0.mk (Kd.R_reok rfl hy0 (fun k_ e_ => HO_10.out.1 k_ e_)); have n2_ := Aside0.mk (hb); clear HO_6; clear HO_10; clear HB; have HO_6 := n0_; have HO_10 := n1_; have HB := n2_; clear n0_ n1_ n2_; (try clear hb); (try clear hkp); (try clear hy0)) | ((with_reducible refine gate_callee (f := 21) rfl ?_); refine goesL_ (some 88) rfl rfl Try.func21 (by kernel_rfl) rfl #[.slice Ao65 t279.length co65, .int .i64 1] rfl (by (try simp only [List.map_toArray, List.map_cons, List.map_nil]); first | done | (rw [show t279.length = t260.length from (Kd.R_reads' HO_10.out).1.symm] <;> rfl) | rfl | (simp only [List.length_drop, List.length_take]; rfl)) ?_; (with_reducible refine (laws_heldStringS.calls kj38 _ _ t279 1 t280 _ ?side1 ?side2 A55.out).mono ?_); (case side1 => repeat (first | exact (Kd.R_reads' HO_10.out).2.2 | (with_reducible refine Kd.C_alloc ?_ _) | (with_reducible refine Kd.C_drewN ?_ _) | (with_reducible refine Kd.C_drew ?_))); (case side2 => rw [show t279.length = t260.length from (Kd.R_reads' HO_10.out).1.symm]; exact (Kd.R_reads' HO_10.out).2.1); rintro e w67 ⟨rfl, hb⟩; refine ⟨_, rfl, ?_⟩; have n0_ := Aside0.mk (Kd.R_below (by (with_reducible repeat (first | apply Kd.R_alloc | apply Kd.R_drewN | apply Kd.R_drew)); exact HO_6.out) hb); have n1_ := Aside0.mk (Kd.R_below (by (with_reducible repeat (first | apply Kd.R_alloc | apply Kd.R_drewN | apply Kd.R_drew)); exact HO_10.out) hb); have n2_ := Aside0.mk (below_step (by repeat (first | (with_reducible first | exact HB.out | apply below_alloc | apply pw_below_drewN | apply below_drew1) | exact HB.out)) hb); clear HO_6; clear HO_10; clear HB; have HO_6 := n0_; have HO_10 := n1_; have HB := n2_; clear n0_ n1_ n2_; (try clear hb); (try clear hb2); (try clear hk); (try clear hi)) | ((with_reducible refine gate_callee (f := 17) rfl ?_); refine goesL_ (some 96) rfl rfl Try.func17 (by kernel_rfl) rfl #[.slice A0 l0.length c0] rfl (by (try simp only [List.map_toArray, List.map_cons, List.map_nil]); first | done | rfl | (simp only [List.length_drop, List.length_take]; rfl)) ?_; (with_reducible refine (laws_toStringS.calls kj38 _ _ l0 t281 _ ?side1 ?side2 A61.out).mono ?_); (case side1 => repeat (first | exact (Kd.C_below HR0.out HB.out) | (with_reducible refine Kd.C_alloc ?_ _) | (with_reducible refine Kd.C_drewN ?_ _) | (with_reducible refine Kd.C_drew ?_))); (case side2 => exact HC0.out); rintro e w68 ⟨v282, rfl, ho0, hb⟩; refine ⟨_, rfl, ?_⟩; have n0_ := Aside0.mk (Kd.R_elder' (by (with_reducible repeat (first | apply Kd.R_alloc | apply Kd.R_drewN | apply Kd.R_drew)); exact HO_6.out) (Kd.R_base ho0) hb); have n1_ := Aside0.mk (Kd.R_elder' (by (with_reducible repeat (first | apply Kd.R_alloc | apply Kd.R_drewN | apply Kd.R_drew)); exact HO_10.out) (Kd.R_base ho0) hb); have n2_ := Aside0.mk (Kd.R_lower (Kd.R_new' (Kd.R_new' ho0 (Kd.R_lt (by (with_reducible repeat (first | apply Kd.R_alloc | apply Kd.R_drewN | apply Kd.R_drew)); exact HO_6.out))) (Kd.R_lt (by (with_reducible repeat (first | apply Kd.R_alloc | apply Kd.R_drewN | apply Kd.R_drew)); exact HO_10.out))) (below_size (by repeat (first | (with_reducible first | exact HB.out | apply below_alloc | apply pw_below_drewN | apply below_drew1) | exact HB.out)))); have n3_ := Aside0.mk (below_step (by repeat (first | (with_reducible first | exact HB.out | apply below_alloc | apply pw_below_drewN | apply below_drew1) | exact HB.out)) hb); clear HO_6; clear HO_10; clear HB; have HO_6 := n0_; have HO_10 := n1_; have HO283 := n2_; have HB := n3_; clear n0_ n1_ n2_ n3_; (try clear hb); (try clear hb2); (try clear hk); (try clear hi); (try clear ho0)) | ((with_reducible refine gate_callee (f := 17) rfl ?_); refine goesL_ (some 98) rfl rfl Try.func17 (by kernel_rfl) rfl #[.slice A1 l1.length c1] rfl (by (try simp only [List.map_toArray, List.map_cons, List.map_nil]); first | done | rfl | (simp only [List.length_drop, List.length_take]; rfl)) ?_; (with_reducible refine (laws_toStringS.calls kj38 _ _ l1 t284 _ ?side1 ?side2 A62.out).mono ?_); (case side1 => repeat (first | exact (Kd.C_below HR1.out HB.out) | (with_reducible refine Kd.C_alloc ?_ _) | (with_reducible refine Kd.C_drewN ?_ _) | (with_reducible refine Kd.C_drew ?_))); (case side2 => exact HC1.out); rintro e w69 ⟨v285, rfl, ho0, hb⟩; refine ⟨_, rfl, ?_⟩; have n0_ := Aside0.mk (Kd.R_elder' (by (with_reducible repeat (first | apply Kd.R_alloc | apply Kd.R_drewN | apply Kd.R_drew)); exact HO_6.out) (Kd.R_base ho0) hb); have n1_ := Aside0.mk (Kd.R_elder' (by (with_reducible repeat (first | apply Kd.R_alloc | apply Kd.R_drewN | apply Kd.R_drew)); exact HO_10.out) (Kd.R_base ho0) hb); have n2_ := Aside0.mk (Kd.R_elder' (by (with_reducible repeat (first | apply Kd.R_alloc | apply Kd.R_drewN | apply Kd.R_drew)); exact HO283.out) (Kd.R_base ho0) hb); have n3_ := Aside0.mk (Kd.R_lower (Kd.R_new' (Kd.R_new' (Kd.R_new' ho0 (Kd.R_lt (by (with_reducible repeat (first | apply Kd.R_alloc | apply Kd.R_drewN | apply Kd.R_drew)); exact HO_6.out))) (Kd.R_lt (by (with_reducible repeat (first | apply Kd.R_alloc | apply Kd.R_drewN | apply Kd.R_drew)); exact HO_10.out))) (Kd.R_lt (by (with_reducible repeat (first | apply Kd.R_alloc | apply Kd.R_drewN | apply Kd.R_drew)); exact HO283.out))) (below_size (by repeat (first | (with_reducible first | exact HB.out | apply below_alloc | apply pw_below_drewN | apply below_drew1) | exact HB.out)))); have n4_ := Aside0.mk (below_step (by repeat (first | (with_reducible first | exact HB.out | apply below_alloc | apply pw_below_drewN | apply below_drew1) | exact HB.out)) hb); clear HO_6; clear HO_10; clear HO283; clear HB; have HO_6 := n0_; have HO_10 := n1_; have HO283 := n2_; have HO286 := n3_; have HB := n4_; clear n0_ n1_ n2_ n3_ n4_; (try clear hb); (try clear hb2); (try clear hk); (try clear hi); (try clear ho0); obtain ⟨Ao70, co70, eo70⟩ := Kd.R_slice HO283.out; subst eo70; obtain ⟨Ao71, co71, eo71⟩ := Kd.R_slice HO286.out; subst eo71) | ((with_reducible refine gate_callee (f := 23) rfl ?_); refine goesL_ (some 99) rfl rfl Try.func23 (by kernel_rfl) rfl #[.slice Ao70 t281.length co70, .slice Ao71 t284.length co71] rfl (by (try simp only [List.map_toArray, List.map_cons, List.map_nil]); first | done | rfl | (simp only [List.length_drop, List.length_take]; rfl)) ?_; (with_reducible refine (impl_PlanUnder.calls _ _ t281 _ _ t284 t287 t288 _ ?side1 ?side2 ?side3 ?side4 A63.out).mono ?_); (case side1 => repeat (first | exact (Kd.R_reads' HO283.out).2.2 | (with_reducible refine Kd.C_alloc ?_ _) | (with_reducible refine Kd.C_drewN ?_ _) | (with_reducible refine Kd.C_drew ?_))); (case side2 => exact (Kd.R_reads' HO283.out).2.1); (case side3 => repeat (first | exact (Kd.R_reads' HO286.out).2.2 | (with_reducible refine Kd.C_alloc ?_ _) | (with_reducible refine Kd.C_drewN ?_ _) | (with_reducible refine Kd.C_drew ?_))); (case side4 => exact (Kd.R_reads' HO286.out).2.1); rintro e w72 ⟨v289, rfl, ho0, hb⟩; refine ⟨_, rfl, ?_⟩; have n0_ := Aside0.mk (Kd.R_elder' (by (with_reducible repeat (first | apply Kd.R_alloc | apply Kd.R_drewN | apply Kd.R_drew)); exact HO_6.out) (Kd.R_base ho0) hb); have n1_ := Aside0.mk (Kd.R_elder' (by (with_reducible repeat (first | apply Kd.R_alloc | apply Kd.R_drewN | apply Kd.R_drew)); exact HO_10.out) (Kd.R_base ho0) hb); have n2_ := Aside0.mk (Kd.R_elder' (by (with_reducible repeat (first | apply Kd.R_alloc | apply Kd.R_drewN | apply Kd.R_drew)); exact HO283.out) (Kd.R_base ho0) hb); have n3_ := Aside0.mk (Kd.R_elder' (by (with_reducible repeat (first | apply Kd.R_alloc | apply Kd.R_drewN | apply Kd.R_drew)); exact HO286.out) (Kd.R_base ho0) hb); have n4_ := Aside0.mk (Kd.R_lower (Kd.R_new' (Kd.R_new' (Kd.R_new' (Kd.R_new' ho0 (Kd.R_lt (by (with_reducible repeat (first | apply Kd.R_alloc | apply Kd.R_drewN | apply Kd.R_drew)); exact HO_6.out))) (Kd.R_lt (by (with_reducible repeat (first | apply Kd.R_alloc | apply Kd.R_drewN | apply Kd.R_drew)); exact HO_10.out))) (Kd.R_lt (by (with_reducible repeat (first | apply Kd.R_alloc | apply Kd.R_drewN | apply Kd.R_drew)); exact HO283.out))) (Kd.R_lt (by (with_reducible repeat (first | apply Kd.R_alloc | apply Kd.R_drewN | apply Kd.R_drew)); exact HO286.out))) (below_size (by repeat (first | (with_reducible first | exact HB.out | apply below_alloc | apply pw_below_drewN | apply below_drew1) | exact HB.out)))); have n5_ := Aside0.mk (below_step (by repeat (first | (with_reducible first | exact HB.out | apply below_alloc | apply pw_below_drewN | apply below_drew1) | exact HB.out)) hb); clear HO_6; clear HO_10; clear HO283; clear HO286; clear HB; have HO_6 := n0_; have HO_10 := n1_; have HO283 := n2_; have HO286 := n3_; have HO290 := n4_; have HB := n5_; clear n0_ n1_ n2_ n3_ n4_ n5_; (try clear hb); (try clear hb2); (try clear hk); (try clear hi); (try clear ho0)))
                          (try simp only [Act.put, List.setIfInBounds_toArray, List.set_cons_zero, List.set_cons_succ])
                          go_cut [110] (fun v110 wc => ∃ (kq : Nat) (x110_63 : Bool), v110 = .bool x110_63 ∧ Aside0 (laws_FnExactPlanUnder.j2 kq t279 t278 x110_63 = some r) ∧ Aside0 (kq ≤ kj38) ∧ Aside0 (Kd.R Kd.string 9 wc w.heap.size (fun _ => True) (.slice Ao65 t260.length co65) t279) ∧ Aside0 (Below w.heap.size w wc))
                          case first =>
                            have H := HC64.out
                            clear HC64
                            replace H := Option.bind_eq_some_iff.mp H
                            obtain ⟨t291, A730, H⟩ := H
                            replace H : (if t291 = true then (laws_FnExactPlanUnder.j2 kj38 t279 t278 (t288 != t251)) else (laws_FnExactPlanUnder.j2 kj38 t279 t278 true)) = some r := H
                            have A73 := Aside0.mk A730
                            clear A730
                            by_cases c74 : t291 = true
                            · subst c74
                              have H1 : (laws_FnExactPlanUnder.j2 kj38 t279 t278 (t288 != t251)) = some r := by rw [if_pos rfl] at H; exact H
                              clear H
                              have H := H1
                              clear H1
                              have H' := Aside0.mk H
                              clear H
                              obtain ⟨Ao75, co75, eo75⟩ := Kd.R_slice HO290.out
                              subst eo75
                              obtain ⟨Ao76, co76, eo76⟩ := Kd.R_slice HO_6.out
                              subst eo76
                              go_wp2_with (first | ((with_reducible refine gate_callee (f := 19) rfl ?_); refine goesL_ (some 104) rfl rfl Try.func19 (by kernel_rfl) rfl #[.slice Ao75 t287.length co75, .slice Ao76 t250.length co76] rfl (by (try simp only [List.map_toArray, List.map_cons, List.map_nil]); first | done | rfl | (simp only [List.length_drop, List.length_take]; rfl)) ?_; (with_reducible refine (laws_eqStringS.calls kj38 _ _ t287 _ _ t250 true _ ?side1 ?side2 ?side3 ?side4 A73.out).mono ?_); (case side1 => repeat (first | exact (Kd.R_reads' HO290.out).2.2 | (with_reducible refine Kd.C_alloc ?_ _) | (with_reducible refine Kd.C_drewN ?_ _) | (with_reducible refine Kd.C_drew ?_))); (case side2 => exact (Kd.R_reads' HO290.out).2.1); (case side3 => repeat (first | exact (Kd.R_reads' HO_6.out).2.2 | (with_reducible refine Kd.C_alloc ?_ _) | (with_reducible refine Kd.C_drewN ?_ _) | (with_reducible refine Kd.C_drew ?_))); (case side4 => exact (Kd.R_reads' HO_6.out).2.1); rintro e w' ⟨rfl, ⟨nd, rfl⟩⟩; refine ⟨_, rfl, ?_⟩))
                              go_meet
                              case rel => exact ⟨_, ((t288 != t251)), (by first | rfl | (simp; done) | (simp [*]; done)), H', ⟨by have := HJ12.out; have := HJ38.out; first | omega | exact Nat.le_refl _⟩, ⟨by (with_reducible repeat (first | apply Kd.R_alloc | apply Kd.R_drewN | apply Kd.R_drew)); exact Kd.R_mono HO_10.out (fun _ hk => trivial)⟩, ⟨by repeat (first | (with_reducible first | exact HB.out | apply below_alloc | apply pw_below_drewN | apply below_drew1) | exact HB.out)⟩⟩
                            · replace c74 := Bool.eq_false_iff.mpr c74
                              subst c74
                              have H1 : (laws_FnExactPlanUnder.j2 kj38 t279 t278 true) = some r := by rw [if_neg (show ¬ (false = true) by decide)] at H; exact H
                              clear H
                              have H := H1
                              clear H1
                              have H' := Aside0.mk H
                              clear H
                              obtain ⟨Ao77, co77, eo77⟩ := Kd.R_slice HO290.out
                              subst eo77
                              obtain ⟨Ao78, co78, eo78⟩ := Kd.R_slice HO_6.out
                              subst eo78
                              go_wp2_with (first | ((with_reducible refine gate_callee (f := 19) rfl ?_); refine goesL_ (some 104) rfl rfl Try.func19 (by kernel_rfl) rfl #[.slice Ao77 t287.length co77, .slice Ao78 t250.length co78] rfl (by (try simp only [List.map_toArray, List.map_cons, List.map_nil]); first | done | rfl | (simp only [List.length_drop, List.length_take]; rfl)) ?_; (with_reducible refine (laws_eqStringS.calls kj38 _ _ t287 _ _ t250 false _ ?side1 ?side2 ?side3 ?side4 A73.out).mono ?_); (case side1 => repeat (first | exact (Kd.R_reads' HO290.out).2.2 | (with_reducible refine Kd.C_alloc ?_ _) | (with_reducible refine Kd.C_drewN ?_ _) | (with_reducible refine Kd.C_drew ?_))); (case side2 => exact (Kd.R_reads' HO290.out).2.1); (case side3 => repeat (first | exact (Kd.R_reads' HO_6.out).2.2 | (with_reducible refine Kd.C_alloc ?_ _) | (with_reducible refine Kd.C_drewN ?_ _) | (with_reducible refine Kd.C_drew ?_))); (case side4 => exact (Kd.R_reads' HO_6.out).2.1); rintro e w' ⟨rfl, ⟨nd, rfl⟩⟩; refine ⟨_, rfl, ?_⟩))
                              go_meet
                              case rel => exact ⟨_, (true), (by first | rfl | (simp; done) | (simp [*]; done)), H', ⟨by have := HJ12.out; have := HJ38.out; first | omega | exact Nat.le_refl _⟩, ⟨by (with_reducible repeat (first | apply Kd.R_alloc | apply Kd.R_drewN | apply Kd.R_drew)); exact Kd.R_mono HO_10.out (fun _ hk => trivial)⟩, ⟨by repeat (first | (with_reducible first | exact HB.out | apply below_alloc | apply pw_below_drewN | apply below_drew1) | exact HB.out)⟩⟩
                          case rest =>
                            clear HC64
                            try clear c1
                            try clear c2
                            try clear p2
                            try clear c3
                            try clear c4
                            try clear c4b0
                            try clear c5
                            try clear c6
                            try clear c6b0
                            try clear c7
                            try clear c15
                            try clear c17
                            try clear c19
                            try clear c20
                            try clear c21
                            try clear c22
                            try clear c23
                            try clear c25
                            try clear c30
                            try clear c33
                            try clear c36
                            try clear c46
                            try clear c46b0
                            try clear c48
                            try clear c53
                            try clear c56
                            try clear c56b0
                            try clear c60
                            try clear c60b0
                            try clear c60b1
                            try clear c74
                            try clear p2
                            obtain ⟨kq, x110_63, rfl, HA, HJ63, HO_10, HB⟩ := hcut
                            have hl10_63 := (Kd.R_reads' HO_10.out).1
                            rw [hl10_63] at HO_10
                            (try simp only [hl10_63])
                            cases kq with
                            | zero => exact absurd HA.out (by simp [laws_FnExactPlanUnder.j2])
                            | succ kj63 =>
                              have H := HA.out
                              clear HA
                              simp only [laws_FnExactPlanUnder.j2] at H
                              by_cases c79 : x110_63 = true
                              · subst c79
                                have H1 : (some false) = some r := by rw [if_pos rfl] at H; exact H
                                clear H
                                have H := H1
                                clear H1
                                obtain rfl := Option.some.inj H
                                go_wp2
                                go_ret
                                exact ⟨by first | rfl | (simp [errW_none, errW_some] <;> rfl) | (simp [*, errW_none, errW_some] <;> rfl), by repeat (first | (with_reducible first | exact HB.out | apply below_alloc | apply pw_below_drewN | apply below_drew1) | exact HB.out)⟩
                              · replace c79 := Bool.eq_false_iff.mpr c79
                                subst c79
                                have H1 : ((laws_heldStringS.f kj63 t279 1).bind fun t292 => (if t292 < 0 then (some false) else (if t292 = t278 then (some true) else (some false)))) = some r := by rw [if_neg (show ¬ (false = true) by decide)] at H; exact H
                                clear H
                                have H := H1
                                clear H1
                                replace H := Option.bind_eq_some_iff.mp H
                                obtain ⟨t292, A800, H⟩ := H
                                replace H : (if t292 < 0 then (some false) else (if t292 = t278 then (some true) else (some false))) = some r := H
                                have A80 := Aside0.mk A800
                                clear A800
                                by_cases c81 : t292 < 0
                                · rw [if_pos c81] at H
                                  have c81b0 : decide (t292 < 0) = true := decide_eq_true c81
                                  clear c81
                                  obtain rfl := Option.some.inj H
                                  go_wp2_with (first | ((with_reducible refine gate_callee (f := 21) rfl ?_); refine goesL_ (some 113) rfl rfl Try.func21 (by kernel_rfl) rfl #[.slice Ao65 t279.length co65, .int .i64 1] rfl (by (try simp only [List.map_toArray, List.map_cons, List.map_nil]); first | done | rfl | (simp only [List.length_drop, List.length_take]; rfl)) ?_; (with_reducible refine (laws_heldStringS.calls kj63 _ _ t279 1 t292 _ ?side1 ?side2 A80.out).mono ?_); (case side1 => repeat (first | exact (Kd.R_reads' HO_10.out).2.2 | (with_reducible refine Kd.C_alloc ?_ _) | (with_reducible refine Kd.C_drewN ?_ _) | (with_reducible refine Kd.C_drew ?_))); (case side2 => exact (Kd.R_reads' HO_10.out).2.1); rintro e w82 ⟨rfl, hb⟩; refine ⟨_, rfl, ?_⟩; have n0_ := Aside0.mk (Kd.R_below (by (with_reducible repeat (first | apply Kd.R_alloc | apply Kd.R_drewN | apply Kd.R_drew)); exact HO_10.out) hb); have n1_ := Aside0.mk (below_step (by repeat (first | (with_reducible first | exact HB.out | apply below_alloc | apply pw_below_drewN | apply below_drew1) | exact HB.out)) hb); clear HO_10; clear HB; have HO_10 := n0_; have HB := n1_; clear n0_ n1_; (try clear hb); (try clear hb2); (try clear hk); (try clear hi)))
                                  go_ret
                                  exact ⟨by first | rfl | (simp [errW_none, errW_some] <;> rfl) | (simp [*, errW_none, errW_some] <;> rfl), by repeat (first | (with_reducible first | exact HB.out | apply below_alloc | apply pw_below_drewN | apply below_drew1) | exact HB.out)⟩
                                · rw [if_neg c81] at H
                                  have c81b0 : decide (t292 < 0) = false := decide_eq_false c81
                                  clear c81
                                  by_cases c83 : t292 = t278
                                  · rw [if_pos c83] at H
                                    have c83b0 : (t292 == t278) = true := beq_iff_eq.mpr c83
                                    have c83b1 : (t292 != t278) = false := bne_eq_false_iff_eq.mpr c83
                                    clear c83
                                    obtain rfl := Option.some.inj H
                                    go_wp2_with (first | ((with_reducible refine gate_callee (f := 21) rfl ?_); refine goesL_ (some 113) rfl rfl Try.func21 (by kernel_rfl) rfl #[.slice Ao65 t279.length co65, .int .i64 1] rfl (by (try simp only [List.map_toArray, List.map_cons, List.map_nil]); first | done | rfl | (simp only [List.length_drop, List.length_take]; rfl)) ?_; (with_reducible refine (laws_heldStringS.calls kj63 _ _ t279 1 t292 _ ?side1 ?side2 A80.out).mono ?_); (case side1 => repeat (first | exact (Kd.R_reads' HO_10.out).2.2 | (with_reducible refine Kd.C_alloc ?_ _) | (with_reducible refine Kd.C_drewN ?_ _) | (with_reducible refine Kd.C_drew ?_))); (case side2 => exact (Kd.R_reads' HO_10.out).2.1); rintro e w84 ⟨rfl, hb⟩; refine ⟨_, rfl, ?_⟩; have n0_ := Aside0.mk (Kd.R_below (by (with_reducible repeat (first | apply Kd.R_alloc | apply Kd.R_drewN | apply Kd.R_drew)); exact HO_10.out) hb); have n1_ := Aside0.mk (below_step (by repeat (first | (with_reducible first | exact HB.out | apply below_alloc | apply pw_below_drewN | apply below_drew1) | exact HB.out)) hb); clear HO_10; clear HB; have HO_10 := n0_; have HB := n1_; clear n0_ n1_; (try clear hb); (try clear hb2); (try clear hk); (try clear hi)))
                                    go_ret
                                    exact ⟨by first | rfl | (simp [errW_none, errW_some] <;> rfl) | (simp [*, errW_none, errW_some] <;> rfl), by repeat (first | (with_reducible first | exact HB.out | apply below_alloc | apply pw_below_drewN | apply below_drew1) | exact HB.out)⟩
                                  · rw [if_neg c83] at H
                                    have c83b0 : (t292 == t278) = false := beq_eq_false_iff_ne.mpr c83
                                    have c83b1 : (t292 != t278) = true := bne_iff_ne.mpr c83
                                    obtain rfl := Option.some.inj H
                                    go_wp2_with (first | ((with_reducible refine gate_callee (f := 21) rfl ?_); refine goesL_ (some 113) rfl rfl Try.func21 (by kernel_rfl) rfl #[.slice Ao65 t279.length co65, .int .i64 1] rfl (by (try simp only [List.map_toArray, List.map_cons, List.map_nil]); first | done | rfl | (simp only [List.length_drop, List.length_take]; rfl)) ?_; (with_reducible refine (laws_heldStringS.calls kj63 _ _ t279 1 t292 _ ?side1 ?side2 A80.out).mono ?_); (case side1 => repeat (first | exact (Kd.R_reads' HO_10.out).2.2 | (with_reducible refine Kd.C_alloc ?_ _) | (with_reducible refine Kd.C_drewN ?_ _) | (with_reducible refine Kd.C_drew ?_))); (case side2 => exact (Kd.R_reads' HO_10.out).2.1); rintro e w85 ⟨rfl, hb⟩; refine ⟨_, rfl, ?_⟩; have n0_ := Aside0.mk (Kd.R_below (by (with_reducible repeat (first | apply Kd.R_alloc | apply Kd.R_drewN | apply Kd.R_drew)); exact HO_10.out) hb); have n1_ := Aside0.mk (below_step (by repeat (first | (with_reducible first | exact HB.out | apply below_alloc | apply pw_below_drewN | apply below_drew1) | exact HB.out)) hb); clear HO_10; clear HB; have HO_10 := n0_; have HB := n1_; clear n0_ n1_; (try clear hb); (try clear hb2); (try clear hk); (try clear hi)))
                                    go_ret
                                    exact ⟨by first | rfl | (simp [errW_none, errW_some] <;> rfl) | (simp [*, errW_none, errW_some] <;> rfl), by repeat (first | (with_reducible first | exact HB.out | apply below_alloc | apply pw_below_drewN | apply below_drew1) | exact HB.out)⟩
                        · rw [if_neg c60] at H
                          have c60b0 : (t280 == t278) = false := beq_eq_false_iff_ne.mpr c60
                          have c60b1 : (t280 != t278) = true := bne_iff_ne.mpr c60
                          obtain rfl := Option.some.inj H
                          obtain ⟨Ao86, co86, eo86⟩ := Kd.R_slice HO_10.out
                          subst eo86
                          go_wp2_with (first | ((with_reducible refine gate_callee (f := 20) rfl ?_); refine goesL_ (some 85) rfl rfl Try.func20 (by kernel_rfl) rfl #[.slice Ao86 t260.length co86, .int .i64 1] rfl (by (try simp only [List.map_toArray, List.map_cons, List.map_nil]); first | done | rfl | (simp only [List.length_drop, List.length_take]; rfl)) ?_; (with_reducible refine (laws_markStringS.calls kj38 (fun k_ => some k_ = (.slice Ao86 t260.length co86 : Value).ownBlock) (.slice Ao86 t260.length co86) t260 1 t278 t279 w _ ?side1 ?side2 A54.out).mono ?_); (case side1 => repeat (first | (with_reducible first | exact HB.out | apply below_alloc | apply pw_below_drewN | apply below_drew1) | exact HB.out)); (case side2 => exact Kd.R_tight rfl HO_10.out); rintro e w87 ⟨rfl, hy0, hb, hkp⟩; refine ⟨_, rfl, ?_⟩; have n0_ := Aside0.mk (Kd.R_mono (ok' := fun k_ => some k_ ≠ (.slice Ao86 t260.length co86 : Value).ownBlock) (Kd.R_keptB (HO_6.out) hkp (fun k_ hk_ hs_ => (hk_) hs_)) (fun k_ hk_ => hk_.1)); have n1_ := Aside0.mk (Kd.R_reok rfl hy0 (fun k_ e_ => HO_10.out.1 k_ e_)); have n2_ := Aside0.mk (hb); clear HO_6; clear HO_10; clear HB; have HO_6 := n0_; have HO_10 := n1_; have HB := n2_; clear n0_ n1_ n2_; (try clear hb); (try clear hkp); (try clear hy0)) | ((with_reducible refine gate_callee (f := 21) rfl ?_); refine goesL_ (some 88) rfl rfl Try.func21 (by kernel_rfl) rfl #[.slice Ao86 t279.length co86, .int .i64 1] rfl (by (try simp only [List.map_toArray, List.map_cons, List.map_nil]); first | done | (rw [show t279.length = t260.length from (Kd.R_reads' HO_10.out).1.symm] <;> rfl) | rfl | (simp only [List.length_drop, List.length_take]; rfl)) ?_; (with_reducible refine (laws_heldStringS.calls kj38 _ _ t279 1 t280 _ ?side1 ?side2 A55.out).mono ?_); (case side1 => repeat (first | exact (Kd.R_reads' HO_10.out).2.2 | (with_reducible refine Kd.C_alloc ?_ _) | (with_reducible refine Kd.C_drewN ?_ _) | (with_reducible refine Kd.C_drew ?_))); (case side2 => rw [show t279.length = t260.length from (Kd.R_reads' HO_10.out).1.symm]; exact (Kd.R_reads' HO_10.out).2.1); rintro e w88 ⟨rfl, hb⟩; refine ⟨_, rfl, ?_⟩; have n0_ := Aside0.mk (Kd.R_below (by (with_reducible repeat (first | apply Kd.R_alloc | apply Kd.R_drewN | apply Kd.R_drew)); exact HO_6.out) hb); have n1_ := Aside0.mk (Kd.R_below (by (with_reducible repeat (first | apply Kd.R_alloc | apply Kd.R_drewN | apply Kd.R_drew)); exact HO_10.out) hb); have n2_ := Aside0.mk (below_step (by repeat (first | (with_reducible first | exact HB.out | apply below_alloc | apply pw_below_drewN | apply below_drew1) | exact HB.out)) hb); clear HO_6; clear HO_10; clear HB; have HO_6 := n0_; have HO_10 := n1_; have HB := n2_; clear n0_ n1_ n2_; (try clear hb); (try clear hb2); (try clear hk); (try clear hi)))
                          go_ret
                          exact ⟨by first | rfl | (simp [errW_none, errW_some] <;> rfl) | (simp [*, errW_none, errW_some] <;> rfl), by repeat (first | (with_reducible first | exact HB.out | apply below_alloc | apply pw_below_drewN | apply below_drew1) | exact HB.out)⟩
              · replace c36 := Bool.eq_false_iff.mpr c36
                subst c36
                have H1 : (some false) = some r := by rw [if_neg (show ¬ (false = true) by decide)] at H; exact H
                clear H
                have H := H1
                clear H1
                obtain rfl := Option.some.inj H
                go_wp2_with (first | ((with_reducible refine gate_callee (f := 17) rfl ?_); refine goesL_ (some 56) rfl rfl Try.func17 (by kernel_rfl) rfl #[.slice A0 l0.length c0] rfl (by (try simp only [List.map_toArray, List.map_cons, List.map_nil]); first | done | rfl | (simp only [List.length_drop, List.length_take]; rfl)) ?_; (with_reducible refine (laws_toStringS.calls kj12 _ _ l0 t265 _ ?side1 ?side2 A31.out).mono ?_); (case side1 => repeat (first | exact (Kd.C_below HR0.out HB.out) | (with_reducible refine Kd.C_alloc ?_ _) | (with_reducible refine Kd.C_drewN ?_ _) | (with_reducible refine Kd.C_drew ?_))); (case side2 => exact HC0.out); rintro e w89 ⟨v266, rfl, ho0, hb⟩; refine ⟨_, rfl, ?_⟩; have n0_ := Aside0.mk (Kd.R_elder' (by (with_reducible repeat (first | apply Kd.R_alloc | apply Kd.R_drewN | apply Kd.R_drew)); exact HO_6.out) (Kd.R_base ho0) hb); have n1_ := Aside0.mk (Kd.R_elder' (by (with_reducible repeat (first | apply Kd.R_alloc | apply Kd.R_drewN | apply Kd.R_drew)); exact HO_8.out) (Kd.R_base ho0) hb); have n2_ := Aside0.mk (Kd.R_elder' (by (with_reducible repeat (first | apply Kd.R_alloc | apply Kd.R_drewN | apply Kd.R_drew)); exact HO_9.out) (Kd.R_base ho0) hb); have n3_ := Aside0.mk (Kd.R_elder' (by (with_reducible repeat (first | apply Kd.R_alloc | apply Kd.R_drewN | apply Kd.R_drew)); exact HO_10.out) (Kd.R_base ho0) hb); have n4_ := Aside0.mk (Kd.R_lower (Kd.R_new' (Kd.R_new' (Kd.R_new' (Kd.R_new' ho0 (Kd.R_lt (by (with_reducible repeat (first | apply Kd.R_alloc | apply Kd.R_drewN | apply Kd.R_drew)); exact HO_6.out))) (Kd.R_lt (by (with_reducible repeat (first | apply Kd.R_alloc | apply Kd.R_drewN | apply Kd.R_drew)); exact HO_8.out))) (Kd.R_lt (by (with_reducible repeat (first | apply Kd.R_alloc | apply Kd.R_drewN | apply Kd.R_drew)); exact HO_9.out))) (Kd.R_lt (by (with_reducible repeat (first | apply Kd.R_alloc | apply Kd.R_drewN | apply Kd.R_drew)); exact HO_10.out))) (below_size (by repeat (first | (with_reducible first | exact HB.out | apply below_alloc | apply pw_below_drewN | apply below_drew1) | exact HB.out)))); have n5_ := Aside0.mk (below_step (by repeat (first | (with_reducible first | exact HB.out | apply below_alloc | apply pw_below_drewN | apply below_drew1) | exact HB.out)) hb); clear HO_6; clear HO_8; clear HO_9; clear HO_10; clear HB; have HO_6 := n0_; have HO_8 := n1_; have HO_9 := n2_; have HO_10 := n3_; have HO267 := n4_; have HB := n5_; clear n0_ n1_ n2_ n3_ n4_ n5_; (try clear hb); (try clear hb2); (try clear hk); (try clear hi); (try clear ho0); obtain ⟨Ao90, co90, eo90⟩ := Kd.R_slice HO267.out; subst eo90) | ((with_reducible refine gate_callee (f := 19) rfl ?_); refine goesL_ (some 57) rfl rfl Try.func19 (by kernel_rfl) rfl #[.slice Ao21 t254.length co21, .slice Ao90 t265.length co90] rfl (by (try simp only [List.map_toArray, List.map_cons, List.map_nil]); first | done | rfl | (simp only [List.length_drop, List.length_take]; rfl)) ?_; (with_reducible refine (laws_eqStringS.calls kj12 _ _ t254 _ _ t265 true _ ?side1 ?side2 ?side3 ?side4 A32.out).mono ?_); (case side1 => repeat (first | exact (Kd.R_reads' HO_8.out).2.2 | (with_reducible refine Kd.C_alloc ?_ _) | (with_reducible refine Kd.C_drewN ?_ _) | (with_reducible refine Kd.C_drew ?_))); (case side2 => exact (Kd.R_reads' HO_8.out).2.1); (case side3 => repeat (first | exact (Kd.R_reads' HO267.out).2.2 | (with_reducible refine Kd.C_alloc ?_ _) | (with_reducible refine Kd.C_drewN ?_ _) | (with_reducible refine Kd.C_drew ?_))); (case side4 => exact (Kd.R_reads' HO267.out).2.1); rintro e w' ⟨rfl, ⟨nd, rfl⟩⟩; refine ⟨_, rfl, ?_⟩) | ((with_reducible refine gate_callee (f := 17) rfl ?_); refine goesL_ (some 61) rfl rfl Try.func17 (by kernel_rfl) rfl #[.slice A1 l1.length c1] rfl (by (try simp only [List.map_toArray, List.map_cons, List.map_nil]); first | done | rfl | (simp only [List.length_drop, List.length_take]; rfl)) ?_; (with_reducible refine (laws_toStringS.calls kj12 _ _ l1 t269 _ ?side1 ?side2 A34.out).mono ?_); (case side1 => repeat (first | exact (Kd.C_below HR1.out (by repeat (first | (with_reducible first | exact HB.out | apply below_alloc | apply pw_below_drewN | apply below_drew1) | exact HB.out))) | (with_reducible refine Kd.C_alloc ?_ _) | (with_reducible refine Kd.C_drewN ?_ _) | (with_reducible refine Kd.C_drew ?_))); (case side2 => exact HC1.out); rintro e w91 ⟨v270, rfl, ho0, hb⟩; refine ⟨_, rfl, ?_⟩; have n0_ := Aside0.mk (Kd.R_elder' (by (with_reducible repeat (first | apply Kd.R_alloc | apply Kd.R_drewN | apply Kd.R_drew)); exact HO_6.out) (Kd.R_base ho0) hb); have n1_ := Aside0.mk (Kd.R_elder' (by (with_reducible repeat (first | apply Kd.R_alloc | apply Kd.R_drewN | apply Kd.R_drew)); exact HO_8.out) (Kd.R_base ho0) hb); have n2_ := Aside0.mk (Kd.R_elder' (by (with_reducible repeat (first | apply Kd.R_alloc | apply Kd.R_drewN | apply Kd.R_drew)); exact HO_9.out) (Kd.R_base ho0) hb); have n3_ := Aside0.mk (Kd.R_elder' (by (with_reducible repeat (first | apply Kd.R_alloc | apply Kd.R_drewN | apply Kd.R_drew)); exact HO_10.out) (Kd.R_base ho0) hb); have n4_ := Aside0.mk (Kd.R_elder' (by (with_reducible repeat (first | apply Kd.R_alloc | apply Kd.R_drewN | apply Kd.R_drew)); exact HO267.out) (Kd.R_base ho0) hb); have n5_ := Aside0.mk (Kd.R_lower (Kd.R_new' (Kd.R_new' (Kd.R_new' (Kd.R_new' (Kd.R_new' ho0 (Kd.R_lt (by (with_reducible repeat (first | apply Kd.R_alloc | apply Kd.R_drewN | apply Kd.R_drew)); exact HO_6.out))) (Kd.R_lt (by (with_reducible repeat (first | apply Kd.R_alloc | apply Kd.R_drewN | apply Kd.R_drew)); exact HO_8.out))) (Kd.R_lt (by (with_reducible repeat (first | apply Kd.R_alloc | apply Kd.R_drewN | apply Kd.R_drew)); exact HO_9.out))) (Kd.R_lt (by (with_reducible repeat (first | apply Kd.R_alloc | apply Kd.R_drewN | apply Kd.R_drew)); exact HO_10.out))) (Kd.R_lt (by (with_reducible repeat (first | apply Kd.R_alloc | apply Kd.R_drewN | apply Kd.R_drew)); exact HO267.out))) (below_size (by repeat (first | (with_reducible first | exact HB.out | apply below_alloc | apply pw_below_drewN | apply below_drew1) | exact HB.out)))); have n6_ := Aside0.mk (below_step (by repeat (first | (with_reducible first | exact HB.out | apply below_alloc | apply pw_below_drewN | apply below_drew1) | exact HB.out)) hb); clear HO_6; clear HO_8; clear HO_9; clear HO_10; clear HO267; clear HB; have HO_6 := n0_; have HO_8 := n1_; have HO_9 := n2_; have HO_10 := n3_; have HO267 := n4_; have HO271 := n5_; have HB := n6_; clear n0_ n1_ n2_ n3_ n4_ n5_ n6_; (try clear hb); (try clear hb2); (try clear hk); (try clear hi); (try clear ho0); obtain ⟨Ao92, co92, eo92⟩ := Kd.R_slice HO271.out; subst eo92) | ((with_reducible refine gate_callee (f := 19) rfl ?_); refine goesL_ (some 62) rfl rfl Try.func19 (by kernel_rfl) rfl #[.slice Ao22 t257.length co22, .slice Ao92 t269.length co92] rfl (by (try simp only [List.map_toArray, List.map_cons, List.map_nil]); first | done | rfl | (simp only [List.length_drop, List.length_take]; rfl)) ?_; (with_reducible refine (laws_eqStringS.calls kj12 _ _ t257 _ _ t269 false _ ?side1 ?side2 ?side3 ?side4 A35.out).mono ?_); (case side1 => repeat (first | exact (Kd.R_reads' HO_9.out).2.2 | (with_reducible refine Kd.C_alloc ?_ _) | (with_reducible refine Kd.C_drewN ?_ _) | (with_reducible refine Kd.C_drew ?_))); (case side2 => exact (Kd.R_reads' HO_9.out).2.1); (case side3 => repeat (first | exact (Kd.R_reads' HO271.out).2.2 | (with_reducible refine Kd.C_alloc ?_ _) | (with_reducible refine Kd.C_drewN ?_ _) | (with_reducible refine Kd.C_drew ?_))); (case side4 => exact (Kd.R_reads' HO271.out).2.1); rintro e w' ⟨rfl, ⟨nd, rfl⟩⟩; refine ⟨_, rfl, ?_⟩))
                go_ret
                exact ⟨by first | rfl | (simp [errW_none, errW_some] <;> rfl) | (simp [*, errW_none, errW_some] <;> rfl), by repeat (first | (with_reducible first | exact HB.out | apply below_alloc | apply pw_below_drewN | apply below_drew1) | exact HB.out)⟩
            · replace c33 := Bool.eq_false_iff.mpr c33
              subst c33
              have H1 : (some false) = some r := by rw [if_neg (show ¬ (false = true) by decide)] at H; exact H
              clear H
              have H := H1
              clear H1
              obtain rfl := Option.some.inj H
              go_wp2_with (first | ((with_reducible refine gate_callee (f := 17) rfl ?_); refine goesL_ (some 56) rfl rfl Try.func17 (by kernel_rfl) rfl #[.slice A0 l0.length c0] rfl (by (try simp only [List.map_toArray, List.map_cons, List.map_nil]); first | done | rfl | (simp only [List.length_drop, List.length_take]; rfl)) ?_; (with_reducible refine (laws_toStringS.calls kj12 _ _ l0 t265 _ ?side1 ?side2 A31.out).mono ?_); (case side1 => repeat (first | exact (Kd.C_below HR0.out HB.out) | (with_reducible refine Kd.C_alloc ?_ _) | (with_reducible refine Kd.C_drewN ?_ _) | (with_reducible refine Kd.C_drew ?_))); (case side2 => exact HC0.out); rintro e w93 ⟨v266, rfl, ho0, hb⟩; refine ⟨_, rfl, ?_⟩; have n0_ := Aside0.mk (Kd.R_elder' (by (with_reducible repeat (first | apply Kd.R_alloc | apply Kd.R_drewN | apply Kd.R_drew)); exact HO_6.out) (Kd.R_base ho0) hb); have n1_ := Aside0.mk (Kd.R_elder' (by (with_reducible repeat (first | apply Kd.R_alloc | apply Kd.R_drewN | apply Kd.R_drew)); exact HO_8.out) (Kd.R_base ho0) hb); have n2_ := Aside0.mk (Kd.R_elder' (by (with_reducible repeat (first | apply Kd.R_alloc | apply Kd.R_drewN | apply Kd.R_drew)); exact HO_9.out) (Kd.R_base ho0) hb); have n3_ := Aside0.mk (Kd.R_elder' (by (with_reducible repeat (first | apply Kd.R_alloc | apply Kd.R_drewN | apply Kd.R_drew)); exact HO_10.out) (Kd.R_base ho0) hb); have n4_ := Aside0.mk (Kd.R_lower (Kd.R_new' (Kd.R_new' (Kd.R_new' (Kd.R_new' ho0 (Kd.R_lt (by (with_reducible repeat (first | apply Kd.R_alloc | apply Kd.R_drewN | apply Kd.R_drew)); exact HO_6.out))) (Kd.R_lt (by (with_reducible repeat (first | apply Kd.R_alloc | apply Kd.R_drewN | apply Kd.R_drew)); exact HO_8.out))) (Kd.R_lt (by (with_reducible repeat (first | apply Kd.R_alloc | apply Kd.R_drewN | apply Kd.R_drew)); exact HO_9.out))) (Kd.R_lt (by (with_reducible repeat (first | apply Kd.R_alloc | apply Kd.R_drewN | apply Kd.R_drew)); exact HO_10.out))) (below_size (by repeat (first | (with_reducible first | exact HB.out | apply below_alloc | apply pw_below_drewN | apply below_drew1) | exact HB.out)))); have n5_ := Aside0.mk (below_step (by repeat (first | (with_reducible first | exact HB.out | apply below_alloc | apply pw_below_drewN | apply below_drew1) | exact HB.out)) hb); clear HO_6; clear HO_8; clear HO_9; clear HO_10; clear HB; have HO_6 := n0_; have HO_8 := n1_; have HO_9 := n2_; have HO_10 := n3_; have HO267 := n4_; have HB := n5_; clear n0_ n1_ n2_ n3_ n4_ n5_; (try clear hb); (try clear hb2); (try clear hk); (try clear hi); (try clear ho0); obtain ⟨Ao94, co94, eo94⟩ := Kd.R_slice HO267.out; subst eo94) | ((with_reducible refine gate_callee (f := 19) rfl ?_); refine goesL_ (some 57) rfl rfl Try.func19 (by kernel_rfl) rfl #[.slice Ao21 t254.length co21, .slice Ao94 t265.length co94] rfl (by (try simp only [List.map_toArray, List.map_cons, List.map_nil]); first | done | rfl | (simp only [List.length_drop, List.length_take]; rfl)) ?_; (with_reducible refine (laws_eqStringS.calls kj12 _ _ t254 _ _ t265 false _ ?side1 ?side2 ?side3 ?side4 A32.out).mono ?_); (case side1 => repeat (first | exact (Kd.R_reads' HO_8.out).2.2 | (with_reducible refine Kd.C_alloc ?_ _) | (with_reducible refine Kd.C_drewN ?_ _) | (with_reducible refine Kd.C_drew ?_))); (case side2 => exact (Kd.R_reads' HO_8.out).2.1); (case side3 => repeat (first | exact (Kd.R_reads' HO267.out).2.2 | (with_reducible refine Kd.C_alloc ?_ _) | (with_reducible refine Kd.C_drewN ?_ _) | (with_reducible refine Kd.C_drew ?_))); (case side4 => exact (Kd.R_reads' HO267.out).2.1); rintro e w' ⟨rfl, ⟨nd, rfl⟩⟩; refine ⟨_, rfl, ?_⟩))
              go_ret
              exact ⟨by first | rfl | (simp [errW_none, errW_some] <;> rfl) | (simp [*, errW_none, errW_some] <;> rfl), by repeat (first | (with_reducible first | exact HB.out | apply below_alloc | apply pw_below_drewN | apply below_drew1) | exact HB.out)⟩
end Go.Proofs.Ytjaolkfjpnpglaa.LU
/- Plain laws, no program: the reference's PlanUnder is the program's. -/
namespace Go.Proofs.Ytjaolkfjpnpglaa.Hd
open Go.RowKit Go.Proofs.YtjaolkfjpnpglaaW.PrintWords Go.Proofs.YtjaolkfjpnpglaaW.PrintLast Go.Proofs.YtjaolkfjpnpglaaW.PrintMore Go.Proofs.Ytjaolkfjpnpglaa.PB
set_option linter.unusedVariables false
set_option linter.unusedSimpArgs false
/-- What is known of a plan. -/
structure PlanFacts (p : List ByteArray) (cs : List (List Int)) (rs : List Rc) : Prop where
  canon : Canon p
  cells : cs = Hd.canon (numsOf p)
  rooms : rs = roomsOf (numsOf p)
  nums : numsOf p = mapG (fun x => 97 + x) cs
  ok : FloorOk cs rs
  len : p.length = cs.length
  wide : wideOf (numsOf p) = wideOf cs
  text : p = textOf cs
theorem floor_facts {p : List ByteArray} {cs : List (List Int)} {rs : List Rc} (h : floorF p = some (cs, rs)) : PlanFacts p cs rs := by
  have hok := floorF_ok h
  cases hG : gridOk p with
  | false => rw [floorF_nogrid hG] at h; cases h
  | true =>
    rw [floorF_grid hG] at h
    split at h
    · rename_i hc
      injection h with h
      injection h with e1 e2
      have hC : Canon p := ⟨hG, hc.2.2⟩
      have hn : numsOf p = mapG (fun x => 97 + x) cs := by
        have := numsOf_textOf (canon (numsOf p)) (canon_val hC.shape)
        rw [show textOf (canon (numsOf p)) = p from hC.names, e1] at this
        exact this
      refine ⟨hC, e1.symm, e2.symm, hn, hok, ?_, ?_, ?_⟩
      · rw [← numsOf_length, hn, mapG_length]
      · rw [hn, mapG_wide]
      · rw [← e1]; exact hC.names.symm
    · cases h
theorem bytesOf_strOfNums (xs : List Int) (h : ∀ x ∈ xs, 0 ≤ x ∧ x ≤ 255) : bytesOf (strOfNums xs) = xs := by
  unfold bytesOf strOfNums
  show ((xs.map fun n => UInt8.ofNat n.toNat).toArray.toList).map _ = _
  rw [List.map_map]
  conv => rhs; rw [← List.map_id xs]
  apply List.map_congr_left
  intro x hx
  have := h x hx
  show ((UInt8.ofNat x.toNat).toNat : Int) = x
  rw [UInt8.toNat_ofNat']
  omega
def laterOf (p : List ByteArray) : List ByteArray := p.map fun s => strOfNums ((bytesOf s).map fun x => x + 9)
theorem later_l1 (p : List ByteArray) (i : Nat) (s : ByteArray) (hi : p[i]? = some s) (hib : i ≤ 1048576) (hs : s.size ≤ 1048576) (hb : ∀ x ∈ bytesOf s, x ≤ 200) (x5 : List ByteArray) (h5 : x5.length ≤ 1048576) (r : List ByteArray) (hnext : Evs (fun k => spec_l1Later.l0 k p 9 (x5 ++ [strOfNums ((bytesOf s).map fun x => x + 9)]) ((i + 1 : Nat) : Int)) r) :
    ∀ m j, j + m = s.size → Evs (fun k => spec_l1Later.l1 k p 9 x5 (i : Int) (((bytesOf s).take j).map fun x => x + 9) (j : Int)) r := by
  have hil := (List.getElem?_eq_some_iff.1 hi).1
  have hlen := bytesOf_length s
  intro m
  induction m with
  | zero =>
    intro j hj
    refine Evs.step (h := fun k => spec_l1Later.l0 k p 9 (x5 ++ [strOfNums ((bytesOf s).map fun x => x + 9)]) ((i + 1 : Nat) : Int)) (fun k => ?_) hnext
    conv => lhs; unfold spec_l1Later.l1
    rw [if_pos (by omega), if_pos (by omega), rdOf_at hi, if_neg (by omega), if_pos (by omega), wrap_succ hib, List.take_of_length_le (by omega)]
  | succ m ih =>
    intro j hj
    obtain ⟨v, hv⟩ : ∃ v, (bytesOf s)[j]? = some v := ⟨_, List.getElem?_eq_getElem (by omega)⟩
    have hr := bytesOf_range s v (List.mem_of_getElem? hv)
    have hr2 := hb v (List.mem_of_getElem? hv)
    have htake : ((bytesOf s).take (j + 1)).map (fun x => x + 9) = ((bytesOf s).take j).map (fun x => x + 9) ++ [v + 9] := by rw [List.take_add_one, hv, List.map_append]; rfl
    refine Evs.step (h := fun k => spec_l1Later.l1 k p 9 x5 (i : Int) (((bytesOf s).take (j + 1)).map fun x => x + 9) ((j + 1 : Nat) : Int)) (fun k => ?_) (ih (j + 1) (by omega))
    conv => lhs; unfold spec_l1Later.l1
    rw [if_pos (by omega), if_pos (by omega), rdOf_at hi, if_pos (by omega), if_pos (by omega), if_pos (by simp; omega), bt_get hv, wrap64_small (x := v) (by omega) (by omega), wrap64_small (x := v + 9) (by omega) (by omega), show (v + 9) % 256 = v + 9 by omega, wrap_succ (by omega), htake]
theorem later_l0 (p : List ByteArray) (hp : smallP p) (hb : ∀ s ∈ p, ∀ x ∈ bytesOf s, x ≤ 200) : ∀ m i, i + m = p.length → Evs (fun k => spec_l1Later.l0 k p 9 ((p.take i).map fun s => strOfNums ((bytesOf s).map fun x => x + 9)) (i : Int)) (laterOf p) := by
  have hpl := hp.1
  intro m
  induction m with
  | zero =>
    intro i hi
    refine Evs.step (h := fun _ => some (laterOf p)) (fun k => ?_) (Evs.const _)
    conv => lhs; unfold spec_l1Later.l0
    rw [if_neg (by omega), List.take_of_length_le (by omega)]
    rfl
  | succ m ih =>
    intro i hi
    obtain ⟨s, hs⟩ : ∃ s, p[i]? = some s := ⟨_, List.getElem?_eq_getElem (by omega)⟩
    have hm := List.mem_of_getElem? hs
    have hnx := ih (i + 1) (by omega)
    rw [List.take_add_one, hs, List.map_append] at hnx
    refine Evs.step (h := fun k => spec_l1Later.l1 k p 9 ((p.take i).map fun s => strOfNums ((bytesOf s).map fun x => x + 9)) (i : Int) (((bytesOf s).take 0).map fun x => x + 9) ((0 : Nat) : Int)) (fun k => ?_) (later_l1 p i s hs (by omega) (hp.2 s hm) (hb s hm) _ (by simp; omega) _ hnx s.size 0 (by omega))
    conv => lhs; unfold spec_l1Later.l0
    rw [if_pos (by omega)]
    rfl
theorem l1Later_ev (p : List ByteArray) (hp : smallP p) (hb : ∀ s ∈ p, ∀ x ∈ bytesOf s, x ≤ 200) : Evs (fun k => spec_l1Later.f k p 9) (laterOf p) := by
  have := later_l0 p hp hb p.length 0 (by omega)
  refine Evs.congr (fun k => ?_) this
  unfold spec_l1Later.f
  simp
theorem numsOf_later (p : List ByteArray) (hb : ∀ s ∈ p, ∀ x ∈ bytesOf s, x ≤ 200) : numsOf (laterOf p) = mapG (fun x => x + 9) (numsOf p) := by
  unfold numsOf laterOf mapG
  rw [List.map_map, List.map_map]
  apply List.map_congr_left
  intro s hs
  show bytesOf (strOfNums _) = _
  rw [bytesOf_strOfNums]
  · rfl
  · intro x hx
    obtain ⟨y, hy, rfl⟩ := List.mem_map.1 hx
    have := bytesOf_range s y hy
    have := hb s hs y hy
    omega
theorem numsOf_append (p q : List ByteArray) : numsOf (p ++ q) = numsOf p ++ numsOf q := by simp [numsOf]
theorem mapG_append (f : Int → Int) (a b : List (List Int)) : mapG f (a ++ b) = mapG f a ++ mapG f b := by simp [mapG]
theorem mapG_mapG (f g : Int → Int) (a : List (List Int)) : mapG f (mapG g a) = mapG (fun x => f (g x)) a := by
  unfold mapG
  rw [List.map_map]
  apply List.map_congr_left
  intro r hr
  show (r.map g).map f = _
  rw [List.map_map]
  rfl
theorem mapG_congr {f g : Int → Int} {a : List (List Int)} (h : ∀ r ∈ a, ∀ x ∈ r, f x = g x) : mapG f a = mapG g a := by
  unfold mapG
  apply List.map_congr_left
  intro r hr
  apply List.map_congr_left
  intro x hx
  exact h r hr x hx
theorem FloorOk.rect {cs : List (List Int)} {rs : List Rc} (h : FloorOk cs rs) : Rect (wideOf cs) cs := h.cells.row
theorem rect_append {wi : Nat} {a b : List (List Int)} (ha : Rect wi a) (hb : Rect wi b) : Rect wi (a ++ b) := by
  intro r hr
  rcases List.mem_append.1 hr with h | h
  · exact ha r h
  · exact hb r h
theorem rect_mapG {wi : Nat} {a : List (List Int)} (f : Int → Int) (ha : Rect wi a) : Rect wi (mapG f a) := by
  intro r hr
  obtain ⟨x, hx, rfl⟩ := List.mem_map.1 hr
  rw [List.length_map]
  exact ha x hx
theorem valAt_append_left {a b : List (List Int)} {r c : Nat} (h : r < a.length) : valAt (a ++ b) r c = valAt a r c := by
  unfold valAt
  rw [List.getD_eq_getElem?_getD (l := a ++ b), List.getElem?_append_left h, ← List.getD_eq_getElem?_getD]
theorem valAt_append_right {a b : List (List Int)} {r c : Nat} (h : a.length ≤ r) : valAt (a ++ b) r c = valAt b (r - a.length) c := by
  unfold valAt
  rw [List.getD_eq_getElem?_getD (l := a ++ b), List.getElem?_append_right h, ← List.getD_eq_getElem?_getD]
theorem under_grid {cs1 cs2 : List (List Int)} {rs1 rs2 : List Rc} (h1 : FloorOk cs1 rs1) (h2 : FloorOk cs2 rs2) (hw : wideOf cs1 = wideOf cs2) :
    gridOf (cs1.length + cs2.length) (wideOf cs1) (underG cs1 rs1 cs2) = cs1 ++ mapG (fun x => rs1.length + x) cs2 := by
  have hR2 : Rect (wideOf cs1) cs2 := by rw [hw]; exact h2.rect
  have hR := rect_append h1.rect (rect_mapG (fun x => (rs1.length : Int) + x) hR2)
  rw [rect_eq hR, List.length_append, mapG_length]
  refine gridOf_congr fun r c hr hc => ?_
  unfold underG
  by_cases h : r < cs1.length
  · rw [if_pos h, valAt_append_left h]
  · rw [if_neg h, valAt_append_right (by omega), valAt_map hR2 _ (by omega) hc]
theorem plan_bytes {p : List ByteArray} {cs : List (List Int)} {rs : List Rc} (h : PlanFacts p cs rs) : ∀ s ∈ p, ∀ x ∈ bytesOf s, 97 ≤ x ∧ x ≤ 105 := by
  intro s hs x hx
  have hm : bytesOf s ∈ numsOf p := List.mem_map.2 ⟨s, hs, rfl⟩
  rw [h.nums] at hm
  obtain ⟨r, hr, e⟩ := List.mem_map.1 hm
  rw [← e] at hx
  obtain ⟨y, hy, rfl⟩ := List.mem_map.1 hx
  have := h.ok.cells.val r hr y hy
  have := h.ok.many
  omega
theorem renamed (n1 : Nat) (h9 : n1 ≤ 9) (S : Int → Prop) : InjOn (fun x => if x < (n1 : Int) then 97 + x else 106 + (x - n1)) S := by
  intro a b _ _ e
  dsimp only at e
  split at e <;> split at e <;> omega
theorem okText_of {s : ByteArray} (h : ∀ x ∈ bytesOf s, 97 ≤ x ∧ x ≤ 122) : okText s = true := by
  unfold okText
  rw [List.all_eq_true]
  intro x hx
  have := h x hx
  simp only [okLetter, Bool.not_eq_true', Bool.or_eq_false_iff, decide_eq_false_iff_not]
  omega
theorem later_bytes {p : List ByteArray} {cs : List (List Int)} {rs : List Rc} (h : PlanFacts p cs rs) : ∀ s ∈ laterOf p, ∀ x ∈ bytesOf s, 106 ≤ x ∧ x ≤ 114 := by
  intro s hs x hx
  obtain ⟨s0, h0, rfl⟩ := List.mem_map.1 hs
  have hb := plan_bytes h s0 h0
  rw [bytesOf_strOfNums] at hx
  · obtain ⟨y, hy, rfl⟩ := List.mem_map.1 hx
    have := hb y hy
    omega
  · intro z hz
    obtain ⟨y, hy, rfl⟩ := List.mem_map.1 hz
    have := hb y hy
    omega
theorem under_done {p q : List ByteArray} {cs1 cs2 : List (List Int)} {rs1 rs2 : List Rc} (h1 : PlanFacts p cs1 rs1) (h2 : PlanFacts q cs2 rs2) (hw : wideOf cs1 = wideOf cs2) :
    doneF (p ++ laterOf q) = planF (gridOf (cs1.length + cs2.length) (wideOf cs1) (underG cs1 rs1 cs2)) := by
  have hb1 := plan_bytes h1
  have hb2 := plan_bytes h2
  have hok : (p ++ laterOf q).all okText = true := by
    rw [List.all_eq_true]
    intro s hs
    rcases List.mem_append.1 hs with h | h
    · exact okText_of fun x hx => by have := hb1 s h x hx; omega
    · exact okText_of fun x hx => by have := later_bytes h2 s h x hx; omega
  unfold doneF
  rw [if_pos hok, numsOf_append, numsOf_later q (fun s hs x hx => by have := hb2 s hs x hx; omega), h1.nums, h2.nums, mapG_mapG, under_grid h1.ok h2.ok hw]
  have h9 := h1.ok.many
  refine Eq.trans ?_ (plan_map (renamed rs1.length h9 _))
  rw [mapG_append, mapG_mapG]
  congr 2
  · refine mapG_congr fun r hr x hx => ?_
    have := h1.ok.cells.val r hr x hx
    rw [if_pos (by omega)]
  · refine mapG_congr fun r hr x hx => ?_
    have := h2.ok.cells.val r hr x hx
    rw [if_neg (by omega)]
    omega
theorem small_later {p : List ByteArray} (hp : smallP p) : smallP (laterOf p) := by
  refine ⟨by simp [laterOf]; exact hp.1, fun s hs => ?_⟩
  obtain ⟨s0, h0, rfl⟩ := List.mem_map.1 hs
  have := hp.2 s0 h0
  have hl := bytesOf_length s0
  show (List.map _ (List.map _ (bytesOf s0))).toArray.size ≤ _
  simp
  omega
theorem planB_cases (p : List ByteArray) : (planB p = false ∧ floorF p = none) ∨ (planB p = true ∧ ∃ cs rs, floorF p = some (cs, rs)) := by
  unfold planB
  cases h : floorF p with
  | none => exact .inl ⟨rfl, rfl⟩
  | some t => exact .inr ⟨rfl, t.1, t.2, rfl⟩
theorem planUnder_j0_true (p q : List ByteArray) : Evs (fun k => spec_PlanUnder.j0 k p q true) ([], false) := by
  refine Evs.step (h := fun _ => some ([], false)) (fun k => ?_) (Evs.const _)
  show spec_PlanUnder.j0 (k + 1) p q true = _
  simp only [spec_PlanUnder.j0, if_true, l1None_f, Option.bind_some]
theorem size_wide {p : List ByteArray} {cs : List (List Int)} {rs : List Rc} (h : PlanFacts p cs rs) : ((rdOf ByteArray.empty p 0).size : Int) = (wideOf cs : Int) := by
  rw [← h.wide, wideOf_numsOf]
  rfl
theorem PlanUnder_ev (p q : List ByteArray) (hp : smallP p) (hq : smallP q) : Evs (fun k => spec_PlanUnder.f k p q) (underF p q) := by
  have h1 := PlanIn_ev p hp
  have h2 := PlanIn_ev q hq
  rcases planB_cases p with ⟨e1, f1⟩ | ⟨e1, cs1, rs1, f1⟩
  · rw [e1] at h1
    have : underF p q = ([], false) := by unfold underF joinedF; rw [f1]
    rw [this]
    refine Evs.bind h1 ?_
    refine Evs.congr (fun k => ?_) (planUnder_j0_true p q)
    rw [if_neg (by simp)]
  · rw [e1] at h1
    rcases planB_cases q with ⟨e2, f2⟩ | ⟨e2, cs2, rs2, f2⟩
    · rw [e2] at h2
      have : underF p q = ([], false) := by unfold underF joinedF; rw [f1, f2]
      rw [this]
      refine Evs.bind h1 ?_
      refine Evs.congr (h := fun k => (spec_PlanIn.f k q).bind fun t243 => (if t243 = true then (if 0 < (p.length : Int) then (if 0 < (q.length : Int) then (spec_PlanUnder.j0 k p q (((rdOf ByteArray.empty p 0).size : Int) != ((rdOf ByteArray.empty q 0).size : Int))) else (none)) else (none)) else (spec_PlanUnder.j0 k p q true))) (fun k => ?_) (Evs.bind h2 ?_)
      · rw [if_pos rfl]
      · refine Evs.congr (fun k => ?_) (planUnder_j0_true p q)
        rw [if_neg (by simp)]
    · rw [e2] at h2
      have F1 := floor_facts f1
      have F2 := floor_facts f2
      have l1 := F1.len
      have l2 := F2.len
      have o1 := F1.ok.h1
      have o2 := F2.ok.h1
      have hu : underF p q = if wideOf cs1 = wideOf cs2 then planF (gridOf (cs1.length + cs2.length) (wideOf cs1) (underG cs1 rs1 cs2)) else ([], false) := by
        unfold underF joinedF
        rw [f1, f2]
        show (if ((wideOf cs1 : Int) == (wideOf cs2 : Int)) = true then _ else _) = _
        by_cases hw : wideOf cs1 = wideOf cs2
        · rw [if_pos hw, if_pos (by rw [hw]; simp)]
        · rw [if_neg hw, if_neg (by simp; omega)]
      refine Evs.bind h1 ?_
      refine Evs.congr (h := fun k => (spec_PlanIn.f k q).bind fun t243 => (if t243 = true then (if 0 < (p.length : Int) then (if 0 < (q.length : Int) then (spec_PlanUnder.j0 k p q (((rdOf ByteArray.empty p 0).size : Int) != ((rdOf ByteArray.empty q 0).size : Int))) else (none)) else (none)) else (spec_PlanUnder.j0 k p q true))) (fun k => ?_) (Evs.bind h2 ?_)
      · rw [if_pos rfl]
      · rw [hu]
        by_cases hw : wideOf cs1 = wideOf cs2
        · rw [if_pos hw, ← under_done F1 F2 hw]
          have hlat := l1Later_ev q hq (fun s hs x hx => by have := plan_bytes F2 s hs x hx; omega)
          have hsl : (laterOf q).length = q.length := by simp [laterOf]
          have hsm : smallP (p ++ laterOf q) := by
            have := small_later hq
            refine ⟨?_, fun s hs => ?_⟩
            · rw [List.length_append, hsl]
              have := F1.ok.h6
              have := F2.ok.h6
              omega
            · rcases List.mem_append.1 hs with h | h
              · exact hp.2 s h
              · exact this.2 s h
          have hdone := l1Done_ev (p ++ laterOf q) hsm
          refine Evs.congr (h := fun k => spec_PlanUnder.j0 k p q false) (fun k => ?_) (Evs.step (h := fun k => (spec_l1Later.f k q 9).bind fun t256 => if ([] ++ p : List ByteArray).length + t256.length < 8796093022208 then ((spec_l1Done.f k (([] ++ p) ++ t256)).bind fun bt262 => (some (bt262.1, bt262.2))) else none) (fun k => ?_) (Evs.bind hlat ?_))
          · rw [if_pos rfl, if_pos (by omega), if_pos (by omega), size_wide F1, size_wide F2, hw]
            simp
          · show spec_PlanUnder.j0 (k + 1) p q false = _
            simp only [spec_PlanUnder.j0, Bool.false_eq_true, if_false, Option.bind_some]
            rw [if_pos (by have := hp.1; simp; omega)]
          · refine Evs.congr (h := fun k => (spec_l1Done.f k (p ++ laterOf q)).bind fun bt262 => (some (bt262.1, bt262.2))) (fun k => ?_) (Evs.bind hdone (Evs.const _))
            rw [if_pos (by have := hp.1; have := hq.1; rw [hsl]; simp; omega), List.nil_append]
        · rw [if_neg hw]
          refine Evs.congr (fun k => ?_) (planUnder_j0_true p q)
          rw [if_pos rfl, if_pos (by omega), if_pos (by omega), size_wide F1, size_wide F2]
          congr 1
          simp
          omega
end Go.Proofs.Ytjaolkfjpnpglaa.Hd
/- Plain law, no program: FnExactPlanUnder answers true. For texts and lists that are no longer than they can be. -/
namespace Go.Proofs.Ytjaolkfjpnpglaa.LU
open Go.RowKit Go.Proofs.YtjaolkfjpnpglaaW.PrintWords Go.Proofs.YtjaolkfjpnpglaaW.PrintLast Go.Proofs.YtjaolkfjpnpglaaW.PrintMore Go.Proofs.Ytjaolkfjpnpglaa.PB Go.Proofs.Ytjaolkfjpnpglaa.Hd
set_option linter.unusedVariables false
set_option linter.unusedSimpArgs false
theorem laws_FnExactPlanUnder.j0_eq (k : Nat) (x0 : List ByteArray) (x1 : List ByteArray) (x6 : List ByteArray) (x7 : Bool) (x8 : List ByteArray) (x9 : List ByteArray) (x10 : List ByteArray) (x11 : Bool) (x53 : Bool) : laws_FnExactPlanUnder.j0 (k + 1) x0 x1 x6 x7 x8 x9 x10 x11 x53 = (if x53 = true then (some false) else ((laws_toStringS.f k x0).bind fun t265 => ((laws_eqStringS.f k x8 t265).bind fun t268 => (if t268 = true then ((laws_toStringS.f k x1).bind fun t269 => ((laws_eqStringS.f k x9 t269).bind fun t272 => (if t272 = true then ((laws_markStringS.f k x8 1).bind fun bt273 => ((laws_markStringS.f k x9 bt273.1).bind fun bt275 => (if bt275.1 < 0 then (laws_FnExactPlanUnder.j1 k x0 x1 x6 x7 x10 true) else ((laws_eqStringS.f k x10 x6).bind fun t277 => (if t277 = true then (laws_FnExactPlanUnder.j1 k x0 x1 x6 x7 x10 (x11 != x7)) else (laws_FnExactPlanUnder.j1 k x0 x1 x6 x7 x10 true)))))) else (some false)))) else (some false))))) := by simp only [laws_FnExactPlanUnder.j0]
theorem laws_FnExactPlanUnder.j1_eq (k : Nat) (x0 : List ByteArray) (x1 : List ByteArray) (x6 : List ByteArray) (x7 : Bool) (x10 : List ByteArray) (x82 : Bool) : laws_FnExactPlanUnder.j1 (k + 1) x0 x1 x6 x7 x10 x82 = (if x82 = true then (some false) else ((laws_markStringS.f k x10 1).bind fun bt278 => ((laws_heldStringS.f k bt278.2 1).bind fun t280 => (if t280 < 0 then (some false) else (if t280 = bt278.1 then ((laws_toStringS.f k x0).bind fun t281 => ((laws_toStringS.f k x1).bind fun t284 => ((impl_PlanUnder.f t281 t284).bind fun bt287 => ((laws_eqStringS.f k bt287.1 x6).bind fun t291 => (if t291 = true then (laws_FnExactPlanUnder.j2 k bt278.2 bt278.1 (bt287.2 != x7)) else (laws_FnExactPlanUnder.j2 k bt278.2 bt278.1 true)))))) else (some false)))))) := by simp only [laws_FnExactPlanUnder.j1]
theorem laws_FnExactPlanUnder.j2_eq (k : Nat) (x10 : List ByteArray) (x13 : Int) (x110 : Bool) : laws_FnExactPlanUnder.j2 (k + 1) x10 x13 x110 = (if x110 = true then (some false) else ((laws_heldStringS.f k x10 1).bind fun t292 => (if t292 < 0 then (some false) else (if t292 = x13 then (some true) else (some false))))) := by simp only [laws_FnExactPlanUnder.j2]
theorem len_res (l0 : List ByteArray) (l1 : List ByteArray) : (underF l0 l1).1.length ≤ 1048576 := by
  have := underF_len l0 l1
  omega
theorem impl_res (l0 : List ByteArray) (l1 : List ByteArray) (hs_l0 : smallP l0) (hs_l1 : smallP l1) : impl_PlanUnder.f l0 l1 = some (underF l0 l1) := by
  unfold impl_PlanUnder.f
  rw [if_pos ⟨(smallB_iff _).2 hs_l0, (smallB_iff _).2 hs_l1⟩]
theorem j2_ev (n : Nat) (hn : n ≤ 1048576) : Evs (fun k => laws_FnExactPlanUnder.j2 k (marksOf 1 n) ((1 + n : Nat) : Int) false) true := by
  refine Evs.step (fun k => laws_FnExactPlanUnder.j2_eq k _ _ _) ?_
  refine Evs.neg (by simp) (Evs.bind (heldS_ev n hn 1 (by omega)) (Evs.neg (by omega) (Evs.pos rfl (Evs.const _))))
theorem j1_ev (l0 : List ByteArray) (l1 : List ByteArray) (hs_l0 : smallP l0) (hs_l1 : smallP l1) : Evs (fun k => laws_FnExactPlanUnder.j1 k l0 l1 (underF l0 l1).1 (underF l0 l1).2 (underF l0 l1).1 false) true := by
  have hl := len_res l0 l1
  have hi := impl_res l0 l1 hs_l0 hs_l1
  refine Evs.step (fun k => laws_FnExactPlanUnder.j1_eq k _ _ _ _ _ _) ?_
  refine Evs.neg (by simp) (Evs.bind (markS_ev _ hl 1 (by omega)) (Evs.bind (heldS_ev _ hl 1 (by omega)) (Evs.neg (by omega) (Evs.pos rfl (Evs.bind (toS_ev l0 hs_l0.1) (Evs.bind (toS_ev l1 hs_l1.1) (Evs.bindS hi (Evs.bind (eqS_same _ hl) (Evs.pos rfl ?_)))))))))
  have e : ((underF l0 l1).2 != (underF l0 l1).2) = false := by simp
  try dsimp only
  rw [e]
  exact j2_ev _ hl
theorem j0_ev (l0 : List ByteArray) (l1 : List ByteArray) (hs_l0 : smallP l0) (hs_l1 : smallP l1) : Evs (fun k => laws_FnExactPlanUnder.j0 k l0 l1 (underF l0 l1).1 (underF l0 l1).2 l0 l1 (underF l0 l1).1 (underF l0 l1).2 false) true := by
  have hl := len_res l0 l1
  refine Evs.step (fun k => laws_FnExactPlanUnder.j0_eq k _ _ _ _ _ _ _ _ _) ?_
  refine Evs.neg (by simp) (Evs.bind (toS_ev l0 hs_l0.1) (Evs.bind (eqS_same l0 hs_l0.1) (Evs.pos rfl (Evs.bind (toS_ev l1 hs_l1.1) (Evs.bind (eqS_same l1 hs_l1.1) (Evs.pos rfl (Evs.bind (markS_ev l0 hs_l0.1 (1) (by have := hs_l0.1; omega)) (Evs.bind (markS_ev l1 hs_l1.1 (1 + l0.length) (by have := hs_l0.1; omega)) (Evs.neg (by dsimp only; omega) (Evs.bind (eqS_same _ hl) (Evs.pos rfl ?_)))))))))))
  have e : ((underF l0 l1).2 != (underF l0 l1).2) = false := by simp
  try dsimp only
  rw [e]
  exact j1_ev l0 l1 hs_l0 hs_l1
theorem law_ev (l0 : List ByteArray) (l1 : List ByteArray) (hf_l0 : fits l0) (hf_l1 : fits l1) : Evs (fun k => laws_FnExactPlanUnder.f k l0 l1) true := by
  unfold laws_FnExactPlanUnder.f
  obtain ⟨v0, e0, h0⟩ := sz_ev l0 hf_l0 1048576 (by omega) (by omega)
  refine Evs.bind e0 ?_
  rcases h0 with h0 | ⟨hs_l0, g0, k0⟩
  · exact Evs.pos h0 (Evs.const _)
  refine Evs.neg (by omega) ?_
  obtain ⟨v1, e1, h1⟩ := sz_ev l1 hf_l1 v0 (by omega) (by omega)
  refine Evs.bind e1 ?_
  rcases h1 with h1 | ⟨hs_l1, g1, k1⟩
  · exact Evs.pos h1 (Evs.const _)
  refine Evs.neg (by omega) ?_
  have hl := len_res l0 l1
  have hi := impl_res l0 l1 hs_l0 hs_l1
  refine Evs.bind (toS_ev l0 hs_l0.1) (Evs.bind (toS_ev l1 hs_l1.1) (Evs.bind (PlanUnder_ev l0 l1 hs_l0 hs_l1) (Evs.bind (toS_ev l0 hs_l0.1) (Evs.bind (toS_ev l1 hs_l1.1) (Evs.bindS hi (Evs.bind (eqS_same _ hl) (Evs.pos rfl ?_)))))))
  have e : ((underF l0 l1).2 != (underF l0 l1).2) = false := by simp
  try dsimp only
  rw [e]
  exact j0_ev l0 l1 hs_l0 hs_l1
end Go.Proofs.Ytjaolkfjpnpglaa.LU
