/- Part 3 of the proof of FnExactPlanMerge: what the program's functions and the reference's compute. -/
import Derived.Test.YtjaolkfjpnpglaaProg
import Derived.Below
import Derived.Deep.Draws
import Derived.Deep.AppendLies
import Derived.Maps.AppendAt
import Derived.OwnWalk
import Derived.Laws.BytesArg
import Derived.Laws.MakeOwn
import Derived.Laws.OwnMore
import Derived.Deep.OwnRows
import Derived.Tactics
import Derived.Lib.ConvBytes
import Derived.Laws.Slices
import Derived.WalkKit
import Derived.KernelRfl
import Derived.RowKit3
import Derived.Deep.LoopGhost
import Derived.Deep.QuietTactic
import Derived.BigQuiet
import Derived.WideLaws
import Derived.Deep.DeepCutAuto
import Derived.Deep.CutBlock
import Derived.Deep.RegionHeld3
import Derived.Laws.Rows
import Derived.Lib.AppendStr
import Derived.ArgAppend
import Derived.Laws.IdiomCopy
import Derived.OrdersHeld
import Derived.Laws.BitsLemmas
import Derived.RowKit
import Derived.Test.YtjaolkfjpnpglaaWWords
import Derived.Test.YtjaolkfjpnpglaaWLast
import Derived.Test.YtjaolkfjpnpglaaWApart
import Derived.Test.YtjaolkfjpnpglaaWFoot
import Derived.Test.YtjaolkfjpnpglaaWKept
import Derived.Test.YtjaolkfjpnpglaaWShare
import Derived.Test.YtjaolkfjpnpglaaWN
import Derived.Test.YtjaolkfjpnpglaaWRepsOne
import Derived.Test.YtjaolkfjpnpglaaWMore
import Derived.Test.YtjaolkfjpnpglaaCLMb
namespace Go.Proofs.Ytjaolkfjpnpglaa.Hd
open Go.RowKit Go.Proofs.YtjaolkfjpnpglaaW.PrintWords Go.Proofs.YtjaolkfjpnpglaaW.PrintLast Go.Proofs.YtjaolkfjpnpglaaW.PrintMore Go.Proofs.Ytjaolkfjpnpglaa.PB
set_option linter.unusedVariables false
set_option linter.unusedSimpArgs false
def pushL (o : List Int) (v : Int) : List Int := if v ∈ o then o else o ++ [v]
def ordL (xs : List Int) (o : List Int) : List Int := xs.foldl pushL o
theorem pushL_prefix (o : List Int) (v : Int) : o <+: pushL o v := by
 unfold pushL
 split
 ·exact List.prefix_refl _
 ·exact List.prefix_append _ _
theorem pushL_mem (o : List Int) (v : Int) : v ∈ pushL o v := by
 unfold pushL
 split
 ·assumption
 ·simp
theorem ordL_prefix (xs : List Int) : ∀ o, o <+: ordL xs o := by
 induction xs with
 | nil => exact fun o => List.prefix_refl _
 | cons x r ih => exact fun o => (pushL_prefix o x).trans (ih _)
theorem ordL_append (xs ys : List Int) (o : List Int) : ordL (xs ++ ys) o = ordL ys (ordL xs o) := by simp [ordL, List.foldl_append]
theorem ordL_mem (xs : List Int) : ∀ o, ∀ x ∈ xs, x ∈ ordL xs o := by
 induction xs with
 | nil => intro o x hx; cases hx
 | cons y r ih =>
  intro o x hx
  rcases List.mem_cons.1 hx with rfl | hx
  ·exact (ordL_prefix r (pushL o x)).subset (pushL_mem o x)
  ·exact ih _ x hx
theorem ordL_sub (xs : List Int) : ∀ o, ∀ x ∈ ordL xs o, x ∈ o ∨ x ∈ xs := by
 induction xs with
 | nil => exact fun o x hx => .inl hx
 | cons y r ih =>
  intro o x hx
  rcases ih _ x hx with h | h
  ·unfold pushL at h
   split at h
   ·exact .inl h
   ·rcases List.mem_append.1 h with h | h
    ·exact .inl h
    ·simp at h; subst h; exact .inr List.mem_cons_self
  ·exact .inr (List.mem_cons_of_mem _ h)
theorem ordL_nodup (xs : List Int) : ∀ o, o.Nodup → (ordL xs o).Nodup := by
 induction xs with
 | nil => exact fun o h => h
 | cons y r ih =>
  intro o h
  refine ih _ ?_
  unfold pushL
  split
  ·exact h
  ·rename_i hn
   rw [List.nodup_append]
   exact ⟨h, by simp, fun a ha b hb => by simp at hb; subst hb; exact fun e => hn (e ▸ ha)⟩
theorem ordL_length (xs : List Int) : ∀ o, (ordL xs o).length ≤ o.length + xs.length := by
 induction xs with
 | nil => exact fun o => by simp [ordL]
 | cons y r ih =>
  intro o
  have h1 := ih (pushL o y)
  have h2 : (pushL o y).length ≤ o.length + 1 := by
   unfold pushL
   split
   ·omega
   ·simp
  show (ordL r (pushL o y)).length ≤ _
  simp only [List.length_cons]
  omega
theorem idxOf_prefix {o L : List Int} (h : o <+: L) {x : Int} (hx : x ∈ o) : L.idxOf x = o.idxOf x := by
 obtain ⟨t, rfl⟩ := h
 rw [List.idxOf_append, if_pos hx]
theorem idxOf_push {o L : List Int} {x : Int} (h : pushL o x <+: L) : L.idxOf x = o.idxOf x := by
 rw [idxOf_prefix h (pushL_mem o x)]
 unfold pushL
 split
 ·rfl
 ·rename_i hn
  rw [List.idxOf_append, if_neg hn, List.idxOf_eq_length hn]
  simp
def canonL (L : List Int) (rows : List (List Int)) : List (List Int) := rows.map fun r => r.map fun x => (L.idxOf x : Int)
def ordAll (rows : List (List Int)) : List Int := ordL rows.flatten []
def canon (rows : List (List Int)) : List (List Int) := canonL (ordAll rows) rows
def namesOf (p : List ByteArray) : List ByteArray := textOf (canon (numsOf p))
def numOf (L : List Int) (x : Int) : Int := 97 + (L.idxOf x : Int)
theorem letter_wrap {a : Nat} (h : a ≤ 100) : (wrap64 (97 + (a : Int))) % 256 = 97 + (a : Int) := by
 rw [wrap64_small (by omega) (by omega)]
 omega
theorem names_l2 (p : List ByteArray) (i j : Nat) (s : ByteArray) (v : Int) (hi : p[i]? = some s) (hv : (bytesOf s)[j]? = some v) (o : List Int) (x4 : List ByteArray) (x6 : List Int) (ho : o.length ≤ 100) (h6 : x6.length ≤ 1048576) (hj : j ≤ 1048576) (r : List ByteArray)
  (hnext : Evs (fun k => spec_l1Names.l1 k p (pushL o v) x4 (i : Int) (x6 ++ [97 + (o.idxOf v : Int)]) ((j + 1 : Nat) : Int)) r) :
  ∀ m a, a + m = o.length → v ∉ o.take a → Evs (fun k => spec_l1Names.l2 k p o x4 (i : Int) x6 (j : Int) (a : Int)) r := by
 have hil := (List.getElem?_eq_some_iff.1 hi).1
 have hjl := (List.getElem?_eq_some_iff.1 hv).1
 rw [bytesOf_length] at hjl
 intro m
 induction m with
 | zero =>
  intro a ha hno
  rw [List.take_of_length_le (by omega)] at hno
  have hidx := List.idxOf_eq_length hno
  have hpush : pushL o v = o ++ [v] := by unfold pushL; rw [if_neg hno]
  rw [hpush, hidx] at hnext
  refine Evs.step (h := fun k => spec_l1Names.l1 k p (o ++ [v]) x4 (i : Int) (x6 ++ [97 + (o.length : Int)]) ((j + 1 : Nat) : Int)) (fun k => ?_) hnext
  conv => lhs; unfold spec_l1Names.l2
  rw [if_neg (by omega), if_pos (by omega), if_pos (by omega), if_pos (by omega), if_pos (by omega), rdOf_at hi, if_pos (by omega), if_pos (by omega), if_pos (by omega), bt_get hv, letter_wrap (by omega), wrap_succ (by omega), show a = o.length by omega]
 | succ m ih =>
  intro a ha hno
  obtain ⟨x, hx⟩ : ∃ x, o[a]? = some x := ⟨_, List.getElem?_eq_getElem (by omega)⟩
  have hrd : rd o (a : Int) = x := by unfold rd; rw [Int.toNat_natCast, List.getD_eq_getElem?_getD, hx]; rfl
  by_cases he : x = v
  ·subst he
   have hmem : x ∈ o := List.mem_of_getElem? hx
   have hpush : pushL o x = o := by unfold pushL; rw [if_pos hmem]
   have hidx : o.idxOf x = a := by
    have h1 : o = o.take a ++ x :: o.drop (a + 1) := by
     rw [List.getElem?_eq_getElem (by omega)] at hx
     have := Option.some.inj hx
     rw [← this, ← List.drop_eq_getElem_cons, List.take_append_drop]
    rw [h1, List.idxOf_append, if_neg hno, List.idxOf_cons_self]
    simp
    omega
   rw [hpush, hidx] at hnext
   refine Evs.step (h := fun k => spec_l1Names.l1 k p o x4 (i : Int) (x6 ++ [97 + (a : Int)]) ((j + 1 : Nat) : Int)) (fun k => ?_) hnext
   conv => lhs; unfold spec_l1Names.l2
   rw [if_pos (by omega), if_pos (by omega), if_pos (by omega), if_pos (by omega), if_pos (by omega), rdOf_at hi, if_pos (by omega), hrd, bt_get hv, if_pos rfl, if_neg (by omega), if_pos (by omega), letter_wrap (by omega), wrap_succ (by omega)]
  ·refine Evs.step (h := fun k => spec_l1Names.l2 k p o x4 (i : Int) x6 (j : Int) ((a + 1 : Nat) : Int)) (fun k => ?_) (ih (a + 1) (by omega) (by
    rw [List.take_add_one, hx]
    simp only [Option.toList_some, List.mem_append, List.mem_singleton, not_or]
    exact ⟨hno, fun e => he e.symm⟩))
   conv => lhs; unfold spec_l1Names.l2
   rw [if_pos (by omega), if_pos (by omega), if_pos (by omega), if_pos (by omega), if_pos (by omega), rdOf_at hi, if_pos (by omega), hrd, bt_get hv, if_neg he, wrap_succ (by omega)]
theorem names_l1 (p : List ByteArray) (i : Nat) (s : ByteArray) (hi : p[i]? = some s) (hib : i ≤ 1048576) (hs : s.size ≤ 1048576) (L : List Int) (hL : L.length ≤ 100) (x4 : List ByteArray) (h4 : x4.length ≤ 1048576) (r : List ByteArray) :
  ∀ m j o x6, j + m = s.size → x6.length = j → ordL ((bytesOf s).drop j) o <+: L → Evs (fun k => spec_l1Names.l0 k p (ordL ((bytesOf s).drop j) o) (x4 ++ [strOfNums (x6 ++ ((bytesOf s).drop j).map (numOf L))]) ((i + 1 : Nat) : Int)) r →
   Evs (fun k => spec_l1Names.l1 k p o x4 (i : Int) x6 (j : Int)) r := by
 have hil := (List.getElem?_eq_some_iff.1 hi).1
 have hlen := bytesOf_length s
 intro m
 induction m with
 | zero =>
  intro j o x6 hj h6 hpre hnext
  rw [List.drop_eq_nil_of_le (by omega)] at hnext
  simp only [List.map_nil, List.append_nil] at hnext
  refine Evs.step (h := fun k => spec_l1Names.l0 k p o (x4 ++ [strOfNums x6]) ((i + 1 : Nat) : Int)) (fun k => ?_) hnext
  conv => lhs; unfold spec_l1Names.l1
  rw [if_pos (by omega), if_pos (by omega), rdOf_at hi, if_neg (by omega), if_pos (by omega), wrap_succ hib]
 | succ m ih =>
  intro j o x6 hj h6 hpre hnext
  obtain ⟨v, hv⟩ : ∃ v, (bytesOf s)[j]? = some v := ⟨_, List.getElem?_eq_getElem (by omega)⟩
  have hdrop : (bytesOf s).drop j = v :: (bytesOf s).drop (j + 1) := by
   rw [List.drop_eq_getElem_cons (by omega)]
   congr 1
   rw [List.getElem?_eq_getElem (by omega)] at hv
   exact Option.some.inj hv
  rw [hdrop] at hpre hnext
  have hpre2 : ordL ((bytesOf s).drop (j + 1)) (pushL o v) <+: L := hpre
  have hpl := (ordL_prefix ((bytesOf s).drop (j + 1)) (pushL o v)).trans hpre2
  have hol := ((pushL_prefix o v).trans hpl).length_le
  have hidx := idxOf_push hpl
  refine Evs.step (h := fun k => spec_l1Names.l2 k p o x4 (i : Int) x6 (j : Int) ((0 : Nat) : Int)) (fun k => ?_) (names_l2 p i j s v hi hv o x4 x6 (by omega) (by omega) (by omega) r (ih (j + 1) (pushL o v) _ (by omega) (by simp [h6]) hpre2 ?_) o.length 0 (by omega) (by simp))
  ·conv => lhs; unfold spec_l1Names.l1
   rw [if_pos (by omega), if_pos (by omega), rdOf_at hi, if_pos (by omega)]
   rfl
  ·rw [List.append_assoc]
   simp only [List.map_cons] at hnext
   unfold numOf at hnext ⊢
   rw [hidx] at hnext
   exact hnext
theorem names_l0 (p : List ByteArray) (hp : smallP p) (L : List Int) (hL : L.length ≤ 100) : ∀ m i o x4, i + m = p.length → x4.length = i → ordL ((numsOf p).drop i).flatten o = L →
  Evs (fun k => spec_l1Names.l0 k p o x4 (i : Int)) (x4 ++ (p.drop i).map fun s => strOfNums ((bytesOf s).map (numOf L))) := by
 have hpl := hp.1
 intro m
 induction m with
 | zero =>
  intro i o x4 hi h4 ho
  rw [List.drop_eq_nil_of_le (by omega), List.map_nil, List.append_nil]
  refine Evs.step (h := fun _ => some x4) (fun k => ?_) (Evs.const _)
  conv => lhs; unfold spec_l1Names.l0
  rw [if_neg (by omega)]
 | succ m ih =>
  intro i o x4 hi h4 ho
  obtain ⟨s, hs⟩ : ∃ s, p[i]? = some s := ⟨_, List.getElem?_eq_getElem (by omega)⟩
  have hsz := hp.2 s (List.mem_of_getElem? hs)
  have hdrop : p.drop i = s :: p.drop (i + 1) := by
   rw [List.drop_eq_getElem_cons (by omega)]
   congr 1
   rw [List.getElem?_eq_getElem (by omega)] at hs
   exact Option.some.inj hs
  have hdrop2 : (numsOf p).drop i = bytesOf s :: (numsOf p).drop (i + 1) := by
   unfold numsOf
   rw [← List.map_drop, hdrop, List.map_cons, List.map_drop]
  rw [hdrop2, List.flatten_cons, ordL_append] at ho
  have hpre : ordL (bytesOf s) o <+: L := by rw [← ho]; exact ordL_prefix _ _
  rw [hdrop, List.map_cons]
  have hnext := ih (i + 1) (ordL (bytesOf s) o) (x4 ++ [strOfNums ((bytesOf s).map (numOf L))]) (by omega) (by simp [h4]) ho
  rw [List.append_assoc] at hnext
  refine Evs.step (h := fun k => spec_l1Names.l1 k p o x4 (i : Int) [] ((0 : Nat) : Int)) (fun k => ?_) (names_l1 p i s hs (by omega) hsz L hL x4 (by omega) _ s.size 0 o [] (by omega) rfl hpre hnext)
  conv => lhs; unfold spec_l1Names.l0
  rw [if_pos (by omega)]
  rfl
theorem strOfNums_row (L : List Int) (row : List Int) : strOfNums (row.map (numOf L)) = rowText (row.map fun x => (L.idxOf x : Int)) := by
 unfold strOfNums rowText rowBytes
 congr 2
 rw [List.map_map, List.map_map]
 rfl
theorem l1Names_ev (p : List ByteArray) (hp : smallP p) (hL : (ordAll (numsOf p)).length ≤ 100) : Evs (fun k => spec_l1Names.f k p) (namesOf p) := by
 have := names_l0 p hp (ordAll (numsOf p)) hL p.length 0 [] [] (by omega) rfl rfl
 rw [List.nil_append, List.drop_zero] at this
 have e : namesOf p = p.map fun s => strOfNums ((bytesOf s).map (numOf (ordAll (numsOf p)))) := by
  unfold namesOf textOf canon canonL
  generalize ordAll (numsOf p) = L
  unfold numsOf
  rw [List.map_map, List.map_map]
  congr 1
  funext s
  exact (strOfNums_row L (bytesOf s)).symm
 rw [e]
 exact this
theorem flatten_length_le (rows : List (List Int)) (w : Nat) (h : ∀ r ∈ rows, r.length = w) : rows.flatten.length = rows.length * w := by
 induction rows with
 | nil => simp
 | cons a r ih =>
  rw [List.flatten_cons, List.length_append, ih (fun x hx => h x (List.mem_cons_of_mem _ hx)), h a List.mem_cons_self, List.length_cons, Nat.succ_mul]
  omega
theorem shape_order {rows : List (List Int)} (h : shapeOk rows = true) : (ordAll rows).length ≤ 36 := by
 obtain ⟨h1, h2, h3, h4, h5⟩ := (shapeOk_iff _).1 h
 have := ordL_length rows.flatten []
 rw [flatten_length_le rows _ h5] at this
 have h6 := Nat.mul_le_mul h2 h4
 unfold ordAll
 simp at this
 omega
end Go.Proofs.Ytjaolkfjpnpglaa.Hd
namespace Go.Proofs.Ytjaolkfjpnpglaa.Hd
open Go.RowKit Go.Proofs.YtjaolkfjpnpglaaW.PrintWords Go.Proofs.YtjaolkfjpnpglaaW.PrintLast Go.Proofs.YtjaolkfjpnpglaaW.PrintMore Go.Proofs.Ytjaolkfjpnpglaa.PB
set_option linter.unusedVariables false
set_option linter.unusedSimpArgs false
theorem nodup_inj {l : List Int} (h : l.Nodup) {i j : Nat} (hi : i < l.length) (hj : j < l.length) (e : l[i] = l[j]) : i = j := by
 have hp := List.pairwise_iff_getElem.1 h
 rcases Nat.lt_trichotomy i j with h1 | h1 | h1
 ·exact absurd e (hp i j hi hj h1)
 ·exact h1
 ·exact absurd e.symm (hp j i hj hi h1)
def Rect (wi : Nat) (rows : List (List Int)) : Prop := ∀ r ∈ rows, r.length = wi
theorem valAt_get {rows : List (List Int)} {wi r c : Nat} (h : Rect wi rows) (hr : r < rows.length) (hc : c < wi) : ∃ row, rows[r]? = some row ∧ row[c]? = some (valAt rows r c) := by
 refine ⟨rows[r], List.getElem?_eq_getElem hr, ?_⟩
 have hw := h _ (List.getElem_mem hr)
 unfold valAt
 rw [List.getD_eq_getElem?_getD, List.getD_eq_getElem?_getD, List.getElem?_eq_getElem hr]
 simp only [Option.getD_some]
 rw [List.getElem?_eq_getElem (by omega)]
 rfl
theorem gridOf_get {hi wi : Nat} {g : Nat → Nat → Int} {r : Nat} (hr : r < hi) : (gridOf hi wi g)[r]? = some ((List.range wi).map (g r)) := by
 unfold gridOf
 rw [List.getElem?_map, List.getElem?_range hr]
 rfl
theorem valAt_gridOf {hi wi : Nat} {g : Nat → Nat → Int} {r c : Nat} (hr : r < hi) (hc : c < wi) : valAt (gridOf hi wi g) r c = g r c := by
 unfold valAt
 rw [List.getD_eq_getElem?_getD, List.getD_eq_getElem?_getD, gridOf_get hr]
 simp only [Option.getD_some]
 rw [List.getElem?_map, List.getElem?_range hc]
 rfl
theorem gridOf_rect (hi wi : Nat) (g : Nat → Nat → Int) : Rect wi (gridOf hi wi g) := fun r hr => gridOf_row r hr
theorem gridOf_congr {hi wi : Nat} {g g' : Nat → Nat → Int} (h : ∀ r c, r < hi → c < wi → g r c = g' r c) : gridOf hi wi g = gridOf hi wi g' := by
 unfold gridOf
 apply List.map_congr_left
 intro r hr
 apply List.map_congr_left
 intro c hc
 exact h r c (List.mem_range.1 hr) (List.mem_range.1 hc)
theorem rect_map {rows : List (List Int)} {wi : Nat} (h : Rect wi rows) (f : Int → Int) : rows.map (fun r => r.map f) = gridOf rows.length wi (fun r c => f (valAt rows r c)) := by
 apply List.ext_getElem?
 intro r
 by_cases hr : r < rows.length
 ·rw [gridOf_get hr, List.getElem?_map, List.getElem?_eq_getElem hr]
  simp only [Option.map_some]
  congr 1
  have hw := h _ (List.getElem_mem hr)
  apply List.ext_getElem?
  intro c
  rw [List.getElem?_map, List.getElem?_map]
  by_cases hc : c < wi
  ·obtain ⟨row, h1, h2⟩ := valAt_get h hr hc
   rw [List.getElem?_eq_getElem hr] at h1
   injection h1 with h1
   rw [h1, h2, List.getElem?_range hc]
   rfl
  ·rw [List.getElem?_eq_none (by omega), List.getElem?_eq_none (by simp; omega)]
   rfl
 ·rw [List.getElem?_eq_none (by simp; omega), List.getElem?_eq_none (by rw [gridOf_length]; omega)]
theorem flatten_get {wi : Nat} : ∀ (rows : List (List Int)), Rect wi rows → ∀ n, n < rows.length * wi → rows.flatten[n]? = some (valAt rows (n / wi) (n % wi))
 | [], _, n, h => by simp at h
 | a :: r, hR, n, h => by
  have hwi : 0 < wi := by
   rcases Nat.eq_zero_or_pos wi with h0 | h0
   ·subst h0; simp at h
   ·exact h0
  have ha := hR a List.mem_cons_self
  rw [List.flatten_cons]
  by_cases hn : n < wi
  ·rw [List.getElem?_append_left (by omega), Nat.div_eq_of_lt hn, Nat.mod_eq_of_lt hn]
   unfold valAt
   simp only [List.getD_cons_zero]
   rw [List.getD_eq_getElem?_getD, List.getElem?_eq_getElem (by omega)]
   rfl
  ·rw [List.getElem?_append_right (by omega), ha, flatten_get r (fun x hx => hR x (List.mem_cons_of_mem _ hx)) (n - wi) (by
    rw [List.length_cons, Nat.succ_mul] at h
    omega)]
   congr 1
   obtain ⟨m, rfl⟩ : ∃ m, n = m + wi := ⟨n - wi, by omega⟩
   rw [Nat.add_sub_cancel, Nat.add_div_right _ hwi, Nat.add_mod_right]
   unfold valAt
   simp only [List.getD_cons_succ]
theorem stAt_ord {rows : List (List Int)} {wi : Nat} (h : Rect wi rows) : ∀ n, n ≤ rows.length * wi → (stAt rows wi n).1 = ordL (rows.flatten.take n) []
 | 0, _ => by simp [stAt, ordL]
 | n + 1, hn => by
  rw [List.take_add_one, flatten_get rows h n (by omega)]
  simp only [Option.toList_some]
  rw [ordL_append, ← stAt_ord h n (by omega)]
  show (stepS (stAt rows wi n) (n / wi) (n % wi) (valAt rows (n / wi) (n % wi))).1 = pushL (stAt rows wi n).1 (valAt rows (n / wi) (n % wi))
  unfold stepS pushL
  split <;> rfl
theorem stAt_all {rows : List (List Int)} {wi : Nat} (h : Rect wi rows) : (stAt rows wi (rows.length * wi)).1 = ordAll rows := by
 rw [stAt_ord h _ (Nat.le_refl _), List.take_of_length_le (by rw [flatten_length_le rows wi h]; exact Nat.le_refl _)]
 rfl
theorem numAt_idx {rows : List (List Int)} {wi r c : Nat} (h : Rect wi rows) (hr : r < rows.length) (hc : c < wi) : numAt rows wi r c = ((ordAll rows).idxOf (valAt rows r c) : Int) := by
 unfold numAt
 have hle : r * wi + c + 1 ≤ rows.length * wi := by
  have : (r + 1) * wi ≤ rows.length * wi := Nat.mul_le_mul_right _ hr
  rw [Nat.succ_mul] at this
  omega
 have hp := stAt_prefix rows wi (r * wi + c + 1) (rows.length * wi - (r * wi + c + 1))
 rw [show r * wi + c + 1 + (rows.length * wi - (r * wi + c + 1)) = rows.length * wi by omega, stAt_all h] at hp
 rw [idxOf_prefix hp (stAt_mem rows wi r c hc)]
theorem shape_rect {rows : List (List Int)} (h : shapeOk rows = true) : Rect (wideOf rows) rows := ((shapeOk_iff _).1 h).2.2.2.2
theorem canon_grid {rows : List (List Int)} {wi : Nat} (h : Rect wi rows) : canon rows = gridOf rows.length wi (fun r c => ((ordAll rows).idxOf (valAt rows r c) : Int)) := rect_map h _
theorem cellsOf_canon {rows : List (List Int)} (h : shapeOk rows = true) : cellsOf rows = canon rows := by
 rw [canon_grid (shape_rect h)]
 exact gridOf_congr fun r c hr hc => numAt_idx (shape_rect h) hr hc
structure BoxN (rows : List (List Int)) (wi n : Nat) (x : Int) (b : Rc) : Prop where
 ins : ∀ m, m < n → valAt rows (m / wi) (m % wi) = x → b.f0 ≤ (m / wi : Nat) ∧ ((m / wi : Nat) : Int) < b.f0 + b.f2 ∧ b.f1 ≤ (m % wi : Nat) ∧ ((m % wi : Nat) : Int) < b.f1 + b.f3
 top : ∃ m, m < n ∧ valAt rows (m / wi) (m % wi) = x ∧ ((m / wi : Nat) : Int) = b.f0
 low : ∃ m, m < n ∧ valAt rows (m / wi) (m % wi) = x ∧ ((m / wi : Nat) : Int) + 1 = b.f0 + b.f2
 left : ∃ m, m < n ∧ valAt rows (m / wi) (m % wi) = x ∧ ((m % wi : Nat) : Int) = b.f1
 right : ∃ m, m < n ∧ valAt rows (m / wi) (m % wi) = x ∧ ((m % wi : Nat) : Int) + 1 = b.f1 + b.f3
theorem BoxN.keep {rows : List (List Int)} {wi n : Nat} {x : Int} {b : Rc} (h : BoxN rows wi n x b) (hx : valAt rows (n / wi) (n % wi) ≠ x) : BoxN rows wi (n + 1) x b := by
 refine ⟨fun m hm hv => ?_, ?_, ?_, ?_, ?_⟩
 ·rcases Nat.lt_or_eq_of_le (Nat.lt_succ_iff.1 hm) with h1 | h1
  ·exact h.ins m h1 hv
  ·subst h1; exact absurd hv hx
 ·obtain ⟨m, h1, h2⟩ := h.top; exact ⟨m, by omega, h2⟩
 ·obtain ⟨m, h1, h2⟩ := h.low; exact ⟨m, by omega, h2⟩
 ·obtain ⟨m, h1, h2⟩ := h.left; exact ⟨m, by omega, h2⟩
 ·obtain ⟨m, h1, h2⟩ := h.right; exact ⟨m, by omega, h2⟩
theorem BoxN.both {rows : List (List Int)} {wi n : Nat} {x : Int} {b : Rc} (h : BoxN rows wi n x b) (hx : valAt rows (n / wi) (n % wi) = x) : BoxN rows wi (n + 1) x (bothR b (oneR (n / wi) (n % wi))) := by
 refine ⟨fun m hm hv => ?_, ?_, ?_, ?_, ?_⟩
 ·simp only [bothR, oneR]
  rcases Nat.lt_or_eq_of_le (Nat.lt_succ_iff.1 hm) with h1 | h1
  ·have := h.ins m h1 hv
   omega
  ·subst h1; omega
 ·obtain ⟨m, h1, h2, h3⟩ := h.top
  simp only [bothR, oneR]
  by_cases hc : b.f0 ≤ ((n / wi : Nat) : Int)
  ·exact ⟨m, by omega, h2, by omega⟩
  ·exact ⟨n, by omega, hx, by omega⟩
 ·obtain ⟨m, h1, h2, h3⟩ := h.low
  simp only [bothR, oneR]
  by_cases hc : ((n / wi : Nat) : Int) + 1 ≤ b.f0 + b.f2
  ·exact ⟨m, by omega, h2, by omega⟩
  ·exact ⟨n, by omega, hx, by omega⟩
 ·obtain ⟨m, h1, h2, h3⟩ := h.left
  simp only [bothR, oneR]
  by_cases hc : b.f1 ≤ ((n % wi : Nat) : Int)
  ·exact ⟨m, by omega, h2, by omega⟩
  ·exact ⟨n, by omega, hx, by omega⟩
 ·obtain ⟨m, h1, h2, h3⟩ := h.right
  simp only [bothR, oneR]
  by_cases hc : ((n % wi : Nat) : Int) + 1 ≤ b.f1 + b.f3
  ·exact ⟨m, by omega, h2, by omega⟩
  ·exact ⟨n, by omega, hx, by omega⟩
theorem BoxN.fresh {rows : List (List Int)} {wi n : Nat} {x : Int} (h : ∀ m, m < n → valAt rows (m / wi) (m % wi) ≠ x) (hx : valAt rows (n / wi) (n % wi) = x) : BoxN rows wi (n + 1) x (bothR (oneR (n / wi) (n % wi)) (oneR (n / wi) (n % wi))) := by
 refine ⟨fun m hm hv => ?_, ⟨n, by omega, hx, ?_⟩, ⟨n, by omega, hx, ?_⟩, ⟨n, by omega, hx, ?_⟩, ⟨n, by omega, hx, ?_⟩⟩
 ·simp only [bothR, oneR]
  rcases Nat.lt_or_eq_of_le (Nat.lt_succ_iff.1 hm) with h1 | h1
  ·exact absurd hv (h m h1)
  ·subst h1; omega
 all_goals
  simp only [bothR, oneR]
  omega
theorem stAt_seen (rows : List (List Int)) (wi : Nat) : ∀ n m, m < n → valAt rows (m / wi) (m % wi) ∈ (stAt rows wi n).1
 | 0, m, h => by omega
 | n + 1, m, h => by
  rcases Nat.lt_or_eq_of_le (Nat.lt_succ_iff.1 h) with h1 | h1
  ·exact (stepS_prefix (stAt rows wi n) (n / wi) (n % wi) _).subset (stAt_seen rows wi n m h1)
  ·subst h1
   exact stepS_mem (stAt rows wi m) _ _ _
theorem stAt_len (rows : List (List Int)) (wi : Nat) : ∀ n, (stAt rows wi n).1.length = (stAt rows wi n).2.length ∧ (stAt rows wi n).1.Nodup
 | 0 => by simp [stAt]
 | n + 1 => by
  obtain ⟨h1, h2⟩ := stAt_len rows wi n
  simp only [stAt, stepS]
  split
  ·exact ⟨by simpa using h1, h2⟩
  ·rename_i hx
   refine ⟨by simp [h1], ?_⟩
   rw [List.nodup_append]
   exact ⟨h2, by simp, fun a ha b hb => by simp at hb; subst hb; exact fun e => hx (e ▸ ha)⟩
theorem stAt_box (rows : List (List Int)) (wi : Nat) : ∀ (n i : Nat) (x : Int) (b : Rc), (stAt rows wi n).1[i]? = some x → (stAt rows wi n).2[i]? = some b → BoxN rows wi n x b
 | 0, i, x, b, h, _ => by simp [stAt] at h
 | n + 1, i, x, b, h1, h2 => by
  obtain ⟨hlen, hnd⟩ := stAt_len rows wi n
  simp only [stAt] at h1 h2
  generalize hv : valAt rows (n / wi) (n % wi) = v at h1 h2
  by_cases hmem : v ∈ (stAt rows wi n).1
  ·rw [stepS, if_pos hmem] at h1 h2
   simp only at h1 h2
   have hk := List.idxOf_lt_length_of_mem hmem
   by_cases hik : (stAt rows wi n).1.idxOf v = i
   ·have hxv : x = v := by
     rw [← hik, List.getElem?_eq_getElem hk, List.getElem_idxOf] at h1
     exact (Option.some.inj h1).symm
    subst hxv
    rw [hik, List.getElem?_set_self (by omega)] at h2
    have h2' := Option.some.inj h2
    rw [← h2']
    refine BoxN.both ?_ hv
    refine stAt_box rows wi n i x _ h1 ?_
    rw [List.getD_eq_getElem?_getD, List.getElem?_eq_getElem (by omega)]
    rfl
   ·rw [List.getElem?_set_ne (fun e => hik e)] at h2
    refine (stAt_box rows wi n i x b h1 h2).keep ?_
    rw [hv]
    rintro rfl
    refine hik ?_
    have hil := (List.getElem?_eq_some_iff.1 h1).1
    have e1 : (stAt rows wi n).1[i] = v := by
     rw [List.getElem?_eq_getElem hil] at h1
     exact Option.some.inj h1
    have e2 : (stAt rows wi n).1[(stAt rows wi n).1.idxOf v] = v := List.getElem_idxOf hk
    exact nodup_inj hnd hk hil (e2.trans e1.symm)
  ·rw [stepS, if_neg hmem] at h1 h2
   simp only at h1 h2
   by_cases hi : i < (stAt rows wi n).1.length
   ·rw [List.getElem?_append_left hi] at h1
    rw [List.getElem?_append_left (by omega)] at h2
    refine (stAt_box rows wi n i x b h1 h2).keep ?_
    rw [hv]
    rintro rfl
    exact hmem (List.mem_of_getElem? h1)
   ·have hil := (List.getElem?_eq_some_iff.1 h1).1
    simp at hil
    obtain rfl : i = (stAt rows wi n).1.length := by omega
    rw [List.getElem?_concat_length] at h1
    rw [hlen, List.getElem?_concat_length] at h2
    have e1 := Option.some.inj h1
    have e2 := Option.some.inj h2
    subst e1 e2
    exact BoxN.fresh (fun m hm e => hmem (by rw [← e]; exact stAt_seen rows wi n m hm)) hv
end Go.Proofs.Ytjaolkfjpnpglaa.Hd
namespace Go.Proofs.Ytjaolkfjpnpglaa.Hd
open Go.RowKit Go.Proofs.YtjaolkfjpnpglaaW.PrintWords Go.Proofs.YtjaolkfjpnpglaaW.PrintLast Go.Proofs.YtjaolkfjpnpglaaW.PrintMore Go.Proofs.Ytjaolkfjpnpglaa.PB
set_option linter.unusedVariables false
set_option linter.unusedSimpArgs false
def cellN (rows : List (List Int)) (wi m : Nat) : Int := valAt rows (m / wi) (m % wi) - 97
def countN (rows : List (List Int)) (wi : Nat) (x : Int) : Nat → Int
 | 0 => 0
 | n + 1 => if cellN rows wi n = x then countN rows wi x n + 1 else countN rows wi x n
def maxN (rows : List (List Int)) (wi : Nat) : Nat → Int
 | 0 => 0
 | n + 1 => max (maxN rows wi n) (cellN rows wi n + 1)
def roomN (rows : List (List Int)) (wi : Nat) (x : Int) (t l : Int) : Nat → Int × Int × Int × Int
 | 0 => (t, l, -1, -1)
 | n + 1 => if cellN rows wi n = x then (min (roomN rows wi x t l n).1 (n / wi : Nat), min (roomN rows wi x t l n).2.1 (n % wi : Nat), max (roomN rows wi x t l n).2.2.1 (n / wi : Nat), max (roomN rows wi x t l n).2.2.2 (n % wi : Nat)) else roomN rows wi x t l n
structure Small (p : List ByteArray) (wi : Nat) : Prop where
 high : p.length ≤ 6
 wide : wi ≤ 6
 row : ∀ s ∈ p, s.size = wi
theorem gridOk_small {p : List ByteArray} (h : gridOk p = true) : Small p (wideOf (numsOf p)) := by
 unfold gridOk at h
 rw [Bool.and_eq_true] at h
 obtain ⟨h1, h2, h3, h4, h5⟩ := (shapeOk_iff _).1 h.1
 have hl : (numsOf p).length = p.length := by simp [numsOf]
 exact ⟨by omega, h4, fun s hs => by
  have := h5 (bytesOf s) (by unfold numsOf; simp; exact ⟨s, hs, rfl⟩)
  rw [bytesOf_length] at this
  exact this⟩
theorem Small.rect {p : List ByteArray} {wi : Nat} (h : Small p wi) : Rect wi (numsOf p) := by
 intro r hr
 unfold numsOf at hr
 simp at hr
 obtain ⟨s, hs, rfl⟩ := hr
 rw [bytesOf_length]
 exact h.row s hs
theorem Small.at {p : List ByteArray} {wi : Nat} (h : Small p wi) {i j : Nat} (hi : i < p.length) (hj : j < wi) : ∃ s, p[i]? = some s ∧ s.size = wi ∧ bt s (j : Int) = cellN (numsOf p) wi (i * wi + j) + 97 ∧ 0 ≤ bt s (j : Int) ∧ bt s (j : Int) ≤ 255 := by
 obtain ⟨s, hs⟩ : ∃ s, p[i]? = some s := ⟨_, List.getElem?_eq_getElem hi⟩
 have hsz := h.row s (List.mem_of_getElem? hs)
 obtain ⟨x, hx⟩ : ∃ x, (bytesOf s)[j]? = some x := ⟨_, List.getElem?_eq_getElem (by rw [bytesOf_length]; omega)⟩
 have hv : valAt (numsOf p) i j = x := by
  unfold valAt numsOf
  rw [List.getD_eq_getElem?_getD, List.getD_eq_getElem?_getD, List.getElem?_map, hs]
  simp only [Option.map_some, Option.getD_some]
  rw [hx]
  rfl
 have hr := bytesOf_range s x (List.mem_of_getElem? hx)
 obtain ⟨d1, d2⟩ := divmod_of (r := i) hj
 refine ⟨s, hs, hsz, ?_, ?_, ?_⟩
 ·rw [bt_get hx]; unfold cellN; rw [d1, d2, hv]; omega
 ·rw [bt_get hx]; exact hr.1
 ·rw [bt_get hx]; exact hr.2
theorem Small.row_at {p : List ByteArray} {wi : Nat} (h : Small p wi) {i : Nat} (hi : i < p.length) : ∃ s, p[i]? = some s ∧ s.size = wi := by
 obtain ⟨s, hs⟩ : ∃ s, p[i]? = some s := ⟨_, List.getElem?_eq_getElem hi⟩
 exact ⟨s, hs, h.row s (List.mem_of_getElem? hs)⟩
theorem countN_le (rows : List (List Int)) (wi : Nat) (x : Int) : ∀ n, 0 ≤ countN rows wi x n ∧ countN rows wi x n ≤ n
 | 0 => by simp [countN]
 | n + 1 => by
  have := countN_le rows wi x n
  simp only [countN]
  split <;> omega
theorem cells_l1 (p : List ByteArray) (wi : Nat) (h : Small p wi) (x : Int) (i : Nat) (hi : i < p.length) (r : Int) (hnext : Evs (fun k => spec_l1Cells.l0 k p x (countN (numsOf p) wi x ((i + 1) * wi)) ((i + 1 : Nat) : Int)) r) :
  ∀ m j, j + m = wi → Evs (fun k => spec_l1Cells.l1 k p x (countN (numsOf p) wi x (i * wi + j)) (i : Int) (j : Int)) r := by
 have h6 := h.high
 have w6 := h.wide
 intro m
 induction m with
 | zero =>
  intro j hj
  obtain ⟨s, hs, hsz⟩ := h.row_at hi
  rw [show i * wi + j = (i + 1) * wi by rw [Nat.succ_mul]; omega]
  refine Evs.step (h := fun k => spec_l1Cells.l0 k p x (countN (numsOf p) wi x ((i + 1) * wi)) ((i + 1 : Nat) : Int)) (fun k => ?_) hnext
  conv => lhs; unfold spec_l1Cells.l1
  rw [if_pos (by omega), if_pos (by omega), rdOf_at hs, if_neg (by omega), wrap_succ (by omega)]
 | succ m ih =>
  intro j hj
  obtain ⟨s, hs, hsz, hb, hb0, hb1⟩ := h.at hi (show j < wi by omega)
  have hc := countN_le (numsOf p) wi x (i * wi + j)
  have hle : i * wi + j ≤ 36 + 6 := by
   have := Nat.mul_le_mul (show i ≤ 6 by omega) w6
   omega
  have hnx := ih (j + 1) (by omega)
  have hsucc : countN (numsOf p) wi x (i * wi + (j + 1)) = if cellN (numsOf p) wi (i * wi + j) = x then countN (numsOf p) wi x (i * wi + j) + 1 else countN (numsOf p) wi x (i * wi + j) := rfl
  rw [hsucc] at hnx
  refine Evs.step (h := fun k => spec_l1Cells.l1 k p x (if cellN (numsOf p) wi (i * wi + j) = x then countN (numsOf p) wi x (i * wi + j) + 1 else countN (numsOf p) wi x (i * wi + j)) (i : Int) ((j + 1 : Nat) : Int)) (fun k => ?_) hnx
  conv => lhs; unfold spec_l1Cells.l1
  rw [if_pos (by omega), if_pos (by omega), rdOf_at hs, if_pos (by omega), if_pos (by omega), wrap64_small (x := bt s (j : Int)) (by omega) (by omega), wrap64_small (x := bt s (j : Int) - 97) (by omega) (by omega), show bt s (j : Int) - 97 = cellN (numsOf p) wi (i * wi + j) by omega, wrap_succ (by omega)]
  by_cases hx : cellN (numsOf p) wi (i * wi + j) = x
  ·rw [if_pos hx, if_pos hx, wrap64_small (by omega) (by omega)]
  ·rw [if_neg hx, if_neg hx]
theorem cells_l0 (p : List ByteArray) (wi : Nat) (h : Small p wi) (x : Int) : ∀ m i, i + m = p.length → Evs (fun k => spec_l1Cells.l0 k p x (countN (numsOf p) wi x (i * wi)) (i : Int)) (countN (numsOf p) wi x (p.length * wi)) := by
 have h6 := h.high
 intro m
 induction m with
 | zero =>
  intro i hi
  obtain rfl : i = p.length := by omega
  refine Evs.step (h := fun _ => some (countN (numsOf p) wi x (p.length * wi))) (fun k => ?_) (Evs.const _)
  conv => lhs; unfold spec_l1Cells.l0
  rw [if_neg (by omega)]
 | succ m ih =>
  intro i hi
  refine Evs.step (h := fun k => spec_l1Cells.l1 k p x (countN (numsOf p) wi x (i * wi)) (i : Int) ((0 : Nat) : Int)) (fun k => ?_) (cells_l1 p wi h x i (by omega) _ (ih (i + 1) (by omega)) wi 0 (by omega))
  conv => lhs; unfold spec_l1Cells.l0
  rw [if_pos (by omega)]
  rfl
theorem l1Cells_ev (p : List ByteArray) (wi : Nat) (h : Small p wi) (x : Int) : Evs (fun k => spec_l1Cells.f k p x) (countN (numsOf p) wi x (p.length * wi)) := by
 have := cells_l0 p wi h x p.length 0 (by omega)
 show Evs (fun k => spec_l1Cells.l0 k p x 0 0) _
 simpa [countN] using this
theorem mx_max (a b : Int) : mx a b = max a b := by unfold mx; omega
theorem mn_min (a b : Int) : mn a b = min a b := by unfold mn; omega
theorem rooms_l1 (p : List ByteArray) (wi : Nat) (h : Small p wi) (i : Nat) (hi : i < p.length) (r : Int) (hnext : Evs (fun k => spec_l1Rooms.l0 k p (maxN (numsOf p) wi ((i + 1) * wi)) ((i + 1 : Nat) : Int)) r) :
  ∀ m j, j + m = wi → Evs (fun k => spec_l1Rooms.l1 k p (maxN (numsOf p) wi (i * wi + j)) (i : Int) (j : Int)) r := by
 have h6 := h.high
 have w6 := h.wide
 intro m
 induction m with
 | zero =>
  intro j hj
  obtain ⟨s, hs, hsz⟩ := h.row_at hi
  rw [show i * wi + j = (i + 1) * wi by rw [Nat.succ_mul]; omega]
  refine Evs.step (h := fun k => spec_l1Rooms.l0 k p (maxN (numsOf p) wi ((i + 1) * wi)) ((i + 1 : Nat) : Int)) (fun k => ?_) hnext
  conv => lhs; unfold spec_l1Rooms.l1
  rw [if_pos (by omega), if_pos (by omega), rdOf_at hs, if_neg (by omega), wrap_succ (by omega)]
 | succ m ih =>
  intro j hj
  obtain ⟨s, hs, hsz, hb, hb0, hb1⟩ := h.at hi (show j < wi by omega)
  refine Evs.step (h := fun k => spec_l1Rooms.l1 k p (maxN (numsOf p) wi (i * wi + (j + 1))) (i : Int) ((j + 1 : Nat) : Int)) (fun k => ?_) (ih (j + 1) (by omega))
  conv => lhs; unfold spec_l1Rooms.l1
  rw [if_pos (by omega), if_pos (by omega), rdOf_at hs, if_pos (by omega), if_pos (by omega), wrap64_small (x := bt s (j : Int)) (by omega) (by omega), wrap64_small (x := bt s (j : Int) - 97) (by omega) (by omega), wrap64_small (x := bt s (j : Int) - 97 + 1) (by omega) (by omega), show bt s (j : Int) - 97 = cellN (numsOf p) wi (i * wi + j) by omega, wrap_succ (by omega), mx_max]
  rfl
theorem rooms_l0 (p : List ByteArray) (wi : Nat) (h : Small p wi) : ∀ m i, i + m = p.length → Evs (fun k => spec_l1Rooms.l0 k p (maxN (numsOf p) wi (i * wi)) (i : Int)) (maxN (numsOf p) wi (p.length * wi)) := by
 have h6 := h.high
 intro m
 induction m with
 | zero =>
  intro i hi
  obtain rfl : i = p.length := by omega
  refine Evs.step (h := fun _ => some (maxN (numsOf p) wi (p.length * wi))) (fun k => ?_) (Evs.const _)
  conv => lhs; unfold spec_l1Rooms.l0
  rw [if_neg (by omega)]
 | succ m ih =>
  intro i hi
  refine Evs.step (h := fun k => spec_l1Rooms.l1 k p (maxN (numsOf p) wi (i * wi)) (i : Int) ((0 : Nat) : Int)) (fun k => ?_) (rooms_l1 p wi h i (by omega) _ (ih (i + 1) (by omega)) wi 0 (by omega))
  conv => lhs; unfold spec_l1Rooms.l0
  rw [if_pos (by omega)]
  rfl
theorem l1Rooms_ev (p : List ByteArray) (wi : Nat) (h : Small p wi) : Evs (fun k => spec_l1Rooms.f k p) (maxN (numsOf p) wi (p.length * wi)) := by
 have := rooms_l0 p wi h p.length 0 (by omega)
 show Evs (fun k => spec_l1Rooms.l0 k p 0 0) _
 simpa [maxN] using this
def roomOut (q : Int × Int × Int × Int) : Int × Int × Int × Int := (q.1, q.2.1, q.2.2.1 - q.1 + 1, q.2.2.2 - q.2.1 + 1)
theorem roomN_le {p : List ByteArray} {wi : Nat} (h : Small p wi) (x t l : Int) (ht : 0 ≤ t) (ht2 : t ≤ 6) (hl : 0 ≤ l) (hl2 : l ≤ 6) : ∀ n, n ≤ p.length * wi → let q := roomN (numsOf p) wi x t l n; 0 ≤ q.1 ∧ q.1 ≤ 6 ∧ 0 ≤ q.2.1 ∧ q.2.1 ≤ 6 ∧ -1 ≤ q.2.2.1 ∧ q.2.2.1 ≤ 6 ∧ -1 ≤ q.2.2.2 ∧ q.2.2.2 ≤ 6
 | 0, _ => by simp only [roomN]; omega
 | n + 1, hn => by
  have ih := roomN_le h x t l ht ht2 hl hl2 n (by omega)
  have hwi : 0 < wi := by
   rcases Nat.eq_zero_or_pos wi with h0 | h0
   ·subst h0; simp at hn
   ·exact h0
  have h1 : n / wi < p.length := by rw [Nat.div_lt_iff_lt_mul hwi]; omega
  have h2 : n % wi < wi := Nat.mod_lt _ hwi
  have h3 := h.high
  have h4 := h.wide
  simp only [roomN] at ih ⊢
  generalize n / wi = a at *
  generalize n % wi = b at *
  split
  ·dsimp only
   omega
  ·exact ih
theorem room_l1 (p : List ByteArray) (wi : Nat) (h : Small p wi) (x t l : Int) (ht : 0 ≤ t) (ht2 : t ≤ 6) (hl : 0 ≤ l) (hl2 : l ≤ 6) (i : Nat) (hi : i < p.length) (r : Int × Int × Int × Int) (hnext : let q := roomN (numsOf p) wi x t l ((i + 1) * wi); Evs (fun k => spec_l1Room.l0 k p x q.1 q.2.1 q.2.2.1 q.2.2.2 ((i + 1 : Nat) : Int)) r) :
  ∀ m j, j + m = wi → let q := roomN (numsOf p) wi x t l (i * wi + j); Evs (fun k => spec_l1Room.l1 k p x q.1 q.2.1 q.2.2.1 q.2.2.2 (i : Int) (j : Int)) r := by
 have h6 := h.high
 have w6 := h.wide
 intro m
 induction m with
 | zero =>
  intro j hj
  obtain ⟨s, hs, hsz⟩ := h.row_at hi
  rw [show i * wi + j = (i + 1) * wi by rw [Nat.succ_mul]; omega]
  intro q
  refine Evs.step (h := fun k => spec_l1Room.l0 k p x q.1 q.2.1 q.2.2.1 q.2.2.2 ((i + 1 : Nat) : Int)) (fun k => ?_) hnext
  conv => lhs; unfold spec_l1Room.l1
  rw [if_pos (by omega), if_pos (by omega), rdOf_at hs, if_neg (by omega), wrap_succ (by omega)]
 | succ m ih =>
  intro j hj q
  obtain ⟨s, hs, hsz, hb, hb0, hb1⟩ := h.at hi (show j < wi by omega)
  have hnx := ih (j + 1) (by omega)
  obtain ⟨d1, d2⟩ := divmod_of (r := i) (show j < wi by omega)
  have hsucc : roomN (numsOf p) wi x t l (i * wi + (j + 1)) = if cellN (numsOf p) wi (i * wi + j) = x then (min q.1 (i : Int), min q.2.1 (j : Int), max q.2.2.1 (i : Int), max q.2.2.2 (j : Int)) else q := by
   show roomN (numsOf p) wi x t l (i * wi + j + 1) = _
   simp only [roomN]
   rw [d1, d2]
  rw [hsucc] at hnx
  generalize q = q at *
  refine Evs.step (h := fun k => spec_l1Room.l1 k p x (if cellN (numsOf p) wi (i * wi + j) = x then (min q.1 (i : Int), min q.2.1 (j : Int), max q.2.2.1 (i : Int), max q.2.2.2 (j : Int)) else q).1 (if cellN (numsOf p) wi (i * wi + j) = x then (min q.1 (i : Int), min q.2.1 (j : Int), max q.2.2.1 (i : Int), max q.2.2.2 (j : Int)) else q).2.1 (if cellN (numsOf p) wi (i * wi + j) = x then (min q.1 (i : Int), min q.2.1 (j : Int), max q.2.2.1 (i : Int), max q.2.2.2 (j : Int)) else q).2.2.1 (if cellN (numsOf p) wi (i * wi + j) = x then (min q.1 (i : Int), min q.2.1 (j : Int), max q.2.2.1 (i : Int), max q.2.2.2 (j : Int)) else q).2.2.2 (i : Int) ((j + 1 : Nat) : Int)) (fun k => ?_) hnx
  conv => lhs; unfold spec_l1Room.l1
  rw [if_pos (by omega), if_pos (by omega), rdOf_at hs, if_pos (by omega), if_pos (by omega), wrap64_small (x := bt s (j : Int)) (by omega) (by omega), wrap64_small (x := bt s (j : Int) - 97) (by omega) (by omega), show bt s (j : Int) - 97 = cellN (numsOf p) wi (i * wi + j) by omega, wrap_succ (by omega)]
  by_cases hx : cellN (numsOf p) wi (i * wi + j) = x
  ·rw [if_pos hx, if_pos hx, mn_min, mn_min, mx_max, mx_max]
  ·rw [if_neg hx, if_neg hx]
theorem room_l0 (p : List ByteArray) (wi : Nat) (h : Small p wi) (x t l : Int) (ht : 0 ≤ t) (ht2 : t ≤ 6) (hl : 0 ≤ l) (hl2 : l ≤ 6) : ∀ m i, i + m = p.length → let q := roomN (numsOf p) wi x t l (i * wi); Evs (fun k => spec_l1Room.l0 k p x q.1 q.2.1 q.2.2.1 q.2.2.2 (i : Int)) (roomOut (roomN (numsOf p) wi x t l (p.length * wi))) := by
 have h6 := h.high
 intro m
 induction m with
 | zero =>
  intro i hi q
  obtain rfl : i = p.length := by omega
  have hq := roomN_le h x t l ht ht2 hl hl2 (p.length * wi) (Nat.le_refl _)
  refine Evs.step (h := fun _ => some (roomOut q)) (fun k => ?_) (Evs.const _)
  conv => lhs; unfold spec_l1Room.l0
  have hq' : 0 ≤ q.1 ∧ q.1 ≤ 6 ∧ 0 ≤ q.2.1 ∧ q.2.1 ≤ 6 ∧ -1 ≤ q.2.2.1 ∧ q.2.2.1 ≤ 6 ∧ -1 ≤ q.2.2.2 ∧ q.2.2.2 ≤ 6 := hq
  clear hq
  generalize q = q at *
  rw [if_neg (by omega), wrap64_small (x := q.2.2.1 - q.1) (by omega) (by omega), wrap64_small (x := q.2.2.1 - q.1 + 1) (by omega) (by omega), wrap64_small (x := q.2.2.2 - q.2.1) (by omega) (by omega), wrap64_small (x := q.2.2.2 - q.2.1 + 1) (by omega) (by omega)]
  rfl
 | succ m ih =>
  intro i hi q
  refine Evs.step (h := fun k => spec_l1Room.l1 k p x q.1 q.2.1 q.2.2.1 q.2.2.2 (i : Int) ((0 : Nat) : Int)) (fun k => ?_) (room_l1 p wi h x t l ht ht2 hl hl2 i (by omega) _ (ih (i + 1) (by omega)) wi 0 (by omega))
  conv => lhs; unfold spec_l1Room.l0
  rw [if_pos (by omega)]
  rfl
theorem l1Room_ev (p : List ByteArray) (wi : Nat) (h : Small p wi) (h1 : 1 ≤ p.length) (x : Int) : Evs (fun k => spec_l1Room.f k p x) (roomOut (roomN (numsOf p) wi x (p.length : Int) (wi : Int) (p.length * wi))) := by
 have h6 := h.high
 have w6 := h.wide
 have := room_l0 p wi h x (p.length : Int) (wi : Int) (by omega) (by omega) (by omega) (by omega) p.length 0 (by omega)
 obtain ⟨s, hs, hsz⟩ := h.row_at (i := 0) (by omega)
 refine Evs.congr (fun k => ?_) this
 unfold spec_l1Room.f
 have e := rdOf_at hs
 simp only [Int.ofNat_zero, Int.natCast_zero] at e
 rw [if_pos (by omega), e, hsz]
 simp [roomN]
theorem same_l0 (p q : List ByteArray) (hl : p.length = q.length) (hb : p.length ≤ 1048576) : ∀ m i, i + m = p.length → p.take i = q.take i → Evs (fun k => spec_l1Same.l0 k p q (i : Int)) (decide (p = q)) := by
 intro m
 induction m with
 | zero =>
  intro i hi ht
  have e : p = q := by
   rw [show i = p.length by omega, List.take_length, hl, List.take_length] at ht
   exact ht
  refine Evs.step (h := fun _ => some (decide (p = q))) (fun k => ?_) (Evs.const _)
  conv => lhs; unfold spec_l1Same.l0
  rw [if_neg (by omega), decide_eq_true e]
 | succ m ih =>
  intro i hi ht
  by_cases he : p[i] = q[i]
  ·refine Evs.step (h := fun k => spec_l1Same.l0 k p q ((i + 1 : Nat) : Int)) (fun k => ?_) (ih (i + 1) (by omega) (by
    rw [List.take_add_one, List.take_add_one, ht, List.getElem?_eq_getElem (by omega), List.getElem?_eq_getElem (by omega), he]))
   conv => lhs; unfold spec_l1Same.l0
   rw [if_pos (by omega), if_pos (by omega), if_pos (by omega), rdOf_get p i (by omega), rdOf_get q i (by omega), if_pos (toList_inj.2 he), wrap_succ (by omega)]
  ·have hne : p ≠ q := by rintro rfl; exact he rfl
   refine Evs.step (h := fun _ => some (decide (p = q))) (fun k => ?_) (Evs.const _)
   conv => lhs; unfold spec_l1Same.l0
   rw [if_pos (by omega), if_pos (by omega), if_pos (by omega), rdOf_get p i (by omega), rdOf_get q i (by omega), if_neg (fun h => he (toList_inj.1 h)), decide_eq_false hne]
theorem l1Same_ev (p q : List ByteArray) (hb : p.length ≤ 1048576) : Evs (fun k => spec_l1Same.f k p q) (decide (p = q)) := by
 by_cases h : p.length = q.length
 ·refine Evs.congr (fun k => ?_) (same_l0 p q h hb p.length 0 (by omega) (by simp))
  unfold spec_l1Same.f
  rw [if_pos (by omega)]
  rfl
 ·have hne : p ≠ q := by rintro rfl; exact h rfl
  refine Evs.congr (h := fun _ => some (decide (p = q))) (fun k => ?_) (Evs.const _)
  unfold spec_l1Same.f
  rw [if_neg (by omega), decide_eq_false hne]
end Go.Proofs.Ytjaolkfjpnpglaa.Hd
namespace Go.Proofs.Ytjaolkfjpnpglaa.Hd
open Go.RowKit Go.Proofs.YtjaolkfjpnpglaaW.PrintWords Go.Proofs.YtjaolkfjpnpglaaW.PrintLast Go.Proofs.YtjaolkfjpnpglaaW.PrintMore Go.Proofs.Ytjaolkfjpnpglaa.PB
set_option linter.unusedVariables false
set_option linter.unusedSimpArgs false
def sumI (f : Nat → Int) : Nat → Int
 | 0 => 0
 | n + 1 => sumI f n + f n
theorem sumI_add (f g : Nat → Int) : ∀ n, sumI (fun x => f x + g x) n = sumI f n + sumI g n
 | 0 => rfl
 | n + 1 => by simp only [sumI, sumI_add f g n]; omega
theorem sumI_congr {f g : Nat → Int} : ∀ n, (∀ x, x < n → f x = g x) → sumI f n = sumI g n
 | 0, _ => rfl
 | n + 1, h => by simp only [sumI]; rw [sumI_congr n (fun x hx => h x (by omega)), h n (by omega)]
theorem sumI_le {f g : Nat → Int} : ∀ n, (∀ x, x < n → f x ≤ g x) → sumI f n ≤ sumI g n
 | 0, _ => Int.le_refl _
 | n + 1, h => by
  have := sumI_le n (fun x hx => h x (by omega))
  have := h n (by omega)
  simp only [sumI]
  omega
theorem sumI_eq {f g : Nat → Int} : ∀ n, (∀ x, x < n → f x ≤ g x) → sumI f n = sumI g n → ∀ x, x < n → f x = g x
 | 0, _, _, x, hx => by omega
 | n + 1, h, he, x, hx => by
  have h1 := sumI_le n (fun x hx => h x (by omega))
  have h2 := h n (by omega)
  simp only [sumI] at he
  rcases Nat.lt_or_eq_of_le (Nat.lt_succ_iff.1 hx) with h3 | h3
  ·exact sumI_eq n (fun x hx => h x (by omega)) (by omega) x h3
  ·subst h3; omega
theorem sumI_one (v : Int) : ∀ n, sumI (fun x => if v = (x : Int) then 1 else 0) n = if 0 ≤ v ∧ v < n then 1 else 0
 | 0 => by
  simp only [sumI]
  rw [if_neg (by omega)]
 | n + 1 => by
  simp only [sumI, sumI_one v n]
  by_cases h : v = (n : Int)
  ·rw [if_neg (by omega), if_pos h, if_pos (by omega)]; omega
  ·rw [if_neg h]
   by_cases h2 : 0 ≤ v ∧ v < n
   ·rw [if_pos h2, if_pos (by omega)]; omega
   ·rw [if_neg h2, if_neg (by omega)]; omega
theorem count_sum (rows : List (List Int)) (wi n : Nat) : ∀ N, (∀ m, m < N → 0 ≤ cellN rows wi m ∧ cellN rows wi m < n) → sumI (fun x => countN rows wi (x : Int) N) n = N
 | 0, _ => by
  have : sumI (fun x => countN rows wi (x : Int) 0) n = sumI (fun _ => 0) n := rfl
  rw [this]
  have h0 : ∀ n, sumI (fun _ => 0) n = 0 := fun n => by induction n with
   | zero => rfl
   | succ n ih => simp only [sumI, ih]; rfl
  rw [h0]
  rfl
 | N + 1, h => by
  have ih := count_sum rows wi n N (fun m hm => h m (by omega))
  have h1 := h N (by omega)
  have h2 := sumI_one (cellN rows wi N) n
  rw [if_pos h1] at h2
  have h3 : sumI (fun x => countN rows wi (x : Int) (N + 1)) n = sumI (fun x => countN rows wi (x : Int) N + (if cellN rows wi N = (x : Int) then 1 else 0)) n := by
   apply sumI_congr
   intro x hx
   simp only [countN]
   split <;> omega
  rw [h3, sumI_add, ih, h2]
  omega
def inBox (b : Rc) (wi m : Nat) : Prop := b.f0 ≤ (m / wi : Nat) ∧ ((m / wi : Nat) : Int) < b.f0 + b.f2 ∧ b.f1 ≤ (m % wi : Nat) ∧ ((m % wi : Nat) : Int) < b.f1 + b.f3
instance (b : Rc) (wi m : Nat) : Decidable (inBox b wi m) := by unfold inBox; exact inferInstance
def countB (b : Rc) (wi : Nat) : Nat → Int
 | 0 => 0
 | n + 1 => if inBox b wi n then countB b wi n + 1 else countB b wi n
theorem countN_le_B (rows : List (List Int)) (wi : Nat) (x : Int) (b : Rc) : ∀ n, (∀ m, m < n → cellN rows wi m = x → inBox b wi m) → countN rows wi x n ≤ countB b wi n
 | 0, _ => Int.le_refl _
 | n + 1, h => by
  have ih := countN_le_B rows wi x b n (fun m hm => h m (by omega))
  simp only [countN, countB]
  by_cases hx : cellN rows wi n = x
  ·rw [if_pos hx, if_pos (h n (by omega) hx)]; omega
  ·rw [if_neg hx]
   split <;> omega
def clamp (a n : Int) : Int := max 0 (min a n)
theorem countB_at (b : Rc) (hi wi : Nat) (hb : boundR b hi wi) : ∀ i j, i ≤ hi → j ≤ wi → (i < hi ∨ j = 0) → countB b wi (i * wi + j) = clamp ((i : Int) - b.f0) b.f2 * b.f3 + (if b.f0 ≤ i ∧ (i : Int) < b.f0 + b.f2 then clamp ((j : Int) - b.f1) b.f3 else 0) := by
 obtain ⟨b0, b1, b2, b3, b4, b5⟩ := hb
 intro i
 induction i with
 | zero =>
  intro j
  induction j with
  | zero =>
   intro _ _ _
   have h1 : clamp (((0 : Nat) : Int) - b.f0) b.f2 = 0 := by unfold clamp; omega
   have h2 : clamp (((0 : Nat) : Int) - b.f1) b.f3 = 0 := by unfold clamp; omega
   rw [h1, h2]
   simp [countB]
  | succ j ih =>
   intro h1 h2 h3
   have h := ih h1 (by omega) (by omega)
   obtain ⟨d1, d2⟩ := divmod_of (r := 0) (show j < wi by omega)
   show (if inBox b wi (0 * wi + j) then countB b wi (0 * wi + j) + 1 else countB b wi (0 * wi + j)) = _
   rw [h]
   have hib : inBox b wi (0 * wi + j) ↔ (b.f0 ≤ ((0 : Nat) : Int) ∧ ((0 : Nat) : Int) < b.f0 + b.f2 ∧ b.f1 ≤ (j : Int) ∧ (j : Int) < b.f1 + b.f3) := by unfold inBox; rw [d1, d2]
   by_cases hr : b.f0 ≤ ((0 : Nat) : Int) ∧ ((0 : Nat) : Int) < b.f0 + b.f2
   ·rw [if_pos hr, if_pos hr]
    have : clamp (((j + 1 : Nat) : Int) - b.f1) b.f3 = clamp ((j : Int) - b.f1) b.f3 + (if b.f1 ≤ (j : Int) ∧ (j : Int) < b.f1 + b.f3 then 1 else 0) := by
     unfold clamp; split <;> omega
    rw [this]
    by_cases hc : b.f1 ≤ (j : Int) ∧ (j : Int) < b.f1 + b.f3
    ·rw [if_pos (hib.2 ⟨hr.1, hr.2, hc.1, hc.2⟩), if_pos hc]; omega
    ·rw [if_neg (fun h => hc ⟨(hib.1 h).2.2.1, (hib.1 h).2.2.2⟩), if_neg hc]; omega
   ·rw [if_neg hr, if_neg hr, if_neg (fun h => hr ⟨(hib.1 h).1, (hib.1 h).2.1⟩)]
 | succ i ihi =>
  intro j
  induction j with
  | zero =>
   intro h1 _ _
   have h := ihi wi (by omega) (Nat.le_refl _) (by omega)
   rw [show (i + 1) * wi + 0 = i * wi + wi by rw [Nat.succ_mul]; omega, h]
   have e2 : clamp (((0 : Nat) : Int) - b.f1) b.f3 = 0 := by unfold clamp; omega
   have e3 : clamp ((wi : Int) - b.f1) b.f3 = b.f3 := by unfold clamp; omega
   rw [e2, e3]
   have e4 : (if b.f0 ≤ ((i + 1 : Nat) : Int) ∧ ((i + 1 : Nat) : Int) < b.f0 + b.f2 then (0 : Int) else 0) = 0 := by split <;> rfl
   rw [e4]
   by_cases hr : b.f0 ≤ (i : Int) ∧ (i : Int) < b.f0 + b.f2
   ·have e5 : clamp (((i + 1 : Nat) : Int) - b.f0) b.f2 = clamp ((i : Int) - b.f0) b.f2 + 1 := by unfold clamp; omega
    rw [if_pos hr, e5, Int.add_mul]
    omega
   ·have e5 : clamp (((i + 1 : Nat) : Int) - b.f0) b.f2 = clamp ((i : Int) - b.f0) b.f2 := by unfold clamp; omega
    rw [if_neg hr, e5]
  | succ j ih =>
   intro h1 h2 h3
   have h := ih h1 (by omega) (by omega)
   obtain ⟨d1, d2⟩ := divmod_of (r := i + 1) (show j < wi by omega)
   show (if inBox b wi ((i + 1) * wi + j) then countB b wi ((i + 1) * wi + j) + 1 else countB b wi ((i + 1) * wi + j)) = _
   rw [h]
   have hib : inBox b wi ((i + 1) * wi + j) ↔ (b.f0 ≤ ((i + 1 : Nat) : Int) ∧ ((i + 1 : Nat) : Int) < b.f0 + b.f2 ∧ b.f1 ≤ (j : Int) ∧ (j : Int) < b.f1 + b.f3) := by unfold inBox; rw [d1, d2]
   by_cases hr : b.f0 ≤ ((i + 1 : Nat) : Int) ∧ ((i + 1 : Nat) : Int) < b.f0 + b.f2
   ·rw [if_pos hr, if_pos hr]
    have : clamp (((j + 1 : Nat) : Int) - b.f1) b.f3 = clamp ((j : Int) - b.f1) b.f3 + (if b.f1 ≤ (j : Int) ∧ (j : Int) < b.f1 + b.f3 then 1 else 0) := by
     unfold clamp; split <;> omega
    rw [this]
    by_cases hc : b.f1 ≤ (j : Int) ∧ (j : Int) < b.f1 + b.f3
    ·rw [if_pos (hib.2 ⟨hr.1, hr.2, hc.1, hc.2⟩), if_pos hc]; omega
    ·rw [if_neg (fun h => hc ⟨(hib.1 h).2.2.1, (hib.1 h).2.2.2⟩), if_neg hc]; omega
   ·rw [if_neg hr, if_neg hr, if_neg (fun h => hr ⟨(hib.1 h).1, (hib.1 h).2.1⟩)]
theorem countB_all (b : Rc) (hi wi : Nat) (hb : boundR b hi wi) : countB b wi (hi * wi) = areaR b := by
 have := countB_at b hi wi hb hi 0 (Nat.le_refl _) (by omega) (Or.inr rfl)
 obtain ⟨b0, b1, b2, b3, b4, b5⟩ := hb
 rw [Nat.add_zero] at this
 have h2 : clamp (((0 : Nat) : Int) - b.f1) b.f3 = 0 := by unfold clamp; omega
 have h3 : clamp ((hi : Int) - b.f0) b.f2 = b.f2 := by unfold clamp; omega
 rw [this, h2, h3]
 unfold areaR
 split <;> omega
theorem maxN_ge (rows : List (List Int)) (wi : Nat) : ∀ n m, m < n → cellN rows wi m + 1 ≤ maxN rows wi n
 | 0, m, h => by omega
 | n + 1, m, h => by
  simp only [maxN]
  rcases Nat.lt_or_eq_of_le (Nat.lt_succ_iff.1 h) with h1 | h1
  ·have := maxN_ge rows wi n m h1; omega
  ·subst h1; omega
theorem maxN_ub (rows : List (List Int)) (wi : Nat) (M : Int) (hM : 0 ≤ M) : ∀ n, (∀ m, m < n → cellN rows wi m + 1 ≤ M) → maxN rows wi n ≤ M
 | 0, _ => hM
 | n + 1, h => by
  have := maxN_ub rows wi M hM n (fun m hm => h m (by omega))
  have := h n (by omega)
  simp only [maxN]
  omega
theorem roomN_ge (rows : List (List Int)) (wi : Nat) (x t l : Int) : ∀ n m, m < n → cellN rows wi m = x → (roomN rows wi x t l n).1 ≤ (m / wi : Nat) ∧ (roomN rows wi x t l n).2.1 ≤ (m % wi : Nat) ∧ ((m / wi : Nat) : Int) ≤ (roomN rows wi x t l n).2.2.1 ∧ ((m % wi : Nat) : Int) ≤ (roomN rows wi x t l n).2.2.2
 | 0, m, h, _ => by omega
 | n + 1, m, h, hx => by
  simp only [roomN]
  rcases Nat.lt_or_eq_of_le (Nat.lt_succ_iff.1 h) with h1 | h1
  ·have ih := roomN_ge rows wi x t l n m h1 hx
   generalize roomN rows wi x t l n = q at *
   split
   ·dsimp only; omega
   ·exact ih
  ·subst h1
   rw [if_pos hx]
   dsimp only
   omega
theorem roomN_at (rows : List (List Int)) (wi : Nat) (x t l : Int) : ∀ n,
  ((roomN rows wi x t l n).1 = t ∨ ∃ m, m < n ∧ cellN rows wi m = x ∧ (roomN rows wi x t l n).1 = (m / wi : Nat)) ∧
  ((roomN rows wi x t l n).2.1 = l ∨ ∃ m, m < n ∧ cellN rows wi m = x ∧ (roomN rows wi x t l n).2.1 = (m % wi : Nat)) ∧
  ((roomN rows wi x t l n).2.2.1 = -1 ∨ ∃ m, m < n ∧ cellN rows wi m = x ∧ (roomN rows wi x t l n).2.2.1 = (m / wi : Nat)) ∧
  ((roomN rows wi x t l n).2.2.2 = -1 ∨ ∃ m, m < n ∧ cellN rows wi m = x ∧ (roomN rows wi x t l n).2.2.2 = (m % wi : Nat))
 | 0 => ⟨.inl rfl, .inl rfl, .inl rfl, .inl rfl⟩
 | n + 1 => by
  obtain ⟨h1, h2, h3, h4⟩ := roomN_at rows wi x t l n
  simp only [roomN]
  generalize roomN rows wi x t l n = q at *
  by_cases hx : cellN rows wi n = x
  ·rw [if_pos hx]
   dsimp only
   refine ⟨?_, ?_, ?_, ?_⟩
   ·by_cases hc : q.1 ≤ ((n / wi : Nat) : Int)
    ·rw [Int.min_eq_left hc]
     rcases h1 with h | ⟨m, a, b, c⟩
     ·exact .inl h
     ·exact .inr ⟨m, by omega, b, c⟩
    ·exact .inr ⟨n, by omega, hx, Int.min_eq_right (by omega)⟩
   ·by_cases hc : q.2.1 ≤ ((n % wi : Nat) : Int)
    ·rw [Int.min_eq_left hc]
     rcases h2 with h | ⟨m, a, b, c⟩
     ·exact .inl h
     ·exact .inr ⟨m, by omega, b, c⟩
    ·exact .inr ⟨n, by omega, hx, Int.min_eq_right (by omega)⟩
   ·by_cases hc : ((n / wi : Nat) : Int) ≤ q.2.2.1
    ·rw [Int.max_eq_left hc]
     rcases h3 with h | ⟨m, a, b, c⟩
     ·exact .inl h
     ·exact .inr ⟨m, by omega, b, c⟩
    ·exact .inr ⟨n, by omega, hx, Int.max_eq_right (by omega)⟩
   ·by_cases hc : ((n % wi : Nat) : Int) ≤ q.2.2.2
    ·rw [Int.max_eq_left hc]
     rcases h4 with h | ⟨m, a, b, c⟩
     ·exact .inl h
     ·exact .inr ⟨m, by omega, b, c⟩
    ·exact .inr ⟨n, by omega, hx, Int.max_eq_right (by omega)⟩
  ·rw [if_neg hx]
   refine ⟨?_, ?_, ?_, ?_⟩
   ·rcases h1 with h | ⟨m, a, b, c⟩
    ·exact .inl h
    ·exact .inr ⟨m, by omega, b, c⟩
   ·rcases h2 with h | ⟨m, a, b, c⟩
    ·exact .inl h
    ·exact .inr ⟨m, by omega, b, c⟩
   ·rcases h3 with h | ⟨m, a, b, c⟩
    ·exact .inl h
    ·exact .inr ⟨m, by omega, b, c⟩
   ·rcases h4 with h | ⟨m, a, b, c⟩
    ·exact .inl h
    ·exact .inr ⟨m, by omega, b, c⟩
theorem room_box {rows rows' : List (List Int)} {hi wi : Nat} {x y : Int} {b : Rc} (he : ∀ m, m < hi * wi → (cellN rows wi m = x ↔ valAt rows' (m / wi) (m % wi) = y)) (hb : BoxN rows' wi (hi * wi) y b) (hbd : boundR b hi wi) (t l : Int) (ht : (hi : Int) ≤ t) (hl : (wi : Int) ≤ l) :
  roomOut (roomN rows wi x t l (hi * wi)) = (b.f0, b.f1, b.f2, b.f3) := by
 obtain ⟨b0, b1, b2, b3, b4, b5⟩ := hbd
 obtain ⟨m1, n1, v1, e1⟩ := hb.top
 obtain ⟨m2, n2, v2, e2⟩ := hb.low
 obtain ⟨m3, n3, v3, e3⟩ := hb.left
 obtain ⟨m4, n4, v4, e4⟩ := hb.right
 have g1 := roomN_ge rows wi x t l (hi * wi) m1 n1 ((he m1 n1).2 v1)
 have g2 := roomN_ge rows wi x t l (hi * wi) m2 n2 ((he m2 n2).2 v2)
 have g3 := roomN_ge rows wi x t l (hi * wi) m3 n3 ((he m3 n3).2 v3)
 have g4 := roomN_ge rows wi x t l (hi * wi) m4 n4 ((he m4 n4).2 v4)
 obtain ⟨a1, a2, a3, a4⟩ := roomN_at rows wi x t l (hi * wi)
 have key : ∀ m, m < hi * wi → cellN rows wi m = x → b.f0 ≤ (m / wi : Nat) ∧ ((m / wi : Nat) : Int) < b.f0 + b.f2 ∧ b.f1 ≤ (m % wi : Nat) ∧ ((m % wi : Nat) : Int) < b.f1 + b.f3 := fun m hm hx => hb.ins m hm ((he m hm).1 hx)
 generalize roomN rows wi x t l (hi * wi) = q at *
 have r1 : q.1 = b.f0 := by
  rcases a1 with h | ⟨m, n, v, e⟩
  ·omega
  ·have := key m n v; omega
 have r2 : q.2.1 = b.f1 := by
  rcases a2 with h | ⟨m, n, v, e⟩
  ·omega
  ·have := key m n v; omega
 have r3 : q.2.2.1 = b.f0 + b.f2 - 1 := by
  rcases a3 with h | ⟨m, n, v, e⟩
  ·omega
  ·have := key m n v; omega
 have r4 : q.2.2.2 = b.f1 + b.f3 - 1 := by
  rcases a4 with h | ⟨m, n, v, e⟩
  ·omega
  ·have := key m n v; omega
 unfold roomOut
 rw [r1, r2, r3, r4]
 congr 3
 ·omega
 ·omega
end Go.Proofs.Ytjaolkfjpnpglaa.Hd
namespace Go.Proofs.Ytjaolkfjpnpglaa.Hd
open Go.RowKit Go.Proofs.YtjaolkfjpnpglaaW.PrintWords Go.Proofs.YtjaolkfjpnpglaaW.PrintLast Go.Proofs.YtjaolkfjpnpglaaW.PrintMore Go.Proofs.Ytjaolkfjpnpglaa.PB
set_option linter.unusedVariables false
set_option linter.unusedSimpArgs false
theorem letterOf_toNat {x : Int} (h0 : 0 ≤ x) (h1 : x ≤ 100) : ((letterOf x).toNat : Int) = 97 + x := by
 unfold letterOf
 rw [UInt8.toNat_ofNat']
 omega
theorem bytesOf_rowText (row : List Int) (h : ∀ x ∈ row, 0 ≤ x ∧ x ≤ 100) : bytesOf (rowText row) = row.map (fun x => 97 + x) := by
 unfold bytesOf rowText rowBytes
 show ((row.map letterOf).toArray.toList).map _ = _
 rw [List.map_map]
 apply List.map_congr_left
 intro x hx
 exact letterOf_toNat (h x hx).1 (h x hx).2
theorem numsOf_textOf (cs : List (List Int)) (h : ∀ r ∈ cs, ∀ x ∈ r, 0 ≤ x ∧ x ≤ 100) : numsOf (textOf cs) = cs.map (fun r => r.map (fun x => 97 + x)) := by
 unfold numsOf textOf
 rw [List.map_map]
 apply List.map_congr_left
 intro r hr
 exact bytesOf_rowText r (h r hr)
theorem canon_val {rows : List (List Int)} (h : shapeOk rows = true) : ∀ r ∈ canon rows, ∀ x ∈ r, 0 ≤ x ∧ x ≤ 100 := by
 have hL := shape_order h
 intro r hr x hx
 unfold canon canonL at hr
 simp at hr
 obtain ⟨a, _, rfl⟩ := hr
 simp at hx
 obtain ⟨y, _, rfl⟩ := hx
 have := List.idxOf_le_length (a := y) (l := ordAll rows)
 omega
structure Canon (p : List ByteArray) : Prop where
 grid : gridOk p = true
 names : namesOf p = p
theorem Canon.shape {p : List ByteArray} (h : Canon p) : shapeOk (numsOf p) = true := by
 have := h.grid
 unfold gridOk at this
 rw [Bool.and_eq_true] at this
 exact this.1
theorem numsOf_length (p : List ByteArray) : (numsOf p).length = p.length := by simp [numsOf]
theorem Canon.cell {p : List ByteArray} (h : Canon p) : ∀ m, m < p.length * wideOf (numsOf p) → cellN (numsOf p) (wideOf (numsOf p)) m = ((ordAll (numsOf p)).idxOf (valAt (numsOf p) (m / wideOf (numsOf p)) (m % wideOf (numsOf p))) : Int) := by
 intro m hm
 have hR := shape_rect h.shape
 have h1 : numsOf p = (canon (numsOf p)).map (fun r => r.map (fun x => 97 + x)) := by
  have := numsOf_textOf (canon (numsOf p)) (canon_val h.shape)
  rw [show textOf (canon (numsOf p)) = p from h.names] at this
  exact this
 have hwi : 0 < wideOf (numsOf p) := by
  rcases Nat.eq_zero_or_pos (wideOf (numsOf p)) with h0 | h0
  ·rw [h0] at hm; simp at hm
  ·exact h0
 have hr : m / wideOf (numsOf p) < (numsOf p).length := by rw [numsOf_length, Nat.div_lt_iff_lt_mul hwi]; exact hm
 have hc := Nat.mod_lt m hwi
 have hcr : Rect (wideOf (numsOf p)) (canon (numsOf p)) := by rw [canon_grid hR]; exact gridOf_rect _ _ _
 have h2 := rect_map hcr (fun x => 97 + x)
 rw [← h1] at h2
 have hcl : (canon (numsOf p)).length = (numsOf p).length := by simp [canon, canonL]
 unfold cellN
 have h3 := congrArg (fun R => valAt R (m / wideOf (numsOf p)) (m % wideOf (numsOf p))) h2
 have h4 := congrArg (fun R => valAt R (m / wideOf (numsOf p)) (m % wideOf (numsOf p))) (canon_grid hR)
 try dsimp only at h3 h4
 rw [valAt_gridOf (by rw [hcl]; exact hr) hc] at h3
 rw [valAt_gridOf hr hc] at h4
 omega
theorem rooms_len {rows : List (List Int)} (h : shapeOk rows = true) : (ordAll rows).length = (roomsOf rows).length := by
 rw [← stAt_all (shape_rect h)]
 exact (stAt_len rows (wideOf rows) _).1
theorem rooms_box {rows : List (List Int)} (h : shapeOk rows = true) (i : Nat) (hi : i < (roomsOf rows).length) : ∃ x, (ordAll rows)[i]? = some x ∧ BoxN rows (wideOf rows) (rows.length * wideOf rows) x ((roomsOf rows).getD i zeroR) ∧ boundR ((roomsOf rows).getD i zeroR) rows.length (wideOf rows) := by
 have hl := rooms_len h
 obtain ⟨x, hx⟩ : ∃ x, (ordAll rows)[i]? = some x := ⟨_, List.getElem?_eq_getElem (by omega)⟩
 have hb : (roomsOf rows)[i]? = some ((roomsOf rows).getD i zeroR) := by
  rw [List.getD_eq_getElem?_getD, List.getElem?_eq_getElem hi]
  rfl
 have hx2 := hx
 rw [← stAt_all (shape_rect h)] at hx2
 exact ⟨x, hx, stAt_box rows (wideOf rows) _ i x _ hx2 hb, (stAt_inv rows rows.length (wideOf rows) _ (Nat.le_refl _)).2.2.2 _ (List.mem_of_getElem? hb)⟩
theorem idx_iff {L : List Int} (hn : L.Nodup) {i : Nat} {x v : Int} (hx : L[i]? = some x) (hv : v ∈ L) : ((L.idxOf v : Int) = (i : Int) ↔ v = x) := by
 have hi := (List.getElem?_eq_some_iff.1 hx).1
 have hk := List.idxOf_lt_length_of_mem hv
 have e : L[L.idxOf v] = v := List.getElem_idxOf hk
 rw [List.getElem?_eq_getElem hi] at hx
 have hx := Option.some.inj hx
 constructor
 ·intro h
  have h : L.idxOf v = i := by omega
  subst h
  rw [← e, hx]
 ·rintro rfl
  have := nodup_inj hn hk hi (e.trans hx.symm)
  omega
theorem ordAll_nodup (rows : List (List Int)) : (ordAll rows).Nodup := ordL_nodup _ _ List.nodup_nil
theorem cell_mem {rows : List (List Int)} (h : shapeOk rows = true) (m : Nat) (hm : m < rows.length * wideOf rows) : valAt rows (m / wideOf rows) (m % wideOf rows) ∈ ordAll rows := by
 have := flatten_get rows (shape_rect h) m hm
 exact ordL_mem _ _ _ (List.mem_of_getElem? this)
theorem mem_cell {rows : List (List Int)} (h : shapeOk rows = true) (x : Int) (hx : x ∈ ordAll rows) : ∃ m, m < rows.length * wideOf rows ∧ valAt rows (m / wideOf rows) (m % wideOf rows) = x := by
 rcases ordL_sub _ _ x hx with h1 | h1
 ·cases h1
 ·obtain ⟨m, hm, e⟩ := List.mem_iff_getElem.1 h1
  have hl := flatten_length_le rows _ (shape_rect h)
  refine ⟨m, by omega, ?_⟩
  have := flatten_get rows (shape_rect h) m (by omega)
  rw [List.getElem?_eq_getElem hm, e] at this
  exact (Option.some.inj this).symm
theorem Canon.max {p : List ByteArray} (h : Canon p) : maxN (numsOf p) (wideOf (numsOf p)) (p.length * wideOf (numsOf p)) = (roomsOf (numsOf p)).length := by
 have hs := h.shape
 have hl := rooms_len hs
 have hc := h.cell
 obtain ⟨s1, s2, s3, s4, s5⟩ := (shapeOk_iff _).1 hs
 rw [numsOf_length] at s1 s2
 have hpos : 0 < p.length * wideOf (numsOf p) := Nat.mul_pos (by omega) (by omega)
 have hub := maxN_ub (numsOf p) (wideOf (numsOf p)) ((roomsOf (numsOf p)).length : Int) (by omega) (p.length * wideOf (numsOf p)) (fun m hm => by
  rw [hc m hm]
  have := List.idxOf_lt_length_of_mem (cell_mem hs m (by rw [numsOf_length]; exact hm))
  omega)
 have h0 := List.idxOf_lt_length_of_mem (cell_mem hs 0 (by rw [numsOf_length]; exact hpos))
 obtain ⟨y, hy⟩ : ∃ y, (ordAll (numsOf p))[(ordAll (numsOf p)).length - 1]? = some y := ⟨_, List.getElem?_eq_getElem (by omega)⟩
 obtain ⟨m, hm, hv⟩ := mem_cell hs y (List.mem_of_getElem? hy)
 rw [numsOf_length] at hm
 have hge := maxN_ge (numsOf p) (wideOf (numsOf p)) _ m hm
 have hi := (idx_iff (ordAll_nodup (numsOf p)) hy (List.mem_of_getElem? hy)).2 rfl
 rw [hc m hm, hv] at hge
 omega
theorem Canon.room {p : List ByteArray} (h : Canon p) (i : Nat) (hi : i < (roomsOf (numsOf p)).length) : let b := (roomsOf (numsOf p)).getD i zeroR
  roomOut (roomN (numsOf p) (wideOf (numsOf p)) (i : Int) (p.length : Int) (wideOf (numsOf p) : Int) (p.length * wideOf (numsOf p))) = (b.f0, b.f1, b.f2, b.f3) ∧ countN (numsOf p) (wideOf (numsOf p)) (i : Int) (p.length * wideOf (numsOf p)) ≤ areaR b ∧ boundR b p.length (wideOf (numsOf p)) := by
 intro b
 have hs := h.shape
 obtain ⟨x, hx, hb, hbd⟩ := rooms_box hs i hi
 rw [numsOf_length] at hb hbd
 have hiff : ∀ m, m < p.length * wideOf (numsOf p) → (cellN (numsOf p) (wideOf (numsOf p)) m = (i : Int) ↔ valAt (numsOf p) (m / wideOf (numsOf p)) (m % wideOf (numsOf p)) = x) := fun m hm => by
  rw [h.cell m hm]
  exact idx_iff (ordAll_nodup _) hx (cell_mem hs m (by rw [numsOf_length]; exact hm))
 refine ⟨room_box hiff hb hbd _ _ (Int.le_refl _) (Int.le_refl _), ?_, hbd⟩
 rw [← countB_all b p.length (wideOf (numsOf p)) hbd]
 exact countN_le_B _ _ _ _ _ (fun m hm hv => hb.ins m hm ((hiff m hm).1 hv))
theorem Canon.sum {p : List ByteArray} (h : Canon p) : sumI (fun x => countN (numsOf p) (wideOf (numsOf p)) (x : Int) (p.length * wideOf (numsOf p))) (roomsOf (numsOf p)).length = ((p.length * wideOf (numsOf p) : Nat) : Int) := by
 refine count_sum _ _ _ _ (fun m hm => ?_)
 rw [h.cell m hm]
 have := List.idxOf_lt_length_of_mem (cell_mem h.shape m (by rw [numsOf_length]; exact hm))
 have := rooms_len h.shape
 omega
theorem sumArea_sumI (rs : List Rc) : sumArea rs = sumI (fun x => areaR (rs.getD x zeroR)) rs.length := by
 have : ∀ n, n ≤ rs.length → sumArea (rs.take n) = sumI (fun x => areaR (rs.getD x zeroR)) n := by
  intro n
  induction n with
  | zero => intro _; simp [sumArea, sumI]
  | succ n ih => intro hn; rw [sum_take rs n (by omega), ih (by omega)]; rfl
 have h := this rs.length (Nat.le_refl _)
 rwa [List.take_length] at h
def fullB (p : List ByteArray) (x : Nat) : Bool := decide (countN (numsOf p) (wideOf (numsOf p)) (x : Int) (p.length * wideOf (numsOf p)) = areaR ((roomsOf (numsOf p)).getD x zeroR))
theorem full_iff {p : List ByteArray} (h : Canon p) : (List.range (roomsOf (numsOf p)).length).all (fullB p) = decide (sumArea (roomsOf (numsOf p)) = (p.length : Int) * (wideOf (numsOf p) : Int)) := by
 rw [Bool.eq_iff_iff, List.all_eq_true, decide_eq_true_eq, sumArea_sumI, ← Int.natCast_mul, ← h.sum]
 constructor
 ·intro hall
  refine (sumI_congr _ (fun x hx => ?_)).symm
  have := hall x (List.mem_range.2 hx)
  unfold fullB at this
  exact of_decide_eq_true this
 ·intro he x hx
  have := sumI_eq _ (fun x hx => (h.room x hx).2.1) he.symm x (List.mem_range.1 hx)
  unfold fullB
  exact decide_eq_true this
theorem planIn_l0 {p : List ByteArray} (h : Canon p) : ∀ m r, r + m = (roomsOf (numsOf p)).length → Evs (fun k => spec_PlanIn.l0 k p (r : Int)) (((List.range (roomsOf (numsOf p)).length).drop r).all (fullB p)) := by
 have hsm := gridOk_small h.grid
 obtain ⟨s1, s2, s3, s4, s5⟩ := (shapeOk_iff _).1 h.shape
 rw [numsOf_length] at s1 s2
 have hR := l1Rooms_ev p _ hsm
 rw [h.max] at hR
 have hrl : (roomsOf (numsOf p)).length ≤ 36 := by have := rooms_len h.shape; have := shape_order h.shape; omega
 intro m
 induction m with
 | zero =>
  intro r hr
  rw [List.drop_eq_nil_of_le (by simp; omega)]
  refine Evs.step (h := fun k => (spec_l1Rooms.f k p).bind fun t => if (r : Int) < t then ((spec_l1Room.f k p (r : Int)).bind fun bt161 => ((spec_l1Cells.f k p (r : Int)).bind fun t165 => (if t165 = (wrap64 (bt161.2.2.1 * bt161.2.2.2)) then (spec_PlanIn.l0 k p (wrap64 ((r : Int) + 1))) else (some false)))) else some true) (fun k => ?_) (Evs.bind hR ?_)
  ·conv => lhs; unfold spec_PlanIn.l0
  ·refine Evs.congr (h := fun _ => some true) (fun k => ?_) (Evs.const _)
   try dsimp only
   rw [if_neg (by omega)]
 | succ m ih =>
  intro r hr
  obtain ⟨q1, q2, q3⟩ := h.room r (by omega)
  have hroom := l1Room_ev p _ hsm s1 (r : Int)
  have hcnt := l1Cells_ev p _ hsm (r : Int)
  rw [q1] at hroom
  have hab := area_bound q3 s2 s4
  have hdrop : (List.range (roomsOf (numsOf p)).length).drop r = r :: (List.range (roomsOf (numsOf p)).length).drop (r + 1) := by
   rw [List.drop_eq_getElem_cons (by simp; omega)]
   simp
  rw [hdrop, List.all_cons]
  refine Evs.step (h := fun k => (spec_l1Rooms.f k p).bind fun t => if (r : Int) < t then ((spec_l1Room.f k p (r : Int)).bind fun bt161 => ((spec_l1Cells.f k p (r : Int)).bind fun t165 => (if t165 = (wrap64 (bt161.2.2.1 * bt161.2.2.2)) then (spec_PlanIn.l0 k p (wrap64 ((r : Int) + 1))) else (some false)))) else some true) (fun k => ?_) (Evs.bind hR ?_)
  ·conv => lhs; unfold spec_PlanIn.l0
  ·refine Evs.congr (h := fun k => ((spec_l1Room.f k p (r : Int)).bind fun bt161 => ((spec_l1Cells.f k p (r : Int)).bind fun t165 => (if t165 = (wrap64 (bt161.2.2.1 * bt161.2.2.2)) then (spec_PlanIn.l0 k p (wrap64 ((r : Int) + 1))) else (some false))))) (fun k => ?_) ?_
   ·try dsimp only
    rw [if_pos (by omega)]
   ·refine Evs.bind hroom (Evs.bind hcnt ?_)
    try dsimp only
    have hw : wrap64 (((roomsOf (numsOf p)).getD r zeroR).f2 * ((roomsOf (numsOf p)).getD r zeroR).f3) = areaR ((roomsOf (numsOf p)).getD r zeroR) := by
     have h3 := hab
     unfold areaR at h3 ⊢
     exact wrap64_small (by omega) (by omega)
    rw [hw]
    have hnx := ih (r + 1) (by omega)
    by_cases hf : countN (numsOf p) (wideOf (numsOf p)) (r : Int) (p.length * wideOf (numsOf p)) = areaR ((roomsOf (numsOf p)).getD r zeroR)
    ·have : fullB p r = true := decide_eq_true hf
     rw [this, Bool.true_and]
     refine Evs.congr (fun k => ?_) hnx
     rw [if_pos hf, wrap_succ (by omega)]
    ·have : fullB p r = false := decide_eq_false hf
     rw [this, Bool.false_and]
     refine Evs.congr (h := fun _ => some false) (fun k => ?_) (Evs.const _)
     rw [if_neg hf]
theorem planIn_j0 (k : Nat) (p : List ByteArray) (b : Bool) : spec_PlanIn.j0 (k + 1) p b = if b = true then some false else spec_PlanIn.l0 k p 0 := by simp only [spec_PlanIn.j0]
def planB (p : List ByteArray) : Bool := (floorF p).isSome
theorem settled_shape {rows : List (List Int)} (h : shapeOk rows = true) : settledF rows = if (roomsOf rows).length ≤ 9 then some (canon rows, roomsOf rows, decide (sumArea (roomsOf rows) = (rows.length : Int) * (wideOf rows : Int))) else none := by
 unfold settledF
 rw [if_pos h, cellsOf_canon h]
theorem floorF_grid {p : List ByteArray} (h : gridOk p = true) : floorF p = if (roomsOf (numsOf p)).length ≤ 9 ∧ sumArea (roomsOf (numsOf p)) = (p.length : Int) * (wideOf (numsOf p) : Int) ∧ namesOf p = p then some (canon (numsOf p), roomsOf (numsOf p)) else none := by
 unfold gridOk at h
 rw [Bool.and_eq_true] at h
 unfold floorF readF
 rw [if_pos h.2, settled_shape h.1, numsOf_length]
 by_cases h9 : (roomsOf (numsOf p)).length ≤ 9
 ·rw [if_pos h9]
  simp only [Option.bind_some, decide_eq_true_eq]
  rw [show textOf (canon (numsOf p)) = namesOf p from rfl]
  by_cases hs : sumArea (roomsOf (numsOf p)) = (p.length : Int) * (wideOf (numsOf p) : Int) ∧ namesOf p = p
  ·rw [if_pos hs, if_pos ⟨h9, hs⟩]
  ·rw [if_neg hs, if_neg (fun hh => hs hh.2)]
 ·rw [if_neg h9, if_neg (fun hh => h9 hh.1)]
  rfl
theorem floorF_nogrid {p : List ByteArray} (h : gridOk p = false) : floorF p = none := by
 unfold floorF readF
 unfold gridOk at h
 by_cases ha : p.all okText = true
 ·rw [ha, Bool.and_true] at h
  rw [if_pos ha]
  unfold settledF
  rw [if_neg (by rw [h]; simp)]
  rfl
 ·rw [if_neg ha]
  rfl
theorem PlanIn_ev (p : List ByteArray) (hp : smallP p) : Evs (fun k => spec_PlanIn.f k p) (planB p) := by
 have hg := l1Grid_ev p hp
 cases hG : gridOk p
 ·rw [hG] at hg
  have : planB p = false := by unfold planB; rw [floorF_nogrid hG]; rfl
  rw [this]
  refine Evs.bind hg ?_
  refine Evs.congr (h := fun k => spec_PlanIn.j0 k p true) (fun k => ?_) (Evs.step (h := fun _ => some false) (fun k => ?_) (Evs.const _))
  ·try dsimp only
   rw [if_neg (by simp)]
  ·rw [planIn_j0]
   rw [if_pos rfl]
 ·rw [hG] at hg
  have hs : shapeOk (numsOf p) = true := by
   unfold gridOk at hG
   rw [Bool.and_eq_true] at hG
   exact hG.1
  have hn := l1Names_ev p hp (by have := shape_order hs; omega)
  have hsame := l1Same_ev (namesOf p) p (by simp [namesOf, textOf, canon, canonL, numsOf]; have := hp.1; omega)
  refine Evs.bind hg ?_
  refine Evs.congr (h := fun k => (spec_l1Names.f k p).bind fun t155 => ((spec_l1Same.f k t155 p).bind fun t158 => (if t158 = true then ((spec_l1Rooms.f k p).bind fun t159 => (spec_PlanIn.j0 k p (decide (t159 > 9)))) else (spec_PlanIn.j0 k p true)))) (fun k => ?_) (Evs.bind hn (Evs.bind hsame ?_))
  ·try dsimp only
   rw [if_pos rfl]
  ·unfold planB
   rw [floorF_grid hG]
   by_cases hN : namesOf p = p
   ·have hC : Canon p := ⟨hG, hN⟩
    have hR := l1Rooms_ev p _ (gridOk_small hG)
    rw [hC.max] at hR
    refine Evs.congr (h := fun k => (spec_l1Rooms.f k p).bind fun t159 => (spec_PlanIn.j0 k p (decide (t159 > 9)))) (fun k => ?_) (Evs.bind hR ?_)
    ·try dsimp only
     rw [decide_eq_true hN, if_pos rfl]
    ·by_cases h9 : (roomsOf (numsOf p)).length ≤ 9
     ·refine Evs.step (h := fun k => spec_PlanIn.l0 k p ((0 : Nat) : Int)) (fun k => ?_) ?_
      ·try dsimp only
       rw [planIn_j0]
       rw [decide_eq_false (by omega), if_neg (by simp)]
       rfl
      ·have := planIn_l0 hC (roomsOf (numsOf p)).length 0 (by omega)
       rw [List.drop_zero, full_iff hC] at this
       by_cases hsum : sumArea (roomsOf (numsOf p)) = (p.length : Int) * (wideOf (numsOf p) : Int)
       ·rw [decide_eq_true hsum] at this
        rw [if_pos ⟨h9, hsum, hN⟩]
        exact this
       ·rw [decide_eq_false hsum] at this
        rw [if_neg (fun hh => hsum hh.2.1)]
        exact this
     ·rw [if_neg (fun hh => h9 hh.1)]
      refine Evs.step (h := fun _ => some false) (fun k => ?_) (Evs.const _)
      try dsimp only
      rw [planIn_j0]
      rw [decide_eq_true (by omega), if_pos rfl]
   ·rw [if_neg (fun hh => hN hh.2.2)]
    refine Evs.congr (h := fun k => spec_PlanIn.j0 k p true) (fun k => ?_) (Evs.step (h := fun _ => some false) (fun k => ?_) (Evs.const _))
    ·try dsimp only
     rw [decide_eq_false hN, if_neg (by simp)]
    ·rw [planIn_j0]
     rw [if_pos rfl]
end Go.Proofs.Ytjaolkfjpnpglaa.Hd
namespace Go.Proofs.Ytjaolkfjpnpglaa.Hd
open Go.RowKit Go.Proofs.YtjaolkfjpnpglaaW.PrintWords Go.Proofs.YtjaolkfjpnpglaaW.PrintLast Go.Proofs.YtjaolkfjpnpglaaW.PrintMore Go.Proofs.Ytjaolkfjpnpglaa.PB
set_option linter.unusedVariables false
set_option linter.unusedSimpArgs false
def mapG (f : Int → Int) (rows : List (List Int)) : List (List Int) := rows.map fun r => r.map f
def InjOn (f : Int → Int) (S : Int → Prop) : Prop := ∀ a b, S a → S b → f a = f b → a = b
theorem idxOf_map (f : Int → Int) (S : Int → Prop) (hf : InjOn f S) (x : Int) (hx : S x) : ∀ L : List Int, (∀ y ∈ L, S y) → (L.map f).idxOf (f x) = L.idxOf x
 | [], _ => rfl
 | y :: r, h => by
  rw [List.map_cons, List.idxOf_cons, List.idxOf_cons]
  by_cases he : y = x
  ·subst he; simp
  ·have : f y ≠ f x := fun e => he (hf y x (h y List.mem_cons_self) hx e)
   have h1 : (f y == f x) = false := by simp [this]
   have h2 : (y == x) = false := by simp [he]
   rw [h1, h2, idxOf_map f S hf x hx r (fun z hz => h z (List.mem_cons_of_mem _ hz))]
theorem pushL_map (f : Int → Int) (S : Int → Prop) (hf : InjOn f S) (x : Int) (hx : S x) (o : List Int) (ho : ∀ y ∈ o, S y) : pushL (o.map f) (f x) = (pushL o x).map f := by
 have hiff : f x ∈ o.map f ↔ x ∈ o := by
  rw [List.mem_map]
  constructor
  ·rintro ⟨y, hy, e⟩
   rw [← hf y x (ho y hy) hx e]
   exact hy
  ·exact fun h => ⟨x, h, rfl⟩
 unfold pushL
 by_cases h : x ∈ o
 ·rw [if_pos h, if_pos (hiff.2 h)]
 ·rw [if_neg h, if_neg (fun hh => h (hiff.1 hh))]
  simp
theorem pushL_all {S : Int → Prop} {x : Int} (hx : S x) {o : List Int} (ho : ∀ y ∈ o, S y) : ∀ y ∈ pushL o x, S y := by
 intro y hy
 unfold pushL at hy
 split at hy
 ·exact ho y hy
 ·rcases List.mem_append.1 hy with h | h
  ·exact ho y h
  ·simp at h; subst h; exact hx
theorem ordL_map (f : Int → Int) (S : Int → Prop) (hf : InjOn f S) : ∀ (xs o : List Int), (∀ y ∈ xs, S y) → (∀ y ∈ o, S y) → ordL (xs.map f) (o.map f) = (ordL xs o).map f
 | [], o, _, _ => rfl
 | x :: r, o, h, ho => by
  show ordL (r.map f) (pushL (o.map f) (f x)) = (ordL r (pushL o x)).map f
  have hx := h x List.mem_cons_self
  rw [pushL_map f S hf x hx o ho]
  exact ordL_map f S hf r (pushL o x) (fun z hz => h z (List.mem_cons_of_mem _ hz)) (pushL_all hx ho)
theorem mapG_length (f : Int → Int) (rows : List (List Int)) : (mapG f rows).length = rows.length := by simp [mapG]
theorem mapG_flatten (f : Int → Int) (rows : List (List Int)) : (mapG f rows).flatten = rows.flatten.map f := by
 unfold mapG
 rw [List.map_flatten]
theorem mapG_wide (f : Int → Int) (rows : List (List Int)) : wideOf (mapG f rows) = wideOf rows := by
 unfold wideOf mapG
 cases rows with
 | nil => rfl
 | cons a r => simp
theorem mapG_shape (f : Int → Int) (rows : List (List Int)) : shapeOk (mapG f rows) = shapeOk rows := by
 rw [Bool.eq_iff_iff, shapeOk_iff, shapeOk_iff, mapG_length, mapG_wide]
 have : (∀ r ∈ mapG f rows, r.length = wideOf rows) ↔ (∀ r ∈ rows, r.length = wideOf rows) := by
  constructor
  ·intro h r hr
   have := h (r.map f) (List.mem_map.2 ⟨r, hr, rfl⟩)
   simpa using this
  ·intro h r hr
   obtain ⟨a, ha, rfl⟩ := List.mem_map.1 hr
   rw [List.length_map]
   exact h a ha
 rw [this]
def Vals (rows : List (List Int)) (x : Int) : Prop := x ∈ rows.flatten
theorem ordAll_map {f : Int → Int} {rows : List (List Int)} (hf : InjOn f (Vals rows)) : ordAll (mapG f rows) = (ordAll rows).map f := by
 unfold ordAll
 rw [mapG_flatten]
 exact ordL_map f (Vals rows) hf rows.flatten [] (fun y hy => hy) (by simp)
theorem ordAll_vals (rows : List (List Int)) : ∀ y ∈ ordAll rows, Vals rows y := by
 intro y hy
 rcases ordL_sub _ _ y hy with h | h
 ·cases h
 ·exact h
theorem canon_map {f : Int → Int} {rows : List (List Int)} (hf : InjOn f (Vals rows)) : canon (mapG f rows) = canon rows := by
 unfold canon canonL
 rw [ordAll_map hf]
 unfold mapG
 rw [List.map_map]
 apply List.map_congr_left
 intro r hr
 show (r.map f).map _ = _
 rw [List.map_map]
 apply List.map_congr_left
 intro x hx
 show (((ordAll rows).map f).idxOf (f x) : Int) = _
 rw [idxOf_map f (Vals rows) hf x (List.mem_flatten.2 ⟨r, hr, hx⟩) _ (ordAll_vals rows)]
theorem valAt_map {rows : List (List Int)} {wi r c : Nat} (h : Rect wi rows) (f : Int → Int) (hr : r < rows.length) (hc : c < wi) : valAt (mapG f rows) r c = f (valAt rows r c) := by
 have := congrArg (fun R => valAt R r c) (rect_map h f)
 unfold mapG
 rw [show valAt (rows.map fun r => r.map f) r c = valAt (gridOf rows.length wi fun r c => f (valAt rows r c)) r c from this, valAt_gridOf hr hc]
theorem val_mem {rows : List (List Int)} {wi r c : Nat} (h : Rect wi rows) (hr : r < rows.length) (hc : c < wi) : Vals rows (valAt rows r c) := by
 obtain ⟨row, h1, h2⟩ := valAt_get h hr hc
 exact List.mem_flatten.2 ⟨row, List.mem_of_getElem? h1, List.mem_of_getElem? h2⟩
theorem stAt_map {f : Int → Int} {rows : List (List Int)} {wi : Nat} (h : Rect wi rows) (hf : InjOn f (Vals rows)) : ∀ n, n ≤ rows.length * wi → stAt (mapG f rows) wi n = ((stAt rows wi n).1.map f, (stAt rows wi n).2)
 | 0, _ => rfl
 | n + 1, hn => by
  have hwi : 0 < wi := by
   rcases Nat.eq_zero_or_pos wi with h0 | h0
   ·subst h0; simp at hn
   ·exact h0
  have hr : n / wi < rows.length := by rw [Nat.div_lt_iff_lt_mul hwi]; omega
  have hc := Nat.mod_lt n hwi
  have hvals : ∀ y ∈ (stAt rows wi n).1, Vals rows y := by
   rw [stAt_ord h n (by omega)]
   intro y hy
   rcases ordL_sub _ _ y hy with h1 | h1
   ·cases h1
   ·exact List.mem_of_mem_take h1
  have hv := val_mem h hr hc
  simp only [stAt]
  rw [stAt_map h hf n (by omega), valAt_map h f hr hc]
  have hiff : f (valAt rows (n / wi) (n % wi)) ∈ (stAt rows wi n).1.map f ↔ valAt rows (n / wi) (n % wi) ∈ (stAt rows wi n).1 := by
   rw [List.mem_map]
   constructor
   ·rintro ⟨y, hy, e⟩
    rw [← hf y _ (hvals y hy) hv e]
    exact hy
   ·exact fun h => ⟨_, h, rfl⟩
  unfold stepS
  by_cases hm : valAt rows (n / wi) (n % wi) ∈ (stAt rows wi n).1
  ·rw [if_pos hm, if_pos (hiff.2 hm)]
   simp only
   rw [idxOf_map f (Vals rows) hf _ hv _ hvals]
  ·rw [if_neg hm, if_neg (fun hh => hm (hiff.1 hh))]
   simp
theorem rooms_map {f : Int → Int} {rows : List (List Int)} (hs : shapeOk rows = true) (hf : InjOn f (Vals rows)) : roomsOf (mapG f rows) = roomsOf rows := by
 unfold roomsOf
 rw [mapG_length, mapG_wide, stAt_map (shape_rect hs) hf _ (Nat.le_refl _)]
theorem settled_map {f : Int → Int} {rows : List (List Int)} (hf : InjOn f (Vals rows)) : settledF (mapG f rows) = settledF rows := by
 by_cases hs : shapeOk rows = true
 ·rw [settled_shape hs, settled_shape (by rw [mapG_shape]; exact hs), rooms_map hs hf, canon_map hf, mapG_length, mapG_wide]
 ·unfold settledF
  rw [if_neg hs, if_neg (by rw [mapG_shape]; exact hs)]
theorem plan_map {f : Int → Int} {rows : List (List Int)} (hf : InjOn f (Vals rows)) : planF (mapG f rows) = planF rows := by
 unfold planF
 rw [settled_map hf]
def doneF (t : List ByteArray) : List ByteArray × Bool := if t.all okText = true then planF (numsOf t) else ([], false)
theorem planF_shape {rows : List (List Int)} (h : shapeOk rows = true) : planF rows = if (roomsOf rows).length ≤ 9 ∧ sumArea (roomsOf rows) = (rows.length : Int) * (wideOf rows : Int) then (textOf (canon rows), true) else ([], false) := by
 unfold planF
 rw [settled_shape h]
 by_cases h9 : (roomsOf rows).length ≤ 9
 ·rw [if_pos h9]
  by_cases hs : sumArea (roomsOf rows) = (rows.length : Int) * (wideOf rows : Int)
  ·rw [decide_eq_true hs, if_pos ⟨h9, hs⟩]
  ·rw [decide_eq_false hs, if_neg (fun hh => hs hh.2)]
 ·rw [if_neg h9, if_neg (fun hh => h9 hh.1)]
theorem planF_noshape {rows : List (List Int)} (h : shapeOk rows = false) : planF rows = ([], false) := by
 unfold planF settledF
 rw [if_neg (by rw [h]; simp)]
theorem names_nums {rows : List (List Int)} (h : shapeOk rows = true) : numsOf (textOf (canon rows)) = mapG (fun x => 97 + ((ordAll rows).idxOf x : Int)) rows := by
 rw [numsOf_textOf _ (canon_val h)]
 unfold canon canonL mapG
 rw [List.map_map]
 apply List.map_congr_left
 intro r hr
 show (r.map _).map _ = _
 rw [List.map_map]
 rfl
theorem names_inj (rows : List (List Int)) : InjOn (fun x => 97 + ((ordAll rows).idxOf x : Int)) (Vals rows) := by
 intro a b ha hb e
 have e2 : (ordAll rows).idxOf a = (ordAll rows).idxOf b := by
  have : (97 : Int) + ((ordAll rows).idxOf a : Int) = 97 + ((ordAll rows).idxOf b : Int) := e
  omega
 have h1 := List.idxOf_lt_length_of_mem (ordL_mem rows.flatten [] a ha)
 have h2 := List.idxOf_lt_length_of_mem (ordL_mem rows.flatten [] b hb)
 have e3 : (ordAll rows)[(ordAll rows).idxOf a]'h1 = a := List.getElem_idxOf h1
 have e4 : (ordAll rows)[(ordAll rows).idxOf b]'h2 = b := List.getElem_idxOf h2
 rw [← e3, ← e4]
 congr 1
theorem names_plan {rows : List (List Int)} (h : shapeOk rows = true) : planB (textOf (canon rows)) = decide ((roomsOf rows).length ≤ 9 ∧ sumArea (roomsOf rows) = (rows.length : Int) * (wideOf rows : Int)) := by
 have hn := names_nums h
 have hinj := names_inj rows
 have hl : (textOf (canon rows)).length = rows.length := by simp [textOf, canon, canonL]
 have hnm : namesOf (textOf (canon rows)) = textOf (canon rows) := by
  unfold namesOf
  rw [hn, canon_map hinj]
 unfold planB
 cases hG : gridOk (textOf (canon rows))
 ·rw [floorF_nogrid hG]
  have : ¬ (roomsOf rows).length ≤ 9 := by
   intro h9
   have hL := rooms_len h
   have ht : gridOk (textOf (canon rows)) = true := by
    unfold gridOk
    rw [Bool.and_eq_true, hn, mapG_shape]
    refine ⟨h, ?_⟩
    rw [List.all_eq_true]
    intro s hs
    obtain ⟨r, hr, rfl⟩ := List.mem_map.1 hs
    unfold okText
    rw [bytesOf_rowText r (canon_val h r hr), List.all_eq_true]
    intro x hx
    obtain ⟨y, hy, rfl⟩ := List.mem_map.1 hx
    unfold canon canonL at hr
    obtain ⟨r0, hr0, rfl⟩ := List.mem_map.1 hr
    obtain ⟨z, hz, rfl⟩ := List.mem_map.1 hy
    have := List.idxOf_lt_length_of_mem (ordL_mem rows.flatten [] z (List.mem_flatten.2 ⟨r0, hr0, hz⟩))
    have h3 : (ordAll rows).idxOf z < (ordAll rows).length := this
    simp only [okLetter, Bool.not_eq_true', Bool.or_eq_false_iff, decide_eq_false_iff_not]
    omega
   rw [hG] at ht
   cases ht
  rw [decide_eq_false (fun hh => this hh.1)]
  rfl
 ·rw [floorF_grid hG, hn, rooms_map h hinj, mapG_wide, hl]
  by_cases hc : (roomsOf rows).length ≤ 9 ∧ sumArea (roomsOf rows) = (rows.length : Int) * (wideOf rows : Int)
  ·rw [if_pos ⟨hc.1, hc.2, hnm⟩, decide_eq_true hc]
   rfl
  ·rw [if_neg (fun hh => hc ⟨hh.1, hh.2.1⟩), decide_eq_false hc]
   rfl
theorem l1Done_j0 (k : Nat) (p : List ByteArray) (b : Bool) : spec_l1Done.j0 (k + 1) p b = if b = true then ((spec_l1None.f).bind fun bt177 => (some (bt177.1, bt177.2))) else ((spec_l1Names.f k p).bind fun t181 => (some (t181, true))) := by simp only [spec_l1Done.j0]
theorem l1None_f : spec_l1None.f = some ([], false) := rfl
theorem small_names {p : List ByteArray} (hp : smallP p) : smallP (namesOf p) := by
 have hl : (namesOf p).length = p.length := by simp [namesOf, textOf, canon, canonL, numsOf]
 refine ⟨by rw [hl]; exact hp.1, fun s hs => ?_⟩
 unfold namesOf textOf canon canonL numsOf at hs
 rw [List.map_map, List.map_map] at hs
 obtain ⟨s0, h0, rfl⟩ := List.mem_map.1 hs
 have := hp.2 s0 h0
 have hb := bytesOf_length s0
 show (rowText _).size ≤ _
 unfold rowText rowBytes
 show ((List.map letterOf (List.map _ (bytesOf s0))).toArray).size ≤ _
 simp
 omega
theorem l1Done_ev (t : List ByteArray) (hp : smallP t) : Evs (fun k => spec_l1Done.f k t) (doneF t) := by
 have hg := l1Grid_ev t hp
 cases hG : gridOk t
 ·rw [hG] at hg
  have hd : doneF t = ([], false) := by
   unfold doneF
   unfold gridOk at hG
   by_cases ha : t.all okText = true
   ·rw [ha, Bool.and_true] at hG
    rw [if_pos ha, planF_noshape hG]
   ·rw [if_neg ha]
  rw [hd]
  refine Evs.bind hg ?_
  refine Evs.congr (h := fun k => spec_l1Done.j0 k t true) (fun k => ?_) (Evs.step (h := fun _ => some ([], false)) (fun k => ?_) (Evs.const _))
  ·rw [if_neg (by simp)]
  ·rw [l1Done_j0, if_pos rfl, l1None_f]
   rfl
 ·rw [hG] at hg
  have hG2 := hG
  unfold gridOk at hG2
  rw [Bool.and_eq_true] at hG2
  have hs := hG2.1
  have hd : doneF t = if (roomsOf (numsOf t)).length ≤ 9 ∧ sumArea (roomsOf (numsOf t)) = ((numsOf t).length : Int) * (wideOf (numsOf t) : Int) then (namesOf t, true) else ([], false) := by
   unfold doneF
   rw [if_pos hG2.2, planF_shape hs]
   rfl
  have hn := l1Names_ev t hp (by have := shape_order hs; omega)
  have hpl := PlanIn_ev (namesOf t) (small_names hp)
  rw [show planB (namesOf t) = _ from names_plan hs] at hpl
  rw [hd]
  refine Evs.bind hg ?_
  refine Evs.congr (h := fun k => (spec_l1Names.f k t).bind fun t173 => ((spec_PlanIn.f k t173).bind fun t176 => (spec_l1Done.j0 k t (!t176)))) (fun k => ?_) (Evs.bind hn (Evs.bind hpl ?_))
  ·rw [if_pos rfl]
  ·by_cases hc : (roomsOf (numsOf t)).length ≤ 9 ∧ sumArea (roomsOf (numsOf t)) = ((numsOf t).length : Int) * (wideOf (numsOf t) : Int)
   ·rw [if_pos hc, decide_eq_true hc]
    refine Evs.step (h := fun k => (spec_l1Names.f k t).bind fun t181 => (some (t181, true))) (fun k => ?_) (Evs.bind hn (Evs.const _))
    rw [l1Done_j0, if_neg (by simp)]
   ·rw [if_neg hc, decide_eq_false hc]
    refine Evs.step (h := fun _ => some ([], false)) (fun k => ?_) (Evs.const _)
    rw [l1Done_j0, if_pos (by simp), l1None_f]
    rfl
end Go.Proofs.Ytjaolkfjpnpglaa.Hd
namespace Go.Proofs.Ytjaolkfjpnpglaa.Hd
open Go.RowKit Go.Proofs.YtjaolkfjpnpglaaW.PrintWords Go.Proofs.YtjaolkfjpnpglaaW.PrintLast Go.Proofs.YtjaolkfjpnpglaaW.PrintMore Go.Proofs.Ytjaolkfjpnpglaa.PB
set_option linter.unusedVariables false
set_option linter.unusedSimpArgs false
section
variable {α : Type} {g h : Nat → Option α} {r : α} {c : Prop} [Decidable c]
theorem Evs.pos (hc : c) (hg : Evs g r) : Evs (fun k => if c then g k else h k) r := Evs.congr (fun k => if_pos hc) hg
theorem Evs.neg (hc : ¬ c) (hh : Evs h r) : Evs (fun k => if c then g k else h k) r := Evs.congr (fun k => if_neg hc) hh
end
theorem textOf_len (cs : List (List Int)) : (textOf cs).length = cs.length := by simp [textOf]
theorem planF_len (rows : List (List Int)) : (planF rows).1.length ≤ 6 := by
 cases h : shapeOk rows with
 | false => rw [planF_noshape h]; simp
 | true =>
  rw [planF_shape h]
  split
  ·obtain ⟨h1, h2, h3⟩ := (shapeOk_iff _).1 h
   simp [textOf_len, canon, canonL]
   omega
  ·simp
def fits (p : List ByteArray) : Prop := p.length ≤ 9223372036854775807 ∧ ∀ s ∈ p, s.size ≤ 9223372036854775807
theorem sz_loop (l : List ByteArray) (hl : l.length ≤ 1048576) (hs : ∀ s ∈ l, s.size ≤ 9223372036854775807) : ∀ m i (a : Int), i + m = l.length → 0 ≤ a → a ≤ 1048576 → (∀ j, j < i → ∀ s, l[j]? = some s → s.size ≤ 1048576) → ∃ v, Evs (fun k => laws_szStringS.l0 k l a (i : Int)) v ∧ (v < 0 ∨ (smallP l ∧ 0 ≤ v ∧ v ≤ a)) := by
 intro m
 induction m with
 | zero =>
  intro i a hi h0 h1 hj
  refine ⟨a, Evs.step (h := fun _ => some a) (fun k => ?_) (Evs.const _), .inr ⟨⟨hl, fun s hs => ?_⟩, h0, Int.le_refl _⟩⟩
  ·conv => lhs; unfold laws_szStringS.l0
   rw [if_neg (by omega)]
  ·obtain ⟨j, hj2, e⟩ := List.mem_iff_getElem.1 hs
   exact hj j (by omega) s (by rw [List.getElem?_eq_getElem hj2, e])
 | succ m ih =>
  intro i a hi h0 h1 hj
  obtain ⟨s, hsi⟩ : ∃ s, l[i]? = some s := ⟨_, List.getElem?_eq_getElem (by omega)⟩
  have hsz := hs s (List.mem_of_getElem? hsi)
  by_cases hneg : a - (s.size : Int) < 0
  ·refine ⟨-1, Evs.step (h := fun _ => some (-1)) (fun k => ?_) (Evs.const _), .inl (by omega)⟩
   conv => lhs; unfold laws_szStringS.l0
   rw [if_pos (by omega), if_pos (by omega), rdOf_at hsi, wrap64_small (by omega) (by omega), if_pos hneg]
  ·obtain ⟨v, hv, hor⟩ := ih (i + 1) (a - (s.size : Int)) (by omega) (by omega) (by omega) (fun j hj1 s1 h1 => by
    rcases Nat.lt_or_eq_of_le (Nat.lt_succ_iff.1 hj1) with h2 | h2
    ·exact hj j h2 s1 h1
    ·subst h2
     rw [hsi] at h1
     have := Option.some.inj h1
     subst this
     omega)
   refine ⟨v, Evs.step (h := fun k => laws_szStringS.l0 k l (a - (s.size : Int)) ((i + 1 : Nat) : Int)) (fun k => ?_) hv, ?_⟩
   ·conv => lhs; unfold laws_szStringS.l0
    rw [if_pos (by omega), if_pos (by omega), rdOf_at hsi, wrap64_small (x := a - (s.size : Int)) (by omega) (by omega), if_neg hneg, wrap_succ (by omega)]
   ·rcases hor with h | ⟨h2, h3, h4⟩
    ·exact .inl h
    ·exact .inr ⟨h2, h3, by omega⟩
theorem sz_ev (l : List ByteArray) (hf : fits l) (a : Int) (h0 : 0 ≤ a) (h1 : a ≤ 1048576) : ∃ v, Evs (fun k => laws_szStringS.f k l a) v ∧ (v < 0 ∨ (smallP l ∧ 0 ≤ v ∧ v ≤ a)) := by
 have hl := hf.1
 by_cases hneg : a - (l.length : Int) < 0
 ·refine ⟨-1, Evs.congr (h := fun _ => some (-1)) (fun k => ?_) (Evs.const _), .inl (by omega)⟩
  unfold laws_szStringS.f
  rw [wrap64_small (by omega) (by omega), if_pos hneg]
 ·obtain ⟨v, hv, hor⟩ := sz_loop l (by omega) hf.2 l.length 0 (a - (l.length : Int)) (by omega) (by omega) (by omega) (fun j hj => by omega)
  refine ⟨v, Evs.congr (fun k => ?_) hv, ?_⟩
  ·unfold laws_szStringS.f
   rw [wrap64_small (by omega) (by omega), if_neg hneg]
   rfl
  ·rcases hor with h | ⟨h2, h3, h4⟩
   ·exact .inl h
   ·exact .inr ⟨h2, h3, by omega⟩
theorem to_loop (l : List ByteArray) (hl : l.length ≤ 1048576) : ∀ m i, i + m = l.length → Evs (fun k => laws_toStringS.l0 k l (l.take i ++ List.replicate m (⟨#[]⟩ : ByteArray)) (i : Int)) l := by
 intro m
 induction m with
 | zero =>
  intro i hi
  refine Evs.step (h := fun _ => some l) (fun k => ?_) (Evs.const _)
  conv => lhs; unfold laws_toStringS.l0
  rw [if_neg (by omega), List.take_of_length_le (by omega)]
  simp
 | succ m ih =>
  intro i hi
  obtain ⟨s, hsi⟩ : ∃ s, l[i]? = some s := ⟨_, List.getElem?_eq_getElem (by omega)⟩
  refine Evs.step (h := fun k => laws_toStringS.l0 k l (l.take (i + 1) ++ List.replicate m (⟨#[]⟩ : ByteArray)) ((i + 1 : Nat) : Int)) (fun k => ?_) (ih (i + 1) (by omega))
  conv => lhs; unfold laws_toStringS.l0
  have hset : (l.take i ++ List.replicate (m + 1) (⟨#[]⟩ : ByteArray)).set i s = l.take (i + 1) ++ List.replicate m (⟨#[]⟩ : ByteArray) := by
   rw [List.set_append_right _ _ (by simp; omega), show i - (l.take i).length = 0 by simp; omega, List.replicate_succ, List.set_cons_zero, List.take_add_one, hsi]
   simp
  rw [if_pos (by omega), if_pos (by omega), if_pos (by simp; omega), rdOf_at hsi, Int.toNat_natCast, hset, wrap_succ (by omega)]
theorem toS_ev (l : List ByteArray) (hl : l.length ≤ 1048576) : Evs (fun k => laws_toStringS.f k l) l := by
 refine Evs.congr (fun k => ?_) (to_loop l hl l.length 0 (by omega))
 unfold laws_toStringS.f
 rw [if_pos (by omega), if_pos (by omega), Int.toNat_natCast]
 simp
theorem eq_loop (p q : List ByteArray) (hl : p.length = q.length) (hb : p.length ≤ 1048576) : ∀ m i, i + m = p.length → p.take i = q.take i → Evs (fun k => laws_eqStringS.l0 k p q (i : Int)) (decide (p = q)) := by
 intro m
 induction m with
 | zero =>
  intro i hi ht
  have e : p = q := by
   rw [show i = p.length by omega, List.take_length, hl, List.take_length] at ht
   exact ht
  refine Evs.step (h := fun _ => some (decide (p = q))) (fun k => ?_) (Evs.const _)
  conv => lhs; unfold laws_eqStringS.l0
  rw [if_neg (by omega), decide_eq_true e]
 | succ m ih =>
  intro i hi ht
  by_cases he : p[i] = q[i]
  ·refine Evs.step (h := fun k => laws_eqStringS.l0 k p q ((i + 1 : Nat) : Int)) (fun k => ?_) (ih (i + 1) (by omega) (by
    rw [List.take_add_one, List.take_add_one, ht, List.getElem?_eq_getElem (by omega), List.getElem?_eq_getElem (by omega), he]))
   conv => lhs; unfold laws_eqStringS.l0
   rw [if_pos (by omega), if_pos (by omega), if_pos (by omega), rdOf_get p i (by omega), rdOf_get q i (by omega), if_pos (toList_inj.2 he), wrap_succ (by omega)]
  ·have hne : p ≠ q := by rintro rfl; exact he rfl
   refine Evs.step (h := fun _ => some (decide (p = q))) (fun k => ?_) (Evs.const _)
   conv => lhs; unfold laws_eqStringS.l0
   rw [if_pos (by omega), if_pos (by omega), if_pos (by omega), rdOf_get p i (by omega), rdOf_get q i (by omega), if_neg (fun h => he (toList_inj.1 h)), decide_eq_false hne]
theorem eqS_ev (p q : List ByteArray) (hb : p.length ≤ 1048576) : Evs (fun k => laws_eqStringS.f k p q) (decide (p = q)) := by
 by_cases h : p.length = q.length
 ·refine Evs.congr (fun k => ?_) (eq_loop p q h hb p.length 0 (by omega) (by simp))
  unfold laws_eqStringS.f
  rw [if_pos (by omega)]
  rfl
 ·have hne : p ≠ q := by rintro rfl; exact h rfl
  refine Evs.congr (h := fun _ => some (decide (p = q))) (fun k => ?_) (Evs.const _)
  unfold laws_eqStringS.f
  rw [if_neg (by omega), decide_eq_false hne]
theorem eqS_same (p : List ByteArray) (hb : p.length ≤ 1048576) : Evs (fun k => laws_eqStringS.f k p p) true := by
 have := eqS_ev p p hb
 rwa [decide_eq_true rfl] at this
theorem append_size (a b : ByteArray) : (a ++ b).size = a.size + b.size := by simp
theorem mark_loop : ∀ (B n : Nat) (out : ByteArray), n ≤ B → out.size + n ≤ 1099511627776 → ∃ s, Evs (fun k => laws_markText.l0 k (n : Int) out) s
 | 0, n, out, hn, hb => by
  refine ⟨(⟨#[109]⟩ : ByteArray) ++ out, Evs.step (h := fun _ => some ((⟨#[109]⟩ : ByteArray) ++ out)) (fun k => ?_) (Evs.const _)⟩
  conv => lhs; unfold laws_markText.l0
  rw [if_neg (by omega), if_pos (by omega)]
 | B + 1, n, out, hn, hb => by
  rcases Nat.eq_zero_or_pos n with h0 | h0
  ·subst h0
   refine ⟨(⟨#[109]⟩ : ByteArray) ++ out, Evs.step (h := fun _ => some ((⟨#[109]⟩ : ByteArray) ++ out)) (fun k => ?_) (Evs.const _)⟩
   conv => lhs; unfold laws_markText.l0
   rw [if_neg (by omega), if_pos (by omega)]
  ·have hsz : (strOfNums [(wrap64 (48 + (Int.tmod (n : Int) 10))) % 256]).size = 1 := rfl
   obtain ⟨s, hs⟩ := mark_loop B (n / 10) (strOfNums [(wrap64 (48 + (Int.tmod (n : Int) 10))) % 256] ++ out) (by omega) (by rw [append_size, hsz]; omega)
   refine ⟨s, Evs.step (h := fun k => laws_markText.l0 k ((n / 10 : Nat) : Int) (strOfNums [(wrap64 (48 + (Int.tmod (n : Int) 10))) % 256] ++ out)) (fun k => ?_) hs⟩
   conv => lhs; unfold laws_markText.l0
   have hd : Int.tdiv (n : Int) 10 = ((n / 10 : Nat) : Int) := by rw [Int.tdiv_eq_ediv_of_nonneg (by omega)]; omega
   rw [if_pos (by omega)]
   simp only [Option.bind_some]
   rw [hsz, if_pos (by omega), hd, wrap64_small (x := ((n / 10 : Nat) : Int)) (by omega) (by omega)]
theorem mark_ex (n : Nat) : ∃ s, n ≤ 1099511627776 → Evs (fun k => laws_markText.f k (n : Int)) s := by
 by_cases hn : n ≤ 1099511627776
 ·rcases Nat.eq_zero_or_pos n with h0 | h0
  ·subst h0
   refine ⟨⟨#[109, 48]⟩, fun _ => Evs.congr (h := fun _ => some (⟨#[109, 48]⟩ : ByteArray)) (fun k => ?_) (Evs.const _)⟩
   unfold laws_markText.f
   rw [if_pos (by omega)]
  ·obtain ⟨s, hs⟩ := mark_loop n n ⟨#[]⟩ (Nat.le_refl _) (by show 0 + n ≤ _; omega)
   refine ⟨s, fun _ => Evs.congr (fun k => ?_) hs⟩
   unfold laws_markText.f
   rw [if_neg (by omega)]
 ·exact ⟨⟨#[]⟩, fun h => absurd h hn⟩
noncomputable def mkT (n : Nat) : ByteArray := (mark_ex n).choose
theorem mkT_ev (n : Nat) (hn : n ≤ 1099511627776) : Evs (fun k => laws_markText.f k (n : Int)) (mkT n) := (mark_ex n).choose_spec hn
noncomputable def marksOf (a n : Nat) : List ByteArray := (List.range n).map fun i => mkT (a + i)
theorem marksOf_length (a n : Nat) : (marksOf a n).length = n := by simp [marksOf]
theorem markS_loop (l : List ByteArray) (hl : l.length ≤ 1048576) (a : Nat) (ha : a ≤ 2097153) : ∀ m i, i + m = l.length → Evs (fun k => laws_markStringS.l0 k (marksOf a i ++ l.drop i) ((a + i : Nat) : Int) (i : Int)) (((a + l.length : Nat) : Int), marksOf a l.length) := by
 intro m
 induction m with
 | zero =>
  intro i hi
  obtain rfl : i = l.length := by omega
  refine Evs.step (h := fun _ => some (((a + l.length : Nat) : Int), marksOf a l.length)) (fun k => ?_) (Evs.const _)
  conv => lhs; unfold laws_markStringS.l0
  rw [if_neg (by simp [marksOf_length])]
  simp
 | succ m ih =>
  intro i hi
  have hset : (marksOf a i ++ l.drop i).set i (mkT (a + i)) = marksOf a (i + 1) ++ l.drop (i + 1) := by
   rw [List.set_append_right _ _ (by rw [marksOf_length]; exact Nat.le_refl _), marksOf_length, Nat.sub_self, List.drop_eq_getElem_cons (by omega), List.set_cons_zero]
   unfold marksOf
   rw [List.range_succ, List.map_append]
   simp
  refine Evs.step (h := fun k => (laws_markText.f k ((a + i : Nat) : Int)).bind fun t220 => laws_markStringS.l0 k ((marksOf a i ++ l.drop i).set i t220) ((a + (i + 1) : Nat) : Int) ((i + 1 : Nat) : Int)) (fun k => ?_) (Evs.bind (mkT_ev (a + i) (by omega)) (by rw [hset]; exact ih (i + 1) (by omega)))
  conv => lhs; unfold laws_markStringS.l0
  rw [if_pos (by simp [marksOf_length]; omega)]
  congr 1
  funext t
  have e : wrap64 (((a + i : Nat) : Int) + 1) = ((a + (i + 1) : Nat) : Int) := by rw [wrap64_small (by omega) (by omega)]; omega
  rw [if_pos (by omega), Int.toNat_natCast, wrap_succ (i := i) (by omega), e]
theorem markS_ev (l : List ByteArray) (hl : l.length ≤ 1048576) (a : Nat) (ha : a ≤ 2097153) : Evs (fun k => laws_markStringS.f k l (a : Int)) (((a + l.length : Nat) : Int), marksOf a l.length) := by
 have := markS_loop l hl a ha l.length 0 (by omega)
 refine Evs.congr (fun k => ?_) this
 unfold laws_markStringS.f
 simp [marksOf]
theorem heldS_loop (n : Nat) (hl : n ≤ 1048576) (a : Nat) (ha : a ≤ 2097153) : ∀ m i, i + m = n → Evs (fun k => laws_heldStringS.l0 k (marksOf a n) ((a + i : Nat) : Int) (i : Int)) ((a + n : Nat) : Int) := by
 intro m
 induction m with
 | zero =>
  intro i hi
  obtain rfl : i = n := by omega
  refine Evs.step (h := fun _ => some ((a + i : Nat) : Int)) (fun k => ?_) (Evs.const _)
  conv => lhs; unfold laws_heldStringS.l0
  rw [if_neg (by simp [marksOf_length])]
 | succ m ih =>
  intro i hi
  have hget : (marksOf a n)[i]? = some (mkT (a + i)) := by
   unfold marksOf
   rw [List.getElem?_map, List.getElem?_range (by omega)]
   rfl
  refine Evs.step (h := fun k => (laws_markText.f k ((a + i : Nat) : Int)).bind fun t223 => if (mkT (a + i)).toList = t223.toList then laws_heldStringS.l0 k (marksOf a n) ((a + (i + 1) : Nat) : Int) ((i + 1 : Nat) : Int) else some (-1)) (fun k => ?_) (Evs.bind (mkT_ev (a + i) (by omega)) (Evs.congr (fun k => ?_) (ih (i + 1) (by omega))))
  ·conv => lhs; unfold laws_heldStringS.l0
   rw [if_pos (by rw [marksOf_length]; omega), if_pos (by omega)]
   congr 1
   funext t
   have e : wrap64 (((a + i : Nat) : Int) + 1) = ((a + (i + 1) : Nat) : Int) := by rw [wrap64_small (by omega) (by omega)]; omega
   rw [rdOf_at hget, wrap_succ (i := i) (by omega), e]
  ·rw [if_pos rfl]
theorem heldS_ev (n : Nat) (hl : n ≤ 1048576) (a : Nat) (ha : a ≤ 2097153) : Evs (fun k => laws_heldStringS.f k (marksOf a n) (a : Int)) ((a + n : Nat) : Int) := heldS_loop n hl a ha n 0 (by omega)
end Go.Proofs.Ytjaolkfjpnpglaa.Hd
namespace Go.Proofs.Ytjaolkfjpnpglaa.Hd
open Go.RowKit Go.Proofs.YtjaolkfjpnpglaaW.PrintWords Go.Proofs.YtjaolkfjpnpglaaW.PrintLast Go.Proofs.YtjaolkfjpnpglaaW.PrintMore Go.Proofs.Ytjaolkfjpnpglaa.PB
set_option linter.unusedVariables false
set_option linter.unusedSimpArgs false
theorem mergeF_len (p : List ByteArray) (a b : Int) : (mergeF p a b).1.length ≤ 6 := by
 unfold mergeF
 split
 ·simp
 ·split
  ·exact planF_len _
  ·simp
def impl_PlanMerge.f (l0 : List ByteArray) (a1 a2 : Int) : Option (List ByteArray × Bool) := if smallB l0 = true then some (mergeF l0 a1 a2) else none
theorem impl_PlanMerge.calls (A0 : Option Addr) (c0 : Nat) (l0 : List ByteArray) (a1 : Int) (a2 : Int) (r1 : List ByteArray) (r2 : Bool) (w : World) (hr0 : Kd.C Kd.string w A0 l0.length l0) (hc0 : l0.length ≤ c0) (h : impl_PlanMerge.f l0 a1 a2 = some (r1, r2)) :
  Calls Try.prog 18 #[.slice A0 l0.length c0, .int .i64 a1, .int .i64 a2] w fun e w' => ∃ v0_ : Value, e = .returned (.tuple #[v0_, .bool r2]) ∧ Kd.R Kd.string 9 w' w.heap.size (fun _ => True) v0_ r1 ∧ Below w.heap.size w w' := by
 unfold impl_PlanMerge.f at h
 split at h
 ·rename_i hs
  have e := Option.some.inj h
  have := PlanMerge_calls A0 c0 l0 a1 a2 w hr0 hc0 ((smallB_iff _).1 hs)
  rw [e] at this
  exact this
 ·cases h
end Go.Proofs.Ytjaolkfjpnpglaa.Hd
namespace Go.Proofs.Ytjaolkfjpnpglaa.Hd
open Go.RowKit Go.Proofs.YtjaolkfjpnpglaaW.PrintWords Go.Proofs.YtjaolkfjpnpglaaW.PrintLast Go.Proofs.YtjaolkfjpnpglaaW.PrintMore Go.Proofs.Ytjaolkfjpnpglaa.PB
set_option linter.unusedVariables false
set_option linter.unusedSimpArgs false
def putN (xs : List Int) (l n : Nat) (c : Int) : List Int := xs.mapIdx fun k x => if l ≤ k ∧ k < l + n then c else x
def putS (s : ByteArray) (l n : Nat) (c : Int) : ByteArray := strOfNums (putN (bytesOf s) l n c)
def putR (xs : List ByteArray) (t n l m : Nat) (c : Int) : List ByteArray := xs.mapIdx fun k s => if t ≤ k ∧ k < t + n then putS s l m c else s
theorem putN_length (xs : List Int) (l n : Nat) (c : Int) : (putN xs l n c).length = xs.length := by simp [putN]
theorem putN_zero (xs : List Int) (l : Nat) (c : Int) : putN xs l 0 c = xs := by
 unfold putN
 apply List.ext_getElem
 ·simp
 ·intro i h1 h2
  simp only [List.getElem_mapIdx]
  rw [if_neg (by omega)]
theorem putN_succ (xs : List Int) (l n : Nat) (c : Int) : (putN xs l n c).set (l + n) c = putN xs l (n + 1) c := by
 unfold putN
 apply List.ext_getElem
 ·simp
 ·intro i h1 h2
  rw [List.getElem_set]
  simp only [List.getElem_mapIdx]
  by_cases h : l + n = i
  ·rw [if_pos h, if_pos (by omega)]
  ·rw [if_neg h]
   by_cases h3 : l ≤ i ∧ i < l + n
   ·rw [if_pos h3, if_pos (by omega)]
   ·rw [if_neg h3, if_neg (by omega)]
theorem putR_length (xs : List ByteArray) (t n l m : Nat) (c : Int) : (putR xs t n l m c).length = xs.length := by simp [putR]
theorem putR_zero (xs : List ByteArray) (t l m : Nat) (c : Int) : putR xs t 0 l m c = xs := by
 unfold putR
 apply List.ext_getElem
 ·simp
 ·intro i h1 h2
  simp only [List.getElem_mapIdx]
  rw [if_neg (by omega)]
theorem putR_succ (xs : List ByteArray) (t n l m : Nat) (c : Int) : (putR xs t n l m c).set (t + n) (putS (xs.getD (t + n) ByteArray.empty) l m c) = putR xs t (n + 1) l m c := by
 unfold putR
 apply List.ext_getElem
 ·simp
 ·intro i h1 h2
  rw [List.getElem_set]
  simp only [List.getElem_mapIdx]
  by_cases h : t + n = i
  ·subst h
   rw [if_pos rfl, if_pos (by omega)]
   congr 1
   have h3 : t + n < xs.length := by simpa using h2
   simp [List.getD_eq_getElem?_getD, h3]
  ·rw [if_neg h]
   by_cases h3 : t ≤ i ∧ i < t + n
   ·rw [if_pos h3, if_pos (by omega)]
   ·rw [if_neg h3, if_neg (by omega)]
theorem putR_at (xs : List ByteArray) (t n l m : Nat) (c : Int) : (putR xs t n l m c).getD (t + n) ByteArray.empty = xs.getD (t + n) ByteArray.empty := by
 unfold putR
 simp only [List.getD_eq_getElem?_getD, List.getElem?_mapIdx]
 cases h : xs[t + n]? with
 | none => rfl
 | some x =>
  simp only [Option.map_some, Option.getD_some]
  rw [if_neg (by omega)]
def putOk (l0 : List ByteArray) (t l h m : Int) (c : Int) : Bool :=
 decide (0 ≤ t) && decide (0 ≤ l) && decide (0 ≤ h) && decide (0 ≤ m) && decide (0 ≤ c) && decide (c ≤ 255) && decide (l0.length ≤ 1048576) && decide (t + h ≤ l0.length) && decide (l ≤ 1048576) && decide (m ≤ 1048576) && (l0.all fun s => decide (l + m ≤ s.size) && decide (s.size ≤ 1048576))
def spec_l1Put.f (l0 : List ByteArray) (a1 a2 a3 a4 a5 : Int) : Option (List ByteArray) :=
 if putOk l0 a1 a2 a3 a4 a5 = true then some (putR l0 a1.toNat a3.toNat a2.toNat a4.toNat a5) else none
set_option maxHeartbeats 4000000 in
set_option maxRecDepth 100000 in
theorem l1Put_walk (A0 : Option Addr) (c0 : Nat) (l0 : List ByteArray) (t l h m : Nat) (c : Int) (w : World) (hr0 : Kd.C Kd.string w A0 l0.length l0) (hc0 : l0.length ≤ c0)
  (hc : 0 ≤ c) (hc2 : c ≤ 255) (hlen : l0.length ≤ 1048576) (hth : t + h ≤ l0.length) (hlb : l ≤ 1048576) (hmb : m ≤ 1048576) (hs : ∀ i, i < l0.length → l + m ≤ (l0.getD i ByteArray.empty).size ∧ (l0.getD i ByteArray.empty).size ≤ 1048576) :
  Calls Try.prog 48 #[.slice A0 l0.length c0, .int .i64 t, .int .i64 l, .int .i64 h, .int .i64 m, .int .u8 c] w fun e w' => ∃ v0_ : Value, e = .returned (v0_) ∧ Kd.R Kd.string 9 w' w.heap.size (fun _ => True) v0_ (putR l0 t h l m c) ∧ Below w.heap.size w w' := by
 have HR0 := Aside0.mk hr0
 have HC0 := Aside0.mk hc0
 have HS := Aside0.mk hs
 clear hr0 hc0 hs
 have HB := Aside0.mk (Below.refl w.heap.size w)
 have ht0 : (0 : Int) ≤ t := by omega
 have ht1 : (t : Int) ≤ 1048576 := by omega
 have hh0 : (0 : Int) ≤ h := by omega
 have hh1 : (h : Int) ≤ 1048576 := by omega
 have hl0 : (0 : Int) ≤ l := by omega
 have hl1 : (l : Int) ≤ 1048576 := by omega
 have hm0 : (0 : Int) ≤ m := by omega
 have hm1 : (m : Int) ≤ 1048576 := by omega
 go_enter Try.func48, Try.ntmps48
 go_wp2_with (first
  | ((with_reducible refine gate_dst (N := 17) rfl ?_); refine Kd.R_lit Kd.string _ 9 ?hg (N := 17) ?hd (xs := ([] : List ByteArray)) (inner := []) (ok := fun _ => True) (okp := fun _ => True) ?hr ?hp (fun _ hk => hk) trivial (Below.refl _ _) (Nat.le_refl _) (by simp) ?_; (case hd => rfl); (case hg => rfl); (case hr => first | (go_simp; done) | (go_simp; rfl)); (case hp => exact (Reps.none _ _)); intro v1 w1 ho hb hg_ hnew_; clear hg_ hnew_; have HO1 := Aside0.mk (Kd.R_lower ho (below_size HB.out)); have n1_ := Aside0.mk (below_step HB.out hb); clear HB; have HB := n1_; clear n1_; clear hb ho)
  | ((with_reducible refine gate_builtin (b := .append) (xs := #[.tmp 17, .tmp 18]) rfl ?_); at_builtin; refine Kd.R_append_rows Kd.string (w0 := w) w.heap.size rfl (.tmp 17) (.tmp 18) 22 9 (.string ⟨#[]⟩) 16 rfl Try.underlying22 info9 rfl (by decide) (by omega) v1 [] l0 _ _ _ (fun _ => True) (fun _ => False) rfl rfl ?aO ?aR (fun _ _ h => h) (fun _ h => h.elim) ?aF ?aB ?aS ?aL ?_; (case aR => exact Kd.C_below HR0.out HB.out); (case aB => exact HB.out); (case aF => exact (fun _ _ => trivial)); (case aO => exact HO1.out); (case aS => exact below_size HB.out); (case aL => simp; omega); intro v2 w2 ho hb hg hat; have n0_ := Aside0.mk hb; have HO2 := Aside0.mk ho; clear HB; clear HO1; have HB := n0_; clear n0_; clear ho hb hg hat))
 go_loopg [14] h (fun kq v14 w' => ∃ j : Nat, v14 = .int .i64 ((t : Int) + j) ∧ Aside0 (j + kq = h) ∧ Aside0 (Kd.R Kd.string 9 w' w.heap.size (fun _ => True) v2 (putR l0 t j l m c)) ∧ Aside0 (Below w.heap.size w w'))
 case atStart => exact ⟨0, by simp, ⟨by omega⟩, ⟨by rw [putR_zero]; simpa using HO2.out⟩, ⟨HB.out⟩⟩
 case round =>
  clear HO2 HB
  obtain ⟨j, rfl, HK, HO, HB⟩ := hrel
  by_cases hj : j < h
  ·have hlt : (t : Int) + j < t + h := by omega
   have hj0 : (0 : Int) ≤ (t : Int) + j := by omega
   have hj1 : (t : Int) + j ≤ 1048576 := by omega
   have hjl : t + j < l0.length := by omega
   have HLR := Aside0.mk (putR_length l0 t j l m c)
   have hjl2 : (t : Int) + j < ((putR l0 t j l m c).length : Int) := by have := HLR.out; omega
   obtain ⟨g3, c3, e3, b3, l3, cl3, hg3⟩ := Kd.R_form HO.out (by have := HLR.out; omega)
   subst e3
   clear hg3 l3
   have B3 := Aside0.mk b3
   obtain ⟨hx3, hf3⟩ := Kd.R_celln (⟨#[]⟩ : ByteArray) HO.out ((t : Int) + j) (by omega) (by omega)
   rw [show (((t : Int) + j).toNat) = t + j by omega, show rdOf (⟨#[]⟩ : ByteArray) (putR l0 t j l m c) ((t : Int) + j) = l0.getD (t + j) ByteArray.empty by unfold rdOf; rw [show (((t : Int) + j).toNat) = t + j by omega]; exact putR_at l0 t j l m c] at hx3
   rw [show (((t : Int) + j).toNat) = t + j by omega] at hf3
   generalize hs : l0.getD (t + j) ByteArray.empty = s at hx3
   have HSJ := Aside0.mk hs
   have hss := HS.out (t + j) hjl
   rw [hs] at hss
   clear hs
   go_wp2_with (first
    | ((with_reducible refine gate_dst (N := 32) rfl ?_); refine conv_event (P := Try.prog) rfl (N := 32) rfl (src := 9) (dst := 87) (e := 5) (s := s) rfl rfl Try.underlying9 Try.underlying87 Try.underlying5 ?_; intro g4 c4 w4 hg4 hrow hb; have HRow := Aside0.mk (hrow.lower (below_size HB.out)); have n1_ := Aside0.mk (below_step HB.out hb); have HO4 := Aside0.mk (Kd.R_below HO.out hb); clear HB HO; have HB := n1_; have HO := HO4; clear n1_ HO4; clear hb hrow hg4 hx3 hf3))
   go_loopg [16] m (fun kq v16 w' => ∃ i : Nat, v16 = .int .i64 ((l : Int) + i) ∧ Aside0 (i + kq = m) ∧ Aside0 (BRow w' w.heap.size g4 c4 5 (putN (bytesOf s) l i c)) ∧ Aside0 (Kd.string.R 9 w' w.heap.size (fun x => True) (Value.slice (some { block := g3, off := 0 }) (putR l0 t j l m c).length c3) (putR l0 t j l m c)) ∧ Aside0 (Below w.heap.size w w'))
   case atStart => exact ⟨0, by simp, ⟨by omega⟩, ⟨by rw [putN_zero]; exact HRow.out⟩, HO, HB⟩
   case round =>
    clear HRow HB HO
    obtain ⟨i, rfl, HK2, HRow, HO, HB⟩ := hrel
    by_cases hi : i < m
    ·have hlt2 : (l : Int) + i < l + m := by omega
     have hi0 : (0 : Int) ≤ (l : Int) + i := by omega
     have hi1 : (l : Int) + i ≤ 2097152 := by omega
     have hsz : (l : Int) + i < s.size := by omega
     have hss1 : (s.size : Int) ≤ 1048576 := by omega
     obtain ⟨hx4, hf4⟩ := HRow.out.cell (l + i) (by rw [putN_length, bytesOf_length]; omega)
     have HP := Aside0.mk (HRow.out.set (l + i) c)
     go_wp2_with (first | ((with_reducible refine gate_store (t := 5) (p := 44) rfl ?_); refine store_event (t := 5) (p := 44) (v := ?vo) (w1 := (wr.setCell ⟨g4, l + i, none⟩ (.int .u8 c))) ?hg ?ho ?hn ?hr ?_; (case ho => rfl); (case hg => rfl); (case hn => rfl); (case hr => first | (go_simp; done) | (go_simp; rfl)); intro w11 hw; have n0_ := Aside0.mk (show BRow w11 w.heap.size g4 c4 5 (putN (bytesOf s) l (i + 1) c) by rw [hw, ← putN_succ]; exact HP.out); have n1_ := Aside0.mk (show Kd.string.R 9 w11 w.heap.size (fun x => True) (Value.slice (some { block := g3, off := 0 }) (putR l0 t j l m c).length c3) (putR l0 t j l m c) by rw [hw]; exact R_setF HO.out HRow.out.typed.choose_spec.choose_spec (by decide) _ _); have n2_ := Aside0.mk (show Below w.heap.size w w11 by rw [hw]; exact below_set HB.out HRow.out.base_le); clear HRow HO HB HP; have HRow := n0_; have HO := n1_; have HB := n2_; clear n0_ n1_ n2_; clear hw))
     go_roundg (m - (i + 1))
     case measure => have := HK2.out; omega
     case rel => exact ⟨i + 1, by first | rfl | (congr 1; omega), ⟨by have := HK2.out; omega⟩, HRow, HO, HB⟩
    ·have hge : ¬ ((l : Int) + i < l + m) := by omega
     obtain rfl : i = m := by have := HK2.out; omega
     have hstr := Kd.C_string (P := Try.prog) (src := 87) (dst := 9) (c := c4) Try.underlying87 Try.underlying5 Try.underlying9 (HRow.out.reads (by rw [putN_length, bytesOf_length]; omega))
     rw [putN_length, bytesOf_length] at hstr
     obtain ⟨hx3, hf3⟩ := Kd.R_celln (⟨#[]⟩ : ByteArray) HO.out ((t : Int) + j) (by omega) (by omega)
     rw [show (((t : Int) + j).toNat) = t + j by omega] at hx3 hf3
     have HP := Aside0.mk (Kd.R_putg HO.out ((t : Int) + j) (putS s l i c))
     go_wp2
     go_roundg (h - (j + 1))
     case measure => have := HK.out; omega
     case rel => exact ⟨j + 1, by first | rfl | (congr 1; omega), ⟨by have := HK.out; omega⟩, ⟨by rw [← putR_succ, HSJ.out]; have z := HP.out.1; rw [show (((t : Int) + j).toNat) = t + j by omega] at z; exact z⟩, ⟨below_set HB.out B3.out⟩⟩
  ·have hge : ¬ ((t : Int) + j < t + h) := by omega
   obtain rfl : j = h := by have := HK.out; omega
   go_wp2
   go_ret
   exact ⟨_, rfl, HO.out, HB.out⟩
theorem spec_l1Put.calls (A0 : Option Addr) (c0 : Nat) (l0 : List ByteArray) (a1 a2 a3 a4 a5 : Int) (r : List ByteArray) (w : World) (hr0 : Kd.C Kd.string w A0 l0.length l0) (hc0 : l0.length ≤ c0) (h : spec_l1Put.f l0 a1 a2 a3 a4 a5 = some r) :
  Calls Try.prog 48 #[.slice A0 l0.length c0, .int .i64 a1, .int .i64 a2, .int .i64 a3, .int .i64 a4, .int .u8 a5] w fun e w' => ∃ v0_ : Value, e = .returned (v0_) ∧ Kd.R Kd.string 9 w' w.heap.size (fun _ => True) v0_ r ∧ Below w.heap.size w w' := by
 unfold spec_l1Put.f at h
 by_cases hk : putOk l0 a1 a2 a3 a4 a5 = true
 ·rw [if_pos hk] at h
  obtain rfl := Option.some.inj h
  simp only [putOk, Bool.and_eq_true, decide_eq_true_eq, List.all_eq_true] at hk
  obtain ⟨⟨⟨⟨⟨⟨⟨⟨⟨⟨h1, h2⟩, h3⟩, h4⟩, h5⟩, h6⟩, h7⟩, h8⟩, h9⟩, h10⟩, h11⟩ := hk
  obtain ⟨t, rfl⟩ := Int.eq_ofNat_of_zero_le h1
  obtain ⟨l, rfl⟩ := Int.eq_ofNat_of_zero_le h2
  obtain ⟨hh, rfl⟩ := Int.eq_ofNat_of_zero_le h3
  obtain ⟨m, rfl⟩ := Int.eq_ofNat_of_zero_le h4
  simp only [Int.toNat_natCast]
  refine l1Put_walk A0 c0 l0 t l hh m a5 w hr0 hc0 h5 h6 h7 (by omega) (by omega) (by omega) (fun i hi => ?_)
  have := h11 _ (List.getElem_mem hi)
  rw [List.getD_eq_getElem?_getD, List.getElem?_eq_getElem hi]
  simp only [Option.getD_some]
  omega
 ·rw [if_neg hk] at h
  cases h
end Go.Proofs.Ytjaolkfjpnpglaa.Hd
namespace Go.Proofs.Ytjaolkfjpnpglaa.SM
open Go.Proofs.Ytjaolkfjpnpglaa.PB Go.Proofs.Ytjaolkfjpnpglaa.Hd
open Go.RowKit Go.Proofs.YtjaolkfjpnpglaaW.PrintWords Go.Proofs.YtjaolkfjpnpglaaW.PrintLast Go.Proofs.YtjaolkfjpnpglaaW.PrintMore
attribute [local go_sem] max2_int min2_int max_two min_two max_three min_three max_four min_four   -- for this text's walks alone
set_option linter.unusedVariables false
set_option linter.unusedSimpArgs false
def errW : Option Int → Value
 | none => .nilIface
 | some c => .iface 0 (.int .i64 c)
theorem errW_none : errW none = .nilIface := rfl
theorem errW_some (c : Int) : errW (some c) = .iface 0 (.int .i64 c) := rfl
theorem info5 : (Try.prog.info? 5).map (fun i => (i.zero, i.size, i.bytes)) = some (some (.int .u8 0), 1, 1) := by kernel_rfl
theorem info9 : (Try.prog.info? 9).map (fun i => (i.zero, i.size, i.bytes)) = some (some (.string ⟨#[]⟩), 1, 16) := by kernel_rfl
end Go.Proofs.Ytjaolkfjpnpglaa.SM
namespace Go.Proofs.Ytjaolkfjpnpglaa.SM
open Go.Proofs.Ytjaolkfjpnpglaa.PB Go.Proofs.Ytjaolkfjpnpglaa.Hd
open Go.RowKit Go.Proofs.YtjaolkfjpnpglaaW.PrintWords Go.Proofs.YtjaolkfjpnpglaaW.PrintLast Go.Proofs.YtjaolkfjpnpglaaW.PrintMore
attribute [local go_sem] max2_int min2_int max_two min_two max_three min_three max_four min_four   -- for this text's walks alone
set_option linter.unusedVariables false
set_option linter.unusedSimpArgs false
def spec_PlanMerge.j0 : Nat → List ByteArray → Int → Int → Bool → Option (List ByteArray × Bool)
 | 0, _, _, _, _ => none
 | k + 1, x0, x1, x2, x26 => if x26 = true then ((spec_l1None.f).bind fun bt185 => (some (bt185.1, bt185.2))) else ((spec_l1Room.f k x0 x2).bind fun bt189 => ((spec_l1Put.f x0 bt189.1 bt189.2.1 bt189.2.2.1 bt189.2.2.2 ((wrap64 (97 + x1)) % 256)).bind fun t193 => ((spec_l1Done.f k t193).bind fun bt196 => (some (bt196.1, bt196.2)))))
def spec_PlanMerge.f (k : Nat) (l0 : List ByteArray) (a1 : Int) (a2 : Int) : Option (List ByteArray × Bool) := (spec_l1Given.f k l0 a1).bind fun t183 => (if t183 = true then ((spec_l1Given.f k l0 a2).bind fun t184 => (if t184 = true then (spec_PlanMerge.j0 k l0 a1 a2 (a1 == a2)) else (spec_PlanMerge.j0 k l0 a1 a2 true))) else (spec_PlanMerge.j0 k l0 a1 a2 true))
set_option maxHeartbeats 8000000 in
set_option maxRecDepth 100000 in
theorem spec_PlanMerge.calls (k : Nat) (A0 : Option Addr) (c0 : Nat) (l0 : List ByteArray) (a1 : Int) (a2 : Int) (r1 : List ByteArray) (r2 : Bool) (w : World) (hr0 : Kd.C Kd.string w A0 l0.length l0) (hc0 : l0.length ≤ c0) (h : spec_PlanMerge.f k l0 a1 a2 = some (r1, r2)) :
  Calls Try.prog 16 #[.slice A0 l0.length c0, .int .i64 a1, .int .i64 a2] w fun e w' => ∃ v0_ : Value, e = .returned (.tuple #[v0_, .bool r2]) ∧ Kd.R Kd.string 9 w' w.heap.size (fun _ => True) v0_ r1 ∧ Below w.heap.size w w' := by
 have HR0 := Aside0.mk hr0
 have HC0 := Aside0.mk hc0
 clear hr0 hc0
 have HB := Aside0.mk (Below.refl w.heap.size w)
 have H : ((spec_l1Given.f k l0 a1).bind fun t183 => (if t183 = true then ((spec_l1Given.f k l0 a2).bind fun t184 => (if t184 = true then (spec_PlanMerge.j0 k l0 a1 a2 (a1 == a2)) else (spec_PlanMerge.j0 k l0 a1 a2 true))) else (spec_PlanMerge.j0 k l0 a1 a2 true))) = some (r1, r2) := h
 clear h
 have HC4 := Aside0.mk H
 clear H
 go_enter Try.func16, Try.ntmps16
 go_upto_region 1 with (fail)
 go_cut [26] (fun v26 wc => ∃ (kq : Nat) (x26_3 : Bool), v26 = .bool x26_3 ∧ Aside0 (spec_PlanMerge.j0 kq l0 a1 a2 x26_3 = some (r1, r2)) ∧ Aside0 (kq ≤ k) ∧ Aside0 (Below w.heap.size w wc))
 case first =>
  have H := HC4.out
  clear HC4
  replace H := Option.bind_eq_some_iff.mp H
  obtain ⟨t183, A50, H⟩ := H
  replace H : (if t183 = true then ((spec_l1Given.f k l0 a2).bind fun t184 => (if t184 = true then (spec_PlanMerge.j0 k l0 a1 a2 (a1 == a2)) else (spec_PlanMerge.j0 k l0 a1 a2 true))) else (spec_PlanMerge.j0 k l0 a1 a2 true)) = some (r1, r2) := H
  have A5 := Aside0.mk A50
  clear A50
  by_cases c6 : t183 = true
  ·subst c6
   have H1 : ((spec_l1Given.f k l0 a2).bind fun t184 => (if t184 = true then (spec_PlanMerge.j0 k l0 a1 a2 (a1 == a2)) else (spec_PlanMerge.j0 k l0 a1 a2 true))) = some (r1, r2) := by rw [if_pos rfl] at H; exact H
   clear H
   have H := H1
   clear H1
   replace H := Option.bind_eq_some_iff.mp H
   obtain ⟨t184, A70, H⟩ := H
   replace H : (if t184 = true then (spec_PlanMerge.j0 k l0 a1 a2 (a1 == a2)) else (spec_PlanMerge.j0 k l0 a1 a2 true)) = some (r1, r2) := H
   have A7 := Aside0.mk A70
   clear A70
   by_cases c8 : t184 = true
   ·subst c8
    have H1 : (spec_PlanMerge.j0 k l0 a1 a2 (a1 == a2)) = some (r1, r2) := by rw [if_pos rfl] at H; exact H
    clear H
    have H := H1
    clear H1
    have H' := Aside0.mk H
    clear H
    go_wp2_with (first | ((with_reducible refine gate_callee (f := 44) rfl ?_); refine goesL_ (some 14) rfl rfl Try.func44 (by kernel_rfl) rfl #[.slice A0 l0.length c0, .int .i64 a1] rfl (by (try simp only [List.map_toArray, List.map_cons, List.map_nil]); first | done | rfl | (simp only [List.length_drop, List.length_take]; rfl)) ?_; (with_reducible refine (spec_l1Given.calls k _ _ l0 a1 true _ ?side1 ?side2 A5.out).mono ?_); (case side1 => repeat (first | exact (Kd.C_below HR0.out HB.out) | (with_reducible refine Kd.C_alloc ?_ _) | (with_reducible refine Kd.C_drewN ?_ _) | (with_reducible refine Kd.C_drew ?_))); (case side2 => exact HC0.out); rintro e w9 ⟨rfl, hb⟩; refine ⟨_, rfl, ?_⟩; have n0_ := Aside0.mk (below_step (by repeat (first | (with_reducible first | exact HB.out | apply below_alloc | apply pw_below_drewN | apply below_drew1) | exact HB.out)) hb); clear HB; have HB := n0_; clear n0_; (try clear hb); (try clear hb2); (try clear hk); (try clear hi)) | (go_at_call 44; (with_reducible refine (spec_l1Given.calls k _ _ l0 a2 true _ ?side1 ?side2 A7.out).mono ?_); (case side1 => repeat (first | exact (Kd.C_below HR0.out HB.out) | (with_reducible refine Kd.C_alloc ?_ _) | (with_reducible refine Kd.C_drewN ?_ _) | (with_reducible refine Kd.C_drew ?_))); (case side2 => exact HC0.out); rintro e w10 ⟨rfl, hb⟩; have n0_ := Aside0.mk (below_step (by repeat (first | (with_reducible first | exact HB.out | apply below_alloc | apply pw_below_drewN | apply below_drew1) | exact HB.out)) hb); clear HB; have HB := n0_; clear n0_; (try clear hb); (try clear hb2); (try clear hk); (try clear hi)))
    go_meet
    case rel => exact ⟨_, ((a1 == a2)), (by first | rfl | (simp; done) | (simp [*]; done)), H', ⟨by first | omega | exact Nat.le_refl _⟩, ⟨by repeat (first | (with_reducible first | exact HB.out | apply below_alloc | apply pw_below_drewN | apply below_drew1) | exact HB.out)⟩⟩
   ·replace c8 := Bool.eq_false_iff.mpr c8
    subst c8
    have H1 : (spec_PlanMerge.j0 k l0 a1 a2 true) = some (r1, r2) := by rw [if_neg (show ¬ (false = true) by decide)] at H; exact H
    clear H
    have H := H1
    clear H1
    have H' := Aside0.mk H
    clear H
    go_wp2_with (first | ((with_reducible refine gate_callee (f := 44) rfl ?_); refine goesL_ (some 14) rfl rfl Try.func44 (by kernel_rfl) rfl #[.slice A0 l0.length c0, .int .i64 a1] rfl (by (try simp only [List.map_toArray, List.map_cons, List.map_nil]); first | done | rfl | (simp only [List.length_drop, List.length_take]; rfl)) ?_; (with_reducible refine (spec_l1Given.calls k _ _ l0 a1 true _ ?side1 ?side2 A5.out).mono ?_); (case side1 => repeat (first | exact (Kd.C_below HR0.out HB.out) | (with_reducible refine Kd.C_alloc ?_ _) | (with_reducible refine Kd.C_drewN ?_ _) | (with_reducible refine Kd.C_drew ?_))); (case side2 => exact HC0.out); rintro e w11 ⟨rfl, hb⟩; refine ⟨_, rfl, ?_⟩; have n0_ := Aside0.mk (below_step (by repeat (first | (with_reducible first | exact HB.out | apply below_alloc | apply pw_below_drewN | apply below_drew1) | exact HB.out)) hb); clear HB; have HB := n0_; clear n0_; (try clear hb); (try clear hb2); (try clear hk); (try clear hi)) | (go_at_call 44; (with_reducible refine (spec_l1Given.calls k _ _ l0 a2 false _ ?side1 ?side2 A7.out).mono ?_); (case side1 => repeat (first | exact (Kd.C_below HR0.out HB.out) | (with_reducible refine Kd.C_alloc ?_ _) | (with_reducible refine Kd.C_drewN ?_ _) | (with_reducible refine Kd.C_drew ?_))); (case side2 => exact HC0.out); rintro e w12 ⟨rfl, hb⟩; have n0_ := Aside0.mk (below_step (by repeat (first | (with_reducible first | exact HB.out | apply below_alloc | apply pw_below_drewN | apply below_drew1) | exact HB.out)) hb); clear HB; have HB := n0_; clear n0_; (try clear hb); (try clear hb2); (try clear hk); (try clear hi)))
    go_meet
    case rel => exact ⟨_, (true), (by first | rfl | (simp; done) | (simp [*]; done)), H', ⟨by first | omega | exact Nat.le_refl _⟩, ⟨by repeat (first | (with_reducible first | exact HB.out | apply below_alloc | apply pw_below_drewN | apply below_drew1) | exact HB.out)⟩⟩
  ·replace c6 := Bool.eq_false_iff.mpr c6
   subst c6
   have H1 : (spec_PlanMerge.j0 k l0 a1 a2 true) = some (r1, r2) := by rw [if_neg (show ¬ (false = true) by decide)] at H; exact H
   clear H
   have H := H1
   clear H1
   have H' := Aside0.mk H
   clear H
   go_wp2_with (first | ((with_reducible refine gate_callee (f := 44) rfl ?_); refine goesL_ (some 14) rfl rfl Try.func44 (by kernel_rfl) rfl #[.slice A0 l0.length c0, .int .i64 a1] rfl (by (try simp only [List.map_toArray, List.map_cons, List.map_nil]); first | done | rfl | (simp only [List.length_drop, List.length_take]; rfl)) ?_; (with_reducible refine (spec_l1Given.calls k _ _ l0 a1 false _ ?side1 ?side2 A5.out).mono ?_); (case side1 => repeat (first | exact (Kd.C_below HR0.out HB.out) | (with_reducible refine Kd.C_alloc ?_ _) | (with_reducible refine Kd.C_drewN ?_ _) | (with_reducible refine Kd.C_drew ?_))); (case side2 => exact HC0.out); rintro e w13 ⟨rfl, hb⟩; refine ⟨_, rfl, ?_⟩; have n0_ := Aside0.mk (below_step (by repeat (first | (with_reducible first | exact HB.out | apply below_alloc | apply pw_below_drewN | apply below_drew1) | exact HB.out)) hb); clear HB; have HB := n0_; clear n0_; (try clear hb); (try clear hb2); (try clear hk); (try clear hi)))
   go_meet
   case rel => exact ⟨_, (true), (by first | rfl | (simp; done) | (simp [*]; done)), H', ⟨by first | omega | exact Nat.le_refl _⟩, ⟨by repeat (first | (with_reducible first | exact HB.out | apply below_alloc | apply pw_below_drewN | apply below_drew1) | exact HB.out)⟩⟩
 case rest =>
  clear HC4
  try clear c1
  try clear p2
  try clear c4
  try clear c6
  try clear c8
  obtain ⟨kq, x26_3, rfl, HA, HJ3, HB⟩ := hcut
  cases kq with
  | zero => exact absurd HA.out (by simp [spec_PlanMerge.j0])
  | succ kj3 =>
   have H := HA.out
   clear HA
   simp only [spec_PlanMerge.j0] at H
   by_cases c14 : x26_3 = true
   ·subst c14
    have H1 : ((spec_l1None.f).bind fun bt185 => (some (bt185.1, bt185.2))) = some (r1, r2) := by rw [if_pos rfl] at H; exact H
    clear H
    have H := H1
    clear H1
    replace H := Option.bind_eq_some_iff.mp H
    obtain ⟨⟨t185, t186⟩, A150, H⟩ := H
    replace H : (some (t185, t186)) = some (r1, r2) := H
    have A15 := Aside0.mk A150
    clear A150
    simp only [Option.some.injEq, Prod.mk.injEq] at H
    obtain ⟨rfl, rfl⟩ := H
    go_wp2_with (first | ((with_reducible refine gate_callee (f := 45) rfl ?_); refine goesL_ (some 27) rfl rfl Try.func45 (by kernel_rfl) rfl #[] rfl (by (try simp only [List.map_toArray, List.map_cons, List.map_nil]); first | done | rfl | (simp only [List.length_drop, List.length_take]; rfl)) ?_; (with_reducible refine (spec_l1None.calls  t185 t186 _ A15.out).mono ?_); rintro e w16 ⟨v187, rfl, ho0, hb⟩; refine ⟨_, rfl, ?_⟩; have n0_ := Aside0.mk (Kd.R_lower ho0 (below_size (by repeat (first | (with_reducible first | exact HB.out | apply below_alloc | apply pw_below_drewN | apply below_drew1) | exact HB.out)))); have n1_ := Aside0.mk (below_step (by repeat (first | (with_reducible first | exact HB.out | apply below_alloc | apply pw_below_drewN | apply below_drew1) | exact HB.out)) hb); clear HB; have HO188 := n0_; have HB := n1_; clear n0_ n1_; (try clear hb); (try clear hb2); (try clear hk); (try clear hi); (try clear ho0)))
    go_ret2
    exact ⟨_, by first | rfl | (simp [errW_none, errW_some] <;> rfl) | (simp [*, errW_none, errW_some] <;> rfl), by (with_reducible repeat (first | apply Kd.R_alloc | apply Kd.R_drewN | apply Kd.R_drew)); exact HO188.out, by repeat (first | (with_reducible first | exact HB.out | apply below_alloc | apply pw_below_drewN | apply below_drew1) | exact HB.out)⟩
   ·replace c14 := Bool.eq_false_iff.mpr c14
    subst c14
    have H1 : ((spec_l1Room.f kj3 l0 a2).bind fun bt189 => ((spec_l1Put.f l0 bt189.1 bt189.2.1 bt189.2.2.1 bt189.2.2.2 ((wrap64 (97 + a1)) % 256)).bind fun t193 => ((spec_l1Done.f kj3 t193).bind fun bt196 => (some (bt196.1, bt196.2))))) = some (r1, r2) := by rw [if_neg (show ¬ (false = true) by decide)] at H; exact H
    clear H
    have H := H1
    clear H1
    replace H := Option.bind_eq_some_iff.mp H
    obtain ⟨⟨t189, t190, t191, t192⟩, A170, H⟩ := H
    replace H : ((spec_l1Put.f l0 t189 t190 t191 t192 ((wrap64 (97 + a1)) % 256)).bind fun t193 => ((spec_l1Done.f kj3 t193).bind fun bt196 => (some (bt196.1, bt196.2)))) = some (r1, r2) := H
    have A17 := Aside0.mk A170
    clear A170
    replace H := Option.bind_eq_some_iff.mp H
    obtain ⟨t193, A180, H⟩ := H
    replace H : ((spec_l1Done.f kj3 t193).bind fun bt196 => (some (bt196.1, bt196.2))) = some (r1, r2) := H
    have A18 := Aside0.mk A180
    clear A180
    replace H := Option.bind_eq_some_iff.mp H
    obtain ⟨⟨t196, t197⟩, A190, H⟩ := H
    replace H : (some (t196, t197)) = some (r1, r2) := H
    have A19 := Aside0.mk A190
    clear A190
    simp only [Option.some.injEq, Prod.mk.injEq] at H
    obtain ⟨rfl, rfl⟩ := H
    go_wp2_with (first | ((with_reducible refine gate_callee (f := 46) rfl ?_); refine goesL_ (some 33) rfl rfl Try.func46 (by kernel_rfl) rfl #[.slice A0 l0.length c0, .int .i64 a2] rfl (by (try simp only [List.map_toArray, List.map_cons, List.map_nil]); first | done | rfl | (simp only [List.length_drop, List.length_take]; rfl)) ?_; (with_reducible refine (spec_l1Room.calls kj3 _ _ l0 a2 t189 t190 t191 t192 _ ?side1 ?side2 A17.out).mono ?_); (case side1 => repeat (first | exact (Kd.C_below HR0.out HB.out) | (with_reducible refine Kd.C_alloc ?_ _) | (with_reducible refine Kd.C_drewN ?_ _) | (with_reducible refine Kd.C_drew ?_))); (case side2 => exact HC0.out); rintro e w20 ⟨rfl, hb⟩; refine ⟨_, rfl, ?_⟩; have n0_ := Aside0.mk (below_step (by repeat (first | (with_reducible first | exact HB.out | apply below_alloc | apply pw_below_drewN | apply below_drew1) | exact HB.out)) hb); clear HB; have HB := n0_; clear n0_; (try clear hb); (try clear hb2); (try clear hk); (try clear hi)) | ((with_reducible refine gate_callee (f := 48) rfl ?_); refine goesL_ (some 46) rfl rfl Try.func48 (by kernel_rfl) rfl #[.slice A0 l0.length c0, .int .i64 t189, .int .i64 t190, .int .i64 t191, .int .i64 t192, .int .u8 ((wrap64 (97 + a1)) % 256)] rfl (by (try simp only [List.map_toArray, List.map_cons, List.map_nil]); first | done | rfl | (simp only [List.length_drop, List.length_take]; rfl)) ?_; (with_reducible refine (spec_l1Put.calls _ _ l0 t189 t190 t191 t192 ((wrap64 (97 + a1)) % 256) t193 _ ?side1 ?side2 A18.out).mono ?_); (case side1 => repeat (first | exact (Kd.C_below HR0.out HB.out) | (with_reducible refine Kd.C_alloc ?_ _) | (with_reducible refine Kd.C_drewN ?_ _) | (with_reducible refine Kd.C_drew ?_))); (case side2 => exact HC0.out); rintro e w21 ⟨v194, rfl, ho0, hb⟩; refine ⟨_, rfl, ?_⟩; have n0_ := Aside0.mk (Kd.R_lower ho0 (below_size (by repeat (first | (with_reducible first | exact HB.out | apply below_alloc | apply pw_below_drewN | apply below_drew1) | exact HB.out)))); have n1_ := Aside0.mk (below_step (by repeat (first | (with_reducible first | exact HB.out | apply below_alloc | apply pw_below_drewN | apply below_drew1) | exact HB.out)) hb); clear HB; have HO195 := n0_; have HB := n1_; clear n0_ n1_; (try clear hb); (try clear hb2); (try clear hk); (try clear hi); (try clear ho0); obtain ⟨Ao22, co22, eo22⟩ := Kd.R_slice HO195.out; subst eo22) | ((with_reducible refine gate_callee (f := 47) rfl ?_); refine goesL_ (some 47) rfl rfl Try.func47 (by kernel_rfl) rfl #[.slice Ao22 t193.length co22] rfl (by (try simp only [List.map_toArray, List.map_cons, List.map_nil]); first | done | rfl | (simp only [List.length_drop, List.length_take]; rfl)) ?_; (with_reducible refine (spec_l1Done.calls kj3 _ _ t193 t196 t197 _ ?side1 ?side2 A19.out).mono ?_); (case side1 => repeat (first | exact (Kd.R_reads' HO195.out).2.2 | (with_reducible refine Kd.C_alloc ?_ _) | (with_reducible refine Kd.C_drewN ?_ _) | (with_reducible refine Kd.C_drew ?_))); (case side2 => exact (Kd.R_reads' HO195.out).2.1); rintro e w23 ⟨v198, rfl, ho0, hb⟩; refine ⟨_, rfl, ?_⟩; have n0_ := Aside0.mk (Kd.R_elder' (by (with_reducible repeat (first | apply Kd.R_alloc | apply Kd.R_drewN | apply Kd.R_drew)); exact HO195.out) (Kd.R_base ho0) hb); have n1_ := Aside0.mk (Kd.R_lower (Kd.R_new' ho0 (Kd.R_lt (by (with_reducible repeat (first | apply Kd.R_alloc | apply Kd.R_drewN | apply Kd.R_drew)); exact HO195.out))) (below_size (by repeat (first | (with_reducible first | exact HB.out | apply below_alloc | apply pw_below_drewN | apply below_drew1) | exact HB.out)))); have n2_ := Aside0.mk (below_step (by repeat (first | (with_reducible first | exact HB.out | apply below_alloc | apply pw_below_drewN | apply below_drew1) | exact HB.out)) hb); clear HO195; clear HB; have HO195 := n0_; have HO199 := n1_; have HB := n2_; clear n0_ n1_ n2_; (try clear hb); (try clear hb2); (try clear hk); (try clear hi); (try clear ho0)))
    go_ret2
    exact ⟨_, by first | rfl | (simp [errW_none, errW_some] <;> rfl) | (simp [*, errW_none, errW_some] <;> rfl), by (with_reducible repeat (first | apply Kd.R_alloc | apply Kd.R_drewN | apply Kd.R_drew)); exact Kd.R_mono HO199.out (fun _ hk => trivial), by repeat (first | (with_reducible first | exact HB.out | apply below_alloc | apply pw_below_drewN | apply below_drew1) | exact HB.out)⟩
end Go.Proofs.Ytjaolkfjpnpglaa.SM
namespace Go.Proofs.Ytjaolkfjpnpglaa.LM
open Go.Proofs.Ytjaolkfjpnpglaa.PB Go.Proofs.Ytjaolkfjpnpglaa.Hd Go.Proofs.Ytjaolkfjpnpglaa.SM
open Go.RowKit Go.Proofs.YtjaolkfjpnpglaaW.PrintWords Go.Proofs.YtjaolkfjpnpglaaW.PrintLast Go.Proofs.YtjaolkfjpnpglaaW.PrintMore
attribute [local go_sem] max2_int min2_int max_two min_two max_three min_three max_four min_four   -- for this text's walks alone
set_option linter.unusedVariables false
set_option linter.unusedSimpArgs false
def errW : Option Int → Value
 | none => .nilIface
 | some c => .iface 0 (.int .i64 c)
theorem errW_none : errW none = .nilIface := rfl
theorem errW_some (c : Int) : errW (some c) = .iface 0 (.int .i64 c) := rfl
theorem info5 : (Try.prog.info? 5).map (fun i => (i.zero, i.size, i.bytes)) = some (some (.int .u8 0), 1, 1) := by kernel_rfl
theorem info9 : (Try.prog.info? 9).map (fun i => (i.zero, i.size, i.bytes)) = some (some (.string ⟨#[]⟩), 1, 16) := by kernel_rfl
def rd_L3 (xs : List (List Int)) (i : Int) : (List Int) := xs.getD i.toNat ([] : List Int)
theorem at_L3 {w : World} {A : Option Addr} {n : Nat} {xs : List (List Int)} (h : Kd.C (Kd.slice 3 (Kd.int .i64)) w A n xs) (i : Int) (h0 : 0 ≤ i) (h1 : i < n) : ∃ ad A0 c0, A = some ad ∧ w.cell? (ad.add i.toNat) = some (.slice A0 (rd_L3 xs i).length c0) ∧ (rd_L3 xs i).length ≤ c0 ∧ (Kd.int .i64).C w A0 (rd_L3 xs i).length (rd_L3 xs i) := by
 obtain ⟨ad, c, e, _, hK, hc0⟩ := Kd.C_get h ([] : List Int) i h0 h1
 have hc : ∀ j u, c[j]? = some u → w.cell? (ad.add (i.toNat * 1 + j)) = some u := hc0
 obtain ⟨A0, c0, rfl, l0, g0⟩ := hK
 exact ⟨ad, A0, c0, e, by have hq := hc 0 _ rfl; rwa [Nat.mul_one, Nat.add_zero] at hq, l0, g0⟩
structure S73 where
 f0 : Int
 f1 : Int
 f2 : Int
 f3 : Int
def z73 : S73 := ⟨(0 : Int), (0 : Int), (0 : Int), (0 : Int)⟩
def k73 : Kd S73 := Kd.iso (Kd.pair (Kd.int .i64) (Kd.pair (Kd.int .i64) (Kd.pair (Kd.int .i64) (Kd.int .i64)))) (fun x : S73 => (x.f0, x.f1, x.f2, x.f3))
theorem k73_open {w : World} {x : S73} {cs : List Value} (h : k73.K w x cs) : cs = [.int .i64 x.f0, .int .i64 x.f1, .int .i64 x.f2, .int .i64 x.f3] := by
 obtain ⟨_, _, rfl, rfl, ⟨_, _, rfl, rfl, ⟨_, _, rfl, rfl, rfl⟩⟩⟩ := h
 exact rfl
theorem k73_mkM (w : World) (base : Nat) (ok : Nat → Prop) (x : S73)  : k73.M w base ok x [.int .i64 x.f0, .int .i64 x.f1, .int .i64 x.f2, .int .i64 x.f3] := ⟨[.int .i64 x.f0], [.int .i64 x.f1, .int .i64 x.f2, .int .i64 x.f3], rfl, rfl, ⟨[.int .i64 x.f1], [.int .i64 x.f2, .int .i64 x.f3], rfl, rfl, ⟨[.int .i64 x.f2], [.int .i64 x.f3], rfl, rfl, rfl⟩⟩⟩
def rd_T73 (xs : List S73) (i : Int) : S73 := xs.getD i.toNat z73
theorem at_T73 {w : World} {A : Option Addr} {n : Nat} {xs : List S73} (h : Kd.C k73 w A n xs) (i : Int) (h0 : 0 ≤ i) (h1 : i < n) : ∃ ad , A = some ad ∧ w.cell? (ad.add (i.toNat * 4)) = some (.int .i64 (rd_T73 xs i).f0) ∧ w.cell? ⟨(ad.add (i.toNat * 4)).block, (ad.add (i.toNat * 4)).off + 1, none⟩ = some (.int .i64 (rd_T73 xs i).f1) ∧ w.cell? ⟨(ad.add (i.toNat * 4)).block, (ad.add (i.toNat * 4)).off + 2, none⟩ = some (.int .i64 (rd_T73 xs i).f2) ∧ w.cell? ⟨(ad.add (i.toNat * 4)).block, (ad.add (i.toNat * 4)).off + 3, none⟩ = some (.int .i64 (rd_T73 xs i).f3) := by
 obtain ⟨ad, c, e, _, hK, hc0⟩ := Kd.C_get h z73 i h0 h1
 have hc : ∀ j u, c[j]? = some u → w.cell? (ad.add (i.toNat * 4 + j)) = some u := hc0
 obtain rfl := k73_open hK
 exact ⟨ad, e, hc 0 _ rfl, by rw [← add_field _ _ 1 (by omega)]; exact hc 1 _ rfl, by rw [← add_field _ _ 2 (by omega)]; exact hc 2 _ rfl, by rw [← add_field _ _ 3 (by omega)]; exact hc 3 _ rfl⟩
end Go.Proofs.Ytjaolkfjpnpglaa.LM
namespace Go.Proofs.Ytjaolkfjpnpglaa.LM
open Go.Proofs.Ytjaolkfjpnpglaa.PB Go.Proofs.Ytjaolkfjpnpglaa.Hd Go.Proofs.Ytjaolkfjpnpglaa.SM
open Go.RowKit Go.Proofs.YtjaolkfjpnpglaaW.PrintWords Go.Proofs.YtjaolkfjpnpglaaW.PrintLast Go.Proofs.YtjaolkfjpnpglaaW.PrintMore
attribute [local go_sem] max2_int min2_int max_two min_two max_three min_three max_four min_four   -- for this text's walks alone
set_option linter.unusedVariables false
set_option linter.unusedSimpArgs false
mutual
def laws_FnExactPlanMerge.j0 : Nat → List ByteArray → Int → Int → List ByteArray → Bool → List ByteArray → List ByteArray → Bool → Bool → Option (Bool)
 | 0, _, _, _, _, _, _, _, _, _ => none
 | k + 1, x0, x1, x2, x8, x9, x10, x11, x12, x48 => if x48 = true then (some false) else ((laws_toStringS.f k x0).bind fun t240 => ((laws_eqStringS.f k x10 t240).bind fun t243 => (if t243 = true then ((laws_markStringS.f k x10 1).bind fun bt244 => (if bt244.1 < 0 then (laws_FnExactPlanMerge.j1 k x0 x1 x2 x8 x9 x11 true) else ((laws_eqStringS.f k x11 x8).bind fun t246 => (if t246 = true then (laws_FnExactPlanMerge.j1 k x0 x1 x2 x8 x9 x11 (x12 != x9)) else (laws_FnExactPlanMerge.j1 k x0 x1 x2 x8 x9 x11 true))))) else (some false))))
def laws_FnExactPlanMerge.j1 : Nat → List ByteArray → Int → Int → List ByteArray → Bool → List ByteArray → Bool → Option (Bool)
 | 0, _, _, _, _, _, _, _ => none
 | k + 1, x0, x1, x2, x8, x9, x11, x69 => if x69 = true then (some false) else ((laws_markStringS.f k x11 1).bind fun bt247 => ((laws_heldStringS.f k bt247.2 1).bind fun t249 => (if t249 < 0 then (some false) else (if t249 = bt247.1 then ((laws_toStringS.f k x0).bind fun t250 => ((impl_PlanMerge.f t250 x1 x2).bind fun bt253 => ((laws_eqStringS.f k bt253.1 x8).bind fun t257 => (if t257 = true then (laws_FnExactPlanMerge.j2 k bt247.2 bt247.1 (bt253.2 != x9)) else (laws_FnExactPlanMerge.j2 k bt247.2 bt247.1 true))))) else (some false)))))
def laws_FnExactPlanMerge.j2 : Nat → List ByteArray → Int → Bool → Option (Bool)
 | 0, _, _, _ => none
 | k + 1, x11, x14, x97 => if x97 = true then (some false) else ((laws_heldStringS.f k x11 1).bind fun t258 => (if t258 < 0 then (some false) else (if t258 = x14 then (some true) else (some false))))
end
def laws_FnExactPlanMerge.f (k : Nat) (l0 : List ByteArray) (a1 : Int) (a2 : Int) : Option (Bool) := (laws_szStringS.f k l0 1048576).bind fun t224 => (if t224 < 0 then (some true) else ((laws_toStringS.f k l0).bind fun t225 => ((spec_PlanMerge.f k t225 a1 a2).bind fun bt228 => ((laws_toStringS.f k l0).bind fun t232 => ((impl_PlanMerge.f t232 a1 a2).bind fun bt235 => ((laws_eqStringS.f k bt235.1 bt228.1).bind fun t239 => (if t239 = true then (laws_FnExactPlanMerge.j0 k l0 a1 a2 bt228.1 bt228.2 t232 bt235.1 bt235.2 (bt235.2 != bt228.2)) else (laws_FnExactPlanMerge.j0 k l0 a1 a2 bt228.1 bt228.2 t232 bt235.1 bt235.2 true))))))))
set_option maxHeartbeats 8000000 in
set_option maxRecDepth 100000 in
theorem laws_FnExactPlanMerge.calls (k : Nat) (A0 : Option Addr) (c0 : Nat) (l0 : List ByteArray) (a1 : Int) (a2 : Int) (r : Bool) (w : World) (hr0 : Kd.C Kd.string w A0 l0.length l0) (hc0 : l0.length ≤ c0) (h : laws_FnExactPlanMerge.f k l0 a1 a2 = some r) :
  Calls Try.prog 3 #[.slice A0 l0.length c0, .int .i64 a1, .int .i64 a2] w fun e w' => e = .returned (.bool r) ∧ Below w.heap.size w w' := by
 have HR0 := Aside0.mk hr0
 have HC0 := Aside0.mk hc0
 clear hr0 hc0
 have HB := Aside0.mk (Below.refl w.heap.size w)
 have H : ((laws_szStringS.f k l0 1048576).bind fun t224 => (if t224 < 0 then (some true) else ((laws_toStringS.f k l0).bind fun t225 => ((spec_PlanMerge.f k t225 a1 a2).bind fun bt228 => ((laws_toStringS.f k l0).bind fun t232 => ((impl_PlanMerge.f t232 a1 a2).bind fun bt235 => ((laws_eqStringS.f k bt235.1 bt228.1).bind fun t239 => (if t239 = true then (laws_FnExactPlanMerge.j0 k l0 a1 a2 bt228.1 bt228.2 t232 bt235.1 bt235.2 (bt235.2 != bt228.2)) else (laws_FnExactPlanMerge.j0 k l0 a1 a2 bt228.1 bt228.2 t232 bt235.1 bt235.2 true))))))))) = some r := h
 clear h
 replace H := Option.bind_eq_some_iff.mp H
 obtain ⟨t224, A40, H⟩ := H
 replace H : (if t224 < 0 then (some true) else ((laws_toStringS.f k l0).bind fun t225 => ((spec_PlanMerge.f k t225 a1 a2).bind fun bt228 => ((laws_toStringS.f k l0).bind fun t232 => ((impl_PlanMerge.f t232 a1 a2).bind fun bt235 => ((laws_eqStringS.f k bt235.1 bt228.1).bind fun t239 => (if t239 = true then (laws_FnExactPlanMerge.j0 k l0 a1 a2 bt228.1 bt228.2 t232 bt235.1 bt235.2 (bt235.2 != bt228.2)) else (laws_FnExactPlanMerge.j0 k l0 a1 a2 bt228.1 bt228.2 t232 bt235.1 bt235.2 true)))))))) = some r := H
 have A4 := Aside0.mk A40
 clear A40
 by_cases c5 : t224 < 0
 ·rw [if_pos c5] at H
  have c5b0 : decide (t224 < 0) = true := decide_eq_true c5
  clear c5
  obtain rfl := Option.some.inj H
  go_enter Try.func3, Try.ntmps3
  go_wp2_with (first | ((with_reducible refine gate_callee (f := 15) rfl ?_); refine goesL_ (some 20) rfl rfl Try.func15 (by kernel_rfl) rfl #[.slice A0 l0.length c0, .int .i64 1048576] rfl (by (try simp only [List.map_toArray, List.map_cons, List.map_nil]); first | done | rfl | (simp only [List.length_drop, List.length_take]; rfl)) ?_; (with_reducible refine (laws_szStringS.calls k _ _ l0 1048576 t224 _ ?side1 ?side2 A4.out).mono ?_); (case side1 => repeat (first | exact HR0.out | (with_reducible refine Kd.C_alloc ?_ _) | (with_reducible refine Kd.C_drewN ?_ _) | (with_reducible refine Kd.C_drew ?_))); (case side2 => exact HC0.out); rintro e w' ⟨rfl, ⟨nd, rfl⟩⟩; refine ⟨_, rfl, ?_⟩))
  go_ret
  exact ⟨by first | rfl | (simp [errW_none, errW_some] <;> rfl) | (simp [*, errW_none, errW_some] <;> rfl), by repeat (first | (with_reducible first | exact HB.out | apply below_alloc | apply pw_below_drewN | apply below_drew1) | exact HB.out)⟩
 ·rw [if_neg c5] at H
  have c5b0 : decide (t224 < 0) = false := decide_eq_false c5
  clear c5
  replace H := Option.bind_eq_some_iff.mp H
  obtain ⟨t225, A60, H⟩ := H
  replace H : ((spec_PlanMerge.f k t225 a1 a2).bind fun bt228 => ((laws_toStringS.f k l0).bind fun t232 => ((impl_PlanMerge.f t232 a1 a2).bind fun bt235 => ((laws_eqStringS.f k bt235.1 bt228.1).bind fun t239 => (if t239 = true then (laws_FnExactPlanMerge.j0 k l0 a1 a2 bt228.1 bt228.2 t232 bt235.1 bt235.2 (bt235.2 != bt228.2)) else (laws_FnExactPlanMerge.j0 k l0 a1 a2 bt228.1 bt228.2 t232 bt235.1 bt235.2 true)))))) = some r := H
  have A6 := Aside0.mk A60
  clear A60
  replace H := Option.bind_eq_some_iff.mp H
  obtain ⟨⟨t228, t229⟩, A70, H⟩ := H
  replace H : ((laws_toStringS.f k l0).bind fun t232 => ((impl_PlanMerge.f t232 a1 a2).bind fun bt235 => ((laws_eqStringS.f k bt235.1 t228).bind fun t239 => (if t239 = true then (laws_FnExactPlanMerge.j0 k l0 a1 a2 t228 t229 t232 bt235.1 bt235.2 (bt235.2 != t229)) else (laws_FnExactPlanMerge.j0 k l0 a1 a2 t228 t229 t232 bt235.1 bt235.2 true))))) = some r := H
  have A7 := Aside0.mk A70
  clear A70
  replace H := Option.bind_eq_some_iff.mp H
  obtain ⟨t232, A80, H⟩ := H
  replace H : ((impl_PlanMerge.f t232 a1 a2).bind fun bt235 => ((laws_eqStringS.f k bt235.1 t228).bind fun t239 => (if t239 = true then (laws_FnExactPlanMerge.j0 k l0 a1 a2 t228 t229 t232 bt235.1 bt235.2 (bt235.2 != t229)) else (laws_FnExactPlanMerge.j0 k l0 a1 a2 t228 t229 t232 bt235.1 bt235.2 true)))) = some r := H
  have A8 := Aside0.mk A80
  clear A80
  replace H := Option.bind_eq_some_iff.mp H
  obtain ⟨⟨t235, t236⟩, A90, H⟩ := H
  replace H : ((laws_eqStringS.f k t235 t228).bind fun t239 => (if t239 = true then (laws_FnExactPlanMerge.j0 k l0 a1 a2 t228 t229 t232 t235 t236 (t236 != t229)) else (laws_FnExactPlanMerge.j0 k l0 a1 a2 t228 t229 t232 t235 t236 true))) = some r := H
  have A9 := Aside0.mk A90
  clear A90
  have HC10 := Aside0.mk H
  clear H
  go_enter Try.func3, Try.ntmps3
  go_upto_region 8 with (first | ((with_reducible refine gate_callee (f := 15) rfl ?_); refine goesL_ (some 20) rfl rfl Try.func15 (by kernel_rfl) rfl #[.slice A0 l0.length c0, .int .i64 1048576] rfl (by (try simp only [List.map_toArray, List.map_cons, List.map_nil]); first | done | rfl | (simp only [List.length_drop, List.length_take]; rfl)) ?_; (with_reducible refine (laws_szStringS.calls k _ _ l0 1048576 t224 _ ?side1 ?side2 A4.out).mono ?_); (case side1 => repeat (first | exact HR0.out | (with_reducible refine Kd.C_alloc ?_ _) | (with_reducible refine Kd.C_drewN ?_ _) | (with_reducible refine Kd.C_drew ?_))); (case side2 => exact HC0.out); rintro e w' ⟨rfl, ⟨nd, rfl⟩⟩; refine ⟨_, rfl, ?_⟩) | ((with_reducible refine gate_callee (f := 17) rfl ?_); refine goesL_ (some 25) rfl rfl Try.func17 (by kernel_rfl) rfl #[.slice A0 l0.length c0] rfl (by (try simp only [List.map_toArray, List.map_cons, List.map_nil]); first | done | rfl | (simp only [List.length_drop, List.length_take]; rfl)) ?_; (with_reducible refine (laws_toStringS.calls k _ _ l0 t225 _ ?side1 ?side2 A6.out).mono ?_); (case side1 => repeat (first | exact HR0.out | (with_reducible refine Kd.C_alloc ?_ _) | (with_reducible refine Kd.C_drewN ?_ _) | (with_reducible refine Kd.C_drew ?_))); (case side2 => exact HC0.out); rintro e w11 ⟨v226, rfl, ho0, hb⟩; refine ⟨_, rfl, ?_⟩; have n0_ := Aside0.mk (Kd.R_lower ho0 (below_size (by repeat (first | (with_reducible first | exact HB.out | apply below_alloc | apply pw_below_drewN | apply below_drew1) | exact HB.out)))); have n1_ := Aside0.mk (below_step (by repeat (first | (with_reducible first | exact HB.out | apply below_alloc | apply pw_below_drewN | apply below_drew1) | exact HB.out)) hb); clear HB; have HO227 := n0_; have HB := n1_; clear n0_ n1_; (try clear hb); (try clear hb2); (try clear hk); (try clear hi); (try clear ho0); obtain ⟨Ao12, co12, eo12⟩ := Kd.R_slice HO227.out; subst eo12) | ((with_reducible refine gate_callee (f := 16) rfl ?_); refine goesL_ (some 28) rfl rfl Try.func16 (by kernel_rfl) rfl #[.slice Ao12 t225.length co12, .int .i64 a1, .int .i64 a2] rfl (by (try simp only [List.map_toArray, List.map_cons, List.map_nil]); first | done | rfl | (simp only [List.length_drop, List.length_take]; rfl)) ?_; (with_reducible refine (spec_PlanMerge.calls k _ _ t225 a1 a2 t228 t229 _ ?side1 ?side2 A7.out).mono ?_); (case side1 => repeat (first | exact (Kd.R_reads' HO227.out).2.2 | (with_reducible refine Kd.C_alloc ?_ _) | (with_reducible refine Kd.C_drewN ?_ _) | (with_reducible refine Kd.C_drew ?_))); (case side2 => exact (Kd.R_reads' HO227.out).2.1); rintro e w13 ⟨v230, rfl, ho0, hb⟩; refine ⟨_, rfl, ?_⟩; have n0_ := Aside0.mk (Kd.R_elder' (by (with_reducible repeat (first | apply Kd.R_alloc | apply Kd.R_drewN | apply Kd.R_drew)); exact HO227.out) (Kd.R_base ho0) hb); have n1_ := Aside0.mk (Kd.R_lower (Kd.R_new' ho0 (Kd.R_lt (by (with_reducible repeat (first | apply Kd.R_alloc | apply Kd.R_drewN | apply Kd.R_drew)); exact HO227.out))) (below_size (by repeat (first | (with_reducible first | exact HB.out | apply below_alloc | apply pw_below_drewN | apply below_drew1) | exact HB.out)))); have n2_ := Aside0.mk (below_step (by repeat (first | (with_reducible first | exact HB.out | apply below_alloc | apply pw_below_drewN | apply below_drew1) | exact HB.out)) hb); clear HO227; clear HB; have HO227 := n0_; have HO231 := n1_; have HB := n2_; clear n0_ n1_ n2_; (try clear hb); (try clear hb2); (try clear hk); (try clear hi); (try clear ho0)) | ((with_reducible refine gate_callee (f := 17) rfl ?_); refine goesL_ (some 32) rfl rfl Try.func17 (by kernel_rfl) rfl #[.slice A0 l0.length c0] rfl (by (try simp only [List.map_toArray, List.map_cons, List.map_nil]); first | done | rfl | (simp only [List.length_drop, List.length_take]; rfl)) ?_; (with_reducible refine (laws_toStringS.calls k _ _ l0 t232 _ ?side1 ?side2 A8.out).mono ?_); (case side1 => repeat (first | exact (Kd.C_below HR0.out HB.out) | (with_reducible refine Kd.C_alloc ?_ _) | (with_reducible refine Kd.C_drewN ?_ _) | (with_reducible refine Kd.C_drew ?_))); (case side2 => exact HC0.out); rintro e w14 ⟨v233, rfl, ho0, hb⟩; refine ⟨_, rfl, ?_⟩; have n0_ := Aside0.mk (Kd.R_elder' (by (with_reducible repeat (first | apply Kd.R_alloc | apply Kd.R_drewN | apply Kd.R_drew)); exact HO227.out) (Kd.R_base ho0) hb); have n1_ := Aside0.mk (Kd.R_elder' (by (with_reducible repeat (first | apply Kd.R_alloc | apply Kd.R_drewN | apply Kd.R_drew)); exact HO231.out) (Kd.R_base ho0) hb); have n2_ := Aside0.mk (Kd.R_lower (Kd.R_new' (Kd.R_new' ho0 (Kd.R_lt (by (with_reducible repeat (first | apply Kd.R_alloc | apply Kd.R_drewN | apply Kd.R_drew)); exact HO227.out))) (Kd.R_lt (by (with_reducible repeat (first | apply Kd.R_alloc | apply Kd.R_drewN | apply Kd.R_drew)); exact HO231.out))) (below_size (by repeat (first | (with_reducible first | exact HB.out | apply below_alloc | apply pw_below_drewN | apply below_drew1) | exact HB.out)))); have n3_ := Aside0.mk (below_step (by repeat (first | (with_reducible first | exact HB.out | apply below_alloc | apply pw_below_drewN | apply below_drew1) | exact HB.out)) hb); clear HO227; clear HO231; clear HB; have HO227 := n0_; have HO231 := n1_; have HO234 := n2_; have HB := n3_; clear n0_ n1_ n2_ n3_; (try clear hb); (try clear hb2); (try clear hk); (try clear hi); (try clear ho0); obtain ⟨Ao15, co15, eo15⟩ := Kd.R_slice HO234.out; subst eo15) | ((with_reducible refine gate_callee (f := 18) rfl ?_); refine goesL_ (some 37) rfl rfl Try.func18 (by kernel_rfl) rfl #[.slice Ao15 t232.length co15, .int .i64 a1, .int .i64 a2] rfl (by (try simp only [List.map_toArray, List.map_cons, List.map_nil]); first | done | rfl | (simp only [List.length_drop, List.length_take]; rfl)) ?_; (with_reducible refine (impl_PlanMerge.calls _ _ t232 a1 a2 t235 t236 _ ?side1 ?side2 A9.out).mono ?_); (case side1 => repeat (first | exact (Kd.R_reads' HO234.out).2.2 | (with_reducible refine Kd.C_alloc ?_ _) | (with_reducible refine Kd.C_drewN ?_ _) | (with_reducible refine Kd.C_drew ?_))); (case side2 => exact (Kd.R_reads' HO234.out).2.1); rintro e w16 ⟨v237, rfl, ho0, hb⟩; refine ⟨_, rfl, ?_⟩; have n0_ := Aside0.mk (Kd.R_elder' (by (with_reducible repeat (first | apply Kd.R_alloc | apply Kd.R_drewN | apply Kd.R_drew)); exact HO227.out) (Kd.R_base ho0) hb); have n1_ := Aside0.mk (Kd.R_elder' (by (with_reducible repeat (first | apply Kd.R_alloc | apply Kd.R_drewN | apply Kd.R_drew)); exact HO231.out) (Kd.R_base ho0) hb); have n2_ := Aside0.mk (Kd.R_elder' (by (with_reducible repeat (first | apply Kd.R_alloc | apply Kd.R_drewN | apply Kd.R_drew)); exact HO234.out) (Kd.R_base ho0) hb); have n3_ := Aside0.mk (Kd.R_lower (Kd.R_new' (Kd.R_new' (Kd.R_new' ho0 (Kd.R_lt (by (with_reducible repeat (first | apply Kd.R_alloc | apply Kd.R_drewN | apply Kd.R_drew)); exact HO227.out))) (Kd.R_lt (by (with_reducible repeat (first | apply Kd.R_alloc | apply Kd.R_drewN | apply Kd.R_drew)); exact HO231.out))) (Kd.R_lt (by (with_reducible repeat (first | apply Kd.R_alloc | apply Kd.R_drewN | apply Kd.R_drew)); exact HO234.out))) (below_size (by repeat (first | (with_reducible first | exact HB.out | apply below_alloc | apply pw_below_drewN | apply below_drew1) | exact HB.out)))); have n4_ := Aside0.mk (below_step (by repeat (first | (with_reducible first | exact HB.out | apply below_alloc | apply pw_below_drewN | apply below_drew1) | exact HB.out)) hb); clear HO227; clear HO231; clear HO234; clear HB; have HO227 := n0_; have HO231 := n1_; have HO234 := n2_; have HO238 := n3_; have HB := n4_; clear n0_ n1_ n2_ n3_ n4_; (try clear hb); (try clear hb2); (try clear hk); (try clear hi); (try clear ho0)))
  (try simp only [Act.put, List.setIfInBounds_toArray, List.set_cons_zero, List.set_cons_succ])
  go_cut [48] (fun v48 wc => ∃ (kq : Nat) (x48_9 : Bool), v48 = .bool x48_9 ∧ Aside0 (laws_FnExactPlanMerge.j0 kq l0 a1 a2 t228 t229 t232 t235 t236 x48_9 = some r) ∧ Aside0 (kq ≤ k) ∧ Aside0 (Kd.R Kd.string 9 wc w.heap.size (fun k_ => some k_ ≠ ((.slice Ao15 t232.length co15) : Value).ownBlock ∧ some k_ ≠ (v237 : Value).ownBlock) v230 t228) ∧ Aside0 (Kd.R Kd.string 9 wc w.heap.size (fun k_ => some k_ ≠ (v230 : Value).ownBlock ∧ some k_ ≠ (v237 : Value).ownBlock) (.slice Ao15 t232.length co15) t232) ∧ Aside0 (Kd.R Kd.string 9 wc w.heap.size (fun k_ => some k_ ≠ (v230 : Value).ownBlock ∧ some k_ ≠ ((.slice Ao15 t232.length co15) : Value).ownBlock) v237 t235) ∧ Aside0 (Below w.heap.size w wc))
  case first =>
   have H := HC10.out
   clear HC10
   replace H := Option.bind_eq_some_iff.mp H
   obtain ⟨t239, A170, H⟩ := H
   replace H : (if t239 = true then (laws_FnExactPlanMerge.j0 k l0 a1 a2 t228 t229 t232 t235 t236 (t236 != t229)) else (laws_FnExactPlanMerge.j0 k l0 a1 a2 t228 t229 t232 t235 t236 true)) = some r := H
   have A17 := Aside0.mk A170
   clear A170
   by_cases c18 : t239 = true
   ·subst c18
    have H1 : (laws_FnExactPlanMerge.j0 k l0 a1 a2 t228 t229 t232 t235 t236 (t236 != t229)) = some r := by rw [if_pos rfl] at H; exact H
    clear H
    have H := H1
    clear H1
    have H' := Aside0.mk H
    clear H
    obtain ⟨Ao19, co19, eo19⟩ := Kd.R_slice HO238.out
    subst eo19
    obtain ⟨Ao20, co20, eo20⟩ := Kd.R_slice HO231.out
    subst eo20
    go_wp2_with (first | ((with_reducible refine gate_callee (f := 19) rfl ?_); refine goesL_ (some 42) rfl rfl Try.func19 (by kernel_rfl) rfl #[.slice Ao19 t235.length co19, .slice Ao20 t228.length co20] rfl (by (try simp only [List.map_toArray, List.map_cons, List.map_nil]); first | done | rfl | (simp only [List.length_drop, List.length_take]; rfl)) ?_; (with_reducible refine (laws_eqStringS.calls k _ _ t235 _ _ t228 true _ ?side1 ?side2 ?side3 ?side4 A17.out).mono ?_); (case side1 => repeat (first | exact (Kd.R_reads' HO238.out).2.2 | (with_reducible refine Kd.C_alloc ?_ _) | (with_reducible refine Kd.C_drewN ?_ _) | (with_reducible refine Kd.C_drew ?_))); (case side2 => exact (Kd.R_reads' HO238.out).2.1); (case side3 => repeat (first | exact (Kd.R_reads' HO231.out).2.2 | (with_reducible refine Kd.C_alloc ?_ _) | (with_reducible refine Kd.C_drewN ?_ _) | (with_reducible refine Kd.C_drew ?_))); (case side4 => exact (Kd.R_reads' HO231.out).2.1); rintro e w' ⟨rfl, ⟨nd, rfl⟩⟩; refine ⟨_, rfl, ?_⟩))
    go_meet
    case rel => exact ⟨_, ((t236 != t229)), (by first | rfl | (simp; done) | (simp [*]; done)), H', ⟨by first | omega | exact Nat.le_refl _⟩, ⟨by (with_reducible repeat (first | apply Kd.R_alloc | apply Kd.R_drewN | apply Kd.R_drew)); exact Kd.R_mono HO231.out (fun _ hk => ⟨hk.1.2, hk.2⟩)⟩, ⟨by (with_reducible repeat (first | apply Kd.R_alloc | apply Kd.R_drewN | apply Kd.R_drew)); exact Kd.R_mono HO234.out (fun _ hk => ⟨hk.1.2, hk.2⟩)⟩, ⟨by (with_reducible repeat (first | apply Kd.R_alloc | apply Kd.R_drewN | apply Kd.R_drew)); exact Kd.R_mono HO238.out (fun _ hk => ⟨hk.1.2, hk.2⟩)⟩, ⟨by repeat (first | (with_reducible first | exact HB.out | apply below_alloc | apply pw_below_drewN | apply below_drew1) | exact HB.out)⟩⟩
   ·replace c18 := Bool.eq_false_iff.mpr c18
    subst c18
    have H1 : (laws_FnExactPlanMerge.j0 k l0 a1 a2 t228 t229 t232 t235 t236 true) = some r := by rw [if_neg (show ¬ (false = true) by decide)] at H; exact H
    clear H
    have H := H1
    clear H1
    have H' := Aside0.mk H
    clear H
    obtain ⟨Ao21, co21, eo21⟩ := Kd.R_slice HO238.out
    subst eo21
    obtain ⟨Ao22, co22, eo22⟩ := Kd.R_slice HO231.out
    subst eo22
    go_wp2_with (first | ((with_reducible refine gate_callee (f := 19) rfl ?_); refine goesL_ (some 42) rfl rfl Try.func19 (by kernel_rfl) rfl #[.slice Ao21 t235.length co21, .slice Ao22 t228.length co22] rfl (by (try simp only [List.map_toArray, List.map_cons, List.map_nil]); first | done | rfl | (simp only [List.length_drop, List.length_take]; rfl)) ?_; (with_reducible refine (laws_eqStringS.calls k _ _ t235 _ _ t228 false _ ?side1 ?side2 ?side3 ?side4 A17.out).mono ?_); (case side1 => repeat (first | exact (Kd.R_reads' HO238.out).2.2 | (with_reducible refine Kd.C_alloc ?_ _) | (with_reducible refine Kd.C_drewN ?_ _) | (with_reducible refine Kd.C_drew ?_))); (case side2 => exact (Kd.R_reads' HO238.out).2.1); (case side3 => repeat (first | exact (Kd.R_reads' HO231.out).2.2 | (with_reducible refine Kd.C_alloc ?_ _) | (with_reducible refine Kd.C_drewN ?_ _) | (with_reducible refine Kd.C_drew ?_))); (case side4 => exact (Kd.R_reads' HO231.out).2.1); rintro e w' ⟨rfl, ⟨nd, rfl⟩⟩; refine ⟨_, rfl, ?_⟩))
    go_meet
    case rel => exact ⟨_, (true), (by first | rfl | (simp; done) | (simp [*]; done)), H', ⟨by first | omega | exact Nat.le_refl _⟩, ⟨by (with_reducible repeat (first | apply Kd.R_alloc | apply Kd.R_drewN | apply Kd.R_drew)); exact Kd.R_mono HO231.out (fun _ hk => ⟨hk.1.2, hk.2⟩)⟩, ⟨by (with_reducible repeat (first | apply Kd.R_alloc | apply Kd.R_drewN | apply Kd.R_drew)); exact Kd.R_mono HO234.out (fun _ hk => ⟨hk.1.2, hk.2⟩)⟩, ⟨by (with_reducible repeat (first | apply Kd.R_alloc | apply Kd.R_drewN | apply Kd.R_drew)); exact Kd.R_mono HO238.out (fun _ hk => ⟨hk.1.2, hk.2⟩)⟩, ⟨by repeat (first | (with_reducible first | exact HB.out | apply below_alloc | apply pw_below_drewN | apply below_drew1) | exact HB.out)⟩⟩
  case rest =>
   clear HC10
   try clear c1
   try clear p2
   try clear c3
   try clear c5
   try clear c5b0
   try clear c15
   try clear c16
   try clear c17
   try clear c18
   try clear c19
   obtain ⟨kq, x48_9, rfl, HA, HJ9, HO_8, HO_10, HO_11, HB⟩ := hcut
   cases kq with
   | zero => exact absurd HA.out (by simp [laws_FnExactPlanMerge.j0])
   | succ kj9 =>
    have H := HA.out
    clear HA
    simp only [laws_FnExactPlanMerge.j0] at H
    by_cases c23 : x48_9 = true
    ·subst c23
     have H1 : (some false) = some r := by rw [if_pos rfl] at H; exact H
     clear H
     have H := H1
     clear H1
     obtain rfl := Option.some.inj H
     go_wp2
     go_ret
     exact ⟨by first | rfl | (simp [errW_none, errW_some] <;> rfl) | (simp [*, errW_none, errW_some] <;> rfl), by repeat (first | (with_reducible first | exact HB.out | apply below_alloc | apply pw_below_drewN | apply below_drew1) | exact HB.out)⟩
    ·replace c23 := Bool.eq_false_iff.mpr c23
     subst c23
     have H1 : ((laws_toStringS.f kj9 l0).bind fun t240 => ((laws_eqStringS.f kj9 t232 t240).bind fun t243 => (if t243 = true then ((laws_markStringS.f kj9 t232 1).bind fun bt244 => (if bt244.1 < 0 then (laws_FnExactPlanMerge.j1 kj9 l0 a1 a2 t228 t229 t235 true) else ((laws_eqStringS.f kj9 t235 t228).bind fun t246 => (if t246 = true then (laws_FnExactPlanMerge.j1 kj9 l0 a1 a2 t228 t229 t235 (t236 != t229)) else (laws_FnExactPlanMerge.j1 kj9 l0 a1 a2 t228 t229 t235 true))))) else (some false)))) = some r := by rw [if_neg (show ¬ (false = true) by decide)] at H; exact H
     clear H
     have H := H1
     clear H1
     replace H := Option.bind_eq_some_iff.mp H
     obtain ⟨t240, A240, H⟩ := H
     replace H : ((laws_eqStringS.f kj9 t232 t240).bind fun t243 => (if t243 = true then ((laws_markStringS.f kj9 t232 1).bind fun bt244 => (if bt244.1 < 0 then (laws_FnExactPlanMerge.j1 kj9 l0 a1 a2 t228 t229 t235 true) else ((laws_eqStringS.f kj9 t235 t228).bind fun t246 => (if t246 = true then (laws_FnExactPlanMerge.j1 kj9 l0 a1 a2 t228 t229 t235 (t236 != t229)) else (laws_FnExactPlanMerge.j1 kj9 l0 a1 a2 t228 t229 t235 true))))) else (some false))) = some r := H
     have A24 := Aside0.mk A240
     clear A240
     replace H := Option.bind_eq_some_iff.mp H
     obtain ⟨t243, A250, H⟩ := H
     replace H : (if t243 = true then ((laws_markStringS.f kj9 t232 1).bind fun bt244 => (if bt244.1 < 0 then (laws_FnExactPlanMerge.j1 kj9 l0 a1 a2 t228 t229 t235 true) else ((laws_eqStringS.f kj9 t235 t228).bind fun t246 => (if t246 = true then (laws_FnExactPlanMerge.j1 kj9 l0 a1 a2 t228 t229 t235 (t236 != t229)) else (laws_FnExactPlanMerge.j1 kj9 l0 a1 a2 t228 t229 t235 true))))) else (some false)) = some r := H
     have A25 := Aside0.mk A250
     clear A250
     by_cases c26 : t243 = true
     ·subst c26
      have H1 : ((laws_markStringS.f kj9 t232 1).bind fun bt244 => (if bt244.1 < 0 then (laws_FnExactPlanMerge.j1 kj9 l0 a1 a2 t228 t229 t235 true) else ((laws_eqStringS.f kj9 t235 t228).bind fun t246 => (if t246 = true then (laws_FnExactPlanMerge.j1 kj9 l0 a1 a2 t228 t229 t235 (t236 != t229)) else (laws_FnExactPlanMerge.j1 kj9 l0 a1 a2 t228 t229 t235 true))))) = some r := by rw [if_pos rfl] at H; exact H
      clear H
      have H := H1
      clear H1
      replace H := Option.bind_eq_some_iff.mp H
      obtain ⟨⟨t244, t245⟩, A270, H⟩ := H
      replace H : (if t244 < 0 then (laws_FnExactPlanMerge.j1 kj9 l0 a1 a2 t228 t229 t235 true) else ((laws_eqStringS.f kj9 t235 t228).bind fun t246 => (if t246 = true then (laws_FnExactPlanMerge.j1 kj9 l0 a1 a2 t228 t229 t235 (t236 != t229)) else (laws_FnExactPlanMerge.j1 kj9 l0 a1 a2 t228 t229 t235 true)))) = some r := H
      have A27 := Aside0.mk A270
      clear A270
      have HC28 := Aside0.mk H
      clear H
      go_upto_region 14 with (first | ((with_reducible refine gate_callee (f := 17) rfl ?_); refine goesL_ (some 51) rfl rfl Try.func17 (by kernel_rfl) rfl #[.slice A0 l0.length c0] rfl (by (try simp only [List.map_toArray, List.map_cons, List.map_nil]); first | done | rfl | (simp only [List.length_drop, List.length_take]; rfl)) ?_; (with_reducible refine (laws_toStringS.calls kj9 _ _ l0 t240 _ ?side1 ?side2 A24.out).mono ?_); (case side1 => repeat (first | exact (Kd.C_below HR0.out HB.out) | (with_reducible refine Kd.C_alloc ?_ _) | (with_reducible refine Kd.C_drewN ?_ _) | (with_reducible refine Kd.C_drew ?_))); (case side2 => exact HC0.out); rintro e w29 ⟨v241, rfl, ho0, hb⟩; refine ⟨_, rfl, ?_⟩; have n0_ := Aside0.mk (Kd.R_elder' (by (with_reducible repeat (first | apply Kd.R_alloc | apply Kd.R_drewN | apply Kd.R_drew)); exact HO_8.out) (Kd.R_base ho0) hb); have n1_ := Aside0.mk (Kd.R_elder' (by (with_reducible repeat (first | apply Kd.R_alloc | apply Kd.R_drewN | apply Kd.R_drew)); exact HO_10.out) (Kd.R_base ho0) hb); have n2_ := Aside0.mk (Kd.R_elder' (by (with_reducible repeat (first | apply Kd.R_alloc | apply Kd.R_drewN | apply Kd.R_drew)); exact HO_11.out) (Kd.R_base ho0) hb); have n3_ := Aside0.mk (Kd.R_lower (Kd.R_new' (Kd.R_new' (Kd.R_new' ho0 (Kd.R_lt (by (with_reducible repeat (first | apply Kd.R_alloc | apply Kd.R_drewN | apply Kd.R_drew)); exact HO_8.out))) (Kd.R_lt (by (with_reducible repeat (first | apply Kd.R_alloc | apply Kd.R_drewN | apply Kd.R_drew)); exact HO_10.out))) (Kd.R_lt (by (with_reducible repeat (first | apply Kd.R_alloc | apply Kd.R_drewN | apply Kd.R_drew)); exact HO_11.out))) (below_size (by repeat (first | (with_reducible first | exact HB.out | apply below_alloc | apply pw_below_drewN | apply below_drew1) | exact HB.out)))); have n4_ := Aside0.mk (below_step (by repeat (first | (with_reducible first | exact HB.out | apply below_alloc | apply pw_below_drewN | apply below_drew1) | exact HB.out)) hb); clear HO_8; clear HO_10; clear HO_11; clear HB; have HO_8 := n0_; have HO_10 := n1_; have HO_11 := n2_; have HO242 := n3_; have HB := n4_; clear n0_ n1_ n2_ n3_ n4_; (try clear hb); (try clear hb2); (try clear hk); (try clear hi); (try clear ho0); obtain ⟨Ao30, co30, eo30⟩ := Kd.R_slice HO242.out; subst eo30) | ((with_reducible refine gate_callee (f := 19) rfl ?_); refine goesL_ (some 52) rfl rfl Try.func19 (by kernel_rfl) rfl #[.slice Ao15 t232.length co15, .slice Ao30 t240.length co30] rfl (by (try simp only [List.map_toArray, List.map_cons, List.map_nil]); first | done | rfl | (simp only [List.length_drop, List.length_take]; rfl)) ?_; (with_reducible refine (laws_eqStringS.calls kj9 _ _ t232 _ _ t240 true _ ?side1 ?side2 ?side3 ?side4 A25.out).mono ?_); (case side1 => repeat (first | exact (Kd.R_reads' HO_10.out).2.2 | (with_reducible refine Kd.C_alloc ?_ _) | (with_reducible refine Kd.C_drewN ?_ _) | (with_reducible refine Kd.C_drew ?_))); (case side2 => exact (Kd.R_reads' HO_10.out).2.1); (case side3 => repeat (first | exact (Kd.R_reads' HO242.out).2.2 | (with_reducible refine Kd.C_alloc ?_ _) | (with_reducible refine Kd.C_drewN ?_ _) | (with_reducible refine Kd.C_drew ?_))); (case side4 => exact (Kd.R_reads' HO242.out).2.1); rintro e w' ⟨rfl, ⟨nd, rfl⟩⟩; refine ⟨_, rfl, ?_⟩) | ((with_reducible refine gate_callee (f := 20) rfl ?_); refine goesL_ (some 56) rfl rfl Try.func20 (by kernel_rfl) rfl #[.slice Ao15 t232.length co15, .int .i64 1] rfl (by (try simp only [List.map_toArray, List.map_cons, List.map_nil]); first | done | rfl | (simp only [List.length_drop, List.length_take]; rfl)) ?_; (with_reducible refine (laws_markStringS.calls kj9 (fun k_ => some k_ = (.slice Ao15 t232.length co15 : Value).ownBlock) (.slice Ao15 t232.length co15) t232 1 t244 t245 w _ ?side1 ?side2 A27.out).mono ?_); (case side1 => repeat (first | (with_reducible first | exact HB.out | apply below_alloc | apply pw_below_drewN | apply below_drew1) | exact HB.out)); (case side2 => exact Kd.R_tight rfl HO_10.out); rintro e w31 ⟨rfl, hy0, hb, hkp⟩; refine ⟨_, rfl, ?_⟩; have n0_ := Aside0.mk (Kd.R_mono (ok' := fun k_ => some k_ ≠ (.slice Ao15 t232.length co15 : Value).ownBlock ∧ some k_ ≠ (v237 : Value).ownBlock ∧ some k_ ≠ (.slice Ao30 t240.length co30 : Value).ownBlock) (Kd.R_keptB (HO_8.out) hkp (fun k_ hk_ hs_ => (hk_.1.1) hs_)) (fun k_ hk_ => ⟨hk_.1.1.1, hk_.1.1.2, hk_.1.2⟩)); have n1_ := Aside0.mk (Kd.R_reok rfl hy0 (fun k_ e_ => HO_10.out.1 k_ e_)); have n2_ := Aside0.mk (Kd.R_mono (ok' := fun k_ => some k_ ≠ (v230 : Value).ownBlock ∧ some k_ ≠ (.slice Ao15 t232.length co15 : Value).ownBlock ∧ some k_ ≠ (.slice Ao30 t240.length co30 : Value).ownBlock) (Kd.R_keptB (HO_11.out) hkp (fun k_ hk_ hs_ => (hk_.1.2) hs_)) (fun k_ hk_ => ⟨hk_.1.1.1, hk_.1.1.2, hk_.1.2⟩)); have n3_ := Aside0.mk (Kd.R_mono (ok' := fun k_ => some k_ ≠ (v230 : Value).ownBlock ∧ some k_ ≠ (.slice Ao15 t232.length co15 : Value).ownBlock ∧ some k_ ≠ (v237 : Value).ownBlock) (Kd.R_keptB (HO242.out) hkp (fun k_ hk_ hs_ => (hk_.1.2) hs_)) (fun k_ hk_ => ⟨hk_.1.1.1.2, hk_.1.1.2, hk_.1.2⟩)); have n4_ := Aside0.mk (hb); clear HO_8; clear HO_10; clear HO_11; clear HO242; clear HB; have HO_8 := n0_; have HO_10 := n1_; have HO_11 := n2_; have HO242 := n3_; have HB := n4_; clear n0_ n1_ n2_ n3_ n4_; (try clear hb); (try clear hkp); (try clear hy0)))
      (try simp only [Act.put, List.setIfInBounds_toArray, List.set_cons_zero, List.set_cons_succ])
      go_cut [69] (fun v69 wc => ∃ (kq : Nat) (x69_27 : Bool), v69 = .bool x69_27 ∧ Aside0 (laws_FnExactPlanMerge.j1 kq l0 a1 a2 t228 t229 t235 x69_27 = some r) ∧ Aside0 (kq ≤ kj9) ∧ Aside0 (Kd.R Kd.string 9 wc w.heap.size (fun k_ => some k_ ≠ (v237 : Value).ownBlock) v230 t228) ∧ Aside0 (Kd.R Kd.string 9 wc w.heap.size (fun k_ => some k_ ≠ (v230 : Value).ownBlock) v237 t235) ∧ Aside0 (Below w.heap.size w wc))
      case first =>
       have H := HC28.out
       clear HC28
       by_cases c32 : t244 < 0
       ·rw [if_pos c32] at H
        have c32b0 : decide (t244 < 0) = true := decide_eq_true c32
        clear c32
        (first | rw [c32b0] | (simp only [i64_w, i32_w]; rw [c32b0]) | skip)
        have H' := Aside0.mk H
        clear H
        go_wp2
        go_meet
        case rel => exact ⟨_, (true), (by first | rfl | (simp; done) | (simp [*]; done)), H', ⟨by have := HJ9.out; first | omega | exact Nat.le_refl _⟩, ⟨by (with_reducible repeat (first | apply Kd.R_alloc | apply Kd.R_drewN | apply Kd.R_drew)); exact Kd.R_mono HO_8.out (fun _ hk => hk.2.1)⟩, ⟨by (with_reducible repeat (first | apply Kd.R_alloc | apply Kd.R_drewN | apply Kd.R_drew)); exact Kd.R_mono HO_11.out (fun _ hk => hk.1)⟩, ⟨by repeat (first | (with_reducible first | exact HB.out | apply below_alloc | apply pw_below_drewN | apply below_drew1) | exact HB.out)⟩⟩
       ·rw [if_neg c32] at H
        have c32b0 : decide (t244 < 0) = false := decide_eq_false c32
        clear c32
        (first | rw [c32b0] | (simp only [i64_w, i32_w]; rw [c32b0]) | skip)
        replace H := Option.bind_eq_some_iff.mp H
        obtain ⟨t246, A330, H⟩ := H
        replace H : (if t246 = true then (laws_FnExactPlanMerge.j1 kj9 l0 a1 a2 t228 t229 t235 (t236 != t229)) else (laws_FnExactPlanMerge.j1 kj9 l0 a1 a2 t228 t229 t235 true)) = some r := H
        have A33 := Aside0.mk A330
        clear A330
        by_cases c34 : t246 = true
        ·subst c34
         have H1 : (laws_FnExactPlanMerge.j1 kj9 l0 a1 a2 t228 t229 t235 (t236 != t229)) = some r := by rw [if_pos rfl] at H; exact H
         clear H
         have H := H1
         clear H1
         have H' := Aside0.mk H
         clear H
         obtain ⟨Ao35, co35, eo35⟩ := Kd.R_slice HO_11.out
         subst eo35
         obtain ⟨Ao36, co36, eo36⟩ := Kd.R_slice HO_8.out
         subst eo36
         go_wp2_with (first | (go_at_call 19; (with_reducible refine (laws_eqStringS.calls kj9 _ _ t235 _ _ t228 true _ ?side1 ?side2 ?side3 ?side4 A33.out).mono ?_); (case side1 => repeat (first | exact (Kd.R_reads' HO_11.out).2.2 | (with_reducible refine Kd.C_alloc ?_ _) | (with_reducible refine Kd.C_drewN ?_ _) | (with_reducible refine Kd.C_drew ?_))); (case side2 => exact (Kd.R_reads' HO_11.out).2.1); (case side3 => repeat (first | exact (Kd.R_reads' HO_8.out).2.2 | (with_reducible refine Kd.C_alloc ?_ _) | (with_reducible refine Kd.C_drewN ?_ _) | (with_reducible refine Kd.C_drew ?_))); (case side4 => exact (Kd.R_reads' HO_8.out).2.1); rintro e w' ⟨rfl, ⟨nd, rfl⟩⟩))
         go_meet
         case rel => exact ⟨_, ((t236 != t229)), (by first | rfl | (simp; done) | (simp [*]; done)), H', ⟨by have := HJ9.out; first | omega | exact Nat.le_refl _⟩, ⟨by (with_reducible repeat (first | apply Kd.R_alloc | apply Kd.R_drewN | apply Kd.R_drew)); exact Kd.R_mono HO_8.out (fun _ hk => hk.2.1)⟩, ⟨by (with_reducible repeat (first | apply Kd.R_alloc | apply Kd.R_drewN | apply Kd.R_drew)); exact Kd.R_mono HO_11.out (fun _ hk => hk.1)⟩, ⟨by repeat (first | (with_reducible first | exact HB.out | apply below_alloc | apply pw_below_drewN | apply below_drew1) | exact HB.out)⟩⟩
        ·replace c34 := Bool.eq_false_iff.mpr c34
         subst c34
         have H1 : (laws_FnExactPlanMerge.j1 kj9 l0 a1 a2 t228 t229 t235 true) = some r := by rw [if_neg (show ¬ (false = true) by decide)] at H; exact H
         clear H
         have H := H1
         clear H1
         have H' := Aside0.mk H
         clear H
         obtain ⟨Ao37, co37, eo37⟩ := Kd.R_slice HO_11.out
         subst eo37
         obtain ⟨Ao38, co38, eo38⟩ := Kd.R_slice HO_8.out
         subst eo38
         go_wp2_with (first | (go_at_call 19; (with_reducible refine (laws_eqStringS.calls kj9 _ _ t235 _ _ t228 false _ ?side1 ?side2 ?side3 ?side4 A33.out).mono ?_); (case side1 => repeat (first | exact (Kd.R_reads' HO_11.out).2.2 | (with_reducible refine Kd.C_alloc ?_ _) | (with_reducible refine Kd.C_drewN ?_ _) | (with_reducible refine Kd.C_drew ?_))); (case side2 => exact (Kd.R_reads' HO_11.out).2.1); (case side3 => repeat (first | exact (Kd.R_reads' HO_8.out).2.2 | (with_reducible refine Kd.C_alloc ?_ _) | (with_reducible refine Kd.C_drewN ?_ _) | (with_reducible refine Kd.C_drew ?_))); (case side4 => exact (Kd.R_reads' HO_8.out).2.1); rintro e w' ⟨rfl, ⟨nd, rfl⟩⟩))
         go_meet
         case rel => exact ⟨_, (true), (by first | rfl | (simp; done) | (simp [*]; done)), H', ⟨by have := HJ9.out; first | omega | exact Nat.le_refl _⟩, ⟨by (with_reducible repeat (first | apply Kd.R_alloc | apply Kd.R_drewN | apply Kd.R_drew)); exact Kd.R_mono HO_8.out (fun _ hk => hk.2.1)⟩, ⟨by (with_reducible repeat (first | apply Kd.R_alloc | apply Kd.R_drewN | apply Kd.R_drew)); exact Kd.R_mono HO_11.out (fun _ hk => hk.1)⟩, ⟨by repeat (first | (with_reducible first | exact HB.out | apply below_alloc | apply pw_below_drewN | apply below_drew1) | exact HB.out)⟩⟩
      case rest =>
       clear HC28
       try clear c1
       try clear c2
       try clear p2
       try clear c3
       try clear c5
       try clear c5b0
       try clear c15
       try clear c16
       try clear c17
       try clear c18
       try clear c19
       try clear c20
       try clear c23
       try clear c26
       try clear c32
       try clear c32b0
       try clear c34
       try clear p2
       obtain ⟨kq, x69_27, rfl, HA, HJ27, HO_8, HO_11, HB⟩ := hcut
       cases kq with
       | zero => exact absurd HA.out (by simp [laws_FnExactPlanMerge.j1])
       | succ kj27 =>
        have H := HA.out
        clear HA
        simp only [laws_FnExactPlanMerge.j1] at H
        by_cases c39 : x69_27 = true
        ·subst c39
         have H1 : (some false) = some r := by rw [if_pos rfl] at H; exact H
         clear H
         have H := H1
         clear H1
         obtain rfl := Option.some.inj H
         go_wp2
         go_ret
         exact ⟨by first | rfl | (simp [errW_none, errW_some] <;> rfl) | (simp [*, errW_none, errW_some] <;> rfl), by repeat (first | (with_reducible first | exact HB.out | apply below_alloc | apply pw_below_drewN | apply below_drew1) | exact HB.out)⟩
        ·replace c39 := Bool.eq_false_iff.mpr c39
         subst c39
         have H1 : ((laws_markStringS.f kj27 t235 1).bind fun bt247 => ((laws_heldStringS.f kj27 bt247.2 1).bind fun t249 => (if t249 < 0 then (some false) else (if t249 = bt247.1 then ((laws_toStringS.f kj27 l0).bind fun t250 => ((impl_PlanMerge.f t250 a1 a2).bind fun bt253 => ((laws_eqStringS.f kj27 bt253.1 t228).bind fun t257 => (if t257 = true then (laws_FnExactPlanMerge.j2 kj27 bt247.2 bt247.1 (bt253.2 != t229)) else (laws_FnExactPlanMerge.j2 kj27 bt247.2 bt247.1 true))))) else (some false))))) = some r := by rw [if_neg (show ¬ (false = true) by decide)] at H; exact H
         clear H
         have H := H1
         clear H1
         replace H := Option.bind_eq_some_iff.mp H
         obtain ⟨⟨t247, t248⟩, A400, H⟩ := H
         replace H : ((laws_heldStringS.f kj27 t248 1).bind fun t249 => (if t249 < 0 then (some false) else (if t249 = t247 then ((laws_toStringS.f kj27 l0).bind fun t250 => ((impl_PlanMerge.f t250 a1 a2).bind fun bt253 => ((laws_eqStringS.f kj27 bt253.1 t228).bind fun t257 => (if t257 = true then (laws_FnExactPlanMerge.j2 kj27 t248 t247 (bt253.2 != t229)) else (laws_FnExactPlanMerge.j2 kj27 t248 t247 true))))) else (some false)))) = some r := H
         have A40 := Aside0.mk A400
         clear A400
         replace H := Option.bind_eq_some_iff.mp H
         obtain ⟨t249, A410, H⟩ := H
         replace H : (if t249 < 0 then (some false) else (if t249 = t247 then ((laws_toStringS.f kj27 l0).bind fun t250 => ((impl_PlanMerge.f t250 a1 a2).bind fun bt253 => ((laws_eqStringS.f kj27 bt253.1 t228).bind fun t257 => (if t257 = true then (laws_FnExactPlanMerge.j2 kj27 t248 t247 (bt253.2 != t229)) else (laws_FnExactPlanMerge.j2 kj27 t248 t247 true))))) else (some false))) = some r := H
         have A41 := Aside0.mk A410
         clear A410
         by_cases c42 : t249 < 0
         ·rw [if_pos c42] at H
          have c42b0 : decide (t249 < 0) = true := decide_eq_true c42
          clear c42
          obtain rfl := Option.some.inj H
          obtain ⟨Ao43, co43, eo43⟩ := Kd.R_slice HO_11.out
          subst eo43
          go_wp2_with (first | ((with_reducible refine gate_callee (f := 20) rfl ?_); refine goesL_ (some 72) rfl rfl Try.func20 (by kernel_rfl) rfl #[.slice Ao43 t235.length co43, .int .i64 1] rfl (by (try simp only [List.map_toArray, List.map_cons, List.map_nil]); first | done | rfl | (simp only [List.length_drop, List.length_take]; rfl)) ?_; (with_reducible refine (laws_markStringS.calls kj27 (fun k_ => some k_ = (.slice Ao43 t235.length co43 : Value).ownBlock) (.slice Ao43 t235.length co43) t235 1 t247 t248 w _ ?side1 ?side2 A40.out).mono ?_); (case side1 => repeat (first | (with_reducible first | exact HB.out | apply below_alloc | apply pw_below_drewN | apply below_drew1) | exact HB.out)); (case side2 => exact Kd.R_tight rfl HO_11.out); rintro e w44 ⟨rfl, hy0, hb, hkp⟩; refine ⟨_, rfl, ?_⟩; have n0_ := Aside0.mk (Kd.R_mono (ok' := fun k_ => some k_ ≠ (.slice Ao43 t235.length co43 : Value).ownBlock) (Kd.R_keptB (HO_8.out) hkp (fun k_ hk_ hs_ => (hk_) hs_)) (fun k_ hk_ => hk_.1)); have n1_ := Aside0.mk (Kd.R_reok rfl hy0 (fun k_ e_ => HO_11.out.1 k_ e_)); have n2_ := Aside0.mk (hb); clear HO_8; clear HO_11; clear HB; have HO_8 := n0_; have HO_11 := n1_; have HB := n2_; clear n0_ n1_ n2_; (try clear hb); (try clear hkp); (try clear hy0)) | ((with_reducible refine gate_callee (f := 21) rfl ?_); refine goesL_ (some 75) rfl rfl Try.func21 (by kernel_rfl) rfl #[.slice Ao43 t248.length co43, .int .i64 1] rfl (by (try simp only [List.map_toArray, List.map_cons, List.map_nil]); first | done | (rw [show t248.length = t235.length from (Kd.R_reads' HO_11.out).1.symm] <;> rfl) | rfl | (simp only [List.length_drop, List.length_take]; rfl)) ?_; (with_reducible refine (laws_heldStringS.calls kj27 _ _ t248 1 t249 _ ?side1 ?side2 A41.out).mono ?_); (case side1 => repeat (first | exact (Kd.R_reads' HO_11.out).2.2 | (with_reducible refine Kd.C_alloc ?_ _) | (with_reducible refine Kd.C_drewN ?_ _) | (with_reducible refine Kd.C_drew ?_))); (case side2 => rw [show t248.length = t235.length from (Kd.R_reads' HO_11.out).1.symm]; exact (Kd.R_reads' HO_11.out).2.1); rintro e w45 ⟨rfl, hb⟩; refine ⟨_, rfl, ?_⟩; have n0_ := Aside0.mk (Kd.R_below (by (with_reducible repeat (first | apply Kd.R_alloc | apply Kd.R_drewN | apply Kd.R_drew)); exact HO_8.out) hb); have n1_ := Aside0.mk (Kd.R_below (by (with_reducible repeat (first | apply Kd.R_alloc | apply Kd.R_drewN | apply Kd.R_drew)); exact HO_11.out) hb); have n2_ := Aside0.mk (below_step (by repeat (first | (with_reducible first | exact HB.out | apply below_alloc | apply pw_below_drewN | apply below_drew1) | exact HB.out)) hb); clear HO_8; clear HO_11; clear HB; have HO_8 := n0_; have HO_11 := n1_; have HB := n2_; clear n0_ n1_ n2_; (try clear hb); (try clear hb2); (try clear hk); (try clear hi)))
          go_ret
          exact ⟨by first | rfl | (simp [errW_none, errW_some] <;> rfl) | (simp [*, errW_none, errW_some] <;> rfl), by repeat (first | (with_reducible first | exact HB.out | apply below_alloc | apply pw_below_drewN | apply below_drew1) | exact HB.out)⟩
         ·rw [if_neg c42] at H
          have c42b0 : decide (t249 < 0) = false := decide_eq_false c42
          clear c42
          by_cases c46 : t249 = t247
          ·rw [if_pos c46] at H
           have c46b0 : (t249 == t247) = true := beq_iff_eq.mpr c46
           have c46b1 : (t249 != t247) = false := bne_eq_false_iff_eq.mpr c46
           clear c46
           replace H := Option.bind_eq_some_iff.mp H
           obtain ⟨t250, A470, H⟩ := H
           replace H : ((impl_PlanMerge.f t250 a1 a2).bind fun bt253 => ((laws_eqStringS.f kj27 bt253.1 t228).bind fun t257 => (if t257 = true then (laws_FnExactPlanMerge.j2 kj27 t248 t247 (bt253.2 != t229)) else (laws_FnExactPlanMerge.j2 kj27 t248 t247 true)))) = some r := H
           have A47 := Aside0.mk A470
           clear A470
           replace H := Option.bind_eq_some_iff.mp H
           obtain ⟨⟨t253, t254⟩, A480, H⟩ := H
           replace H : ((laws_eqStringS.f kj27 t253 t228).bind fun t257 => (if t257 = true then (laws_FnExactPlanMerge.j2 kj27 t248 t247 (t254 != t229)) else (laws_FnExactPlanMerge.j2 kj27 t248 t247 true))) = some r := H
           have A48 := Aside0.mk A480
           clear A480
           have HC49 := Aside0.mk H
           clear H
           obtain ⟨Ao50, co50, eo50⟩ := Kd.R_slice HO_11.out
           subst eo50
           go_upto_region 25 with (first | ((with_reducible refine gate_callee (f := 20) rfl ?_); refine goesL_ (some 72) rfl rfl Try.func20 (by kernel_rfl) rfl #[.slice Ao50 t235.length co50, .int .i64 1] rfl (by (try simp only [List.map_toArray, List.map_cons, List.map_nil]); first | done | rfl | (simp only [List.length_drop, List.length_take]; rfl)) ?_; (with_reducible refine (laws_markStringS.calls kj27 (fun k_ => some k_ = (.slice Ao50 t235.length co50 : Value).ownBlock) (.slice Ao50 t235.length co50) t235 1 t247 t248 w _ ?side1 ?side2 A40.out).mono ?_); (case side1 => repeat (first | (with_reducible first | exact HB.out | apply below_alloc | apply pw_below_drewN | apply below_drew1) | exact HB.out)); (case side2 => exact Kd.R_tight rfl HO_11.out); rintro e w51 ⟨rfl, hy0, hb, hkp⟩; refine ⟨_, rfl, ?_⟩; have n0_ := Aside0.mk (Kd.R_mono (ok' := fun k_ => some k_ ≠ (.slice Ao50 t235.length co50 : Value).ownBlock) (Kd.R_keptB (HO_8.out) hkp (fun k_ hk_ hs_ => (hk_) hs_)) (fun k_ hk_ => hk_.1)); have n1_ := Aside0.mk (Kd.R_reok rfl hy0 (fun k_ e_ => HO_11.out.1 k_ e_)); have n2_ := Aside0.mk (hb); clear HO_8; clear HO_11; clear HB; have HO_8 := n0_; have HO_11 := n1_; have HB := n2_; clear n0_ n1_ n2_; (try clear hb); (try clear hkp); (try clear hy0)) | ((with_reducible refine gate_callee (f := 21) rfl ?_); refine goesL_ (some 75) rfl rfl Try.func21 (by kernel_rfl) rfl #[.slice Ao50 t248.length co50, .int .i64 1] rfl (by (try simp only [List.map_toArray, List.map_cons, List.map_nil]); first | done | (rw [show t248.length = t235.length from (Kd.R_reads' HO_11.out).1.symm] <;> rfl) | rfl | (simp only [List.length_drop, List.length_take]; rfl)) ?_; (with_reducible refine (laws_heldStringS.calls kj27 _ _ t248 1 t249 _ ?side1 ?side2 A41.out).mono ?_); (case side1 => repeat (first | exact (Kd.R_reads' HO_11.out).2.2 | (with_reducible refine Kd.C_alloc ?_ _) | (with_reducible refine Kd.C_drewN ?_ _) | (with_reducible refine Kd.C_drew ?_))); (case side2 => rw [show t248.length = t235.length from (Kd.R_reads' HO_11.out).1.symm]; exact (Kd.R_reads' HO_11.out).2.1); rintro e w52 ⟨rfl, hb⟩; refine ⟨_, rfl, ?_⟩; have n0_ := Aside0.mk (Kd.R_below (by (with_reducible repeat (first | apply Kd.R_alloc | apply Kd.R_drewN | apply Kd.R_drew)); exact HO_8.out) hb); have n1_ := Aside0.mk (Kd.R_below (by (with_reducible repeat (first | apply Kd.R_alloc | apply Kd.R_drewN | apply Kd.R_drew)); exact HO_11.out) hb); have n2_ := Aside0.mk (below_step (by repeat (first | (with_reducible first | exact HB.out | apply below_alloc | apply pw_below_drewN | apply below_drew1) | exact HB.out)) hb); clear HO_8; clear HO_11; clear HB; have HO_8 := n0_; have HO_11 := n1_; have HB := n2_; clear n0_ n1_ n2_; (try clear hb); (try clear hb2); (try clear hk); (try clear hi)) | ((with_reducible refine gate_callee (f := 17) rfl ?_); refine goesL_ (some 83) rfl rfl Try.func17 (by kernel_rfl) rfl #[.slice A0 l0.length c0] rfl (by (try simp only [List.map_toArray, List.map_cons, List.map_nil]); first | done | rfl | (simp only [List.length_drop, List.length_take]; rfl)) ?_; (with_reducible refine (laws_toStringS.calls kj27 _ _ l0 t250 _ ?side1 ?side2 A47.out).mono ?_); (case side1 => repeat (first | exact (Kd.C_below HR0.out HB.out) | (with_reducible refine Kd.C_alloc ?_ _) | (with_reducible refine Kd.C_drewN ?_ _) | (with_reducible refine Kd.C_drew ?_))); (case side2 => exact HC0.out); rintro e w53 ⟨v251, rfl, ho0, hb⟩; refine ⟨_, rfl, ?_⟩; have n0_ := Aside0.mk (Kd.R_elder' (by (with_reducible repeat (first | apply Kd.R_alloc | apply Kd.R_drewN | apply Kd.R_drew)); exact HO_8.out) (Kd.R_base ho0) hb); have n1_ := Aside0.mk (Kd.R_elder' (by (with_reducible repeat (first | apply Kd.R_alloc | apply Kd.R_drewN | apply Kd.R_drew)); exact HO_11.out) (Kd.R_base ho0) hb); have n2_ := Aside0.mk (Kd.R_lower (Kd.R_new' (Kd.R_new' ho0 (Kd.R_lt (by (with_reducible repeat (first | apply Kd.R_alloc | apply Kd.R_drewN | apply Kd.R_drew)); exact HO_8.out))) (Kd.R_lt (by (with_reducible repeat (first | apply Kd.R_alloc | apply Kd.R_drewN | apply Kd.R_drew)); exact HO_11.out))) (below_size (by repeat (first | (with_reducible first | exact HB.out | apply below_alloc | apply pw_below_drewN | apply below_drew1) | exact HB.out)))); have n3_ := Aside0.mk (below_step (by repeat (first | (with_reducible first | exact HB.out | apply below_alloc | apply pw_below_drewN | apply below_drew1) | exact HB.out)) hb); clear HO_8; clear HO_11; clear HB; have HO_8 := n0_; have HO_11 := n1_; have HO252 := n2_; have HB := n3_; clear n0_ n1_ n2_ n3_; (try clear hb); (try clear hb2); (try clear hk); (try clear hi); (try clear ho0); obtain ⟨Ao54, co54, eo54⟩ := Kd.R_slice HO252.out; subst eo54) | ((with_reducible refine gate_callee (f := 18) rfl ?_); refine goesL_ (some 86) rfl rfl Try.func18 (by kernel_rfl) rfl #[.slice Ao54 t250.length co54, .int .i64 a1, .int .i64 a2] rfl (by (try simp only [List.map_toArray, List.map_cons, List.map_nil]); first | done | rfl | (simp only [List.length_drop, List.length_take]; rfl)) ?_; (with_reducible refine (impl_PlanMerge.calls _ _ t250 a1 a2 t253 t254 _ ?side1 ?side2 A48.out).mono ?_); (case side1 => repeat (first | exact (Kd.R_reads' HO252.out).2.2 | (with_reducible refine Kd.C_alloc ?_ _) | (with_reducible refine Kd.C_drewN ?_ _) | (with_reducible refine Kd.C_drew ?_))); (case side2 => exact (Kd.R_reads' HO252.out).2.1); rintro e w55 ⟨v255, rfl, ho0, hb⟩; refine ⟨_, rfl, ?_⟩; have n0_ := Aside0.mk (Kd.R_elder' (by (with_reducible repeat (first | apply Kd.R_alloc | apply Kd.R_drewN | apply Kd.R_drew)); exact HO_8.out) (Kd.R_base ho0) hb); have n1_ := Aside0.mk (Kd.R_elder' (by (with_reducible repeat (first | apply Kd.R_alloc | apply Kd.R_drewN | apply Kd.R_drew)); exact HO_11.out) (Kd.R_base ho0) hb); have n2_ := Aside0.mk (Kd.R_elder' (by (with_reducible repeat (first | apply Kd.R_alloc | apply Kd.R_drewN | apply Kd.R_drew)); exact HO252.out) (Kd.R_base ho0) hb); have n3_ := Aside0.mk (Kd.R_lower (Kd.R_new' (Kd.R_new' (Kd.R_new' ho0 (Kd.R_lt (by (with_reducible repeat (first | apply Kd.R_alloc | apply Kd.R_drewN | apply Kd.R_drew)); exact HO_8.out))) (Kd.R_lt (by (with_reducible repeat (first | apply Kd.R_alloc | apply Kd.R_drewN | apply Kd.R_drew)); exact HO_11.out))) (Kd.R_lt (by (with_reducible repeat (first | apply Kd.R_alloc | apply Kd.R_drewN | apply Kd.R_drew)); exact HO252.out))) (below_size (by repeat (first | (with_reducible first | exact HB.out | apply below_alloc | apply pw_below_drewN | apply below_drew1) | exact HB.out)))); have n4_ := Aside0.mk (below_step (by repeat (first | (with_reducible first | exact HB.out | apply below_alloc | apply pw_below_drewN | apply below_drew1) | exact HB.out)) hb); clear HO_8; clear HO_11; clear HO252; clear HB; have HO_8 := n0_; have HO_11 := n1_; have HO252 := n2_; have HO256 := n3_; have HB := n4_; clear n0_ n1_ n2_ n3_ n4_; (try clear hb); (try clear hb2); (try clear hk); (try clear hi); (try clear ho0)))
           (try simp only [Act.put, List.setIfInBounds_toArray, List.set_cons_zero, List.set_cons_succ])
           go_cut [97] (fun v97 wc => ∃ (kq : Nat) (x97_48 : Bool), v97 = .bool x97_48 ∧ Aside0 (laws_FnExactPlanMerge.j2 kq t248 t247 x97_48 = some r) ∧ Aside0 (kq ≤ kj27) ∧ Aside0 (Kd.R Kd.string 9 wc w.heap.size (fun _ => True) (.slice Ao50 t235.length co50) t248) ∧ Aside0 (Below w.heap.size w wc))
           case first =>
            have H := HC49.out
            clear HC49
            replace H := Option.bind_eq_some_iff.mp H
            obtain ⟨t257, A560, H⟩ := H
            replace H : (if t257 = true then (laws_FnExactPlanMerge.j2 kj27 t248 t247 (t254 != t229)) else (laws_FnExactPlanMerge.j2 kj27 t248 t247 true)) = some r := H
            have A56 := Aside0.mk A560
            clear A560
            by_cases c57 : t257 = true
            ·subst c57
             have H1 : (laws_FnExactPlanMerge.j2 kj27 t248 t247 (t254 != t229)) = some r := by rw [if_pos rfl] at H; exact H
             clear H
             have H := H1
             clear H1
             have H' := Aside0.mk H
             clear H
             obtain ⟨Ao58, co58, eo58⟩ := Kd.R_slice HO256.out
             subst eo58
             obtain ⟨Ao59, co59, eo59⟩ := Kd.R_slice HO_8.out
             subst eo59
             go_wp2_with (first | ((with_reducible refine gate_callee (f := 19) rfl ?_); refine goesL_ (some 91) rfl rfl Try.func19 (by kernel_rfl) rfl #[.slice Ao58 t253.length co58, .slice Ao59 t228.length co59] rfl (by (try simp only [List.map_toArray, List.map_cons, List.map_nil]); first | done | rfl | (simp only [List.length_drop, List.length_take]; rfl)) ?_; (with_reducible refine (laws_eqStringS.calls kj27 _ _ t253 _ _ t228 true _ ?side1 ?side2 ?side3 ?side4 A56.out).mono ?_); (case side1 => repeat (first | exact (Kd.R_reads' HO256.out).2.2 | (with_reducible refine Kd.C_alloc ?_ _) | (with_reducible refine Kd.C_drewN ?_ _) | (with_reducible refine Kd.C_drew ?_))); (case side2 => exact (Kd.R_reads' HO256.out).2.1); (case side3 => repeat (first | exact (Kd.R_reads' HO_8.out).2.2 | (with_reducible refine Kd.C_alloc ?_ _) | (with_reducible refine Kd.C_drewN ?_ _) | (with_reducible refine Kd.C_drew ?_))); (case side4 => exact (Kd.R_reads' HO_8.out).2.1); rintro e w' ⟨rfl, ⟨nd, rfl⟩⟩; refine ⟨_, rfl, ?_⟩))
             go_meet
             case rel => exact ⟨_, ((t254 != t229)), (by first | rfl | (simp; done) | (simp [*]; done)), H', ⟨by have := HJ9.out; have := HJ27.out; first | omega | exact Nat.le_refl _⟩, ⟨by (with_reducible repeat (first | apply Kd.R_alloc | apply Kd.R_drewN | apply Kd.R_drew)); exact Kd.R_mono HO_11.out (fun _ hk => trivial)⟩, ⟨by repeat (first | (with_reducible first | exact HB.out | apply below_alloc | apply pw_below_drewN | apply below_drew1) | exact HB.out)⟩⟩
            ·replace c57 := Bool.eq_false_iff.mpr c57
             subst c57
             have H1 : (laws_FnExactPlanMerge.j2 kj27 t248 t247 true) = some r := by rw [if_neg (show ¬ (false = true) by decide)] at H; exact H
             clear H
             have H := H1
             clear H1
             have H' := Aside0.mk H
             clear H
             obtain ⟨Ao60, co60, eo60⟩ := Kd.R_slice HO256.out
             subst eo60
             obtain ⟨Ao61, co61, eo61⟩ := Kd.R_slice HO_8.out
             subst eo61
             go_wp2_with (first | ((with_reducible refine gate_callee (f := 19) rfl ?_); refine goesL_ (some 91) rfl rfl Try.func19 (by kernel_rfl) rfl #[.slice Ao60 t253.length co60, .slice Ao61 t228.length co61] rfl (by (try simp only [List.map_toArray, List.map_cons, List.map_nil]); first | done | rfl | (simp only [List.length_drop, List.length_take]; rfl)) ?_; (with_reducible refine (laws_eqStringS.calls kj27 _ _ t253 _ _ t228 false _ ?side1 ?side2 ?side3 ?side4 A56.out).mono ?_); (case side1 => repeat (first | exact (Kd.R_reads' HO256.out).2.2 | (with_reducible refine Kd.C_alloc ?_ _) | (with_reducible refine Kd.C_drewN ?_ _) | (with_reducible refine Kd.C_drew ?_))); (case side2 => exact (Kd.R_reads' HO256.out).2.1); (case side3 => repeat (first | exact (Kd.R_reads' HO_8.out).2.2 | (with_reducible refine Kd.C_alloc ?_ _) | (with_reducible refine Kd.C_drewN ?_ _) | (with_reducible refine Kd.C_drew ?_))); (case side4 => exact (Kd.R_reads' HO_8.out).2.1); rintro e w' ⟨rfl, ⟨nd, rfl⟩⟩; refine ⟨_, rfl, ?_⟩))
             go_meet
             case rel => exact ⟨_, (true), (by first | rfl | (simp; done) | (simp [*]; done)), H', ⟨by have := HJ9.out; have := HJ27.out; first | omega | exact Nat.le_refl _⟩, ⟨by (with_reducible repeat (first | apply Kd.R_alloc | apply Kd.R_drewN | apply Kd.R_drew)); exact Kd.R_mono HO_11.out (fun _ hk => trivial)⟩, ⟨by repeat (first | (with_reducible first | exact HB.out | apply below_alloc | apply pw_below_drewN | apply below_drew1) | exact HB.out)⟩⟩
           case rest =>
            clear HC49
            try clear c1
            try clear c2
            try clear p2
            try clear c3
            try clear c4
            try clear c5
            try clear c5b0
            try clear c15
            try clear c16
            try clear c17
            try clear c18
            try clear c19
            try clear c20
            try clear c21
            try clear c23
            try clear c26
            try clear c32
            try clear c32b0
            try clear c34
            try clear c39
            try clear c42
            try clear c42b0
            try clear c46
            try clear c46b0
            try clear c46b1
            try clear c57
            try clear p2
            obtain ⟨kq, x97_48, rfl, HA, HJ48, HO_11, HB⟩ := hcut
            have hl11_48 := (Kd.R_reads' HO_11.out).1
            rw [hl11_48] at HO_11
            (try simp only [hl11_48])
            cases kq with
            | zero => exact absurd HA.out (by simp [laws_FnExactPlanMerge.j2])
            | succ kj48 =>
             have H := HA.out
             clear HA
             simp only [laws_FnExactPlanMerge.j2] at H
             by_cases c62 : x97_48 = true
             ·subst c62
              have H1 : (some false) = some r := by rw [if_pos rfl] at H; exact H
              clear H
              have H := H1
              clear H1
              obtain rfl := Option.some.inj H
              go_wp2
              go_ret
              exact ⟨by first | rfl | (simp [errW_none, errW_some] <;> rfl) | (simp [*, errW_none, errW_some] <;> rfl), by repeat (first | (with_reducible first | exact HB.out | apply below_alloc | apply pw_below_drewN | apply below_drew1) | exact HB.out)⟩
             ·replace c62 := Bool.eq_false_iff.mpr c62
              subst c62
              have H1 : ((laws_heldStringS.f kj48 t248 1).bind fun t258 => (if t258 < 0 then (some false) else (if t258 = t247 then (some true) else (some false)))) = some r := by rw [if_neg (show ¬ (false = true) by decide)] at H; exact H
              clear H
              have H := H1
              clear H1
              replace H := Option.bind_eq_some_iff.mp H
              obtain ⟨t258, A630, H⟩ := H
              replace H : (if t258 < 0 then (some false) else (if t258 = t247 then (some true) else (some false))) = some r := H
              have A63 := Aside0.mk A630
              clear A630
              by_cases c64 : t258 < 0
              ·rw [if_pos c64] at H
               have c64b0 : decide (t258 < 0) = true := decide_eq_true c64
               clear c64
               obtain rfl := Option.some.inj H
               go_wp2_with (first | ((with_reducible refine gate_callee (f := 21) rfl ?_); refine goesL_ (some 100) rfl rfl Try.func21 (by kernel_rfl) rfl #[.slice Ao50 t248.length co50, .int .i64 1] rfl (by (try simp only [List.map_toArray, List.map_cons, List.map_nil]); first | done | rfl | (simp only [List.length_drop, List.length_take]; rfl)) ?_; (with_reducible refine (laws_heldStringS.calls kj48 _ _ t248 1 t258 _ ?side1 ?side2 A63.out).mono ?_); (case side1 => repeat (first | exact (Kd.R_reads' HO_11.out).2.2 | (with_reducible refine Kd.C_alloc ?_ _) | (with_reducible refine Kd.C_drewN ?_ _) | (with_reducible refine Kd.C_drew ?_))); (case side2 => exact (Kd.R_reads' HO_11.out).2.1); rintro e w65 ⟨rfl, hb⟩; refine ⟨_, rfl, ?_⟩; have n0_ := Aside0.mk (Kd.R_below (by (with_reducible repeat (first | apply Kd.R_alloc | apply Kd.R_drewN | apply Kd.R_drew)); exact HO_11.out) hb); have n1_ := Aside0.mk (below_step (by repeat (first | (with_reducible first | exact HB.out | apply below_alloc | apply pw_below_drewN | apply below_drew1) | exact HB.out)) hb); clear HO_11; clear HB; have HO_11 := n0_; have HB := n1_; clear n0_ n1_; (try clear hb); (try clear hb2); (try clear hk); (try clear hi)))
               go_ret
               exact ⟨by first | rfl | (simp [errW_none, errW_some] <;> rfl) | (simp [*, errW_none, errW_some] <;> rfl), by repeat (first | (with_reducible first | exact HB.out | apply below_alloc | apply pw_below_drewN | apply below_drew1) | exact HB.out)⟩
              ·rw [if_neg c64] at H
               have c64b0 : decide (t258 < 0) = false := decide_eq_false c64
               clear c64
               by_cases c66 : t258 = t247
               ·rw [if_pos c66] at H
                have c66b0 : (t258 == t247) = true := beq_iff_eq.mpr c66
                have c66b1 : (t258 != t247) = false := bne_eq_false_iff_eq.mpr c66
                clear c66
                obtain rfl := Option.some.inj H
                go_wp2_with (first | ((with_reducible refine gate_callee (f := 21) rfl ?_); refine goesL_ (some 100) rfl rfl Try.func21 (by kernel_rfl) rfl #[.slice Ao50 t248.length co50, .int .i64 1] rfl (by (try simp only [List.map_toArray, List.map_cons, List.map_nil]); first | done | rfl | (simp only [List.length_drop, List.length_take]; rfl)) ?_; (with_reducible refine (laws_heldStringS.calls kj48 _ _ t248 1 t258 _ ?side1 ?side2 A63.out).mono ?_); (case side1 => repeat (first | exact (Kd.R_reads' HO_11.out).2.2 | (with_reducible refine Kd.C_alloc ?_ _) | (with_reducible refine Kd.C_drewN ?_ _) | (with_reducible refine Kd.C_drew ?_))); (case side2 => exact (Kd.R_reads' HO_11.out).2.1); rintro e w67 ⟨rfl, hb⟩; refine ⟨_, rfl, ?_⟩; have n0_ := Aside0.mk (Kd.R_below (by (with_reducible repeat (first | apply Kd.R_alloc | apply Kd.R_drewN | apply Kd.R_drew)); exact HO_11.out) hb); have n1_ := Aside0.mk (below_step (by repeat (first | (with_reducible first | exact HB.out | apply below_alloc | apply pw_below_drewN | apply below_drew1) | exact HB.out)) hb); clear HO_11; clear HB; have HO_11 := n0_; have HB := n1_; clear n0_ n1_; (try clear hb); (try clear hb2); (try clear hk); (try clear hi)))
                go_ret
                exact ⟨by first | rfl | (simp [errW_none, errW_some] <;> rfl) | (simp [*, errW_none, errW_some] <;> rfl), by repeat (first | (with_reducible first | exact HB.out | apply below_alloc | apply pw_below_drewN | apply below_drew1) | exact HB.out)⟩
               ·rw [if_neg c66] at H
                have c66b0 : (t258 == t247) = false := beq_eq_false_iff_ne.mpr c66
                have c66b1 : (t258 != t247) = true := bne_iff_ne.mpr c66
                obtain rfl := Option.some.inj H
                go_wp2_with (first | ((with_reducible refine gate_callee (f := 21) rfl ?_); refine goesL_ (some 100) rfl rfl Try.func21 (by kernel_rfl) rfl #[.slice Ao50 t248.length co50, .int .i64 1] rfl (by (try simp only [List.map_toArray, List.map_cons, List.map_nil]); first | done | rfl | (simp only [List.length_drop, List.length_take]; rfl)) ?_; (with_reducible refine (laws_heldStringS.calls kj48 _ _ t248 1 t258 _ ?side1 ?side2 A63.out).mono ?_); (case side1 => repeat (first | exact (Kd.R_reads' HO_11.out).2.2 | (with_reducible refine Kd.C_alloc ?_ _) | (with_reducible refine Kd.C_drewN ?_ _) | (with_reducible refine Kd.C_drew ?_))); (case side2 => exact (Kd.R_reads' HO_11.out).2.1); rintro e w68 ⟨rfl, hb⟩; refine ⟨_, rfl, ?_⟩; have n0_ := Aside0.mk (Kd.R_below (by (with_reducible repeat (first | apply Kd.R_alloc | apply Kd.R_drewN | apply Kd.R_drew)); exact HO_11.out) hb); have n1_ := Aside0.mk (below_step (by repeat (first | (with_reducible first | exact HB.out | apply below_alloc | apply pw_below_drewN | apply below_drew1) | exact HB.out)) hb); clear HO_11; clear HB; have HO_11 := n0_; have HB := n1_; clear n0_ n1_; (try clear hb); (try clear hb2); (try clear hk); (try clear hi)))
                go_ret
                exact ⟨by first | rfl | (simp [errW_none, errW_some] <;> rfl) | (simp [*, errW_none, errW_some] <;> rfl), by repeat (first | (with_reducible first | exact HB.out | apply below_alloc | apply pw_below_drewN | apply below_drew1) | exact HB.out)⟩
          ·rw [if_neg c46] at H
           have c46b0 : (t249 == t247) = false := beq_eq_false_iff_ne.mpr c46
           have c46b1 : (t249 != t247) = true := bne_iff_ne.mpr c46
           obtain rfl := Option.some.inj H
           obtain ⟨Ao69, co69, eo69⟩ := Kd.R_slice HO_11.out
           subst eo69
           go_wp2_with (first | ((with_reducible refine gate_callee (f := 20) rfl ?_); refine goesL_ (some 72) rfl rfl Try.func20 (by kernel_rfl) rfl #[.slice Ao69 t235.length co69, .int .i64 1] rfl (by (try simp only [List.map_toArray, List.map_cons, List.map_nil]); first | done | rfl | (simp only [List.length_drop, List.length_take]; rfl)) ?_; (with_reducible refine (laws_markStringS.calls kj27 (fun k_ => some k_ = (.slice Ao69 t235.length co69 : Value).ownBlock) (.slice Ao69 t235.length co69) t235 1 t247 t248 w _ ?side1 ?side2 A40.out).mono ?_); (case side1 => repeat (first | (with_reducible first | exact HB.out | apply below_alloc | apply pw_below_drewN | apply below_drew1) | exact HB.out)); (case side2 => exact Kd.R_tight rfl HO_11.out); rintro e w70 ⟨rfl, hy0, hb, hkp⟩; refine ⟨_, rfl, ?_⟩; have n0_ := Aside0.mk (Kd.R_mono (ok' := fun k_ => some k_ ≠ (.slice Ao69 t235.length co69 : Value).ownBlock) (Kd.R_keptB (HO_8.out) hkp (fun k_ hk_ hs_ => (hk_) hs_)) (fun k_ hk_ => hk_.1)); have n1_ := Aside0.mk (Kd.R_reok rfl hy0 (fun k_ e_ => HO_11.out.1 k_ e_)); have n2_ := Aside0.mk (hb); clear HO_8; clear HO_11; clear HB; have HO_8 := n0_; have HO_11 := n1_; have HB := n2_; clear n0_ n1_ n2_; (try clear hb); (try clear hkp); (try clear hy0)) | ((with_reducible refine gate_callee (f := 21) rfl ?_); refine goesL_ (some 75) rfl rfl Try.func21 (by kernel_rfl) rfl #[.slice Ao69 t248.length co69, .int .i64 1] rfl (by (try simp only [List.map_toArray, List.map_cons, List.map_nil]); first | done | (rw [show t248.length = t235.length from (Kd.R_reads' HO_11.out).1.symm] <;> rfl) | rfl | (simp only [List.length_drop, List.length_take]; rfl)) ?_; (with_reducible refine (laws_heldStringS.calls kj27 _ _ t248 1 t249 _ ?side1 ?side2 A41.out).mono ?_); (case side1 => repeat (first | exact (Kd.R_reads' HO_11.out).2.2 | (with_reducible refine Kd.C_alloc ?_ _) | (with_reducible refine Kd.C_drewN ?_ _) | (with_reducible refine Kd.C_drew ?_))); (case side2 => rw [show t248.length = t235.length from (Kd.R_reads' HO_11.out).1.symm]; exact (Kd.R_reads' HO_11.out).2.1); rintro e w71 ⟨rfl, hb⟩; refine ⟨_, rfl, ?_⟩; have n0_ := Aside0.mk (Kd.R_below (by (with_reducible repeat (first | apply Kd.R_alloc | apply Kd.R_drewN | apply Kd.R_drew)); exact HO_8.out) hb); have n1_ := Aside0.mk (Kd.R_below (by (with_reducible repeat (first | apply Kd.R_alloc | apply Kd.R_drewN | apply Kd.R_drew)); exact HO_11.out) hb); have n2_ := Aside0.mk (below_step (by repeat (first | (with_reducible first | exact HB.out | apply below_alloc | apply pw_below_drewN | apply below_drew1) | exact HB.out)) hb); clear HO_8; clear HO_11; clear HB; have HO_8 := n0_; have HO_11 := n1_; have HB := n2_; clear n0_ n1_ n2_; (try clear hb); (try clear hb2); (try clear hk); (try clear hi)))
           go_ret
           exact ⟨by first | rfl | (simp [errW_none, errW_some] <;> rfl) | (simp [*, errW_none, errW_some] <;> rfl), by repeat (first | (with_reducible first | exact HB.out | apply below_alloc | apply pw_below_drewN | apply below_drew1) | exact HB.out)⟩
     ·replace c26 := Bool.eq_false_iff.mpr c26
      subst c26
      have H1 : (some false) = some r := by rw [if_neg (show ¬ (false = true) by decide)] at H; exact H
      clear H
      have H := H1
      clear H1
      obtain rfl := Option.some.inj H
      go_wp2_with (first | ((with_reducible refine gate_callee (f := 17) rfl ?_); refine goesL_ (some 51) rfl rfl Try.func17 (by kernel_rfl) rfl #[.slice A0 l0.length c0] rfl (by (try simp only [List.map_toArray, List.map_cons, List.map_nil]); first | done | rfl | (simp only [List.length_drop, List.length_take]; rfl)) ?_; (with_reducible refine (laws_toStringS.calls kj9 _ _ l0 t240 _ ?side1 ?side2 A24.out).mono ?_); (case side1 => repeat (first | exact (Kd.C_below HR0.out HB.out) | (with_reducible refine Kd.C_alloc ?_ _) | (with_reducible refine Kd.C_drewN ?_ _) | (with_reducible refine Kd.C_drew ?_))); (case side2 => exact HC0.out); rintro e w72 ⟨v241, rfl, ho0, hb⟩; refine ⟨_, rfl, ?_⟩; have n0_ := Aside0.mk (Kd.R_elder' (by (with_reducible repeat (first | apply Kd.R_alloc | apply Kd.R_drewN | apply Kd.R_drew)); exact HO_8.out) (Kd.R_base ho0) hb); have n1_ := Aside0.mk (Kd.R_elder' (by (with_reducible repeat (first | apply Kd.R_alloc | apply Kd.R_drewN | apply Kd.R_drew)); exact HO_10.out) (Kd.R_base ho0) hb); have n2_ := Aside0.mk (Kd.R_elder' (by (with_reducible repeat (first | apply Kd.R_alloc | apply Kd.R_drewN | apply Kd.R_drew)); exact HO_11.out) (Kd.R_base ho0) hb); have n3_ := Aside0.mk (Kd.R_lower (Kd.R_new' (Kd.R_new' (Kd.R_new' ho0 (Kd.R_lt (by (with_reducible repeat (first | apply Kd.R_alloc | apply Kd.R_drewN | apply Kd.R_drew)); exact HO_8.out))) (Kd.R_lt (by (with_reducible repeat (first | apply Kd.R_alloc | apply Kd.R_drewN | apply Kd.R_drew)); exact HO_10.out))) (Kd.R_lt (by (with_reducible repeat (first | apply Kd.R_alloc | apply Kd.R_drewN | apply Kd.R_drew)); exact HO_11.out))) (below_size (by repeat (first | (with_reducible first | exact HB.out | apply below_alloc | apply pw_below_drewN | apply below_drew1) | exact HB.out)))); have n4_ := Aside0.mk (below_step (by repeat (first | (with_reducible first | exact HB.out | apply below_alloc | apply pw_below_drewN | apply below_drew1) | exact HB.out)) hb); clear HO_8; clear HO_10; clear HO_11; clear HB; have HO_8 := n0_; have HO_10 := n1_; have HO_11 := n2_; have HO242 := n3_; have HB := n4_; clear n0_ n1_ n2_ n3_ n4_; (try clear hb); (try clear hb2); (try clear hk); (try clear hi); (try clear ho0); obtain ⟨Ao73, co73, eo73⟩ := Kd.R_slice HO242.out; subst eo73) | ((with_reducible refine gate_callee (f := 19) rfl ?_); refine goesL_ (some 52) rfl rfl Try.func19 (by kernel_rfl) rfl #[.slice Ao15 t232.length co15, .slice Ao73 t240.length co73] rfl (by (try simp only [List.map_toArray, List.map_cons, List.map_nil]); first | done | rfl | (simp only [List.length_drop, List.length_take]; rfl)) ?_; (with_reducible refine (laws_eqStringS.calls kj9 _ _ t232 _ _ t240 false _ ?side1 ?side2 ?side3 ?side4 A25.out).mono ?_); (case side1 => repeat (first | exact (Kd.R_reads' HO_10.out).2.2 | (with_reducible refine Kd.C_alloc ?_ _) | (with_reducible refine Kd.C_drewN ?_ _) | (with_reducible refine Kd.C_drew ?_))); (case side2 => exact (Kd.R_reads' HO_10.out).2.1); (case side3 => repeat (first | exact (Kd.R_reads' HO242.out).2.2 | (with_reducible refine Kd.C_alloc ?_ _) | (with_reducible refine Kd.C_drewN ?_ _) | (with_reducible refine Kd.C_drew ?_))); (case side4 => exact (Kd.R_reads' HO242.out).2.1); rintro e w' ⟨rfl, ⟨nd, rfl⟩⟩; refine ⟨_, rfl, ?_⟩))
      go_ret
      exact ⟨by first | rfl | (simp [errW_none, errW_some] <;> rfl) | (simp [*, errW_none, errW_some] <;> rfl), by repeat (first | (with_reducible first | exact HB.out | apply below_alloc | apply pw_below_drewN | apply below_drew1) | exact HB.out)⟩
end Go.Proofs.Ytjaolkfjpnpglaa.LM
namespace Go.Proofs.Ytjaolkfjpnpglaa.Hd
open Go.RowKit Go.Proofs.YtjaolkfjpnpglaaW.PrintWords Go.Proofs.YtjaolkfjpnpglaaW.PrintLast Go.Proofs.YtjaolkfjpnpglaaW.PrintMore Go.Proofs.Ytjaolkfjpnpglaa.PB
set_option linter.unusedVariables false
set_option linter.unusedSimpArgs false
structure PlanFacts (p : List ByteArray) (cs : List (List Int)) (rs : List Rc) : Prop where
 canon : Canon p
 cells : cs = Hd.canon (numsOf p)
 rooms : rs = roomsOf (numsOf p)
 nums : numsOf p = mapG (fun x => 97 + x) cs
 ok : FloorOk cs rs
 len : p.length = cs.length
 wide : wideOf (numsOf p) = wideOf cs
 text : p = textOf cs
theorem floor_facts {p : List ByteArray} {cs : List (List Int)} {rs : List Rc} (h : floorF p = some (cs, rs)) : PlanFacts p cs rs := by
 have hok := floorF_ok h
 cases hG : gridOk p with
 | false => rw [floorF_nogrid hG] at h; cases h
 | true =>
  rw [floorF_grid hG] at h
  split at h
  ·rename_i hc
   injection h with h
   injection h with e1 e2
   have hC : Canon p := ⟨hG, hc.2.2⟩
   have hn : numsOf p = mapG (fun x => 97 + x) cs := by
    have := numsOf_textOf (canon (numsOf p)) (canon_val hC.shape)
    rw [show textOf (canon (numsOf p)) = p from hC.names, e1] at this
    exact this
   refine ⟨hC, e1.symm, e2.symm, hn, hok, ?_, ?_, ?_⟩
   ·rw [← numsOf_length, hn, mapG_length]
   ·rw [hn, mapG_wide]
   ·rw [← e1]; exact hC.names.symm
  ·cases h
theorem bytesOf_strOfNums (xs : List Int) (h : ∀ x ∈ xs, 0 ≤ x ∧ x ≤ 255) : bytesOf (strOfNums xs) = xs := by
 unfold bytesOf strOfNums
 show ((xs.map fun n => UInt8.ofNat n.toNat).toArray.toList).map _ = _
 rw [List.map_map]
 conv => rhs; rw [← List.map_id xs]
 apply List.map_congr_left
 intro x hx
 have := h x hx
 show ((UInt8.ofNat x.toNat).toNat : Int) = x
 rw [UInt8.toNat_ofNat']
 omega
theorem FloorOk.rect {cs : List (List Int)} {rs : List Rc} (h : FloorOk cs rs) : Rect (wideOf cs) cs := h.cells.row
theorem okText_of {s : ByteArray} (h : ∀ x ∈ bytesOf s, 97 ≤ x ∧ x ≤ 122) : okText s = true := by
 unfold okText
 rw [List.all_eq_true]
 intro x hx
 have := h x hx
 simp only [okLetter, Bool.not_eq_true', Bool.or_eq_false_iff, decide_eq_false_iff_not]
 omega
theorem planB_cases (p : List ByteArray) : (planB p = false ∧ floorF p = none) ∨ (planB p = true ∧ ∃ cs rs, floorF p = some (cs, rs)) := by
 unfold planB
 cases h : floorF p with
 | none => exact .inl ⟨rfl, rfl⟩
 | some t => exact .inr ⟨rfl, t.1, t.2, rfl⟩
end Go.Proofs.Ytjaolkfjpnpglaa.Hd
namespace Go.Proofs.Ytjaolkfjpnpglaa.Hd
open Go.RowKit Go.Proofs.YtjaolkfjpnpglaaW.PrintWords Go.Proofs.YtjaolkfjpnpglaaW.PrintLast Go.Proofs.YtjaolkfjpnpglaaW.PrintMore Go.Proofs.Ytjaolkfjpnpglaa.PB
set_option linter.unusedVariables false
set_option linter.unusedSimpArgs false
def givenB (p : List ByteArray) (a : Int) : Bool := match floorF p with
 | none => false
 | some (_, rs) => hasB rs a
theorem l1Given_ev (p : List ByteArray) (a : Int) (hp : smallP p) : Evs (fun k => spec_l1Given.f k p a) (givenB p a) := by
 have h1 := PlanIn_ev p hp
 rcases planB_cases p with ⟨e1, f1⟩ | ⟨e1, cs, rs, f1⟩
 ·rw [e1] at h1
  have : givenB p a = false := by unfold givenB; rw [f1]
  rw [this]
  refine Evs.bind h1 ?_
  refine Evs.congr (h := fun _ => some false) (fun k => ?_) (Evs.const _)
  rw [if_neg (by simp)]
 ·rw [e1] at h1
  have F := floor_facts f1
  have hg : givenB p a = hasB rs a := by unfold givenB; rw [f1]
  have hR := l1Rooms_ev p _ (gridOk_small F.canon.grid)
  rw [F.canon.max, ← F.rooms] at hR
  have h9 := F.ok.many
  rw [hg]
  refine Evs.bind h1 ?_
  refine Evs.congr (h := fun k => (spec_l1Rooms.f k p).bind fun t167 => ((spec_l6In.f a 0 (wrap64 (t167 - 1))).bind fun t168 => (some t168))) (fun k => ?_) (Evs.bind hR ?_)
  ·rw [if_pos rfl]
  ·refine Evs.congr (h := fun _ => some (hasB rs a)) (fun k => ?_) (Evs.const _)
   rw [wrap64_small (by omega) (by omega), l6In_f]
   simp only [Option.bind_some]
   unfold hasB
   congr 2
   congr 1
   exact propext ⟨fun h => by omega, fun h => by omega⟩
theorem floor_sum {p : List ByteArray} {cs : List (List Int)} {rs : List Rc} (h : floorF p = some (cs, rs)) : sumArea rs = (p.length : Int) * (wideOf (numsOf p) : Int) := by
 have F := floor_facts h
 rw [floorF_grid F.canon.grid] at h
 split at h
 ·rename_i hc
  rw [F.rooms]
  exact hc.2.1
 ·cases h
theorem count_conv (rows : List (List Int)) (wi : Nat) (x : Int) (b : Rc) : ∀ n, (∀ m, m < n → cellN rows wi m = x → inBox b wi m) → countN rows wi x n = countB b wi n → ∀ m, m < n → inBox b wi m → cellN rows wi m = x
 | 0, _, _, m, hm, _ => by omega
 | n + 1, h, he, m, hm, hb => by
  have hle := countN_le_B rows wi x b n (fun m hm => h m (by omega))
  simp only [countN, countB] at he
  by_cases hx : cellN rows wi n = x
  ·rw [if_pos hx, if_pos (h n (by omega) hx)] at he
   rcases Nat.lt_or_eq_of_le (Nat.lt_succ_iff.1 hm) with h1 | h1
   ·exact count_conv rows wi x b n (fun m hm => h m (by omega)) (by omega) m h1 hb
   ·subst h1; exact hx
  ·rw [if_neg hx] at he
   by_cases hbn : inBox b wi n
   ·rw [if_pos hbn] at he; omega
   ·rw [if_neg hbn] at he
    rcases Nat.lt_or_eq_of_le (Nat.lt_succ_iff.1 hm) with h1 | h1
    ·exact count_conv rows wi x b n (fun m hm => h m (by omega)) he m h1 hb
    ·subst h1; exact absurd hb hbn
theorem room_cells {p : List ByteArray} {cs : List (List Int)} {rs : List Rc} (h : floorF p = some (cs, rs)) (i : Nat) (hi : i < rs.length) (r c : Nat) (hr : r < cs.length) (hc : c < wideOf cs) :
  valAt cs r c = (i : Int) ↔ ((rs.getD i zeroR).f0 ≤ r ∧ (r : Int) < (rs.getD i zeroR).f0 + (rs.getD i zeroR).f2 ∧ (rs.getD i zeroR).f1 ≤ c ∧ (c : Int) < (rs.getD i zeroR).f1 + (rs.getD i zeroR).f3) := by
 have F := floor_facts h
 have hsum := floor_sum h
 have hrs := F.rooms
 have hfull := full_iff F.canon
 rw [← hrs, decide_eq_true hsum, List.all_eq_true] at hfull
 have hf := of_decide_eq_true (hfull i (List.mem_range.2 hi))
 rw [← hrs] at hf
 have hs := F.canon.shape
 obtain ⟨x, hx, hb, hbd⟩ := rooms_box hs i (by rw [← hrs]; exact hi)
 rw [numsOf_length, ← hrs] at hb hbd
 have hiff : ∀ m, m < p.length * wideOf (numsOf p) → (cellN (numsOf p) (wideOf (numsOf p)) m = (i : Int) ↔ valAt (numsOf p) (m / wideOf (numsOf p)) (m % wideOf (numsOf p)) = x) := fun m hm => by
  rw [F.canon.cell m hm]
  exact idx_iff (ordAll_nodup _) hx (cell_mem hs m (by rw [numsOf_length]; exact hm))
 have hin : ∀ m, m < p.length * wideOf (numsOf p) → cellN (numsOf p) (wideOf (numsOf p)) m = (i : Int) → inBox (rs.getD i zeroR) (wideOf (numsOf p)) m := fun m hm hv => hb.ins m hm ((hiff m hm).1 hv)
 have hcb := countB_all (rs.getD i zeroR) p.length (wideOf (numsOf p)) hbd
 have hconv := count_conv _ _ _ _ _ hin (hf.trans hcb.symm)
 rw [F.wide] at hin hconv
 have hm : r * wideOf cs + c < p.length * wideOf cs := by
  rw [F.len]
  have : (r + 1) * wideOf cs ≤ cs.length * wideOf cs := Nat.mul_le_mul_right _ hr
  rw [Nat.succ_mul] at this
  omega
 obtain ⟨d1, d2⟩ := divmod_of (r := r) hc
 have hcell : cellN (numsOf p) (wideOf cs) (r * wideOf cs + c) = valAt cs r c := by
  unfold cellN
  rw [d1, d2, F.nums, valAt_map F.ok.rect _ hr hc]
  omega
 have hib : inBox (rs.getD i zeroR) (wideOf cs) (r * wideOf cs + c) ↔ ((rs.getD i zeroR).f0 ≤ r ∧ (r : Int) < (rs.getD i zeroR).f0 + (rs.getD i zeroR).f2 ∧ (rs.getD i zeroR).f1 ≤ c ∧ (c : Int) < (rs.getD i zeroR).f1 + (rs.getD i zeroR).f3) := by unfold inBox; rw [d1, d2]
 rw [← hcell, ← hib]
 exact ⟨hin _ hm, hconv _ hm⟩
end Go.Proofs.Ytjaolkfjpnpglaa.Hd
namespace Go.Proofs.Ytjaolkfjpnpglaa.Hd
open Go.RowKit Go.Proofs.YtjaolkfjpnpglaaW.PrintWords Go.Proofs.YtjaolkfjpnpglaaW.PrintLast Go.Proofs.YtjaolkfjpnpglaaW.PrintMore Go.Proofs.Ytjaolkfjpnpglaa.PB
set_option linter.unusedVariables false
set_option linter.unusedSimpArgs false
structure Mid (p : List ByteArray) (wi : Nat) : Prop where
 high : p.length ≤ 100
 wide : wi ≤ 100
 row : ∀ s ∈ p, s.size = wi
theorem Mid.rect {p : List ByteArray} {wi : Nat} (h : Mid p wi) : Rect wi (numsOf p) := by
 intro r hr
 obtain ⟨s, hs, rfl⟩ := List.mem_map.1 hr
 rw [bytesOf_length]
 exact h.row s hs
theorem mapG_gridOf (f : Int → Int) (h w : Nat) (g : Nat → Nat → Int) : mapG f (gridOf h w g) = gridOf h w (fun r c => f (g r c)) := by
 unfold mapG gridOf
 rw [List.map_map]
 apply List.map_congr_left
 intro r hr
 show (List.map _ _).map f = _
 rw [List.map_map]
 rfl
end Go.Proofs.Ytjaolkfjpnpglaa.Hd
namespace Go.Proofs.Ytjaolkfjpnpglaa.Hd
open Go.RowKit Go.Proofs.YtjaolkfjpnpglaaW.PrintWords Go.Proofs.YtjaolkfjpnpglaaW.PrintLast Go.Proofs.YtjaolkfjpnpglaaW.PrintMore Go.Proofs.Ytjaolkfjpnpglaa.PB Go.Proofs.Ytjaolkfjpnpglaa.SM
set_option linter.unusedVariables false
set_option linter.unusedSimpArgs false
theorem bytesOf_putS (s : ByteArray) (l n : Nat) (c : Int) (h0 : 0 ≤ c) (h1 : c ≤ 255) : bytesOf (putS s l n c) = putN (bytesOf s) l n c := by
 unfold putS
 refine bytesOf_strOfNums _ fun x hx => ?_
 unfold putN at hx
 obtain ⟨i, hi, e⟩ := List.mem_iff_getElem.1 hx
 rw [List.getElem_mapIdx] at e
 subst e
 split
 ·exact ⟨h0, h1⟩
 ·exact bytesOf_range s _ (List.getElem_mem _)
def putB (t l h m : Nat) (r c : Nat) : Prop := (t ≤ r ∧ r < t + h) ∧ (l ≤ c ∧ c < l + m)
instance (t l h m r c : Nat) : Decidable (putB t l h m r c) := by unfold putB; exact inferInstance
theorem numsOf_put {p : List ByteArray} {wi : Nat} (hs : Small p wi) (t l h m : Nat) (x : Int) (h0 : 0 ≤ x) (h1 : x ≤ 255) : numsOf (putR p t h l m x) = gridOf p.length wi (fun r c => if putB t l h m r c then x else valAt (numsOf p) r c) := by
 apply List.ext_getElem?
 intro r
 by_cases hr : r < p.length
 ·rw [gridOf_get hr]
  unfold numsOf putR
  rw [List.getElem?_map, List.getElem?_mapIdx, List.getElem?_eq_getElem hr]
  simp only [Option.map_some]
  congr 1
  have hsz := hs.row _ (List.getElem_mem hr)
  have hrow : ∀ c, c < wi → (bytesOf p[r])[c]? = some (valAt (numsOf p) r c) := fun c hc => by
   obtain ⟨row, e1, e2⟩ := valAt_get hs.rect (by rw [numsOf_length]; exact hr) hc
   unfold numsOf at e1
   rw [List.getElem?_map, List.getElem?_eq_getElem hr] at e1
   have e1 := Option.some.inj e1
   rw [e1]
   exact e2
  apply List.ext_getElem?
  intro c
  by_cases hc : c < wi
  ·rw [List.getElem?_map, List.getElem?_range hc]
   simp only [Option.map_some]
   by_cases ht : t ≤ r ∧ r < t + h
   ·rw [if_pos ht, bytesOf_putS _ _ _ _ h0 h1]
    unfold putN
    rw [List.getElem?_mapIdx, hrow c hc]
    simp only [Option.map_some]
    congr 1
    by_cases hl : l ≤ c ∧ c < l + m
    ·rw [if_pos hl, if_pos ⟨ht, hl⟩]
    ·rw [if_neg hl, if_neg (fun z => hl z.2)]; rfl
   ·rw [if_neg ht, if_neg (fun z => ht z.1)]
    exact hrow c hc
  ·rw [List.getElem?_eq_none (by
    split
    ·rw [bytesOf_putS _ _ _ _ h0 h1, putN_length, bytesOf_length]; omega
    ·rw [bytesOf_length]; omega), List.getElem?_eq_none (by simp; omega)]
 ·rw [List.getElem?_eq_none (by simp [numsOf, putR]; omega), List.getElem?_eq_none (by rw [gridOf_length]; omega)]
theorem put_f {p : List ByteArray} {wi : Nat} (hs : Small p wi) (t l h m x : Int) (t0 : 0 ≤ t) (l0 : 0 ≤ l) (h0 : 0 ≤ h) (m0 : 0 ≤ m) (th : t + h ≤ p.length) (lm : l + m ≤ wi) (x0 : 0 ≤ x) (x1 : x ≤ 255) : spec_l1Put.f p t l h m x = some (putR p t.toNat h.toNat l.toNat m.toNat x) := by
 have hh := hs.high
 have hw := hs.wide
 have hall : (p.all fun s => decide (l + m ≤ s.size) && decide (s.size ≤ 1048576)) = true := by
  rw [List.all_eq_true]
  intro s hss
  rw [hs.row s hss, decide_eq_true lm, decide_eq_true (show wi ≤ 1048576 by omega)]
  rfl
 unfold spec_l1Put.f
 rw [if_pos]
 unfold putOk
 rw [hall, decide_eq_true t0, decide_eq_true l0, decide_eq_true h0, decide_eq_true m0, decide_eq_true x0, decide_eq_true x1, decide_eq_true (show p.length ≤ 1048576 by omega), decide_eq_true th, decide_eq_true (show l ≤ 1048576 by omega), decide_eq_true (show m ≤ 1048576 by omega)]
 rfl
theorem small_put {p : List ByteArray} {wi : Nat} (hs : Small p wi) (t h l m : Nat) (x : Int) : smallP (putR p t h l m x) := by
 have hh := hs.high
 have hw := hs.wide
 refine ⟨by rw [putR_length]; omega, fun s hss => ?_⟩
 unfold putR at hss
 obtain ⟨i, hi, e⟩ := List.mem_iff_getElem.1 hss
 rw [List.length_mapIdx] at hi
 rw [List.getElem_mapIdx] at e
 have hr := hs.row _ (List.getElem_mem hi)
 subst e
 split
 ·have hl := bytesOf_length p[i]
  show (List.map _ (putN (bytesOf p[i]) l m x)).toArray.size ≤ _
  simp [putN_length]
  omega
 ·rw [hr]; omega
theorem put_done {p : List ByteArray} {cs : List (List Int)} {rs : List Rc} (F : PlanFacts p cs rs) (t h l m : Nat) (x : Int) (x0 : 97 ≤ x) (x1 : x ≤ 122) (f : Int → Int) (hf : ∀ S, InjOn f S) (g : Nat → Nat → Int) (hg : ∀ r c, r < cs.length → c < wideOf cs → f (g r c) = if putB t l h m r c then x else 97 + valAt cs r c) : doneF (putR p t h l m x) = planF (gridOf cs.length (wideOf cs) g) := by
 have hsm := gridOk_small F.canon.grid
 rw [F.wide] at hsm
 have hn := numsOf_put hsm t l h m x (by omega) (by omega)
 have hv : numsOf (putR p t h l m x) = mapG f (gridOf cs.length (wideOf cs) g) := by
  rw [hn, mapG_gridOf, F.len]
  refine gridOf_congr fun r c hr hc => ?_
  rw [hg r c hr hc, F.nums, valAt_map F.ok.rect _ hr hc]
 have hok : (putR p t h l m x).all okText = true := by
  rw [List.all_eq_true]
  intro s hs
  refine okText_of fun y hy => ?_
  have hm : bytesOf s ∈ numsOf (putR p t h l m x) := List.mem_map.2 ⟨s, hs, rfl⟩
  rw [hn, F.len] at hm
  unfold gridOf at hm
  obtain ⟨i, hi, e⟩ := List.mem_map.1 hm
  rw [← e] at hy
  obtain ⟨j, hj, rfl⟩ := List.mem_map.1 hy
  have hi := List.mem_range.1 hi
  have hj := List.mem_range.1 hj
  have h1 := valAt_range F.ok i j hi hj
  have h2 := F.ok.many
  dsimp only
  rw [F.nums, valAt_map F.ok.rect _ hi hj]
  split <;> omega
 unfold doneF
 rw [if_pos hok, hv]
 exact plan_map (hf _)
theorem planMerge_j0_true (p : List ByteArray) (a b : Int) : Evs (fun k => spec_PlanMerge.j0 k p a b true) ([], false) := by
 refine Evs.step (h := fun _ => some ([], false)) (fun k => ?_) (Evs.const _)
 show spec_PlanMerge.j0 (k + 1) p a b true = _
 simp only [spec_PlanMerge.j0, if_true, l1None_f, Option.bind_some]
theorem PlanMerge_ev (p : List ByteArray) (a b : Int) (hp : smallP p) : Evs (fun k => spec_PlanMerge.f k p a b) (mergeF p a b) := by
 have ha := l1Given_ev p a hp
 have hb := l1Given_ev p b hp
 cases hF : floorF p with
 | none =>
  have e1 : givenB p a = false := by unfold givenB; rw [hF]
  have e2 : mergeF p a b = ([], false) := by unfold mergeF; rw [hF]
  rw [e1] at ha
  rw [e2]
  refine Evs.bind ha ?_
  refine Evs.congr (fun k => ?_) (planMerge_j0_true p a b)
  rw [if_neg (by simp)]
 | some t =>
  obtain ⟨cs, rs⟩ := t
  have e1 : ∀ x, givenB p x = hasB rs x := fun x => by unfold givenB; rw [hF]
  have e2 : mergeF p a b = if (hasB rs a && hasB rs b && !(a == b)) = true then planF (gridOf cs.length (wideOf cs) (mergeG cs a b)) else ([], false) := by unfold mergeF; rw [hF]
  rw [e1] at ha hb
  rw [e2]
  cases hA : hasB rs a with
  | false =>
   rw [hA] at ha
   refine Evs.bind ha ?_
   refine Evs.congr (fun k => ?_) (planMerge_j0_true p a b)
   rw [if_neg (by simp)]
  | true =>
   rw [hA] at ha
   refine Evs.bind ha ?_
   cases hB : hasB rs b with
   | false =>
    rw [hB] at hb
    refine Evs.congr (h := fun k => (spec_l1Given.f k p b).bind fun t184 => (if t184 = true then (spec_PlanMerge.j0 k p a b (a == b)) else (spec_PlanMerge.j0 k p a b true))) (fun k => by rw [if_pos rfl]) (Evs.bind hb ?_)
    refine Evs.congr (fun k => ?_) (planMerge_j0_true p a b)
    rw [if_neg (by simp)]
   | true =>
    rw [hB] at hb
    refine Evs.congr (h := fun k => (spec_l1Given.f k p b).bind fun t184 => (if t184 = true then (spec_PlanMerge.j0 k p a b (a == b)) else (spec_PlanMerge.j0 k p a b true))) (fun k => by rw [if_pos rfl]) (Evs.bind hb ?_)
    refine Evs.congr (h := fun k => spec_PlanMerge.j0 k p a b (a == b)) (fun k => by rw [if_pos rfl]) ?_
    cases hab : (a == b) with
    | true => exact planMerge_j0_true p a b
    | false =>
     rw [if_pos (by rfl)]
     have F := floor_facts hF
     have hsm := gridOk_small F.canon.grid
     have hL := F.ok.many
     have o1 := F.ok.h1
     have q1 := F.len
     unfold hasB at hA hB
     rw [Bool.and_eq_true, decide_eq_true_eq, decide_eq_true_eq] at hA hB
     obtain ⟨i, rfl⟩ := Int.eq_ofNat_of_zero_le hB.1
     have hi : i < rs.length := by omega
     have hR := l1Room_ev p _ hsm (by omega) (i : Int)
     obtain ⟨c1, c2, c3⟩ := F.canon.room i (by rw [← F.rooms]; exact hi)
     rw [← F.rooms] at c1 c3
     rw [c1] at hR
     have hcell := room_cells hF i hi
     obtain ⟨b1, b2, b3, b4, b5, b6⟩ := c3
     rw [F.wide] at b6
     rw [F.wide] at hsm
     generalize rs.getD i zeroR = bx at *
     have hput := put_f hsm bx.f0 bx.f1 bx.f2 bx.f3 (97 + a) b1 b2 (by omega) (by omega) b5 b6 (by omega) (by omega)
     have hw : wrap64 (97 + a) % 256 = 97 + a := by rw [wrap64_small (by omega) (by omega)]; omega
     have hd := put_done F bx.f0.toNat bx.f2.toNat bx.f1.toNat bx.f3.toNat (97 + a) (by omega) (by omega) (fun x => 97 + x) (fun S x y _ _ e => by have : (97 : Int) + x = 97 + y := e; omega) (mergeG cs a (i : Int)) (fun r c hr hc => by
      have hc2 := hcell r c hr hc
      show 97 + mergeG cs a (i : Int) r c = _
      unfold mergeG
      by_cases hv : valAt cs r c = (i : Int)
      ·have hp := hc2.1 hv
       rw [if_pos hv, if_pos (by unfold putB; omega)]
      ·rw [if_neg hv, if_neg (fun hp => hv (hc2.2 (by unfold putB at hp; omega)))])
     have hdn := l1Done_ev _ (small_put hsm bx.f0.toNat bx.f2.toNat bx.f1.toNat bx.f3.toNat (97 + a))
     rw [hd] at hdn
     refine Evs.step (h := fun k => (spec_l1Room.f k p (i : Int)).bind fun bt189 => ((spec_l1Put.f p bt189.1 bt189.2.1 bt189.2.2.1 bt189.2.2.2 ((wrap64 (97 + a)) % 256)).bind fun t193 => ((spec_l1Done.f k t193).bind fun bt196 => (some (bt196.1, bt196.2))))) (fun k => ?_) (Evs.bind hR ?_)
     ·show spec_PlanMerge.j0 (k + 1) p a (i : Int) false = _
      simp only [spec_PlanMerge.j0, Bool.false_eq_true, if_false]
     ·dsimp only
      rw [hw, hput]
      simp only [Option.bind_some]
      exact Evs.bind hdn (Evs.const _)
end Go.Proofs.Ytjaolkfjpnpglaa.Hd
namespace Go.Proofs.Ytjaolkfjpnpglaa.LM
open Go.RowKit Go.Proofs.YtjaolkfjpnpglaaW.PrintWords Go.Proofs.YtjaolkfjpnpglaaW.PrintLast Go.Proofs.YtjaolkfjpnpglaaW.PrintMore Go.Proofs.Ytjaolkfjpnpglaa.PB Go.Proofs.Ytjaolkfjpnpglaa.Hd Go.Proofs.Ytjaolkfjpnpglaa.SM
set_option linter.unusedVariables false
set_option linter.unusedSimpArgs false
theorem laws_FnExactPlanMerge.j0_eq (k : Nat) (x0 : List ByteArray) (x1 : Int) (x2 : Int) (x8 : List ByteArray) (x9 : Bool) (x10 : List ByteArray) (x11 : List ByteArray) (x12 : Bool) (x48 : Bool) : laws_FnExactPlanMerge.j0 (k + 1) x0 x1 x2 x8 x9 x10 x11 x12 x48 = (if x48 = true then (some false) else ((laws_toStringS.f k x0).bind fun t240 => ((laws_eqStringS.f k x10 t240).bind fun t243 => (if t243 = true then ((laws_markStringS.f k x10 1).bind fun bt244 => (if bt244.1 < 0 then (laws_FnExactPlanMerge.j1 k x0 x1 x2 x8 x9 x11 true) else ((laws_eqStringS.f k x11 x8).bind fun t246 => (if t246 = true then (laws_FnExactPlanMerge.j1 k x0 x1 x2 x8 x9 x11 (x12 != x9)) else (laws_FnExactPlanMerge.j1 k x0 x1 x2 x8 x9 x11 true))))) else (some false))))) := by simp only [laws_FnExactPlanMerge.j0]
theorem laws_FnExactPlanMerge.j1_eq (k : Nat) (x0 : List ByteArray) (x1 : Int) (x2 : Int) (x8 : List ByteArray) (x9 : Bool) (x11 : List ByteArray) (x69 : Bool) : laws_FnExactPlanMerge.j1 (k + 1) x0 x1 x2 x8 x9 x11 x69 = (if x69 = true then (some false) else ((laws_markStringS.f k x11 1).bind fun bt247 => ((laws_heldStringS.f k bt247.2 1).bind fun t249 => (if t249 < 0 then (some false) else (if t249 = bt247.1 then ((laws_toStringS.f k x0).bind fun t250 => ((impl_PlanMerge.f t250 x1 x2).bind fun bt253 => ((laws_eqStringS.f k bt253.1 x8).bind fun t257 => (if t257 = true then (laws_FnExactPlanMerge.j2 k bt247.2 bt247.1 (bt253.2 != x9)) else (laws_FnExactPlanMerge.j2 k bt247.2 bt247.1 true))))) else (some false)))))) := by simp only [laws_FnExactPlanMerge.j1]
theorem laws_FnExactPlanMerge.j2_eq (k : Nat) (x11 : List ByteArray) (x14 : Int) (x97 : Bool) : laws_FnExactPlanMerge.j2 (k + 1) x11 x14 x97 = (if x97 = true then (some false) else ((laws_heldStringS.f k x11 1).bind fun t258 => (if t258 < 0 then (some false) else (if t258 = x14 then (some true) else (some false))))) := by simp only [laws_FnExactPlanMerge.j2]
theorem len_res (l0 : List ByteArray) (a1 : Int) (a2 : Int) : (mergeF l0 a1 a2).1.length ≤ 1048576 := by
 have := mergeF_len l0 a1 a2
 omega
theorem impl_res (l0 : List ByteArray) (a1 : Int) (a2 : Int) (hs_l0 : smallP l0) : impl_PlanMerge.f l0 a1 a2 = some (mergeF l0 a1 a2) := by
 unfold impl_PlanMerge.f
 rw [if_pos ((smallB_iff _).2 hs_l0)]
theorem j2_ev (n : Nat) (hn : n ≤ 1048576) : Evs (fun k => laws_FnExactPlanMerge.j2 k (marksOf 1 n) ((1 + n : Nat) : Int) false) true := by
 refine Evs.step (fun k => laws_FnExactPlanMerge.j2_eq k _ _ _) ?_
 refine Evs.neg (by simp) (Evs.bind (heldS_ev n hn 1 (by omega)) (Evs.neg (by omega) (Evs.pos rfl (Evs.const _))))
theorem j1_ev (l0 : List ByteArray) (a1 : Int) (a2 : Int) (hs_l0 : smallP l0) : Evs (fun k => laws_FnExactPlanMerge.j1 k l0 a1 a2 (mergeF l0 a1 a2).1 (mergeF l0 a1 a2).2 (mergeF l0 a1 a2).1 false) true := by
 have hl := len_res l0 a1 a2
 have hi := impl_res l0 a1 a2 hs_l0
 refine Evs.step (fun k => laws_FnExactPlanMerge.j1_eq k _ _ _ _ _ _ _) ?_
 refine Evs.neg (by simp) (Evs.bind (markS_ev _ hl 1 (by omega)) (Evs.bind (heldS_ev _ hl 1 (by omega)) (Evs.neg (by omega) (Evs.pos rfl (Evs.bind (toS_ev l0 hs_l0.1) (Evs.bindS hi (Evs.bind (eqS_same _ hl) (Evs.pos rfl ?_))))))))
 have e : ((mergeF l0 a1 a2).2 != (mergeF l0 a1 a2).2) = false := by simp
 try dsimp only
 rw [e]
 exact j2_ev _ hl
theorem j0_ev (l0 : List ByteArray) (a1 : Int) (a2 : Int) (hs_l0 : smallP l0) : Evs (fun k => laws_FnExactPlanMerge.j0 k l0 a1 a2 (mergeF l0 a1 a2).1 (mergeF l0 a1 a2).2 l0 (mergeF l0 a1 a2).1 (mergeF l0 a1 a2).2 false) true := by
 have hl := len_res l0 a1 a2
 refine Evs.step (fun k => laws_FnExactPlanMerge.j0_eq k _ _ _ _ _ _ _ _ _) ?_
 refine Evs.neg (by simp) (Evs.bind (toS_ev l0 hs_l0.1) (Evs.bind (eqS_same l0 hs_l0.1) (Evs.pos rfl (Evs.bind (markS_ev l0 hs_l0.1 (1) (by have := hs_l0.1; omega)) (Evs.neg (by dsimp only; omega) (Evs.bind (eqS_same _ hl) (Evs.pos rfl ?_)))))))
 have e : ((mergeF l0 a1 a2).2 != (mergeF l0 a1 a2).2) = false := by simp
 try dsimp only
 rw [e]
 exact j1_ev l0 a1 a2 hs_l0
theorem law_ev (l0 : List ByteArray) (a1 : Int) (a2 : Int) (hf_l0 : fits l0) : Evs (fun k => laws_FnExactPlanMerge.f k l0 a1 a2) true := by
 unfold laws_FnExactPlanMerge.f
 obtain ⟨v0, e0, h0⟩ := sz_ev l0 hf_l0 1048576 (by omega) (by omega)
 refine Evs.bind e0 ?_
 rcases h0 with h0 | ⟨hs_l0, g0, k0⟩
 ·exact Evs.pos h0 (Evs.const _)
 refine Evs.neg (by omega) ?_
 have hl := len_res l0 a1 a2
 have hi := impl_res l0 a1 a2 hs_l0
 refine Evs.bind (toS_ev l0 hs_l0.1) (Evs.bind (PlanMerge_ev l0 a1 a2 hs_l0) (Evs.bind (toS_ev l0 hs_l0.1) (Evs.bindS hi (Evs.bind (eqS_same _ hl) (Evs.pos rfl ?_)))))
 have e : ((mergeF l0 a1 a2).2 != (mergeF l0 a1 a2).2) = false := by simp
 try dsimp only
 rw [e]
 exact j0_ev l0 a1 a2 hs_l0
end Go.Proofs.Ytjaolkfjpnpglaa.LM
