/- Part 6 of the proof of FnNear: what the program's functions and the reference's compute. -/
import Derived.Laws.IdiomCopy
import Derived.Test.YtoijjkhdfooapaaProg
import Derived.Below
import Derived.Deep.Draws
import Derived.Deep.AppendLies
import Derived.Maps.AppendAt
import Derived.OwnWalk
import Derived.Laws.BytesArg
import Derived.Laws.MakeOwn
import Derived.Laws.OwnMore
import Derived.Deep.OwnRows
import Derived.Tactics
import Derived.Lib.ConvBytes
import Derived.Laws.Slices
import Derived.WalkKit
import Derived.KernelRfl
import Derived.RowKit3
import Derived.Deep.LoopGhost
import Derived.Deep.QuietTactic
import Derived.BigQuiet
import Derived.WideLaws
import Derived.Deep.DeepCutAuto
import Derived.Deep.CutBlock
import Derived.Deep.RegionHeld3
import Derived.Laws.Rows
import Derived.Lib.AppendStr
import Derived.ArgAppend
import Derived.OrdersHeld
import Derived.Laws.BitsLemmas
import Derived.RowKit
import Derived.Test.YtoijjkhdfooapaaCPNEe
set_option linter.unusedSimpArgs false
set_option linter.unusedVariables false
namespace Go.Proofs.Ytoijjkhdfooapaa.Hd
open Go.RowKit Go.PW.PrintWords Go.PW.PrintLast Go.PW.PrintMore Go.Proofs.Ytoijjkhdfooapaa.PB
def wallsP (cs : List (List Int)) : List (Bool × Nat × Nat × Nat) := (upT cs).map (fun t => (false, t)) ++ (levT cs).map (fun t => (true, t))
theorem wallsP_walls (cs : List (List Int)) : wallsOf cs = (wallsP cs).map fun x => mkW x.1 x.2 := by
 unfold wallsP
 rw [wallsOf_eq, List.map_append, List.map_map, List.map_map]
 rfl
theorem wallsP_touch (cs : List (List Int)) : touchL cs = (wallsP cs).flatMap fun x => touchW cs x.1 x.2 := by
 unfold wallsP touchL
 rw [List.flatMap_append, List.flatMap_map, List.flatMap_map]
theorem wallsP_ok {cs : List (List Int)} {rs : List Rc} (h : FloorOk cs rs) (i : Nat) (hi : i < (wallsP cs).length) : ∃ lv l f n, (wallsP cs)[i]? = some (lv, l, f, n) ∧ 1 ≤ l ∧ l < linesOf cs lv ∧ f + n ≤ zcc cs lv ∧ 1 ≤ n ∧ linesOf cs lv ≤ 6 ∧ zcc cs lv ≤ 6 := by
 have q1 := h.h6
 have q2 := h.w6
 have q3 := h.h1
 have q4 := h.w1
 have hm := List.getElem_mem hi
 rw [List.getElem?_eq_getElem hi]
 generalize (wallsP cs)[i] = x at *
 unfold wallsP at hm
 rcases List.mem_append.1 hm with hm | hm
 ·obtain ⟨⟨l, f, n⟩, hx, rfl⟩ := List.mem_map.1 hm
  have := trip_in _ _ _ _ hx
  exact ⟨false, l, f, n, rfl, by simp only [linesOf, zcc, Bool.false_eq_true, if_false]; dsimp only at this; omega⟩
 ·obtain ⟨⟨l, f, n⟩, hx, rfl⟩ := List.mem_map.1 hm
  have := trip_in _ _ _ _ hx
  exact ⟨true, l, f, n, rfl, by simp only [linesOf, zcc, if_true]; dsimp only at this; omega⟩
def touchP (cs : List (List Int)) (i : Nat) : List (Int × Int) := ((wallsP cs).take i).flatMap fun x => touchW cs x.1 x.2
theorem touchW_length (cs : List (List Int)) (lv : Bool) (x : Nat × Nat × Nat) : (touchW cs lv x).length = x.2.2 := by simp [touchW]
theorem touchP_succ (cs : List (List Int)) (i : Nat) (lv : Bool) (t : Nat × Nat × Nat) (h : (wallsP cs)[i]? = some (lv, t)) : touchP cs (i + 1) = touchP cs i ++ touchW cs lv t := by
 unfold touchP
 rw [List.take_add_one, h, List.flatMap_append]
 simp
theorem touchP_length {cs : List (List Int)} {rs : List Rc} (h : FloorOk cs rs) : ∀ i, i ≤ (wallsP cs).length → (touchP cs i).length ≤ i * 6
 | 0, _ => by simp [touchP]
 | i + 1, hi => by
  obtain ⟨lv, l, f, n, e, h1, h2, h3, h4, h5, h6⟩ := wallsP_ok h i (by omega)
  have ih := touchP_length h i (by omega)
  rw [touchP_succ cs i lv _ e, List.length_append, touchW_length, Nat.succ_mul]
  dsimp only
  omega
theorem touchP_all (cs : List (List Int)) : touchP cs (wallsP cs).length = touchL cs := by
 unfold touchP
 rw [List.take_length, wallsP_touch]
theorem touchW_take (cs : List (List Int)) (lv : Bool) (l f n j : Nat) (hj : j < n) : (touchW cs lv (l, f, n)).take (j + 1) = (touchW cs lv (l, f, n)).take j ++ [sidesOf cs lv l (f + j)] := by
 unfold touchW
 rw [List.take_add_one, List.getElem?_map, List.getElem?_range hj]
 rfl
theorem sides_range {cs : List (List Int)} {rs : List Rc} (h : FloorOk cs rs) (lv : Bool) (line i : Nat) (h1 : 1 ≤ line) (h2 : line < linesOf cs lv) (h3 : i < zcc cs lv) : ∃ a b : Nat, sidesOf cs lv line i = ((a : Int), (b : Int)) ∧ a < rs.length ∧ b < rs.length := by
 unfold sidesOf
 cases lv with
 | true =>
  simp only [linesOf, zcc, if_true] at h2 h3
  have v1 := valAt_range h (line - 1) i (by omega) h3
  have v2 := valAt_range h line i h2 h3
  rw [if_pos rfl]
  exact ⟨(zbd cs (line - 1) i).toNat, (zbd cs line i).toNat, by rw [Int.toNat_of_nonneg v1.1, Int.toNat_of_nonneg v2.1], by omega, by omega⟩
 | false =>
  simp only [linesOf, zcc, Bool.false_eq_true, if_false] at h2 h3
  have v1 := valAt_range h i (line - 1) h3 (by omega)
  have v2 := valAt_range h i line h3 h2
  rw [if_neg (by simp)]
  exact ⟨(zbd cs i (line - 1)).toNat, (zbd cs i line).toNat, by rw [Int.toNat_of_nonneg v1.1, Int.toNat_of_nonneg v2.1], by omega, by omega⟩
def incG (G : Nat → Nat → Int) (i j r c : Nat) : Int := if r = i ∧ c = j then G r c + 1 else G r c
def hitG (T : List (Int × Int)) (r c : Nat) : Int := hits T (r : Int) (c : Int)
theorem hitG_snoc (T : List (Int × Int)) (a b r c : Nat) : incG (incG (hitG T) a b) b a r c = hitG (T ++ [((a : Int), (b : Int))]) r c := by
 unfold hitG
 rw [hits_append]
 have e : hits [((a : Int), (b : Int))] (r : Int) (c : Int) = (if r = a ∧ c = b then 1 else 0) + (if r = b ∧ c = a then 1 else 0) := by
  unfold hits hit
  simp only [List.map_cons, List.map_nil, sumZ, Prod.mk.injEq]
  have e1 : ((a : Int) = (r : Int) ∧ (b : Int) = (c : Int)) ↔ (r = a ∧ c = b) := by omega
  have e2 : ((a : Int) = (c : Int) ∧ (b : Int) = (r : Int)) ↔ (r = b ∧ c = a) := by omega
  simp only [e1, e2]
  omega
 rw [e]
 unfold incG
 dsimp only
 split <;> split <;> omega
theorem grid_inc {n : Nat} (G : Nat → Nat → Int) (i j : Nat) (hi : i < n) (hj : j < n) : (zbk n n G).set i (((List.range n).map fun c => G i c).set j (G i j + 1)) = zbk n n (incG G i j) := by
 apply List.ext_getElem?
 intro r
 by_cases hr : r < n
 ·rw [gridOf_get hr, List.getElem?_set]
  by_cases e : i = r
  ·subst e
   rw [if_pos rfl, if_pos (by rw [zbe]; exact hi)]
   congr 1
   apply List.ext_getElem?
   intro c
   rw [List.getElem?_set]
   by_cases hc : c < n
   ·rw [List.getElem?_map, List.getElem?_range hc]
    by_cases e2 : j = c
    ·subst e2
     rw [if_pos rfl, if_pos (by simp; exact hj), List.getElem?_map, List.getElem?_range hj]
     simp [incG]
    ·rw [if_neg e2, List.getElem?_map, List.getElem?_range hc]
     simp only [Option.map_some, incG]
     rw [if_neg (fun z => e2 z.2.symm)]
   ·rw [List.getElem?_eq_none (by simp; omega : ((List.range n).map fun c => incG G i j i c).length ≤ c), if_neg (by omega), List.getElem?_eq_none (by simp; omega)]
  ·rw [if_neg e, gridOf_get hr]
   congr 1
   apply List.map_congr_left
   intro c _
   unfold incG
   rw [if_neg (fun z => e z.1.symm)]
 ·rw [List.getElem?_eq_none (by rw [List.length_set, zbe]; omega), List.getElem?_eq_none (by rw [zbe]; omega)]
theorem mat_inc {W : World} {g0 n : Nat} {bs : List Nat} {G : Nat → Nat → Int} (HM : MatAt W g0 n bs (zbk n n G)) (i j : Nat) (hi : i < n) (hj : j < n) :
  ∃ b, b ∈ bs ∧ W.cell? ⟨g0, i, none⟩ = some (.slice (some ⟨b, 0, none⟩) n n) ∧ W.cell? ⟨b, j, none⟩ = some (.int .i64 (G i j)) ∧ W.frozen? ⟨b, j, none⟩ = false ∧ ∀ p : Int, p = G i j + 1 → MatAt (W.setCell ⟨b, j, none⟩ (.int .i64 p)) g0 n bs (zbk n n (incG G i j)) := by
 have hr := gridOf_get (hi := n) (wi := n) (g := G) hi
 obtain ⟨b, hb⟩ : ∃ b, bs[i]? = some b := ⟨_, List.getElem?_eq_getElem (by rw [HM.len, zbe]; exact hi)⟩
 have hx : ((List.range n).map fun c => G i c)[j]? = some (G i j) := by rw [List.getElem?_map, List.getElem?_range hj]; rfl
 have h1 := HM.topCell i b _ hb hr
 have h2 := HM.rowCell i j b _ _ hb hr hx
 have h3 := HM.set i j b _ (G i j + 1) hb hr
 rw [grid_inc G i j hi hj] at h3
 simp only [List.length_map, List.length_range] at h1
 exact ⟨b, List.mem_of_getElem? hb, h1, h2.1, h2.2, fun p hp => by subst hp; exact h3⟩
theorem wallsP_get {cs : List (List Int)} {i : Nat} {x : Bool × Nat × Nat × Nat} (h : (wallsP cs)[i]? = some x) : (wallsOf cs).getD i zeroW = mkW x.1 x.2 := by
 rw [wallsP_walls, List.getD_eq_getElem?_getD, List.getElem?_map, h]
 rfl
theorem wallsP_length (cs : List (List Int)) : (wallsP cs).length = (wallsOf cs).length := by rw [wallsP_walls]; simp
set_option maxHeartbeats 4000000 in
set_option maxRecDepth 100000 in
theorem touching1_read (w : World) (n : Nat) : ReadFn Try.prog 98 #[] w n n (fun _ _ => 0) := by
 intro W r c hr hc hS
 clear hS
 show Calls _ _ #[.int .i64 r, .int .i64 c] W _
 go_enter Try.func98, Try.ntmps98
 go_wp2
 go_ret
 exact ⟨rfl, Below.refl _ _⟩
theorem block_ne {W : World} {a b t s : Nat} {x y : Array Value} {u v : Nat × Nat} (ha : W.heap[a]? = some (.cells x t u)) (hb : W.heap[b]? = some (.cells y s v)) (h : t ≠ s) : a ≠ b := by
 rintro rfl
 rw [ha] at hb
 injection hb with hb
 injection hb with _ hb
 exact h hb
theorem MatAt.typed {W : World} {g n : Nat} {bs : List Nat} {rows : List (List Int)} (h : MatAt W g n bs rows) {b : Nat} (hb : b ∈ bs) : ∃ x, W.heap[b]? = some (.cells x 3 (0, 0)) := by
 obtain ⟨i, hi, e⟩ := List.mem_iff_getElem.1 hb
 have hr : i < rows.length := by rw [← h.len]; exact hi
 exact ⟨_, h.row i b _ (by rw [List.getElem?_eq_getElem hi, e]) (List.getElem?_eq_getElem hr)⟩
set_option maxHeartbeats 8000000 in
set_option maxRecDepth 100000 in
theorem touching_calls (g : Nat) (cs : List (List Int)) (rs : List Rc) (w : World) (hf : FloorAt w g cs rs) (hk : FloorOk cs rs) :
  Calls Try.prog 76 #[.pointer (some ⟨g, 0, none⟩)] w (GridRes w (touchM cs rs.length)) := by
 have HF := zaa.mk hf
 have HK := zaa.mk hk
 obtain ⟨Ar, cr, hrm, -⟩ := hf.rooms
 have h9 := hk.many
 clear hf hk
 have b9 : (rs.length : Int) ≤ 9 := by omega
 go_enter Try.func76, Try.ntmps76
 go_wp2
 refine start_ (n := 12) (S := fun w' => (w'.cell? ⟨g, 1, none⟩ = some (.slice Ar rs.length cr)) ∧ (Below w.heap.size w w')) (ds := []) #[false, false, false, false, false, false, false, false, false, false, false, false] (by kernel_rfl) rfl rfl (⟨hrm, ⟨rfl, rfl, rfl, Nat.le_refl _, fun _ _ => rfl⟩⟩) (fun hHeld => ?_)
 clear hrm
 refine zbl (i := 0) (N := some 9) (v := ?_) (a' := ?_) #[true, false, false, false, false, false, false, false, false, false, false, false] rfl rfl (by kernel_rfl) (fun _ _ _ h => h) (Or.inl ⟨by rfl, ?_⟩) ?_ ?_
 rotate_left
 ·intro w'
  go_simp
  with_reducible rfl
 rotate_left
 ·simp only [Act.put, List.setIfInBounds_toArray, List.set_cons_zero, List.set_cons_succ, zay, zba]
  rfl
 refine zbl (i := 1) (N := some 10) (v := ?_) (a' := ?_) #[true, true, false, false, false, false, false, false, false, false, false, false] rfl rfl (by kernel_rfl) (fun _ _ _ h => h) (Or.inl ⟨by rfl, ?_⟩) ?_ ?_
 rotate_left
 ·intro w'
  go_simp
  with_reducible rfl
 rotate_left
 ·simp only [Act.put, List.setIfInBounds_toArray, List.set_cons_zero, List.set_cons_succ, zay, zba]
  rfl
 refine zbl (i := 2) (N := some 11) (v := ?_) (a' := ?_) #[true, true, true, false, false, false, false, false, false, false, false, false] rfl rfl (by kernel_rfl) (fun _ _ _ h => h) (Or.inl ⟨by rfl, ?_⟩) ?_ ?_
 rotate_left
 ·intro w'
  go_simp
  with_reducible rfl
 rotate_left
 ·simp only [Act.put, List.setIfInBounds_toArray, List.set_cons_zero, List.set_cons_succ, zay, zba]
  rfl
 refine take_ (i := 3) (N := some 12) (v := ?_) (a' := ?_) #[true, true, true, true, false, false, false, false, false, false, false, false] rfl rfl (by kernel_rfl) (fun _ _ _ h => h) (Or.inl ⟨by rfl, ?_⟩) hHeld ?_ ?_
 rotate_left
 ·rintro w' ⟨s0, s1⟩
  go_simp
  with_reducible rfl
 rotate_left
 ·simp only [Act.put, List.setIfInBounds_toArray, List.set_cons_zero, List.set_cons_succ, zay, zba]
  rfl
 refine zbl (i := 4) (N := some 13) (v := ?_) (a' := ?_) #[true, true, true, true, true, false, false, false, false, false, false, false] rfl rfl (by kernel_rfl) (fun _ _ _ h => h) (Or.inl ⟨by rfl, ?_⟩) ?_ ?_
 rotate_left
 ·intro w'
  go_simp
  with_reducible rfl
 rotate_left
 ·simp only [Act.put, List.setIfInBounds_toArray, List.set_cons_zero, List.set_cons_succ, zay, zba]
  rfl
 refine zbl (i := 5) (N := some 14) (v := ?_) (a' := ?_) #[true, true, true, true, true, true, false, false, false, false, false, false] rfl rfl (by kernel_rfl) (fun _ _ _ h => h) (Or.inl ⟨by rfl, ?_⟩) ?_ ?_
 rotate_left
 ·intro w'
  go_simp
  with_reducible rfl
 rotate_left
 ·simp only [Act.put, List.setIfInBounds_toArray, List.set_cons_zero, List.set_cons_succ, zay, zba]
  rfl
 refine zbl (i := 6) (N := some 15) (v := ?_) (a' := ?_) #[true, true, true, true, true, true, true, false, false, false, false, false] rfl rfl (by kernel_rfl) (fun _ _ _ h => h) (Or.inl ⟨by rfl, ?_⟩) ?_ ?_
 rotate_left
 ·intro w'
  go_simp
  with_reducible rfl
 rotate_left
 ·simp only [Act.put, List.setIfInBounds_toArray, List.set_cons_zero, List.set_cons_succ, zay, zba]
  rfl
 refine zbl (i := 7) (N := some 16) (v := ?_) (a' := ?_) #[true, true, true, true, true, true, true, true, false, false, false, false] rfl rfl (by kernel_rfl) (fun _ _ _ h => h) (Or.inl ⟨by rfl, ?_⟩) ?_ ?_
 rotate_left
 ·intro w'
  go_simp
  with_reducible rfl
 rotate_left
 ·simp only [Act.put, List.setIfInBounds_toArray, List.set_cons_zero, List.set_cons_succ, zay, zba]
  rfl
 refine take_ (i := 8) (N := some 17) (v := ?_) (a' := ?_) #[true, true, true, true, true, true, true, true, true, false, false, false] rfl rfl (by kernel_rfl) (fun _ _ _ h => h) (Or.inl ⟨by rfl, ?_⟩) hHeld ?_ ?_
 rotate_left
 ·rintro w' ⟨s0, s1⟩
  go_simp
  with_reducible rfl
 rotate_left
 ·simp only [Act.put, List.setIfInBounds_toArray, List.set_cons_zero, List.set_cons_succ, zay, zba]
  rfl
 refine zbl (i := 9) (N := some 18) (v := ?_) (a' := ?_) #[true, true, true, true, true, true, true, true, true, true, false, false] rfl rfl (by kernel_rfl) (fun _ _ _ h => h) (Or.inl ⟨by rfl, ?_⟩) ?_ ?_
 rotate_left
 ·intro w'
  go_simp
  with_reducible rfl
 rotate_left
 ·simp only [Act.put, List.setIfInBounds_toArray, List.set_cons_zero, List.set_cons_succ, zay, zba]
  rfl
 refine one_ (i := 10) (N := some 19) #[true, true, true, true, true, true, true, true, true, true, true, false] rfl rfl (by kernel_rfl) (by decide) (fun K hK => ?_)
 refine goes_ Try.func95 (by kernel_rfl) rfl #[.int .i64 (rs.length : Int), .int .i64 (rs.length : Int), .func (.func 98) #[] #[]] (by rfl) rfl rfl (by (try simp only [List.map_toArray, List.map_cons, List.map_nil]); first | done | rfl) ?_
 have hs_ := hHeld
 obtain ⟨s0, s1⟩ := hs_
 refine (blank_calls 98 Try.f98 Try.func98 (by kernel_rfl) rfl _ rs.length rs.length _ _ (readFn_cell (touching1_read _ rs.length)) (fun k => k < _) _ ⟨fun _ => Iff.rfl, Sees.refl _⟩ (by omega) (by omega)).mono ?_
 rintro e w13 ⟨g0, bs, F', rfl, hM, hfar, ⟨hF, hS⟩, hF', hO⟩
 have hb : Below _ _ w13 := ⟨hO.os, hO.tape, hO.output, hS.1, hS.2⟩
 have HM13 := zaa.mk hM
 have HLow := zaa.mk (fun k hk => Nat.le_trans s1.size (hfar k hk).1)
 have HB13 := zaa.mk (zaj s1 hb)
 clear hM hfar hF hS hF' hO
 refine ⟨_, rfl, ?_⟩
 refine hK.out _ _ ⟨zas hb s0, zaj s1 hb⟩ (fun hHeld => ?_)
 clear hK K hb s0 s1
 refine norm_ (a' := ?_) ?_ ?_
 rotate_left
 ·show Act.put _ (some 19) _ = _
  simp only [Act.put, List.setIfInBounds_toArray, List.set_cons_zero, List.set_cons_succ, zay, zba]
  rfl
 refine zbl (i := 11) (N := some 3) (v := ?_) (a' := ?_) #[true, true, true, true, true, true, true, true, true, true, true, true] rfl rfl (by kernel_rfl) (fun _ _ _ h => h) (Or.inl ⟨by rfl, ?_⟩) ?_ ?_
 rotate_left
 ·intro w'
  go_simp
  with_reducible rfl
 rotate_left
 ·simp only [Act.put, List.setIfInBounds_toArray, List.set_cons_zero, List.set_cons_succ, zay, zba]
  rfl
 refine done_ (by kernel_rfl) ?_
 clear hHeld
 obtain ⟨K, hK⟩ := walls_ev HK.out
 have HW := zaa.mk (hK K (Nat.le_refl K))
 have HL := zaa.mk (wallsOf_bound HK.out)
 have HPL := zaa.mk (wallsP_length cs)
 have HPG := zaa.mk (fun i x h => wallsP_get (cs := cs) (i := i) (x := x) h)
 have hM0 : touchM cs rs.length = zbk rs.length rs.length (hitG (touchP cs (wallsOf cs).length)) := by
  rw [← wallsP_length, touchP_all]
  rfl
 have HM0 := zaa.mk hM0
 have HZ := zaa.mk (show zbk rs.length rs.length (fun _ _ => 0) = zbk rs.length rs.length (hitG (touchP cs 0)) from gridOf_congr fun r c _ _ => rfl)
 clear hK hM0
 generalize wallsOf cs = ws at *
 generalize touchM cs rs.length = tm at *
 have b1 : (ws.length : Int) ≤ 72 := by have := HL.out; omega
 go_wp2_with (first
  | (go_at_call 57; refine (impl_floor_walls.calls K g cs rs ws _ _ (HF.out.below HB13.out) (Below.refl _ _) HW.out).mono ?_; rintro e w9 ⟨v9, rfl, hr9, -, hb9, -⟩; obtain ⟨A9, c9, e9⟩ := Kd.R_slice hr9; subst e9; have HB9 := zaa.mk (zaj HB13.out hb9); have HR9 := zaa.mk (Kd.R_lower hr9 HB13.out.size); have HM9 := zaa.mk (HM13.out.move (fun k hk => hb9.block k (HM13.out.lt k hk))); clear hb9 hr9))
 go_loopg [23] ws.length (fun kq v23 w' => ∃ i : Nat, v23 = .int .i64 (i : Int) ∧ zaa (i + kq = ws.length) ∧ zaa (MatAt w' g0 rs.length bs (zbk rs.length rs.length (hitG (touchP cs i)))) ∧ zaa (Kd.R kWl 60 w' w.heap.size (fun _ => True) (.slice A9 ws.length c9) ws) ∧ zaa (Below w.heap.size w w'))
 case atStart => exact ⟨0, rfl, ⟨by omega⟩, ⟨HZ.out ▸ HM9.out⟩, HR9, HB9⟩
 case round =>
  clear HR9 HB9 HM9
  obtain ⟨i, rfl, HKi, HM, HO, HB⟩ := hrel
  by_cases hi : i < ws.length
  ·have hlt : (i : Int) < (ws.length : Int) := by omega
   have hi0 : (0 : Int) ≤ i := by omega
   obtain ⟨gr, cp, ev, hgr, hltg, cells, hcells⟩ := Kd.R_form HO.out (by omega)
   injection ev with ea en ec
   subst ea
   clear en ec hcells hltg hgr
   obtain ⟨z0, z1, z2, z3⟩ := wl_cells HO.out i hi
   obtain ⟨lv, l, f, n, hP, k1, k2, k3, k4, k5, k6⟩ := wallsP_ok HK.out i (by rw [HPL.out]; exact hi)
   rw [HPG.out i _ hP] at z0 z1 z2 z3
   simp only [mkW] at z0 z1 z2 z3
   have HTS := zaa.mk (touchP_succ cs i lv _ hP)
   have HTL := zaa.mk (touchP_length HK.out i (by rw [HPL.out]; omega))
   have HSd := zaa.mk (fun j (hj : j < n) => sides_range HK.out lv l (f + j) k1 k2 (by omega))
   have HSf := zaa.mk (fun j (hj : j < n) => sides_f HK.out lv l (f + j) k1 k2 (by omega))
   obtain ⟨fn, hw, hfn⟩ : ∃ fn : Int, wrap64 ((f : Int) + (n : Int)) = fn ∧ fn = (f : Int) + (n : Int) := ⟨_, rfl, zar (by omega) (by omega)⟩
   have HFN := zaa.mk hfn
   have HN6 := zaa.mk (show f + n ≤ 6 ∧ n ≤ 6 by omega)
   clear hP k1 k2 k3 k4 k5 k6 hfn
   have HNw := zaa.mk (heap_alloc_new wr (.cells #[.bool lv, .int .i64 (l : Int), .int .i64 (f : Int), .int .i64 (n : Int)] 60))
   have HBa := zaa.mk (zac HB.out (.cells #[.bool lv, .int .i64 (l : Int), .int .i64 (f : Int), .int .i64 (n : Int)] 60))
   have HOa := zaa.mk (Kd.R_below HO.out (zac (Below.refl _ _) (.cells #[.bool lv, .int .i64 (l : Int), .int .i64 (f : Int), .int .i64 (n : Int)] 60)))
   have HMa := zaa.mk (HM.out.move (fun k hk => Below.heap_alloc wr (.cells #[.bool lv, .int .i64 (l : Int), .int .i64 (f : Int), .int .i64 (n : Int)] 60) k (HM.out.lt k hk)))
   clear HB HM HO
   go_wp2
   generalize wr.alloc (.cells #[.bool lv, .int .i64 (l : Int), .int .i64 (f : Int), .int .i64 (n : Int)] 60) = wz at *
   generalize wr.heap.size = gw at *
   clear z0 z1 z2 z3
   go_loopg [6] n (fun kq v6 w' => ∃ (j : Nat) (x : Int), v6 = .int .i64 x ∧ zaa (x = (f : Int) + (j : Int)) ∧ zaa (j + kq = n) ∧ zaa (MatAt w' g0 rs.length bs (zbk rs.length rs.length (hitG (touchP cs i ++ (touchW cs lv (l, f, n)).take j)))) ∧ zaa (w'.heap[gw]? = some (.cells #[.bool lv, .int .i64 (l : Int), .int .i64 (f : Int), .int .i64 (n : Int)] 60 (0, 0))) ∧ zaa (Kd.R kWl 60 w' w.heap.size (fun _ => True) (.slice (some ⟨gr, 0, none⟩) ws.length c9) ws) ∧ zaa (Below w.heap.size w w'))
   case atStart => exact ⟨0, (f : Int), rfl, ⟨by omega⟩, ⟨by omega⟩, ⟨by simpa using HMa.out⟩, HNw, HOa, HBa⟩
   case round =>
    clear HMa HNw HOa HBa
    obtain ⟨j, x, rfl, HX, HKj, HM, HNw, HO, HB⟩ := hrel
    have y0 := (zat HNw.out 0).trans rfl
    have y1 := (zat HNw.out 1).trans rfl
    have y2 := (zat HNw.out 2).trans rfl
    have y3 := (zat HNw.out 3).trans rfl
    by_cases hj : j < n
    ·have hlt2 : x < fn := by have := HX.out; have := HFN.out; omega
     obtain ⟨a, b, hs, ha, hb⟩ := HSd.out j hj
     have hsf := HSf.out j hj
     rw [hs, show ((f + j : Nat) : Int) = x by have := HX.out; omega] at hsf
     have HSF := zaa.mk hsf
     have HS := zaa.mk hs
     have HTT := zaa.mk (touchW_take cs lv l f n j hj)
     have hTl : (touchP cs i ++ (touchW cs lv (l, f, n)).take j).length ≤ 500 := by
      have := HTL.out
      have := HN6.out
      rw [List.length_append, List.length_take, touchW_length]
      dsimp only
      omega
     obtain ⟨x', hw3, hx'⟩ : ∃ x' : Int, wrap64 (x + 1) = x' ∧ x' = (f : Int) + ((j + 1 : Nat) : Int) := ⟨_, rfl, by have := HX.out; have := HN6.out; rw [zar (by omega) (by omega)]; omega⟩
     have HX' := zaa.mk hx'
     have a0 : (0 : Int) ≤ (a : Int) := by omega
     have b0 : (0 : Int) ≤ (b : Int) := by omega
     have a1 : (a : Int) < (rs.length : Int) := by omega
     have b2 : (b : Int) < (rs.length : Int) := by omega
     obtain ⟨T, hT⟩ : ∃ T, T = touchP cs i ++ (touchW cs lv (l, f, n)).take j := ⟨_, rfl⟩
     rw [← hT] at HM hTl
     have HTn := zaa.mk (show touchP cs i ++ (touchW cs lv (l, f, n)).take (j + 1) = T ++ [((a : Int), (b : Int))] by rw [HTT.out, HS.out, ← List.append_assoc, hT])
     have HTB := zaa.mk (fun r c => hits_range' T r c)
     have HTLn := zaa.mk hTl
     clear hs hsf hx' hTl hT
     go_wp2_with (first
      | (go_at_call 94; refine (impl_floor_sides.calls g cs rs lv (l : Int) x (a : Int) (b : Int) _ _ (HF.out.below HB.out) (Below.refl _ _) HSF.out).mono ?_; rintro e w12 ⟨rfl, -, hb12, -⟩; have hm12 := HM.out.move (fun k hk => hb12.block k (HM.out.lt k hk)); obtain ⟨p1, hp1, q1, q2, q3, hm1⟩ := mat_inc hm12 a b ha hb; obtain ⟨v1, hv1, hv1'⟩ : ∃ v1 : Int, wrap64 (hitG T a b + 1) = v1 ∧ v1 = hitG T a b + 1 := ⟨_, rfl, by have := HTB.out a b; have := HTLn.out; unfold hitG; exact zar (by omega) (by omega)⟩; replace hm1 := hm1 v1 hv1'; obtain ⟨p2, hp2, r1, r2, r3, hm2⟩ := mat_inc hm1 b a hb ha; obtain ⟨v2, hv2, hv2'⟩ : ∃ v2 : Int, wrap64 (incG (hitG T) a b b a + 1) = v2 ∧ v2 = incG (hitG T) a b b a + 1 := ⟨_, rfl, by have := HTB.out b a; have := HTLn.out; unfold incG hitG; split <;> exact zar (by omega) (by omega)⟩; replace hm2 := hm2 v2 hv2'; obtain ⟨X1, ht1⟩ := hm12.typed hp1; obtain ⟨X2, ht2⟩ := hm1.typed hp2; have hn12 := (hb12.block gw (Array.getElem?_eq_some_iff.1 HNw.out).1).trans HNw.out; have HNw2 := zaa.mk ((Below.heap_setCell (w12.setCell ⟨p1, b, none⟩ (.int .i64 v1)) ⟨p2, a, none⟩ (.int .i64 v2) gw (by show gw ≠ p2; exact block_ne ((Below.heap_setCell w12 ⟨p1, b, none⟩ (.int .i64 v1) gw (by show gw ≠ p1; exact block_ne hn12 ht1 (by decide))).trans hn12) ht2 (by decide))).trans ((Below.heap_setCell w12 ⟨p1, b, none⟩ (.int .i64 v1) gw (by show gw ≠ p1; exact block_ne hn12 ht1 (by decide))).trans hn12)); have HO2 := zaa.mk (R_setF (R_setF (Kd.R_below HO.out hb12) ht1 (by decide) b (.int .i64 v1)) ht2 (by decide) a (.int .i64 v2)); have HB2 := zaa.mk (zai (zai (zaj HB.out hb12) (g := p1) (j := b) (v := .int .i64 v1) (HLow.out p1 (List.mem_cons_of_mem _ hp1))) (g := p2) (j := a) (v := .int .i64 v2) (HLow.out p2 (List.mem_cons_of_mem _ hp2))); have HM2 := zaa.mk hm2; clear hm12 hm1 hm2 hp1 hp2 ht1 ht2 hn12 hb12 hv1' hv2' HO HB HM HNw; generalize hitG T a b = g1 at q2 hv1; generalize incG (hitG T) a b b a = g2 at r2 hv2))
     go_roundg (n - (j + 1))
     case measure => have := HKj.out; omega
     case rel => exact ⟨j + 1, x', congrArg (Value.int .i64) hw3, HX', ⟨by have := HKj.out; omega⟩, ⟨by rw [HTn.out, ← gridOf_congr (fun r c _ _ => hitG_snoc T a b r c)]; exact HM2.out⟩, HNw2, HO2, HB2⟩
    ·have hge2 : ¬ x < fn := by have := HX.out; have := HFN.out; omega
     obtain rfl : j = n := by have := HKj.out; omega
     go_wp2
     go_roundg (ws.length - (i + 1))
     case measure => have := HKi.out; omega
     case rel => exact ⟨i + 1, by first | rfl | (congr 1; omega), ⟨by have := HKi.out; omega⟩, ⟨by rw [HTS.out]; have := HM.out; rwa [List.take_of_length_le (by rw [touchW_length]; exact Nat.le_refl _)] at this⟩, HO, HB⟩
  ·have hge : ¬ (i : Int) < (ws.length : Int) := by omega
   obtain rfl : i = ws.length := by have := HKi.out; omega
   go_wp2
   go_ret
   have hl := zbe rs.length rs.length (hitG (touchP cs ws.length))
   rw [HM0.out]
   exact ⟨some ⟨g0, 0, none⟩, rs.length, by rw [hl]; rfl, by rw [hl]; exact Nat.le_refl _, HM.out.reads (by rw [hl]; omega) (fun r hr => by rw [gridOf_row r hr]; omega), HB.out⟩
theorem touchM_length (cs : List (List Int)) (n : Nat) : (touchM cs n).length = n := zbe _ _ _
def pairF (p : List ByteArray) (a b : Int) : Option (List (List Int) × List Rc) := match zcg p with
 | none => none
 | some (cs, rs) => if (hasB rs a && hasB rs b) = true then some (cs, rs) else none
def PairRes (w : World) (r : Option (List (List Int) × List Rc)) (e : Ending) (w' : World) : Prop :=
 Below w.heap.size w w' ∧ match r with
  | none => e = .returned (.tuple #[.pointer none, .slice none 0 0, .bool false])
  | some (cs, rs) => ∃ g A c, e = .returned (.tuple #[.pointer (some ⟨g, 0, none⟩), .slice A (touchM cs rs.length).length c, .bool true]) ∧ FloorAt w' g cs rs ∧ (touchM cs rs.length).length ≤ c ∧ (Kd.slice 3 (Kd.int .i64)).C w' A (touchM cs rs.length).length (touchM cs rs.length)
set_option maxHeartbeats 4000000 in
set_option maxRecDepth 100000 in
theorem pair_calls (A0 : Option Addr) (c0 : Nat) (l0 : List ByteArray) (a b : Int) (w : World) (hr0 : Kd.C Kd.string w A0 l0.length l0) (hc0 : l0.length ≤ c0) (hp : smallP l0) :
  Calls Try.prog 71 #[.slice A0 l0.length c0, .int .i64 a, .int .i64 b] w (PairRes w (pairF l0 a b)) := by
 have HR := zaa.mk hr0
 have HC := zaa.mk hc0
 have HP := zaa.mk hp
 clear hr0 hc0 hp
 generalize hM : pairF l0 a b = res
 have HM := zaa.mk hM
 clear hM
 generalize hF : zcg l0 = t
 have HF := zaa.mk hF
 clear hF
 rcases t with _ | ⟨cs, rs⟩
 ·have e : res = none := by rw [← HM.out]; unfold pairF; rw [HF.out]
  subst e
  go_enter Try.func71, Try.ntmps71
  go_wp2_with (first
   | (go_at_call 55; refine (floorOf_calls A0 c0 l0 _ HR.out HC.out HP.out).mono ?_; rw [HF.out]; rintro e w8 ⟨hb8, v8, b8, rfl, rfl⟩; have HB8 := zaa.mk hb8; clear hb8))
  go_ret3
  exact ⟨HB8.out, rfl⟩
 ·have hre : pairF l0 a b = if (hasB rs a && hasB rs b) = true then some (cs, rs) else none := by unfold pairF; rw [HF.out]
  rw [HM.out] at hre
  have HK := zaa.mk (floorF_ok HF.out)
  generalize hA : hasB rs a = bA at hre
  generalize hB : hasB rs b = bB at hre
  have HA := zaa.mk hA
  have HBb := zaa.mk hB
  clear hA hB
  cases bA
  ·have e : res = none := by rw [hre]; simp
   subst e
   clear hre
   go_enter Try.func71, Try.ntmps71
   go_wp2_with (first
    | (go_at_call 55; refine (floorOf_calls A0 c0 l0 _ HR.out HC.out HP.out).mono ?_; rw [HF.out]; rintro e w8 ⟨hb8, v8, b8, rfl, rfl, g, rfl, hfl⟩; have HB8 := zaa.mk hb8; have HFl8 := zaa.mk hfl; clear hb8 hfl)
    | (go_at_call 82; refine (impl_floor_has.calls g cs rs a _ _ _ HFl8.out (Below.refl _ _) (has_f cs rs a)).mono ?_; rw [HA.out]; rintro e w9 ⟨rfl, -, hb9, -⟩; have HB9 := zaa.mk (zaj HB8.out hb9); clear hb9))
   go_ret3
   exact ⟨HB9.out, rfl⟩
  ·cases bB
   ·have e : res = none := by rw [hre]; simp
    subst e
    clear hre
    go_enter Try.func71, Try.ntmps71
    go_wp2_with (first
     | (go_at_call 55; refine (floorOf_calls A0 c0 l0 _ HR.out HC.out HP.out).mono ?_; rw [HF.out]; rintro e w8 ⟨hb8, v8, b8, rfl, rfl, g, rfl, hfl⟩; have HB8 := zaa.mk hb8; have HFl8 := zaa.mk hfl; clear hb8 hfl)
     | (go_at_call 82; refine calls_of_args (args' := #[.pointer (some ⟨g, 0, none⟩), .int .i64 a]) (by with_reducible rfl) ?_; refine (impl_floor_has.calls g cs rs a _ _ _ HFl8.out (Below.refl _ _) (has_f cs rs a)).mono ?_; rw [HA.out]; rintro e w9 ⟨rfl, -, hb9, -⟩; have HB9 := zaa.mk (zaj HB8.out hb9); have HFl9 := zaa.mk (HFl8.out.below hb9); clear hb9)
     | (go_at_call 82; refine calls_of_args (args' := #[.pointer (some ⟨g, 0, none⟩), .int .i64 b]) (by with_reducible rfl) ?_; refine (impl_floor_has.calls g cs rs b _ _ _ HFl9.out (Below.refl _ _) (has_f cs rs b)).mono ?_; rw [HBb.out]; rintro e w10 ⟨rfl, -, hb10, -⟩; have HB10 := zaa.mk (zaj HB9.out hb10); clear hb10))
    go_ret3
    exact ⟨HB10.out, rfl⟩
   ·have e : res = some (cs, rs) := by rw [hre]; simp
    subst e
    clear hre
    go_enter Try.func71, Try.ntmps71
    go_wp2_with (first
     | (go_at_call 55; refine (floorOf_calls A0 c0 l0 _ HR.out HC.out HP.out).mono ?_; rw [HF.out]; rintro e w8 ⟨hb8, v8, b8, rfl, rfl, g, rfl, hfl⟩; have HB8 := zaa.mk hb8; have HFl8 := zaa.mk hfl; clear hb8 hfl)
     | (go_at_call 82; refine calls_of_args (args' := #[.pointer (some ⟨g, 0, none⟩), .int .i64 a]) (by with_reducible rfl) ?_; refine (impl_floor_has.calls g cs rs a _ _ _ HFl8.out (Below.refl _ _) (has_f cs rs a)).mono ?_; rw [HA.out]; rintro e w9 ⟨rfl, -, hb9, -⟩; have HB9 := zaa.mk (zaj HB8.out hb9); have HFl9 := zaa.mk (HFl8.out.below hb9); clear hb9)
     | (go_at_call 82; refine calls_of_args (args' := #[.pointer (some ⟨g, 0, none⟩), .int .i64 b]) (by with_reducible rfl) ?_; refine (impl_floor_has.calls g cs rs b _ _ _ HFl9.out (Below.refl _ _) (has_f cs rs b)).mono ?_; rw [HBb.out]; rintro e w10 ⟨rfl, -, hb10, -⟩; have HB10 := zaa.mk (zaj HB9.out hb10); have HFl10 := zaa.mk (HFl9.out.below hb10); clear hb10)
     | (go_at_call 76; refine (touching_calls g cs rs _ HFl10.out HK.out).mono ?_; rintro e w11 ⟨A11, c11, rfl, hl11, hC11, hb11⟩; have HB11 := zaa.mk (zaj HB10.out hb11); have HFl11 := zaa.mk (HFl10.out.below hb11); have HL11 := zaa.mk hl11; have HC11 := zaa.mk hC11; clear hb11 hl11 hC11))
    go_ret3
    exact ⟨HB11.out, g, A11, c11, rfl, HFl11.out, HL11.out, HC11.out⟩
theorem touch_cell {w : World} {A : Option Addr} {cs : List (List Int)} {n : Nat} (h : (Kd.slice 3 (Kd.int .i64)).C w A (touchM cs n).length (touchM cs n)) (a b : Nat) (ha : a < n) (hb : b < n) :
  ∃ ad ad2 c2, A = some ad ∧ w.cell? (ad.add a) = some (.slice (some ad2) n c2) ∧ w.cell? (ad2.add b) = some (.int .i64 (besN cs a b)) := by
 have hrow : (touchM cs n)[a]? = some ((List.range n).map fun (c : Nat) => hits (touchL cs) a c) := gridOf_get ha
 obtain ⟨ad, Ai, ci, e1, hx, hl, hrr⟩ := C_row h a _ hrow
 obtain ⟨ad2, e2, hx2⟩ := C_int_cell hrr b (by simp; exact hb)
 subst e2
 refine ⟨ad, ad2, ci, e1, by simpa using hx, ?_⟩
 rw [hx2, besN_hits]
 unfold rd
 rw [Int.toNat_natCast, List.getD_eq_getElem?_getD, List.getElem?_map, List.getElem?_range hb]
 rfl
set_option maxHeartbeats 4000000 in
set_option maxRecDepth 100000 in
theorem NearLength_calls (A0 : Option Addr) (c0 : Nat) (l0 : List ByteArray) (a b : Int) (w : World) (hr0 : Kd.C Kd.string w A0 l0.length l0) (hc0 : l0.length ≤ c0) (hp : smallP l0) :
  Calls Try.prog 48 #[.slice A0 l0.length c0, .int .i64 a, .int .i64 b] w fun e w' => e = .returned (.tuple #[.int .i64 (zca l0 a b).1, .bool (zca l0 a b).2]) ∧ Below w.heap.size w w' := by
 have HPr := zaa.mk (pair_calls A0 c0 l0 a b w hr0 hc0 hp)
 clear hr0 hc0 hp
 generalize hM : zca l0 a b = res
 have hre : zca l0 a b = match pairF l0 a b with
  | none => (0, false)
  | some (cs, rs) => if (a == b) = true then (0, false) else (besN cs a b, true) := by
  unfold zca pairF
  cases zcg l0 with
  | none => rfl
  | some t =>
   dsimp only
   cases hasB t.2 a <;> cases hasB t.2 b <;> cases (a == b) <;> rfl
 have hin : ∀ cs rs, pairF l0 a b = some (cs, rs) → FloorOk cs rs ∧ hasB rs a = true ∧ hasB rs b = true := fun cs rs h => by
  unfold pairF at h
  cases hF : zcg l0 with
  | none => rw [hF] at h; cases h
  | some t =>
   obtain ⟨c1, r1⟩ := t
   rw [hF] at h
   dsimp only at h
   split at h
   ·rename_i hb
    injection h with h
    injection h with h1 h2
    subst h1 h2
    rw [Bool.and_eq_true] at hb
    exact ⟨floorF_ok hF, hb.1, hb.2⟩
   ·cases h
 rw [hM] at hre
 clear hM
 rcases hT : pairF l0 a b with _ | ⟨cs, rs⟩
 ·rw [hT] at hre HPr
  have e : res = (0, false) := hre
  subst e
  clear hre hin hT
  go_enter Try.func48, Try.ntmps48
  go_wp2_with (first
   | (go_at_call 71; refine HPr.out.mono ?_; rintro e w8 ⟨hb8, rfl⟩; have HB8 := zaa.mk hb8; clear hb8))
  go_ret2
  exact ⟨rfl, HB8.out⟩
 ·obtain ⟨hk, hA, hB⟩ := hin cs rs hT
  rw [hT] at hre HPr
  have hre2 : res = if (a == b) = true then (0, false) else (besN cs a b, true) := hre
  clear hre hin hT
  unfold hasB at hA hB
  rw [Bool.and_eq_true, decide_eq_true_eq, decide_eq_true_eq] at hA hB
  by_cases hab : a = b
  ·have e : res = (0, false) := by rw [hre2]; simp [hab]
   subst e
   have d1 : (a == b) = true := by simp [hab]
   clear hre2 hab hA hB
   go_enter Try.func48, Try.ntmps48
   go_wp2_with (first
    | (go_at_call 71; refine HPr.out.mono ?_; rintro e w8 ⟨hb8, g, A, c, rfl, hfl, hl, hC⟩; have HB8 := zaa.mk hb8; clear hb8 hfl hl hC))
   go_ret2
   exact ⟨rfl, HB8.out⟩
  ·have e : res = (besN cs a b, true) := by rw [hre2]; simp [hab]
   have HE := zaa.mk e
   have d1 : (a == b) = false := by simp [hab]
   clear hre2 hab e
   obtain ⟨ia, rfl⟩ := Int.eq_ofNat_of_zero_le hA.1
   obtain ⟨ib, rfl⟩ := Int.eq_ofNat_of_zero_le hB.1
   have hia : ia < rs.length := by omega
   have hib : ib < rs.length := by omega
   have a0 : (0 : Int) ≤ (ia : Int) := by omega
   have b0 : (0 : Int) ≤ (ib : Int) := by omega
   have a1 : (ia : Int) < (rs.length : Int) := by omega
   have b1 : (ib : Int) < (rs.length : Int) := by omega
   have HTl := zaa.mk (touchM_length cs rs.length)
   go_enter Try.func48, Try.ntmps48
   go_wp2_with (first
    | (go_at_call 71; refine HPr.out.mono ?_; rintro e w8 ⟨hb8, g, A, c, rfl, hfl, hl, hC⟩; obtain ⟨ad, ad2, c2, eA, x1, x2⟩ := touch_cell hC ia ib hia hib; subst eA; rw [HTl.out]; have HB8 := zaa.mk hb8; clear hb8 hfl hl hC))
   go_ret2
   rw [HE.out]
   exact ⟨rfl, HB8.out⟩
set_option maxHeartbeats 4000000 in
set_option maxRecDepth 100000 in
theorem NearIs_calls (A0 : Option Addr) (c0 : Nat) (l0 : List ByteArray) (a b : Int) (w : World) (hr0 : Kd.C Kd.string w A0 l0.length l0) (hc0 : l0.length ≤ c0) (hp : smallP l0) :
  Calls Try.prog 46 #[.slice A0 l0.length c0, .int .i64 a, .int .i64 b] w fun e w' => e = .returned (.bool (nearIsF l0 a b)) ∧ Below w.heap.size w w' := by
 have HN := zaa.mk (NearLength_calls A0 c0 l0 a b w hr0 hc0 hp)
 clear hr0 hc0 hp
 rw [nearIs_length]
 generalize zca l0 a b = t at *
 obtain ⟨n, ok⟩ := t
 dsimp only at *
 cases ok
 ·go_enter Try.func46, Try.ntmps46
  go_wp2_with (first
   | (go_at_call 48; refine HN.out.mono ?_; rintro e w8 ⟨rfl, hb8⟩; have HB8 := zaa.mk hb8; clear hb8))
  go_ret
  exact ⟨rfl, HB8.out⟩
 ·go_enter Try.func46, Try.ntmps46
  go_wp2_with (first
   | (go_at_call 48; refine HN.out.mono ?_; rintro e w8 ⟨rfl, hb8⟩; have HB8 := zaa.mk hb8; clear hb8))
  go_ret
  exact ⟨rfl, HB8.out⟩
def impl_NearIs.f (l0 : List ByteArray) (a1 : Int) (a2 : Int) : Option (Bool) := if smallB l0 = true then some (nearIsF l0 a1 a2) else none
theorem impl_NearIs.calls (A0 : Option Addr) (c0 : Nat) (l0 : List ByteArray) (a1 : Int) (a2 : Int) (r : Bool) (w : World) (hr0 : Kd.C Kd.string w A0 l0.length l0) (hc0 : l0.length ≤ c0) (h : impl_NearIs.f l0 a1 a2 = some r) :
  Calls Try.prog 46 #[.slice A0 l0.length c0, .int .i64 a1, .int .i64 a2] w fun e w' => e = .returned (.bool r) ∧ Below w.heap.size w w' := by
 unfold impl_NearIs.f at h
 split at h
 ·rename_i hs
  have e := Option.some.inj h
  have := NearIs_calls A0 c0 l0 a1 a2 w hr0 hc0 ((smallB_iff _).1 hs)
  rw [e] at this
  exact this
 ·cases h
def impl_NearLength.f (l0 : List ByteArray) (a1 : Int) (a2 : Int) : Option (Int × Bool) := if smallB l0 = true then some (zca l0 a1 a2) else none
theorem impl_NearLength.calls (A0 : Option Addr) (c0 : Nat) (l0 : List ByteArray) (a1 : Int) (a2 : Int) (r1 : Int) (r2 : Bool) (w : World) (hr0 : Kd.C Kd.string w A0 l0.length l0) (hc0 : l0.length ≤ c0) (h : impl_NearLength.f l0 a1 a2 = some (r1, r2)) :
  Calls Try.prog 48 #[.slice A0 l0.length c0, .int .i64 a1, .int .i64 a2] w fun e w' => e = .returned (.tuple #[.int .i64 r1, .bool r2]) ∧ Below w.heap.size w w' := by
 unfold impl_NearLength.f at h
 split at h
 ·rename_i hs
  have e := Option.some.inj h
  have := NearLength_calls A0 c0 l0 a1 a2 w hr0 hc0 ((smallB_iff _).1 hs)
  rw [e] at this
  exact this
 ·cases h
theorem nearL_length (cs : List (List Int)) (n : Nat) (a : Int) : (nearL cs n a).length ≤ n := by
 unfold nearL
 have := List.length_filter_le (fun (b : Nat) => decide (besN cs a (b : Int) > 0)) (List.range n)
 rw [List.length_range] at this
 rw [List.length_map]
 exact this
theorem nearL_mem (cs : List (List Int)) (n : Nat) (a x : Int) : x ∈ nearL cs n a ↔ ∃ b : Nat, x = (b : Int) ∧ b < n ∧ besN cs a (b : Int) > 0 := by
 unfold nearL
 rw [List.mem_map]
 constructor
 ·rintro ⟨b, hb, rfl⟩
  obtain ⟨h1, h2⟩ := List.mem_filter.1 hb
  exact ⟨b, rfl, List.mem_range.1 h1, of_decide_eq_true h2⟩
 ·rintro ⟨b, rfl, h1, h2⟩
  exact ⟨b, List.mem_filter.2 ⟨List.mem_range.2 h1, decide_eq_true h2⟩, rfl⟩
theorem mul_one_f : ∀ n : Nat, n ≤ 9 → bits_Mul.f 1 (n : Int) = some (0, (n : Int)) := by
 intro n hn
 have : n = 0 ∨ n = 1 ∨ n = 2 ∨ n = 3 ∨ n = 4 ∨ n = 5 ∨ n = 6 ∨ n = 7 ∨ n = 8 ∨ n = 9 := by omega
 rcases this with rfl | rfl | rfl | rfl | rfl | rfl | rfl | rfl | rfl | rfl <;> decide
def RepAt (W : World) (g m n : Nat) (x : Int) (e : TypeId) : Prop := W.heap[g]? = some (.cells (List.replicate m (Value.int .i64 x) ++ List.replicate (n - m) (Value.int .i64 0)).toArray e (0, 0))
theorem rep_set (m n : Nat) (a b : Value) (h : m < n) : (List.replicate m a ++ List.replicate (n - m) b).set m a = List.replicate (m + 1) a ++ List.replicate (n - (m + 1)) b := by
 rw [List.set_append_right _ _ (by simp), List.length_replicate, Nat.sub_self]
 obtain ⟨k, hk⟩ : ∃ k, n - m = k + 1 := ⟨n - m - 1, by omega⟩
 rw [hk, List.replicate_succ, List.set_cons_zero, show n - (m + 1) = k by omega, List.replicate_succ', List.append_assoc]
 rfl
theorem RepAt.set {W : World} {g m n : Nat} {x : Int} {e : TypeId} (h : RepAt W g m n x e) (hm : m < n) : RepAt (W.setCell ⟨g, m, none⟩ (.int .i64 x)) g (m + 1) n x e := by
 unfold RepAt
 simp only [World.setCell, Array.getElem?_modify, if_true]
 rw [h]
 simp only [Option.map_some]
 rw [← rep_set m n _ _ hm]
 simp
theorem RepAt.sets {g n : Nat} {x : Int} {e : TypeId} : ∀ (k m : Nat) (W : World), RepAt W g m n x e → m + k ≤ n → RepAt (W.setCells g m (List.replicate k (.int .i64 x))) g (m + k) n x e
 | 0, m, W, h, _ => h
 | k + 1, m, W, h, hm => by
  rw [List.replicate_succ, World.setCells]
  have := RepAt.sets k (m + 1) _ (h.set (by omega)) (by omega)
  rwa [show m + (k + 1) = m + 1 + k by omega]
theorem below_sets {w : World} {g : Nat} (hg : w.heap.size ≤ g) : ∀ (vs : List Value) (o : Nat) (W : World), Below w.heap.size w W → Below w.heap.size w (W.setCells g o vs)
 | [], _, _, h => h
 | v :: r, o, W, h => below_sets hg r (o + 1) _ (zai h hg)
theorem RepAt.cell {W : World} {g m n : Nat} {x : Int} {e : TypeId} (h : RepAt W g m n x e) (j : Nat) (hj : j < m) : W.cell? ⟨g, j, none⟩ = some (.int .i64 x) := by
 have h0 := h
 unfold RepAt at h0
 rw [cell_of_row W g j _ e (0, 0) h0]
 simp [List.getElem?_append, hj]
theorem RepAt.has {W : World} {g m n : Nat} {x : Int} {e : TypeId} (h : RepAt W g m n x e) (hm : m ≤ n) (j : Nat) (hj : j < n) : (W.cell? ⟨g, j, none⟩).isSome = true := by
 have h0 := h
 unfold RepAt at h0
 rw [cell_of_row W g j _ e (0, 0) h0]
 simp
 omega
theorem RepAt.row {W : World} {g n : Nat} {x : Int} {e base : Nat} (h : RepAt W g n n x e) (hb : base ≤ g) (hn : n ≤ 9) : Kd.R (Kd.int .i64) e W base (fun _ => True) (.slice (some ⟨g, 0, none⟩) n n) (List.replicate n x) := by
 refine Kd.R_of_own ⟨by rw [encs_length, Nat.mul_one], .inr ⟨g, n, _, by simp, hb, h, by simp, by unfold maxLen; omega, by simp, ?_⟩⟩ (fun _ _ => trivial)
 simp [encs]
theorem rep_make (w : World) (n : Nat) (h9 : n ≤ 9) : (Instr.makeSlice 34 (.int .i64 (n : Int)) (.int .i64 (n : Int))).run Try.prog w = .ok (.slice (some ⟨w.heap.size, 0, none⟩) n n) (w.alloc (.cells (List.replicate 0 (Value.int .i64 7) ++ List.replicate (n - 0) (Value.int .i64 0)).toArray 3)) := by
 have i3 : (Try.prog.info? 3).map (fun i => (i.zero, i.size, i.bytes)) = some (some (.int .i64 0), 1, 8) := by kernel_rfl
 obtain ⟨i0, hi, hzz⟩ := Option.map_eq_some_iff.1 i3
 simp only [Prod.mk.injEq] at hzz
 obtain ⟨hz0, hz1, hz2⟩ := hzz
 have hr := run_make (P := Try.prog) w 34 3 i0 (.int .i64 0) (by kernel_rfl) hi hz0 .i64 .i64 (n : Int) (n : Int) (by omega) (by omega) (by rw [hz2]; omega) (by omega)
 simp only [Int.toNat_natCast] at hr
 have hc : madeCells (Value.int .i64 0).cells (n * 1) = (List.replicate 0 (Value.int .i64 7) ++ List.replicate (n - 0) (Value.int .i64 0)).toArray := by
  apply Array.ext
  ·simp [size_madeCells]
  ·intro i h1 h2
   have hi1 : i < n := by simpa using h2
   simp [madeCells, Value.cells, Nat.mod_one]
 rw [hr, hz1, hc]
theorem rep_copy (W : World) (g m n k : Nat) (x : Int) (hR : RepAt W g m n x 3) (hk : m + k ≤ n) (a : Addr) (sLen sCap dLen dCap : Nat) (hsrc : ∀ j, j < k → W.cell? (a.add j) = some (.int .i64 x)) (hm : k = Nat.min sLen dLen) :
  (Builtin.copy_ #[34, 34] 3 #[.slice (some ⟨g, m, none⟩) dLen dCap, .slice (some a) sLen sCap]).run Try.prog W = .ok (.int .i64 (k : Int)) (W.setCells g m (List.replicate k (.int .i64 x))) := by
 have h := run_copy_cells (P := Try.prog) W 34 34 3 3 g m dLen dCap a sLen sCap (List.replicate k (.int .i64 x)) (by kernel_rfl) (by kernel_rfl) (by rw [List.length_replicate]; exact hm)
  (fun j v hv => by
   rw [List.getElem?_replicate] at hv
   split at hv
   ·rename_i hj
    injection hv with hv
    subst hv
    exact hsrc j hj
   ·cases hv) (fun j hj => hR.has (by omega) (m + j) (by rw [List.length_replicate] at hj; omega)) (fun j hj => zav hR _) (fun v hv => by rw [List.eq_of_mem_replicate hv]; rfl)
 rw [h, List.length_replicate]
 rfl
theorem val_step {P : Program} {ops : Array Oper} {o : Oper} {a : Act} {Q : Exit → Act → World → Prop} {Kc : Act → World → Prop} {N : Option Tmp} {W w1 : World} {v : Value} (hw : Region.wanted o (yielded ops a.tmps) = true) (hrun : (execOp a.eval o).run P W = .ok (.value v) w1) (h : Kc (a.put o.dst v) w1) : if Region.wanted o (yielded ops a.tmps) = true then Oper.wp P o a W Kc Q else Kc (a.put N undef) W := by
 rw [if_pos hw]
 unfold Oper.wp
 rw [hrun, Oper.upon_value]
 exact h
set_option maxHeartbeats 4000000 in
set_option maxRecDepth 100000 in
theorem Repeat_calls (A0 : Option Addr) (c0 : Nat) (x : Int) (n : Nat) (h1 : 1 ≤ n) (h9 : n ≤ 9) (w : World) (hr0 : (Kd.int .i64).C w A0 1 [x]) (hc0 : 1 ≤ c0) :
  Calls Try.prog 97 #[.slice A0 1 c0, .int .i64 (n : Int)] w fun e w' => ∃ v0_ : Value, e = .returned v0_ ∧ Kd.R (Kd.int .i64) 3 w' w.heap.size (fun _ => True) v0_ (List.replicate n x) ∧ Below w.heap.size w w' := by
 obtain ⟨hl0, hm0, hx0⟩ := hr0
 obtain ⟨ad, rfl, hx1⟩ := hx0 (by decide)
 obtain ⟨cs, hcs, hcl, hcc⟩ := hx1 0 x rfl
 have hcs' : cs = [.int .i64 x] := hcl
 subst hcs'
 have hx : w.cell? (ad.add 0) = some (.int .i64 x) := hcc 0 (.int .i64 x) rfl
 rw [Addr.add_zero'] at hx
 have HX := zaa.mk hx
 have HM := zaa.mk (mul_one_f n h9)
 have i3 : (Try.prog.info? 3).map (fun i => (i.zero, i.size, i.bytes)) = some (some (.int .i64 0), 1, 8) := by kernel_rfl
 have I3 := zaa.mk i3
 have b0 : (0 : Int) ≤ (n : Int) := by omega
 have b1 : (n : Int) ≤ 9 := by omega
 have w1 : IntKind.u64.wrap (n : Int) = (n : Int) := by unfold IntKind.wrap; simp [IntKind.signed, IntKind.bits]; omega
 have w2 : IntKind.i64.wrap (n : Int) = (n : Int) := by rw [zay]; exact zar (by omega) (by omega)
 clear hl0 hm0 hx0 hx1 hcc hcs hcl hx hc0 i3
 go_enter Try.func97, Try.ntmps97
 go_wp2_with (first
  | (go_at_call 110; refine (bits_Mul.calls 1 (n : Int) 0 (n : Int) _ HM.out).mono ?_; rintro e w8 ⟨rfl, hd8⟩))
 rw [rep_make w8 n h9]
 have hR0 : RepAt (w8.alloc (.cells (List.replicate 0 (Value.int .i64 7) ++ List.replicate (n - 0) (Value.int .i64 0)).toArray 3)) w8.heap.size 0 n x 3 := heap_alloc_new w8 _
 have hB := zac (hd8.below) (.cells (List.replicate 0 (Value.int .i64 7) ++ List.replicate (n - 0) (Value.int .i64 0)).toArray 3)
 have hs := hd8.below.size
 generalize w8.alloc (.cells (List.replicate 0 (Value.int .i64 7) ++ List.replicate (n - 0) (Value.int .i64 0)).toArray 3) = wM at *
 generalize w8.heap.size = g at *
 have HR0 := zaa.mk hR0
 have HB := zaa.mk hB
 have HS := zaa.mk hs
 clear hR0 hB hs hd8 w8
 have hx0 : wM.cell? (ad.add 0) = some (.int .i64 x) := by rw [Addr.add_zero']; exact zas HB.out HX.out
 go_wp2
 rw [rep_copy wM g 0 n 1 x HR0.out (by omega) ad 1 c0 n n (fun j hj => by rw [show j = 0 by omega]; exact hx0) (by simp only [Nat.min_def]; split <;> omega)]
 have hR1 : RepAt (wM.setCells g 0 (List.replicate 1 (.int .i64 x))) g 1 n x 3 := HR0.out.sets 1 0 wM (by omega)
 have hB1 : Below w.heap.size w (wM.setCells g 0 (List.replicate 1 (.int .i64 x))) := below_sets HS.out _ _ _ HB.out
 generalize wM.setCells g 0 (List.replicate 1 (.int .i64 x)) = w1 at *
 have HR1 := zaa.mk hR1
 have HB1 := zaa.mk hB1
 clear hx0 hR1 hB1 HR0 HB HX wM
 go_wp2
 go_loopg [8] (n - 1) (fun kq v8 w' => ∃ m : Nat, v8 = .int .i64 (m : Int) ∧ zaa (m + kq = n) ∧ zaa (1 ≤ m) ∧ zaa (RepAt w' g m n x 3) ∧ zaa (Below w.heap.size w w'))
 case atStart => exact ⟨1, rfl, ⟨by omega⟩, ⟨Nat.le_refl _⟩, HR1, HB1⟩
 case round =>
  obtain ⟨m, rfl, HK, H1, HRm, HBm⟩ := hrel
  have HK' := HK.out
  have H1' := H1.out
  by_cases hm : m < n
  ·have hlt : (m : Int) < (n : Int) := by omega
   have c0 : (0 : Int) ≤ (m : Int) := by omega
   have c1 : (m : Int) ≤ (n : Int) := by omega
   have hne : ¬ n = m := by omega
   obtain ⟨k, hk, hkn, hk1, hkm⟩ : ∃ k, k = Nat.min m (n - m) ∧ m + k ≤ n ∧ 1 ≤ k ∧ k ≤ m := by
    by_cases hq : m ≤ n - m
    ·exact ⟨m, (Nat.min_eq_left hq).symm, by omega, H1', Nat.le_refl _⟩
    ·exact ⟨n - m, (Nat.min_eq_right (by omega)).symm, by omega, by omega, by omega⟩
   have w5 : wrap64 ((m : Int) + (k : Int)) = ((m + k : Nat) : Int) := by rw [zar (by omega) (by omega)]; omega
   go_wp2
   refine start_ (n := 10) (S := fun w' => True) (ds := []) #[false, false, false, false, false, false, false, false, false, false] (by kernel_rfl) rfl rfl (trivial) (fun hHeld => ?_)
   refine zbl (i := 0) (N := some 38) (v := ?_) (a' := ?_) #[true, false, false, false, false, false, false, false, false, false] rfl rfl (by kernel_rfl) (fun _ _ _ h => h) (Or.inl ⟨by rfl, ?_⟩) ?_ ?_
   rotate_left
   ·intro w'
    go_simp
    with_reducible rfl
   rotate_left
   ·simp only [Act.put, List.setIfInBounds_toArray, List.set_cons_zero, List.set_cons_succ, zay, zba]
    rfl
   refine zbl (i := 1) (N := some 39) (v := ?_) (a' := ?_) #[true, true, false, false, false, false, false, false, false, false] rfl rfl (by kernel_rfl) (fun _ _ _ h => h) (Or.inl ⟨by rfl, ?_⟩) ?_ ?_
   rotate_left
   ·intro w'
    go_simp
    with_reducible rfl
   rotate_left
   ·simp only [Act.put, List.setIfInBounds_toArray, List.set_cons_zero, List.set_cons_succ, zay, zba]
    rfl
   refine zbl (i := 2) (N := some 40) (v := ?_) (a' := ?_) #[true, true, true, false, false, false, false, false, false, false] rfl rfl (by kernel_rfl) (fun _ _ _ h => h) (Or.inl ⟨by rfl, ?_⟩) ?_ ?_
   rotate_left
   ·intro w'
    go_simp
    with_reducible rfl
   rotate_left
   ·simp only [Act.put, List.setIfInBounds_toArray, List.set_cons_zero, List.set_cons_succ, zay, zba]
    rfl
   refine zbl (i := 3) (N := some 41) (v := ?_) (a' := ?_) #[true, true, true, true, false, false, false, false, false, false] rfl rfl (by kernel_rfl) (fun _ _ _ h => h) (Or.inl ⟨by rfl, ?_⟩) ?_ ?_
   rotate_left
   ·intro w'
    go_simp
    with_reducible rfl
   rotate_left
   ·simp only [Act.put, List.setIfInBounds_toArray, List.set_cons_zero, List.set_cons_succ, zay, zba]
    rfl
   refine zbl (i := 4) (N := some 42) (v := ?_) (a' := ?_) #[true, true, true, true, true, false, false, false, false, false] rfl rfl (by kernel_rfl) (fun _ _ _ h => h) (Or.inl ⟨by rfl, ?_⟩) ?_ ?_
   rotate_left
   ·intro w'
    go_simp
    with_reducible rfl
   rotate_left
   ·simp only [Act.put, List.setIfInBounds_toArray, List.set_cons_zero, List.set_cons_succ, zay, zba]
    rfl
   refine zbl (i := 5) (N := some 43) (v := ?_) (a' := ?_) #[true, true, true, true, true, true, false, false, false, false] rfl rfl (by kernel_rfl) (fun _ _ _ h => h) (Or.inl ⟨by rfl, ?_⟩) ?_ ?_
   rotate_left
   ·intro w'
    go_simp
    with_reducible rfl
   rotate_left
   ·simp only [Act.put, List.setIfInBounds_toArray, List.set_cons_zero, List.set_cons_succ, zay, zba]
    rfl
   refine zbl (i := 6) (N := some 44) (v := ?_) (a' := ?_) #[true, true, true, true, true, true, true, false, false, false] rfl rfl (by kernel_rfl) (fun _ _ _ h => h) (Or.inl ⟨by rfl, ?_⟩) ?_ ?_
   rotate_left
   ·intro w'
    go_simp
    with_reducible rfl
   rotate_left
   ·simp only [Act.put, List.setIfInBounds_toArray, List.set_cons_zero, List.set_cons_succ, zay, zba]
    rfl
   refine one_ (i := 7) (N := some 45) #[true, true, true, true, true, true, true, true, false, false] rfl rfl (by kernel_rfl) (by decide) (fun K hK => ?_)
   refine val_step (by rfl) (v := .int .i64 (k : Int)) (w1 := wr.drew.setCells g m (List.replicate k (.int .i64 x))) ?_ ?_
   ·have hcp := rep_copy wr.drew g m n k x HRm.out hkn ⟨g, 0, none⟩ m n (n - m) (n - m) (fun j hj => by rw [zcm]; exact RepAt.cell HRm.out j (by omega)) hk
    go_simp
   have hR1 : RepAt (wr.drew.setCells g m (List.replicate k (.int .i64 x))) g (m + k) n x 3 := RepAt.sets k m wr.drew HRm.out hkn
   have hB1 : Below w.heap.size w (wr.drew.setCells g m (List.replicate k (.int .i64 x))) := below_sets HS.out _ _ _ ⟨HBm.out.os, HBm.out.tape, HBm.out.output, HBm.out.size, HBm.out.block⟩
   generalize wr.drew.setCells g m (List.replicate k (.int .i64 x)) = w3 at *
   refine hK.out _ _ trivial (fun hHeld => ?_)
   clear hK K hk
   refine norm_ (a' := ?_) ?_ ?_
   rotate_left
   ·show Act.put _ (some 45) _ = _
    simp only [Act.put, List.setIfInBounds_toArray, List.set_cons_zero, List.set_cons_succ, zay, zba]
    rfl
   refine zbl (i := 8) (N := some 46) (v := ?_) (a' := ?_) #[true, true, true, true, true, true, true, true, true, false] rfl rfl (by kernel_rfl) (fun _ _ _ h => h) (Or.inl ⟨by rfl, ?_⟩) ?_ ?_
   rotate_left
   ·intro w'
    go_simp
    with_reducible rfl
   rotate_left
   ·simp only [Act.put, List.setIfInBounds_toArray, List.set_cons_zero, List.set_cons_succ, zay, zba]
    rfl
   refine zbl (i := 9) (N := some 8) (v := ?_) (a' := ?_) #[true, true, true, true, true, true, true, true, true, true] rfl rfl (by kernel_rfl) (fun _ _ _ h => h) (Or.inl ⟨by rfl, ?_⟩) ?_ ?_
   rotate_left
   ·intro w'
    go_simp
    with_reducible rfl
   rotate_left
   ·simp only [Act.put, List.setIfInBounds_toArray, List.set_cons_zero, List.set_cons_succ, zay, zba]
    rfl
   refine done_ (by kernel_rfl) ?_
   go_wp2
   go_roundg (n - (m + k))
   case measure => omega
   case rel => exact ⟨m + k, by first | rfl | rw [w5], ⟨by omega⟩, ⟨by omega⟩, ⟨hR1⟩, ⟨hB1⟩⟩
  ·have hge : ¬ (m : Int) < (n : Int) := by omega
   obtain rfl : m = n := by omega
   go_wp2
   go_ret
   exact ⟨_, rfl, HRm.out.row HS.out h9, HBm.out⟩
def slices_Repeat_int_int.f (l0 : List Int) (a1 : Int) : Option (List Int) := if l0.length = 1 ∧ 1 ≤ a1 ∧ a1 ≤ 9 then some (List.replicate a1.toNat (l0.getD 0 0)) else none
theorem slices_Repeat_int_int.calls (A0 : Option Addr) (c0 : Nat) (l0 : List Int) (a1 : Int) (r : List Int) (w : World) (hr0 : Kd.C (Kd.int .i64) w A0 l0.length l0) (hc0 : l0.length ≤ c0) (h : slices_Repeat_int_int.f l0 a1 = some r) :
  Calls Try.prog 97 #[.slice A0 l0.length c0, .int .i64 a1] w fun e w' => ∃ v0_ : Value, e = .returned (v0_) ∧ Kd.R (Kd.int .i64) 3 w' w.heap.size (fun _ => True) v0_ r ∧ Below w.heap.size w w' := by
 unfold slices_Repeat_int_int.f at h
 split at h
 ·rename_i hh
  obtain ⟨h1, h2, h3⟩ := hh
  obtain ⟨x, rfl⟩ : ∃ x, l0 = [x] := by
   cases l0 with
   | nil => cases h1
   | cons x l => cases l with
    | nil => exact ⟨x, rfl⟩
    | cons y l => simp at h1
  obtain ⟨n, rfl⟩ : ∃ n : Nat, a1 = (n : Int) := ⟨a1.toNat, by omega⟩
  have e := Option.some.inj h
  have := Repeat_calls A0 c0 x n (by omega) (by omega) w hr0 hc0
  rw [← e]
  simpa using this
 ·cases h
end Go.Proofs.Ytoijjkhdfooapaa.Hd
namespace Go.Proofs.Ytoijjkhdfooapaa.ST
open Go.Proofs.Ytoijjkhdfooapaa.PB Go.Proofs.Ytoijjkhdfooapaa.Hd Go.Proofs.Ytoijjkhdfooapaa.SM
open Go.RowKit Go.PW.PrintWords Go.PW.PrintLast Go.PW.PrintMore
attribute [local go_sem] zbw zbu zcj zci zbp zbo zbv zbt   -- for this text's walks alone
def errW : Option Int → Value
 | none => .nilIface
 | some c => .iface 0 (.int .i64 c)
theorem zan : errW none = .nilIface := rfl
theorem zam (c : Int) : errW (some c) = .iface 0 (.int .i64 c) := rfl
theorem info3 : (Try.prog.info? 3).map (fun i => (i.zero, i.size, i.bytes)) = some (some (.int .i64 0), 1, 8) := by kernel_rfl
end Go.Proofs.Ytoijjkhdfooapaa.ST
namespace Go.Proofs.Ytoijjkhdfooapaa.ST
open Go.Proofs.Ytoijjkhdfooapaa.PB Go.Proofs.Ytoijjkhdfooapaa.Hd Go.Proofs.Ytoijjkhdfooapaa.SM
open Go.RowKit Go.PW.PrintWords Go.PW.PrintLast Go.PW.PrintMore
attribute [local go_sem] zbw zbu zcj zci zbp zbo zbv zbt   -- for this text's walks alone
mutual
def impl_steps.l0 : Nat → List (List Int) → List Int → List Int → Option (List Int)
 | 0, _, _, _ => none
 | k + 1, x0, x5, x6 => if (x6.length : Int) > 0 then (if 0 < (x6.length : Int) then ((impl_near.f k x0 (rd x6 0)).bind fun t119 => (impl_steps.l1 k x0 x5 x6 t119 (t119.length : Int) 0)) else (none)) else (some x5)
def impl_steps.l1 : Nat → List (List Int) → List Int → List Int → List Int → Int → Int → Option (List Int)
 | 0, _, _, _, _, _, _ => none
 | k + 1, x0, x5, x6, x27, x28, x29 => if x29 < x28 then (if 0 ≤ x29 then (if x29 < (x27.length : Int) then (if 0 ≤ (rd x27 x29) then (if (rd x27 x29) < (x5.length : Int) then (if (rd x5 (rd x27 x29)) < 0 then (if 0 < (x6.length : Int) then (if 0 ≤ (rd x6 0) then (if (rd x6 0) < (x5.length : Int) then (if x6.length < 17592186044416 then (impl_steps.l1 k x0 (x5.set ((rd x27 x29) : Int).toNat (wrap64 ((rd x5 (rd x6 0)) + 1))) (x6 ++ [rd x27 x29]) x27 x28 (wrap64 (x29 + 1))) else (none)) else (none)) else (none)) else (none)) else (impl_steps.l1 k x0 x5 x6 x27 x28 (wrap64 (x29 + 1)))) else (none)) else (none)) else (none)) else (none)) else (if 1 ≤ (x6.length : Int) then (impl_steps.l0 k x0 x5 (x6.drop (1 : Int).toNat)) else (none))
end
def impl_steps.f (k : Nat) (l0 : List (List Int)) (a1 : Int) : Option (List Int) := (slices_Repeat_int_int.f (([(-1)] : List Int)) (l0.length : Int)).bind fun t111 => (if 0 ≤ a1 then (if a1 < (t111.length : Int) then (impl_steps.l0 k l0 (t111.set (a1 : Int).toNat 0) (([a1] : List Int))) else (none)) else (none))
set_option maxHeartbeats 8000000 in
set_option maxRecDepth 100000 in
theorem impl_steps.calls (k : Nat) (A0 : Option Addr) (c0 : Nat) (l0 : List (List Int)) (a1 : Int) (r : List Int) (w : World) (hr0 : Kd.C (Kd.slice 3 (Kd.int .i64)) w A0 l0.length l0) (hc0 : l0.length ≤ c0) (h : impl_steps.f k l0 a1 = some r) :
  Calls Try.prog 74 #[.slice A0 l0.length c0, .int .i64 a1] w fun e w' => ∃ v0_ : Value, e = .returned (v0_) ∧ Kd.R (Kd.int .i64) 3 w' w.heap.size (fun _ => True) v0_ r ∧ Below w.heap.size w w' := by
 have HR0 := zaa.mk hr0
 have HC0 := zaa.mk hc0
 clear hr0 hc0
 have HB := zaa.mk (Below.refl w.heap.size w)
 have H : ((slices_Repeat_int_int.f (([(-1)] : List Int)) (l0.length : Int)).bind fun t111 => (if 0 ≤ a1 then (if a1 < (t111.length : Int) then (impl_steps.l0 k l0 (t111.set (a1 : Int).toNat 0) (([a1] : List Int))) else (none)) else (none))) = some r := h
 clear h
 obtain ⟨y108, hy108⟩ : ∃ y_ : List Int, y_ = (([(-1)] : List Int)) := ⟨_, rfl⟩
 replace H : ((slices_Repeat_int_int.f y108 (l0.length : Int)).bind fun t111 => (if 0 ≤ a1 then (if a1 < (t111.length : Int) then (impl_steps.l0 k l0 (t111.set (a1 : Int).toNat 0) (([a1] : List Int))) else (none)) else (none))) = some r := by first | (rw [hy108]; with_reducible exact H) | (have H2_ := (Option.bind_some _ _).symm.trans H; rw [hy108]; with_reducible exact H2_) | (have H2_ := (Option.bind_some _ _).symm.trans H; with_reducible exact H2_) | with_reducible exact H | (rw [hy108]; exact H) | exact H
 have Ny108 := zaa.mk hy108
 clear hy108
 replace H := Option.bind_eq_some_iff.mp H
 obtain ⟨t111, A30, H⟩ := H
 replace H : (if 0 ≤ a1 then (if a1 < (t111.length : Int) then (impl_steps.l0 k l0 (t111.set (a1 : Int).toNat 0) (([a1] : List Int))) else (none)) else (none)) = some r := H
 have A3 := zaa.mk A30
 clear A30
 by_cases c4 : 0 ≤ a1
 ·rw [if_pos c4] at H
  have c4b0 : decide (0 ≤ a1) = true := decide_eq_true c4
  clear c4
  by_cases c5 : a1 < (t111.length : Int)
  ·rw [if_pos c5] at H
   have c5b0 : decide (a1 < (t111.length : Int)) = true := decide_eq_true c5
   clear c5
   obtain ⟨y114, hy114⟩ : ∃ y_ : List Int, y_ = (t111.set (a1 : Int).toNat 0) := ⟨_, rfl⟩
   replace H : (impl_steps.l0 k l0 y114 (([a1] : List Int))) = some r := by first | (rw [hy114]; with_reducible exact H) | (have H2_ := (Option.bind_some _ _).symm.trans H; rw [hy114]; with_reducible exact H2_) | (have H2_ := (Option.bind_some _ _).symm.trans H; with_reducible exact H2_) | with_reducible exact H | (rw [hy114]; exact H) | exact H
   have Ny114 := zaa.mk hy114
   clear hy114
   obtain ⟨y115, hy115⟩ : ∃ y_ : List Int, y_ = (([a1] : List Int)) := ⟨_, rfl⟩
   replace H : (impl_steps.l0 k l0 y114 y115) = some r := by first | (rw [hy115]; with_reducible exact H) | (have H2_ := (Option.bind_some _ _).symm.trans H; rw [hy115]; with_reducible exact H2_) | (have H2_ := (Option.bind_some _ _).symm.trans H; with_reducible exact H2_) | with_reducible exact H | (rw [hy115]; exact H) | exact H
   have Ny115 := zaa.mk hy115
   clear hy115
   have H' := zaa.mk H
   clear H
   go_enter Try.func74, Try.ntmps74
   go_wp2_with (first | ((with_reducible refine zbc (N := 9) rfl ?_); refine Kd.R_lit (Kd.int .i64) _ 3 ?hg (N := 9) ?hd (xs := ([(-1)] : List Int)) (inner := [.int .i64 (-1)]) (ok := fun _ => True) (okp := fun _ => True) ?hr ?hp (fun _ hk => hk) trivial (Below.refl _ _) (Nat.le_refl _) (by simp) ?_; (case hd => rfl); (case hg => rfl); (case hr => first | (go_simp; done) | (go_simp; rfl)); (case hp => exact (Reps.one (show Kd.M (Kd.int .i64) _ _ _ (-1) [.int .i64 (-1)] from rfl) (Reps.none _ _))); intro v109 w7 ho8 hb hg_ hnew_; clear hg_ hnew_; (first | rw [← Ny108.out] at ho8 | (simp only [Int.reduceToNat] at ho8; rw [← Ny108.out] at ho8)); have n0_ := zaa.mk (Kd.R_lower ho8 (zap (by repeat (first | (with_reducible first | exact HB.out | apply zac | apply zab | apply zad) | exact HB.out)))); have n1_ := zaa.mk (zaj (by repeat (first | (with_reducible first | exact HB.out | apply zac | apply zab | apply zad) | exact HB.out)) hb); clear HB; have HO110 := n0_; have HB := n1_; clear n0_ n1_; clear hb ho8; obtain ⟨Ao9, co9, eo9⟩ := Kd.R_slice HO110.out; subst eo9) | ((with_reducible refine zal (f := 97) rfl ?_); refine zbb (some 12) rfl rfl Try.func97 (by kernel_rfl) rfl #[.slice Ao9 y108.length co9, .int .i64 (l0.length : Int)] rfl (by (try simp only [List.map_toArray, List.map_cons, List.map_nil]); first | done | rfl | (simp only [List.length_drop, List.length_take]; rfl)) ?_; (with_reducible refine (slices_Repeat_int_int.calls _ _ y108 (l0.length : Int) t111 _ ?side1 ?side2 A3.out).mono ?_); (case side1 => repeat (first | exact (Kd.R_reads' HO110.out).2.2 | (with_reducible refine Kd.C_alloc ?_ _) | (with_reducible refine Kd.C_drewN ?_ _) | (with_reducible refine Kd.C_drew ?_))); (case side2 => exact (Kd.R_reads' HO110.out).2.1); rintro e w10 ⟨v112, rfl, ho0, hb⟩; refine ⟨_, rfl, ?_⟩; have n0_ := zaa.mk (Kd.R_elder' (by (with_reducible repeat (first | apply Kd.R_alloc | apply Kd.R_drewN | apply Kd.R_drew)); exact HO110.out) (Kd.R_base ho0) hb); have n1_ := zaa.mk (Kd.R_lower (Kd.R_new' ho0 (Kd.R_lt (by (with_reducible repeat (first | apply Kd.R_alloc | apply Kd.R_drewN | apply Kd.R_drew)); exact HO110.out))) (zap (by repeat (first | (with_reducible first | exact HB.out | apply zac | apply zab | apply zad) | exact HB.out)))); have n2_ := zaa.mk (zaj (by repeat (first | (with_reducible first | exact HB.out | apply zac | apply zab | apply zad) | exact HB.out)) hb); clear HO110; clear HB; have HO110 := n0_; have HO113 := n1_; have HB := n2_; clear n0_ n1_ n2_; (try clear hb); (try clear hb2); (try clear hk); (try clear hi); (try clear ho0); have p6 : 0 ≤ (a1 : Int) := of_decide_eq_true (by first | (with_reducible assumption) | assumption); have q6 : (a1 : Int) < ((t111.length : Int) : Int) := of_decide_eq_true (by first | (with_reducible assumption) | assumption); obtain ⟨go6, co6, eo6, gb6, gl6, cl6, HG6⟩ := Kd.R_form HO113.out (by omega); (first | cases eo6 | (injection eo6 with ea_ en_ ec_; (first | subst ea_ | (injection ea_ with ea_; subst ea_)); subst ec_; clear en_)); have GB6 := zaa.mk gb6; have GG6 := zaa.mk HG6; clear gb6 gl6 HG6; obtain ⟨hx6_0, hf6_0⟩ := Kd.R_celln 0 HO113.out (a1 : Int) p6 q6; replace p6 := eq_true p6; replace q6 := eq_true q6; have n_ := zaa.mk (Kd.R_mono (ok' := (fun k_ => some k_ ≠ (.slice Ao9 y108.length co9 : Value).ownBlock)) HO113.out (fun k_ hk => hk.2)); clear HO113; have HO113 := n_; clear n_; obtain ⟨hy11_, hz11_⟩ := Kd.R_celln 0 HO113.out (a1 : Int) (of_decide_eq_true (by first | (with_reducible assumption) | assumption)) (of_decide_eq_true (by first | (with_reducible assumption) | assumption)); have HP11 := Kd.R_putg HO113.out (a1 : Int) 0) | ((with_reducible refine gate_store (t := 3) (p := 15) rfl ?_); refine store_event (t := 3) (p := 15) (v := ?vo_w12) (w1 := (w10.setCell ⟨go6, (a1 : Int).toNat, none⟩ (.int .i64 0))) ?hg ?ho ?hn ?hr ?_; (case ho => rfl); (case hg => rfl); (case hn => rfl); (case hr => first | (go_simp; done) | (go_simp; rfl)); intro w12 hw; have hg : w10.grownBy w12 (some go6) := (by rw [hw]; exact HP11.2); have hp_ : Kd.R (Kd.int .i64) 3 w12 w.heap.size (fun k_ => some k_ ≠ (.slice Ao9 y108.length co9 : Value).ownBlock) (.slice (some ⟨go6, 0, none⟩) t111.length co6) y114 := (by rw [hw, Ny114.out]; exact HP11.1); clear HP11; have n0_ := zaa.mk (Kd.R_after (v := (.slice (some ⟨go6, 0, none⟩) t111.length co6)) (v1 := (.slice (some ⟨go6, 0, none⟩) t111.length co6)) (ok := (fun _ => True)) (by (with_reducible repeat (first | apply Kd.R_alloc | apply Kd.R_drewN | apply Kd.R_drew)); exact HO110.out) hg (.inl rfl)); have n1_ := zaa.mk (hp_); have n2_ := zaa.mk ((by rw [hw]; exact zai (HB.out) GB6.out : Below w.heap.size w w12)); clear HO110; clear HO113; clear HB; have HO110 := n0_; have HO113 := n1_; have HB := n2_; clear n0_ n1_ n2_; clear hg hw hp_) | ((with_reducible refine zbc (N := 17) rfl ?_); refine Kd.R_lit (Kd.int .i64) _ 3 ?hg (N := 17) ?hd (xs := ([a1] : List Int)) (inner := [.int .i64 a1]) (ok := fun _ => True) (okp := fun _ => True) ?hr ?hp (fun _ hk => hk) trivial (Below.refl _ _) (Nat.le_refl _) (by simp) ?_; (case hd => rfl); (case hg => rfl); (case hr => first | (go_simp; done) | (go_simp; rfl)); (case hp => exact (Reps.one (show Kd.M (Kd.int .i64) _ _ _ a1 [.int .i64 a1] from rfl) (Reps.none _ _))); intro v116 w13 ho14 hb hg_ hnew_; clear hg_ hnew_; (first | rw [← Ny115.out] at ho14 | (simp only [Int.reduceToNat] at ho14; rw [← Ny115.out] at ho14)); have n0_ := zaa.mk (Kd.R_elder' (by (with_reducible repeat (first | apply Kd.R_alloc | apply Kd.R_drewN | apply Kd.R_drew)); exact HO110.out) (Kd.R_base ho14) hb); have n1_ := zaa.mk (Kd.R_elder' (by (with_reducible repeat (first | apply Kd.R_alloc | apply Kd.R_drewN | apply Kd.R_drew)); exact HO113.out) (Kd.R_base ho14) hb); have n2_ := zaa.mk (Kd.R_lower (Kd.R_new' (Kd.R_new' ho14 (Kd.R_lt (by (with_reducible repeat (first | apply Kd.R_alloc | apply Kd.R_drewN | apply Kd.R_drew)); exact HO110.out))) (Kd.R_lt (by (with_reducible repeat (first | apply Kd.R_alloc | apply Kd.R_drewN | apply Kd.R_drew)); exact HO113.out))) (zap (by repeat (first | (with_reducible first | exact HB.out | apply zac | apply zab | apply zad) | exact HB.out)))); have n3_ := zaa.mk (zaj (by repeat (first | (with_reducible first | exact HB.out | apply zac | apply zab | apply zad) | exact HB.out)) hb); clear HO110; clear HO113; clear HB; have HO110 := n0_; have HO113 := n1_; have HO117 := n2_; have HB := n3_; clear n0_ n1_ n2_ n3_; clear hb ho14))
   go_loopg [6] k (fun kq v6 w' => ∃ (x5_1 : List Int) (x6_1 : List Int), zaa (impl_steps.l0 kq l0 x5_1 x6_1 = some r) ∧ zaa (kq ≤ k) ∧ zaa (Kd.R (Kd.int .i64) 3 w' w.heap.size (fun k_ => some k_ ≠ (v6 : Value).ownBlock) (.slice (some ⟨go6, 0, none⟩) t111.length co6) x5_1) ∧ zaa (Kd.Q (Kd.int .i64) 3 w' w.heap.size (fun k_ => some k_ ≠ ((.slice (some ⟨go6, 0, none⟩) t111.length co6) : Value).ownBlock) v6 x6_1) ∧ zaa (Below w.heap.size w w'))
   case atStart => exact ⟨(y114), (y115), H', ⟨Nat.le_refl _⟩, ⟨by (with_reducible repeat (first | apply Kd.R_alloc | apply Kd.R_drewN | apply Kd.R_drew)); exact Kd.R_mono HO113.out (fun _ hk => hk.2)⟩, ⟨Kd.Q_of_R (by (with_reducible repeat (first | apply Kd.R_alloc | apply Kd.R_drewN | apply Kd.R_drew)); exact Kd.R_mono HO117.out (fun _ hk => hk.2))⟩, ⟨by repeat (first | (with_reducible first | exact HB.out | apply zac | apply zab | apply zad) | exact HB.out)⟩⟩
   case round =>
    clear H'
    try clear p2
    try clear c4
    try clear c4b0
    try clear c5
    try clear c5b0
    try clear p6
    try clear q6
    try clear hx6
    try clear hf6
    try clear c7
    try clear c9
    try clear hx6_0
    try clear p6
    try clear q6
    obtain ⟨x5_1, x6_1, HA, HK1, HO_5, HO_6, HB⟩ := hrel
    have hl5_1 := (Kd.R_reads' HO_5.out).1
    rw [hl5_1] at HO_5
    (try simp only [hl5_1])
    (try simp only [hl5_1] at HO_6)
    cases gk with
    | zero => exact absurd HA.out (by simp [impl_steps.l0])
    | succ k1 =>
     have H := HA.out
     clear HA
     simp only [impl_steps.l0] at H
     by_cases c15 : (x6_1.length : Int) > 0
     ·rw [if_pos c15] at H
      have c15b0 : decide (0 < (x6_1.length : Int)) = true := decide_eq_true c15
      have c15b1 : decide (0 < x6_1.length) = true := decide_eq_true (by omega)
      clear c15
      by_cases c16 : 0 < (x6_1.length : Int)
      ·rw [if_pos c16] at H
       have c16b0 : decide (0 < (x6_1.length : Int)) = true := decide_eq_true c16
       have c16b1 : decide (0 < x6_1.length) = true := decide_eq_true (by omega)
       clear c16
       replace H := Option.bind_eq_some_iff.mp H
       obtain ⟨t119, A170, H⟩ := H
       replace H : (impl_steps.l1 k1 l0 x5_1 x6_1 t119 (t119.length : Int) 0) = some r := H
       have A17 := zaa.mk A170
       clear A170
       have H' := zaa.mk H
       clear H
       obtain ⟨Ao18, co18, eo18, _⟩ := Kd.Q_slice HO_6.out
       subst eo18
       have p118 : 0 ≤ (0 : Int) := (by omega)
       have q118 : 0 < (x6_1.length : Int) := of_decide_eq_true (by first | (with_reducible assumption) | assumption)
       obtain ⟨ad118, e118, hx118_0⟩ := Kd.at_int (Kd.Q_reads' HO_6.out).2.2 0 p118 q118
       cases e118
       have qi118 : (0 < x6_1.length) = True := eq_true (by omega)
       (try rw [show ((0 : Int)).toNat = 0 from rfl] at hx118_0)
       (try rw [Addr.add_zero'] at hx118_0)
       replace p118 := eq_true p118
       replace q118 := eq_true q118
       go_wp2_with (first | ((with_reducible refine zal (f := 72) rfl ?_); refine zbb (some 27) rfl rfl Try.func72 (by kernel_rfl) rfl #[.slice A0 l0.length c0, .int .i64 (rd x6_1 0)] rfl (by (try simp only [List.map_toArray, List.map_cons, List.map_nil]); first | done | rfl | (simp only [List.length_drop, List.length_take]; rfl)) ?_; (with_reducible refine (impl_near.calls k1 _ _ l0 (rd x6_1 0) t119 _ ?side1 ?side2 A17.out).mono ?_); (case side1 => repeat (first | exact (Kd.C_below HR0.out HB.out) | (with_reducible refine Kd.C_alloc ?_ _) | (with_reducible refine Kd.C_drewN ?_ _) | (with_reducible refine Kd.C_drew ?_))); (case side2 => exact HC0.out); rintro e w19 ⟨v120, rfl, ho0, hb⟩; refine ⟨_, rfl, ?_⟩; have n0_ := zaa.mk (Kd.R_elder' (by (with_reducible repeat (first | apply Kd.R_alloc | apply Kd.R_drewN | apply Kd.R_drew)); exact HO_5.out) (Kd.R_base ho0) hb); have n1_ := zaa.mk (Kd.Q_elder' (by (with_reducible repeat (first | apply Kd.Q_alloc | apply Kd.Q_drewN | apply Kd.Q_drew)); exact HO_6.out) (Kd.R_base ho0) hb); have n2_ := zaa.mk (Kd.R_lower (Kd.R_new' (Kd.R_new' ho0 (Kd.R_lt (by (with_reducible repeat (first | apply Kd.R_alloc | apply Kd.R_drewN | apply Kd.R_drew)); exact HO_5.out))) (Kd.Q_lt (by (with_reducible repeat (first | apply Kd.Q_alloc | apply Kd.Q_drewN | apply Kd.Q_drew)); exact HO_6.out))) (zap (by repeat (first | (with_reducible first | exact HB.out | apply zac | apply zab | apply zad) | exact HB.out)))); have n3_ := zaa.mk (zaj (by repeat (first | (with_reducible first | exact HB.out | apply zac | apply zab | apply zad) | exact HB.out)) hb); clear HO_5; clear HO_6; clear HB; have HO_5 := n0_; have HO_6 := n1_; have HO121 := n2_; have HB := n3_; clear n0_ n1_ n2_ n3_; (try clear hb); (try clear hb2); (try clear hk); (try clear hi); (try clear ho0); obtain ⟨Ao20, co20, eo20⟩ := Kd.R_slice HO121.out; subst eo20))
       go_loopg [6, 29] k1 (fun kq v6 v29 w' => ∃ (x5_2 : List Int) (x6_2 : List Int) (x29_2 : Int), v29 = .int .i64 x29_2 ∧ zaa (impl_steps.l1 kq l0 x5_2 x6_2 t119 (t119.length : Int) x29_2 = some r) ∧ zaa (kq ≤ k1) ∧ zaa (Kd.R (Kd.int .i64) 3 w' w.heap.size (fun k_ => some k_ ≠ (v6 : Value).ownBlock ∧ some k_ ≠ ((.slice Ao20 t119.length co20) : Value).ownBlock) (.slice (some ⟨go6, 0, none⟩) x5_1.length co6) x5_2) ∧ zaa (Kd.Q (Kd.int .i64) 3 w' w.heap.size (fun k_ => some k_ ≠ ((.slice (some ⟨go6, 0, none⟩) x5_1.length co6) : Value).ownBlock ∧ some k_ ≠ ((.slice Ao20 t119.length co20) : Value).ownBlock) v6 x6_2) ∧ zaa (Kd.R (Kd.int .i64) 3 w' w.heap.size (fun k_ => some k_ ≠ ((.slice (some ⟨go6, 0, none⟩) x5_1.length co6) : Value).ownBlock ∧ some k_ ≠ (v6 : Value).ownBlock) (.slice Ao20 t119.length co20) t119) ∧ zaa (Below w.heap.size w w'))
       case atStart => exact ⟨(x5_1), (x6_1), (0), (by first | rfl | (simp; done) | (simp [*]; done)), H', ⟨Nat.le_refl _⟩, ⟨by (try simp only [hl5_1]); (with_reducible repeat (first | apply Kd.R_alloc | apply Kd.R_drewN | apply Kd.R_drew)); exact HO_5.out⟩, ⟨by (try simp only [hl5_1]); (with_reducible repeat (first | apply Kd.Q_alloc | apply Kd.Q_drewN | apply Kd.Q_drew)); exact HO_6.out⟩, ⟨by (try simp only [hl5_1]); (with_reducible repeat (first | apply Kd.R_alloc | apply Kd.R_drewN | apply Kd.R_drew)); exact Kd.R_mono HO121.out (fun _ hk => ⟨hk.1.2, hk.2⟩)⟩, ⟨by repeat (first | (with_reducible first | exact HB.out | apply zac | apply zab | apply zad) | exact HB.out)⟩⟩
       case round =>
        clear H'
        try clear c1
        try clear p1
        try clear q1
        try clear hx1
        try clear qi1
        try clear p2
        try clear c4
        try clear c4b0
        try clear c5
        try clear c5b0
        try clear p6
        try clear q6
        try clear hx6
        try clear hf6
        try clear c7
        try clear c9
        try clear p11
        try clear q11
        try clear hx11
        try clear qi11
        try clear c15
        try clear c15b0
        try clear c15b1
        try clear c16
        try clear c16b0
        try clear c16b1
        try clear hx118_0
        try clear hx6_0
        try clear p118
        try clear p2
        try clear p6
        try clear q118
        try clear q6
        obtain ⟨x5_2, x6_2, x29_2, rfl, HA, HK2, HO_5, HO_6, HO_27, HB⟩ := hrel
        have hl5_2 := (Kd.R_reads' HO_5.out).1
        rw [hl5_2] at HO_5
        (try simp only [hl5_2])
        (try simp only [hl5_2] at HO_6)
        (try simp only [hl5_2] at HO_27)
        cases gk with
        | zero => exact absurd HA.out (by simp [impl_steps.l1])
        | succ k2 =>
         have H := HA.out
         clear HA
         simp only [impl_steps.l1] at H
         by_cases c21 : x29_2 < (t119.length : Int)
         ·rw [if_pos c21] at H
          have c21b0 : decide (x29_2 < (t119.length : Int)) = true := decide_eq_true c21
          clear c21
          by_cases c22 : 0 ≤ x29_2
          ·rw [if_pos c22] at H
           have c22b0 : decide (0 ≤ x29_2) = true := decide_eq_true c22
           clear c22
           by_cases c23 : x29_2 < (t119.length : Int)
           ·rw [if_pos c23] at H
            have c23b0 : decide (x29_2 < (t119.length : Int)) = true := decide_eq_true c23
            clear c23
            by_cases c24 : 0 ≤ (rd t119 x29_2)
            ·rw [if_pos c24] at H
             have c24b0 : decide (0 ≤ (rd t119 x29_2)) = true := decide_eq_true c24
             clear c24
             by_cases c25 : (rd t119 x29_2) < (x5_2.length : Int)
             ·rw [if_pos c25] at H
              have c25b0 : decide ((rd t119 x29_2) < (x5_2.length : Int)) = true := decide_eq_true c25
              clear c25
              by_cases c26 : (rd x5_2 (rd t119 x29_2)) < 0
              ·rw [if_pos c26] at H
               have c26b0 : decide ((rd x5_2 (rd t119 x29_2)) < 0) = true := decide_eq_true c26
               clear c26
               by_cases c27 : 0 < (x6_2.length : Int)
               ·rw [if_pos c27] at H
                have c27b0 : decide (0 < (x6_2.length : Int)) = true := decide_eq_true c27
                have c27b1 : decide (0 < x6_2.length) = true := decide_eq_true (by omega)
                clear c27
                by_cases c28 : 0 ≤ (rd x6_2 0)
                ·rw [if_pos c28] at H
                 have c28b0 : decide (0 ≤ (rd x6_2 0)) = true := decide_eq_true c28
                 clear c28
                 by_cases c29 : (rd x6_2 0) < (x5_2.length : Int)
                 ·rw [if_pos c29] at H
                  have c29b0 : decide ((rd x6_2 0) < (x5_2.length : Int)) = true := decide_eq_true c29
                  clear c29
                  obtain ⟨y126, hy126⟩ : ∃ y_ : List Int, y_ = (x5_2.set ((rd t119 x29_2) : Int).toNat (wrap64 ((rd x5_2 (rd x6_2 0)) + 1))) := ⟨_, rfl⟩
                  replace H : (if x6_2.length < 17592186044416 then (impl_steps.l1 k2 l0 y126 (x6_2 ++ [rd t119 x29_2]) t119 (t119.length : Int) (wrap64 (x29_2 + 1))) else (none)) = some r := by first | (rw [hy126]; with_reducible exact H) | (have H2_ := (Option.bind_some _ _).symm.trans H; rw [hy126]; with_reducible exact H2_) | (have H2_ := (Option.bind_some _ _).symm.trans H; with_reducible exact H2_) | with_reducible exact H | (rw [hy126]; exact H) | exact H
                  have Ny126 := zaa.mk hy126
                  clear hy126
                  by_cases c31 : x6_2.length < 17592186044416
                  ·rw [if_pos c31] at H
                   have LMc31 := zaa.mk c31
                   clear c31
                   obtain ⟨y127, hy127⟩ : ∃ y_ : List Int, y_ = (x6_2 ++ [rd t119 x29_2]) := ⟨_, rfl⟩
                   replace H : (impl_steps.l1 k2 l0 y126 y127 t119 (t119.length : Int) (wrap64 (x29_2 + 1))) = some r := by first | (rw [hy127]; with_reducible exact H) | (have H2_ := (Option.bind_some _ _).symm.trans H; rw [hy127]; with_reducible exact H2_) | (have H2_ := (Option.bind_some _ _).symm.trans H; with_reducible exact H2_) | with_reducible exact H | (rw [hy127]; exact H) | exact H
                   have Ny127 := zaa.mk hy127
                   clear hy127
                   have H' := zaa.mk H
                   clear H
                   have p122 : 0 ≤ (x29_2 : Int) := of_decide_eq_true (by first | (with_reducible assumption) | assumption)
                   have q122 : x29_2 < (t119.length : Int) := of_decide_eq_true (by first | (with_reducible assumption) | assumption)
                   obtain ⟨ad122, e122, hx122_0⟩ := Kd.at_int (Kd.R_reads' HO_27.out).2.2 x29_2 p122 q122
                   cases e122
                   replace p122 := eq_true p122
                   replace q122 := eq_true q122
                   have p123 : 0 ≤ ((rd t119 x29_2) : Int) := of_decide_eq_true (by first | (with_reducible assumption) | assumption)
                   have q123 : (rd t119 x29_2) < (x5_2.length : Int) := of_decide_eq_true (by first | (with_reducible assumption) | assumption)
                   obtain ⟨ad123, e123, hx123_0⟩ := Kd.at_int (Kd.R_reads' HO_5.out).2.2 (rd t119 x29_2) p123 q123
                   obtain rfl : (⟨go6, 0, none⟩ : Addr) = ad123 := (by injection e123)
                   (first | simp only [zcm] at hx123_0 | simp only [add_at] at hx123_0 | simp only [Addr.add, Nat.zero_add] at hx123_0 | skip)
                   replace p123 := eq_true p123
                   replace q123 := eq_true q123
                   obtain ⟨Ao32, co32, eo32, _⟩ := Kd.Q_slice HO_6.out
                   subst eo32
                   have p124 : 0 ≤ (0 : Int) := (by omega)
                   have q124 : 0 < (x6_2.length : Int) := of_decide_eq_true (by first | (with_reducible assumption) | assumption)
                   obtain ⟨ad124, e124, hx124_0⟩ := Kd.at_int (Kd.Q_reads' HO_6.out).2.2 0 p124 q124
                   cases e124
                   have qi124 : (0 < x6_2.length) = True := eq_true (by omega)
                   (try rw [show ((0 : Int)).toNat = 0 from rfl] at hx124_0)
                   (try rw [Addr.add_zero'] at hx124_0)
                   replace p124 := eq_true p124
                   replace q124 := eq_true q124
                   have p125 : 0 ≤ ((rd x6_2 0) : Int) := of_decide_eq_true (by first | (with_reducible assumption) | assumption)
                   have q125 : (rd x6_2 0) < (x5_2.length : Int) := of_decide_eq_true (by first | (with_reducible assumption) | assumption)
                   obtain ⟨ad125, e125, hx125_0⟩ := Kd.at_int (Kd.R_reads' HO_5.out).2.2 (rd x6_2 0) p125 q125
                   obtain rfl : (⟨go6, 0, none⟩ : Addr) = ad125 := (by injection e125)
                   (first | simp only [zcm] at hx125_0 | simp only [add_at] at hx125_0 | simp only [Addr.add, Nat.zero_add] at hx125_0 | skip)
                   replace p125 := eq_true p125
                   replace q125 := eq_true q125
                   have p30 : 0 ≤ ((rd t119 x29_2) : Int) := of_decide_eq_true (by first | (with_reducible assumption) | assumption)
                   have q30 : ((rd t119 x29_2) : Int) < ((x5_2.length : Int) : Int) := of_decide_eq_true (by first | (with_reducible assumption) | assumption)
                   obtain ⟨hx30_0, hf30_0⟩ := Kd.R_celln 0 HO_5.out ((rd t119 x29_2) : Int) p30 q30
                   replace p30 := eq_true p30
                   replace q30 := eq_true q30
                   have HP33 := Kd.R_putg HO_5.out ((rd t119 x29_2) : Int) (wrap64 ((rd x5_2 (rd x6_2 0)) + 1))
                   go_wp2_with (first | ((with_reducible refine gate_store (t := 3) (p := 47) rfl ?_); refine store_event (t := 3) (p := 47) (v := ?vo_w34) (w1 := (wr.setCell ⟨go6, ((rd t119 x29_2) : Int).toNat, none⟩ (.int .i64 (wrap64 ((rd x5_2 (rd x6_2 0)) + 1))))) ?hg ?ho ?hn ?hr ?_; (case ho => rfl); (case hg => rfl); (case hn => rfl); (case hr => first | (go_simp; done) | (go_simp; rfl)); intro w34 hw; have hg : wr.grownBy w34 (some go6) := (by rw [hw]; exact HP33.2); have hp_ : Kd.R (Kd.int .i64) 3 w34 w.heap.size (fun k_ => some k_ ≠ (.slice (some ad124) x6_2.length co32 : Value).ownBlock ∧ some k_ ≠ (.slice (some ad122) t119.length co20 : Value).ownBlock) (.slice (some ⟨go6, 0, none⟩) x5_2.length co6) y126 := (by rw [hw, Ny126.out]; exact HP33.1); clear HP33; have n0_ := zaa.mk (hp_); have n1_ := zaa.mk (Kd.Q_after (v := (.slice (some ⟨go6, 0, none⟩) x5_2.length co6)) (v1 := (.slice (some ⟨go6, 0, none⟩) x5_2.length co6)) (ok := (fun k_ => some k_ ≠ (.slice (some ad122) t119.length co20 : Value).ownBlock)) (by (with_reducible repeat (first | apply Kd.Q_alloc | apply Kd.Q_drewN | apply Kd.Q_drew)); exact Kd.Q_mono HO_6.out (fun _ hk => ⟨hk.2, hk.1⟩)) hg (.inl rfl)); have n2_ := zaa.mk (Kd.R_after (v := (.slice (some ⟨go6, 0, none⟩) x5_2.length co6)) (v1 := (.slice (some ⟨go6, 0, none⟩) x5_2.length co6)) (ok := (fun k_ => some k_ ≠ (.slice (some ad124) x6_2.length co32 : Value).ownBlock)) (by (with_reducible repeat (first | apply Kd.R_alloc | apply Kd.R_drewN | apply Kd.R_drew)); exact Kd.R_mono HO_27.out (fun _ hk => ⟨hk.2, hk.1⟩)) hg (.inl rfl)); have n3_ := zaa.mk ((by rw [hw]; exact zai (HB.out) GB6.out : Below w.heap.size w w34)); clear HO_5; clear HO_6; clear HO_27; clear HB; have HO_5 := n0_; have HO_6 := n1_; have HO_27 := n2_; have HB := n3_; clear n0_ n1_ n2_ n3_; clear hg hw hp_) | ((with_reducible refine zaz (b := .append) (xs := #[.tmp 48, .tmp 50]) rfl ?_); at_builtin; refine Kd.Q_append (Kd.int .i64) (w0 := w) w.heap.size rfl (.tmp 48) (.tmp 50) 34 3 (.int .i64 0) 8 rfl Try.underlying34 info3 rfl (by decide) (by omega) (.slice (some ad124) x6_2.length co32) x6_2 (rd t119 x29_2) [.int .i64 (rd t119 x29_2)] (fun k_ => some k_ ≠ (.slice (some ⟨go6, 0, none⟩) x5_2.length co6 : Value).ownBlock ∧ some k_ ≠ (.slice (some ad122) t119.length co20 : Value).ownBlock) (fun _ => False) rfl rfl ?aP (fun _ hk => hk.elim) ?aF ?aO ?aB ?aS ?aL ?_; (case aP => exact rfl); (case aB => exact (by repeat (first | (with_reducible first | exact HB.out | apply zac | apply zab | apply zad) | exact HB.out))); (case aF => exact (fun k_ hk => ⟨Kd.fresh' (Kd.R_lt (by (with_reducible repeat (first | apply Kd.R_alloc | apply Kd.R_drewN | apply Kd.R_drew)); exact HO_5.out)) k_ hk, Kd.fresh' (Kd.R_lt (by (with_reducible repeat (first | apply Kd.R_alloc | apply Kd.R_drewN | apply Kd.R_drew)); exact HO_27.out)) k_ hk⟩)); (case aO => exact (by (with_reducible repeat (first | apply Kd.Q_alloc | apply Kd.Q_drewN | apply Kd.Q_drew)); exact Kd.Q_mono HO_6.out (fun _ hk => ⟨hk.2, hk.1⟩))); (case aS => exact (zap (by repeat (first | (with_reducible first | exact HB.out | apply zac | apply zab | apply zad) | exact HB.out)))); (case aL => have := LMc31.out; omega); intro v128 w35 ho hb hg hat; rw [← Ny127.out] at ho; have n0_ := zaa.mk (Kd.R_after (ok := (fun k_ => some k_ ≠ (.slice (some ad122) t119.length co20 : Value).ownBlock)) (by (with_reducible repeat (first | apply Kd.R_alloc | apply Kd.R_drewN | apply Kd.R_drew)); exact Kd.R_mono HO_5.out (fun _ hk => ⟨hk.2, hk.1⟩)) hg hat); have n1_ := zaa.mk (Kd.R_after (ok := (fun k_ => some k_ ≠ (.slice (some ⟨go6, 0, none⟩) x5_2.length co6 : Value).ownBlock)) (by (with_reducible repeat (first | apply Kd.R_alloc | apply Kd.R_drewN | apply Kd.R_drew)); exact Kd.R_mono HO_27.out (fun _ hk => ⟨hk.2, hk.1⟩)) hg hat); have n2_ := zaa.mk (hb); have n3_ := zaa.mk (ho); clear HO_5; clear HO_27; clear HB; clear HO_6; have HO_5 := n0_; have HO_27 := n1_; have HB := n2_; have HO129 := n3_; clear n0_ n1_ n2_ n3_; clear ho hb hg hat))
                   (try simp only [← hl5_2])
                   go_roundg k2
                   case measure => have := HK1.out; have := HK2.out; omega
                   case rel => exact ⟨(y126), (y127), (wrap64 (x29_2 + 1)), (by first | rfl | (simp; done) | (simp [*]; done)), H', ⟨by have := HK1.out; have := HK2.out; omega⟩, ⟨by (try simp only [hl5_1]); (try simp only [hl5_2]); (with_reducible repeat (first | apply Kd.R_alloc | apply Kd.R_drewN | apply Kd.R_drew)); exact Kd.R_mono HO_5.out (fun _ hk => ⟨hk.2, hk.1⟩)⟩, ⟨by (try simp only [hl5_1]); (try simp only [hl5_2]); (with_reducible repeat (first | apply Kd.Q_alloc | apply Kd.Q_drewN | apply Kd.Q_drew)); exact HO129.out⟩, ⟨by (try simp only [hl5_1]); (try simp only [hl5_2]); (with_reducible repeat (first | apply Kd.R_alloc | apply Kd.R_drewN | apply Kd.R_drew)); exact HO_27.out⟩, ⟨by repeat (first | (with_reducible first | exact HB.out | apply zac | apply zab | apply zad) | exact HB.out)⟩⟩
                  ·rw [if_neg c31] at H
                   exact absurd H (by simp)
                 ·rw [if_neg c29] at H
                  exact absurd H (by simp)
                ·rw [if_neg c28] at H
                 exact absurd H (by simp)
               ·rw [if_neg c27] at H
                exact absurd H (by simp)
              ·rw [if_neg c26] at H
               have c26b0 : decide ((rd x5_2 (rd t119 x29_2)) < 0) = false := decide_eq_false c26
               clear c26
               have H' := zaa.mk H
               clear H
               have p122 : 0 ≤ (x29_2 : Int) := of_decide_eq_true (by first | (with_reducible assumption) | assumption)
               have q122 : x29_2 < (t119.length : Int) := of_decide_eq_true (by first | (with_reducible assumption) | assumption)
               obtain ⟨ad122, e122, hx122_0⟩ := Kd.at_int (Kd.R_reads' HO_27.out).2.2 x29_2 p122 q122
               cases e122
               replace p122 := eq_true p122
               replace q122 := eq_true q122
               have p123 : 0 ≤ ((rd t119 x29_2) : Int) := of_decide_eq_true (by first | (with_reducible assumption) | assumption)
               have q123 : (rd t119 x29_2) < (x5_2.length : Int) := of_decide_eq_true (by first | (with_reducible assumption) | assumption)
               obtain ⟨ad123, e123, hx123_0⟩ := Kd.at_int (Kd.R_reads' HO_5.out).2.2 (rd t119 x29_2) p123 q123
               obtain rfl : (⟨go6, 0, none⟩ : Addr) = ad123 := (by injection e123)
               (first | simp only [zcm] at hx123_0 | simp only [add_at] at hx123_0 | simp only [Addr.add, Nat.zero_add] at hx123_0 | skip)
               replace p123 := eq_true p123
               replace q123 := eq_true q123
               go_wp2
               (try simp only [← hl5_2])
               go_roundg k2
               case measure => have := HK1.out; have := HK2.out; omega
               case rel => exact ⟨(x5_2), (x6_2), (wrap64 (x29_2 + 1)), (by first | rfl | (simp; done) | (simp [*]; done)), H', ⟨by have := HK1.out; have := HK2.out; omega⟩, ⟨by (try simp only [hl5_1]); (try simp only [hl5_2]); (with_reducible repeat (first | apply Kd.R_alloc | apply Kd.R_drewN | apply Kd.R_drew)); exact HO_5.out⟩, ⟨by (try simp only [hl5_1]); (try simp only [hl5_2]); (with_reducible repeat (first | apply Kd.Q_alloc | apply Kd.Q_drewN | apply Kd.Q_drew)); exact HO_6.out⟩, ⟨by (try simp only [hl5_1]); (try simp only [hl5_2]); (with_reducible repeat (first | apply Kd.R_alloc | apply Kd.R_drewN | apply Kd.R_drew)); exact HO_27.out⟩, ⟨by repeat (first | (with_reducible first | exact HB.out | apply zac | apply zab | apply zad) | exact HB.out)⟩⟩
             ·rw [if_neg c25] at H
              exact absurd H (by simp)
            ·rw [if_neg c24] at H
             exact absurd H (by simp)
           ·rw [if_neg c23] at H
            exact absurd H (by simp)
          ·rw [if_neg c22] at H
           exact absurd H (by simp)
         ·rw [if_neg c21] at H
          have c21b0 : decide (x29_2 < (t119.length : Int)) = false := decide_eq_false c21
          clear c21
          by_cases c36 : 1 ≤ (x6_2.length : Int)
          ·rw [if_pos c36] at H
           have c36b0 := eq_true c36
           have c36b1 : decide (1 ≤ (x6_2.length : Int)) = true := decide_eq_true c36
           clear c36
           obtain ⟨y130, hy130⟩ : ∃ y_ : List Int, y_ = (x6_2.drop (1 : Int).toNat) := ⟨_, rfl⟩
           replace H : (impl_steps.l0 k2 l0 x5_2 y130) = some r := by first | (rw [hy130]; with_reducible exact H) | (have H2_ := (Option.bind_some _ _).symm.trans H; rw [hy130]; with_reducible exact H2_) | (have H2_ := (Option.bind_some _ _).symm.trans H; with_reducible exact H2_) | with_reducible exact H | (rw [hy130]; exact H) | exact H
           have Ny130 := zaa.mk hy130
           clear hy130
           have H' := zaa.mk H
           clear H
           obtain ⟨Ao37, co37, eo37, _⟩ := Kd.Q_slice HO_6.out
           subst eo37
           have q38 : (1 : Int) ≤ ((x6_2.length : Int) : Int) := of_decide_eq_true (by first | (with_reducible assumption) | assumption)
           obtain ⟨i038, hi038, _, hsz38, _⟩ := info_parts info3
           have hcut38 := cut_from (P := Try.prog) 34 3 .i64 Try.underlying34 hi038 1 hsz38 Ao37 x6_2.length co37 1 (by omega) q38
           have hr38 := Kd.Q_drop (k := (1 : Int).toNat) HO_6.out (by omega)
           obtain ⟨A38, hA38⟩ : ∃ A1, A1 = (if co37 = (1 : Int).toNat then Ao37 else (Ao37 : Option Addr).map (·.add ((1 : Int).toNat * 1))) := ⟨_, rfl⟩
           obtain ⟨c38, hc38⟩ : ∃ c1, c1 = co37 - (1 : Int).toNat := ⟨_, rfl⟩
           have hy38 : y130.length = x6_2.length - (1 : Int).toNat := (by rw [Ny130.out, List.length_drop])
           rw [← Ny130.out] at hr38
           rw [← hy38, ← hA38, ← hc38] at hcut38
           replace hr38 : Kd.Q (Kd.int .i64) 3 wr w.heap.size (fun k_ => some k_ ≠ (.slice (some ⟨go6, 0, none⟩) x5_2.length co6 : Value).ownBlock ∧ some k_ ≠ (.slice Ao20 t119.length co20 : Value).ownBlock) (.slice A38 y130.length c38) y130 := (by rw [hA38, hc38, hy38]; exact hr38)
           have HE38 : zaa ((Value.slice A38 y130.length c38).ownBlock = (.slice Ao37 x6_2.length co37 : Value).ownBlock) := ⟨by rw [hA38]; split <;> (cases (Ao37 : Option Addr) <;> rfl)⟩
           clear hy38 hi038 hsz38 HO_6 hA38 hc38
           have HO132 := zaa.mk hr38
           clear hr38
           replace q38 := eq_true q38
           have n_ := zaa.mk (Kd.R_mono (ok' := fun k_ => (some k_ ≠ (.slice A38 y130.length c38 : Value).ownBlock ∧ some k_ ≠ (.slice Ao20 t119.length co20 : Value).ownBlock)) HO_5.out (fun k_ hk => ⟨(by rw [HE38.out]; exact hk.1), hk.2⟩))
           clear HO_5
           have HO_5 := n_
           clear n_
           have n_ := zaa.mk (Kd.R_mono (ok' := fun k_ => (some k_ ≠ (.slice (some ⟨go6, 0, none⟩) x5_2.length co6 : Value).ownBlock ∧ some k_ ≠ (.slice A38 y130.length c38 : Value).ownBlock)) HO_27.out (fun k_ hk => ⟨hk.1, (by rw [HE38.out]; exact hk.2)⟩))
           clear HO_27
           have HO_27 := n_
           clear n_
           go_wp2
           (try simp only [← hl5_1, ← hl5_2])
           go_roundg k2
           case measure => have := HK1.out; have := HK2.out; omega
           case rel => exact ⟨(x5_2), (y130), H', ⟨by have := HK1.out; have := HK2.out; omega⟩, ⟨by (try simp only [hl5_1]); (try simp only [hl5_2]); (with_reducible repeat (first | apply Kd.R_alloc | apply Kd.R_drewN | apply Kd.R_drew)); exact Kd.R_mono HO_5.out (fun _ hk => hk.1)⟩, ⟨by (try simp only [hl5_1]); (try simp only [hl5_2]); (with_reducible repeat (first | apply Kd.Q_alloc | apply Kd.Q_drewN | apply Kd.Q_drew)); exact Kd.Q_mono HO132.out (fun _ hk => hk.1)⟩, ⟨by repeat (first | (with_reducible first | exact HB.out | apply zac | apply zab | apply zad) | exact HB.out)⟩⟩
          ·rw [if_neg c36] at H
           exact absurd H (by simp)
      ·rw [if_neg c16] at H
       exact absurd H (by simp)
     ·rw [if_neg c15] at H
      have c15b0 : decide (0 < (x6_1.length : Int)) = false := decide_eq_false c15
      have c15b1 : decide (0 < x6_1.length) = false := decide_eq_false (by omega)
      clear c15
      obtain rfl := Option.some.inj H
      obtain ⟨Ao39, co39, eo39, _⟩ := Kd.Q_slice HO_6.out
      subst eo39
      go_wp2
      go_ret
      exact ⟨_, by first | rfl | (simp [zan, zam] <;> rfl) | (simp [*, zan, zam] <;> rfl), by (with_reducible repeat (first | apply Kd.R_alloc | apply Kd.R_drewN | apply Kd.R_drew)); exact Kd.R_mono HO_5.out (fun _ hk => trivial), by repeat (first | (with_reducible first | exact HB.out | apply zac | apply zab | apply zad) | exact HB.out)⟩
  ·rw [if_neg c5] at H
   exact absurd H (by simp)
 ·rw [if_neg c4] at H
  exact absurd H (by simp)
end Go.Proofs.Ytoijjkhdfooapaa.ST
namespace Go.Proofs.Ytoijjkhdfooapaa.Hd
open Go.RowKit Go.PW.PrintWords Go.PW.PrintLast Go.PW.PrintMore Go.Proofs.Ytoijjkhdfooapaa.PB Go.Proofs.Ytoijjkhdfooapaa.ST
def stepV (c : Int) (st : List Int × List Int) (x : Int) : List Int × List Int := if rd st.1 x < 0 then (st.1.set x.toNat (wrap64 (rd st.1 c + 1)), st.2 ++ [x]) else st
def bfsL (nb : Int → List Int) : Nat → List Int → List Int → List Int
 | 0, d, _ => d
 | _ + 1, d, [] => d
 | m + 1, d, c :: q => bfsL nb m ((nb c).foldl (stepV c) (d, q)).1 ((nb c).foldl (stepV c) (d, q)).2
def unR (d : List Int) : Nat := (d.filter fun e => decide (e < 0)).length
theorem unR_set : ∀ (d : List Int) (i : Nat) (v : Int), i < d.length → d.getD i 0 < 0 → 0 ≤ v → unR (d.set i v) + 1 = unR d
 | [], i, v, hi, _, _ => by simp at hi
 | e :: d, 0, v, _, h, hv => by
  have h : e < 0 := h
  simp only [unR, List.set_cons_zero, List.filter_cons]
  rw [decide_eq_true h, decide_eq_false (show ¬ v < 0 by omega)]
  simp
 | e :: d, i + 1, v, hi, h, hv => by
  have ih := unR_set d i v (by simpa using hi) h hv
  simp only [unR, List.set_cons_succ, List.filter_cons] at ih ⊢
  split
  ·simp only [List.length_cons]; omega
  ·exact ih
structure BI (n : Nat) (d : List Int) : Prop where
 len : d.length = n
 all : ∀ e ∈ d, e = -1 ∨ (0 ≤ e ∧ e + (unR d : Int) + 1 ≤ n)
theorem rd_mem {d : List Int} {x : Int} (h0 : 0 ≤ x) (h1 : x < (d.length : Int)) : rd d x ∈ d := by
 unfold rd
 have hx : x.toNat < d.length := by omega
 rw [List.getD_eq_getElem?_getD, List.getElem?_eq_getElem hx]
 exact List.getElem_mem hx
theorem unR_le (d : List Int) : unR d ≤ d.length := List.length_filter_le _ _
def InN (n : Nat) (L : List Int) : Prop := ∀ x ∈ L, 0 ≤ x ∧ x < (n : Int)
theorem step_inv {n : Nat} (hn : n ≤ 9) {d q : List Int} {c x : Int} (H : BI n d) (hq : InN n q) (hc : 0 ≤ c ∧ c < (n : Int)) (hx : 0 ≤ x ∧ x < (n : Int)) :
  BI n (stepV c (d, q) x).1 ∧ InN n (stepV c (d, q) x).2 ∧ unR (stepV c (d, q) x).1 + (stepV c (d, q) x).2.length = unR d + q.length ∧ 2 * unR (stepV c (d, q) x).1 + (stepV c (d, q) x).2.length ≤ 2 * unR d + q.length := by
 unfold stepV
 dsimp only
 by_cases h : rd d x < 0
 ·rw [if_pos h]
  have hl := H.len
  have hcm := H.all _ (rd_mem hc.1 (by rw [hl]; exact hc.2))
  have hU := unR_le d
  have hv : wrap64 (rd d c + 1) = rd d c + 1 := zar (by omega) (by omega)
  rw [hv]
  dsimp only
  have hS := unR_set d x.toNat (rd d c + 1) (by omega) h (by omega)
  refine ⟨⟨by rw [List.length_set]; exact hl, fun e he => ?_⟩, ?_, ?_, ?_⟩
  ·rcases List.mem_or_eq_of_mem_set he with h1 | h1
   ·rcases H.all e h1 with h2 | ⟨h2, h3⟩
    ·exact .inl h2
    ·exact .inr ⟨h2, by omega⟩
   ·rw [h1]
    exact .inr ⟨by omega, by omega⟩
  ·intro y hy
   rcases List.mem_append.1 hy with h1 | h1
   ·exact hq y h1
   ·rw [List.mem_singleton.1 h1]; exact hx
  ·rw [List.length_append]; simp; omega
  ·rw [List.length_append]; simp; omega
 ·rw [if_neg h]
  exact ⟨H, hq, rfl, Nat.le_refl _⟩
theorem fold_inv {n : Nat} (hn : n ≤ 9) {c : Int} (hc : 0 ≤ c ∧ c < (n : Int)) : ∀ (L d q : List Int), InN n L → BI n d → InN n q →
  BI n (L.foldl (stepV c) (d, q)).1 ∧ InN n (L.foldl (stepV c) (d, q)).2 ∧ unR (L.foldl (stepV c) (d, q)).1 + (L.foldl (stepV c) (d, q)).2.length = unR d + q.length ∧ 2 * unR (L.foldl (stepV c) (d, q)).1 + (L.foldl (stepV c) (d, q)).2.length ≤ 2 * unR d + q.length
 | [], d, q, _, H, hq => ⟨H, hq, rfl, Nat.le_refl _⟩
 | x :: L, d, q, hL, H, hq => by
  obtain ⟨h1, h2, h3, h4⟩ := step_inv hn H hq hc (hL x List.mem_cons_self)
  obtain ⟨k1, k2, k3, k4⟩ := fold_inv hn hc L _ _ (fun y hy => hL y (List.mem_cons_of_mem _ hy)) h1 h2
  rw [List.foldl_cons]
  exact ⟨k1, k2, k3.trans h3, Nat.le_trans k4 h4⟩
theorem rd_drop {L : List Int} {i : Nat} (h : i < L.length) : L.drop i = rd L (i : Int) :: L.drop (i + 1) := by
 rw [List.drop_eq_getElem_cons h]
 unfold rd
 rw [Int.toNat_natCast, List.getD_eq_getElem?_getD, List.getElem?_eq_getElem h]
 rfl
theorem rd_memN {L : List Int} {i : Nat} (h : i < L.length) : rd L (i : Int) ∈ L := rd_mem (by omega) (by omega)
theorem isteps_l1 {n : Nat} (hn : n ≤ 9) (x0 : List (List Int)) (c : Int) (hc : 0 ≤ c ∧ c < (n : Int)) (L : List Int) (hL : InN n L) (hl9 : L.length ≤ 9) (r : List Int) : ∀ m i d Q, i + m = L.length → BI n d → InN n Q → Q.length + unR d ≤ 9 →
  Evs (fun k => impl_steps.l0 k x0 ((L.drop i).foldl (stepV c) (d, Q)).1 ((L.drop i).foldl (stepV c) (d, Q)).2) r → Evs (fun k => impl_steps.l1 k x0 d (c :: Q) L (L.length : Int) (i : Int)) r := by
 intro m
 induction m with
 | zero =>
  intro i d Q hi H hQ hU hr
  obtain rfl : i = L.length := by omega
  rw [List.drop_length] at hr
  refine Evs.step (fun k => ?_) hr
  conv => lhs; unfold impl_steps.l1
  rw [if_neg (by omega), if_pos (by simp only [List.length_cons]; omega)]
  rfl
 | succ m ih =>
  intro i d Q hi H hQ hU hr
  have hlt : i < L.length := by omega
  rw [rd_drop hlt, List.foldl_cons] at hr
  have hx := hL _ (rd_memN hlt)
  have hst := step_inv hn H hQ hc hx
  have hd := H.len
  generalize hxx : rd L (i : Int) = x at *
  have hnx := ih (i + 1) (stepV c (d, Q) x).1 (stepV c (d, Q) x).2 (by omega) hst.1 hst.2.1 (by omega) hr
  refine Evs.step (fun k => ?_) hnx
  conv => lhs; unfold impl_steps.l1
  rw [if_pos (by omega), if_pos (by omega), if_pos (by omega), hxx, if_pos hx.1, if_pos (by omega), zbj (by omega)]
  unfold stepV
  dsimp only
  by_cases h : rd d x < 0
  ·rw [if_pos h, if_pos h, if_pos (by simp only [List.length_cons]; omega), if_pos (show 0 ≤ rd (c :: Q) 0 from hc.1), if_pos (show rd (c :: Q) 0 < _ by show c < _; omega), if_pos (by simp only [List.length_cons]; omega)]
   rfl
  ·rw [if_neg h, if_neg h]
theorem isteps_l0 {n : Nat} (hn : n ≤ 9) (x0 : List (List Int)) (nb : Int → List Int) (hnb : ∀ c : Int, 0 ≤ c ∧ c < (n : Int) → Evs (fun k => impl_near.f k x0 c) (nb c) ∧ InN n (nb c) ∧ (nb c).length ≤ 9) : ∀ m d q, BI n d → InN n q → q.length + unR d ≤ 9 → 2 * unR d + q.length ≤ m → Evs (fun k => impl_steps.l0 k x0 d q) (bfsL nb m d q) := by
 have nil : ∀ m d, Evs (fun k => impl_steps.l0 k x0 d []) (bfsL nb m d []) := by
  intro m d
  have e : bfsL nb m d [] = d := by cases m <;> rfl
  rw [e]
  refine Evs.step (h := fun _ => some d) (fun k => ?_) (Evs.const d)
  conv => lhs; unfold impl_steps.l0
  rw [if_neg (by simp)]
 intro m
 induction m with
 | zero =>
  intro d q H hq hU hm
  obtain rfl : q = [] := List.length_eq_zero_iff.1 (by omega)
  exact nil _ _
 | succ m ih =>
  intro d q H hq hU hm
  cases q with
  | nil => exact nil _ _
  | cons c q =>
   have hc := hq c List.mem_cons_self
   have hq' : InN n q := fun y hy => hq y (List.mem_cons_of_mem _ hy)
   obtain ⟨h1, h2, h3⟩ := hnb c hc
   obtain ⟨k1, k2, k3, k4⟩ := fold_inv hn hc (nb c) d q h2 H hq'
   simp only [List.length_cons] at hU hm
   have hnx := ih _ _ k1 k2 (by omega) (by omega)
   refine Evs.step (h := fun k => (impl_near.f k x0 c).bind fun t => impl_steps.l1 k x0 d (c :: q) t (t.length : Int) 0) (fun k => ?_) (Evs.bind h1 (isteps_l1 hn x0 c hc (nb c) h2 h3 _ (nb c).length 0 d q (by omega) H hq' (by omega) hnx))
   conv => lhs; unfold impl_steps.l0
   rw [if_pos (by simp only [List.length_cons]; omega), if_pos (by simp only [List.length_cons]; omega)]
   rfl
theorem BI_start {n : Nat} (hn : n ≤ 9) (a : Nat) (ha : a < n) : BI n ((List.replicate n (-1 : Int)).set a 0) ∧ unR ((List.replicate n (-1 : Int)).set a 0) + 1 = n := by
 have hU : unR (List.replicate n (-1 : Int)) = n := by
  unfold unR
  rw [List.filter_eq_self.2 (fun e he => by rw [List.eq_of_mem_replicate he]; rfl), List.length_replicate]
 have hS := unR_set (List.replicate n (-1 : Int)) a 0 (by rw [List.length_replicate]; exact ha) (by simp [List.getD_eq_getElem?_getD, ha]) (Int.le_refl _)
 rw [hU] at hS
 refine ⟨⟨by simp, fun e he => ?_⟩, hS⟩
 rcases List.mem_or_eq_of_mem_set he with h1 | h1
 ·exact .inl (List.eq_of_mem_replicate h1)
 ·rw [h1]; exact .inr ⟨Int.le_refl _, by omega⟩
def stepsL (cs : List (List Int)) (n : Nat) (a : Nat) : List Int := bfsL (nearL cs n) (2 * n) ((List.replicate n (-1 : Int)).set a 0) [(a : Int)]
theorem nearL_in (cs : List (List Int)) (n : Nat) (a : Int) : InN n (nearL cs n a) := by
 intro x hx
 obtain ⟨b, rfl, h1, h2⟩ := (nearL_mem cs n a x).1 hx
 exact ⟨by omega, by omega⟩
theorem isteps_ev (cs : List (List Int)) (n a : Nat) (hn : n ≤ 9) (ha : a < n) : Evs (fun k => impl_steps.f k (touchM cs n) (a : Int)) (stepsL cs n a) := by
 have hlen : (touchM cs n).length = n := zbe _ _ _
 obtain ⟨h1, h2⟩ := BI_start hn a ha
 have h0 := isteps_l0 hn (touchM cs n) (nearL cs n) (fun c hc => by
  have := nearL_length cs n c
  refine ⟨?_, nearL_in cs n c, by omega⟩
  have h := near_ev cs n c.toNat hn (by omega)
  rwa [Int.toNat_of_nonneg hc.1] at h) (2 * n) _ [(a : Int)] h1 (by intro x hx; rw [List.mem_singleton.1 hx]; omega) (by simp; omega) (by simp; omega)
 have hrep : slices_Repeat_int_int.f [(-1 : Int)] ((touchM cs n).length : Int) = some (List.replicate n (-1 : Int)) := by
  rw [hlen]
  unfold slices_Repeat_int_int.f
  rw [if_pos ⟨rfl, by omega, by omega⟩]
  simp
 refine Evs.congr (fun k => ?_) h0
 conv => lhs; unfold impl_steps.f
 rw [hrep]
 rw [Option.bind_some, if_pos (by omega), if_pos (by rw [List.length_replicate]; omega)]
 rfl
theorem bfs_len {n : Nat} (hn : n ≤ 9) (nb : Int → List Int) (hnb : ∀ c : Int, 0 ≤ c ∧ c < (n : Int) → InN n (nb c)) : ∀ m d q, BI n d → InN n q → BI n (bfsL nb m d q)
 | 0, d, q, H, _ => H
 | m + 1, d, [], H, _ => H
 | m + 1, d, c :: q, H, hq => by
  have hc := hq c List.mem_cons_self
  obtain ⟨k1, k2, _, _⟩ := fold_inv hn hc (nb c) d q (hnb c hc) H (fun y hy => hq y (List.mem_cons_of_mem _ hy))
  exact bfs_len hn nb hnb m _ _ k1 k2
theorem stepsL_inv (cs : List (List Int)) (n a : Nat) (hn : n ≤ 9) (ha : a < n) : BI n (stepsL cs n a) :=
 bfs_len hn _ (fun c _ => nearL_in cs n c) _ _ _ (BI_start hn a ha).1 (by intro x hx; rw [List.mem_singleton.1 hx]; omega)
end Go.Proofs.Ytoijjkhdfooapaa.Hd
namespace Go.Proofs.Ytoijjkhdfooapaa.Hd
open Go.RowKit Go.PW.PrintWords Go.PW.PrintLast Go.PW.PrintMore Go.Proofs.Ytoijjkhdfooapaa.PB
theorem pairF_in {l0 : List ByteArray} {a b : Int} {cs : List (List Int)} {rs : List Rc} (h : pairF l0 a b = some (cs, rs)) : zcg l0 = some (cs, rs) ∧ hasB rs a = true ∧ hasB rs b = true := by
 unfold pairF at h
 cases hF : zcg l0 with
 | none => rw [hF] at h; cases h
 | some t =>
  obtain ⟨c1, r1⟩ := t
  rw [hF] at h
  dsimp only at h
  split at h
  ·rename_i hb
   injection h with h
   injection h with h1 h2
   subst h1 h2
   rw [Bool.and_eq_true] at hb
   exact ⟨rfl, hb.1, hb.2⟩
  ·cases h
end Go.Proofs.Ytoijjkhdfooapaa.Hd
namespace Go.Proofs.Ytoijjkhdfooapaa.Hd
open Go.RowKit Go.PW.PrintWords Go.PW.PrintLast Go.PW.PrintMore Go.Proofs.Ytoijjkhdfooapaa.PB Go.Proofs.Ytoijjkhdfooapaa.ST
def nearWayF (p : List ByteArray) (a b : Int) : Int × Bool := match pairF p a b with
 | none => (0, false)
 | some (cs, rs) => (rd (stepsL cs rs.length a.toNat) b, true)
theorem hasB_nat {rs : List Rc} {a : Int} (h : hasB rs a = true) : ∃ i : Nat, a = (i : Int) ∧ i < rs.length := by
 unfold hasB at h
 rw [Bool.and_eq_true, decide_eq_true_eq, decide_eq_true_eq] at h
 obtain ⟨i, rfl⟩ := Int.eq_ofNat_of_zero_le h.1
 exact ⟨i, rfl, by omega⟩
set_option maxHeartbeats 4000000 in
set_option maxRecDepth 100000 in
theorem NearWay_calls (A0 : Option Addr) (c0 : Nat) (l0 : List ByteArray) (a b : Int) (w : World) (hr0 : Kd.C Kd.string w A0 l0.length l0) (hc0 : l0.length ≤ c0) (hp : smallP l0) :
  Calls Try.prog 38 #[.slice A0 l0.length c0, .int .i64 a, .int .i64 b] w fun e w' => e = .returned (.tuple #[.int .i64 (nearWayF l0 a b).1, .bool (nearWayF l0 a b).2]) ∧ Below w.heap.size w w' := by
 have HPr := zaa.mk (pair_calls A0 c0 l0 a b w hr0 hc0 hp)
 clear hr0 hc0 hp
 rcases hT : pairF l0 a b with _ | ⟨cs, rs⟩
 ·rw [hT] at HPr
  have e : nearWayF l0 a b = (0, false) := by unfold nearWayF; rw [hT]
  rw [e]
  clear hT e
  go_enter Try.func38, Try.ntmps38
  go_wp2_with (first
   | (go_at_call 71; refine HPr.out.mono ?_; rintro e w8 ⟨hb8, rfl⟩; have HB8 := zaa.mk hb8; clear hb8))
  go_ret2
  exact ⟨rfl, HB8.out⟩
 ·obtain ⟨hF, hA, hB⟩ := pairF_in hT
  have hk := floorF_ok hF
  have e : nearWayF l0 a b = (rd (stepsL cs rs.length a.toNat) b, true) := by unfold nearWayF; rw [hT]
  rw [hT] at HPr
  rw [e]
  obtain ⟨i, rfl, hi⟩ := hasB_nat hA
  obtain ⟨j, rfl, hj⟩ := hasB_nat hB
  rw [Int.toNat_natCast]
  obtain ⟨K, hK⟩ := isteps_ev cs rs.length i hk.many hi
  have HSt := zaa.mk (hK K (Nat.le_refl K))
  have hsl := (stepsL_inv cs rs.length i hk.many hi).len
  have HTl := zaa.mk (touchM_length cs rs.length)
  clear hK hT e hF hA hB hk
  generalize stepsL cs rs.length i = sl at *
  have p0 : (0 : Int) ≤ (j : Int) := by omega
  have p1 : (j : Int) < (sl.length : Int) := by omega
  clear hsl hi hj
  go_enter Try.func38, Try.ntmps38
  go_wp2_with (first
   | (go_at_call 71; refine HPr.out.mono ?_; rintro e w8 ⟨hb8, g, A, c, rfl, hfl, hl, hC⟩; have HB8 := zaa.mk hb8; have HL8 := zaa.mk hl; have HC8 := zaa.mk hC; clear hb8 hfl hl hC)
   | (go_at_call 74; refine (impl_steps.calls K A c (touchM cs rs.length) (i : Int) sl _ HC8.out HL8.out HSt.out).mono ?_; rintro e w12 ⟨v12, rfl, hr12, hb12⟩; obtain ⟨A12, c12, e12⟩ := Kd.R_slice hr12; subst e12; obtain ⟨ad, ead, hz⟩ := Kd.at_int (Kd.R_reads' hr12).2.2 (j : Int) p0 p1; cases ead; rw [Int.toNat_natCast] at hz; have HB12 := zaa.mk (zaj HB8.out hb12); clear hr12 hb12))
  go_ret2
  exact ⟨rfl, HB12.out⟩
end Go.Proofs.Ytoijjkhdfooapaa.Hd
namespace Go.Proofs.Ytoijjkhdfooapaa.Hd
open Go.RowKit Go.PW.PrintWords Go.PW.PrintLast Go.PW.PrintMore Go.Proofs.Ytoijjkhdfooapaa.PB
def impl_NearWay.f (l0 : List ByteArray) (a1 : Int) (a2 : Int) : Option (Int × Bool) := if smallB l0 = true then some (nearWayF l0 a1 a2) else none
theorem impl_NearWay.calls (A0 : Option Addr) (c0 : Nat) (l0 : List ByteArray) (a1 : Int) (a2 : Int) (r1 : Int) (r2 : Bool) (w : World) (hr0 : Kd.C Kd.string w A0 l0.length l0) (hc0 : l0.length ≤ c0) (h : impl_NearWay.f l0 a1 a2 = some (r1, r2)) :
  Calls Try.prog 38 #[.slice A0 l0.length c0, .int .i64 a1, .int .i64 a2] w fun e w' => e = .returned (.tuple #[.int .i64 r1, .bool r2]) ∧ Below w.heap.size w w' := by
 unfold impl_NearWay.f at h
 split at h
 ·rename_i hs
  have e := Option.some.inj h
  have := NearWay_calls A0 c0 l0 a1 a2 w hr0 hc0 ((smallB_iff _).1 hs)
  rw [e] at this
  exact this
 ·cases h
end Go.Proofs.Ytoijjkhdfooapaa.Hd
namespace Go.Proofs.Ytoijjkhdfooapaa.NE
open Go.Proofs.Ytoijjkhdfooapaa.PB Go.Proofs.Ytoijjkhdfooapaa.Hd Go.Proofs.Ytoijjkhdfooapaa.SM
open Go.RowKit Go.PW.PrintWords Go.PW.PrintLast Go.PW.PrintMore
attribute [local go_sem] zbw zbu zcj zci zbp zbo zbv zbt   -- for this text's walks alone
def errW : Option Int → Value
 | none => .nilIface
 | some c => .iface 0 (.int .i64 c)
theorem zan : errW none = .nilIface := rfl
theorem zam (c : Int) : errW (some c) = .iface 0 (.int .i64 c) := rfl
theorem info3 : (Try.prog.info? 3).map (fun i => (i.zero, i.size, i.bytes)) = some (some (.int .i64 0), 1, 8) := by kernel_rfl
theorem info5 : (Try.prog.info? 5).map (fun i => (i.zero, i.size, i.bytes)) = some (some (.int .u8 0), 1, 1) := by kernel_rfl
theorem info9 : (Try.prog.info? 9).map (fun i => (i.zero, i.size, i.bytes)) = some (some (.string ⟨#[]⟩), 1, 16) := by kernel_rfl
theorem info60 : (Try.prog.info? 60).map (fun i => (i.zero, i.size, i.bytes)) = some (some (.agg #[(.bool false), (.int .i64 0), (.int .i64 0), (.int .i64 0)]), 4, 32) := by kernel_rfl
structure S87 where
 f0 : Int
 f1 : Int
 f2 : Int
 f3 : Int
def z87 : S87 := ⟨(0 : Int), (0 : Int), (0 : Int), (0 : Int)⟩
def k87 : Kd S87 := Kd.iso (Kd.pair (Kd.int .i64) (Kd.pair (Kd.int .i64) (Kd.pair (Kd.int .i64) (Kd.int .i64)))) (fun x : S87 => (x.f0, x.f1, x.f2, x.f3))
theorem k87_open {w : World} {x : S87} {cs : List Value} (h : k87.K w x cs) : cs = [.int .i64 x.f0, .int .i64 x.f1, .int .i64 x.f2, .int .i64 x.f3] := by
 obtain ⟨_, _, rfl, rfl, ⟨_, _, rfl, rfl, ⟨_, _, rfl, rfl, rfl⟩⟩⟩ := h
 exact rfl
theorem k87_mkM (w : World) (base : Nat) (ok : Nat → Prop) (x : S87)  : k87.M w base ok x [.int .i64 x.f0, .int .i64 x.f1, .int .i64 x.f2, .int .i64 x.f3] := ⟨[.int .i64 x.f0], [.int .i64 x.f1, .int .i64 x.f2, .int .i64 x.f3], rfl, rfl, ⟨[.int .i64 x.f1], [.int .i64 x.f2, .int .i64 x.f3], rfl, rfl, ⟨[.int .i64 x.f2], [.int .i64 x.f3], rfl, rfl, rfl⟩⟩⟩
def rd_T87 (xs : List S87) (i : Int) : S87 := xs.getD i.toNat z87
theorem at_T87 {w : World} {A : Option Addr} {n : Nat} {xs : List S87} (h : Kd.C k87 w A n xs) (i : Int) (h0 : 0 ≤ i) (h1 : i < n) : ∃ ad , A = some ad ∧ w.cell? (ad.add (i.toNat * 4)) = some (.int .i64 (rd_T87 xs i).f0) ∧ w.cell? ⟨(ad.add (i.toNat * 4)).block, (ad.add (i.toNat * 4)).off + 1, none⟩ = some (.int .i64 (rd_T87 xs i).f1) ∧ w.cell? ⟨(ad.add (i.toNat * 4)).block, (ad.add (i.toNat * 4)).off + 2, none⟩ = some (.int .i64 (rd_T87 xs i).f2) ∧ w.cell? ⟨(ad.add (i.toNat * 4)).block, (ad.add (i.toNat * 4)).off + 3, none⟩ = some (.int .i64 (rd_T87 xs i).f3) := by
 obtain ⟨ad, c, e, _, hK, hc0⟩ := Kd.C_get h z87 i h0 h1
 have hc : ∀ j u, c[j]? = some u → w.cell? (ad.add (i.toNat * 4 + j)) = some u := hc0
 obtain rfl := k87_open hK
 exact ⟨ad, e, hc 0 _ rfl, by rw [← add_field _ _ 1 (by omega)]; exact hc 1 _ rfl, by rw [← add_field _ _ 2 (by omega)]; exact hc 2 _ rfl, by rw [← add_field _ _ 3 (by omega)]; exact hc 3 _ rfl⟩
structure S60 where
 f0 : Bool
 f1 : Int
 f2 : Int
 f3 : Int
def z60 : S60 := ⟨false, (0 : Int), (0 : Int), (0 : Int)⟩
def k60 : Kd S60 := Kd.iso (Kd.pair Kd.bool (Kd.pair (Kd.int .i64) (Kd.pair (Kd.int .i64) (Kd.int .i64)))) (fun x : S60 => (x.f0, x.f1, x.f2, x.f3))
theorem k60_open {w : World} {x : S60} {cs : List Value} (h : k60.K w x cs) : cs = [.bool x.f0, .int .i64 x.f1, .int .i64 x.f2, .int .i64 x.f3] := by
 obtain ⟨_, _, rfl, rfl, ⟨_, _, rfl, rfl, ⟨_, _, rfl, rfl, rfl⟩⟩⟩ := h
 exact rfl
theorem k60_openM {w : World} {base : Nat} {ok : Nat → Prop} {x : S60} {cs : List Value} (h : k60.M w base ok x cs) : cs = [.bool x.f0, .int .i64 x.f1, .int .i64 x.f2, .int .i64 x.f3] := by
 obtain ⟨_, _, rfl, rfl, ⟨_, _, rfl, rfl, ⟨_, _, rfl, rfl, rfl⟩⟩⟩ := h
 exact rfl
theorem k60_mkM (w : World) (base : Nat) (ok : Nat → Prop) (x : S60)  : k60.M w base ok x [.bool x.f0, .int .i64 x.f1, .int .i64 x.f2, .int .i64 x.f3] := ⟨[.bool x.f0], [.int .i64 x.f1, .int .i64 x.f2, .int .i64 x.f3], rfl, rfl, ⟨[.int .i64 x.f1], [.int .i64 x.f2, .int .i64 x.f3], rfl, rfl, ⟨[.int .i64 x.f2], [.int .i64 x.f3], rfl, rfl, rfl⟩⟩⟩
def zcb (xs : List S60) (i : Int) : S60 := xs.getD i.toNat z60
theorem at_T60 {w : World} {A : Option Addr} {n : Nat} {xs : List S60} (h : Kd.C k60 w A n xs) (i : Int) (h0 : 0 ≤ i) (h1 : i < n) : ∃ ad , A = some ad ∧ w.cell? (ad.add (i.toNat * 4)) = some (.bool (zcb xs i).f0) ∧ w.cell? ⟨(ad.add (i.toNat * 4)).block, (ad.add (i.toNat * 4)).off + 1, none⟩ = some (.int .i64 (zcb xs i).f1) ∧ w.cell? ⟨(ad.add (i.toNat * 4)).block, (ad.add (i.toNat * 4)).off + 2, none⟩ = some (.int .i64 (zcb xs i).f2) ∧ w.cell? ⟨(ad.add (i.toNat * 4)).block, (ad.add (i.toNat * 4)).off + 3, none⟩ = some (.int .i64 (zcb xs i).f3) := by
 obtain ⟨ad, c, e, _, hK, hc0⟩ := Kd.C_get h z60 i h0 h1
 have hc : ∀ j u, c[j]? = some u → w.cell? (ad.add (i.toNat * 4 + j)) = some u := hc0
 obtain rfl := k60_open hK
 exact ⟨ad, e, hc 0 _ rfl, by rw [← add_field _ _ 1 (by omega)]; exact hc 1 _ rfl, by rw [← add_field _ _ 2 (by omega)]; exact hc 2 _ rfl, by rw [← add_field _ _ 3 (by omega)]; exact hc 3 _ rfl⟩
end Go.Proofs.Ytoijjkhdfooapaa.NE
namespace Go.Proofs.Ytoijjkhdfooapaa.NE
open Go.Proofs.Ytoijjkhdfooapaa.PB Go.Proofs.Ytoijjkhdfooapaa.Hd Go.Proofs.Ytoijjkhdfooapaa.SM
open Go.RowKit Go.PW.PrintWords Go.PW.PrintLast Go.PW.PrintMore
attribute [local go_sem] zbw zbu zcj zci zbp zbo zbv zbt   -- for this text's walks alone
def laws_FnNear.j0 : Nat → List ByteArray → Int → Int → Bool → Bool → Bool → Option (Bool)
 | 0, _, _, _, _, _, _ => none
 | k + 1, x3, x4, x5, x6, x7, x35 => if x35 = true then (some (x6 == x7)) else ((impl_NearLength.f x3 x4 x5).bind fun bt404 => ((impl_NearWay.f x3 x4 x5).bind fun bt406 => (if bt404.2 = true then (if bt406.2 = true then (if bt404.1 ≥ 1 then (if bt406.1 = 1 then ((impl_NearIs.f x3 x5 x4).bind fun t408 => (some t408)) else (some false)) else (some false)) else (some false)) else (some false))))
def laws_FnNear.f (k : Nat) (l0 : List Int) : Option (Bool) := if (l0.length : Int) > 1048576 then (some true) else ((spec_DrawNearIs.f k l0).bind fun bt397 => ((impl_NearIs.f bt397.1 bt397.2.1 bt397.2.2).bind fun t402 => ((spec_NearIs.f k bt397.1 bt397.2.1 bt397.2.2).bind fun t403 => (if (t402 != t403) = true then (laws_FnNear.j0 k bt397.1 bt397.2.1 bt397.2.2 t402 t403 true) else (laws_FnNear.j0 k bt397.1 bt397.2.1 bt397.2.2 t402 t403 (!t402))))))
set_option maxHeartbeats 8000000 in
set_option maxRecDepth 100000 in
theorem laws_FnNear.calls (k : Nat) (A0 : Option Addr) (c0 : Nat) (l0 : List Int) (r : Bool) (w : World) (hr0 : Kd.C (Kd.int .u8) w A0 l0.length l0) (hc0 : l0.length ≤ c0) (h : laws_FnNear.f k l0 = some r) :
  Calls Try.prog 13 #[.slice A0 l0.length c0] w fun e w' => e = .returned (.bool r) ∧ Below w.heap.size w w' := by
 have HR0 := zaa.mk hr0
 have HC0 := zaa.mk hc0
 clear hr0 hc0
 have HB := zaa.mk (Below.refl w.heap.size w)
 have H : (if (l0.length : Int) > 1048576 then (some true) else ((spec_DrawNearIs.f k l0).bind fun bt397 => ((impl_NearIs.f bt397.1 bt397.2.1 bt397.2.2).bind fun t402 => ((spec_NearIs.f k bt397.1 bt397.2.1 bt397.2.2).bind fun t403 => (if (t402 != t403) = true then (laws_FnNear.j0 k bt397.1 bt397.2.1 bt397.2.2 t402 t403 true) else (laws_FnNear.j0 k bt397.1 bt397.2.1 bt397.2.2 t402 t403 (!t402))))))) = some r := h
 clear h
 by_cases c2 : (l0.length : Int) > 1048576
 ·rw [if_pos c2] at H
  have c2b0 : decide (1048576 < (l0.length : Int)) = true := decide_eq_true c2
  have c2b1 : decide (1048576 < l0.length) = true := decide_eq_true (by omega)
  clear c2
  obtain rfl := Option.some.inj H
  go_enter Try.func13, Try.ntmps13
  go_wp2
  go_ret
  exact ⟨by first | rfl | (simp [zan, zam] <;> rfl) | (simp [*, zan, zam] <;> rfl), by repeat (first | (with_reducible first | exact HB.out | apply zac | apply zab | apply zad) | exact HB.out)⟩
 ·rw [if_neg c2] at H
  have c2b0 : decide (1048576 < (l0.length : Int)) = false := decide_eq_false c2
  have c2b1 : decide (1048576 < l0.length) = false := decide_eq_false (by omega)
  clear c2
  replace H := Option.bind_eq_some_iff.mp H
  obtain ⟨⟨t397, t400, t401⟩, A30, H⟩ := H
  replace H : ((impl_NearIs.f t397 t400 t401).bind fun t402 => ((spec_NearIs.f k t397 t400 t401).bind fun t403 => (if (t402 != t403) = true then (laws_FnNear.j0 k t397 t400 t401 t402 t403 true) else (laws_FnNear.j0 k t397 t400 t401 t402 t403 (!t402))))) = some r := H
  have A3 := zaa.mk A30
  clear A30
  replace H := Option.bind_eq_some_iff.mp H
  obtain ⟨t402, A40, H⟩ := H
  replace H : ((spec_NearIs.f k t397 t400 t401).bind fun t403 => (if (t402 != t403) = true then (laws_FnNear.j0 k t397 t400 t401 t402 t403 true) else (laws_FnNear.j0 k t397 t400 t401 t402 t403 (!t402)))) = some r := H
  have A4 := zaa.mk A40
  clear A40
  replace H := Option.bind_eq_some_iff.mp H
  obtain ⟨t403, A50, H⟩ := H
  replace H : (if (t402 != t403) = true then (laws_FnNear.j0 k t397 t400 t401 t402 t403 true) else (laws_FnNear.j0 k t397 t400 t401 t402 t403 (!t402))) = some r := H
  have A5 := zaa.mk A50
  clear A50
  have HC6 := zaa.mk H
  clear H
  go_enter Try.func13, Try.ntmps13
  go_upto_region 6 with (first | ((with_reducible refine zal (f := 45) rfl ?_); refine zbb (some 17) rfl rfl Try.func45 (by kernel_rfl) rfl #[.slice A0 l0.length c0] rfl (by (try simp only [List.map_toArray, List.map_cons, List.map_nil]); first | done | rfl | (simp only [List.length_drop, List.length_take]; rfl)) ?_; (with_reducible refine (spec_DrawNearIs.calls k _ _ l0 t397 t400 t401 _ ?side1 ?side2 A3.out).mono ?_); (case side1 => repeat (first | exact HR0.out | (with_reducible refine Kd.C_alloc ?_ _) | (with_reducible refine Kd.C_drewN ?_ _) | (with_reducible refine Kd.C_drew ?_))); (case side2 => exact HC0.out); rintro e w7 ⟨v398, rfl, ho0, hb⟩; refine ⟨_, rfl, ?_⟩; have n0_ := zaa.mk (Kd.V_lower (Kd.V_mono (ok' := fun k_ => True) ho0 (fun k_ hk_ => trivial)) (zap (by repeat (first | (with_reducible first | exact HB.out | apply zac | apply zab | apply zad) | exact HB.out)))); have n1_ := zaa.mk (zaj (by repeat (first | (with_reducible first | exact HB.out | apply zac | apply zab | apply zad) | exact HB.out)) hb); clear HB; have HO399 := n0_; have HB := n1_; clear n0_ n1_; (try clear hb); (try clear hb2); (try clear hk); (try clear hi); (try clear ho0); obtain ⟨Ao8, co8, eo8⟩ := Kd.V_slice HO399.out; subst eo8) | ((with_reducible refine zal (f := 46) rfl ?_); refine zbb (some 24) rfl rfl Try.func46 (by kernel_rfl) rfl #[.slice Ao8 t397.length co8, .int .i64 t400, .int .i64 t401] rfl (by (try simp only [List.map_toArray, List.map_cons, List.map_nil]); first | done | rfl | (simp only [List.length_drop, List.length_take]; rfl)) ?_; (with_reducible refine (impl_NearIs.calls _ _ t397 t400 t401 t402 _ ?side1 ?side2 A4.out).mono ?_); (case side1 => repeat (first | exact (Kd.V_reads' HO399.out).2.2 | (with_reducible refine Kd.C_alloc ?_ _) | (with_reducible refine Kd.C_drewN ?_ _) | (with_reducible refine Kd.C_drew ?_))); (case side2 => exact (Kd.V_reads' HO399.out).2.1); rintro e w9 ⟨rfl, hb⟩; refine ⟨_, rfl, ?_⟩; have n0_ := zaa.mk (Kd.V_below (by (with_reducible repeat (first | apply Kd.V_alloc | apply Kd.V_drewN | apply Kd.V_drew)); exact HO399.out) hb); have n1_ := zaa.mk (zaj (by repeat (first | (with_reducible first | exact HB.out | apply zac | apply zab | apply zad) | exact HB.out)) hb); clear HO399; clear HB; have HO399 := n0_; have HB := n1_; clear n0_ n1_; (try clear hb); (try clear hb2); (try clear hk); (try clear hi)) | ((with_reducible refine zal (f := 47) rfl ?_); refine zbb (some 28) rfl rfl Try.func47 (by kernel_rfl) rfl #[.slice Ao8 t397.length co8, .int .i64 t400, .int .i64 t401] rfl (by (try simp only [List.map_toArray, List.map_cons, List.map_nil]); first | done | rfl | (simp only [List.length_drop, List.length_take]; rfl)) ?_; (with_reducible refine (spec_NearIs.calls k _ _ t397 t400 t401 t403 _ ?side1 ?side2 A5.out).mono ?_); (case side1 => repeat (first | exact (Kd.V_reads' HO399.out).2.2 | (with_reducible refine Kd.C_alloc ?_ _) | (with_reducible refine Kd.C_drewN ?_ _) | (with_reducible refine Kd.C_drew ?_))); (case side2 => exact (Kd.V_reads' HO399.out).2.1); rintro e w10 ⟨rfl, hb⟩; refine ⟨_, rfl, ?_⟩; have n0_ := zaa.mk (Kd.V_below (by (with_reducible repeat (first | apply Kd.V_alloc | apply Kd.V_drewN | apply Kd.V_drew)); exact HO399.out) hb); have n1_ := zaa.mk (zaj (by repeat (first | (with_reducible first | exact HB.out | apply zac | apply zab | apply zad) | exact HB.out)) hb); clear HO399; clear HB; have HO399 := n0_; have HB := n1_; clear n0_ n1_; (try clear hb); (try clear hb2); (try clear hk); (try clear hi)))
  (try simp only [Act.put, List.setIfInBounds_toArray, List.set_cons_zero, List.set_cons_succ])
  go_cut [35] (fun v35 wc => ∃ (kq : Nat) (x35_5 : Bool), v35 = .bool x35_5 ∧ zaa (laws_FnNear.j0 kq t397 t400 t401 t402 t403 x35_5 = some r) ∧ zaa (kq ≤ k) ∧ zaa (Kd.V Kd.string 9 wc w.heap.size (fun _ => True) (.slice Ao8 t397.length co8) t397) ∧ zaa (Below w.heap.size w wc))
  case first =>
   have H := HC6.out
   clear HC6
   by_cases c11 : (t402 != t403) = true
   ·rw [if_pos c11] at H
    have c11b0 : (t402 != t403) = true := c11
    (try (have c11b1 : decide (t402 = t403) = false := by simpa using c11))
    (try (have c11b2 : (t402 == t403) = false := by simpa using c11))
    (try (have c11b3 : ¬ (t402 = t403) := by simpa using c11))
    clear c11
    (first | rw [c11b0] | (simp only [zay, zba]; rw [c11b0]) | skip)
    have H' := zaa.mk H
    clear H
    go_wp2
    go_meet
    case rel => exact ⟨_, (true), (by first | rfl | (simp; done) | (simp [*]; done)), H', ⟨by first | omega | exact Nat.le_refl _⟩, ⟨by (with_reducible repeat (first | apply Kd.V_alloc | apply Kd.V_drewN | apply Kd.V_drew)); exact HO399.out⟩, ⟨by repeat (first | (with_reducible first | exact HB.out | apply zac | apply zab | apply zad) | exact HB.out)⟩⟩
   ·rw [if_neg c11] at H
    have c11b0 : (t402 != t403) = false := by simpa using c11
    (try (have c11b1 : decide (t402 = t403) = true := by simpa using c11))
    (try (have c11b2 : (t402 == t403) = true := by simpa using c11))
    clear c11
    (first | rw [c11b0] | (simp only [zay, zba]; rw [c11b0]) | skip)
    have H' := zaa.mk H
    clear H
    go_wp2
    go_meet
    case rel => exact ⟨_, (!t402), (by first | rfl | (simp; done) | (simp [*]; done)), H', ⟨by first | omega | exact Nat.le_refl _⟩, ⟨by (with_reducible repeat (first | apply Kd.V_alloc | apply Kd.V_drewN | apply Kd.V_drew)); exact HO399.out⟩, ⟨by repeat (first | (with_reducible first | exact HB.out | apply zac | apply zab | apply zad) | exact HB.out)⟩⟩
  case rest =>
   clear HC6
   try clear c1
   try clear c2
   try clear c2b0
   try clear c2b1
   try clear p2
   try clear c4
   try clear c11
   try clear c11b0
   try clear c11b1
   try clear c11b2
   obtain ⟨kq, x35_5, rfl, HA, HJ5, HO_3, HB⟩ := hcut
   cases kq with
   | zero => exact absurd HA.out (by simp [laws_FnNear.j0])
   | succ kj5 =>
    have H := HA.out
    clear HA
    simp only [laws_FnNear.j0] at H
    by_cases c12 : x35_5 = true
    ·subst c12
     have H1 : (some (t402 == t403)) = some r := by rw [if_pos rfl] at H; exact H
     clear H
     have H := H1
     clear H1
     obtain rfl := Option.some.inj H
     go_wp2
     go_ret
     exact ⟨by first | rfl | (simp [zan, zam] <;> rfl) | (simp [*, zan, zam] <;> rfl), by repeat (first | (with_reducible first | exact HB.out | apply zac | apply zab | apply zad) | exact HB.out)⟩
    ·replace c12 := Bool.eq_false_iff.mpr c12
     subst c12
     have H1 : ((impl_NearLength.f t397 t400 t401).bind fun bt404 => ((impl_NearWay.f t397 t400 t401).bind fun bt406 => (if bt404.2 = true then (if bt406.2 = true then (if bt404.1 ≥ 1 then (if bt406.1 = 1 then ((impl_NearIs.f t397 t401 t400).bind fun t408 => (some t408)) else (some false)) else (some false)) else (some false)) else (some false)))) = some r := by rw [if_neg (show ¬ (false = true) by decide)] at H; exact H
     clear H
     have H := H1
     clear H1
     replace H := Option.bind_eq_some_iff.mp H
     obtain ⟨⟨t404, t405⟩, A130, H⟩ := H
     replace H : ((impl_NearWay.f t397 t400 t401).bind fun bt406 => (if t405 = true then (if bt406.2 = true then (if t404 ≥ 1 then (if bt406.1 = 1 then ((impl_NearIs.f t397 t401 t400).bind fun t408 => (some t408)) else (some false)) else (some false)) else (some false)) else (some false))) = some r := H
     have A13 := zaa.mk A130
     clear A130
     replace H := Option.bind_eq_some_iff.mp H
     obtain ⟨⟨t406, t407⟩, A140, H⟩ := H
     replace H : (if t405 = true then (if t407 = true then (if t404 ≥ 1 then (if t406 = 1 then ((impl_NearIs.f t397 t401 t400).bind fun t408 => (some t408)) else (some false)) else (some false)) else (some false)) else (some false)) = some r := H
     have A14 := zaa.mk A140
     clear A140
     by_cases c15 : t405 = true
     ·subst c15
      have H1 : (if t407 = true then (if t404 ≥ 1 then (if t406 = 1 then ((impl_NearIs.f t397 t401 t400).bind fun t408 => (some t408)) else (some false)) else (some false)) else (some false)) = some r := by rw [if_pos rfl] at H; exact H
      clear H
      have H := H1
      clear H1
      by_cases c16 : t407 = true
      ·subst c16
       have H1 : (if t404 ≥ 1 then (if t406 = 1 then ((impl_NearIs.f t397 t401 t400).bind fun t408 => (some t408)) else (some false)) else (some false)) = some r := by rw [if_pos rfl] at H; exact H
       clear H
       have H := H1
       clear H1
       by_cases c17 : t404 ≥ 1
       ·rw [if_pos c17] at H
        have c17b0 : decide (1 ≤ t404) = true := decide_eq_true c17
        clear c17
        by_cases c18 : t406 = 1
        ·rw [if_pos c18] at H
         have c18b0 : (t406 == 1) = true := beq_iff_eq.mpr c18
         have c18b1 : (t406 != 1) = false := bne_eq_false_iff_eq.mpr c18
         clear c18
         replace H := Option.bind_eq_some_iff.mp H
         obtain ⟨t408, A190, H⟩ := H
         replace H : (some t408) = some r := H
         have A19 := zaa.mk A190
         clear A190
         obtain rfl := Option.some.inj H
         go_wp2_with (first | ((with_reducible refine zal (f := 48) rfl ?_); refine zbb (some 43) rfl rfl Try.func48 (by kernel_rfl) rfl #[.slice Ao8 t397.length co8, .int .i64 t400, .int .i64 t401] rfl (by (try simp only [List.map_toArray, List.map_cons, List.map_nil]); first | done | rfl | (simp only [List.length_drop, List.length_take]; rfl)) ?_; (with_reducible refine (impl_NearLength.calls _ _ t397 t400 t401 t404 true _ ?side1 ?side2 A13.out).mono ?_); (case side1 => repeat (first | exact (Kd.V_reads' HO_3.out).2.2 | (with_reducible refine Kd.C_alloc ?_ _) | (with_reducible refine Kd.C_drewN ?_ _) | (with_reducible refine Kd.C_drew ?_))); (case side2 => exact (Kd.V_reads' HO_3.out).2.1); rintro e w20 ⟨rfl, hb⟩; refine ⟨_, rfl, ?_⟩; have n0_ := zaa.mk (Kd.V_below (by (with_reducible repeat (first | apply Kd.V_alloc | apply Kd.V_drewN | apply Kd.V_drew)); exact HO_3.out) hb); have n1_ := zaa.mk (zaj (by repeat (first | (with_reducible first | exact HB.out | apply zac | apply zab | apply zad) | exact HB.out)) hb); clear HO_3; clear HB; have HO_3 := n0_; have HB := n1_; clear n0_ n1_; (try clear hb); (try clear hb2); (try clear hk); (try clear hi)) | ((with_reducible refine zal (f := 38) rfl ?_); refine zbb (some 50) rfl rfl Try.func38 (by kernel_rfl) rfl #[.slice Ao8 t397.length co8, .int .i64 t400, .int .i64 t401] rfl (by (try simp only [List.map_toArray, List.map_cons, List.map_nil]); first | done | rfl | (simp only [List.length_drop, List.length_take]; rfl)) ?_; (with_reducible refine (impl_NearWay.calls _ _ t397 t400 t401 t406 true _ ?side1 ?side2 A14.out).mono ?_); (case side1 => repeat (first | exact (Kd.V_reads' HO_3.out).2.2 | (with_reducible refine Kd.C_alloc ?_ _) | (with_reducible refine Kd.C_drewN ?_ _) | (with_reducible refine Kd.C_drew ?_))); (case side2 => exact (Kd.V_reads' HO_3.out).2.1); rintro e w21 ⟨rfl, hb⟩; refine ⟨_, rfl, ?_⟩; have n0_ := zaa.mk (Kd.V_below (by (with_reducible repeat (first | apply Kd.V_alloc | apply Kd.V_drewN | apply Kd.V_drew)); exact HO_3.out) hb); have n1_ := zaa.mk (zaj (by repeat (first | (with_reducible first | exact HB.out | apply zac | apply zab | apply zad) | exact HB.out)) hb); clear HO_3; clear HB; have HO_3 := n0_; have HB := n1_; clear n0_ n1_; (try clear hb); (try clear hb2); (try clear hk); (try clear hi)) | (go_at_call 46; (with_reducible refine (impl_NearIs.calls _ _ t397 t401 t400 t408 _ ?side1 ?side2 A19.out).mono ?_); (case side1 => repeat (first | exact (Kd.V_reads' HO_3.out).2.2 | (with_reducible refine Kd.C_alloc ?_ _) | (with_reducible refine Kd.C_drewN ?_ _) | (with_reducible refine Kd.C_drew ?_))); (case side2 => exact (Kd.V_reads' HO_3.out).2.1); rintro e w22 ⟨rfl, hb⟩; have n0_ := zaa.mk (Kd.V_below (by (with_reducible repeat (first | apply Kd.V_alloc | apply Kd.V_drewN | apply Kd.V_drew)); exact HO_3.out) hb); have n1_ := zaa.mk (zaj (by repeat (first | (with_reducible first | exact HB.out | apply zac | apply zab | apply zad) | exact HB.out)) hb); clear HO_3; clear HB; have HO_3 := n0_; have HB := n1_; clear n0_ n1_; (try clear hb); (try clear hb2); (try clear hk); (try clear hi)))
         go_ret
         exact ⟨by first | rfl | (simp [zan, zam] <;> rfl) | (simp [*, zan, zam] <;> rfl), by repeat (first | (with_reducible first | exact HB.out | apply zac | apply zab | apply zad) | exact HB.out)⟩
        ·rw [if_neg c18] at H
         have c18b0 : (t406 == 1) = false := beq_eq_false_iff_ne.mpr c18
         have c18b1 : (t406 != 1) = true := bne_iff_ne.mpr c18
         obtain rfl := Option.some.inj H
         go_wp2_with (first | ((with_reducible refine zal (f := 48) rfl ?_); refine zbb (some 43) rfl rfl Try.func48 (by kernel_rfl) rfl #[.slice Ao8 t397.length co8, .int .i64 t400, .int .i64 t401] rfl (by (try simp only [List.map_toArray, List.map_cons, List.map_nil]); first | done | rfl | (simp only [List.length_drop, List.length_take]; rfl)) ?_; (with_reducible refine (impl_NearLength.calls _ _ t397 t400 t401 t404 true _ ?side1 ?side2 A13.out).mono ?_); (case side1 => repeat (first | exact (Kd.V_reads' HO_3.out).2.2 | (with_reducible refine Kd.C_alloc ?_ _) | (with_reducible refine Kd.C_drewN ?_ _) | (with_reducible refine Kd.C_drew ?_))); (case side2 => exact (Kd.V_reads' HO_3.out).2.1); rintro e w23 ⟨rfl, hb⟩; refine ⟨_, rfl, ?_⟩; have n0_ := zaa.mk (Kd.V_below (by (with_reducible repeat (first | apply Kd.V_alloc | apply Kd.V_drewN | apply Kd.V_drew)); exact HO_3.out) hb); have n1_ := zaa.mk (zaj (by repeat (first | (with_reducible first | exact HB.out | apply zac | apply zab | apply zad) | exact HB.out)) hb); clear HO_3; clear HB; have HO_3 := n0_; have HB := n1_; clear n0_ n1_; (try clear hb); (try clear hb2); (try clear hk); (try clear hi)) | ((with_reducible refine zal (f := 38) rfl ?_); refine zbb (some 50) rfl rfl Try.func38 (by kernel_rfl) rfl #[.slice Ao8 t397.length co8, .int .i64 t400, .int .i64 t401] rfl (by (try simp only [List.map_toArray, List.map_cons, List.map_nil]); first | done | rfl | (simp only [List.length_drop, List.length_take]; rfl)) ?_; (with_reducible refine (impl_NearWay.calls _ _ t397 t400 t401 t406 true _ ?side1 ?side2 A14.out).mono ?_); (case side1 => repeat (first | exact (Kd.V_reads' HO_3.out).2.2 | (with_reducible refine Kd.C_alloc ?_ _) | (with_reducible refine Kd.C_drewN ?_ _) | (with_reducible refine Kd.C_drew ?_))); (case side2 => exact (Kd.V_reads' HO_3.out).2.1); rintro e w24 ⟨rfl, hb⟩; refine ⟨_, rfl, ?_⟩; have n0_ := zaa.mk (Kd.V_below (by (with_reducible repeat (first | apply Kd.V_alloc | apply Kd.V_drewN | apply Kd.V_drew)); exact HO_3.out) hb); have n1_ := zaa.mk (zaj (by repeat (first | (with_reducible first | exact HB.out | apply zac | apply zab | apply zad) | exact HB.out)) hb); clear HO_3; clear HB; have HO_3 := n0_; have HB := n1_; clear n0_ n1_; (try clear hb); (try clear hb2); (try clear hk); (try clear hi)))
         go_ret
         exact ⟨by first | rfl | (simp [zan, zam] <;> rfl) | (simp [*, zan, zam] <;> rfl), by repeat (first | (with_reducible first | exact HB.out | apply zac | apply zab | apply zad) | exact HB.out)⟩
       ·rw [if_neg c17] at H
        have c17b0 : decide (1 ≤ t404) = false := decide_eq_false c17
        clear c17
        obtain rfl := Option.some.inj H
        go_wp2_with (first | ((with_reducible refine zal (f := 48) rfl ?_); refine zbb (some 43) rfl rfl Try.func48 (by kernel_rfl) rfl #[.slice Ao8 t397.length co8, .int .i64 t400, .int .i64 t401] rfl (by (try simp only [List.map_toArray, List.map_cons, List.map_nil]); first | done | rfl | (simp only [List.length_drop, List.length_take]; rfl)) ?_; (with_reducible refine (impl_NearLength.calls _ _ t397 t400 t401 t404 true _ ?side1 ?side2 A13.out).mono ?_); (case side1 => repeat (first | exact (Kd.V_reads' HO_3.out).2.2 | (with_reducible refine Kd.C_alloc ?_ _) | (with_reducible refine Kd.C_drewN ?_ _) | (with_reducible refine Kd.C_drew ?_))); (case side2 => exact (Kd.V_reads' HO_3.out).2.1); rintro e w25 ⟨rfl, hb⟩; refine ⟨_, rfl, ?_⟩; have n0_ := zaa.mk (Kd.V_below (by (with_reducible repeat (first | apply Kd.V_alloc | apply Kd.V_drewN | apply Kd.V_drew)); exact HO_3.out) hb); have n1_ := zaa.mk (zaj (by repeat (first | (with_reducible first | exact HB.out | apply zac | apply zab | apply zad) | exact HB.out)) hb); clear HO_3; clear HB; have HO_3 := n0_; have HB := n1_; clear n0_ n1_; (try clear hb); (try clear hb2); (try clear hk); (try clear hi)) | ((with_reducible refine zal (f := 38) rfl ?_); refine zbb (some 50) rfl rfl Try.func38 (by kernel_rfl) rfl #[.slice Ao8 t397.length co8, .int .i64 t400, .int .i64 t401] rfl (by (try simp only [List.map_toArray, List.map_cons, List.map_nil]); first | done | rfl | (simp only [List.length_drop, List.length_take]; rfl)) ?_; (with_reducible refine (impl_NearWay.calls _ _ t397 t400 t401 t406 true _ ?side1 ?side2 A14.out).mono ?_); (case side1 => repeat (first | exact (Kd.V_reads' HO_3.out).2.2 | (with_reducible refine Kd.C_alloc ?_ _) | (with_reducible refine Kd.C_drewN ?_ _) | (with_reducible refine Kd.C_drew ?_))); (case side2 => exact (Kd.V_reads' HO_3.out).2.1); rintro e w26 ⟨rfl, hb⟩; refine ⟨_, rfl, ?_⟩; have n0_ := zaa.mk (Kd.V_below (by (with_reducible repeat (first | apply Kd.V_alloc | apply Kd.V_drewN | apply Kd.V_drew)); exact HO_3.out) hb); have n1_ := zaa.mk (zaj (by repeat (first | (with_reducible first | exact HB.out | apply zac | apply zab | apply zad) | exact HB.out)) hb); clear HO_3; clear HB; have HO_3 := n0_; have HB := n1_; clear n0_ n1_; (try clear hb); (try clear hb2); (try clear hk); (try clear hi)))
        go_ret
        exact ⟨by first | rfl | (simp [zan, zam] <;> rfl) | (simp [*, zan, zam] <;> rfl), by repeat (first | (with_reducible first | exact HB.out | apply zac | apply zab | apply zad) | exact HB.out)⟩
      ·replace c16 := Bool.eq_false_iff.mpr c16
       subst c16
       have H1 : (some false) = some r := by rw [if_neg (show ¬ (false = true) by decide)] at H; exact H
       clear H
       have H := H1
       clear H1
       obtain rfl := Option.some.inj H
       go_wp2_with (first | ((with_reducible refine zal (f := 48) rfl ?_); refine zbb (some 43) rfl rfl Try.func48 (by kernel_rfl) rfl #[.slice Ao8 t397.length co8, .int .i64 t400, .int .i64 t401] rfl (by (try simp only [List.map_toArray, List.map_cons, List.map_nil]); first | done | rfl | (simp only [List.length_drop, List.length_take]; rfl)) ?_; (with_reducible refine (impl_NearLength.calls _ _ t397 t400 t401 t404 true _ ?side1 ?side2 A13.out).mono ?_); (case side1 => repeat (first | exact (Kd.V_reads' HO_3.out).2.2 | (with_reducible refine Kd.C_alloc ?_ _) | (with_reducible refine Kd.C_drewN ?_ _) | (with_reducible refine Kd.C_drew ?_))); (case side2 => exact (Kd.V_reads' HO_3.out).2.1); rintro e w27 ⟨rfl, hb⟩; refine ⟨_, rfl, ?_⟩; have n0_ := zaa.mk (Kd.V_below (by (with_reducible repeat (first | apply Kd.V_alloc | apply Kd.V_drewN | apply Kd.V_drew)); exact HO_3.out) hb); have n1_ := zaa.mk (zaj (by repeat (first | (with_reducible first | exact HB.out | apply zac | apply zab | apply zad) | exact HB.out)) hb); clear HO_3; clear HB; have HO_3 := n0_; have HB := n1_; clear n0_ n1_; (try clear hb); (try clear hb2); (try clear hk); (try clear hi)) | ((with_reducible refine zal (f := 38) rfl ?_); refine zbb (some 50) rfl rfl Try.func38 (by kernel_rfl) rfl #[.slice Ao8 t397.length co8, .int .i64 t400, .int .i64 t401] rfl (by (try simp only [List.map_toArray, List.map_cons, List.map_nil]); first | done | rfl | (simp only [List.length_drop, List.length_take]; rfl)) ?_; (with_reducible refine (impl_NearWay.calls _ _ t397 t400 t401 t406 false _ ?side1 ?side2 A14.out).mono ?_); (case side1 => repeat (first | exact (Kd.V_reads' HO_3.out).2.2 | (with_reducible refine Kd.C_alloc ?_ _) | (with_reducible refine Kd.C_drewN ?_ _) | (with_reducible refine Kd.C_drew ?_))); (case side2 => exact (Kd.V_reads' HO_3.out).2.1); rintro e w28 ⟨rfl, hb⟩; refine ⟨_, rfl, ?_⟩; have n0_ := zaa.mk (Kd.V_below (by (with_reducible repeat (first | apply Kd.V_alloc | apply Kd.V_drewN | apply Kd.V_drew)); exact HO_3.out) hb); have n1_ := zaa.mk (zaj (by repeat (first | (with_reducible first | exact HB.out | apply zac | apply zab | apply zad) | exact HB.out)) hb); clear HO_3; clear HB; have HO_3 := n0_; have HB := n1_; clear n0_ n1_; (try clear hb); (try clear hb2); (try clear hk); (try clear hi)))
       go_ret
       exact ⟨by first | rfl | (simp [zan, zam] <;> rfl) | (simp [*, zan, zam] <;> rfl), by repeat (first | (with_reducible first | exact HB.out | apply zac | apply zab | apply zad) | exact HB.out)⟩
     ·replace c15 := Bool.eq_false_iff.mpr c15
      subst c15
      have H1 : (some false) = some r := by rw [if_neg (show ¬ (false = true) by decide)] at H; exact H
      clear H
      have H := H1
      clear H1
      obtain rfl := Option.some.inj H
      go_wp2_with (first | ((with_reducible refine zal (f := 48) rfl ?_); refine zbb (some 43) rfl rfl Try.func48 (by kernel_rfl) rfl #[.slice Ao8 t397.length co8, .int .i64 t400, .int .i64 t401] rfl (by (try simp only [List.map_toArray, List.map_cons, List.map_nil]); first | done | rfl | (simp only [List.length_drop, List.length_take]; rfl)) ?_; (with_reducible refine (impl_NearLength.calls _ _ t397 t400 t401 t404 false _ ?side1 ?side2 A13.out).mono ?_); (case side1 => repeat (first | exact (Kd.V_reads' HO_3.out).2.2 | (with_reducible refine Kd.C_alloc ?_ _) | (with_reducible refine Kd.C_drewN ?_ _) | (with_reducible refine Kd.C_drew ?_))); (case side2 => exact (Kd.V_reads' HO_3.out).2.1); rintro e w29 ⟨rfl, hb⟩; refine ⟨_, rfl, ?_⟩; have n0_ := zaa.mk (Kd.V_below (by (with_reducible repeat (first | apply Kd.V_alloc | apply Kd.V_drewN | apply Kd.V_drew)); exact HO_3.out) hb); have n1_ := zaa.mk (zaj (by repeat (first | (with_reducible first | exact HB.out | apply zac | apply zab | apply zad) | exact HB.out)) hb); clear HO_3; clear HB; have HO_3 := n0_; have HB := n1_; clear n0_ n1_; (try clear hb); (try clear hb2); (try clear hk); (try clear hi)) | ((with_reducible refine zal (f := 38) rfl ?_); refine zbb (some 50) rfl rfl Try.func38 (by kernel_rfl) rfl #[.slice Ao8 t397.length co8, .int .i64 t400, .int .i64 t401] rfl (by (try simp only [List.map_toArray, List.map_cons, List.map_nil]); first | done | rfl | (simp only [List.length_drop, List.length_take]; rfl)) ?_; (with_reducible refine (impl_NearWay.calls _ _ t397 t400 t401 t406 t407 _ ?side1 ?side2 A14.out).mono ?_); (case side1 => repeat (first | exact (Kd.V_reads' HO_3.out).2.2 | (with_reducible refine Kd.C_alloc ?_ _) | (with_reducible refine Kd.C_drewN ?_ _) | (with_reducible refine Kd.C_drew ?_))); (case side2 => exact (Kd.V_reads' HO_3.out).2.1); rintro e w30 ⟨rfl, hb⟩; refine ⟨_, rfl, ?_⟩; have n0_ := zaa.mk (Kd.V_below (by (with_reducible repeat (first | apply Kd.V_alloc | apply Kd.V_drewN | apply Kd.V_drew)); exact HO_3.out) hb); have n1_ := zaa.mk (zaj (by repeat (first | (with_reducible first | exact HB.out | apply zac | apply zab | apply zad) | exact HB.out)) hb); clear HO_3; clear HB; have HO_3 := n0_; have HB := n1_; clear n0_ n1_; (try clear hb); (try clear hb2); (try clear hk); (try clear hi)))
      go_ret
      exact ⟨by first | rfl | (simp [zan, zam] <;> rfl) | (simp [*, zan, zam] <;> rfl), by repeat (first | (with_reducible first | exact HB.out | apply zac | apply zab | apply zad) | exact HB.out)⟩
def laws_FnNear.Pure : Prop := ∀ (l0 : List Int), l0.length ≤ maxLen → l0.length * 1 ≤ 140737488351232 → (∀ x ∈ l0, (Lit.int .u8 x).wf = true) → ∃ k, laws_FnNear.f k l0 = some true
theorem laws_FnNear.walk (P : laws_FnNear.Pure) (a0 : Option Addr) (len0 cap0 : Nat) (z0 : List Int) (w : World) (w0 : (a0 = none ∧ len0 = 0 ∧ cap0 = 0 ∧ z0 = []) ∨ ∃ x, a0 = some x ∧ len0 ≤ cap0 ∧ cap0 ≤ maxLen ∧ z0.length = cap0 ∧ (∀ i, i < z0.length → w.cell? (x.add i) = some (.int .u8 (z0.getD i 0))) ∧ ∀ n ∈ z0, (Lit.int .u8 n).wf = true) (y0 : len0 * 1 ≤ 140737488351232) :
  Calls Try.prog 13 #[.slice a0 len0 cap0] w fun e w' => e = .returned (.bool true) ∧ Below w.heap.size w w' := by
 obtain ⟨l0, rfl, hr0, hm0, hw0, hc0⟩ := zcd.ofRowC w0
 obtain ⟨k, h⟩ := P l0 hm0 y0 hw0
 refine (laws_FnNear.calls k _ _ l0 true w (Kd.C_of_reads (d := (0 : Int)) (h1 := fun _ => rfl) hr0) hc0 h).mono ?_
 rintro e w' ⟨rfl, hd⟩
 exact ⟨rfl, hd⟩
end Go.Proofs.Ytoijjkhdfooapaa.NE
namespace Go.Proofs.Ytoijjkhdfooapaa.Hd
open Go.RowKit Go.PW.PrintWords Go.PW.PrintLast Go.PW.PrintMore Go.Proofs.Ytoijjkhdfooapaa.PB
structure Lil (p : List ByteArray) : Prop where
 high : p.length ≤ 100
 row : ∀ s ∈ p, s.size ≤ 100
theorem Lil.small {p : List ByteArray} (h : Lil p) : smallP p := ⟨by have := h.high; omega, fun s hs => by have := h.row s hs; omega⟩
theorem Mid.lil {p : List ByteArray} {wi : Nat} (h : Mid p wi) : Lil p := ⟨h.high, fun s hs => by rw [h.row s hs]; exact h.wide⟩
theorem bt_range (s : ByteArray) (j : Nat) (hj : j < s.size) : 0 ≤ bt s (j : Int) ∧ bt s (j : Int) ≤ 255 := by
 obtain ⟨x, hx⟩ : ∃ x, (bytesOf s)[j]? = some x := ⟨_, List.getElem?_eq_getElem (by rw [zbg]; omega)⟩
 have hr := bytesOf_range s x (List.mem_of_getElem? hx)
 rw [← bt_get hx] at hr
 exact hr
theorem roomsA_l1 (p : List ByteArray) (h : Lil p) (i : Nat) (s : ByteArray) (hs : p[i]? = some s) (hnext : ∀ v, 0 ≤ v → v ≤ 255 → ∃ r, 0 ≤ r ∧ r ≤ 255 ∧ Evs (fun k => spec_l1Rooms.l0 k p v ((i + 1 : Nat) : Int)) r) :
  ∀ m j v, j + m = s.size → 0 ≤ v → v ≤ 255 → ∃ r, 0 ≤ r ∧ r ≤ 255 ∧ Evs (fun k => spec_l1Rooms.l1 k p v (i : Int) (j : Int)) r := by
 have h6 := h.high
 have w6 := h.row s (List.mem_of_getElem? hs)
 have hi := (List.getElem?_eq_some_iff.1 hs).1
 intro m
 induction m with
 | zero =>
  intro j v hj v0 v1
  obtain ⟨r, r0, r1, hr⟩ := hnext v v0 v1
  refine ⟨r, r0, r1, Evs.step (fun k => ?_) hr⟩
  conv => lhs; unfold spec_l1Rooms.l1
  rw [if_pos (by omega), if_pos (by omega), zco hs, if_neg (by omega), zbj (by omega)]
 | succ m ih =>
  intro j v hj v0 v1
  have hb := bt_range s j (by omega)
  obtain ⟨r, r0, r1, hr⟩ := ih (j + 1) (max v (bt s (j : Int) - 97 + 1)) (by omega) (by omega) (by omega)
  refine ⟨r, r0, r1, Evs.step (fun k => ?_) hr⟩
  conv => lhs; unfold spec_l1Rooms.l1
  rw [if_pos (by omega), if_pos (by omega), zco hs, if_pos (by omega), if_pos (by omega), zar (x := bt s (j : Int)) (by omega) (by omega), zar (x := bt s (j : Int) - 97) (by omega) (by omega), zar (x := bt s (j : Int) - 97 + 1) (by omega) (by omega), zbj (by omega), mx_max]
theorem roomsA_l0 (p : List ByteArray) (h : Lil p) : ∀ m i v, i + m = p.length → 0 ≤ v → v ≤ 255 → ∃ r, 0 ≤ r ∧ r ≤ 255 ∧ Evs (fun k => spec_l1Rooms.l0 k p v (i : Int)) r := by
 have h6 := h.high
 intro m
 induction m with
 | zero =>
  intro i v hi v0 v1
  refine ⟨v, v0, v1, Evs.step (h := fun _ => some v) (fun k => ?_) (Evs.const _)⟩
  conv => lhs; unfold spec_l1Rooms.l0
  rw [if_neg (by omega)]
 | succ m ih =>
  intro i v hi v0 v1
  obtain ⟨s, hs⟩ : ∃ s, p[i]? = some s := ⟨_, List.getElem?_eq_getElem (by omega)⟩
  obtain ⟨r, r0, r1, hr⟩ := roomsA_l1 p h i s hs (fun v v0 v1 => ih (i + 1) v (by omega) v0 v1) s.size 0 v (by omega) v0 v1
  refine ⟨r, r0, r1, Evs.step (fun k => ?_) hr⟩
  conv => lhs; unfold spec_l1Rooms.l0
  rw [if_pos (by omega)]
  rfl
theorem l1Rooms_any (p : List ByteArray) (h : Lil p) : ∃ r, 0 ≤ r ∧ r ≤ 255 ∧ Evs (fun k => spec_l1Rooms.f k p) r := roomsA_l0 p h p.length 0 0 (by omega) (by omega) (by omega)
theorem bytesOf_putS (s : ByteArray) (l n : Nat) (c : Int) (h0 : 0 ≤ c) (h1 : c ≤ 255) : bytesOf (putS s l n c) = putN (bytesOf s) l n c := by
 unfold putS
 refine bytesOf_strOfNums _ fun x hx => ?_
 unfold putN at hx
 obtain ⟨i, hi, e⟩ := List.mem_iff_getElem.1 hx
 rw [List.getElem_mapIdx] at e
 subst e
 split
 ·exact ⟨h0, h1⟩
 ·exact bytesOf_range s _ (List.getElem_mem _)
def putB (t l h m : Nat) (r c : Nat) : Prop := (t ≤ r ∧ r < t + h) ∧ (l ≤ c ∧ c < l + m)
instance (t l h m r c : Nat) : Decidable (putB t l h m r c) := by unfold putB; exact inferInstance
theorem numsOf_put {p : List ByteArray} {wi : Nat} (hs : Small p wi) (t l h m : Nat) (x : Int) (h0 : 0 ≤ x) (h1 : x ≤ 255) : zao (putR p t h l m x) = zbk p.length wi (fun r c => if putB t l h m r c then x else zbd (zao p) r c) := by
 apply List.ext_getElem?
 intro r
 by_cases hr : r < p.length
 ·rw [gridOf_get hr]
  unfold zao putR
  rw [List.getElem?_map, List.getElem?_mapIdx, List.getElem?_eq_getElem hr]
  simp only [Option.map_some]
  congr 1
  have hsz := hs.row _ (List.getElem_mem hr)
  have hrow : ∀ c, c < wi → (bytesOf p[r])[c]? = some (zbd (zao p) r c) := fun c hc => by
   obtain ⟨row, e1, e2⟩ := valAt_get hs.rect (by rw [zbq]; exact hr) hc
   unfold zao at e1
   rw [List.getElem?_map, List.getElem?_eq_getElem hr] at e1
   have e1 := Option.some.inj e1
   rw [e1]
   exact e2
  apply List.ext_getElem?
  intro c
  by_cases hc : c < wi
  ·rw [List.getElem?_map, List.getElem?_range hc]
   simp only [Option.map_some]
   by_cases ht : t ≤ r ∧ r < t + h
   ·rw [if_pos ht, bytesOf_putS _ _ _ _ h0 h1]
    unfold putN
    rw [List.getElem?_mapIdx, hrow c hc]
    simp only [Option.map_some]
    congr 1
    by_cases hl : l ≤ c ∧ c < l + m
    ·rw [if_pos hl, if_pos ⟨ht, hl⟩]
    ·rw [if_neg hl, if_neg (fun z => hl z.2)]; rfl
   ·rw [if_neg ht, if_neg (fun z => ht z.1)]
    exact hrow c hc
  ·rw [List.getElem?_eq_none (by
    split
    ·rw [bytesOf_putS _ _ _ _ h0 h1, putN_length, zbg]; omega
    ·rw [zbg]; omega), List.getElem?_eq_none (by simp; omega)]
 ·rw [List.getElem?_eq_none (by simp [zao, putR]; omega), List.getElem?_eq_none (by rw [zbe]; omega)]
theorem put_f {p : List ByteArray} {wi : Nat} (hs : Small p wi) (t l h m x : Int) (t0 : 0 ≤ t) (l0 : 0 ≤ l) (h0 : 0 ≤ h) (m0 : 0 ≤ m) (th : t + h ≤ p.length) (lm : l + m ≤ wi) (x0 : 0 ≤ x) (x1 : x ≤ 255) : spec_l1Put.f p t l h m x = some (putR p t.toNat h.toNat l.toNat m.toNat x) := by
 have hh := hs.high
 have hw := hs.wide
 have hall : (p.all fun s => decide (l + m ≤ s.size) && decide (s.size ≤ 1048576)) = true := by
  rw [List.all_eq_true]
  intro s hss
  rw [hs.row s hss, decide_eq_true lm, decide_eq_true (show wi ≤ 1048576 by omega)]
  rfl
 unfold spec_l1Put.f
 rw [if_pos]
 unfold putOk
 rw [hall, decide_eq_true t0, decide_eq_true l0, decide_eq_true h0, decide_eq_true m0, decide_eq_true x0, decide_eq_true x1, decide_eq_true (show p.length ≤ 1048576 by omega), decide_eq_true th, decide_eq_true (show l ≤ 1048576 by omega), decide_eq_true (show m ≤ 1048576 by omega)]
 rfl
theorem small_put {p : List ByteArray} {wi : Nat} (hs : Small p wi) (t h l m : Nat) (x : Int) : smallP (putR p t h l m x) := by
 have hh := hs.high
 have hw := hs.wide
 refine ⟨by rw [putR_length]; omega, fun s hss => ?_⟩
 unfold putR at hss
 obtain ⟨i, hi, e⟩ := List.mem_iff_getElem.1 hss
 rw [List.length_mapIdx] at hi
 rw [List.getElem_mapIdx] at e
 have hr := hs.row _ (List.getElem_mem hi)
 subst e
 split
 ·have hl := zbg p[i]
  show (List.map _ (putN (bytesOf p[i]) l m x)).toArray.size ≤ _
  simp [putN_length]
  omega
 ·rw [hr]; omega
theorem put_done {p : List ByteArray} {cs : List (List Int)} {rs : List Rc} (F : PlanFacts p cs rs) (t h l m : Nat) (x : Int) (x0 : 97 ≤ x) (x1 : x ≤ 122) (f : Int → Int) (hf : ∀ S, InjOn f S) (g : Nat → Nat → Int) (hg : ∀ r c, r < cs.length → c < zaq cs → f (g r c) = if putB t l h m r c then x else 97 + zbd cs r c) : doneF (putR p t h l m x) = planF (zbk cs.length (zaq cs) g) := by
 have hsm := gridOk_small F.canon.grid
 rw [F.wide] at hsm
 have hn := numsOf_put hsm t l h m x (by omega) (by omega)
 have hv : zao (putR p t h l m x) = mapG f (zbk cs.length (zaq cs) g) := by
  rw [hn, mapG_gridOf, F.len]
  refine gridOf_congr fun r c hr hc => ?_
  rw [hg r c hr hc, F.nums, valAt_map F.ok.rect _ hr hc]
 have hok : (putR p t h l m x).all okText = true := by
  rw [List.all_eq_true]
  intro s hs
  refine okText_of fun y hy => ?_
  have hm : bytesOf s ∈ zao (putR p t h l m x) := List.mem_map.2 ⟨s, hs, rfl⟩
  rw [hn, F.len] at hm
  unfold zbk at hm
  obtain ⟨i, hi, e⟩ := List.mem_map.1 hm
  rw [← e] at hy
  obtain ⟨j, hj, rfl⟩ := List.mem_map.1 hy
  have hi := List.mem_range.1 hi
  have hj := List.mem_range.1 hj
  have h1 := valAt_range F.ok i j hi hj
  have h2 := F.ok.many
  dsimp only
  rw [F.nums, valAt_map F.ok.rect _ hi hj]
  split <;> omega
 unfold doneF
 rw [if_pos hok, hv]
 exact plan_map (hf _)
def isH (letter : ByteArray) : Bool := letter.toList == [104]
def isV (letter : ByteArray) : Bool := letter.toList == [118]
theorem isHV {letter : ByteArray} (h : isH letter = true) : isV letter = false := by
 unfold isH at h
 unfold isV
 rw [beq_iff_eq] at h
 rw [h]
 rfl
def behindB (b : Rc) (letter : ByteArray) (k : Int) (r c : Nat) : Bool := (isH letter && decide (b.f0 + k ≤ r)) || (isV letter && decide (b.f1 + k ≤ c))
def splitG (cs : List (List Int)) (rs : List Rc) (room : Int) (letter : ByteArray) (k : Int) (r c : Nat) : Int :=
 if zbd cs r c = room ∧ behindB (rs.getD room.toNat zch) letter k r c = true then rs.length else zbd cs r c
def splitF (p : List ByteArray) (room : Int) (letter : ByteArray) (k : Int) : List ByteArray × Bool := match zcg p with
 | none => ([], false)
 | some (cs, rs) =>
  if hasB rs room && (isH letter || isV letter) then
   if 1 ≤ k ∧ k < (if isH letter then (rs.getD room.toNat zch).f2 else (rs.getD room.toNat zch).f3) then planF (zbk cs.length (zaq cs) (splitG cs rs room letter k)) else ([], false)
  else ([], false)
end Go.Proofs.Ytoijjkhdfooapaa.Hd
namespace Go.Proofs.Ytoijjkhdfooapaa.Hd
open Go.RowKit Go.PW.PrintWords Go.PW.PrintLast Go.PW.PrintMore Go.Proofs.Ytoijjkhdfooapaa.PB Go.Proofs.Ytoijjkhdfooapaa.SM
theorem isH_iff (t : ByteArray) : isH t = true ↔ t.toList = ([104] : List UInt8) := by unfold isH; rw [beq_iff_eq]
theorem isV_iff (t : ByteArray) : isV t = true ↔ t.toList = ([118] : List UInt8) := by unfold isV; rw [beq_iff_eq]
def newName (n : Nat) (x : Int) : Int := if x = n then 122 else if x = 25 then 97 + n else 97 + x
theorem newName_inj (n : Nat) (S : Int → Prop) : InjOn (newName n) S := by
 intro a b _ _ e
 unfold newName at e
 by_cases h1 : a = n <;> by_cases h2 : a = 25 <;> by_cases h3 : b = n <;> by_cases h4 : b = 25 <;> simp only [h1, h2, h3, h4, if_true, if_false] at e <;> omega
theorem split_j1_false (p : List ByteArray) (k a b c d : Int) : Evs (fun q => spec_PlanSplit.j1 q p k a b c d false) ([], false) := by
 refine Evs.step (h := fun _ => some ([], false)) (fun q => ?_) (Evs.const _)
 show spec_PlanSplit.j1 (q + 1) p k a b c d false = _
 simp only [spec_PlanSplit.j1, Bool.false_eq_true, if_false, l1None_f, Option.bind_some]
theorem split_j0_none (p : List ByteArray) (t : ByteArray) (hV : isV t = false) (k a b c d : Int) : Evs (fun q => spec_PlanSplit.j0 q p t k a b c d false) ([], false) := by
 have hv : ¬ t.toList = ([118] : List UInt8) := fun h => by rw [(isV_iff t).2 h] at hV; cases hV
 refine Evs.step (h := fun q => spec_PlanSplit.j1 q p k a b c d false) (fun q => ?_) (split_j1_false p k a b c d)
 show spec_PlanSplit.j0 (q + 1) p t k a b c d false = _
 simp only [spec_PlanSplit.j0, Bool.false_eq_true, if_false, if_neg hv]
theorem split_none {p : List ByteArray} (a : Int) (t : ByteArray) (k : Int) : Evs (fun q => if (false = true) then ((spec_l1Room.f q p a).bind fun bt205 => (if t.toList = ([104] : List UInt8) then ((spec_l6In.f k 1 (wrap64 (bt205.2.2.1 - 1))).bind fun t209 => (spec_PlanSplit.j0 q p t k bt205.1 bt205.2.1 bt205.2.2.1 bt205.2.2.2 t209)) else (spec_PlanSplit.j0 q p t k bt205.1 bt205.2.1 bt205.2.2.1 bt205.2.2.2 false))) else ((spec_l1None.f).bind fun bt201 => (some (bt201.1, bt201.2)))) ([], false) := by
 refine Evs.congr (h := fun _ => some ([], false)) (fun q => ?_) (Evs.const _)
 rw [if_neg (by simp), l1None_f]
 rfl
theorem split_val {p : List ByteArray} {cs : List (List Int)} {rs : List Rc} (F : PlanFacts p cs rs) (room : Int) (t : ByteArray) (k : Int) (T H L M : Nat) (hcell : ∀ r c, r < cs.length → c < zaq cs → ((zbd cs r c = room ∧ behindB (rs.getD room.toNat zch) t k r c = true) ↔ putB T L H M r c)) :
  doneF (putR p T H L M 122) = planF (zbk cs.length (zaq cs) (splitG cs rs room t k)) := by
 have h9 := F.ok.many
 refine put_done F T H L M 122 (by omega) (by omega) (newName rs.length) (newName_inj rs.length) (splitG cs rs room t k) (fun r c hr hc => ?_)
 have hc2 := hcell r c hr hc
 have hv := valAt_range F.ok r c hr hc
 unfold splitG
 by_cases h : zbd cs r c = room ∧ behindB (rs.getD room.toNat zch) t k r c = true
 ·rw [if_pos h, if_pos (hc2.1 h)]
  unfold newName
  rw [if_pos rfl]
 ·rw [if_neg h, if_neg (fun z => h (hc2.2 z))]
  unfold newName
  rw [if_neg (by omega), if_neg (by omega)]
theorem PlanSplit_ev (p : List ByteArray) (a : Int) (t : ByteArray) (k : Int) (hp : smallP p) : Evs (fun q => spec_PlanSplit.f q p a t k) (splitF p a t k) := by
 have ha := l1Given_ev p a hp
 cases hF : zcg p with
 | none =>
  have e1 : givenB p a = false := by unfold givenB; rw [hF]
  have e2 : splitF p a t k = ([], false) := by unfold splitF; rw [hF]
  rw [e1] at ha
  rw [e2]
  exact Evs.bind ha (split_none a t k)
 | some z =>
  obtain ⟨cs, rs⟩ := z
  have e1 : givenB p a = hasB rs a := by unfold givenB; rw [hF]
  have e2 : splitF p a t k = if hasB rs a && (isH t || isV t) then
   if 1 ≤ k ∧ k < (if isH t then (rs.getD a.toNat zch).f2 else (rs.getD a.toNat zch).f3) then planF (zbk cs.length (zaq cs) (splitG cs rs a t k)) else ([], false)
   else ([], false) := by unfold splitF; rw [hF]
  rw [e1] at ha
  rw [e2]
  cases hA : hasB rs a with
  | false =>
   rw [hA] at ha
   exact Evs.bind ha (split_none a t k)
  | true =>
   rw [hA] at ha
   have F := floor_facts hF
   have hsm := gridOk_small F.canon.grid
   have hL := F.ok.many
   have o1 := F.ok.h1
   have o6 := F.ok.h6
   have q1 := F.len
   unfold hasB at hA
   rw [Bool.and_eq_true, decide_eq_true_eq, decide_eq_true_eq] at hA
   obtain ⟨i, rfl⟩ := Int.eq_ofNat_of_zero_le hA.1
   have hi : i < rs.length := by omega
   have hR := l1Room_ev p _ hsm (by omega) (i : Int)
   obtain ⟨c1, c2, c3⟩ := F.canon.room i (by rw [← F.rooms]; exact hi)
   rw [← F.rooms] at c1 c3
   rw [c1] at hR
   have hcell := room_cells hF i hi
   obtain ⟨b1, b2, b3, b4, b5, b6⟩ := c3
   have w6 := hsm.wide
   rw [F.wide] at b6 w6
   rw [F.wide] at hsm
   rw [Int.toNat_natCast]
   have hvalue := fun T H L M h => split_val F (i : Int) t k T H L M h
   rw [Int.toNat_natCast] at hvalue
   unfold behindB at hvalue
   generalize rs.getD i zch = bx at *
   refine Evs.bind ha ?_
   refine Evs.congr (h := fun q => (spec_l1Room.f q p (i : Int)).bind fun bt205 => (if t.toList = ([104] : List UInt8) then ((spec_l6In.f k 1 (wrap64 (bt205.2.2.1 - 1))).bind fun t209 => (spec_PlanSplit.j0 q p t k bt205.1 bt205.2.1 bt205.2.2.1 bt205.2.2.2 t209)) else (spec_PlanSplit.j0 q p t k bt205.1 bt205.2.1 bt205.2.2.1 bt205.2.2.2 false))) (fun q => by rw [if_pos rfl]) (Evs.bind hR ?_)
   dsimp only
   cases hH : isH t with
   | true =>
    have hV := isHV hH
    rw [hV] at hvalue
    refine Evs.pos ((isH_iff t).1 hH) ?_
    rw [zar (x := bx.f2 - 1) (by omega) (by omega)]
    refine Evs.bindS (l6In_f k 1 (bx.f2 - 1)) ?_
    simp only [Bool.true_or, Bool.and_self, if_true]
    by_cases hk : 1 ≤ k ∧ k < bx.f2
    ·rw [if_pos hk, show (decide (1 ≤ k) && decide (k ≤ bx.f2 - 1)) = true by rw [Bool.and_eq_true, decide_eq_true_eq, decide_eq_true_eq]; omega]
     have hput := put_f hsm (bx.f0 + k) bx.f1 (bx.f2 - k) bx.f3 122 (by omega) b2 (by omega) (by omega) (by omega) b6 (by omega) (by omega)
     have hd := hvalue (bx.f0 + k).toNat (bx.f2 - k).toNat bx.f1.toNat bx.f3.toNat (fun r c hr hc => by
      have hc2 := hcell r c hr hc
      rw [hc2, hH]
      simp only [Bool.true_and, Bool.false_and, Bool.or_false, decide_eq_true_eq]
      unfold putB
      omega)
     have hdn := l1Done_ev _ (small_put hsm (bx.f0 + k).toNat (bx.f2 - k).toNat bx.f1.toNat bx.f3.toNat 122)
     rw [hd] at hdn
     refine Evs.step (h := fun q => (spec_l1Put.f p (wrap64 (bx.f0 + k)) bx.f1 (wrap64 (bx.f2 - k)) bx.f3 122).bind fun t210 => ((spec_l1Done.f q t210).bind fun bt213 => (some (bt213.1, bt213.2)))) (fun q => ?_) ?_
     ·show spec_PlanSplit.j0 (q + 1) p t k bx.f0 bx.f1 bx.f2 bx.f3 true = _
      simp only [spec_PlanSplit.j0, if_true]
     ·rw [zar (x := bx.f0 + k) (by omega) (by omega), zar (x := bx.f2 - k) (by omega) (by omega), hput]
      simp only [Option.bind_some]
      exact Evs.bind hdn (Evs.const _)
    ·rw [if_neg hk, show (decide (1 ≤ k) && decide (k ≤ bx.f2 - 1)) = false by rw [← Bool.not_eq_true, Bool.and_eq_true, decide_eq_true_eq, decide_eq_true_eq]; omega]
     exact split_j0_none p t hV k _ _ _ _
   | false =>
    have hnh : ¬ t.toList = ([104] : List UInt8) := fun h => by rw [(isH_iff t).2 h] at hH; cases hH
    refine Evs.neg hnh ?_
    cases hV : isV t with
    | false =>
     simp only [Bool.false_or, Bool.and_false, Bool.false_eq_true, if_false]
     exact split_j0_none p t hV k _ _ _ _
    | true =>
     rw [hV] at hvalue
     simp only [Bool.false_or, Bool.and_self, if_true, Bool.false_eq_true, if_false]
     refine Evs.step (h := fun q => (spec_l6In.f k 1 (wrap64 (bx.f3 - 1))).bind fun t217 => (spec_PlanSplit.j1 q p k bx.f0 bx.f1 bx.f2 bx.f3 t217)) (fun q => ?_) ?_
     ·show spec_PlanSplit.j0 (q + 1) p t k bx.f0 bx.f1 bx.f2 bx.f3 false = _
      simp only [spec_PlanSplit.j0, Bool.false_eq_true, if_false, if_pos ((isV_iff t).1 hV)]
     rw [zar (x := bx.f3 - 1) (by omega) (by omega)]
     refine Evs.bindS (l6In_f k 1 (bx.f3 - 1)) ?_
     by_cases hk : 1 ≤ k ∧ k < bx.f3
     ·rw [if_pos hk, show (decide (1 ≤ k) && decide (k ≤ bx.f3 - 1)) = true by rw [Bool.and_eq_true, decide_eq_true_eq, decide_eq_true_eq]; omega]
      have hput := put_f hsm bx.f0 (bx.f1 + k) bx.f2 (bx.f3 - k) 122 b1 (by omega) (by omega) (by omega) b5 (by omega) (by omega) (by omega)
      have hd := hvalue bx.f0.toNat bx.f2.toNat (bx.f1 + k).toNat (bx.f3 - k).toNat (fun r c hr hc => by
       have hc2 := hcell r c hr hc
       rw [hc2, hH]
       simp only [Bool.true_and, Bool.false_and, Bool.false_or, decide_eq_true_eq]
       unfold putB
       omega)
      have hdn := l1Done_ev _ (small_put hsm bx.f0.toNat bx.f2.toNat (bx.f1 + k).toNat (bx.f3 - k).toNat 122)
      rw [hd] at hdn
      refine Evs.step (h := fun q => (spec_l1Put.f p bx.f0 (wrap64 (bx.f1 + k)) bx.f2 (wrap64 (bx.f3 - k)) 122).bind fun t218 => ((spec_l1Done.f q t218).bind fun bt221 => (some (bt221.1, bt221.2)))) (fun q => ?_) ?_
      ·show spec_PlanSplit.j1 (q + 1) p k bx.f0 bx.f1 bx.f2 bx.f3 true = _
       simp only [spec_PlanSplit.j1, if_true]
      ·rw [zar (x := bx.f1 + k) (by omega) (by omega), zar (x := bx.f3 - k) (by omega) (by omega), hput]
       simp only [Option.bind_some]
       exact Evs.bind hdn (Evs.const _)
     ·rw [if_neg hk, show (decide (1 ≤ k) && decide (k ≤ bx.f3 - 1)) = false by rw [← Bool.not_eq_true, Bool.and_eq_true, decide_eq_true_eq, decide_eq_true_eq]; omega]
      exact split_j1_false p k _ _ _ _
end Go.Proofs.Ytoijjkhdfooapaa.Hd
namespace Go.Proofs.Ytoijjkhdfooapaa.Hd
open Go.RowKit Go.PW.PrintWords Go.PW.PrintLast Go.PW.PrintMore Go.Proofs.Ytoijjkhdfooapaa.PB
def Conv (hi wi : Nat) (g : Nat → Nat → Int) : Prop := ∀ r c r' c' i j, r < hi → c < wi → r' < hi → c' < wi → g r c = g r' c' → min r r' ≤ i → i ≤ max r r' → min c c' ≤ j → j ≤ max c c' → g i j = g r c
def ConvG (rows : List (List Int)) : Prop := Conv rows.length (zaq rows) (zbd rows)
theorem Conv.congr {hi wi : Nat} {g g' : Nat → Nat → Int} (h : Conv hi wi g) (e : ∀ r c, r < hi → c < wi → g r c = g' r c) : Conv hi wi g' := by
 intro r c r' c' i j h1 h2 h3 h4 hv k1 k2 k3 k4
 rw [← e i j (by omega) (by omega), ← e r c h1 h2]
 exact h r c r' c' i j h1 h2 h3 h4 (by rw [e r c h1 h2, e r' c' h3 h4]; exact hv) k1 k2 k3 k4
theorem Conv.map {hi wi : Nat} {g : Nat → Nat → Int} (h : Conv hi wi g) (f : Int → Int) (hf : ∀ r c r' c', r < hi → c < wi → r' < hi → c' < wi → f (g r c) = f (g r' c') → g r c = g r' c') : Conv hi wi (fun r c => f (g r c)) := by
 intro r c r' c' i j h1 h2 h3 h4 hv k1 k2 k3 k4
 show f _ = f _
 rw [h r c r' c' i j h1 h2 h3 h4 (hf _ _ _ _ h1 h2 h3 h4 hv) k1 k2 k3 k4]
theorem names_canon {rows : List (List Int)} (hs : zbs rows = true) (h9 : (zax rows).length ≤ 9) : Canon (zbx (canon rows)) := by
 have hn := names_nums hs
 have hinj := names_inj rows
 have hL := rooms_len hs
 refine ⟨?_, ?_⟩
 ·unfold gridOk
  rw [Bool.and_eq_true, hn, mapG_shape]
  refine ⟨hs, ?_⟩
  rw [List.all_eq_true]
  intro s hss
  obtain ⟨r, hr, rfl⟩ := List.mem_map.1 hss
  unfold okText
  rw [bytesOf_rowText r (canon_val hs r hr), List.all_eq_true]
  intro x hx
  obtain ⟨y, hy, rfl⟩ := List.mem_map.1 hx
  unfold canon canonL at hr
  obtain ⟨r0, hr0, rfl⟩ := List.mem_map.1 hr
  obtain ⟨z, hz, rfl⟩ := List.mem_map.1 hy
  have h3 : (zby rows).idxOf z < (zby rows).length := List.idxOf_lt_length_of_mem (ordL_mem rows.flatten [] z (List.mem_flatten.2 ⟨r0, hr0, hz⟩))
  simp only [okLetter, Bool.not_eq_true', Bool.or_eq_false_iff, decide_eq_false_iff_not]
  omega
 ·unfold namesOf
  rw [hn, canon_map hinj]
theorem text_length (rows : List (List Int)) : (zbx (canon rows)).length = rows.length := by simp [zbx, canon, canonL]
theorem canon_length (rows : List (List Int)) : (canon rows).length = rows.length := by simp [canon, canonL]
theorem names_floor {rows : List (List Int)} (hs : zbs rows = true) (h9 : (zax rows).length ≤ 9) : zcg (zbx (canon rows)) = if zbz (zax rows) = (rows.length : Int) * (zaq rows : Int) then some (canon rows, zax rows) else none := by
 have hC := names_canon hs h9
 have hn := names_nums hs
 have hinj := names_inj rows
 rw [floorF_grid hC.grid, hn, rooms_map hs hinj, mapG_wide, text_length, canon_map hinj]
 by_cases h : zbz (zax rows) = (rows.length : Int) * (zaq rows : Int)
 ·rw [if_pos h, if_pos ⟨h9, h, hC.names⟩]
 ·rw [if_neg h, if_neg (fun z => h z.2.1)]
theorem canon_wide (rows : List (List Int)) : zaq (canon rows) = zaq rows := by
 unfold zaq canon canonL
 cases rows with
 | nil => rfl
 | cons a r => simp
theorem canon_at {rows : List (List Int)} (hs : zbs rows = true) {r c : Nat} (hr : r < rows.length) (hc : c < zaq rows) : zbd (canon rows) r c = ((zby rows).idxOf (zbd rows r c) : Int) := by
 have e := congrArg (fun R => zbd R r c) (rect_map (zcr hs) (fun x => ((zby rows).idxOf x : Int)))
 exact Eq.trans e (valAt_gridOf hr hc)
theorem idxOf_inj {L : List Int} {x y : Int} (hx : x ∈ L) (hy : y ∈ L) (e : L.idxOf x = L.idxOf y) : x = y := by
 have h1 := List.idxOf_lt_length_of_mem hx
 have h2 := List.idxOf_lt_length_of_mem hy
 have e1 : L[L.idxOf x] = x := List.getElem_idxOf h1
 have e2 : L[L.idxOf y] = y := List.getElem_idxOf h2
 rw [← e1, ← e2]
 congr 1
theorem val_ord {rows : List (List Int)} (hs : zbs rows = true) {r c : Nat} (hr : r < rows.length) (hc : c < zaq rows) : zbd rows r c ∈ zby rows := ordL_mem rows.flatten [] _ (val_mem (zcr hs) hr hc)
theorem canon_eq_iff {rows : List (List Int)} (hs : zbs rows = true) {r c r' c' : Nat} (hr : r < rows.length) (hc : c < zaq rows) (hr' : r' < rows.length) (hc' : c' < zaq rows) : zbd (canon rows) r c = zbd (canon rows) r' c' ↔ zbd rows r c = zbd rows r' c' := by
 rw [canon_at hs hr hc, canon_at hs hr' hc']
 constructor
 ·exact fun h => idxOf_inj (val_ord hs hr hc) (val_ord hs hr' hc') (by omega)
 ·intro h
  rw [h]
theorem conv_canon {rows : List (List Int)} (hs : zbs rows = true) : ConvG (canon rows) ↔ ConvG rows := by
 unfold ConvG
 rw [canon_length, canon_wide]
 constructor
 ·intro h r c r' c' i j h1 h2 h3 h4 hv k1 k2 k3 k4
  exact (canon_eq_iff hs (by omega) (by omega) h1 h2).1 (h r c r' c' i j h1 h2 h3 h4 ((canon_eq_iff hs h1 h2 h3 h4).2 hv) k1 k2 k3 k4)
 ·intro h r c r' c' i j h1 h2 h3 h4 hv k1 k2 k3 k4
  exact (canon_eq_iff hs (by omega) (by omega) h1 h2).2 (h r c r' c' i j h1 h2 h3 h4 ((canon_eq_iff hs h1 h2 h3 h4).1 hv) k1 k2 k3 k4)
theorem countN_conv (rows : List (List Int)) (wi : Nat) (x : Int) (b : Rc) : ∀ n, (∀ m, m < n → (zcp rows wi m = x ↔ inBox b wi m)) → zcl rows wi x n = countB b wi n
 | 0, _ => rfl
 | n + 1, h => by
  have ih := countN_conv rows wi x b n (fun m hm => h m (by omega))
  simp only [zcl, countB]
  by_cases hx : zcp rows wi n = x
  ·rw [if_pos hx, if_pos ((h n (by omega)).1 hx), ih]
  ·rw [if_neg hx, if_neg (fun z => hx ((h n (by omega)).2 z)), ih]
theorem conv_sum {rows : List (List Int)} (hs : zbs rows = true) (h9 : (zax rows).length ≤ 9) : zbz (zax rows) = (rows.length : Int) * (zaq rows : Int) ↔ ConvG rows := by
 have hfl := names_floor hs h9
 constructor
 ·intro h
  rw [if_pos h] at hfl
  have F := floor_facts hfl
  rw [← conv_canon hs]
  intro r c r' c' i j h1 h2 h3 h4 hv k1 k2 k3 k4
  have hv1 := valAt_range F.ok r c h1 h2
  obtain ⟨q, hq⟩ := Int.eq_ofNat_of_zero_le hv1.1
  have hq2 : q < (zax rows).length := by omega
  have hc := fun r c hr hc => room_cells hfl q hq2 r c hr hc
  have a1 := (hc r c h1 h2).1 hq
  have a2 := (hc r' c' h3 h4).1 (by rw [← hv]; exact hq)
  rw [hq]
  exact (hc i j (by omega) (by omega)).2 (by omega)
 ·intro h
  have hC := names_canon hs h9
  have hn := names_nums hs
  have hinj := names_inj rows
  have hiff := full_iff hC
  rw [hn, rooms_map hs hinj, mapG_wide, text_length] at hiff
  have hall : (List.range (zax rows).length).all (fullB (zbx (canon rows))) = true := by
   rw [List.all_eq_true]
   intro x hx
   have hx := List.mem_range.1 hx
   unfold fullB
   rw [decide_eq_true_eq, hn, rooms_map hs hinj, mapG_wide, text_length]
   obtain ⟨v, hv, hb, hbd⟩ := rooms_box hs x hx
   rw [← countB_all _ _ _ hbd]
   obtain ⟨s1, s2, s3, s4, s5⟩ := (zck _).1 hs
   have hR := zcr hs
   refine countN_conv _ _ _ _ _ fun m hm => ?_
   have hr : m / zaq rows < rows.length := by rw [Nat.div_lt_iff_lt_mul (by omega)]; exact hm
   have hc := Nat.mod_lt m (show 0 < zaq rows by omega)
   have hcell : zcp (mapG (fun x => 97 + ((zby rows).idxOf x : Int)) rows) (zaq rows) m = ((zby rows).idxOf (zbd rows (m / zaq rows) (m % zaq rows)) : Int) := by
    unfold zcp
    rw [valAt_map hR _ hr hc]
    omega
   rw [hcell, idx_iff (ordAll_nodup rows) hv (val_ord hs hr hc)]
   constructor
   ·exact fun h => hb.ins m hm h
   ·intro hin
    obtain ⟨i1, i2, i3, i4⟩ := hin
    obtain ⟨mt, nt, vt, et⟩ := hb.top
    obtain ⟨ml, nl, vl, el⟩ := hb.left
    obtain ⟨mw, nw, vw, ew⟩ := hb.low
    obtain ⟨mr, nr, vr, er⟩ := hb.right
    have rr : ∀ m, m < rows.length * zaq rows → m / zaq rows < rows.length ∧ m % zaq rows < zaq rows := fun m hm => ⟨by rw [Nat.div_lt_iff_lt_mul (by omega)]; exact hm, Nat.mod_lt m (by omega)⟩
    obtain ⟨t1, t2⟩ := rr mt nt
    obtain ⟨l1, l2⟩ := rr ml nl
    obtain ⟨w1, w2⟩ := rr mw nw
    obtain ⟨r1, r2⟩ := rr mr nr
    have gt := hb.ins mt nt vt
    have gl := hb.ins ml nl vl
    have gw := hb.ins mw nw vw
    have gr := hb.ins mr nr vr
    generalize hbx : (zax rows).getD x zch = bx at *
    -- the upper left and the lower right corner
    have c1 := h (mt / zaq rows) (mt % zaq rows) (ml / zaq rows) (ml % zaq rows) (mt / zaq rows) (ml % zaq rows) t1 t2 l1 l2 (vt.trans vl.symm) (by omega) (by omega) (by omega) (by omega)
    have c2 := h (mw / zaq rows) (mw % zaq rows) (mr / zaq rows) (mr % zaq rows) (mw / zaq rows) (mr % zaq rows) w1 w2 r1 r2 (vw.trans vr.symm) (by omega) (by omega) (by omega) (by omega)
    have c3 := h (mt / zaq rows) (ml % zaq rows) (mw / zaq rows) (mr % zaq rows) (m / zaq rows) (m % zaq rows) t1 l2 w1 r2 (by rw [c1, c2, vt, vw]) (by omega) (by omega) (by omega) (by omega)
    rw [c3, c1, vt]
  rw [hall] at hiff
  exact of_decide_eq_true hiff.symm
structure OkG (rows : List (List Int)) : Prop where
 shape : zbs rows = true
 many : (zby rows).length ≤ 9
 conv : ConvG rows
theorem OkG.plan {rows : List (List Int)} (h : OkG rows) : planF rows = (zbx (canon rows), true) := by
 have h9 : (zax rows).length ≤ 9 := by rw [← rooms_len h.shape]; exact h.many
 rw [planF_shape h.shape, if_pos ⟨h9, (conv_sum h.shape h9).2 h.conv⟩]
theorem OkG.floor {rows : List (List Int)} (h : OkG rows) : zcg (zbx (canon rows)) = some (canon rows, zax rows) := by
 have h9 : (zax rows).length ≤ 9 := by rw [← rooms_len h.shape]; exact h.many
 rw [names_floor h.shape h9, if_pos ((conv_sum h.shape h9).2 h.conv)]
theorem planF_cases (rows : List (List Int)) : (OkG rows ∧ planF rows = (zbx (canon rows), true)) ∨ (¬ OkG rows ∧ planF rows = ([], false)) := by
 by_cases h : OkG rows
 ·exact .inl ⟨h, h.plan⟩
 ·refine .inr ⟨h, ?_⟩
  cases hs : zbs rows with
  | false => exact planF_noshape hs
  | true =>
   rw [planF_shape hs]
   by_cases hc : (zax rows).length ≤ 9 ∧ zbz (zax rows) = (rows.length : Int) * (zaq rows : Int)
   ·exact absurd ⟨hs, by rw [rooms_len hs]; exact hc.1, (conv_sum hs hc.1).1 hc.2⟩ h
   ·rw [if_neg hc]
theorem floor_shape {cs : List (List Int)} {rs : List Rc} (h : FloorOk cs rs) : zbs cs = true := (zck _).2 ⟨h.h1, h.h6, h.w1, h.w6, h.rect⟩
theorem add_inj (a : Int) (S : Int → Prop) : InjOn (fun x => a + x) S := fun x y _ _ e => by have : a + x = a + y := e; omega
theorem floor_okG {p : List ByteArray} {cs : List (List Int)} {rs : List Rc} (h : zcg p = some (cs, rs)) : OkG cs ∧ canon cs = cs ∧ rs = zax cs ∧ p = zbx cs := by
 have F := floor_facts h
 have hs := floor_shape F.ok
 have e1 : canon cs = cs := by
  have e2 : canon (mapG (fun x => 97 + x) cs) = canon cs := canon_map (add_inj 97 _)
  rw [← F.nums, ← F.cells] at e2
  exact e2.symm
 have e2 : rs = zax cs := by rw [F.rooms, F.nums, rooms_map hs (add_inj 97 _)]
 have h9 : (zax cs).length ≤ 9 := by rw [← e2]; exact F.ok.many
 have hsum := floor_sum h
 rw [F.wide, F.len, e2] at hsum
 exact ⟨⟨hs, by rw [rooms_len hs]; exact h9, (conv_sum hs h9).1 hsum⟩, e1, e2, F.text⟩
end Go.Proofs.Ytoijjkhdfooapaa.Hd
namespace Go.Proofs.Ytoijjkhdfooapaa.Hd
open Go.RowKit Go.PW.PrintWords Go.PW.PrintLast Go.PW.PrintMore Go.Proofs.Ytoijjkhdfooapaa.PB Go.Proofs.Ytoijjkhdfooapaa.SM
theorem xor_nonneg {a b : Int} (ha : 0 ≤ a) (hb : 0 ≤ b) (ha' : a < 1099511627776) (hb' : b < 1099511627776) : 0 ≤ Go.bits .xor .i64 a b := by
 obtain ⟨x, rfl⟩ := Int.eq_ofNat_of_zero_le ha
 obtain ⟨y, rfl⟩ := Int.eq_ofNat_of_zero_le hb
 have hx : x < 2 ^ 40 := by omega
 have hy : y < 2 ^ 40 := by omega
 have h := Nat.xor_lt_two_pow hx hy
 simp only [Go.bits, BitVec.ofInt_natCast, BitVec.toNat_xor, BitVec.toNat_ofNat]
 rw [Nat.mod_eq_of_lt (show x < 2 ^ IntKind.i64.bits by show x < 2 ^ 64; omega), Nat.mod_eq_of_lt (show y < 2 ^ IntKind.i64.bits by show y < 2 ^ 64; omega), IntKind.wrap_i64]
 omega
theorem tmod_in {x n : Int} (hx : 0 ≤ x) (hn : 1 ≤ n) : 0 ≤ Int.tmod x n ∧ Int.tmod x n < n := ⟨Int.tmod_nonneg _ hx, Int.tmod_lt_of_pos _ (by omega)⟩
structure RdB (b : List Int) : Prop where
 len : b.length ≤ 2000
 val : ∀ x ∈ b, 0 ≤ x ∧ x ≤ 255
theorem RdB.byte {b : List Int} (h : RdB b) (i : Int) : 0 ≤ rd b i ∧ rd b i ≤ 255 := by
 unfold rd
 rw [List.getD_eq_getElem?_getD]
 cases e : b[i.toNat]? with
 | none => simp
 | some x => exact h.val x (List.mem_of_getElem? e)
theorem pick_j0_true (b : List Int) (q n : Int) : Evs (fun k => spec_l6Rd_pick.j0 k n true b q) (0, q) := by
 refine Evs.step (h := fun _ => some (0, q)) (fun k => ?_) (Evs.const _)
 show spec_l6Rd_pick.j0 (k + 1) n true b q = _
 simp only [spec_l6Rd_pick.j0, if_true]
theorem pick_ev (b : List Int) (h : RdB b) (q : Nat) (hq : q ≤ 1000000) (n : Int) : ∃ v, Evs (fun k => spec_l6Rd_pick.f k b (q : Int) n) (v, ((q + 1 : Nat) : Int)) ∧ 0 ≤ v ∧ (1 ≤ n → v < n) ∧ (n < 1 → v = 0) := by
 have hw : wrap64 ((q : Int) + 1) = ((q + 1 : Nat) : Int) := by rw [zar (by omega) (by omega)]; omega
 by_cases hn : n < 1
 ·refine ⟨0, ?_, Int.le_refl _, fun h => by omega, fun _ => rfl⟩
  refine Evs.congr (fun k => ?_) (pick_j0_true b ((q + 1 : Nat) : Int) n)
  unfold spec_l6Rd_pick.f
  rw [if_pos hn, hw]
 ·by_cases hl : b.length = 0
  ·refine ⟨0, ?_, Int.le_refl _, fun h => by omega, fun h => absurd h hn⟩
   refine Evs.congr (fun k => ?_) (pick_j0_true b ((q + 1 : Nat) : Int) n)
   unfold spec_l6Rd_pick.f
   rw [if_neg hn, hw, show ((b.length : Int) == 0) = true by rw [beq_iff_eq]; omega]
  ·have hlen := h.len
   have e1 : wrap64 (((q + 1 : Nat) : Int) - 1) = (q : Int) := by rw [zar (by omega) (by omega)]; omega
   have main : ∃ v, (∀ k, spec_l6Rd_pick.j0 (k + 1) n false b ((q + 1 : Nat) : Int) = some (v, ((q + 1 : Nat) : Int))) ∧ 0 ≤ v ∧ v < n := by
    by_cases hql : (q : Int) < (b.length : Int)
    ·have hr := h.byte (q : Int)
     obtain ⟨t0, t1⟩ := tmod_in (x := rd b (q : Int)) (n := n) hr.1 (by omega)
     refine ⟨Int.tmod (rd b (q : Int)) n, fun k => ?_, t0, t1⟩
     simp only [spec_l6Rd_pick.j0, Bool.false_eq_true, if_false]
     rw [e1, if_pos hql, if_pos (by omega), if_neg (by omega), zar (x := rd b (q : Int)) (by omega) (by omega)]
    ·have i1 := tmod_in (x := (q : Int)) (n := (b.length : Int)) (by omega) (by omega)
     have e2 : wrap64 (wrap64 ((q : Int) * 7) + 3) = (q : Int) * 7 + 3 := by rw [zar (x := (q : Int) * 7) (by omega) (by omega), zar (by omega) (by omega)]
     have i2 := tmod_in (x := (q : Int) * 7 + 3) (n := (b.length : Int)) (by omega) (by omega)
     have r1 := h.byte (Int.tmod (q : Int) (b.length : Int))
     have r2 := h.byte (Int.tmod ((q : Int) * 7 + 3) (b.length : Int))
     have d1 : 0 ≤ Int.tdiv (q : Int) (b.length : Int) ∧ Int.tdiv (q : Int) (b.length : Int) ≤ 1000000 := by
      rw [Int.tdiv_eq_ediv_of_nonneg (by omega)]
      refine ⟨Int.ediv_nonneg (by omega) (by omega), Int.le_trans (Int.ediv_le_self _ (by omega)) (by omega)⟩
     have key : ∃ v, (∀ k, spec_l6Rd_pick.j0 (k + 1) n false b ((q + 1 : Nat) : Int) = some (v, ((q + 1 : Nat) : Int))) ∧ 0 ≤ v ∧ v < n := by
      have hform : ∀ k, spec_l6Rd_pick.j0 (k + 1) n false b ((q + 1 : Nat) : Int) = some (Int.tmod (Go.bits .xor .i64 (rd b (Int.tmod (q : Int) (b.length : Int)) * 131 + rd b (Int.tmod ((q : Int) * 7 + 3) (b.length : Int)) * 1117 + (q : Int) * 29 + Int.tdiv (q : Int) (b.length : Int) * 53) (wrap64 (Int.tdiv (rd b (Int.tmod (q : Int) (b.length : Int)) * 131 + rd b (Int.tmod ((q : Int) * 7 + 3) (b.length : Int)) * 1117 + (q : Int) * 29 + Int.tdiv (q : Int) (b.length : Int) * 53) 64))) n, ((q + 1 : Nat) : Int)) := fun k => by
       simp only [spec_l6Rd_pick.j0, Bool.false_eq_true, if_false]
       rw [e1, if_neg hql, if_neg (by omega), if_pos i1.1, if_pos i1.2, e2, if_pos i2.1, if_pos i2.2, if_neg (by omega)]
       generalize rd b (Int.tmod (q : Int) (b.length : Int)) = a at *
       generalize rd b (Int.tmod ((q : Int) * 7 + 3) (b.length : Int)) = c at *
       generalize Int.tdiv (q : Int) (b.length : Int) = d at *
       rw [zar (x := a) (by omega) (by omega), zar (x := a * 131) (by omega) (by omega), zar (x := c) (by omega) (by omega), zar (x := c * 1117) (by omega) (by omega), zar (x := a * 131 + c * 1117) (by omega) (by omega), zar (x := (q : Int) * 29) (by omega) (by omega), zar (x := a * 131 + c * 1117 + (q : Int) * 29) (by omega) (by omega), zar (x := d) (by omega) (by omega), zar (x := d * 53) (by omega) (by omega), zar (x := a * 131 + c * 1117 + (q : Int) * 29 + d * 53) (by omega) (by omega)]
      have hX : 0 ≤ rd b (Int.tmod (q : Int) (b.length : Int)) * 131 + rd b (Int.tmod ((q : Int) * 7 + 3) (b.length : Int)) * 1117 + (q : Int) * 29 + Int.tdiv (q : Int) (b.length : Int) * 53 ∧ rd b (Int.tmod (q : Int) (b.length : Int)) * 131 + rd b (Int.tmod ((q : Int) * 7 + 3) (b.length : Int)) * 1117 + (q : Int) * 29 + Int.tdiv (q : Int) (b.length : Int) * 53 < 1099511627776 := by omega
      generalize rd b (Int.tmod (q : Int) (b.length : Int)) * 131 + rd b (Int.tmod ((q : Int) * 7 + 3) (b.length : Int)) * 1117 + (q : Int) * 29 + Int.tdiv (q : Int) (b.length : Int) * 53 = X at *
      have hd : 0 ≤ Int.tdiv X 64 ∧ Int.tdiv X 64 ≤ X := by
       rw [Int.tdiv_eq_ediv_of_nonneg hX.1]
       exact ⟨Int.ediv_nonneg hX.1 (by omega), Int.ediv_le_self _ hX.1⟩
      rw [zar (x := Int.tdiv X 64) (by omega) (by omega)] at hform
      obtain ⟨t0, t1⟩ := tmod_in (n := n) (xor_nonneg hX.1 hd.1 hX.2 (by omega)) (by omega)
      exact ⟨_, hform, t0, t1⟩
     exact key
   obtain ⟨v, hv, v0, v1⟩ := main
   refine ⟨v, ?_, v0, fun _ => v1, fun h => absurd h hn⟩
   refine Evs.congr (h := fun k => spec_l6Rd_pick.j0 k n false b ((q + 1 : Nat) : Int)) (fun k => ?_) (Evs.step (h := fun _ => some (v, ((q + 1 : Nat) : Int))) hv (Evs.const _))
   unfold spec_l6Rd_pick.f
   rw [if_neg hn, hw, show ((b.length : Int) == 0) = false by rw [beq_eq_false_iff_ne]; omega]
theorem of_ev (b : List Int) (h : RdB b) (q : Nat) (hq : q ≤ 1000000) (L : List ByteArray) (hL : 1 ≤ L.length) : ∃ s, Evs (fun k => spec_l6Rd_of.f k b (q : Int) L) (s, ((q + 1 : Nat) : Int)) ∧ s ∈ L := by
 obtain ⟨v, hv, v0, v1, -⟩ := pick_ev b h q hq (L.length : Int)
 have hv1 := v1 (by omega)
 obtain ⟨i, rfl⟩ := Int.eq_ofNat_of_zero_le v0
 refine ⟨rdOf ByteArray.empty L (i : Int), Evs.bind hv (Evs.pos (by omega) (Evs.pos hv1 (Evs.const _))), ?_⟩
 rw [rdOf_get L i (by omega)]
 exact List.getElem_mem _
theorem open_ev (l : List Int) (hv : ∀ x ∈ l, 0 ≤ x ∧ x ≤ 255) : ∃ b, spec_l6Open.f l = some (b, 0) ∧ RdB b := by
 unfold spec_l6Open.f
 by_cases h : (l.length : Int) > 2000
 ·rw [if_pos h, if_pos (by omega)]
  exact ⟨_, rfl, by simp; omega, fun x hx => hv x (List.mem_of_mem_take hx)⟩
 ·rw [if_neg h]
  exact ⟨_, rfl, by omega, hv⟩
theorem empty_l1 (n m : Nat) (hm : m ≤ 100) (i : Nat) (hi : i ≤ 100) (x5 : List ByteArray) (h5 : x5.length ≤ 100) (r : List ByteArray) (hnext : Evs (fun k => spec_l91Empty.l0 k (n : Int) (m : Int) (x5 ++ [strOfNums (List.replicate m 97)]) ((i + 1 : Nat) : Int)) r) :
  ∀ d j, j + d = m → Evs (fun k => spec_l91Empty.l1 k (n : Int) (m : Int) x5 (i : Int) (List.replicate j 97) (j : Int)) r := by
 intro d
 induction d with
 | zero =>
  intro j hj
  obtain rfl : j = m := by omega
  refine Evs.step (fun k => ?_) hnext
  conv => lhs; unfold spec_l91Empty.l1
  rw [if_neg (by omega), if_pos (by omega), zbj (by omega)]
 | succ d ih =>
  intro j hj
  have hnx := ih (j + 1) (by omega)
  rw [List.replicate_succ'] at hnx
  refine Evs.step (fun k => ?_) hnx
  conv => lhs; unfold spec_l91Empty.l1
  rw [if_pos (by omega), if_pos (by simp; omega), zbj (by omega)]
theorem empty_l0 (n m : Nat) (hn : n ≤ 100) (hm : m ≤ 100) : ∀ d i, i + d = n → Evs (fun k => spec_l91Empty.l0 k (n : Int) (m : Int) (List.replicate i (strOfNums (List.replicate m 97))) (i : Int)) (List.replicate n (strOfNums (List.replicate m 97))) := by
 intro d
 induction d with
 | zero =>
  intro i hi
  obtain rfl : i = n := by omega
  refine Evs.step (h := fun _ => some (List.replicate i (strOfNums (List.replicate m 97)))) (fun k => ?_) (Evs.const _)
  conv => lhs; unfold spec_l91Empty.l0
  rw [if_neg (by omega)]
 | succ d ih =>
  intro i hi
  have hnx := ih (i + 1) (by omega)
  rw [List.replicate_succ'] at hnx
  have := empty_l1 n m hm i (by omega) (List.replicate i (strOfNums (List.replicate m 97))) (by simp; omega) _ hnx m 0 (by omega)
  refine Evs.step (fun k => ?_) this
  conv => lhs; unfold spec_l91Empty.l0
  rw [if_pos (by omega)]
  rfl
theorem Empty_ev (n m : Nat) (hn : n ≤ 100) (hm : m ≤ 100) : ∃ p, Evs (fun k => spec_l91Empty.f k (n : Int) (m : Int)) p ∧ Mid p m ∧ p.length = n := by
 refine ⟨_, empty_l0 n m hn hm n 0 (by omega), ⟨by simp; omega, hm, fun s hs => ?_⟩, by simp⟩
 rw [List.eq_of_mem_replicate hs]
 show (List.map _ (List.replicate m (97 : Int))).toArray.size = m
 simp
theorem rowText_size (row : List Int) : (rowText row).size = row.length := by
 show (List.map letterOf row).toArray.size = _
 simp
theorem planF_mid {h w : Nat} {g : Nat → Nat → Int} {p : List ByteArray} (h1 : 1 ≤ h) (e : planF (zbk h w g) = (p, true)) : Mid p w ∧ p.length = h := by
 rcases planF_cases (zbk h w g) with ⟨hO, hp⟩ | ⟨_, hp⟩
 ·rw [hp] at e
  injection e with e1 _
  subst e1
  obtain ⟨s1, s2, s3, s4, s5⟩ := (zck _).1 hO.shape
  rw [zbe] at s1 s2
  have hw : zaq (zbk h w g) = w := by
   have := gridOf_get (hi := h) (wi := w) (g := g) (r := 0) (by omega)
   unfold zaq
   rw [List.getD_eq_getElem?_getD, this]
   simp
  rw [hw] at s3 s4
  have hl : (zbx (canon (zbk h w g))).length = h := by rw [text_length, zbe]
  refine ⟨⟨by omega, by omega, fun s hs => ?_⟩, hl⟩
  obtain ⟨r, hr, rfl⟩ := List.mem_map.1 hs
  rw [rowText_size]
  unfold canon canonL at hr
  obtain ⟨r0, hr0, rfl⟩ := List.mem_map.1 hr
  rw [List.length_map]
  exact gridOf_row r0 hr0
 ·rw [hp] at e
  injection e with _ e2
  cases e2
theorem split_mid {p : List ByteArray} {m : Nat} (h : Mid p m) (h1 : 1 ≤ p.length) {a k : Int} {t : ByteArray} {r : List ByteArray} (e : splitF p a t k = (r, true)) : Mid r m ∧ r.length = p.length := by
 unfold splitF at e
 cases hF : zcg p with
 | none => rw [hF] at e; injection e with _ e; cases e
 | some z =>
  obtain ⟨cs, rs⟩ := z
  rw [hF] at e
  have F := floor_facts hF
  dsimp only at e
  split at e
  ·by_cases hc : 1 ≤ k ∧ k < (if isH t = true then (rs.getD a.toNat zch).f2 else (rs.getD a.toNat zch).f3)
   ·rw [if_pos hc] at e
    have hw : zaq cs = m := by
     rw [← F.wide, wideOf_numsOf]
     refine h.row _ ?_
     rw [List.getD_eq_getElem?_getD, List.getElem?_eq_getElem (by omega)]
     exact List.getElem_mem _
    obtain ⟨q1, q2⟩ := planF_mid F.ok.h1 e
    rw [hw] at q1
    exact ⟨q1, by rw [q2, F.len]⟩
   ·rw [if_neg hc] at e
    injection e with _ e
    cases e
  ·injection e with _ e
   cases e
theorem cut_l0 (b : List Int) (hb : RdB b) (many m n : Nat) (hmany : many ≤ 1000) (hn : 1 ≤ n) : ∀ d t (p : List ByteArray) (q : Nat), t + d = many → Mid p m → p.length = n → q + 3 * d ≤ 100000 → ∃ p' q', Evs (fun k => spec_l91Cut.l0 k p (many : Int) (t : Int) b (q : Int)) (p', ((q' : Nat) : Int)) ∧ Mid p' m ∧ p'.length = n ∧ q' ≤ q + 3 * d := by
 intro d
 induction d with
 | zero =>
  intro t p q ht hp hl hq
  refine ⟨p, q, Evs.step (h := fun _ => some (p, (q : Int))) (fun k => ?_) (Evs.const _), hp, hl, by omega⟩
  conv => lhs; unfold spec_l91Cut.l0
  rw [if_neg (by omega)]
 | succ d ih =>
  intro t p q ht hp hl hq
  obtain ⟨rm, _, _, hrm⟩ := l1Rooms_any p hp.lil
  obtain ⟨v1, hv1, -, -, -⟩ := pick_ev b hb q (by omega) rm
  obtain ⟨s, hs, -⟩ := of_ev b hb (q + 1) (by omega) [(⟨#[104]⟩ : ByteArray), (⟨#[118]⟩ : ByteArray)] (by simp)
  obtain ⟨v2, hv2, -, -, -⟩ := pick_ev b hb (q + 1 + 1) (by omega) 3
  have hsp := PlanSplit_ev p v1 s (wrap64 (1 + v2)) hp.lil.small
  rcases hr : splitF p v1 s (wrap64 (1 + v2)) with ⟨r, ok⟩
  rw [hr] at hsp
  cases ok with
  | true =>
   obtain ⟨m1, m2⟩ := split_mid hp (by omega) hr
   obtain ⟨p', q', hE, h1, h2, h3⟩ := ih (t + 1) r (q + 1 + 1 + 1) (by omega) m1 (by omega) (by omega)
   refine ⟨p', q', Evs.step (h := fun k => ((spec_l1Rooms.f k p).bind fun t221 => ((spec_l6Rd_pick.f k b (q : Int) t221).bind fun bt222 => ((spec_l6Rd_of.f k b bt222.2 (([(⟨#[104]⟩ : ByteArray), (⟨#[118]⟩ : ByteArray)] : List ByteArray))).bind fun bt227 => ((spec_l6Rd_pick.f k b bt227.2 3).bind fun bt229 => ((spec_PlanSplit.f k p bt222.1 bt227.1 (wrap64 (1 + bt229.1))).bind fun bt231 => (if bt231.2 = true then (spec_l91Cut.l0 k bt231.1 (many : Int) (wrap64 ((t : Int) + 1)) b bt229.2) else (spec_l91Cut.l0 k p (many : Int) (wrap64 ((t : Int) + 1)) b bt229.2)))))))) (fun k => ?_) (Evs.bind hrm (Evs.bind hv1 (Evs.bind hs (Evs.bind hv2 (Evs.bind hsp (Evs.pos rfl ?_)))))), h1, h2, by omega⟩
   ·conv => lhs; unfold spec_l91Cut.l0
    rw [if_pos (by omega)]
   ·rw [zbj (by omega)]
    exact hE
  | false =>
   obtain ⟨p', q', hE, h1, h2, h3⟩ := ih (t + 1) p (q + 1 + 1 + 1) (by omega) hp hl (by omega)
   refine ⟨p', q', Evs.step (h := fun k => ((spec_l1Rooms.f k p).bind fun t221 => ((spec_l6Rd_pick.f k b (q : Int) t221).bind fun bt222 => ((spec_l6Rd_of.f k b bt222.2 (([(⟨#[104]⟩ : ByteArray), (⟨#[118]⟩ : ByteArray)] : List ByteArray))).bind fun bt227 => ((spec_l6Rd_pick.f k b bt227.2 3).bind fun bt229 => ((spec_PlanSplit.f k p bt222.1 bt227.1 (wrap64 (1 + bt229.1))).bind fun bt231 => (if bt231.2 = true then (spec_l91Cut.l0 k bt231.1 (many : Int) (wrap64 ((t : Int) + 1)) b bt229.2) else (spec_l91Cut.l0 k p (many : Int) (wrap64 ((t : Int) + 1)) b bt229.2)))))))) (fun k => ?_) (Evs.bind hrm (Evs.bind hv1 (Evs.bind hs (Evs.bind hv2 (Evs.bind hsp (Evs.neg (by simp) ?_)))))), h1, h2, by omega⟩
   ·conv => lhs; unfold spec_l91Cut.l0
    rw [if_pos (by omega)]
   ·rw [zbj (by omega)]
    exact hE
theorem Cut_ev (b : List Int) (hb : RdB b) (q : Nat) (hq : q ≤ 10000) (p : List ByteArray) (m : Nat) (hp : Mid p m) (h1 : 1 ≤ p.length) (many : Int) (h0 : 0 ≤ many) (hm : many ≤ 100) : ∃ p' q', Evs (fun k => spec_l91Cut.f k b (q : Int) p many) (p', ((q' : Nat) : Int)) ∧ Mid p' m ∧ p'.length = p.length ∧ q' ≤ q + 300 := by
 obtain ⟨n, rfl⟩ := Int.eq_ofNat_of_zero_le h0
 obtain ⟨p', q', hE, h1, h2, h3⟩ := cut_l0 b hb n m p.length (by omega) h1 n 0 p q (by omega) hp rfl (by omega)
 exact ⟨p', q', hE, h1, h2, by omega⟩
theorem plan_j1 (b : List Int) (hb : RdB b) (q : Nat) (hq : q ≤ 1000) (n m : Nat) (n1 : 1 ≤ n) (n7 : n ≤ 10) (m7 : m ≤ 10) (c : Bool) (hc : c = true → n = 4 ∧ m = 4) : ∃ p q', Evs (fun k => spec_l91Plan.j1 k (n : Int) (m : Int) c b (q : Int)) (p, ((q' : Nat) : Int)) ∧ Mid p m ∧ p.length = n ∧ q' ≤ q + 400 := by
 cases c with
 | true =>
  obtain ⟨rfl, rfl⟩ := hc rfl
  obtain ⟨v, hv, v0, v1, -⟩ := pick_ev b hb q (by omega) 4
  obtain ⟨p, q', hE, h1, h2, h3⟩ := Cut_ev b hb (q + 1) (by omega) [(⟨#[97, 97, 97, 98]⟩ : ByteArray), (⟨#[99, 100, 100, 98]⟩ : ByteArray), (⟨#[99, 100, 100, 98]⟩ : ByteArray), (⟨#[99, 101, 101, 101]⟩ : ByteArray)] 4 ⟨by simp, by omega, fun s hs => by simp at hs; rcases hs with rfl | rfl | rfl <;> rfl⟩ (by simp) v v0 (by have := v1 (by omega); omega)
  refine ⟨p, q', Evs.step (h := fun k => (spec_l6Rd_pick.f k b (q : Int) 4).bind fun bt263 => ((spec_l91Cut.f k b bt263.2 (([(⟨#[97, 97, 97, 98]⟩ : ByteArray), (⟨#[99, 100, 100, 98]⟩ : ByteArray), (⟨#[99, 100, 100, 98]⟩ : ByteArray), (⟨#[99, 101, 101, 101]⟩ : ByteArray)] : List ByteArray)) bt263.1).bind fun bt265 => (some (bt265.1, bt265.2)))) (fun k => ?_) (Evs.bind hv (Evs.bind hE (Evs.const _))), h1, h2, by omega⟩
  show spec_l91Plan.j1 (k + 1) _ _ true b (q : Int) = _
  simp only [spec_l91Plan.j1, if_true]
 | false =>
  obtain ⟨e, hE0, e1, e2⟩ := Empty_ev n m (by omega) (by omega)
  obtain ⟨v, hv, v0, v1, -⟩ := pick_ev b hb q (by omega) 9
  obtain ⟨p, q', hE, h1, h2, h3⟩ := Cut_ev b hb (q + 1) (by omega) e m e1 (by omega) v v0 (by have := v1 (by omega); omega)
  refine ⟨p, q', Evs.step (h := fun k => (spec_l91Empty.f k (n : Int) (m : Int)).bind fun t269 => ((spec_l6Rd_pick.f k b (q : Int) 9).bind fun bt272 => ((spec_l91Cut.f k b bt272.2 t269 bt272.1).bind fun bt274 => (some (bt274.1, bt274.2))))) (fun k => ?_) (Evs.bind hE0 (Evs.bind hv (Evs.bind hE (Evs.const _)))), h1, by omega, by omega⟩
  show spec_l91Plan.j1 (k + 1) _ _ false b (q : Int) = _
  simp only [spec_l91Plan.j1, Bool.false_eq_true, if_false]
theorem plan_j0 (b : List Int) (hb : RdB b) (q : Nat) (hq : q ≤ 900) (n m : Nat) (n1 : 1 ≤ n) (n7 : n ≤ 10) (m7 : m ≤ 10) (c : Bool) (hc : c = true → n = 3 ∧ m = 3) : ∃ p q', Evs (fun k => spec_l91Plan.j0 k (n : Int) (m : Int) c b (q : Int)) (p, ((q' : Nat) : Int)) ∧ Mid p m ∧ p.length = n ∧ q' ≤ q + 500 := by
 cases c with
 | true =>
  obtain ⟨rfl, rfl⟩ := hc rfl
  obtain ⟨v, hv, v0, v1, -⟩ := pick_ev b hb q (by omega) 2
  obtain ⟨p, q', hE, h1, h2, h3⟩ := Cut_ev b hb (q + 1) (by omega) [(⟨#[97, 97, 98]⟩ : ByteArray), (⟨#[99, 100, 98]⟩ : ByteArray), (⟨#[99, 101, 101]⟩ : ByteArray)] 3 ⟨by simp, by omega, fun s hs => by simp at hs; rcases hs with rfl | rfl | rfl <;> rfl⟩ (by simp) v v0 (by have := v1 (by omega); omega)
  refine ⟨p, q', Evs.step (h := fun k => (spec_l6Rd_pick.f k b (q : Int) 2).bind fun bt252 => ((spec_l91Cut.f k b bt252.2 (([(⟨#[97, 97, 98]⟩ : ByteArray), (⟨#[99, 100, 98]⟩ : ByteArray), (⟨#[99, 101, 101]⟩ : ByteArray)] : List ByteArray)) bt252.1).bind fun bt254 => (some (bt254.1, bt254.2)))) (fun k => ?_) (Evs.bind hv (Evs.bind hE (Evs.const _))), h1, h2, by omega⟩
  show spec_l91Plan.j0 (k + 1) _ _ true b (q : Int) = _
  simp only [spec_l91Plan.j0, if_true]
 | false =>
  by_cases h4 : (n : Int) = 4 ∧ (m : Int) = 4
  ·obtain ⟨v, hv, v0, v1, -⟩ := pick_ev b hb q (by omega) 2
   obtain ⟨p, q', hE, h1, h2, h3⟩ := plan_j1 b hb (q + 1) (by omega) n m n1 n7 m7 (v == 0) (fun _ => by omega)
   refine ⟨p, q', Evs.step (h := fun k => (spec_l6Rd_pick.f k b (q : Int) 2).bind fun bt258 => (spec_l91Plan.j1 k (n : Int) (m : Int) (bt258.1 == 0) b bt258.2)) (fun k => ?_) (Evs.bind hv hE), h1, h2, by omega⟩
   show spec_l91Plan.j0 (k + 1) _ _ false b (q : Int) = _
   simp only [spec_l91Plan.j0, Bool.false_eq_true, if_false]
   rw [if_pos h4.1, if_pos h4.2]
  ·obtain ⟨p, q', hE, h1, h2, h3⟩ := plan_j1 b hb q (by omega) n m n1 n7 m7 false (fun h => by cases h)
   refine ⟨p, q', Evs.step (fun k => ?_) hE, h1, h2, by omega⟩
   show spec_l91Plan.j0 (k + 1) _ _ false b (q : Int) = _
   simp only [spec_l91Plan.j0, Bool.false_eq_true, if_false]
   by_cases hn : (n : Int) = 4
   ·rw [if_pos hn, if_neg (fun h => h4 ⟨hn, h⟩)]
   ·rw [if_neg hn]
theorem Plan_ev (b : List Int) (hb : RdB b) (q : Nat) (hq : q ≤ 800) (n m : Nat) (n1 : 1 ≤ n) (n7 : n ≤ 10) (m7 : m ≤ 10) : ∃ p q', Evs (fun k => spec_l91Plan.f k b (q : Int) (n : Int) (m : Int)) (p, ((q' : Nat) : Int)) ∧ Mid p m ∧ p.length = n ∧ q' ≤ q + 600 := by
 by_cases h3 : (n : Int) = 3 ∧ (m : Int) = 3
 ·obtain ⟨v, hv, v0, v1, -⟩ := pick_ev b hb q (by omega) 2
  obtain ⟨p, q', hE, h1, h2, h3'⟩ := plan_j0 b hb (q + 1) (by omega) n m n1 n7 m7 (v == 0) (fun _ => by omega)
  refine ⟨p, q', Evs.congr (h := fun k => (spec_l6Rd_pick.f k b (q : Int) 2).bind fun bt247 => (spec_l91Plan.j0 k (n : Int) (m : Int) (bt247.1 == 0) b bt247.2)) (fun k => ?_) (Evs.bind hv hE), h1, h2, by omega⟩
  unfold spec_l91Plan.f
  rw [if_pos h3.1, if_pos h3.2]
 ·obtain ⟨p, q', hE, h1, h2, h3'⟩ := plan_j0 b hb q (by omega) n m n1 n7 m7 false (fun h => by cases h)
  refine ⟨p, q', Evs.congr (fun k => ?_) hE, h1, h2, by omega⟩
  unfold spec_l91Plan.f
  by_cases hn : (n : Int) = 3
  ·rw [if_pos hn, if_neg (fun h => h3 ⟨hn, h⟩)]
  ·rw [if_neg hn]
theorem Some_ev (b : List Int) (hb : RdB b) (q : Nat) (hq : q ≤ 700) (rows cols : Int) (r1 : 1 ≤ rows) (r7 : rows ≤ 9) (c1 : 1 ≤ cols) (c7 : cols ≤ 9) : ∃ p q', Evs (fun k => spec_l91Some.f k b (q : Int) rows cols) (p, ((q' : Nat) : Int)) ∧ Lil p ∧ q' ≤ 2000 := by
 obtain ⟨v1, hv1, a0, a1, -⟩ := pick_ev b hb q (by omega) rows
 obtain ⟨v2, hv2, b0, b1, -⟩ := pick_ev b hb (q + 1) (by omega) cols
 have a1 := a1 r1
 have b1 := b1 c1
 obtain ⟨i, rfl⟩ := Int.eq_ofNat_of_zero_le a0
 obtain ⟨j, rfl⟩ := Int.eq_ofNat_of_zero_le b0
 have e1 : wrap64 (1 + (i : Int)) = ((i + 1 : Nat) : Int) := by rw [zar (by omega) (by omega)]; omega
 have e2 : wrap64 (1 + (j : Int)) = ((j + 1 : Nat) : Int) := by rw [zar (by omega) (by omega)]; omega
 obtain ⟨p, q', hE, h1, h2, h3⟩ := Plan_ev b hb (q + 1 + 1) (by omega) (i + 1) (j + 1) (by omega) (by omega) (by omega)
 obtain ⟨v3, hv3, c0, -, -⟩ := pick_ev b hb q' (by omega) 50
 have hlast : wrap64 (((i + 1 : Nat) : Int) - 1) = (i : Int) := by rw [zar (by omega) (by omega)]; omega
 have hsz : ∀ k (hk : k < p.length), (p[k]'hk).size = j + 1 := fun k hk => h1.row _ (List.getElem_mem hk)
 by_cases z0 : v3 = 0
 ·refine ⟨p.set i (rdOf ByteArray.empty p (i : Int) ++ (⟨#[97]⟩ : ByteArray)), q' + 1, Evs.bind hv1 (Evs.bind hv2 ?_), ⟨by rw [List.length_set]; omega, fun s hs => ?_⟩, by omega⟩
  ·dsimp only
   rw [e1, e2]
   refine Evs.bind hE (Evs.bind hv3 (Evs.pos z0 ?_))
   simp only [Option.bind_some, List.nil_append, List.length_nil]
   refine Evs.pos (by omega) ?_
   rw [hlast]
   refine Evs.pos (by omega) (Evs.pos (by omega) (Evs.pos ?_ ?_))
   ·rw [rdOf_get p i (by omega), hsz i (by omega)]; omega
   ·rw [Int.toNat_natCast]; exact Evs.const _
  ·rcases List.mem_or_eq_of_mem_set hs with h | h
   ·rw [h1.row s h]; omega
   ·subst h
    rw [rdOf_get p i (by omega), ByteArray.size_append, hsz i (by omega)]
    show j + 1 + 1 ≤ 100
    omega
 ·by_cases z1 : v3 = 1
  ·refine ⟨p.set 0 ((⟨#[122]⟩ : ByteArray) ++ ((rdOf ByteArray.empty p 0).extract 1 (rdOf ByteArray.empty p 0).size)), q' + 1, Evs.bind hv1 (Evs.bind hv2 ?_), ⟨by rw [List.length_set]; omega, fun s hs => ?_⟩, by omega⟩
   ·dsimp only
    rw [e1, e2]
    refine Evs.bind hE (Evs.bind hv3 (Evs.neg z0 (Evs.pos z1 ?_)))
    simp only [Option.bind_some, List.nil_append, List.length_nil]
    have hr0 : rdOf ByteArray.empty p 0 = p[0]'(by omega) := rdOf_get p 0 (by omega)
    refine Evs.pos (by omega) (Evs.pos (by omega) (Evs.pos ?_ (Evs.pos ?_ ?_)))
    ·rw [hr0, hsz 0 (by omega)]; omega
    ·rw [hr0, ByteArray.size_extract, hsz 0 (by omega)]; omega
    ·exact Evs.const _
   ·rcases List.mem_or_eq_of_mem_set hs with h | h
    ·rw [h1.row s h]; omega
    ·subst h
     have hr0 : rdOf ByteArray.empty p 0 = p[0]'(by omega) := rdOf_get p 0 (by omega)
     rw [ByteArray.size_append, ByteArray.size_extract, hr0, hsz 0 (by omega)]
     show 1 + _ ≤ 100
     omega
  ·refine ⟨p, q' + 1, Evs.bind hv1 (Evs.bind hv2 ?_), h1.lil, by omega⟩
   dsimp only
   rw [e1, e2]
   exact Evs.bind hE (Evs.bind hv3 (Evs.neg z0 (Evs.neg z1 (Evs.const _))))
end Go.Proofs.Ytoijjkhdfooapaa.Hd
namespace Go.Proofs.Ytoijjkhdfooapaa.Hd
open Go.RowKit Go.PW.PrintWords Go.PW.PrintLast Go.PW.PrintMore Go.Proofs.Ytoijjkhdfooapaa.PB
theorem OkG.canon {X : List (List Int)} (h : OkG X) : OkG (canon X) := (floor_okG h.floor).1
theorem byte_of {x : Int} (h : (Lit.int .u8 x).wf = true) : 0 ≤ x ∧ x ≤ 255 := by
 simp only [Lit.wf, IntKind.min, IntKind.max, IntKind.signed, IntKind.bits, Bool.and_eq_true, decide_eq_true_eq] at h
 have h1 := h.1
 have h2 := h.2
 simp at h1 h2
 omega
theorem Evs.ex {α : Type} {g : Nat → Option α} {r : α} (h : Evs g r) : ∃ k, g k = some r := by
 obtain ⟨K, hK⟩ := h
 exact ⟨K, hK K (by omega)⟩
end Go.Proofs.Ytoijjkhdfooapaa.Hd
namespace Go.Proofs.Ytoijjkhdfooapaa.Hd
open Go.RowKit Go.PW.PrintWords Go.PW.PrintLast Go.PW.PrintMore Go.Proofs.Ytoijjkhdfooapaa.PB Go.Proofs.Ytoijjkhdfooapaa.SM
theorem Two_ev (l : List Int) (hv : ∀ x ∈ l, 0 ≤ x ∧ x ≤ 255) : ∃ p a b, Evs (fun k => spec_l91Two.f k l) (p, a, b) ∧ Lil p := by
 obtain ⟨b, ho, hb⟩ := open_ev l hv
 obtain ⟨p, q, hE, h1, q1⟩ := Some_ev b hb 0 (by omega) 5 5 (by omega) (by omega) (by omega) (by omega)
 obtain ⟨n, n0, n1, hn⟩ := l1Rooms_any p h1
 obtain ⟨v0, hv0, -⟩ := pick_ev b hb q (by omega) n
 obtain ⟨v1, hv1, -⟩ := pick_ev b hb (q + 1) (by omega) 24
 obtain ⟨v2, hv2, -⟩ := pick_ev b hb (q + 1 + 1) (by omega) (wrap64 (n + (wrap64 (Int.tdiv v1 23))))
 obtain ⟨v3, hv3, -⟩ := pick_ev b hb (q + 1 + 1 + 1) (by omega) 24
 exact ⟨p, _, _, Evs.bindS ho (Evs.bind hE (Evs.bind hn (Evs.bind hv0 (Evs.bind hn (Evs.bind hv1 (Evs.bind hv2 (Evs.bind hv3 (Evs.const _)))))))), h1⟩
theorem DrawNearIs_ev (l : List Int) (hv : ∀ x ∈ l, 0 ≤ x ∧ x ≤ 255) : ∃ p a b, Evs (fun k => spec_DrawNearIs.f k l) (p, a, b) ∧ Lil p := by
 obtain ⟨p, a, b, h, hl⟩ := Two_ev l hv
 exact ⟨p, a, b, Evs.bind h (Evs.const _), hl⟩
end Go.Proofs.Ytoijjkhdfooapaa.Hd
namespace Go.Proofs.Ytoijjkhdfooapaa.Hd
open Go.RowKit Go.PW.PrintWords Go.PW.PrintLast Go.PW.PrintMore Go.Proofs.Ytoijjkhdfooapaa.PB Go.Proofs.Ytoijjkhdfooapaa.ST
theorem rd_set {d : List Int} {x y : Int} (v : Int) (hx : 0 ≤ x) (hy : 0 ≤ y) (hl : x < (d.length : Int)) : rd (d.set x.toNat v) y = if x = y then v else rd d y := by
 unfold rd
 rw [List.getD_eq_getElem?_getD, List.getElem?_set]
 by_cases h : x = y
 ·subst h
  rw [if_pos rfl, if_pos rfl, if_pos (by omega)]
  rfl
 ·rw [if_neg (by omega), if_neg h, List.getD_eq_getElem?_getD]
theorem step_keep {d q : List Int} {c x y : Int} (hx : 0 ≤ x ∧ x < (d.length : Int)) (hy : 0 ≤ y) (h : 0 ≤ rd d y) : rd (stepV c (d, q) x).1 y = rd d y := by
 unfold stepV
 dsimp only
 split
 ·rename_i hn
  dsimp only
  rw [rd_set _ hx.1 hy hx.2, if_neg (fun e => by subst e; omega)]
 ·rfl
theorem fold_keep {n : Nat} (hn : n ≤ 9) {c y : Int} (hc : 0 ≤ c ∧ c < (n : Int)) (hy : 0 ≤ y) : ∀ (L d q : List Int), InN n L → BI n d → InN n q → 0 ≤ rd d y → rd (L.foldl (stepV c) (d, q)).1 y = rd d y
 | [], _, _, _, _, _, _ => rfl
 | x :: L, d, q, hL, H, hq, h => by
  have hx := hL x List.mem_cons_self
  have hk := step_keep (q := q) (c := c) (by rw [H.len]; exact hx) hy h
  obtain ⟨h1, h2, -, -⟩ := step_inv hn H hq hc hx
  have := fold_keep hn hc hy L _ _ (fun z hz => hL z (List.mem_cons_of_mem _ hz)) h1 h2 (by rw [hk]; exact h)
  rw [List.foldl_cons]
  exact this.trans hk
theorem bfs_keep {n : Nat} (hn : n ≤ 9) (nb : Int → List Int) (hnb : ∀ c : Int, 0 ≤ c ∧ c < (n : Int) → InN n (nb c)) {y : Int} (hy : 0 ≤ y) : ∀ m d q, BI n d → InN n q → 0 ≤ rd d y → rd (bfsL nb m d q) y = rd d y
 | 0, _, _, _, _, _ => rfl
 | m + 1, _, [], _, _, _ => rfl
 | m + 1, d, c :: q, H, hq, h => by
  have hc := hq c List.mem_cons_self
  have hq' : InN n q := fun z hz => hq z (List.mem_cons_of_mem _ hz)
  obtain ⟨k1, k2, _, _⟩ := fold_inv hn hc (nb c) d q (hnb c hc) H hq'
  have hk := fold_keep hn hc hy (nb c) d q (hnb c hc) H hq' h
  exact (bfs_keep hn nb hnb hy m _ _ k1 k2 (by rw [hk]; exact h)).trans hk
theorem fold_one {n : Nat} (hn : n ≤ 9) {c b : Int} (hc : 0 ≤ c ∧ c < (n : Int)) (hb : 0 ≤ b) (hcb : c ≠ b) : ∀ (L d q : List Int), InN n L → BI n d → InN n q → rd d c = 0 → (rd d b < 0 ∨ rd d b = 1) → b ∈ L → rd (L.foldl (stepV c) (d, q)).1 b = 1
 | [], _, _, _, _, _, _, _, hm => by cases hm
 | x :: L, d, q, hL, H, hq, h0, h1, hm => by
  have hx := hL x List.mem_cons_self
  have hL' : InN n L := fun z hz => hL z (List.mem_cons_of_mem _ hz)
  obtain ⟨k1, k2, -, -⟩ := step_inv hn H hq hc hx
  have hk0 : rd (stepV c (d, q) x).1 c = 0 := (step_keep (q := q) (c := c) (by rw [H.len]; exact hx) hc.1 (by omega)).trans h0
  rw [List.foldl_cons]
  by_cases e : x = b
  ·have hone : rd (stepV c (d, q) x).1 b = 1 := by
    subst e
    rcases h1 with h1 | h1
    ·unfold stepV
     dsimp only
     rw [if_pos h1, rd_set _ hx.1 hx.1 (by rw [H.len]; exact hx.2), if_pos rfl, h0]
     exact (zar (x := 0 + 1) (by omega) (by omega)).trans (by decide)
    ·exact (step_keep (q := q) (c := c) (by rw [H.len]; exact hx) hx.1 (by omega)).trans h1
   exact (fold_keep hn hc hb L _ _ hL' k1 k2 (by omega)).trans hone
  ·have hb1 : rd (stepV c (d, q) x).1 b = rd d b := by
    unfold stepV
    dsimp only
    split
    ·dsimp only
     rw [rd_set _ hx.1 hb (by rw [H.len]; exact hx.2), if_neg e]
    ·rfl
   refine fold_one hn hc hb hcb L (stepV c (d, q) x).1 (stepV c (d, q) x).2 hL' k1 k2 hk0 (by rw [hb1]; exact h1) ?_
   rcases List.mem_cons.1 hm with h | h
   ·exact absurd h.symm e
   ·exact h
theorem steps_one (cs : List (List Int)) (n a b : Nat) (hn : n ≤ 9) (ha : a < n) (hb : b < n) (hab : a ≠ b) (h : besN cs (a : Int) (b : Int) > 0) : rd (stepsL cs n a) (b : Int) = 1 := by
 obtain ⟨h1, h2⟩ := BI_start hn a ha
 have hin : InN n [(a : Int)] := by intro x hx; rw [List.mem_singleton.1 hx]; omega
 have hnil : InN n [] := fun x hx => by cases hx
 have hca : 0 ≤ (a : Int) ∧ (a : Int) < (n : Int) := by omega
 have e0 : rd ((List.replicate n (-1 : Int)).set a 0) (a : Int) = 0 := by
  have := rd_set (d := List.replicate n (-1 : Int)) (x := (a : Int)) (y := (a : Int)) 0 (by omega) (by omega) (by rw [List.length_replicate]; omega)
  rw [Int.toNat_natCast, if_pos rfl] at this
  exact this
 have e1 : rd ((List.replicate n (-1 : Int)).set a 0) (b : Int) = -1 := by
  have := rd_set (d := List.replicate n (-1 : Int)) (x := (a : Int)) (y := (b : Int)) 0 (by omega) (by omega) (by rw [List.length_replicate]; omega)
  rw [Int.toNat_natCast, if_neg (by omega)] at this
  rw [this]
  unfold rd
  rw [List.getD_eq_getElem?_getD, List.getElem?_replicate, if_pos (by omega)]
  rfl
 have hm : (b : Int) ∈ nearL cs n (a : Int) := (nearL_mem cs n a b).2 ⟨b, rfl, hb, h⟩
 have hf := fold_one hn hca (by omega) (by omega) (nearL cs n (a : Int)) _ [] (nearL_in cs n a) h1 hnil e0 (.inl (by rw [e1]; decide)) hm
 obtain ⟨k1, k2, _, _⟩ := fold_inv hn hca (nearL cs n (a : Int)) _ [] (nearL_in cs n a) h1 hnil
 unfold stepsL
 obtain ⟨m, hm2⟩ : ∃ m, 2 * n = m + 1 := ⟨2 * n - 1, by omega⟩
 rw [hm2]
 exact (bfs_keep hn (nearL cs n) (fun c _ => nearL_in cs n c) (by omega) m _ _ k1 k2 (by rw [hf]; decide)).trans hf
end Go.Proofs.Ytoijjkhdfooapaa.Hd
namespace Go.Proofs.Ytoijjkhdfooapaa.Pure
open Go.RowKit Go.Proofs.Ytoijjkhdfooapaa.NE Go.Proofs.Ytoijjkhdfooapaa.PB Go.Proofs.Ytoijjkhdfooapaa.SM Go.Proofs.Ytoijjkhdfooapaa.Hd Go.PW.PrintWords Go.PW.PrintLast
theorem FnNear : laws_FnNear.Pure := by
 intro l0 h1 h2 h3
 by_cases big : (l0.length : Int) > 1048576
 ·exact ⟨0, by unfold laws_FnNear.f; rw [if_pos big]⟩
 ·obtain ⟨p, a, b, hp, hl⟩ := DrawNearIs_ev l0 (fun x hx => byte_of (h3 x hx))
  have hsm : smallB p = true := (smallB_iff _).2 hl.small
  have hL : ∀ a b, impl_NearLength.f p a b = some (zca p a b) := fun a b => by unfold impl_NearLength.f; rw [if_pos hsm]
  have hW : ∀ a b, impl_NearWay.f p a b = some (nearWayF p a b) := fun a b => by unfold impl_NearWay.f; rw [if_pos hsm]
  have hN : ∀ a b, impl_NearIs.f p a b = some (nearIsF p a b) := fun a b => by unfold impl_NearIs.f; rw [if_pos hsm]
  apply Evs.ex
  refine Evs.neg big (Evs.bind hp (Evs.bindS (hN a b) (Evs.bind (NearIs_ev p a b hl.small) (Evs.neg (by simp) ?_))))
  dsimp only
  cases hI : nearIsF p a b with
  | false =>
   refine Evs.step (h := fun k => some true) (fun k => ?_) (Evs.const _)
   conv => lhs; unfold laws_FnNear.j0
   rfl
  | true =>
   obtain ⟨cs, rs, hF, hA, hB, hq⟩ : ∃ cs rs, zcg p = some (cs, rs) ∧ hasB rs a = true ∧ hasB rs b = true ∧ besN cs a b > 0 := by
    unfold nearIsF at hI
    cases hF : zcg p with
    | none => rw [hF] at hI; cases hI
    | some t =>
     obtain ⟨cs, rs⟩ := t
     rw [hF] at hI
     dsimp only at hI
     rw [Bool.and_eq_true, Bool.and_eq_true, decide_eq_true_eq] at hI
     exact ⟨cs, rs, rfl, hI.1.1, hI.1.2, hI.2⟩
   have hab : a ≠ b := fun e => by subst e; rw [besN_self] at hq; omega
   have e3 : zca p a b = (besN cs a b, true) := by
    unfold zca
    rw [hF]
    dsimp only
    rw [if_pos (by rw [hA, hB, Bool.and_self, Bool.true_and, Bool.not_eq_true', beq_eq_false_iff_ne]; exact hab)]
   have e4 : nearIsF p b a = true := by
    unfold nearIsF
    rw [hF]
    dsimp only
    rw [hA, hB, besN_comm, decide_eq_true hq]
    rfl
   have hk := floorF_ok hF
   have e5 : nearWayF p a b = (1, true) := by
    obtain ⟨i, rfl, hi⟩ := hasB_nat hA
    obtain ⟨j, rfl, hj⟩ := hasB_nat hB
    unfold nearWayF pairF
    rw [hF]
    dsimp only
    rw [hA, hB, Bool.and_self, if_pos rfl]
    dsimp only
    rw [Int.toNat_natCast, steps_one cs rs.length i j hk.many hi hj (by omega) hq]
   refine Evs.step (h := fun k => (impl_NearLength.f p a b).bind fun bt404 => ((impl_NearWay.f p a b).bind fun bt406 => (if bt404.2 = true then (if bt406.2 = true then (if bt404.1 ≥ 1 then (if bt406.1 = 1 then ((impl_NearIs.f p b a).bind fun t408 => (some t408)) else (some false)) else (some false)) else (some false)) else (some false)))) (fun k => ?_) ?_
   ·conv => lhs; unfold laws_FnNear.j0
    exact if_neg (by simp)
   ·have i1 := hL a b
    have i2 := hW a b
    have i3 := hN b a
    rw [e3] at i1
    rw [e5] at i2
    rw [e4] at i3
    exact Evs.bindS i1 (Evs.bindS i2 (Evs.pos rfl (Evs.pos rfl (Evs.pos (by dsimp only; omega) (Evs.pos rfl (Evs.bindS i3 (Evs.const _)))))))
end Go.Proofs.Ytoijjkhdfooapaa.Pure
