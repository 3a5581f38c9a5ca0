/- Part 5 of the proof of FnExactNearColours: what the program's functions and the reference's compute. -/
import Derived.Lib.SliceRun
import Derived.Test.YtickdcegnlldjaaProg
import Derived.Below
import Derived.Deep.Draws
import Derived.Deep.AppendLies
import Derived.Maps.AppendAt
import Derived.OwnWalk
import Derived.Laws.BytesArg
import Derived.Laws.MakeOwn
import Derived.Laws.OwnMore
import Derived.Deep.OwnRows
import Derived.Tactics
import Derived.Lib.ConvBytes
import Derived.Laws.Slices
import Derived.WalkKit
import Derived.KernelRfl
import Derived.RowKit3
import Derived.Deep.LoopGhost
import Derived.Deep.QuietTactic
import Derived.BigQuiet
import Derived.WideLaws
import Derived.Deep.DeepCutAuto
import Derived.Deep.CutBlock
import Derived.Deep.RegionHeld3
import Derived.Laws.Rows
import Derived.Lib.AppendStr
import Derived.ArgAppend
import Derived.Laws.IdiomCopy
import Derived.OrdersHeld
import Derived.Laws.BitsLemmas
import Derived.RowKit
import Derived.Test.YtickdcegnlldjaaCLCd
set_option linter.unusedSimpArgs false
set_option linter.unusedVariables false
namespace Go.Proofs.Ytickdcegnlldjaa.Hd
open Go.RowKit Go.PW.PrintWords Go.PW.PrintLast Go.PW.PrintMore Go.Proofs.Ytickdcegnlldjaa.PB
def wallsP (cs : List (List Int)) : List (Bool × Nat × Nat × Nat) := (upT cs).map (fun t => (false, t)) ++ (levT cs).map (fun t => (true, t))
theorem wallsP_walls (cs : List (List Int)) : wallsOf cs = (wallsP cs).map fun x => mkW x.1 x.2 := by
 unfold wallsP
 rw [wallsOf_eq, List.map_append, List.map_map, List.map_map]
 rfl
theorem wallsP_touch (cs : List (List Int)) : touchL cs = (wallsP cs).flatMap fun x => touchW cs x.1 x.2 := by
 unfold wallsP touchL
 rw [List.flatMap_append, List.flatMap_map, List.flatMap_map]
theorem wallsP_ok {cs : List (List Int)} {rs : List Rc} (h : zcg cs rs) (i : Nat) (hi : i < (wallsP cs).length) : ∃ lv l f n, (wallsP cs)[i]? = some (lv, l, f, n) ∧ 1 ≤ l ∧ l < zcp cs lv ∧ f + n ≤ zbr cs lv ∧ 1 ≤ n ∧ zcp cs lv ≤ 6 ∧ zbr cs lv ≤ 6 := by
 have q1 := h.h6
 have q2 := h.w6
 have q3 := h.h1
 have q4 := h.w1
 have hm := List.getElem_mem hi
 rw [List.getElem?_eq_getElem hi]
 generalize (wallsP cs)[i] = x at *
 unfold wallsP at hm
 rcases List.mem_append.1 hm with hm | hm
 ·obtain ⟨⟨l, f, n⟩, hx, rfl⟩ := List.mem_map.1 hm
  have := trip_in _ _ _ _ hx
  exact ⟨false, l, f, n, rfl, by simp only [zcp, zbr, Bool.false_eq_true, if_false]; dsimp only at this; omega⟩
 ·obtain ⟨⟨l, f, n⟩, hx, rfl⟩ := List.mem_map.1 hm
  have := trip_in _ _ _ _ hx
  exact ⟨true, l, f, n, rfl, by simp only [zcp, zbr, if_true]; dsimp only at this; omega⟩
def touchP (cs : List (List Int)) (i : Nat) : List (Int × Int) := ((wallsP cs).take i).flatMap fun x => touchW cs x.1 x.2
theorem touchW_length (cs : List (List Int)) (lv : Bool) (x : Nat × Nat × Nat) : (touchW cs lv x).length = x.2.2 := by simp [touchW]
theorem touchP_succ (cs : List (List Int)) (i : Nat) (lv : Bool) (t : Nat × Nat × Nat) (h : (wallsP cs)[i]? = some (lv, t)) : touchP cs (i + 1) = touchP cs i ++ touchW cs lv t := by
 unfold touchP
 rw [List.take_add_one, h, List.flatMap_append]
 simp
theorem touchP_length {cs : List (List Int)} {rs : List Rc} (h : zcg cs rs) : ∀ i, i ≤ (wallsP cs).length → (touchP cs i).length ≤ i * 6
 | 0, _ => by simp [touchP]
 | i + 1, hi => by
  obtain ⟨lv, l, f, n, e, h1, h2, h3, h4, h5, h6⟩ := wallsP_ok h i (by omega)
  have ih := touchP_length h i (by omega)
  rw [touchP_succ cs i lv _ e, List.length_append, touchW_length, Nat.succ_mul]
  dsimp only
  omega
theorem touchP_all (cs : List (List Int)) : touchP cs (wallsP cs).length = touchL cs := by
 unfold touchP
 rw [List.take_length, wallsP_touch]
theorem touchW_take (cs : List (List Int)) (lv : Bool) (l f n j : Nat) (hj : j < n) : (touchW cs lv (l, f, n)).take (j + 1) = (touchW cs lv (l, f, n)).take j ++ [sidesOf cs lv l (f + j)] := by
 unfold touchW
 rw [List.take_add_one, List.getElem?_map, List.getElem?_range hj]
 rfl
theorem sides_range {cs : List (List Int)} {rs : List Rc} (h : zcg cs rs) (lv : Bool) (line i : Nat) (h1 : 1 ≤ line) (h2 : line < zcp cs lv) (h3 : i < zbr cs lv) : ∃ a b : Nat, sidesOf cs lv line i = ((a : Int), (b : Int)) ∧ a < rs.length ∧ b < rs.length := by
 unfold sidesOf
 cases lv with
 | true =>
  simp only [zcp, zbr, if_true] at h2 h3
  have v1 := valAt_range h (line - 1) i (by omega) h3
  have v2 := valAt_range h line i h2 h3
  rw [if_pos rfl]
  exact ⟨(zbe cs (line - 1) i).toNat, (zbe cs line i).toNat, by rw [Int.toNat_of_nonneg v1.1, Int.toNat_of_nonneg v2.1], by omega, by omega⟩
 | false =>
  simp only [zcp, zbr, Bool.false_eq_true, if_false] at h2 h3
  have v1 := valAt_range h i (line - 1) h3 (by omega)
  have v2 := valAt_range h i line h3 h2
  rw [if_neg (by simp)]
  exact ⟨(zbe cs i (line - 1)).toNat, (zbe cs i line).toNat, by rw [Int.toNat_of_nonneg v1.1, Int.toNat_of_nonneg v2.1], by omega, by omega⟩
def incG (G : Nat → Nat → Int) (i j r c : Nat) : Int := if r = i ∧ c = j then G r c + 1 else G r c
def hitG (T : List (Int × Int)) (r c : Nat) : Int := hits T (r : Int) (c : Int)
theorem hitG_snoc (T : List (Int × Int)) (a b r c : Nat) : incG (incG (hitG T) a b) b a r c = hitG (T ++ [((a : Int), (b : Int))]) r c := by
 unfold hitG
 rw [hits_append]
 have e : hits [((a : Int), (b : Int))] (r : Int) (c : Int) = (if r = a ∧ c = b then 1 else 0) + (if r = b ∧ c = a then 1 else 0) := by
  unfold hits hit
  simp only [List.map_cons, List.map_nil, sumZ, Prod.mk.injEq]
  have e1 : ((a : Int) = (r : Int) ∧ (b : Int) = (c : Int)) ↔ (r = a ∧ c = b) := by omega
  have e2 : ((a : Int) = (c : Int) ∧ (b : Int) = (r : Int)) ↔ (r = b ∧ c = a) := by omega
  simp only [e1, e2]
  omega
 rw [e]
 unfold incG
 dsimp only
 split <;> split <;> omega
theorem grid_inc {n : Nat} (G : Nat → Nat → Int) (i j : Nat) (hi : i < n) (hj : j < n) : (zbn n n G).set i (((List.range n).map fun c => G i c).set j (G i j + 1)) = zbn n n (incG G i j) := by
 apply List.ext_getElem?
 intro r
 by_cases hr : r < n
 ·rw [gridOf_get hr, List.getElem?_set]
  by_cases e : i = r
  ·subst e
   rw [if_pos rfl, if_pos (by rw [zbf]; exact hi)]
   congr 1
   apply List.ext_getElem?
   intro c
   rw [List.getElem?_set]
   by_cases hc : c < n
   ·rw [List.getElem?_map, List.getElem?_range hc]
    by_cases e2 : j = c
    ·subst e2
     rw [if_pos rfl, if_pos (by simp; exact hj), List.getElem?_map, List.getElem?_range hj]
     simp [incG]
    ·rw [if_neg e2, List.getElem?_map, List.getElem?_range hc]
     simp only [Option.map_some, incG]
     rw [if_neg (fun z => e2 z.2.symm)]
   ·rw [List.getElem?_eq_none (by simp; omega : ((List.range n).map fun c => incG G i j i c).length ≤ c), if_neg (by omega), List.getElem?_eq_none (by simp; omega)]
  ·rw [if_neg e, gridOf_get hr]
   congr 1
   apply List.map_congr_left
   intro c _
   unfold incG
   rw [if_neg (fun z => e z.1.symm)]
 ·rw [List.getElem?_eq_none (by rw [List.length_set, zbf]; omega), List.getElem?_eq_none (by rw [zbf]; omega)]
theorem mat_inc {W : World} {g0 n : Nat} {bs : List Nat} {G : Nat → Nat → Int} (HM : MatAt W g0 n bs (zbn n n G)) (i j : Nat) (hi : i < n) (hj : j < n) :
  ∃ b, b ∈ bs ∧ W.cell? ⟨g0, i, none⟩ = some (.slice (some ⟨b, 0, none⟩) n n) ∧ W.cell? ⟨b, j, none⟩ = some (.int .i64 (G i j)) ∧ W.frozen? ⟨b, j, none⟩ = false ∧ ∀ p : Int, p = G i j + 1 → MatAt (W.setCell ⟨b, j, none⟩ (.int .i64 p)) g0 n bs (zbn n n (incG G i j)) := by
 have hr := gridOf_get (hi := n) (wi := n) (g := G) hi
 obtain ⟨b, hb⟩ : ∃ b, bs[i]? = some b := ⟨_, List.getElem?_eq_getElem (by rw [HM.len, zbf]; exact hi)⟩
 have hx : ((List.range n).map fun c => G i c)[j]? = some (G i j) := by rw [List.getElem?_map, List.getElem?_range hj]; rfl
 have h1 := HM.topCell i b _ hb hr
 have h2 := HM.rowCell i j b _ _ hb hr hx
 have h3 := HM.set i j b _ (G i j + 1) hb hr
 rw [grid_inc G i j hi hj] at h3
 simp only [List.length_map, List.length_range] at h1
 exact ⟨b, List.mem_of_getElem? hb, h1, h2.1, h2.2, fun p hp => by subst hp; exact h3⟩
theorem wallsP_get {cs : List (List Int)} {i : Nat} {x : Bool × Nat × Nat × Nat} (h : (wallsP cs)[i]? = some x) : (wallsOf cs).getD i zeroW = mkW x.1 x.2 := by
 rw [wallsP_walls, List.getD_eq_getElem?_getD, List.getElem?_map, h]
 rfl
theorem wallsP_length (cs : List (List Int)) : (wallsP cs).length = (wallsOf cs).length := by rw [wallsP_walls]; simp
set_option maxHeartbeats 4000000 in
set_option maxRecDepth 100000 in
theorem touching1_read (w : World) (n : Nat) : ReadFn Try.prog 101 #[] w n n (fun _ _ => 0) := by
 intro W r c hr hc hS
 clear hS
 show Calls _ _ #[.int .i64 r, .int .i64 c] W _
 go_enter Try.func101, Try.ntmps101
 go_wp2
 go_ret
 exact ⟨rfl, Below.refl _ _⟩
theorem block_ne {W : World} {a b t s : Nat} {x y : Array Value} {u v : Nat × Nat} (ha : W.heap[a]? = some (.cells x t u)) (hb : W.heap[b]? = some (.cells y s v)) (h : t ≠ s) : a ≠ b := by
 rintro rfl
 rw [ha] at hb
 injection hb with hb
 injection hb with _ hb
 exact h hb
theorem MatAt.typed {W : World} {g n : Nat} {bs : List Nat} {rows : List (List Int)} (h : MatAt W g n bs rows) {b : Nat} (hb : b ∈ bs) : ∃ x, W.heap[b]? = some (.cells x 3 (0, 0)) := by
 obtain ⟨i, hi, e⟩ := List.mem_iff_getElem.1 hb
 have hr : i < rows.length := by rw [← h.len]; exact hi
 exact ⟨_, h.row i b _ (by rw [List.getElem?_eq_getElem hi, e]) (List.getElem?_eq_getElem hr)⟩
set_option maxHeartbeats 8000000 in
set_option maxRecDepth 100000 in
theorem touching_calls (g : Nat) (cs : List (List Int)) (rs : List Rc) (w : World) (hf : FloorAt w g cs rs) (hk : zcg cs rs) :
  Calls Try.prog 80 #[.pointer (some ⟨g, 0, none⟩)] w (GridRes w (zcq cs rs.length)) := by
 have HF := zaa.mk hf
 have HK := zaa.mk hk
 obtain ⟨Ar, cr, hrm, -⟩ := hf.rooms
 have h9 := hk.many
 clear hf hk
 have b9 : (rs.length : Int) ≤ 9 := by omega
 go_enter Try.func80, Try.ntmps80
 go_wp2
 refine start_ (n := 12) (S := fun w' => (w'.cell? ⟨g, 1, none⟩ = some (.slice Ar rs.length cr)) ∧ (Below w.heap.size w w')) (ds := []) #[false, false, false, false, false, false, false, false, false, false, false, false] (by kernel_rfl) rfl rfl (⟨hrm, ⟨rfl, rfl, rfl, Nat.le_refl _, fun _ _ => rfl⟩⟩) (fun hHeld => ?_)
 clear hrm
 refine zbb (i := 0) (N := some 9) (v := ?_) (a' := ?_) #[true, false, false, false, false, false, false, false, false, false, false, false] rfl rfl (by kernel_rfl) (fun _ _ _ h => h) (Or.inl ⟨by rfl, ?_⟩) ?_ ?_
 rotate_left
 ·intro w'
  go_simp
  with_reducible rfl
 rotate_left
 ·simp only [Act.put, List.setIfInBounds_toArray, List.set_cons_zero, List.set_cons_succ, zas, zat]
  rfl
 refine zbb (i := 1) (N := some 10) (v := ?_) (a' := ?_) #[true, true, false, false, false, false, false, false, false, false, false, false] rfl rfl (by kernel_rfl) (fun _ _ _ h => h) (Or.inl ⟨by rfl, ?_⟩) ?_ ?_
 rotate_left
 ·intro w'
  go_simp
  with_reducible rfl
 rotate_left
 ·simp only [Act.put, List.setIfInBounds_toArray, List.set_cons_zero, List.set_cons_succ, zas, zat]
  rfl
 refine zbb (i := 2) (N := some 11) (v := ?_) (a' := ?_) #[true, true, true, false, false, false, false, false, false, false, false, false] rfl rfl (by kernel_rfl) (fun _ _ _ h => h) (Or.inl ⟨by rfl, ?_⟩) ?_ ?_
 rotate_left
 ·intro w'
  go_simp
  with_reducible rfl
 rotate_left
 ·simp only [Act.put, List.setIfInBounds_toArray, List.set_cons_zero, List.set_cons_succ, zas, zat]
  rfl
 refine zci (i := 3) (N := some 12) (v := ?_) (a' := ?_) #[true, true, true, true, false, false, false, false, false, false, false, false] rfl rfl (by kernel_rfl) (fun _ _ _ h => h) (Or.inl ⟨by rfl, ?_⟩) hHeld ?_ ?_
 rotate_left
 ·rintro w' ⟨s0, s1⟩
  go_simp
  with_reducible rfl
 rotate_left
 ·simp only [Act.put, List.setIfInBounds_toArray, List.set_cons_zero, List.set_cons_succ, zas, zat]
  rfl
 refine zbb (i := 4) (N := some 13) (v := ?_) (a' := ?_) #[true, true, true, true, true, false, false, false, false, false, false, false] rfl rfl (by kernel_rfl) (fun _ _ _ h => h) (Or.inl ⟨by rfl, ?_⟩) ?_ ?_
 rotate_left
 ·intro w'
  go_simp
  with_reducible rfl
 rotate_left
 ·simp only [Act.put, List.setIfInBounds_toArray, List.set_cons_zero, List.set_cons_succ, zas, zat]
  rfl
 refine zbb (i := 5) (N := some 14) (v := ?_) (a' := ?_) #[true, true, true, true, true, true, false, false, false, false, false, false] rfl rfl (by kernel_rfl) (fun _ _ _ h => h) (Or.inl ⟨by rfl, ?_⟩) ?_ ?_
 rotate_left
 ·intro w'
  go_simp
  with_reducible rfl
 rotate_left
 ·simp only [Act.put, List.setIfInBounds_toArray, List.set_cons_zero, List.set_cons_succ, zas, zat]
  rfl
 refine zbb (i := 6) (N := some 15) (v := ?_) (a' := ?_) #[true, true, true, true, true, true, true, false, false, false, false, false] rfl rfl (by kernel_rfl) (fun _ _ _ h => h) (Or.inl ⟨by rfl, ?_⟩) ?_ ?_
 rotate_left
 ·intro w'
  go_simp
  with_reducible rfl
 rotate_left
 ·simp only [Act.put, List.setIfInBounds_toArray, List.set_cons_zero, List.set_cons_succ, zas, zat]
  rfl
 refine zbb (i := 7) (N := some 16) (v := ?_) (a' := ?_) #[true, true, true, true, true, true, true, true, false, false, false, false] rfl rfl (by kernel_rfl) (fun _ _ _ h => h) (Or.inl ⟨by rfl, ?_⟩) ?_ ?_
 rotate_left
 ·intro w'
  go_simp
  with_reducible rfl
 rotate_left
 ·simp only [Act.put, List.setIfInBounds_toArray, List.set_cons_zero, List.set_cons_succ, zas, zat]
  rfl
 refine zci (i := 8) (N := some 17) (v := ?_) (a' := ?_) #[true, true, true, true, true, true, true, true, true, false, false, false] rfl rfl (by kernel_rfl) (fun _ _ _ h => h) (Or.inl ⟨by rfl, ?_⟩) hHeld ?_ ?_
 rotate_left
 ·rintro w' ⟨s0, s1⟩
  go_simp
  with_reducible rfl
 rotate_left
 ·simp only [Act.put, List.setIfInBounds_toArray, List.set_cons_zero, List.set_cons_succ, zas, zat]
  rfl
 refine zbb (i := 9) (N := some 18) (v := ?_) (a' := ?_) #[true, true, true, true, true, true, true, true, true, true, false, false] rfl rfl (by kernel_rfl) (fun _ _ _ h => h) (Or.inl ⟨by rfl, ?_⟩) ?_ ?_
 rotate_left
 ·intro w'
  go_simp
  with_reducible rfl
 rotate_left
 ·simp only [Act.put, List.setIfInBounds_toArray, List.set_cons_zero, List.set_cons_succ, zas, zat]
  rfl
 refine one_ (i := 10) (N := some 19) #[true, true, true, true, true, true, true, true, true, true, true, false] rfl rfl (by kernel_rfl) (by decide) (fun K hK => ?_)
 refine goes_ Try.func75 (by kernel_rfl) rfl #[.int .i64 (rs.length : Int), .int .i64 (rs.length : Int), .func (.func 101) #[] #[]] (by rfl) rfl rfl (by (try simp only [List.map_toArray, List.map_cons, List.map_nil]); first | done | rfl) ?_
 have hs_ := hHeld
 obtain ⟨s0, s1⟩ := hs_
 refine (blank_calls 101 Try.f101 Try.func101 (by kernel_rfl) rfl _ rs.length rs.length _ _ (readFn_cell (touching1_read _ rs.length)) (fun k => k < _) _ ⟨fun _ => Iff.rfl, Sees.refl _⟩ (by omega) (by omega)).mono ?_
 rintro e w13 ⟨g0, bs, F', rfl, hM, hfar, ⟨hF, hS⟩, hF', hO⟩
 have hb : Below _ _ w13 := ⟨hO.os, hO.tape, hO.output, hS.1, hS.2⟩
 have HM13 := zaa.mk hM
 have HLow := zaa.mk (fun k hk => Nat.le_trans s1.size (hfar k hk).1)
 have HB13 := zaa.mk (zaf s1 hb)
 clear hM hfar hF hS hF' hO
 refine ⟨_, rfl, ?_⟩
 refine hK.out _ _ ⟨zae hb s0, zaf s1 hb⟩ (fun hHeld => ?_)
 clear hK K hb s0 s1
 refine norm_ (a' := ?_) ?_ ?_
 rotate_left
 ·show Act.put _ (some 19) _ = _
  simp only [Act.put, List.setIfInBounds_toArray, List.set_cons_zero, List.set_cons_succ, zas, zat]
  rfl
 refine zbb (i := 11) (N := some 3) (v := ?_) (a' := ?_) #[true, true, true, true, true, true, true, true, true, true, true, true] rfl rfl (by kernel_rfl) (fun _ _ _ h => h) (Or.inl ⟨by rfl, ?_⟩) ?_ ?_
 rotate_left
 ·intro w'
  go_simp
  with_reducible rfl
 rotate_left
 ·simp only [Act.put, List.setIfInBounds_toArray, List.set_cons_zero, List.set_cons_succ, zas, zat]
  rfl
 refine done_ (by kernel_rfl) ?_
 clear hHeld
 obtain ⟨K, hK⟩ := walls_ev HK.out
 have HW := zaa.mk (hK K (Nat.le_refl K))
 have HL := zaa.mk (wallsOf_bound HK.out)
 have HPL := zaa.mk (wallsP_length cs)
 have HPG := zaa.mk (fun i x h => wallsP_get (cs := cs) (i := i) (x := x) h)
 have hM0 : zcq cs rs.length = zbn rs.length rs.length (hitG (touchP cs (wallsOf cs).length)) := by
  rw [← wallsP_length, touchP_all]
  rfl
 have HM0 := zaa.mk hM0
 have HZ := zaa.mk (show zbn rs.length rs.length (fun _ _ => 0) = zbn rs.length rs.length (hitG (touchP cs 0)) from gridOf_congr fun r c _ _ => rfl)
 clear hK hM0
 generalize wallsOf cs = ws at *
 generalize zcq cs rs.length = tm at *
 have b1 : (ws.length : Int) ≤ 72 := by have := HL.out; omega
 go_wp2_with (first
  | (go_at_call 61; refine (impl_floor_walls.calls K g cs rs ws _ _ (HF.out.below HB13.out) (Below.refl _ _) HW.out).mono ?_; rintro e w9 ⟨v9, rfl, hr9, -, hb9, -⟩; obtain ⟨A9, c9, e9⟩ := Kd.R_slice hr9; subst e9; have HB9 := zaa.mk (zaf HB13.out hb9); have HR9 := zaa.mk (Kd.R_lower hr9 HB13.out.size); have HM9 := zaa.mk (HM13.out.move (fun k hk => hb9.block k (HM13.out.lt k hk))); clear hb9 hr9))
 go_loopg [23] ws.length (fun kq v23 w' => ∃ i : Nat, v23 = .int .i64 (i : Int) ∧ zaa (i + kq = ws.length) ∧ zaa (MatAt w' g0 rs.length bs (zbn rs.length rs.length (hitG (touchP cs i)))) ∧ zaa (Kd.R kWl 72 w' w.heap.size (fun _ => True) (.slice A9 ws.length c9) ws) ∧ zaa (Below w.heap.size w w'))
 case atStart => exact ⟨0, rfl, ⟨by omega⟩, ⟨HZ.out ▸ HM9.out⟩, HR9, HB9⟩
 case round =>
  clear HR9 HB9 HM9
  obtain ⟨i, rfl, HKi, HM, HO, HB⟩ := hrel
  by_cases hi : i < ws.length
  ·have hlt : (i : Int) < (ws.length : Int) := by omega
   have hi0 : (0 : Int) ≤ i := by omega
   obtain ⟨gr, cp, ev, hgr, hltg, cells, hcells⟩ := Kd.R_form HO.out (by omega)
   injection ev with ea en ec
   subst ea
   clear en ec hcells hltg hgr
   obtain ⟨z0, z1, z2, z3⟩ := wl_cells HO.out i hi
   obtain ⟨lv, l, f, n, hP, k1, k2, k3, k4, k5, k6⟩ := wallsP_ok HK.out i (by rw [HPL.out]; exact hi)
   rw [HPG.out i _ hP] at z0 z1 z2 z3
   simp only [mkW] at z0 z1 z2 z3
   have HTS := zaa.mk (touchP_succ cs i lv _ hP)
   have HTL := zaa.mk (touchP_length HK.out i (by rw [HPL.out]; omega))
   have HSd := zaa.mk (fun j (hj : j < n) => sides_range HK.out lv l (f + j) k1 k2 (by omega))
   have HSf := zaa.mk (fun j (hj : j < n) => sides_f HK.out lv l (f + j) k1 k2 (by omega))
   obtain ⟨fn, hw, hfn⟩ : ∃ fn : Int, wrap64 ((f : Int) + (n : Int)) = fn ∧ fn = (f : Int) + (n : Int) := ⟨_, rfl, zar (by omega) (by omega)⟩
   have HFN := zaa.mk hfn
   have HN6 := zaa.mk (show f + n ≤ 6 ∧ n ≤ 6 by omega)
   clear hP k1 k2 k3 k4 k5 k6 hfn
   have HNw := zaa.mk (heap_alloc_new wr (.cells #[.bool lv, .int .i64 (l : Int), .int .i64 (f : Int), .int .i64 (n : Int)] 72))
   have HBa := zaa.mk (zac HB.out (.cells #[.bool lv, .int .i64 (l : Int), .int .i64 (f : Int), .int .i64 (n : Int)] 72))
   have HOa := zaa.mk (Kd.R_below HO.out (zac (Below.refl _ _) (.cells #[.bool lv, .int .i64 (l : Int), .int .i64 (f : Int), .int .i64 (n : Int)] 72)))
   have HMa := zaa.mk (HM.out.move (fun k hk => Below.heap_alloc wr (.cells #[.bool lv, .int .i64 (l : Int), .int .i64 (f : Int), .int .i64 (n : Int)] 72) k (HM.out.lt k hk)))
   clear HB HM HO
   go_wp2
   generalize wr.alloc (.cells #[.bool lv, .int .i64 (l : Int), .int .i64 (f : Int), .int .i64 (n : Int)] 72) = wz at *
   generalize wr.heap.size = gw at *
   clear z0 z1 z2 z3
   go_loopg [6] n (fun kq v6 w' => ∃ (j : Nat) (x : Int), v6 = .int .i64 x ∧ zaa (x = (f : Int) + (j : Int)) ∧ zaa (j + kq = n) ∧ zaa (MatAt w' g0 rs.length bs (zbn rs.length rs.length (hitG (touchP cs i ++ (touchW cs lv (l, f, n)).take j)))) ∧ zaa (w'.heap[gw]? = some (.cells #[.bool lv, .int .i64 (l : Int), .int .i64 (f : Int), .int .i64 (n : Int)] 72 (0, 0))) ∧ zaa (Kd.R kWl 72 w' w.heap.size (fun _ => True) (.slice (some ⟨gr, 0, none⟩) ws.length c9) ws) ∧ zaa (Below w.heap.size w w'))
   case atStart => exact ⟨0, (f : Int), rfl, ⟨by omega⟩, ⟨by omega⟩, ⟨by simpa using HMa.out⟩, HNw, HOa, HBa⟩
   case round =>
    clear HMa HNw HOa HBa
    obtain ⟨j, x, rfl, HX, HKj, HM, HNw, HO, HB⟩ := hrel
    have y0 := (zal HNw.out 0).trans rfl
    have y1 := (zal HNw.out 1).trans rfl
    have y2 := (zal HNw.out 2).trans rfl
    have y3 := (zal HNw.out 3).trans rfl
    by_cases hj : j < n
    ·have hlt2 : x < fn := by have := HX.out; have := HFN.out; omega
     obtain ⟨a, b, hs, ha, hb⟩ := HSd.out j hj
     have hsf := HSf.out j hj
     rw [hs, show ((f + j : Nat) : Int) = x by have := HX.out; omega] at hsf
     have HSF := zaa.mk hsf
     have HS := zaa.mk hs
     have HTT := zaa.mk (touchW_take cs lv l f n j hj)
     have hTl : (touchP cs i ++ (touchW cs lv (l, f, n)).take j).length ≤ 500 := by
      have := HTL.out
      have := HN6.out
      rw [List.length_append, List.length_take, touchW_length]
      dsimp only
      omega
     obtain ⟨x', hw3, hx'⟩ : ∃ x' : Int, wrap64 (x + 1) = x' ∧ x' = (f : Int) + ((j + 1 : Nat) : Int) := ⟨_, rfl, by have := HX.out; have := HN6.out; rw [zar (by omega) (by omega)]; omega⟩
     have HX' := zaa.mk hx'
     have a0 : (0 : Int) ≤ (a : Int) := by omega
     have b0 : (0 : Int) ≤ (b : Int) := by omega
     have a1 : (a : Int) < (rs.length : Int) := by omega
     have b2 : (b : Int) < (rs.length : Int) := by omega
     obtain ⟨T, hT⟩ : ∃ T, T = touchP cs i ++ (touchW cs lv (l, f, n)).take j := ⟨_, rfl⟩
     rw [← hT] at HM hTl
     have HTn := zaa.mk (show touchP cs i ++ (touchW cs lv (l, f, n)).take (j + 1) = T ++ [((a : Int), (b : Int))] by rw [HTT.out, HS.out, ← List.append_assoc, hT])
     have HTB := zaa.mk (fun r c => hits_range' T r c)
     have HTLn := zaa.mk hTl
     clear hs hsf hx' hTl hT
     go_wp2_with (first
      | (go_at_call 102; refine (impl_floor_sides.calls g cs rs lv (l : Int) x (a : Int) (b : Int) _ _ (HF.out.below HB.out) (Below.refl _ _) HSF.out).mono ?_; rintro e w12 ⟨rfl, -, hb12, -⟩; have hm12 := HM.out.move (fun k hk => hb12.block k (HM.out.lt k hk)); obtain ⟨p1, hp1, q1, q2, q3, hm1⟩ := mat_inc hm12 a b ha hb; obtain ⟨v1, hv1, hv1'⟩ : ∃ v1 : Int, wrap64 (hitG T a b + 1) = v1 ∧ v1 = hitG T a b + 1 := ⟨_, rfl, by have := HTB.out a b; have := HTLn.out; unfold hitG; exact zar (by omega) (by omega)⟩; replace hm1 := hm1 v1 hv1'; obtain ⟨p2, hp2, r1, r2, r3, hm2⟩ := mat_inc hm1 b a hb ha; obtain ⟨v2, hv2, hv2'⟩ : ∃ v2 : Int, wrap64 (incG (hitG T) a b b a + 1) = v2 ∧ v2 = incG (hitG T) a b b a + 1 := ⟨_, rfl, by have := HTB.out b a; have := HTLn.out; unfold incG hitG; split <;> exact zar (by omega) (by omega)⟩; replace hm2 := hm2 v2 hv2'; obtain ⟨X1, ht1⟩ := hm12.typed hp1; obtain ⟨X2, ht2⟩ := hm1.typed hp2; have hn12 := (hb12.block gw (Array.getElem?_eq_some_iff.1 HNw.out).1).trans HNw.out; have HNw2 := zaa.mk ((Below.heap_setCell (w12.setCell ⟨p1, b, none⟩ (.int .i64 v1)) ⟨p2, a, none⟩ (.int .i64 v2) gw (by show gw ≠ p2; exact block_ne ((Below.heap_setCell w12 ⟨p1, b, none⟩ (.int .i64 v1) gw (by show gw ≠ p1; exact block_ne hn12 ht1 (by decide))).trans hn12) ht2 (by decide))).trans ((Below.heap_setCell w12 ⟨p1, b, none⟩ (.int .i64 v1) gw (by show gw ≠ p1; exact block_ne hn12 ht1 (by decide))).trans hn12)); have HO2 := zaa.mk (R_setF (R_setF (Kd.R_below HO.out hb12) ht1 (by decide) b (.int .i64 v1)) ht2 (by decide) a (.int .i64 v2)); have HB2 := zaa.mk (zam (zam (zaf HB.out hb12) (g := p1) (j := b) (v := .int .i64 v1) (HLow.out p1 (List.mem_cons_of_mem _ hp1))) (g := p2) (j := a) (v := .int .i64 v2) (HLow.out p2 (List.mem_cons_of_mem _ hp2))); have HM2 := zaa.mk hm2; clear hm12 hm1 hm2 hp1 hp2 ht1 ht2 hn12 hb12 hv1' hv2' HO HB HM HNw; generalize hitG T a b = g1 at q2 hv1; generalize incG (hitG T) a b b a = g2 at r2 hv2))
     go_roundg (n - (j + 1))
     case measure => have := HKj.out; omega
     case rel => exact ⟨j + 1, x', congrArg (Value.int .i64) hw3, HX', ⟨by have := HKj.out; omega⟩, ⟨by rw [HTn.out, ← gridOf_congr (fun r c _ _ => hitG_snoc T a b r c)]; exact HM2.out⟩, HNw2, HO2, HB2⟩
    ·have hge2 : ¬ x < fn := by have := HX.out; have := HFN.out; omega
     obtain rfl : j = n := by have := HKj.out; omega
     go_wp2
     go_roundg (ws.length - (i + 1))
     case measure => have := HKi.out; omega
     case rel => exact ⟨i + 1, by first | rfl | (congr 1; omega), ⟨by have := HKi.out; omega⟩, ⟨by rw [HTS.out]; have := HM.out; rwa [List.take_of_length_le (by rw [touchW_length]; exact Nat.le_refl _)] at this⟩, HO, HB⟩
  ·have hge : ¬ (i : Int) < (ws.length : Int) := by omega
   obtain rfl : i = ws.length := by have := HKi.out; omega
   go_wp2
   go_ret
   have hl := zbf rs.length rs.length (hitG (touchP cs ws.length))
   rw [HM0.out]
   exact ⟨some ⟨g0, 0, none⟩, rs.length, by rw [hl]; rfl, by rw [hl]; exact Nat.le_refl _, HM.out.reads (by rw [hl]; omega) (fun r hr => by rw [gridOf_row r hr]; omega), HB.out⟩
theorem touchM_length (cs : List (List Int)) (n : Nat) : (zcq cs n).length = n := zbf _ _ _
theorem okC_any {cs : List (List Int)} {n : Nat} {L : List Int} {c : Int} (hL : L.length < n) : okC cs L c = !((nearL cs n (L.length : Int)).any fun b => decide (b < (L.length : Int)) && (rd L b == c)) := by
 unfold okC okTo
 rw [Bool.eq_iff_iff, List.all_eq_true, Bool.not_eq_true', List.any_eq_false]
 constructor
 ·intro h b hb
  obtain ⟨b', rfl, h1, h2⟩ := (nearL_mem cs n _ b).1 hb
  by_cases hlt : b' < L.length
  ·have := h b' (List.mem_range.2 hlt)
   rw [Bool.not_eq_true', Bool.and_eq_false_iff] at this
   rcases this with h3 | h3
   ·simp [h3]
   ·rw [decide_eq_false_iff_not] at h3
    exact absurd h2 h3
  ·have : ¬ (b' : Int) < (L.length : Int) := by omega
   simp [this]
 ·intro h b hb
  have hb' := List.mem_range.1 hb
  rw [Bool.not_eq_true', Bool.and_eq_false_iff]
  by_cases h2 : besN cs (L.length : Int) (b : Int) > 0
  ·have := h (b : Int) ((nearL_mem cs n _ _).2 ⟨b, rfl, by omega, h2⟩)
   rw [Bool.not_eq_true, Bool.and_eq_false_iff] at this
   rcases this with h3 | h3
   ·rw [decide_eq_false_iff_not] at h3
    omega
   ·exact .inl h3
  ·exact .inr (decide_eq_false h2)
def NextRes (w0 w : World) (po : Nat) (P : Nat → Prop) (L : List Int) (r : Option (List Int)) (e : Ending) (w' : World) : Prop :=
 ∃ v', e = .returned (.bool r.isSome) ∧ w'.heap[po]? = some (.cells #[v'] 24 (0, 0)) ∧ Kd.R (Kd.int .i64) 3 w' w0.heap.size (fun k => P k ∨ w.heap.size ≤ k) v' (r.getD L) ∧ Kept w w' (fun k => k = po ∨ P k) ∧ Below w0.heap.size w0 w'
structure NextIn (w0 w : World) (pl pm po pn : Nat) (Al : Option Addr) (cl : Nat) (cs : List (List Int)) (n many : Nat) (P : Nat → Prop) (L : List Int) (v : Value) : Prop where
 below : Below w0.heap.size w0 w
 lens : w.cell? ⟨pl, 0, none⟩ = some (.slice Al (zcq cs n).length cl)
 many : w.cell? ⟨pm, 0, none⟩ = some (.int .i64 (many : Int))
 next : w.cell? ⟨pn, 0, none⟩ = some (.func (.func 103) #[] #[.pointer (some ⟨po, 0, none⟩), .pointer (some ⟨pl, 0, none⟩), .pointer (some ⟨pm, 0, none⟩), .pointer (some ⟨pn, 0, none⟩)])
 out : w.heap[po]? = some (.cells #[v] 24 (0, 0))
 row : Kd.R (Kd.int .i64) 3 w w0.heap.size P v L
 base : w0.heap.size ≤ po
 ne : pl ≠ po ∧ pm ≠ po ∧ pn ≠ po
 no : ¬ P po ∧ ¬ P pl ∧ ¬ P pm ∧ ¬ P pn
theorem NextIn.kept {w0 w W : World} {pl pm po pn : Nat} {Al : Option Addr} {cl : Nat} {cs : List (List Int)} {n many : Nat} {P : Nat → Prop} {L : List Int} {v : Value} (h : NextIn w0 w pl pm po pn Al cl cs n many P L v) (hk : Kept w W (fun k => k = po ∨ P k)) :
  W.cell? ⟨pl, 0, none⟩ = some (.slice Al (zcq cs n).length cl) ∧ W.cell? ⟨pm, 0, none⟩ = some (.int .i64 (many : Int)) ∧ W.cell? ⟨pn, 0, none⟩ = some (.func (.func 103) #[] #[.pointer (some ⟨po, 0, none⟩), .pointer (some ⟨pl, 0, none⟩), .pointer (some ⟨pm, 0, none⟩), .pointer (some ⟨pn, 0, none⟩)]) :=
 ⟨cell_kept h.lens hk (fun z => z.elim h.ne.1 h.no.2.1), cell_kept h.many hk (fun z => z.elim h.ne.2.1 h.no.2.2.1), cell_kept h.next hk (fun z => z.elim h.ne.2.2 h.no.2.2.2)⟩
theorem set_one {w : World} {b : Nat} {t : TypeId} {x : Value} (h : w.heap[b]? = some (.cells #[x] t (0, 0))) (v : Value) : (w.setCell ⟨b, 0, none⟩ v).heap[b]? = some (.cells #[v] t (0, 0)) := by
 simp only [World.setCell, Array.getElem?_modify, if_true, h, Option.map_some]
 simp
set_option maxHeartbeats 4000000 in
set_option maxRecDepth 100000 in
theorem next_calls (cs : List (List Int)) (n many : Nat) (h9 : n ≤ 9) (hm : many ≤ 9) (w0 : World) (pl pm po pn : Nat) (Al : Option Addr) (cl : Nat) (hl : (zcq cs n).length ≤ cl) (hC : (Kd.slice 3 (Kd.int .i64)).C w0 Al (zcq cs n).length (zcq cs n)) :
  ∀ (f : Nat) (L : List Int) (P : Nat → Prop) (w : World) (v : Value), L.length + f = n → NextIn w0 w pl pm po pn Al cl cs n many P L v →
  Calls Try.prog 103 #[.pointer (some ⟨po, 0, none⟩), .pointer (some ⟨pl, 0, none⟩), .pointer (some ⟨pm, 0, none⟩), .pointer (some ⟨pn, 0, none⟩)] w (NextRes w0 w po P L (colG cs many f L)) := by
 have HTl := zaa.mk (touchM_length cs n)
 have HC := zaa.mk hC
 have HLc := zaa.mk hl
 clear hC hl
 intro f
 induction f with
 | zero =>
  intro L P w v hL hin
  have HIn := zaa.mk hin
  have hlen := hin.lens
  have hout := zch hin.out
  obtain ⟨Av, cv, ev, hcv, hCv⟩ := Kd.R_reads hin.row
  subst ev
  have HL := zaa.mk hL
  clear hin hL hCv hcv
  have d1 : ((L.length : Int) == ((zcq cs n).length : Int)) = true := by rw [beq_iff_eq, HTl.out]; have := HL.out; omega
  go_enter Try.func103, Try.ntmps103
  go_upto_region 2 with (fail)
  have hb := zac (Below.refl w.heap.size w) (.cells #[.int .i64 (L.length : Int)] 3)
  have hk := heap_alloc_new w (.cells #[.int .i64 (L.length : Int)] 3)
  generalize w.alloc (.cells #[.int .i64 (L.length : Int)] 3) = w1 at *
  have hlen1 := zae hb hlen
  have ha1 := zch hk
  have HB := zaa.mk hb
  clear hb hk hlen hout
  go_wp2
  go_ret
  exact ⟨_, rfl, (HB.out.block po (zbo HIn.out.out)).trans HIn.out.out, Kd.R_mono (Kd.R_below HIn.out.row HB.out) (fun k hk => .inl hk), (Kept.of_below HB.out _), zaf HIn.out.below HB.out⟩
 | succ f ih =>
  intro L P w v hL hin
  have HIh := zaa.mk ih
  clear ih
  have HIn := zaa.mk hin
  have hlen := hin.lens
  have hmany := hin.many
  have hout := zch hin.out
  obtain ⟨Av, cv, ev, hcv, hCv⟩ := Kd.R_reads hin.row
  subst ev
  have HL := zaa.mk hL
  clear hin hCv hcv
  have d1 : ((L.length : Int) == ((zcq cs n).length : Int)) = false := by rw [beq_eq_false_iff_ne, HTl.out]; omega
  clear hL
  go_enter Try.func103, Try.ntmps103
  go_upto_region 2 with (fail)
  have hb := zac (Below.refl w.heap.size w) (.cells #[.int .i64 (L.length : Int)] 3)
  have hk := heap_alloc_new w (.cells #[.int .i64 (L.length : Int)] 3)
  have HSz := zaa.mk (show (w.alloc (.cells #[.int .i64 (L.length : Int)] 3)).heap.size = w.heap.size + 1 by simp)
  generalize w.alloc (.cells #[.int .i64 (L.length : Int)] 3) = w1 at *
  obtain ⟨pa, hpa⟩ : ∃ pa, pa = w.heap.size := ⟨_, rfl⟩
  rw [← hpa] at hk ⊢
  have HPa := zaa.mk hpa
  have hlen1 := zae hb hlen
  have hmany1 := zae hb hmany
  have ha1 := zch hk
  have HB := zaa.mk hb
  have HOut1 := zaa.mk ((hb.block po (zbo HIn.out.out)).trans HIn.out.out)
  have HRow1 := zaa.mk (Kd.R_below (Kd.R_mono (Kd.R_bound HIn.out.row) (ok' := fun k => P k ∧ k < pa) (fun k hk => ⟨hk.1, by have := hk.2.2.1; omega⟩)) hb)
  have HPk := zaa.mk hk
  clear hb hk hlen hout hmany hpa
  go_wp2
  have HSt := zaa.mk (show colG cs many (f + 1) L = (List.range' 0 (many - 0)).findSome? fun (c : Nat) => if okC cs L (c : Int) = true then colG cs many f (L ++ [(c : Int)]) else none from rfl)
  have HRowS := zaa.mk (Kd.R_mono HRow1.out (ok' := fun k => (P k ∧ k < pa) ∨ pa < k) (fun k hk => .inl hk))
  have HKS := zaa.mk (Kept.of_below HB.out (fun k => k = po ∨ P k))
  have HBS := zaa.mk (zaf HIn.out.below HB.out)
  go_loopg [15] many (fun kq v15 w' => ∃ (c : Nat) (v : Value), v15 = .int .i64 (c : Int) ∧ zaa (c + kq = many) ∧ zaa (colG cs many (f + 1) L = (List.range' c (many - c)).findSome? fun (c : Nat) => if okC cs L (c : Int) = true then colG cs many f (L ++ [(c : Int)]) else none) ∧ zaa (w'.heap[po]? = some (.cells #[v] 24 (0, 0))) ∧ zaa (Kd.R (Kd.int .i64) 3 w' w0.heap.size (fun k => (P k ∧ k < pa) ∨ pa < k) v L) ∧ zaa (w'.heap[pa]? = some (.cells #[.int .i64 (L.length : Int)] 3 (0, 0))) ∧ zaa (Kept w w' (fun k => k = po ∨ P k)) ∧ zaa (Below w0.heap.size w0 w') ∧ zaa (w.heap.size ≤ w'.heap.size))
  case atStart => exact ⟨0, _, rfl, ⟨by omega⟩, HSt, HOut1, HRowS, HPk, HKS, HBS, ⟨HB.out.size⟩⟩
  case round =>
   clear HRowS HKS HBS HSt HOut1 HRow1 HPk hlen1 hmany1 ha1
   obtain ⟨c, v, rfl, HKc, HEq, HO, HR, HPk, HKp, HBl, HSw⟩ := hrel
   by_cases hc : c < many
   ·have hlt : (c : Int) < (many : Int) := by omega
    obtain ⟨l1, m1, n1⟩ := HIn.out.kept HKp.out
    go_upto_region 7 with (fail)
    have hb := zac (Below.refl wr.heap.size wr) (.cells #[.int .i64 (c : Int)] 3)
    have hk := heap_alloc_new wr (.cells #[.int .i64 (c : Int)] 3)
    generalize wr.alloc (.cells #[.int .i64 (c : Int)] 3) = w2 at *
    obtain ⟨pc, hpc⟩ : ∃ pc, pc = wr.heap.size := ⟨_, rfl⟩
    rw [← hpc] at hk ⊢
    have HPc := zaa.mk hpc
    obtain ⟨Av2, cv2, ev, hcv, hCv⟩ := Kd.R_reads HR.out
    subst ev
    have hl2 := zae hb l1
    have ha2 := zae hb (zch HPk.out)
    have ho2 := zae hb (zch HO.out)
    have hc2 := zch hk
    have HC2 := zaa.mk (Kd.C_below hCv hb)
    have HB2 := zaa.mk hb
    have HBl2 := zaa.mk (zaf HBl.out hb)
    have HN1 := zaa.mk n1
    clear hb hk hCv hcv l1 m1 n1 hpc
    obtain ⟨K, hK⟩ := near_ev cs n L.length h9 (by have := HL.out; omega)
    have HNr := zaa.mk (hK K (Nat.le_refl K))
    have HNl := zaa.mk (show ∀ x ∈ nearL cs n (L.length : Int), 0 ≤ x from fun x hx => by obtain ⟨b, rfl, -, -⟩ := (nearL_mem cs n _ x).1 hx; omega)
    have hany := okC_any (cs := cs) (n := n) (L := L) (c := (c : Int)) (by have := HL.out; omega)
    obtain ⟨q, hq⟩ : ∃ q, many - c = q + 1 := ⟨many - (c + 1), by omega⟩
    have hst := HEq.out
    rw [hq, List.range'_succ, List.findSome?_cons] at hst
    have HQ := zaa.mk (show q = many - (c + 1) by omega)
    clear hK hq HEq
    generalize nearL cs n (L.length : Int) = nl at *
    cases hok : okC cs L (c : Int) with
    | false =>
     rw [hok] at hany hst
     rw [if_neg (by simp)] at hst
     have HSt := zaa.mk hst
     have HAny := zaa.mk (show (nl.any fun b => decide (b < (L.length : Int)) && (rd L b == (c : Int))) = true by simpa using hany.symm)
     clear hst hany hok
     go_wp2_with (first
      | (go_at_call 106; refine (impl_near.calls K Al cl (zcq cs n) (L.length : Int) nl _ (Kd.C_below HC.out HBl2.out) HLc.out HNr.out).mono ?_; rintro e w3 ⟨v3, rfl, hr3, hb3⟩; obtain ⟨A3, c3, e3, hcc3, hC3⟩ := Kd.R_reads hr3; subst e3; have HB3 := zaa.mk (zaf HB2.out hb3); have HC3 := zaa.mk hC3; have hl3 := zae hb3 hl2; have ha3 := zae hb3 ha2; have ho3 := zae hb3 ho2; have hc3 := zae hb3 hc2; have HCo3 := zaa.mk (Kd.C_below HC2.out hb3); clear hb3 hr3 hcc3 hC3)
      | (go_at_call 105; refine (containsI_calls 104 Try.f104 Try.func104 (by kernel_rfl) rfl _ (fun b => decide (b < (L.length : Int)) && (rd L b == (c : Int))) A3 c3 nl _ HC3.out (clash_pred _ pa po pc Av2 cv2 L (c : Int) nl ha3 ho3 HCo3.out hc3 HNl.out)).mono ?_; rw [HAny.out]; rintro e w4 ⟨rfl, hb4⟩; have HB4 := zaa.mk (zaf HB3.out hb4); clear hb4))
     go_roundg (many - (c + 1))
     case measure => have := HKc.out; omega
     case rel => exact ⟨c + 1, _, by first | rfl | (congr 1; omega), ⟨by have := HKc.out; omega⟩, ⟨by rw [← HQ.out]; exact HSt.out⟩, ⟨(HB4.out.block po (zbo HO.out)).trans HO.out⟩, ⟨Kd.R_below HR.out HB4.out⟩, ⟨(HB4.out.block pa (zbo HPk.out)).trans HPk.out⟩, ⟨HKp.out.below HB4.out⟩, ⟨zaf HBl.out HB4.out⟩, ⟨Nat.le_trans HSw.out HB4.out.size⟩⟩
    | true =>
     rw [hok] at hany hst
     rw [if_pos rfl] at hst
     have HAny := zaa.mk (show (nl.any fun b => decide (b < (L.length : Int)) && (rd L b == (c : Int))) = false by simpa using hany.symm)
     have HSt0 := zaa.mk hst
     clear hst hany hok
     go_upto_region 9 with (first
      | (go_at_call 106; refine (impl_near.calls K Al cl (zcq cs n) (L.length : Int) nl _ (Kd.C_below HC.out HBl2.out) HLc.out HNr.out).mono ?_; rintro e w3 ⟨v3, rfl, hr3, hb3⟩; obtain ⟨A3, c3, e3, hcc3, hC3⟩ := Kd.R_reads hr3; subst e3; have HB3 := zaa.mk (zaf HB2.out hb3); have HC3 := zaa.mk hC3; have hl3 := zae hb3 hl2; have ha3 := zae hb3 ha2; have ho3 := zae hb3 ho2; have hc3 := zae hb3 hc2; have HCo3 := zaa.mk (Kd.C_below HC2.out hb3); clear hb3 hr3 hcc3 hC3)
      | (go_at_call 105; refine (containsI_calls 104 Try.f104 Try.func104 (by kernel_rfl) rfl _ (fun b => decide (b < (L.length : Int)) && (rd L b == (c : Int))) A3 c3 nl _ HC3.out (clash_pred _ pa po pc Av2 cv2 L (c : Int) nl ha3 ho3 HCo3.out hc3 HNl.out)).mono ?_; rw [HAny.out]; rintro e w4 ⟨rfl, hb4⟩; have HB4 := zaa.mk (zaf HB3.out hb4); have ho4 := zae hb4 ho3; have hc4 := zae hb4 hc3; clear hb4))
     have hpo : po < pa := by have := zbo HIn.out.out; have := HPa.out; omega
     have hpl : pl < pa := by have h := World.block_lt_of_cell? _ _ HIn.out.lens; have := HPa.out; simp only at h; omega
     have hpm : pm < pa := by have h := World.block_lt_of_cell? _ _ HIn.out.many; have := HPa.out; simp only at h; omega
     have hpn : pn < pa := by have h := World.block_lt_of_cell? _ _ HIn.out.next; have := HPa.out; simp only at h; omega
     have hpaw : pa < wr.heap.size := zbo HPk.out
     have hw4 : wr.heap.size ≤ w4.heap.size := HB4.out.size
     have HNum := zaa.mk (show po < pa ∧ pl < pa ∧ pm < pa ∧ pn < pa ∧ pa < wr.heap.size ∧ wr.heap.size ≤ w4.heap.size from ⟨hpo, hpl, hpm, hpn, hpaw, hw4⟩)
     have HR4 := zaa.mk (Kd.R_mono (Kd.R_below (Kd.R_bound HR.out) HB4.out) (ok' := fun k => (((P k ∧ k < pa) ∨ pa < k) ∧ k < wr.heap.size) ∨ w4.heap.size ≤ k) (fun k hk => .inl ⟨hk.1, hk.2.2.1⟩))
     have HBl4 := zaa.mk (zaf HBl.out HB4.out)
     have HPk4 := zaa.mk ((HB4.out.block pa (zbo HPk.out)).trans HPk.out)
     have HO4 := zaa.mk ((HB4.out.block po (zbo HO.out)).trans HO.out)
     have HKp4 := zaa.mk (HKp.out.below HB4.out)
     clear hpo hpl hpm hpn hpaw hw4
     go_upto_region 10 with (first
      | ((with_reducible refine zau (b := .append) (xs := #[.tmp 24, .tmp 26]) rfl ?_); at_builtin; refine Kd.R_append (Kd.int .i64) (w0 := w0) w0.heap.size rfl (.tmp 24) (.tmp 26) 24 3 (.int .i64 0) 8 rfl Try.underlying24 info3 rfl (by decide) (by omega) (.slice Av2 L.length cv2) L (c : Int) [.int .i64 (c : Int)] (fun k => (((P k ∧ k < pa) ∨ pa < k) ∧ k < wr.heap.size) ∨ w4.heap.size ≤ k) (fun _ => False) rfl rfl ?aP (fun _ hk => hk.elim) ?aF ?aO ?aB ?aS ?aL ?_; (case aP => exact rfl); (case aB => exact HBl4.out); (case aF => exact (fun k_ hk => .inr hk)); (case aO => exact HR4.out); (case aS => exact HBl4.out.size); (case aL => have := HL.out; omega); intro v5 w5 ho5 hb5 hg5 hat5; obtain ⟨L1, eL1⟩ : ∃ L1, L1 = L ++ [(c : Int)] := ⟨_, rfl⟩; rw [← eL1] at ho5; have EL1 := zaa.mk eL1; obtain ⟨A5, c5, e5⟩ := Kd.R_slice ho5; subst e5; have HR5 := zaa.mk ho5; have HB5 := zaa.mk hb5; have HK5 := zaa.mk (Kept.of_grown hg5 (Kept.refl w4 (fun k => (((P k ∧ k < pa) ∨ pa < k) ∧ k < wr.heap.size))) (fun k hk => HR4.out.1 k hk)); have hO5 := blk_kept HO4.out HK5.out (fun z => by have hn := HNum.out; exact z.1.elim (fun y => HIn.out.no.1 y.1) (fun y => by omega)); have hf5 := zaq hO5 0; have hc5 := zch hO5; have HO5 := zaa.mk hO5; clear ho5 hb5 hg5 hat5 hO5 eL1))
     have hpo : ¬ ((((P po ∧ po < pa) ∨ pa < po) ∧ po < wr.heap.size) ∨ w4.heap.size ≤ po) := fun z => by have hn := HNum.out; exact z.elim (fun z => z.1.elim (fun y => HIn.out.no.1 y.1) (fun y => by omega)) (fun y => by omega)
     have hpl : ¬ ((((P pl ∧ pl < pa) ∨ pa < pl) ∧ pl < wr.heap.size) ∨ w4.heap.size ≤ pl) := fun z => by have hn := HNum.out; exact z.elim (fun z => z.1.elim (fun y => HIn.out.no.2.1 y.1) (fun y => by omega)) (fun y => by omega)
     have hpm : ¬ ((((P pm ∧ pm < pa) ∨ pa < pm) ∧ pm < wr.heap.size) ∨ w4.heap.size ≤ pm) := fun z => by have hn := HNum.out; exact z.elim (fun z => z.1.elim (fun y => HIn.out.no.2.2.1 y.1) (fun y => by omega)) (fun y => by omega)
     have hpn : ¬ ((((P pn ∧ pn < pa) ∨ pa < pn) ∧ pn < wr.heap.size) ∨ w4.heap.size ≤ pn) := fun z => by have hn := HNum.out; exact z.elim (fun z => z.1.elim (fun y => HIn.out.no.2.2.2 y.1) (fun y => by omega)) (fun y => by omega)
     have hO6 := set_one HO5.out (.slice A5 L1.length c5)
     have hR6 := Kd.R_far (p := ⟨po, 0, none⟩) HR5.out (fun k hk e => hpo (by rw [show po = k from e.symm]; exact hk)) (.slice A5 L1.length c5)
     have hK6 : Kept w4 (w5.setCell ⟨po, 0, none⟩ (.slice A5 L1.length c5)) (fun k => k = po ∨ (((P k ∧ k < pa) ∨ pa < k) ∧ k < wr.heap.size)) := (HK5.out.mono (fun k hk => .inr hk)).setCell (.inl (.inl rfl)) _
     have hB6 : Below w0.heap.size w0 (w5.setCell ⟨po, 0, none⟩ (.slice A5 L1.length c5)) := zam HB5.out HIn.out.base
     generalize w5.setCell ⟨po, 0, none⟩ (.slice A5 L1.length c5) = w6 at *
     have hKw6 : Kept w w6 (fun k => k = po ∨ P k) := HKp4.out.then_ hK6 (fun k hk => by have hn := HNum.out; have ha := HPa.out; exact hk.elim (fun h => .inl (.inl h)) (fun h => h.1.elim (fun y => .inl (.inr y.1)) (fun y => .inr (by omega))))
     have hPk6 := blk_kept HPk4.out hK6 (fun z => by have hn := HNum.out; exact z.elim (fun h => by omega) (fun h => h.1.elim (fun y => by omega) (fun y => by omega)))
     obtain ⟨l6, m6, n6⟩ := HIn.out.kept hKw6
     have HNi := zaa.mk (show NextIn w0 w6 pl pm po pn Al cl cs n many (fun k => (((P k ∧ k < pa) ∨ pa < k) ∧ k < wr.heap.size) ∨ w4.heap.size ≤ k) L1 (.slice A5 L1.length c5) from ⟨hB6, l6, m6, n6, hO6, hR6, HIn.out.base, HIn.out.ne, hpo, hpl, hpm, hpn⟩)
     have HCall := zaa.mk (HIh.out L1 _ w6 _ (by rw [EL1.out]; have := HL.out; simp; omega) HNi.out)
     have HKw6 := zaa.mk hKw6
     have HPk6 := zaa.mk hPk6
     have HS6 := zaa.mk (show pa < w6.heap.size from zbo hPk6)
     have HS46 := zaa.mk (show w4.heap.size ≤ w6.heap.size from hK6.1)
     have hfn := n6
     clear hpo hpl hpm hpn hO6 hR6 hK6 hB6 hKw6 hPk6 l6 m6 n6 hf5 hc5
     clear HNi HO5 HR5 HB5 HK5
     have hst := HSt0.out
     rw [← EL1.out] at hst
     have y0 : (0 : Int) ≤ (L.length : Int) := by omega
     have y1 : (L.length : Int) ≤ (L1.length : Int) := by rw [EL1.out]; simp; omega
     have HY := zaa.mk (show L.length ≤ L1.length by omega)
     rcases hG : colG cs many f L1 with _ | r
     ·rw [hG] at hst HCall
      have HSt := zaa.mk (show colG cs many (f + 1) L = (List.range' (c + 1) q).findSome? fun (c : Nat) => if okC cs L (c : Int) = true then colG cs many f (L ++ [(c : Int)]) else none from hst)
      clear hst hG HSt0
      go_wp2_with (first
       | (go_at_call 103; refine HCall.out.mono ?_; rintro e w7 ⟨v7, rfl, hO7, hR7, hK7, hB7⟩; replace hR7 : Kd.R (Kd.int .i64) 3 w7 w0.heap.size (fun k => ((((P k ∧ k < pa) ∨ pa < k) ∧ k < wr.heap.size) ∨ w4.heap.size ≤ k) ∨ w6.heap.size ≤ k) v7 L1 := hR7; obtain ⟨A7, c7, e7, hc7, -⟩ := Kd.R_reads hR7; subst e7; have ho7 := zch hO7; have hf7 := zaq hO7 0; have hpk7 := blk_kept HPk6.out hK7 (fun z => by have hn := HNum.out; exact z.elim (fun h => by omega) (fun h => h.elim (fun h => h.1.elim (fun y => by omega) (fun y => by omega)) (fun y => by omega))); have ha7 := zch hpk7; have y2 : L1.length ≤ c7 := hc7; have HPk7 := zaa.mk hpk7; have HO7 := zaa.mk hO7; have HR7 := zaa.mk hR7; have HK7 := zaa.mk hK7; have HB7 := zaa.mk hB7; clear hO7 hR7 hK7 hB7 hc7 hpk7))
      have hRt := Kd.R_take HR7.out HY.out
      rw [show L1.take L.length = L by rw [EL1.out]; simp] at hRt
      have hRf := Kd.R_far (p := ⟨po, 0, none⟩) hRt (fun k hk e => by have hn := HNum.out; have h6 := HS6.out; have hk' : ((((P k ∧ k < pa) ∨ pa < k) ∧ k < wr.heap.size) ∨ w4.heap.size ≤ k) ∨ w6.heap.size ≤ k := hk; have e' : k = po := e; exact hk'.elim (fun h => h.elim (fun h => h.1.elim (fun y => HIn.out.no.1 (e' ▸ y.1)) (fun y => by omega)) (fun y => by omega)) (fun y => by omega)) (.slice A7 L.length c7)
      have HRf := zaa.mk (Kd.R_mono hRf (ok' := fun k => (P k ∧ k < pa) ∨ pa < k) (fun k hk => by have hn := HNum.out; have h6 := HS6.out; exact hk.elim (fun h => h.elim (fun h => h.1) (fun y => .inr (by omega))) (fun y => .inr (by omega))))
      have HKf := zaa.mk (show Kept w (w7.setCell ⟨po, 0, none⟩ (.slice A7 L.length c7)) (fun k => k = po ∨ P k) from (HKw6.out.then_ HK7.out (fun k hk => by have hn := HNum.out; have ha := HPa.out; exact hk.elim (fun h => .inl (.inl h)) (fun h => h.elim (fun h => h.1.elim (fun y => .inl (.inr y.1)) (fun y => .inr (by omega))) (fun y => .inr (by omega))))).setCell (.inl (.inl rfl)) _)
      have HPf := zaa.mk (show (w7.setCell ⟨po, 0, none⟩ (.slice A7 L.length c7)).heap[pa]? = _ from (Below.heap_setCell w7 ⟨po, 0, none⟩ _ pa (by have hn := HNum.out; simp only; omega)).trans HPk7.out)
      have HOf := zaa.mk (set_one HO7.out (.slice A7 L.length c7))
      have HBf := zaa.mk (show Below w0.heap.size w0 (w7.setCell ⟨po, 0, none⟩ (.slice A7 L.length c7)) from zam HB7.out HIn.out.base)
      have HSf := zaa.mk (show w.heap.size ≤ (w7.setCell ⟨po, 0, none⟩ (.slice A7 L.length c7)).heap.size from HKf.out.1)
      clear hRt hRf
      go_roundg (many - (c + 1))
      case measure => have := HKc.out; omega
      case rel => exact ⟨c + 1, _, by first | rfl | (congr 1; omega), ⟨by have := HKc.out; omega⟩, ⟨by rw [← HQ.out]; exact HSt.out⟩, HOf, HRf, HPf, HKf, HBf, HSf⟩
     ·rw [hG] at hst HCall
      have HSt := zaa.mk (show colG cs many (f + 1) L = some r from hst)
      clear hst hG HSt0
      go_wp2_with (first
       | (go_at_call 103; refine HCall.out.mono ?_; rintro e w7 ⟨v7, rfl, hO7, hR7, hK7, hB7⟩; have HO7 := zaa.mk hO7; have HR7 := zaa.mk hR7; have HK7 := zaa.mk hK7; have HB7 := zaa.mk hB7; clear hO7 hR7 hK7 hB7))
      go_ret
      rw [HSt.out]
      exact ⟨v7, rfl, HO7.out, Kd.R_mono HR7.out (fun k hk => by have hn := HNum.out; have ha := HPa.out; have h6 := HS6.out; exact hk.elim (fun h => h.elim (fun h => h.1.elim (fun y => .inl y.1) (fun y => .inr (by omega))) (fun y => .inr (by omega))) (fun y => .inr (by omega))), HKw6.out.then_ HK7.out (fun k hk => by have hn := HNum.out; have ha := HPa.out; exact hk.elim (fun h => .inl (.inl h)) (fun h => h.elim (fun h => h.1.elim (fun y => .inl (.inr y.1)) (fun y => .inr (by omega))) (fun y => .inr (by omega)))), HB7.out⟩
   ·have hge : ¬ (c : Int) < (many : Int) := by omega
    have hst := HEq.out
    rw [show many - c = 0 by omega, List.range'_zero, List.findSome?_nil] at hst
    have HSt := zaa.mk hst
    clear hst HEq
    go_wp2
    go_ret
    rw [HSt.out]
    exact ⟨_, rfl, HO.out, Kd.R_mono HR.out (fun k hk => hk.elim (fun h => .inl h.1) (fun h => .inr (by have := HPa.out; omega))), HKp.out, HBl.out⟩
theorem colG_length (cs : List (List Int)) (many : Nat) : ∀ (f : Nat) (L r : List Int), colG cs many f L = some r → r.length = L.length + f
 | 0, L, r, h => by injection h with h; rw [← h]; rfl
 | f + 1, L, r, h => by
  unfold colG at h
  obtain ⟨c, -, h1⟩ := List.exists_of_findSome?_eq_some h
  split at h1
  ·have := colG_length cs many f _ r h1
   rw [this, List.length_append, List.length_singleton]
   omega
  ·cases h1
def ColRes (w : World) (r : Option (List Int)) (e : Ending) (w' : World) : Prop :=
 Below w.heap.size w w' ∧ match r with
  | none => e = .returned (.slice none 0 0)
  | some r => ∃ v, e = .returned v ∧ Kd.R (Kd.int .i64) 3 w' w.heap.size (fun _ => True) v r
set_option maxHeartbeats 4000000 in
set_option maxRecDepth 100000 in
theorem coloured_calls (cs : List (List Int)) (n many : Nat) (h9 : n ≤ 9) (hm : many ≤ 9) (w : World) (Al : Option Addr) (cl : Nat) (hl : (zcq cs n).length ≤ cl) (hC : (Kd.slice 3 (Kd.int .i64)).C w Al (zcq cs n).length (zcq cs n)) :
  Calls Try.prog 81 #[.slice Al (zcq cs n).length cl, .int .i64 (many : Int)] w (ColRes w (colG cs many n [])) := by
 have HNx := zaa.mk (fun pl pm po pn P v w1 => next_calls cs n many h9 hm w pl pm po pn Al cl hl hC n [] P w1 v (by simp))
 clear hl hC
 go_enter Try.func81, Try.ntmps81
 go_upto_region 1 with (first
  | ((with_reducible refine zaw (N := 2) rfl ?_); refine zbx ?hg (N := 2) ?hd (cs := #[.slice Al (zcq cs n).length cl]) (t := 40) ?hr ?_; (case hd => rfl); (case hg => rfl); (case hr => first | (go_simp; done) | (go_simp; rfl)); intro pl hql w1 hbox hb; have HB1 := zaa.mk hb; have HL1 := zaa.mk hbox; have HQl := zaa.mk hql; clear hb hbox hql)
  | ((with_reducible refine zaw (N := 3) rfl ?_); refine zbx ?hg (N := 3) ?hd (cs := #[.int .i64 (many : Int)]) (t := 3) ?hr ?_; (case hd => rfl); (case hg => rfl); (case hr => first | (go_simp; done) | (go_simp; rfl)); intro pm hqm w2 hbox hb; have HB2 := zaa.mk (zaf HB1.out hb); have HL2 := zaa.mk ((hb.block _ (zbo HL1.out)).trans HL1.out); have HM2 := zaa.mk hbox; have HQm := zaa.mk hqm; clear hb hbox hqm))
 go_upto_region 2 with (first
  | ((with_reducible refine zaw (N := 7) rfl ?_); refine Kd.R_lit (Kd.int .i64) _ 3 ?hg (N := 7) ?hd (xs := ([] : List Int)) (inner := []) (ok := fun _ => True) (okp := fun _ => True) ?hr ?hp (fun _ hk => hk) trivial (Below.refl _ _) (Nat.le_refl _) (by simp) ?_; (case hd => rfl); (case hg => rfl); (case hr => first | (go_simp; done) | (go_simp; rfl)); (case hp => exact (Reps.none _ _)); intro v7 w3 ho3 hb3 hg_ hnew_; clear hg_ hnew_; obtain ⟨A3, c3, e3⟩ := Kd.R_slice ho3; subst e3; have HO3 := zaa.mk ho3; have HB3 := zaa.mk (zaf HB2.out hb3); have HL3 := zaa.mk ((hb3.block _ (zbo HL2.out)).trans HL2.out); have HM3 := zaa.mk ((hb3.block _ (zbo HM2.out)).trans HM2.out); have HSz3 := zaa.mk hb3.size; clear hb3 ho3))
 have hb := zac (Below.refl w3.heap.size w3) (.cells #[.slice A3 0 c3] 24)
 have hk := heap_alloc_new w3 (.cells #[.slice A3 0 c3] 24)
 generalize w3.alloc (.cells #[.slice A3 0 c3] 24) = w4 at *
 obtain ⟨po, hpo⟩ : ∃ po, po = w3.heap.size := ⟨_, rfl⟩
 rw [← hpo] at hk ⊢
 have HQo := zaa.mk hpo
 have HB4 := zaa.mk (zaf HB3.out hb)
 have HL4 := zaa.mk ((hb.block _ (zbo HL3.out)).trans HL3.out)
 have HM4 := zaa.mk ((hb.block _ (zbo HM3.out)).trans HM3.out)
 have HR4 := zaa.mk (Kd.R_below (Kd.R_bound HO3.out) hb)
 have HO4 := zaa.mk hk
 clear hb hk hpo
 go_upto_region 3 with (fail)
 have hb := zac (Below.refl w4.heap.size w4) (.cells #[.nilFunc] 103)
 have hk := heap_alloc_new w4 (.cells #[.nilFunc] 103)
 generalize w4.alloc (.cells #[.nilFunc] 103) = w5 at *
 obtain ⟨pn, hpn⟩ : ∃ pn, pn = w4.heap.size := ⟨_, rfl⟩
 rw [← hpn] at hk ⊢
 have HQn := zaa.mk hpn
 have HB5 := zaa.mk (zaf HB4.out hb)
 have HL5 := zaa.mk ((hb.block _ (zbo HL4.out)).trans HL4.out)
 have HM5 := zaa.mk ((hb.block _ (zbo HM4.out)).trans HM4.out)
 have HO5 := zaa.mk ((hb.block _ (zbo HO4.out)).trans HO4.out)
 have HR5 := zaa.mk (Kd.R_below HR4.out hb)
 have HN5 := zaa.mk hk
 have hn5 := zch hk
 have hf5 := zaq hk 0
 have HNum := zaa.mk (show w.heap.size ≤ pl ∧ pl < w2.heap.size ∧ pm < w2.heap.size ∧ w2.heap.size ≤ w3.heap.size ∧ po = w3.heap.size ∧ po < pn from ⟨by rw [HQl.out]; exact Nat.le_refl _, by have := HL2.out; exact zbo this, zbo HM2.out, HSz3.out, HQo.out, by rw [HQn.out]; exact zbo HO4.out⟩)
 clear hb hk hpn
 have hst : (store ⟨pn, 0, none⟩ (.func (.func 103) #[] #[.pointer (some ⟨po, 0, none⟩), .pointer (some ⟨pl, 0, none⟩), .pointer (some ⟨pm, 0, none⟩), .pointer (some ⟨pn, 0, none⟩)])).run Try.prog w5 = .ok () (w5.setCell ⟨pn, 0, none⟩ (.func (.func 103) #[] #[.pointer (some ⟨po, 0, none⟩), .pointer (some ⟨pl, 0, none⟩), .pointer (some ⟨pm, 0, none⟩), .pointer (some ⟨pn, 0, none⟩)])) := by
  rw [run_store _ _ _ _ _ rfl]
  go_simp
 go_upto_region 4 with (fail)
 clear hst
 have hO6 := (Below.heap_setCell w5 ⟨pn, 0, none⟩ (.func (.func 103) #[] #[.pointer (some ⟨po, 0, none⟩), .pointer (some ⟨pl, 0, none⟩), .pointer (some ⟨pm, 0, none⟩), .pointer (some ⟨pn, 0, none⟩)]) po (by have hn := HNum.out; simp only; omega)).trans HO5.out
 have hL6 := (Below.heap_setCell w5 ⟨pn, 0, none⟩ (.func (.func 103) #[] #[.pointer (some ⟨po, 0, none⟩), .pointer (some ⟨pl, 0, none⟩), .pointer (some ⟨pm, 0, none⟩), .pointer (some ⟨pn, 0, none⟩)]) pl (by have hn := HNum.out; simp only; omega)).trans HL5.out
 have hM6 := (Below.heap_setCell w5 ⟨pn, 0, none⟩ (.func (.func 103) #[] #[.pointer (some ⟨po, 0, none⟩), .pointer (some ⟨pl, 0, none⟩), .pointer (some ⟨pm, 0, none⟩), .pointer (some ⟨pn, 0, none⟩)]) pm (by have hn := HNum.out; simp only; omega)).trans HM5.out
 have hN6 := set_one HN5.out (.func (.func 103) #[] #[.pointer (some ⟨po, 0, none⟩), .pointer (some ⟨pl, 0, none⟩), .pointer (some ⟨pm, 0, none⟩), .pointer (some ⟨pn, 0, none⟩)])
 have hR6 := Kd.R_far (p := ⟨pn, 0, none⟩) HR5.out (fun k hk e => by have hn := HNum.out; have e' : k = pn := e; have := hk.2.2.1; omega) (.func (.func 103) #[] #[.pointer (some ⟨po, 0, none⟩), .pointer (some ⟨pl, 0, none⟩), .pointer (some ⟨pm, 0, none⟩), .pointer (some ⟨pn, 0, none⟩)])
 have hB6 : Below w.heap.size w (w5.setCell ⟨pn, 0, none⟩ (.func (.func 103) #[] #[.pointer (some ⟨po, 0, none⟩), .pointer (some ⟨pl, 0, none⟩), .pointer (some ⟨pm, 0, none⟩), .pointer (some ⟨pn, 0, none⟩)])) := zam HB5.out (by have hn := HNum.out; omega)
 generalize w5.setCell ⟨pn, 0, none⟩ (.func (.func 103) #[] #[.pointer (some ⟨po, 0, none⟩), .pointer (some ⟨pl, 0, none⟩), .pointer (some ⟨pm, 0, none⟩), .pointer (some ⟨pn, 0, none⟩)]) = w6 at *
 have HB6 := zaa.mk hB6
 have HCall := zaa.mk (HNx.out pl pm po pn (fun k => w2.heap.size ≤ k ∧ k < w3.heap.size) (.slice A3 0 c3) w6 ⟨hB6, zch hL6, zch hM6, zch hN6, hO6, Kd.R_lower (Kd.R_mono hR6 (fun k hk => ⟨hk.2.1, hk.2.2.1⟩)) (by have hn := HNum.out; omega), by have hn := HNum.out; omega, by have hn := HNum.out; exact ⟨by omega, by omega, by omega⟩, by have hn := HNum.out; exact ⟨by omega, by omega, by omega, by omega⟩⟩)
 have hfn := zch hN6
 clear hO6 hL6 hM6 hN6 hR6 hB6 hn5 hf5
 clear HNx
 generalize colG cs many n [] = res at *
 rcases res with _ | r
 ·go_wp2_with (first
   | (go_at_call 103; refine HCall.out.mono ?_; rintro e w7 ⟨v7, rfl, hO7, hR7, hK7, hB7⟩; have HB7 := zaa.mk hB7; clear hO7 hR7 hK7 hB7))
  go_ret
  exact ⟨HB7.out, rfl⟩
 ·go_wp2_with (first
   | (go_at_call 103; refine HCall.out.mono ?_; rintro e w7 ⟨v7, rfl, hO7, hR7, hK7, hB7⟩; have ho7 := zch hO7; have HR7 := zaa.mk hR7; have HB7 := zaa.mk hB7; clear hO7 hR7 hK7 hB7))
  go_ret
  exact ⟨HB7.out, _, rfl, Kd.R_mono HR7.out (fun _ _ => trivial)⟩
theorem neq_nil {P : Program} (w : World) (t e : TypeId) (a : Option Addr) (n c n' c' : Nat) (h : P.underlying t = some (.slice e)) : (binOp .neq t (.slice a n c) (.slice none n' c')).run P w = .ok (.bool (!a.isNone)) w := by
 simp only [binOp]
 simp [Op.equal, Op.maxDepth, Lib.run_equalIn_slice_nil w 9999 t e a n c n' c' h]
set_option maxHeartbeats 4000000 in
set_option maxRecDepth 100000 in
theorem NearFirst_calls (A0 : Option Addr) (c0 : Nat) (l0 : List ByteArray) (w : World) (hr0 : Kd.C Kd.string w A0 l0.length l0) (hc0 : l0.length ≤ c0) (hp : smallP l0) :
  Calls Try.prog 40 #[.slice A0 l0.length c0] w fun e w' => ∃ v0_ : Value, e = .returned (.tuple #[v0_, .bool (firstF l0).2]) ∧ Kd.R (Kd.int .i64) 3 w' w.heap.size (fun _ => True) v0_ (firstF l0).1 ∧ Below w.heap.size w w' := by
 have HR := zaa.mk hr0
 have HC := zaa.mk hc0
 have HP := zaa.mk hp
 clear hr0 hc0 hp
 rcases hF : floorF l0 with _ | ⟨cs, rs⟩
 ·have e : firstF l0 = ([], false) := by unfold firstF; rw [hF]
  rw [e]
  have HF := zaa.mk hF
  clear e hF
  go_enter Try.func40, Try.ntmps40
  go_wp2_with (first
   | (go_at_call 49; refine (floorOf_calls A0 c0 l0 _ HR.out HC.out HP.out).mono ?_; rw [HF.out]; rintro e w8 ⟨hb8, v8, b8, rfl, rfl⟩; have HB8 := zaa.mk hb8; clear hb8))
  go_ret2
  exact ⟨_, rfl, Kd.R_nil _ _ _ _ _, HB8.out⟩
 ·have e : firstF l0 = ((zcc cs rs.length 9 1).2, true) := by unfold firstF; rw [hF]
  rw [e]
  have HF := zaa.mk hF
  have hok := floorF_ok hF
  have HK := zaa.mk hok
  have h1 := rooms_some hok
  have h9 := hok.many
  clear e hF hok
  have q24 : ∀ (w : World) (a : Option Addr) (n c n' c' : Nat), (binOp .neq 24 (.slice a n c) (.slice none n' c')).run Try.prog w = .ok (.bool (!a.isNone)) w := fun w a n c n' c' => neq_nil w _ _ a n c n' c' Try.underlying24
  generalize hr : (zcc cs rs.length 9 1).2 = res
  have HRes := zaa.mk hr
  clear hr
  go_enter Try.func40, Try.ntmps40
  go_wp2_with (first
   | (go_at_call 49; refine (floorOf_calls A0 c0 l0 _ HR.out HC.out HP.out).mono ?_; rw [HF.out]; rintro e w8 ⟨hb8, v8, b8, rfl, rfl, g, rfl, hfl⟩; have HB8 := zaa.mk hb8; have HFl8 := zaa.mk hfl; clear hb8 hfl)
   | (go_at_call 80; refine (touching_calls g cs rs _ HFl8.out HK.out).mono ?_; rintro e w11 ⟨A11, c11, rfl, hl11, hC11, hb11⟩; have HB11 := zaa.mk (zaf HB8.out hb11); have HL11 := zaa.mk hl11; have HC11 := zaa.mk hC11; clear hb11 hl11 hC11))
  go_loopg [7] 10 (fun kq v7 w' => ∃ m : Nat, v7 = .int .i64 (m : Int) ∧ zaa (m + kq = 10 + 1) ∧ zaa (1 ≤ m ∧ m ≤ rs.length) ∧ zaa ((zcc cs rs.length (10 - m) m).2 = res) ∧ zaa (Below w.heap.size w w') ∧ zaa ((Kd.slice 3 (Kd.int .i64)).C w' A11 (zcq cs rs.length).length (zcq cs rs.length)))
  case atStart => exact ⟨1, rfl, ⟨by omega⟩, ⟨by omega, h1⟩, HRes, HB11, HC11⟩
  case round =>
   obtain ⟨m, rfl, HKq, HM, HEq, HB, HCm⟩ := hrel
   have hm1 := HM.out.1
   have hm2 := HM.out.2
   have y0 : (0 : Int) ≤ (m : Int) := by omega
   have y1 : (m : Int) ≤ 9 := by omega
   have HCl := zaa.mk (coloured_calls cs rs.length m h9 (by omega) wr A11 c11 HL11.out HCm.out)
   have hst := HEq.out
   rw [show 10 - m = (9 - m) + 1 by omega] at hst
   rcases hG : colG cs m rs.length [] with _ | r
   ·rw [hG] at HCl
    rw [leastG_none hG] at hst
    have hlt : m < rs.length := by
     rcases Nat.lt_or_ge m rs.length with h | h
     ·exact h
     ·obtain rfl : m = rs.length := by omega
      obtain ⟨r, hr⟩ := colG_all cs rs.length
      rw [hr] at hG
      cases hG
    have HSt := zaa.mk hst
    clear hst hG HEq
    go_wp2_with (first
     | (go_at_call 81; refine HCl.out.mono ?_; rintro e w12 ⟨hb12, rfl⟩; have HB12 := zaa.mk (zaf HB.out hb12); have HC12 := zaa.mk (Kd.C_below HCm.out hb12); clear hb12))
    go_roundg (10 - m)
    case measure => have := HKq.out; omega
    case rel => exact ⟨m + 1, by first | rfl | (congr 1; omega), ⟨by have := HKq.out; omega⟩, ⟨by omega, by omega⟩, ⟨by rw [show 10 - (m + 1) = 9 - m by omega]; exact HSt.out⟩, HB12, HC12⟩
   ·rw [hG] at HCl
    rw [leastG_some hG] at hst
    have hlen := colG_length cs m rs.length [] r hG
    have HSt := zaa.mk (show r = res from hst)
    have HLn := zaa.mk (show 0 < r.length by rw [hlen]; simp; omega)
    clear hst hG HEq hlen
    go_wp2_with (first
     | (go_at_call 81; refine HCl.out.mono ?_; rintro e w12 ⟨hb12, v12, rfl, hr12⟩; obtain ⟨ad12, c12, e12⟩ := Kd.R_slice1 hr12 HLn.out; subst e12; have HB12 := zaa.mk (zaf HB.out hb12); have HR12 := zaa.mk (Kd.R_lower hr12 HB.out.size); clear hb12 hr12))
    go_ret2
    rw [← HSt.out]
    exact ⟨_, rfl, HR12.out, HB12.out⟩
def PropL (cs : List (List Int)) (many : Int) (L : List Int) : Prop :=
 ∀ a : Nat, a < L.length → (0 ≤ rd L (a : Int) ∧ rd L (a : Int) < many) ∧ ∀ b : Nat, b < a → besN cs (a : Int) (b : Int) > 0 → rd L (b : Int) ≠ rd L (a : Int)
theorem rd_snoc_lt (L : List Int) (x : Int) {b : Nat} (h : b < L.length) : rd (L ++ [x]) (b : Int) = rd L (b : Int) := by
 unfold rd
 rw [Int.toNat_natCast, List.getD_eq_getElem?_getD, List.getElem?_append_left h, ← List.getD_eq_getElem?_getD]
theorem rd_snoc_last (L : List Int) (x : Int) : rd (L ++ [x]) (L.length : Int) = x := by
 unfold rd
 rw [Int.toNat_natCast, List.getD_eq_getElem?_getD, List.getElem?_concat_length]
 rfl
theorem okC_iff (cs : List (List Int)) (L : List Int) (c : Int) : okC cs L c = true ↔ ∀ b : Nat, b < L.length → besN cs (L.length : Int) (b : Int) > 0 → rd L (b : Int) ≠ c := by
 unfold okC okTo
 rw [List.all_eq_true]
 constructor
 ·intro h b hb hn e
  have := h b (List.mem_range.2 hb)
  rw [Bool.not_eq_true', Bool.and_eq_false_iff] at this
  rcases this with h1 | h1
  ·rw [beq_eq_false_iff_ne] at h1
   exact h1 e
  ·rw [decide_eq_false_iff_not] at h1
   exact h1 hn
 ·intro h b hb
  rw [Bool.not_eq_true', Bool.and_eq_false_iff]
  by_cases hn : besN cs (L.length : Int) (b : Int) > 0
  ·exact .inl (beq_eq_false_iff_ne.2 (h b (List.mem_range.1 hb) hn))
  ·exact .inr (decide_eq_false hn)
theorem PropL.snoc {cs : List (List Int)} {many : Int} {L : List Int} {c : Int} (h : PropL cs many L) (h0 : 0 ≤ c) (h1 : c < many) (hok : okC cs L c = true) : PropL cs many (L ++ [c]) := by
 intro a ha
 rw [List.length_append, List.length_singleton] at ha
 by_cases e : a = L.length
 ·subst e
  rw [rd_snoc_last]
  refine ⟨⟨h0, h1⟩, fun b hb hn => ?_⟩
  rw [rd_snoc_lt L c hb]
  exact (okC_iff cs L c).1 hok b hb hn
 ·rw [rd_snoc_lt L c (by omega)]
  refine ⟨(h a (by omega)).1, fun b hb hn => ?_⟩
  rw [rd_snoc_lt L c (by omega)]
  exact (h a (by omega)).2 b hb hn
theorem colG_sound (cs : List (List Int)) (many : Nat) : ∀ (f : Nat) (L r : List Int), PropL cs (many : Int) L → colG cs many f L = some r → PropL cs (many : Int) r ∧ r.length = L.length + f
 | 0, L, r, hL, h => by injection h with h; subst h; exact ⟨hL, rfl⟩
 | f + 1, L, r, hL, h => by
  unfold colG at h
  obtain ⟨c, hc, h1⟩ := List.exists_of_findSome?_eq_some h
  split at h1
  ·rename_i hok
   have := List.mem_range'_1.1 hc
   obtain ⟨h2, h3⟩ := colG_sound cs many f _ r (hL.snoc (by omega) (by omega) hok) h1
   refine ⟨h2, ?_⟩
   rw [h3, List.length_append, List.length_singleton]
   omega
  ·cases h1
theorem colG_complete {cs : List (List Int)} {many n : Nat} {r : List Int} (hr : PropL cs (many : Int) r) (hn : r.length = n) : ∀ (f : Nat) (L : List Int), L.length + f = n → (∀ b : Nat, b < L.length → rd L (b : Int) = rd r (b : Int)) → colG cs many f L ≠ none
 | 0, L, _, _, h => by cases h
 | f + 1, L, hL, hag, h => by
  unfold colG at h
  rw [List.findSome?_eq_none_iff] at h
  obtain ⟨⟨h0, h1⟩, h2⟩ := hr L.length (by omega)
  have h3 := h (rd r (L.length : Int)).toNat (List.mem_range'_1.2 ⟨by omega, by omega⟩)
  have e : (((rd r (L.length : Int)).toNat : Nat) : Int) = rd r (L.length : Int) := by omega
  rw [e] at h3
  have hok : okC cs L (rd r (L.length : Int)) = true := (okC_iff _ _ _).2 fun b hb hnb => by
   rw [hag b hb]
   exact h2 b hb hnb
  rw [if_pos hok] at h3
  refine colG_complete hr hn f _ (by simp; omega) (fun b hb => ?_) h3
  rw [List.length_append, List.length_singleton] at hb
  by_cases e : b = L.length
  ·subst e
   exact rd_snoc_last _ _
  ·rw [rd_snoc_lt _ _ (by omega)]
   exact hag b (by omega)
theorem colG_some_of {cs : List (List Int)} {many n : Nat} {r : List Int} (hr : PropL cs (many : Int) r) (hn : r.length = n) : ∃ r', colG cs many n [] = some r' := by
 rcases h : colG cs many n [] with _ | r'
 ·exact absurd h (colG_complete hr hn n [] (by simp) (fun b hb => by simp at hb))
 ·exact ⟨r', rfl⟩
theorem leastG_spec (cs : List (List Int)) (n : Nat) (h9 : n ≤ 9) : ∀ f m, m + f = 10 → 1 ≤ m → m ≤ n → (∀ m', 1 ≤ m' → m' < m → colG cs m' n [] = none) →
  1 ≤ (zcc cs n f m).1 ∧ (zcc cs n f m).1 ≤ n ∧ colG cs (zcc cs n f m).1 n [] = some (zcc cs n f m).2 ∧ ∀ m', 1 ≤ m' → m' < (zcc cs n f m).1 → colG cs m' n [] = none
 | 0, m, hm, h1, h2, _ => by omega
 | f + 1, m, hm, h1, h2, hlow => by
  rcases hG : colG cs m n [] with _ | r
  ·rw [leastG_none hG]
   have hlt : m < n := by
    rcases Nat.lt_or_ge m n with h | h
    ·exact h
    ·obtain rfl : m = n := by omega
     obtain ⟨r, hr⟩ := colG_all cs m
     rw [hr] at hG
     cases hG
   refine leastG_spec cs n h9 f (m + 1) (by omega) (by omega) (by omega) (fun m' a b => ?_)
   by_cases e : m' = m
   ·rw [e]; exact hG
   ·exact hlow m' a (by omega)
  ·rw [leastG_some hG]
   exact ⟨h1, h2, hG, hlow⟩
theorem least_facts (cs : List (List Int)) (n : Nat) (h1 : 1 ≤ n) (h9 : n ≤ 9) : 1 ≤ (zcc cs n 9 1).1 ∧ (zcc cs n 9 1).1 ≤ n ∧ colG cs (zcc cs n 9 1).1 n [] = some (zcc cs n 9 1).2 ∧ ∀ m', 1 ≤ m' → m' < (zcc cs n 9 1).1 → colG cs m' n [] = none :=
 leastG_spec cs n h9 9 1 (by omega) (by omega) h1 (fun m' a b => by omega)
theorem PropL.nil (cs : List (List Int)) (many : Int) : PropL cs many [] := fun a ha => by simp at ha
def topC (L : List Int) : Int := match L with
 | [] => 0
 | h :: t => t.foldl (fun (a b : Int) => max a b) h
theorem foldl_max_ge : ∀ (t : List Int) (h : Int), h ≤ t.foldl (fun (a b : Int) => max a b) h ∧ ∀ x ∈ t, x ≤ t.foldl (fun (a b : Int) => max a b) h
 | [], h => ⟨Int.le_refl _, fun x hx => by cases hx⟩
 | y :: t, h => by
  rw [List.foldl_cons]
  obtain ⟨h1, h2⟩ := foldl_max_ge t (max h y)
  refine ⟨by omega, fun x hx => ?_⟩
  rcases List.mem_cons.1 hx with rfl | hx
  ·omega
  ·exact h2 x hx
theorem foldl_max_mem : ∀ (t : List Int) (h : Int), t.foldl (fun (a b : Int) => max a b) h = h ∨ t.foldl (fun (a b : Int) => max a b) h ∈ t
 | [], h => .inl rfl
 | y :: t, h => by
  rw [List.foldl_cons]
  rcases foldl_max_mem t (max h y) with h1 | h1
  ·rw [h1]
   by_cases e : h ≤ y
   ·exact .inr (by rw [show max h y = y by omega]; exact List.mem_cons_self)
   ·exact .inl (by omega)
  ·exact .inr (List.mem_cons_of_mem _ h1)
theorem rd_of_mem {L : List Int} {x : Int} (h : x ∈ L) : ∃ a : Nat, a < L.length ∧ rd L (a : Int) = x := by
 obtain ⟨a, ha⟩ := List.getElem?_of_mem h
 exact ⟨a, (List.getElem?_eq_some_iff.1 ha).1, rd_at ha⟩
theorem top_le {L : List Int} {x : Int} (h : x ∈ L) : x ≤ topC L := by
 cases L with
 | nil => cases h
 | cons y t =>
  unfold topC
  obtain ⟨h1, h2⟩ := foldl_max_ge t y
  rcases List.mem_cons.1 h with rfl | h
  ·exact h1
  ·exact h2 x h
theorem top_mem {L : List Int} (h : 0 < L.length) : topC L ∈ L := by
 cases L with
 | nil => simp at h
 | cons y t =>
  unfold topC
  rcases foldl_max_mem t y with h1 | h1
  ·exact List.mem_cons.2 (.inl h1)
  ·exact List.mem_cons_of_mem _ h1
theorem rd_mem {L : List Int} {a : Nat} (h : a < L.length) : rd L (a : Int) ∈ L := by
 rw [rd_at (List.getElem?_eq_getElem h)]
 exact List.getElem_mem h
theorem least_top (cs : List (List Int)) (n : Nat) (h1 : 1 ≤ n) (h9 : n ≤ 9) : topC (zcc cs n 9 1).2 + 1 = ((zcc cs n 9 1).1 : Int) := by
 obtain ⟨k1, k2, k3, k4⟩ := least_facts cs n h1 h9
 generalize (zcc cs n 9 1).1 = m at *
 generalize (zcc cs n 9 1).2 = r at *
 obtain ⟨hp, hl⟩ := colG_sound cs m n [] r (PropL.nil _ _) k3
 rw [List.length_nil, Nat.zero_add] at hl
 obtain ⟨a, ha, hra⟩ := rd_of_mem (top_mem (L := r) (by omega))
 have ht := (hp a ha).1
 rw [hra] at ht
 by_cases e : topC r + 1 = (m : Int)
 ·exact e
 ·exfalso
  obtain ⟨q, hq⟩ : ∃ q : Nat, (q : Int) = topC r + 1 := ⟨(topC r + 1).toNat, by omega⟩
  have hp' : PropL cs (q : Int) r := fun b hb => ⟨⟨(hp b hb).1.1, by have := top_le (rd_mem hb); omega⟩, (hp b hb).2⟩
  obtain ⟨r', hr'⟩ := colG_some_of hp' hl
  rw [k4 q (by omega) (by omega)] at hr'
  cases hr'
end Go.Proofs.Ytickdcegnlldjaa.Hd
namespace Go.Proofs.Ytickdcegnlldjaa.SX
open Go.RowKit Go.PW.PrintWords Go.PW.PrintLast Go.PW.PrintMore
attribute [local go_sem] zbw zbu zcb zca zbm zbl zbv zbt   -- for this text's walks alone
def errW : Option Int → Value
 | none => .nilIface
 | some c => .iface 0 (.int .i64 c)
theorem zak : errW none = .nilIface := rfl
theorem zaj (c : Int) : errW (some c) = .iface 0 (.int .i64 c) := rfl
end Go.Proofs.Ytickdcegnlldjaa.SX
namespace Go.Proofs.Ytickdcegnlldjaa.Hd
open Go.RowKit Go.PW.PrintWords Go.PW.PrintLast Go.PW.PrintMore Go.Proofs.Ytickdcegnlldjaa.PB Go.Proofs.Ytickdcegnlldjaa.SX
theorem rd_dropC {L : List Int} {i : Nat} (h : i < L.length) : L.drop i = rd L (i : Int) :: L.drop (i + 1) := by
 rw [List.drop_eq_getElem_cons h, rd_at (List.getElem?_eq_getElem h)]
theorem maxC_l0 (L : List Int) (hl : L.length ≤ 1000) : ∀ m i x, i + m = L.length → Evs (fun k => slices_Max_int_int.l0 k L x (i : Int)) ((L.drop i).foldl (fun (a b : Int) => max a b) x) := by
 intro m
 induction m with
 | zero =>
  intro i x hi
  obtain rfl : i = L.length := by omega
  rw [List.drop_length]
  refine Evs.step (h := fun _ => some x) (fun k => ?_) (Evs.const _)
  conv => lhs; unfold slices_Max_int_int.l0
  rw [if_neg (by omega)]
 | succ m ih =>
  intro i x hi
  have hlt : i < L.length := by omega
  rw [rd_dropC hlt, List.foldl_cons]
  refine Evs.step (fun k => ?_) (ih (i + 1) _ (by omega))
  conv => lhs; unfold slices_Max_int_int.l0
  rw [if_pos (by omega), if_pos (by omega), zay (by omega)]
  congr 1
  try rw [mx_max]
theorem maxC_ev (L : List Int) (h0 : 0 < L.length) (hl : L.length ≤ 100) : Evs (fun k => slices_Max_int_int.f k L) (topC L) := by
 cases L with
 | nil => simp at h0
 | cons h t =>
  have := maxC_l0 (h :: t) (by omega) t.length 1 h (by simp; omega)
  refine Evs.congr (fun k => ?_) this
  conv => lhs; unfold slices_Max_int_int.f
  rw [if_neg (by simp only [List.length_cons]; omega), if_pos (by simp only [List.length_cons]; omega)]
  rfl
set_option maxHeartbeats 4000000 in
set_option maxRecDepth 100000 in
theorem NearColours_calls (A0 : Option Addr) (c0 : Nat) (l0 : List ByteArray) (w : World) (hr0 : Kd.C Kd.string w A0 l0.length l0) (hc0 : l0.length ≤ c0) (hp : smallP l0) :
  Calls Try.prog 42 #[.slice A0 l0.length c0] w fun e w' => e = .returned (.tuple #[.int .i64 (coloursF l0).1, .bool (coloursF l0).2]) ∧ Below w.heap.size w w' := by
 have HFi := zaa.mk (NearFirst_calls A0 c0 l0 w hr0 hc0 hp)
 clear hr0 hc0 hp
 rcases hF : floorF l0 with _ | ⟨cs, rs⟩
 ·have e : coloursF l0 = (0, false) := by unfold coloursF; rw [hF]
  have e1 : firstF l0 = ([], false) := by unfold firstF; rw [hF]
  rw [e]
  rw [e1] at HFi
  clear e e1 hF
  go_enter Try.func42, Try.ntmps42
  go_wp2_with (first
   | (go_at_call 40; refine HFi.out.mono ?_; rintro e w8 ⟨v8, rfl, hr8, hb8⟩; have HB8 := zaa.mk hb8; clear hb8 hr8))
  go_ret2
  exact ⟨rfl, HB8.out⟩
 ·have e : coloursF l0 = (((zcc cs rs.length 9 1).1 : Int), true) := by unfold coloursF; rw [hF]
  have e1 : firstF l0 = ((zcc cs rs.length 9 1).2, true) := by unfold firstF; rw [hF]
  have hok := floorF_ok hF
  have h1 := rooms_some hok
  have h9 := hok.many
  have ht := least_top cs rs.length h1 h9
  have hf := least_facts cs rs.length h1 h9
  have hl := (colG_sound cs _ rs.length [] _ (PropL.nil _ _) hf.2.2.1).2
  have hb1 := hf.1
  have hb2 := hf.2.1
  rw [e]
  rw [e1] at HFi
  rw [← ht]
  have hlim : 0 ≤ topC (zcc cs rs.length 9 1).2 ∧ topC (zcc cs rs.length 9 1).2 ≤ 9 := by omega
  clear e e1 hF hf ht hb1 hb2 hok
  generalize (zcc cs rs.length 9 1).2 = L at *
  obtain ⟨K, hK⟩ := maxC_ev L (by rw [hl]; simp; omega) (by rw [hl]; simp; omega)
  have HMx := zaa.mk (hK K (Nat.le_refl K))
  have y0 := hlim.1
  have y1 := hlim.2
  have HL := zaa.mk hl
  clear hK hlim hl
  generalize topC L = t at *
  go_enter Try.func42, Try.ntmps42
  go_wp2_with (first
   | (go_at_call 40; refine HFi.out.mono ?_; rintro e w8 ⟨v8, rfl, hr8, hb8⟩; obtain ⟨A8, c8, e8, hc8, hC8⟩ := Kd.R_reads hr8; subst e8; have HC8 := zaa.mk hC8; have HCc8 := zaa.mk hc8; have HB8 := zaa.mk hb8; clear hb8 hr8 hc8 hC8)
   | (go_at_call 82; refine (slices_Max_int_int.calls K A8 c8 L t _ HC8.out HCc8.out HMx.out).mono ?_; rintro e w13 ⟨rfl, hb13⟩; have HB13 := zaa.mk (zaf HB8.out hb13); clear hb13))
  go_ret2
  exact ⟨rfl, HB13.out⟩
def impl_NearColours.f (l0 : List ByteArray) : Option (Int × Bool) := if smallB l0 = true then some (coloursF l0) else none
theorem impl_NearColours.calls (A0 : Option Addr) (c0 : Nat) (l0 : List ByteArray) (r1 : Int) (r2 : Bool) (w : World) (hr0 : Kd.C Kd.string w A0 l0.length l0) (hc0 : l0.length ≤ c0) (h : impl_NearColours.f l0 = some (r1, r2)) :
  Calls Try.prog 42 #[.slice A0 l0.length c0] w fun e w' => e = .returned (.tuple #[.int .i64 r1, .bool r2]) ∧ Below w.heap.size w w' := by
 unfold impl_NearColours.f at h
 split at h
 ·rename_i hs
  have e := Option.some.inj h
  have := NearColours_calls A0 c0 l0 w hr0 hc0 ((smallB_iff _).1 hs)
  rw [e] at this
  exact this
 ·cases h
end Go.Proofs.Ytickdcegnlldjaa.Hd
namespace Go.Proofs.Ytickdcegnlldjaa.LC
open Go.Proofs.Ytickdcegnlldjaa.PB Go.Proofs.Ytickdcegnlldjaa.Hd
open Go.RowKit Go.PW.PrintWords Go.PW.PrintLast Go.PW.PrintMore
attribute [local go_sem] zbw zbu zcb zca zbm zbl zbv zbt   -- for this text's walks alone
def errW : Option Int → Value
 | none => .nilIface
 | some c => .iface 0 (.int .i64 c)
theorem zak : errW none = .nilIface := rfl
theorem zaj (c : Int) : errW (some c) = .iface 0 (.int .i64 c) := rfl
theorem info3 : (Try.prog.info? 3).map (fun i => (i.zero, i.size, i.bytes)) = some (some (.int .i64 0), 1, 8) := by kernel_rfl
theorem info5 : (Try.prog.info? 5).map (fun i => (i.zero, i.size, i.bytes)) = some (some (.int .u8 0), 1, 1) := by kernel_rfl
theorem info9 : (Try.prog.info? 9).map (fun i => (i.zero, i.size, i.bytes)) = some (some (.string ⟨#[]⟩), 1, 16) := by kernel_rfl
theorem info72 : (Try.prog.info? 72).map (fun i => (i.zero, i.size, i.bytes)) = some (some (.agg #[(.bool false), (.int .i64 0), (.int .i64 0), (.int .i64 0)]), 4, 32) := by kernel_rfl
def zbk (xs : List (List Int)) (i : Int) : (List Int) := xs.getD i.toNat ([] : List Int)
theorem at_L3 {w : World} {A : Option Addr} {n : Nat} {xs : List (List Int)} (h : Kd.C (Kd.slice 3 (Kd.int .i64)) w A n xs) (i : Int) (h0 : 0 ≤ i) (h1 : i < n) : ∃ ad A0 c0, A = some ad ∧ w.cell? (ad.add i.toNat) = some (.slice A0 (zbk xs i).length c0) ∧ (zbk xs i).length ≤ c0 ∧ (Kd.int .i64).C w A0 (zbk xs i).length (zbk xs i) := by
 obtain ⟨ad, c, e, _, hK, hc0⟩ := Kd.C_get h ([] : List Int) i h0 h1
 have hc : ∀ j u, c[j]? = some u → w.cell? (ad.add (i.toNat * 1 + j)) = some u := hc0
 obtain ⟨A0, c0, rfl, l0, g0⟩ := hK
 exact ⟨ad, A0, c0, e, by have hq := hc 0 _ rfl; rwa [Nat.mul_one, Nat.add_zero] at hq, l0, g0⟩
structure S120 where
 f0 : Int
 f1 : Int
 f2 : Int
 f3 : Int
def z120 : S120 := ⟨(0 : Int), (0 : Int), (0 : Int), (0 : Int)⟩
def k120 : Kd S120 := Kd.iso (Kd.pair (Kd.int .i64) (Kd.pair (Kd.int .i64) (Kd.pair (Kd.int .i64) (Kd.int .i64)))) (fun x : S120 => (x.f0, x.f1, x.f2, x.f3))
theorem k120_open {w : World} {x : S120} {cs : List Value} (h : k120.K w x cs) : cs = [.int .i64 x.f0, .int .i64 x.f1, .int .i64 x.f2, .int .i64 x.f3] := by
 obtain ⟨_, _, rfl, rfl, ⟨_, _, rfl, rfl, ⟨_, _, rfl, rfl, rfl⟩⟩⟩ := h
 exact rfl
theorem k120_mkM (w : World) (base : Nat) (ok : Nat → Prop) (x : S120)  : k120.M w base ok x [.int .i64 x.f0, .int .i64 x.f1, .int .i64 x.f2, .int .i64 x.f3] := ⟨[.int .i64 x.f0], [.int .i64 x.f1, .int .i64 x.f2, .int .i64 x.f3], rfl, rfl, ⟨[.int .i64 x.f1], [.int .i64 x.f2, .int .i64 x.f3], rfl, rfl, ⟨[.int .i64 x.f2], [.int .i64 x.f3], rfl, rfl, rfl⟩⟩⟩
def rd_T120 (xs : List S120) (i : Int) : S120 := xs.getD i.toNat z120
theorem at_T120 {w : World} {A : Option Addr} {n : Nat} {xs : List S120} (h : Kd.C k120 w A n xs) (i : Int) (h0 : 0 ≤ i) (h1 : i < n) : ∃ ad , A = some ad ∧ w.cell? (ad.add (i.toNat * 4)) = some (.int .i64 (rd_T120 xs i).f0) ∧ w.cell? ⟨(ad.add (i.toNat * 4)).block, (ad.add (i.toNat * 4)).off + 1, none⟩ = some (.int .i64 (rd_T120 xs i).f1) ∧ w.cell? ⟨(ad.add (i.toNat * 4)).block, (ad.add (i.toNat * 4)).off + 2, none⟩ = some (.int .i64 (rd_T120 xs i).f2) ∧ w.cell? ⟨(ad.add (i.toNat * 4)).block, (ad.add (i.toNat * 4)).off + 3, none⟩ = some (.int .i64 (rd_T120 xs i).f3) := by
 obtain ⟨ad, c, e, _, hK, hc0⟩ := Kd.C_get h z120 i h0 h1
 have hc : ∀ j u, c[j]? = some u → w.cell? (ad.add (i.toNat * 4 + j)) = some u := hc0
 obtain rfl := k120_open hK
 exact ⟨ad, e, hc 0 _ rfl, by rw [← zco _ _ 1 (by omega)]; exact hc 1 _ rfl, by rw [← zco _ _ 2 (by omega)]; exact hc 2 _ rfl, by rw [← zco _ _ 3 (by omega)]; exact hc 3 _ rfl⟩
structure S72 where
 f0 : Bool
 f1 : Int
 f2 : Int
 f3 : Int
def z72 : S72 := ⟨false, (0 : Int), (0 : Int), (0 : Int)⟩
def k72 : Kd S72 := Kd.iso (Kd.pair Kd.bool (Kd.pair (Kd.int .i64) (Kd.pair (Kd.int .i64) (Kd.int .i64)))) (fun x : S72 => (x.f0, x.f1, x.f2, x.f3))
theorem k72_open {w : World} {x : S72} {cs : List Value} (h : k72.K w x cs) : cs = [.bool x.f0, .int .i64 x.f1, .int .i64 x.f2, .int .i64 x.f3] := by
 obtain ⟨_, _, rfl, rfl, ⟨_, _, rfl, rfl, ⟨_, _, rfl, rfl, rfl⟩⟩⟩ := h
 exact rfl
theorem k72_openM {w : World} {base : Nat} {ok : Nat → Prop} {x : S72} {cs : List Value} (h : k72.M w base ok x cs) : cs = [.bool x.f0, .int .i64 x.f1, .int .i64 x.f2, .int .i64 x.f3] := by
 obtain ⟨_, _, rfl, rfl, ⟨_, _, rfl, rfl, ⟨_, _, rfl, rfl, rfl⟩⟩⟩ := h
 exact rfl
theorem k72_mkM (w : World) (base : Nat) (ok : Nat → Prop) (x : S72)  : k72.M w base ok x [.bool x.f0, .int .i64 x.f1, .int .i64 x.f2, .int .i64 x.f3] := ⟨[.bool x.f0], [.int .i64 x.f1, .int .i64 x.f2, .int .i64 x.f3], rfl, rfl, ⟨[.int .i64 x.f1], [.int .i64 x.f2, .int .i64 x.f3], rfl, rfl, ⟨[.int .i64 x.f2], [.int .i64 x.f3], rfl, rfl, rfl⟩⟩⟩
def zbp (xs : List S72) (i : Int) : S72 := xs.getD i.toNat z72
theorem at_T72 {w : World} {A : Option Addr} {n : Nat} {xs : List S72} (h : Kd.C k72 w A n xs) (i : Int) (h0 : 0 ≤ i) (h1 : i < n) : ∃ ad , A = some ad ∧ w.cell? (ad.add (i.toNat * 4)) = some (.bool (zbp xs i).f0) ∧ w.cell? ⟨(ad.add (i.toNat * 4)).block, (ad.add (i.toNat * 4)).off + 1, none⟩ = some (.int .i64 (zbp xs i).f1) ∧ w.cell? ⟨(ad.add (i.toNat * 4)).block, (ad.add (i.toNat * 4)).off + 2, none⟩ = some (.int .i64 (zbp xs i).f2) ∧ w.cell? ⟨(ad.add (i.toNat * 4)).block, (ad.add (i.toNat * 4)).off + 3, none⟩ = some (.int .i64 (zbp xs i).f3) := by
 obtain ⟨ad, c, e, _, hK, hc0⟩ := Kd.C_get h z72 i h0 h1
 have hc : ∀ j u, c[j]? = some u → w.cell? (ad.add (i.toNat * 4 + j)) = some u := hc0
 obtain rfl := k72_open hK
 exact ⟨ad, e, hc 0 _ rfl, by rw [← zco _ _ 1 (by omega)]; exact hc 1 _ rfl, by rw [← zco _ _ 2 (by omega)]; exact hc 2 _ rfl, by rw [← zco _ _ 3 (by omega)]; exact hc 3 _ rfl⟩
end Go.Proofs.Ytickdcegnlldjaa.LC
namespace Go.Proofs.Ytickdcegnlldjaa.LC
open Go.Proofs.Ytickdcegnlldjaa.PB Go.Proofs.Ytickdcegnlldjaa.Hd
open Go.RowKit Go.PW.PrintWords Go.PW.PrintLast Go.PW.PrintMore
attribute [local go_sem] zbw zbu zcb zca zbm zbl zbv zbt   -- for this text's walks alone
def laws_FnExactNearColours.j0 : Nat → List ByteArray → List ByteArray → Bool → Option (Bool)
 | 0, _, _, _ => none
 | k + 1, x0, x6, x34 => if x34 = true then (some false) else ((laws_toStringS.f k x0).bind fun t277 => ((laws_eqStringS.f k x6 t277).bind fun t280 => (if t280 = true then (some true) else (some false))))
def laws_FnExactNearColours.f (k : Nat) (l0 : List ByteArray) : Option (Bool) := (laws_szStringS.f k l0 1048576).bind fun t266 => (if t266 < 0 then (some true) else ((laws_toStringS.f k l0).bind fun t267 => ((spec_NearColours.f k t267).bind fun bt270 => ((laws_toStringS.f k l0).bind fun t272 => ((impl_NearColours.f t272).bind fun bt275 => (if bt275.1 = bt270.1 then (laws_FnExactNearColours.j0 k l0 t272 (bt275.2 != bt270.2)) else (laws_FnExactNearColours.j0 k l0 t272 true)))))))
set_option maxHeartbeats 8000000 in
set_option maxRecDepth 100000 in
theorem laws_FnExactNearColours.calls (k : Nat) (A0 : Option Addr) (c0 : Nat) (l0 : List ByteArray) (r : Bool) (w : World) (hr0 : Kd.C Kd.string w A0 l0.length l0) (hc0 : l0.length ≤ c0) (h : laws_FnExactNearColours.f k l0 = some r) :
  Calls Try.prog 10 #[.slice A0 l0.length c0] w fun e w' => e = .returned (.bool r) ∧ Below w.heap.size w w' := by
 have HR0 := zaa.mk hr0
 have HC0 := zaa.mk hc0
 clear hr0 hc0
 have HB := zaa.mk (Below.refl w.heap.size w)
 have H : ((laws_szStringS.f k l0 1048576).bind fun t266 => (if t266 < 0 then (some true) else ((laws_toStringS.f k l0).bind fun t267 => ((spec_NearColours.f k t267).bind fun bt270 => ((laws_toStringS.f k l0).bind fun t272 => ((impl_NearColours.f t272).bind fun bt275 => (if bt275.1 = bt270.1 then (laws_FnExactNearColours.j0 k l0 t272 (bt275.2 != bt270.2)) else (laws_FnExactNearColours.j0 k l0 t272 true)))))))) = some r := h
 clear h
 replace H := Option.bind_eq_some_iff.mp H
 obtain ⟨t266, A20, H⟩ := H
 replace H : (if t266 < 0 then (some true) else ((laws_toStringS.f k l0).bind fun t267 => ((spec_NearColours.f k t267).bind fun bt270 => ((laws_toStringS.f k l0).bind fun t272 => ((impl_NearColours.f t272).bind fun bt275 => (if bt275.1 = bt270.1 then (laws_FnExactNearColours.j0 k l0 t272 (bt275.2 != bt270.2)) else (laws_FnExactNearColours.j0 k l0 t272 true))))))) = some r := H
 have A2 := zaa.mk A20
 clear A20
 by_cases c3 : t266 < 0
 ·rw [if_pos c3] at H
  have c3b0 : decide (t266 < 0) = true := decide_eq_true c3
  clear c3
  obtain rfl := Option.some.inj H
  go_enter Try.func10, Try.ntmps10
  go_wp2_with (first | ((with_reducible refine zav (f := 12) rfl ?_); refine zby (some 11) rfl rfl Try.func12 (by kernel_rfl) rfl #[.slice A0 l0.length c0, .int .i64 1048576] rfl (by (try simp only [List.map_toArray, List.map_cons, List.map_nil]); first | done | rfl | (simp only [List.length_drop, List.length_take]; rfl)) ?_; (with_reducible refine (laws_szStringS.calls k _ _ l0 1048576 t266 _ ?side1 ?side2 A2.out).mono ?_); (case side1 => repeat (first | exact HR0.out | (with_reducible refine Kd.C_alloc ?_ _) | (with_reducible refine Kd.C_drewN ?_ _) | (with_reducible refine Kd.C_drew ?_))); (case side2 => exact HC0.out); rintro e w' ⟨rfl, ⟨nd, rfl⟩⟩; refine ⟨_, rfl, ?_⟩))
  go_ret
  exact ⟨by first | rfl | (simp [zak, zaj] <;> rfl) | (simp [*, zak, zaj] <;> rfl), by repeat (first | (with_reducible first | exact HB.out | apply zac | apply zab | apply zad) | exact HB.out)⟩
 ·rw [if_neg c3] at H
  have c3b0 : decide (t266 < 0) = false := decide_eq_false c3
  clear c3
  replace H := Option.bind_eq_some_iff.mp H
  obtain ⟨t267, A40, H⟩ := H
  replace H : ((spec_NearColours.f k t267).bind fun bt270 => ((laws_toStringS.f k l0).bind fun t272 => ((impl_NearColours.f t272).bind fun bt275 => (if bt275.1 = bt270.1 then (laws_FnExactNearColours.j0 k l0 t272 (bt275.2 != bt270.2)) else (laws_FnExactNearColours.j0 k l0 t272 true))))) = some r := H
  have A4 := zaa.mk A40
  clear A40
  replace H := Option.bind_eq_some_iff.mp H
  obtain ⟨⟨t270, t271⟩, A50, H⟩ := H
  replace H : ((laws_toStringS.f k l0).bind fun t272 => ((impl_NearColours.f t272).bind fun bt275 => (if bt275.1 = t270 then (laws_FnExactNearColours.j0 k l0 t272 (bt275.2 != t271)) else (laws_FnExactNearColours.j0 k l0 t272 true)))) = some r := H
  have A5 := zaa.mk A50
  clear A50
  replace H := Option.bind_eq_some_iff.mp H
  obtain ⟨t272, A60, H⟩ := H
  replace H : ((impl_NearColours.f t272).bind fun bt275 => (if bt275.1 = t270 then (laws_FnExactNearColours.j0 k l0 t272 (bt275.2 != t271)) else (laws_FnExactNearColours.j0 k l0 t272 true))) = some r := H
  have A6 := zaa.mk A60
  clear A60
  replace H := Option.bind_eq_some_iff.mp H
  obtain ⟨⟨t275, t276⟩, A70, H⟩ := H
  replace H : (if t275 = t270 then (laws_FnExactNearColours.j0 k l0 t272 (t276 != t271)) else (laws_FnExactNearColours.j0 k l0 t272 true)) = some r := H
  have A7 := zaa.mk A70
  clear A70
  have HC8 := zaa.mk H
  clear H
  go_enter Try.func10, Try.ntmps10
  go_upto_region 8 with (first | ((with_reducible refine zav (f := 12) rfl ?_); refine zby (some 11) rfl rfl Try.func12 (by kernel_rfl) rfl #[.slice A0 l0.length c0, .int .i64 1048576] rfl (by (try simp only [List.map_toArray, List.map_cons, List.map_nil]); first | done | rfl | (simp only [List.length_drop, List.length_take]; rfl)) ?_; (with_reducible refine (laws_szStringS.calls k _ _ l0 1048576 t266 _ ?side1 ?side2 A2.out).mono ?_); (case side1 => repeat (first | exact HR0.out | (with_reducible refine Kd.C_alloc ?_ _) | (with_reducible refine Kd.C_drewN ?_ _) | (with_reducible refine Kd.C_drew ?_))); (case side2 => exact HC0.out); rintro e w' ⟨rfl, ⟨nd, rfl⟩⟩; refine ⟨_, rfl, ?_⟩) | ((with_reducible refine zav (f := 14) rfl ?_); refine zby (some 16) rfl rfl Try.func14 (by kernel_rfl) rfl #[.slice A0 l0.length c0] rfl (by (try simp only [List.map_toArray, List.map_cons, List.map_nil]); first | done | rfl | (simp only [List.length_drop, List.length_take]; rfl)) ?_; (with_reducible refine (laws_toStringS.calls k _ _ l0 t267 _ ?side1 ?side2 A4.out).mono ?_); (case side1 => repeat (first | exact HR0.out | (with_reducible refine Kd.C_alloc ?_ _) | (with_reducible refine Kd.C_drewN ?_ _) | (with_reducible refine Kd.C_drew ?_))); (case side2 => exact HC0.out); rintro e w9 ⟨v268, rfl, ho0, hb⟩; refine ⟨_, rfl, ?_⟩; have n0_ := zaa.mk (Kd.R_lower ho0 (zah (by repeat (first | (with_reducible first | exact HB.out | apply zac | apply zab | apply zad) | exact HB.out)))); have n1_ := zaa.mk (zaf (by repeat (first | (with_reducible first | exact HB.out | apply zac | apply zab | apply zad) | exact HB.out)) hb); clear HB; have HO269 := n0_; have HB := n1_; clear n0_ n1_; (try clear hb); (try clear hb2); (try clear hk); (try clear hi); (try clear ho0); obtain ⟨Ao10, co10, eo10⟩ := Kd.R_slice HO269.out; subst eo10) | ((with_reducible refine zav (f := 41) rfl ?_); refine zby (some 17) rfl rfl Try.func41 (by kernel_rfl) rfl #[.slice Ao10 t267.length co10] rfl (by (try simp only [List.map_toArray, List.map_cons, List.map_nil]); first | done | rfl | (simp only [List.length_drop, List.length_take]; rfl)) ?_; (with_reducible refine (spec_NearColours.calls k _ _ t267 t270 t271 _ ?side1 ?side2 A5.out).mono ?_); (case side1 => repeat (first | exact (Kd.R_reads' HO269.out).2.2 | (with_reducible refine Kd.C_alloc ?_ _) | (with_reducible refine Kd.C_drewN ?_ _) | (with_reducible refine Kd.C_drew ?_))); (case side2 => exact (Kd.R_reads' HO269.out).2.1); rintro e w11 ⟨rfl, hb⟩; refine ⟨_, rfl, ?_⟩; have n0_ := zaa.mk (Kd.R_below (by (with_reducible repeat (first | apply Kd.R_alloc | apply Kd.R_drewN | apply Kd.R_drew)); exact HO269.out) hb); have n1_ := zaa.mk (zaf (by repeat (first | (with_reducible first | exact HB.out | apply zac | apply zab | apply zad) | exact HB.out)) hb); clear HO269; clear HB; have HO269 := n0_; have HB := n1_; clear n0_ n1_; (try clear hb); (try clear hb2); (try clear hk); (try clear hi)) | ((with_reducible refine zav (f := 14) rfl ?_); refine zby (some 21) rfl rfl Try.func14 (by kernel_rfl) rfl #[.slice A0 l0.length c0] rfl (by (try simp only [List.map_toArray, List.map_cons, List.map_nil]); first | done | rfl | (simp only [List.length_drop, List.length_take]; rfl)) ?_; (with_reducible refine (laws_toStringS.calls k _ _ l0 t272 _ ?side1 ?side2 A6.out).mono ?_); (case side1 => repeat (first | exact (Kd.C_below HR0.out HB.out) | (with_reducible refine Kd.C_alloc ?_ _) | (with_reducible refine Kd.C_drewN ?_ _) | (with_reducible refine Kd.C_drew ?_))); (case side2 => exact HC0.out); rintro e w12 ⟨v273, rfl, ho0, hb⟩; refine ⟨_, rfl, ?_⟩; have n0_ := zaa.mk (Kd.R_elder' (by (with_reducible repeat (first | apply Kd.R_alloc | apply Kd.R_drewN | apply Kd.R_drew)); exact HO269.out) (Kd.R_base ho0) hb); have n1_ := zaa.mk (Kd.R_lower (Kd.R_new' ho0 (Kd.R_lt (by (with_reducible repeat (first | apply Kd.R_alloc | apply Kd.R_drewN | apply Kd.R_drew)); exact HO269.out))) (zah (by repeat (first | (with_reducible first | exact HB.out | apply zac | apply zab | apply zad) | exact HB.out)))); have n2_ := zaa.mk (zaf (by repeat (first | (with_reducible first | exact HB.out | apply zac | apply zab | apply zad) | exact HB.out)) hb); clear HO269; clear HB; have HO269 := n0_; have HO274 := n1_; have HB := n2_; clear n0_ n1_ n2_; (try clear hb); (try clear hb2); (try clear hk); (try clear hi); (try clear ho0); obtain ⟨Ao13, co13, eo13⟩ := Kd.R_slice HO274.out; subst eo13) | ((with_reducible refine zav (f := 42) rfl ?_); refine zby (some 24) rfl rfl Try.func42 (by kernel_rfl) rfl #[.slice Ao13 t272.length co13] rfl (by (try simp only [List.map_toArray, List.map_cons, List.map_nil]); first | done | rfl | (simp only [List.length_drop, List.length_take]; rfl)) ?_; (with_reducible refine (impl_NearColours.calls _ _ t272 t275 t276 _ ?side1 ?side2 A7.out).mono ?_); (case side1 => repeat (first | exact (Kd.R_reads' HO274.out).2.2 | (with_reducible refine Kd.C_alloc ?_ _) | (with_reducible refine Kd.C_drewN ?_ _) | (with_reducible refine Kd.C_drew ?_))); (case side2 => exact (Kd.R_reads' HO274.out).2.1); rintro e w14 ⟨rfl, hb⟩; refine ⟨_, rfl, ?_⟩; have n0_ := zaa.mk (Kd.R_below (by (with_reducible repeat (first | apply Kd.R_alloc | apply Kd.R_drewN | apply Kd.R_drew)); exact HO269.out) hb); have n1_ := zaa.mk (Kd.R_below (by (with_reducible repeat (first | apply Kd.R_alloc | apply Kd.R_drewN | apply Kd.R_drew)); exact HO274.out) hb); have n2_ := zaa.mk (zaf (by repeat (first | (with_reducible first | exact HB.out | apply zac | apply zab | apply zad) | exact HB.out)) hb); clear HO269; clear HO274; clear HB; have HO269 := n0_; have HO274 := n1_; have HB := n2_; clear n0_ n1_ n2_; (try clear hb); (try clear hb2); (try clear hk); (try clear hi)))
  (try simp only [Act.put, List.setIfInBounds_toArray, List.set_cons_zero, List.set_cons_succ])
  go_cut [34] (fun v34 wc => ∃ (kq : Nat) (x34_7 : Bool), v34 = .bool x34_7 ∧ zaa (laws_FnExactNearColours.j0 kq l0 t272 x34_7 = some r) ∧ zaa (kq ≤ k) ∧ zaa (Kd.R Kd.string 9 wc w.heap.size (fun _ => True) (.slice Ao13 t272.length co13) t272) ∧ zaa (Below w.heap.size w wc))
  case first =>
   have H := HC8.out
   clear HC8
   by_cases c15 : t275 = t270
   ·rw [if_pos c15] at H
    have c15b0 : (t275 == t270) = true := beq_iff_eq.mpr c15
    have c15b1 : (t275 != t270) = false := bne_eq_false_iff_eq.mpr c15
    clear c15
    (first | rw [c15b0] | (simp only [zas, zat]; rw [c15b0]) | skip)
    have H' := zaa.mk H
    clear H
    go_wp2
    go_meet
    case rel => exact ⟨_, ((t276 != t271)), (by first | rfl | (simp; done) | (simp [*]; done)), H', ⟨by first | omega | exact Nat.le_refl _⟩, ⟨by (with_reducible repeat (first | apply Kd.R_alloc | apply Kd.R_drewN | apply Kd.R_drew)); exact Kd.R_mono HO274.out (fun _ hk => trivial)⟩, ⟨by repeat (first | (with_reducible first | exact HB.out | apply zac | apply zab | apply zad) | exact HB.out)⟩⟩
   ·rw [if_neg c15] at H
    have c15b0 : (t275 == t270) = false := beq_eq_false_iff_ne.mpr c15
    have c15b1 : (t275 != t270) = true := bne_iff_ne.mpr c15
    (first | rw [c15b0] | (simp only [zas, zat]; rw [c15b0]) | skip)
    have H' := zaa.mk H
    clear H
    go_wp2
    go_meet
    case rel => exact ⟨_, (true), (by first | rfl | (simp; done) | (simp [*]; done)), H', ⟨by first | omega | exact Nat.le_refl _⟩, ⟨by (with_reducible repeat (first | apply Kd.R_alloc | apply Kd.R_drewN | apply Kd.R_drew)); exact Kd.R_mono HO274.out (fun _ hk => trivial)⟩, ⟨by repeat (first | (with_reducible first | exact HB.out | apply zac | apply zab | apply zad) | exact HB.out)⟩⟩
  case rest =>
   clear HC8
   try clear c1
   try clear p2
   try clear c3
   try clear c3b0
   try clear c4
   try clear c10
   try clear c12
   try clear c14
   try clear c15
   try clear c15b0
   try clear c15b1
   obtain ⟨kq, x34_7, rfl, HA, HJ7, HO_6, HB⟩ := hcut
   cases kq with
   | zero => exact absurd HA.out (by simp [laws_FnExactNearColours.j0])
   | succ kj7 =>
    have H := HA.out
    clear HA
    simp only [laws_FnExactNearColours.j0] at H
    by_cases c16 : x34_7 = true
    ·subst c16
     have H1 : (some false) = some r := by rw [if_pos rfl] at H; exact H
     clear H
     have H := H1
     clear H1
     obtain rfl := Option.some.inj H
     go_wp2
     go_ret
     exact ⟨by first | rfl | (simp [zak, zaj] <;> rfl) | (simp [*, zak, zaj] <;> rfl), by repeat (first | (with_reducible first | exact HB.out | apply zac | apply zab | apply zad) | exact HB.out)⟩
    ·replace c16 := Bool.eq_false_iff.mpr c16
     subst c16
     have H1 : ((laws_toStringS.f kj7 l0).bind fun t277 => ((laws_eqStringS.f kj7 t272 t277).bind fun t280 => (if t280 = true then (some true) else (some false)))) = some r := by rw [if_neg (show ¬ (false = true) by decide)] at H; exact H
     clear H
     have H := H1
     clear H1
     replace H := Option.bind_eq_some_iff.mp H
     obtain ⟨t277, A170, H⟩ := H
     replace H : ((laws_eqStringS.f kj7 t272 t277).bind fun t280 => (if t280 = true then (some true) else (some false))) = some r := H
     have A17 := zaa.mk A170
     clear A170
     replace H := Option.bind_eq_some_iff.mp H
     obtain ⟨t280, A180, H⟩ := H
     replace H : (if t280 = true then (some true) else (some false)) = some r := H
     have A18 := zaa.mk A180
     clear A180
     by_cases c19 : t280 = true
     ·subst c19
      have H1 : (some true) = some r := by rw [if_pos rfl] at H; exact H
      clear H
      have H := H1
      clear H1
      obtain rfl := Option.some.inj H
      go_wp2_with (first | ((with_reducible refine zav (f := 14) rfl ?_); refine zby (some 37) rfl rfl Try.func14 (by kernel_rfl) rfl #[.slice A0 l0.length c0] rfl (by (try simp only [List.map_toArray, List.map_cons, List.map_nil]); first | done | rfl | (simp only [List.length_drop, List.length_take]; rfl)) ?_; (with_reducible refine (laws_toStringS.calls kj7 _ _ l0 t277 _ ?side1 ?side2 A17.out).mono ?_); (case side1 => repeat (first | exact (Kd.C_below HR0.out HB.out) | (with_reducible refine Kd.C_alloc ?_ _) | (with_reducible refine Kd.C_drewN ?_ _) | (with_reducible refine Kd.C_drew ?_))); (case side2 => exact HC0.out); rintro e w20 ⟨v278, rfl, ho0, hb⟩; refine ⟨_, rfl, ?_⟩; have n0_ := zaa.mk (Kd.R_elder' (by (with_reducible repeat (first | apply Kd.R_alloc | apply Kd.R_drewN | apply Kd.R_drew)); exact HO_6.out) (Kd.R_base ho0) hb); have n1_ := zaa.mk (Kd.R_lower (Kd.R_new' ho0 (Kd.R_lt (by (with_reducible repeat (first | apply Kd.R_alloc | apply Kd.R_drewN | apply Kd.R_drew)); exact HO_6.out))) (zah (by repeat (first | (with_reducible first | exact HB.out | apply zac | apply zab | apply zad) | exact HB.out)))); have n2_ := zaa.mk (zaf (by repeat (first | (with_reducible first | exact HB.out | apply zac | apply zab | apply zad) | exact HB.out)) hb); clear HO_6; clear HB; have HO_6 := n0_; have HO279 := n1_; have HB := n2_; clear n0_ n1_ n2_; (try clear hb); (try clear hb2); (try clear hk); (try clear hi); (try clear ho0); obtain ⟨Ao21, co21, eo21⟩ := Kd.R_slice HO279.out; subst eo21) | ((with_reducible refine zav (f := 17) rfl ?_); refine zby (some 38) rfl rfl Try.func17 (by kernel_rfl) rfl #[.slice Ao13 t272.length co13, .slice Ao21 t277.length co21] rfl (by (try simp only [List.map_toArray, List.map_cons, List.map_nil]); first | done | rfl | (simp only [List.length_drop, List.length_take]; rfl)) ?_; (with_reducible refine (laws_eqStringS.calls kj7 _ _ t272 _ _ t277 true _ ?side1 ?side2 ?side3 ?side4 A18.out).mono ?_); (case side1 => repeat (first | exact (Kd.R_reads' HO_6.out).2.2 | (with_reducible refine Kd.C_alloc ?_ _) | (with_reducible refine Kd.C_drewN ?_ _) | (with_reducible refine Kd.C_drew ?_))); (case side2 => exact (Kd.R_reads' HO_6.out).2.1); (case side3 => repeat (first | exact (Kd.R_reads' HO279.out).2.2 | (with_reducible refine Kd.C_alloc ?_ _) | (with_reducible refine Kd.C_drewN ?_ _) | (with_reducible refine Kd.C_drew ?_))); (case side4 => exact (Kd.R_reads' HO279.out).2.1); rintro e w' ⟨rfl, ⟨nd, rfl⟩⟩; refine ⟨_, rfl, ?_⟩))
      go_ret
      exact ⟨by first | rfl | (simp [zak, zaj] <;> rfl) | (simp [*, zak, zaj] <;> rfl), by repeat (first | (with_reducible first | exact HB.out | apply zac | apply zab | apply zad) | exact HB.out)⟩
     ·replace c19 := Bool.eq_false_iff.mpr c19
      subst c19
      have H1 : (some false) = some r := by rw [if_neg (show ¬ (false = true) by decide)] at H; exact H
      clear H
      have H := H1
      clear H1
      obtain rfl := Option.some.inj H
      go_wp2_with (first | ((with_reducible refine zav (f := 14) rfl ?_); refine zby (some 37) rfl rfl Try.func14 (by kernel_rfl) rfl #[.slice A0 l0.length c0] rfl (by (try simp only [List.map_toArray, List.map_cons, List.map_nil]); first | done | rfl | (simp only [List.length_drop, List.length_take]; rfl)) ?_; (with_reducible refine (laws_toStringS.calls kj7 _ _ l0 t277 _ ?side1 ?side2 A17.out).mono ?_); (case side1 => repeat (first | exact (Kd.C_below HR0.out HB.out) | (with_reducible refine Kd.C_alloc ?_ _) | (with_reducible refine Kd.C_drewN ?_ _) | (with_reducible refine Kd.C_drew ?_))); (case side2 => exact HC0.out); rintro e w22 ⟨v278, rfl, ho0, hb⟩; refine ⟨_, rfl, ?_⟩; have n0_ := zaa.mk (Kd.R_elder' (by (with_reducible repeat (first | apply Kd.R_alloc | apply Kd.R_drewN | apply Kd.R_drew)); exact HO_6.out) (Kd.R_base ho0) hb); have n1_ := zaa.mk (Kd.R_lower (Kd.R_new' ho0 (Kd.R_lt (by (with_reducible repeat (first | apply Kd.R_alloc | apply Kd.R_drewN | apply Kd.R_drew)); exact HO_6.out))) (zah (by repeat (first | (with_reducible first | exact HB.out | apply zac | apply zab | apply zad) | exact HB.out)))); have n2_ := zaa.mk (zaf (by repeat (first | (with_reducible first | exact HB.out | apply zac | apply zab | apply zad) | exact HB.out)) hb); clear HO_6; clear HB; have HO_6 := n0_; have HO279 := n1_; have HB := n2_; clear n0_ n1_ n2_; (try clear hb); (try clear hb2); (try clear hk); (try clear hi); (try clear ho0); obtain ⟨Ao23, co23, eo23⟩ := Kd.R_slice HO279.out; subst eo23) | ((with_reducible refine zav (f := 17) rfl ?_); refine zby (some 38) rfl rfl Try.func17 (by kernel_rfl) rfl #[.slice Ao13 t272.length co13, .slice Ao23 t277.length co23] rfl (by (try simp only [List.map_toArray, List.map_cons, List.map_nil]); first | done | rfl | (simp only [List.length_drop, List.length_take]; rfl)) ?_; (with_reducible refine (laws_eqStringS.calls kj7 _ _ t272 _ _ t277 false _ ?side1 ?side2 ?side3 ?side4 A18.out).mono ?_); (case side1 => repeat (first | exact (Kd.R_reads' HO_6.out).2.2 | (with_reducible refine Kd.C_alloc ?_ _) | (with_reducible refine Kd.C_drewN ?_ _) | (with_reducible refine Kd.C_drew ?_))); (case side2 => exact (Kd.R_reads' HO_6.out).2.1); (case side3 => repeat (first | exact (Kd.R_reads' HO279.out).2.2 | (with_reducible refine Kd.C_alloc ?_ _) | (with_reducible refine Kd.C_drewN ?_ _) | (with_reducible refine Kd.C_drew ?_))); (case side4 => exact (Kd.R_reads' HO279.out).2.1); rintro e w' ⟨rfl, ⟨nd, rfl⟩⟩; refine ⟨_, rfl, ?_⟩))
      go_ret
      exact ⟨by first | rfl | (simp [zak, zaj] <;> rfl) | (simp [*, zak, zaj] <;> rfl), by repeat (first | (with_reducible first | exact HB.out | apply zac | apply zab | apply zad) | exact HB.out)⟩
end Go.Proofs.Ytickdcegnlldjaa.LC
namespace Go.Proofs.Ytickdcegnlldjaa.Hd
open Go.RowKit Go.PW.PrintWords Go.PW.PrintLast Go.PW.PrintMore Go.Proofs.Ytickdcegnlldjaa.PB
theorem sz_loop (l : List ByteArray) (hl : l.length ≤ 1048576) (hs : ∀ s ∈ l, s.size ≤ 9223372036854775807) : ∀ m i (a : Int), i + m = l.length → 0 ≤ a → a ≤ 1048576 → (∀ j, j < i → ∀ s, l[j]? = some s → s.size ≤ 1048576) → ∃ v, Evs (fun k => laws_szStringS.l0 k l a (i : Int)) v ∧ (v < 0 ∨ (smallP l ∧ 0 ≤ v ∧ v ≤ a)) := by
 intro m
 induction m with
 | zero =>
  intro i a hi h0 h1 hj
  refine ⟨a, Evs.step (h := fun _ => some a) (fun k => ?_) (Evs.const _), .inr ⟨⟨hl, fun s hs => ?_⟩, h0, Int.le_refl _⟩⟩
  ·conv => lhs; unfold laws_szStringS.l0
   rw [if_neg (by omega)]
  ·obtain ⟨j, hj2, e⟩ := List.mem_iff_getElem.1 hs
   exact hj j (by omega) s (by rw [List.getElem?_eq_getElem hj2, e])
 | succ m ih =>
  intro i a hi h0 h1 hj
  obtain ⟨s, hsi⟩ : ∃ s, l[i]? = some s := ⟨_, List.getElem?_eq_getElem (by omega)⟩
  have hsz := hs s (List.mem_of_getElem? hsi)
  by_cases hneg : a - (s.size : Int) < 0
  ·refine ⟨-1, Evs.step (h := fun _ => some (-1)) (fun k => ?_) (Evs.const _), .inl (by omega)⟩
   conv => lhs; unfold laws_szStringS.l0
   rw [if_pos (by omega), if_pos (by omega), zbz hsi, zar (by omega) (by omega), if_pos hneg]
  ·obtain ⟨v, hv, hor⟩ := ih (i + 1) (a - (s.size : Int)) (by omega) (by omega) (by omega) (fun j hj1 s1 h1 => by
    rcases Nat.lt_or_eq_of_le (Nat.lt_succ_iff.1 hj1) with h2 | h2
    ·exact hj j h2 s1 h1
    ·subst h2
     rw [hsi] at h1
     have := Option.some.inj h1
     subst this
     omega)
   refine ⟨v, Evs.step (h := fun k => laws_szStringS.l0 k l (a - (s.size : Int)) ((i + 1 : Nat) : Int)) (fun k => ?_) hv, ?_⟩
   ·conv => lhs; unfold laws_szStringS.l0
    rw [if_pos (by omega), if_pos (by omega), zbz hsi, zar (x := a - (s.size : Int)) (by omega) (by omega), if_neg hneg, zay (by omega)]
   ·rcases hor with h | ⟨h2, h3, h4⟩
    ·exact .inl h
    ·exact .inr ⟨h2, h3, by omega⟩
theorem sz_ev (l : List ByteArray) (hf : fits l) (a : Int) (h0 : 0 ≤ a) (h1 : a ≤ 1048576) : ∃ v, Evs (fun k => laws_szStringS.f k l a) v ∧ (v < 0 ∨ (smallP l ∧ 0 ≤ v ∧ v ≤ a)) := by
 have hl := hf.1
 by_cases hneg : a - (l.length : Int) < 0
 ·refine ⟨-1, Evs.congr (h := fun _ => some (-1)) (fun k => ?_) (Evs.const _), .inl (by omega)⟩
  unfold laws_szStringS.f
  rw [zar (by omega) (by omega), if_pos hneg]
 ·obtain ⟨v, hv, hor⟩ := sz_loop l (by omega) hf.2 l.length 0 (a - (l.length : Int)) (by omega) (by omega) (by omega) (fun j hj => by omega)
  refine ⟨v, Evs.congr (fun k => ?_) hv, ?_⟩
  ·unfold laws_szStringS.f
   rw [zar (by omega) (by omega), if_neg hneg]
   rfl
  ·rcases hor with h | ⟨h2, h3, h4⟩
   ·exact .inl h
   ·exact .inr ⟨h2, h3, by omega⟩
theorem to_loop (l : List ByteArray) (hl : l.length ≤ 1048576) : ∀ m i, i + m = l.length → Evs (fun k => laws_toStringS.l0 k l (l.take i ++ List.replicate m (⟨#[]⟩ : ByteArray)) (i : Int)) l := by
 intro m
 induction m with
 | zero =>
  intro i hi
  refine Evs.step (h := fun _ => some l) (fun k => ?_) (Evs.const _)
  conv => lhs; unfold laws_toStringS.l0
  rw [if_neg (by omega), List.take_of_length_le (by omega)]
  simp
 | succ m ih =>
  intro i hi
  obtain ⟨s, hsi⟩ : ∃ s, l[i]? = some s := ⟨_, List.getElem?_eq_getElem (by omega)⟩
  refine Evs.step (h := fun k => laws_toStringS.l0 k l (l.take (i + 1) ++ List.replicate m (⟨#[]⟩ : ByteArray)) ((i + 1 : Nat) : Int)) (fun k => ?_) (ih (i + 1) (by omega))
  conv => lhs; unfold laws_toStringS.l0
  have hset : (l.take i ++ List.replicate (m + 1) (⟨#[]⟩ : ByteArray)).set i s = l.take (i + 1) ++ List.replicate m (⟨#[]⟩ : ByteArray) := by
   rw [List.set_append_right _ _ (by simp; omega), show i - (l.take i).length = 0 by simp; omega, List.replicate_succ, List.set_cons_zero, List.take_add_one, hsi]
   simp
  rw [if_pos (by omega), if_pos (by omega), if_pos (by simp; omega), zbz hsi, Int.toNat_natCast, hset, zay (by omega)]
theorem toS_ev (l : List ByteArray) (hl : l.length ≤ 1048576) : Evs (fun k => laws_toStringS.f k l) l := by
 refine Evs.congr (fun k => ?_) (to_loop l hl l.length 0 (by omega))
 unfold laws_toStringS.f
 rw [if_pos (by omega), if_pos (by omega), Int.toNat_natCast]
 simp
theorem eq_loop (p q : List ByteArray) (hl : p.length = q.length) (hb : p.length ≤ 1048576) : ∀ m i, i + m = p.length → p.take i = q.take i → Evs (fun k => laws_eqStringS.l0 k p q (i : Int)) (decide (p = q)) := by
 intro m
 induction m with
 | zero =>
  intro i hi ht
  have e : p = q := by
   rw [show i = p.length by omega, List.take_length, hl, List.take_length] at ht
   exact ht
  refine Evs.step (h := fun _ => some (decide (p = q))) (fun k => ?_) (Evs.const _)
  conv => lhs; unfold laws_eqStringS.l0
  rw [if_neg (by omega), decide_eq_true e]
 | succ m ih =>
  intro i hi ht
  by_cases he : p[i] = q[i]
  ·refine Evs.step (h := fun k => laws_eqStringS.l0 k p q ((i + 1 : Nat) : Int)) (fun k => ?_) (ih (i + 1) (by omega) (by
    rw [List.take_add_one, List.take_add_one, ht, List.getElem?_eq_getElem (by omega), List.getElem?_eq_getElem (by omega), he]))
   conv => lhs; unfold laws_eqStringS.l0
   rw [if_pos (by omega), if_pos (by omega), if_pos (by omega), rdOf_get p i (by omega), rdOf_get q i (by omega), if_pos (toList_inj.2 he), zay (by omega)]
  ·have hne : p ≠ q := by rintro rfl; exact he rfl
   refine Evs.step (h := fun _ => some (decide (p = q))) (fun k => ?_) (Evs.const _)
   conv => lhs; unfold laws_eqStringS.l0
   rw [if_pos (by omega), if_pos (by omega), if_pos (by omega), rdOf_get p i (by omega), rdOf_get q i (by omega), if_neg (fun h => he (toList_inj.1 h)), decide_eq_false hne]
theorem eqS_ev (p q : List ByteArray) (hb : p.length ≤ 1048576) : Evs (fun k => laws_eqStringS.f k p q) (decide (p = q)) := by
 by_cases h : p.length = q.length
 ·refine Evs.congr (fun k => ?_) (eq_loop p q h hb p.length 0 (by omega) (by simp))
  unfold laws_eqStringS.f
  rw [if_pos (by omega)]
  rfl
 ·have hne : p ≠ q := by rintro rfl; exact h rfl
  refine Evs.congr (h := fun _ => some (decide (p = q))) (fun k => ?_) (Evs.const _)
  unfold laws_eqStringS.f
  rw [if_neg (by omega), decide_eq_false hne]
theorem eqS_same (p : List ByteArray) (hb : p.length ≤ 1048576) : Evs (fun k => laws_eqStringS.f k p p) true := by
 have := eqS_ev p p hb
 rwa [decide_eq_true rfl] at this
end Go.Proofs.Ytickdcegnlldjaa.Hd
namespace Go.Proofs.Ytickdcegnlldjaa.LC
open Go.RowKit Go.PW.PrintWords Go.PW.PrintLast Go.PW.PrintMore Go.Proofs.Ytickdcegnlldjaa.PB Go.Proofs.Ytickdcegnlldjaa.Hd
theorem laws_FnExactNearColours.j0_eq (k : Nat) (x0 : List ByteArray) (x6 : List ByteArray) (x34 : Bool) : laws_FnExactNearColours.j0 (k + 1) x0 x6 x34 = (if x34 = true then (some false) else ((laws_toStringS.f k x0).bind fun t277 => ((laws_eqStringS.f k x6 t277).bind fun t280 => (if t280 = true then (some true) else (some false))))) := by simp only [laws_FnExactNearColours.j0]
theorem impl_res (l0 : List ByteArray) (hs_l0 : smallP l0) : impl_NearColours.f l0 = some (coloursF l0) := by
 unfold impl_NearColours.f
 rw [if_pos ((smallB_iff _).2 hs_l0)]
theorem law_ev (l0 : List ByteArray) (hf_l0 : fits l0) : Evs (fun k => laws_FnExactNearColours.f k l0) true := by
 unfold laws_FnExactNearColours.f
 obtain ⟨v0, e0, h0⟩ := sz_ev l0 hf_l0 1048576 (by omega) (by omega)
 refine Evs.bind e0 ?_
 rcases h0 with h0 | ⟨hs_l0, g0, k0⟩
 ·exact Evs.pos h0 (Evs.const _)
 refine Evs.neg (by omega) ?_
 have hi := impl_res l0 hs_l0
 refine Evs.bind (toS_ev l0 hs_l0.1) (Evs.bind (NearColours_ev l0 hs_l0) (Evs.bind (toS_ev l0 hs_l0.1) (Evs.bindS hi ?_)))
 try dsimp only
 try simp only [if_true, bne_self_eq_false, eq_self_iff_true]
 refine Evs.step (fun k => laws_FnExactNearColours.j0_eq k _ _ _) ?_
 refine Evs.neg (by simp) ?_
 exact Evs.bind (toS_ev l0 hs_l0.1) (Evs.bind (eqS_same l0 hs_l0.1) (Evs.pos rfl (Evs.const _)))
end Go.Proofs.Ytickdcegnlldjaa.LC
