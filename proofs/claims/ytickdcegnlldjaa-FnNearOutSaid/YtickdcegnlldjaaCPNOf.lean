/- Part 6 of the proof of FnNearOut: what the program's functions and the reference's compute. -/
import Derived.Test.YtickdcegnlldjaaProg
import Derived.Below
import Derived.Deep.Draws
import Derived.Deep.AppendLies
import Derived.Maps.AppendAt
import Derived.OwnWalk
import Derived.Laws.BytesArg
import Derived.Laws.MakeOwn
import Derived.Laws.OwnMore
import Derived.Deep.OwnRows
import Derived.Tactics
import Derived.Lib.ConvBytes
import Derived.Laws.Slices
import Derived.WalkKit
import Derived.KernelRfl
import Derived.RowKit3
import Derived.Deep.LoopGhost
import Derived.Deep.QuietTactic
import Derived.BigQuiet
import Derived.WideLaws
import Derived.Deep.DeepCutAuto
import Derived.Deep.CutBlock
import Derived.Deep.RegionHeld3
import Derived.Laws.Rows
import Derived.Lib.AppendStr
import Derived.ArgAppend
import Derived.Laws.IdiomCopy
import Derived.OrdersHeld
import Derived.Laws.BitsLemmas
import Derived.RowKit
import Derived.Test.YtickdcegnlldjaaCPNOe
set_option linter.unusedSimpArgs false
set_option linter.unusedVariables false
namespace Go.Proofs.Ytickdcegnlldjaa.Hd
open Go.RowKit Go.PW.PrintWords Go.PW.PrintLast Go.PW.PrintMore Go.Proofs.Ytickdcegnlldjaa.PB
def wallsP (cs : List (List Int)) : List (Bool × Nat × Nat × Nat) := (upT cs).map (fun t => (false, t)) ++ (levT cs).map (fun t => (true, t))
theorem wallsP_walls (cs : List (List Int)) : wallsOf cs = (wallsP cs).map fun x => mkW x.1 x.2 := by
 unfold wallsP
 rw [wallsOf_eq, List.map_append, List.map_map, List.map_map]
 rfl
theorem wallsP_touch (cs : List (List Int)) : touchL cs = (wallsP cs).flatMap fun x => touchW cs x.1 x.2 := by
 unfold wallsP touchL
 rw [List.flatMap_append, List.flatMap_map, List.flatMap_map]
theorem wallsP_ok {cs : List (List Int)} {rs : List Rc} (h : zcq cs rs) (i : Nat) (hi : i < (wallsP cs).length) : ∃ lv l f n, (wallsP cs)[i]? = some (lv, l, f, n) ∧ 1 ≤ l ∧ l < linesOf cs lv ∧ f + n ≤ zby cs lv ∧ 1 ≤ n ∧ linesOf cs lv ≤ 6 ∧ zby cs lv ≤ 6 := by
 have q1 := h.h6
 have q2 := h.w6
 have q3 := h.h1
 have q4 := h.w1
 have hm := List.getElem_mem hi
 rw [List.getElem?_eq_getElem hi]
 generalize (wallsP cs)[i] = x at *
 unfold wallsP at hm
 rcases List.mem_append.1 hm with hm | hm
 ·obtain ⟨⟨l, f, n⟩, hx, rfl⟩ := List.mem_map.1 hm
  have := trip_in _ _ _ _ hx
  exact ⟨false, l, f, n, rfl, by simp only [linesOf, zby, Bool.false_eq_true, if_false]; dsimp only at this; omega⟩
 ·obtain ⟨⟨l, f, n⟩, hx, rfl⟩ := List.mem_map.1 hm
  have := trip_in _ _ _ _ hx
  exact ⟨true, l, f, n, rfl, by simp only [linesOf, zby, if_true]; dsimp only at this; omega⟩
def touchP (cs : List (List Int)) (i : Nat) : List (Int × Int) := ((wallsP cs).take i).flatMap fun x => touchW cs x.1 x.2
theorem touchW_length (cs : List (List Int)) (lv : Bool) (x : Nat × Nat × Nat) : (touchW cs lv x).length = x.2.2 := by simp [touchW]
theorem touchP_succ (cs : List (List Int)) (i : Nat) (lv : Bool) (t : Nat × Nat × Nat) (h : (wallsP cs)[i]? = some (lv, t)) : touchP cs (i + 1) = touchP cs i ++ touchW cs lv t := by
 unfold touchP
 rw [List.take_add_one, h, List.flatMap_append]
 simp
theorem touchP_length {cs : List (List Int)} {rs : List Rc} (h : zcq cs rs) : ∀ i, i ≤ (wallsP cs).length → (touchP cs i).length ≤ i * 6
 | 0, _ => by simp [touchP]
 | i + 1, hi => by
  obtain ⟨lv, l, f, n, e, h1, h2, h3, h4, h5, h6⟩ := wallsP_ok h i (by omega)
  have ih := touchP_length h i (by omega)
  rw [touchP_succ cs i lv _ e, List.length_append, touchW_length, Nat.succ_mul]
  dsimp only
  omega
theorem touchP_all (cs : List (List Int)) : touchP cs (wallsP cs).length = touchL cs := by
 unfold touchP
 rw [List.take_length, wallsP_touch]
theorem touchW_take (cs : List (List Int)) (lv : Bool) (l f n j : Nat) (hj : j < n) : (touchW cs lv (l, f, n)).take (j + 1) = (touchW cs lv (l, f, n)).take j ++ [sidesOf cs lv l (f + j)] := by
 unfold touchW
 rw [List.take_add_one, List.getElem?_map, List.getElem?_range hj]
 rfl
theorem sides_range {cs : List (List Int)} {rs : List Rc} (h : zcq cs rs) (lv : Bool) (line i : Nat) (h1 : 1 ≤ line) (h2 : line < linesOf cs lv) (h3 : i < zby cs lv) : ∃ a b : Nat, sidesOf cs lv line i = ((a : Int), (b : Int)) ∧ a < rs.length ∧ b < rs.length := by
 unfold sidesOf
 cases lv with
 | true =>
  simp only [linesOf, zby, if_true] at h2 h3
  have v1 := zck h (line - 1) i (by omega) h3
  have v2 := zck h line i h2 h3
  rw [if_pos rfl]
  exact ⟨(zaw cs (line - 1) i).toNat, (zaw cs line i).toNat, by rw [Int.toNat_of_nonneg v1.1, Int.toNat_of_nonneg v2.1], by omega, by omega⟩
 | false =>
  simp only [linesOf, zby, Bool.false_eq_true, if_false] at h2 h3
  have v1 := zck h i (line - 1) h3 (by omega)
  have v2 := zck h i line h3 h2
  rw [if_neg (by simp)]
  exact ⟨(zaw cs i (line - 1)).toNat, (zaw cs i line).toNat, by rw [Int.toNat_of_nonneg v1.1, Int.toNat_of_nonneg v2.1], by omega, by omega⟩
def incG (G : Nat → Nat → Int) (i j r c : Nat) : Int := if r = i ∧ c = j then G r c + 1 else G r c
def hitG (T : List (Int × Int)) (r c : Nat) : Int := hits T (r : Int) (c : Int)
theorem hitG_snoc (T : List (Int × Int)) (a b r c : Nat) : incG (incG (hitG T) a b) b a r c = hitG (T ++ [((a : Int), (b : Int))]) r c := by
 unfold hitG
 rw [hits_append]
 have e : hits [((a : Int), (b : Int))] (r : Int) (c : Int) = (if r = a ∧ c = b then 1 else 0) + (if r = b ∧ c = a then 1 else 0) := by
  unfold hits hit
  simp only [List.map_cons, List.map_nil, sumZ, Prod.mk.injEq]
  have e1 : ((a : Int) = (r : Int) ∧ (b : Int) = (c : Int)) ↔ (r = a ∧ c = b) := by omega
  have e2 : ((a : Int) = (c : Int) ∧ (b : Int) = (r : Int)) ↔ (r = b ∧ c = a) := by omega
  simp only [e1, e2]
  omega
 rw [e]
 unfold incG
 dsimp only
 split <;> split <;> omega
theorem grid_inc {n : Nat} (G : Nat → Nat → Int) (i j : Nat) (hi : i < n) (hj : j < n) : (zbl n n G).set i (((List.range n).map fun c => G i c).set j (G i j + 1)) = zbl n n (incG G i j) := by
 apply List.ext_getElem?
 intro r
 by_cases hr : r < n
 ·rw [gridOf_get hr, List.getElem?_set]
  by_cases e : i = r
  ·subst e
   rw [if_pos rfl, if_pos (by rw [zbf]; exact hi)]
   congr 1
   apply List.ext_getElem?
   intro c
   rw [List.getElem?_set]
   by_cases hc : c < n
   ·rw [List.getElem?_map, List.getElem?_range hc]
    by_cases e2 : j = c
    ·subst e2
     rw [if_pos rfl, if_pos (by simp; exact hj), List.getElem?_map, List.getElem?_range hj]
     simp [incG]
    ·rw [if_neg e2, List.getElem?_map, List.getElem?_range hc]
     simp only [Option.map_some, incG]
     rw [if_neg (fun z => e2 z.2.symm)]
   ·rw [List.getElem?_eq_none (by simp; omega : ((List.range n).map fun c => incG G i j i c).length ≤ c), if_neg (by omega), List.getElem?_eq_none (by simp; omega)]
  ·rw [if_neg e, gridOf_get hr]
   congr 1
   apply List.map_congr_left
   intro c _
   unfold incG
   rw [if_neg (fun z => e z.1.symm)]
 ·rw [List.getElem?_eq_none (by rw [List.length_set, zbf]; omega), List.getElem?_eq_none (by rw [zbf]; omega)]
theorem mat_inc {W : World} {g0 n : Nat} {bs : List Nat} {G : Nat → Nat → Int} (HM : MatAt W g0 n bs (zbl n n G)) (i j : Nat) (hi : i < n) (hj : j < n) :
  ∃ b, b ∈ bs ∧ W.cell? ⟨g0, i, none⟩ = some (.slice (some ⟨b, 0, none⟩) n n) ∧ W.cell? ⟨b, j, none⟩ = some (.int .i64 (G i j)) ∧ W.frozen? ⟨b, j, none⟩ = false ∧ ∀ p : Int, p = G i j + 1 → MatAt (W.setCell ⟨b, j, none⟩ (.int .i64 p)) g0 n bs (zbl n n (incG G i j)) := by
 have hr := gridOf_get (hi := n) (wi := n) (g := G) hi
 obtain ⟨b, hb⟩ : ∃ b, bs[i]? = some b := ⟨_, List.getElem?_eq_getElem (by rw [HM.len, zbf]; exact hi)⟩
 have hx : ((List.range n).map fun c => G i c)[j]? = some (G i j) := by rw [List.getElem?_map, List.getElem?_range hj]; rfl
 have h1 := HM.topCell i b _ hb hr
 have h2 := HM.rowCell i j b _ _ hb hr hx
 have h3 := HM.set i j b _ (G i j + 1) hb hr
 rw [grid_inc G i j hi hj] at h3
 simp only [List.length_map, List.length_range] at h1
 exact ⟨b, List.mem_of_getElem? hb, h1, h2.1, h2.2, fun p hp => by subst hp; exact h3⟩
theorem wallsP_get {cs : List (List Int)} {i : Nat} {x : Bool × Nat × Nat × Nat} (h : (wallsP cs)[i]? = some x) : (wallsOf cs).getD i zeroW = mkW x.1 x.2 := by
 rw [wallsP_walls, List.getD_eq_getElem?_getD, List.getElem?_map, h]
 rfl
theorem wallsP_length (cs : List (List Int)) : (wallsP cs).length = (wallsOf cs).length := by rw [wallsP_walls]; simp
set_option maxHeartbeats 4000000 in
set_option maxRecDepth 100000 in
theorem touching1_read (w : World) (n : Nat) : ReadFn Try.prog 101 #[] w n n (fun _ _ => 0) := by
 intro W r c hr hc hS
 clear hS
 show Calls _ _ #[.int .i64 r, .int .i64 c] W _
 go_enter Try.func101, Try.ntmps101
 go_wp2
 go_ret
 exact ⟨rfl, Below.refl _ _⟩
theorem block_ne {W : World} {a b t s : Nat} {x y : Array Value} {u v : Nat × Nat} (ha : W.heap[a]? = some (.cells x t u)) (hb : W.heap[b]? = some (.cells y s v)) (h : t ≠ s) : a ≠ b := by
 rintro rfl
 rw [ha] at hb
 injection hb with hb
 injection hb with _ hb
 exact h hb
theorem MatAt.typed {W : World} {g n : Nat} {bs : List Nat} {rows : List (List Int)} (h : MatAt W g n bs rows) {b : Nat} (hb : b ∈ bs) : ∃ x, W.heap[b]? = some (.cells x 3 (0, 0)) := by
 obtain ⟨i, hi, e⟩ := List.mem_iff_getElem.1 hb
 have hr : i < rows.length := by rw [← h.len]; exact hi
 exact ⟨_, h.row i b _ (by rw [List.getElem?_eq_getElem hi, e]) (List.getElem?_eq_getElem hr)⟩
set_option maxHeartbeats 8000000 in
set_option maxRecDepth 100000 in
theorem touching_calls (g : Nat) (cs : List (List Int)) (rs : List Rc) (w : World) (hf : zcr w g cs rs) (hk : zcq cs rs) :
  Calls Try.prog 80 #[.pointer (some ⟨g, 0, none⟩)] w (GridRes w (touchM cs rs.length)) := by
 have HF := zaa.mk hf
 have HK := zaa.mk hk
 obtain ⟨Ar, cr, hrm, -⟩ := hf.rooms
 have h9 := hk.many
 clear hf hk
 have b9 : (rs.length : Int) ≤ 9 := by omega
 go_enter Try.func80, Try.ntmps80
 go_wp2
 refine start_ (n := 12) (S := fun w' => (w'.cell? ⟨g, 1, none⟩ = some (.slice Ar rs.length cr)) ∧ (Below w.heap.size w w')) (ds := []) #[false, false, false, false, false, false, false, false, false, false, false, false] (by kernel_rfl) rfl rfl (⟨hrm, ⟨rfl, rfl, rfl, Nat.le_refl _, fun _ _ => rfl⟩⟩) (fun hHeld => ?_)
 clear hrm
 refine zbd (i := 0) (N := some 9) (v := ?_) (a' := ?_) #[true, false, false, false, false, false, false, false, false, false, false, false] rfl rfl (by kernel_rfl) (fun _ _ _ h => h) (Or.inl ⟨by rfl, ?_⟩) ?_ ?_
 rotate_left
 ·intro w'
  go_simp
  with_reducible rfl
 rotate_left
 ·simp only [Act.put, List.setIfInBounds_toArray, List.set_cons_zero, List.set_cons_succ, zat, zau]
  rfl
 refine zbd (i := 1) (N := some 10) (v := ?_) (a' := ?_) #[true, true, false, false, false, false, false, false, false, false, false, false] rfl rfl (by kernel_rfl) (fun _ _ _ h => h) (Or.inl ⟨by rfl, ?_⟩) ?_ ?_
 rotate_left
 ·intro w'
  go_simp
  with_reducible rfl
 rotate_left
 ·simp only [Act.put, List.setIfInBounds_toArray, List.set_cons_zero, List.set_cons_succ, zat, zau]
  rfl
 refine zbd (i := 2) (N := some 11) (v := ?_) (a' := ?_) #[true, true, true, false, false, false, false, false, false, false, false, false] rfl rfl (by kernel_rfl) (fun _ _ _ h => h) (Or.inl ⟨by rfl, ?_⟩) ?_ ?_
 rotate_left
 ·intro w'
  go_simp
  with_reducible rfl
 rotate_left
 ·simp only [Act.put, List.setIfInBounds_toArray, List.set_cons_zero, List.set_cons_succ, zat, zau]
  rfl
 refine take_ (i := 3) (N := some 12) (v := ?_) (a' := ?_) #[true, true, true, true, false, false, false, false, false, false, false, false] rfl rfl (by kernel_rfl) (fun _ _ _ h => h) (Or.inl ⟨by rfl, ?_⟩) hHeld ?_ ?_
 rotate_left
 ·rintro w' ⟨s0, s1⟩
  go_simp
  with_reducible rfl
 rotate_left
 ·simp only [Act.put, List.setIfInBounds_toArray, List.set_cons_zero, List.set_cons_succ, zat, zau]
  rfl
 refine zbd (i := 4) (N := some 13) (v := ?_) (a' := ?_) #[true, true, true, true, true, false, false, false, false, false, false, false] rfl rfl (by kernel_rfl) (fun _ _ _ h => h) (Or.inl ⟨by rfl, ?_⟩) ?_ ?_
 rotate_left
 ·intro w'
  go_simp
  with_reducible rfl
 rotate_left
 ·simp only [Act.put, List.setIfInBounds_toArray, List.set_cons_zero, List.set_cons_succ, zat, zau]
  rfl
 refine zbd (i := 5) (N := some 14) (v := ?_) (a' := ?_) #[true, true, true, true, true, true, false, false, false, false, false, false] rfl rfl (by kernel_rfl) (fun _ _ _ h => h) (Or.inl ⟨by rfl, ?_⟩) ?_ ?_
 rotate_left
 ·intro w'
  go_simp
  with_reducible rfl
 rotate_left
 ·simp only [Act.put, List.setIfInBounds_toArray, List.set_cons_zero, List.set_cons_succ, zat, zau]
  rfl
 refine zbd (i := 6) (N := some 15) (v := ?_) (a' := ?_) #[true, true, true, true, true, true, true, false, false, false, false, false] rfl rfl (by kernel_rfl) (fun _ _ _ h => h) (Or.inl ⟨by rfl, ?_⟩) ?_ ?_
 rotate_left
 ·intro w'
  go_simp
  with_reducible rfl
 rotate_left
 ·simp only [Act.put, List.setIfInBounds_toArray, List.set_cons_zero, List.set_cons_succ, zat, zau]
  rfl
 refine zbd (i := 7) (N := some 16) (v := ?_) (a' := ?_) #[true, true, true, true, true, true, true, true, false, false, false, false] rfl rfl (by kernel_rfl) (fun _ _ _ h => h) (Or.inl ⟨by rfl, ?_⟩) ?_ ?_
 rotate_left
 ·intro w'
  go_simp
  with_reducible rfl
 rotate_left
 ·simp only [Act.put, List.setIfInBounds_toArray, List.set_cons_zero, List.set_cons_succ, zat, zau]
  rfl
 refine take_ (i := 8) (N := some 17) (v := ?_) (a' := ?_) #[true, true, true, true, true, true, true, true, true, false, false, false] rfl rfl (by kernel_rfl) (fun _ _ _ h => h) (Or.inl ⟨by rfl, ?_⟩) hHeld ?_ ?_
 rotate_left
 ·rintro w' ⟨s0, s1⟩
  go_simp
  with_reducible rfl
 rotate_left
 ·simp only [Act.put, List.setIfInBounds_toArray, List.set_cons_zero, List.set_cons_succ, zat, zau]
  rfl
 refine zbd (i := 9) (N := some 18) (v := ?_) (a' := ?_) #[true, true, true, true, true, true, true, true, true, true, false, false] rfl rfl (by kernel_rfl) (fun _ _ _ h => h) (Or.inl ⟨by rfl, ?_⟩) ?_ ?_
 rotate_left
 ·intro w'
  go_simp
  with_reducible rfl
 rotate_left
 ·simp only [Act.put, List.setIfInBounds_toArray, List.set_cons_zero, List.set_cons_succ, zat, zau]
  rfl
 refine one_ (i := 10) (N := some 19) #[true, true, true, true, true, true, true, true, true, true, true, false] rfl rfl (by kernel_rfl) (by decide) (fun K hK => ?_)
 refine goes_ Try.func75 (by kernel_rfl) rfl #[.int .i64 (rs.length : Int), .int .i64 (rs.length : Int), .func (.func 101) #[] #[]] (by rfl) rfl rfl (by (try simp only [List.map_toArray, List.map_cons, List.map_nil]); first | done | rfl) ?_
 have hs_ := hHeld
 obtain ⟨s0, s1⟩ := hs_
 refine (blank_calls 101 Try.f101 Try.func101 (by kernel_rfl) rfl _ rs.length rs.length _ _ (readFn_cell (touching1_read _ rs.length)) (fun k => k < _) _ ⟨fun _ => Iff.rfl, Sees.refl _⟩ (by omega) (by omega)).mono ?_
 rintro e w13 ⟨g0, bs, F', rfl, hM, hfar, ⟨hF, hS⟩, hF', hO⟩
 have hb : Below _ _ w13 := ⟨hO.os, hO.tape, hO.output, hS.1, hS.2⟩
 have HM13 := zaa.mk hM
 have HLow := zaa.mk (fun k hk => Nat.le_trans s1.size (hfar k hk).1)
 have HB13 := zaa.mk (zah s1 hb)
 clear hM hfar hF hS hF' hO
 refine ⟨_, rfl, ?_⟩
 refine hK.out _ _ ⟨zae hb s0, zah s1 hb⟩ (fun hHeld => ?_)
 clear hK K hb s0 s1
 refine norm_ (a' := ?_) ?_ ?_
 rotate_left
 ·show Act.put _ (some 19) _ = _
  simp only [Act.put, List.setIfInBounds_toArray, List.set_cons_zero, List.set_cons_succ, zat, zau]
  rfl
 refine zbd (i := 11) (N := some 3) (v := ?_) (a' := ?_) #[true, true, true, true, true, true, true, true, true, true, true, true] rfl rfl (by kernel_rfl) (fun _ _ _ h => h) (Or.inl ⟨by rfl, ?_⟩) ?_ ?_
 rotate_left
 ·intro w'
  go_simp
  with_reducible rfl
 rotate_left
 ·simp only [Act.put, List.setIfInBounds_toArray, List.set_cons_zero, List.set_cons_succ, zat, zau]
  rfl
 refine done_ (by kernel_rfl) ?_
 clear hHeld
 obtain ⟨K, hK⟩ := walls_ev HK.out
 have HW := zaa.mk (hK K (Nat.le_refl K))
 have HL := zaa.mk (wallsOf_bound HK.out)
 have HPL := zaa.mk (wallsP_length cs)
 have HPG := zaa.mk (fun i x h => wallsP_get (cs := cs) (i := i) (x := x) h)
 have hM0 : touchM cs rs.length = zbl rs.length rs.length (hitG (touchP cs (wallsOf cs).length)) := by
  rw [← wallsP_length, touchP_all]
  rfl
 have HM0 := zaa.mk hM0
 have HZ := zaa.mk (show zbl rs.length rs.length (fun _ _ => 0) = zbl rs.length rs.length (hitG (touchP cs 0)) from gridOf_congr fun r c _ _ => rfl)
 clear hK hM0
 generalize wallsOf cs = ws at *
 generalize touchM cs rs.length = tm at *
 have b1 : (ws.length : Int) ≤ 72 := by have := HL.out; omega
 go_wp2_with (first
  | (go_at_call 61; refine (impl_floor_walls.calls K g cs rs ws _ _ (HF.out.below HB13.out) (Below.refl _ _) HW.out).mono ?_; rintro e w9 ⟨v9, rfl, hr9, -, hb9, -⟩; obtain ⟨A9, c9, e9⟩ := Kd.R_slice hr9; subst e9; have HB9 := zaa.mk (zah HB13.out hb9); have HR9 := zaa.mk (Kd.R_lower hr9 HB13.out.size); have HM9 := zaa.mk (HM13.out.move (fun k hk => hb9.block k (HM13.out.lt k hk))); clear hb9 hr9))
 go_loopg [23] ws.length (fun kq v23 w' => ∃ i : Nat, v23 = .int .i64 (i : Int) ∧ zaa (i + kq = ws.length) ∧ zaa (MatAt w' g0 rs.length bs (zbl rs.length rs.length (hitG (touchP cs i)))) ∧ zaa (Kd.R kWl 72 w' w.heap.size (fun _ => True) (.slice A9 ws.length c9) ws) ∧ zaa (Below w.heap.size w w'))
 case atStart => exact ⟨0, rfl, ⟨by omega⟩, ⟨HZ.out ▸ HM9.out⟩, HR9, HB9⟩
 case round =>
  clear HR9 HB9 HM9
  obtain ⟨i, rfl, HKi, HM, HO, HB⟩ := hrel
  by_cases hi : i < ws.length
  ·have hlt : (i : Int) < (ws.length : Int) := by omega
   have hi0 : (0 : Int) ≤ i := by omega
   obtain ⟨gr, cp, ev, hgr, hltg, cells, hcells⟩ := Kd.R_form HO.out (by omega)
   injection ev with ea en ec
   subst ea
   clear en ec hcells hltg hgr
   obtain ⟨z0, z1, z2, z3⟩ := wl_cells HO.out i hi
   obtain ⟨lv, l, f, n, hP, k1, k2, k3, k4, k5, k6⟩ := wallsP_ok HK.out i (by rw [HPL.out]; exact hi)
   rw [HPG.out i _ hP] at z0 z1 z2 z3
   simp only [mkW] at z0 z1 z2 z3
   have HTS := zaa.mk (touchP_succ cs i lv _ hP)
   have HTL := zaa.mk (touchP_length HK.out i (by rw [HPL.out]; omega))
   have HSd := zaa.mk (fun j (hj : j < n) => sides_range HK.out lv l (f + j) k1 k2 (by omega))
   have HSf := zaa.mk (fun j (hj : j < n) => sides_f HK.out lv l (f + j) k1 k2 (by omega))
   obtain ⟨fn, hw, hfn⟩ : ∃ fn : Int, wrap64 ((f : Int) + (n : Int)) = fn ∧ fn = (f : Int) + (n : Int) := ⟨_, rfl, zaq (by omega) (by omega)⟩
   have HFN := zaa.mk hfn
   have HN6 := zaa.mk (show f + n ≤ 6 ∧ n ≤ 6 by omega)
   clear hP k1 k2 k3 k4 k5 k6 hfn
   have HNw := zaa.mk (heap_alloc_new wr (.cells #[.bool lv, .int .i64 (l : Int), .int .i64 (f : Int), .int .i64 (n : Int)] 72))
   have HBa := zaa.mk (zac HB.out (.cells #[.bool lv, .int .i64 (l : Int), .int .i64 (f : Int), .int .i64 (n : Int)] 72))
   have HOa := zaa.mk (Kd.R_below HO.out (zac (Below.refl _ _) (.cells #[.bool lv, .int .i64 (l : Int), .int .i64 (f : Int), .int .i64 (n : Int)] 72)))
   have HMa := zaa.mk (HM.out.move (fun k hk => Below.heap_alloc wr (.cells #[.bool lv, .int .i64 (l : Int), .int .i64 (f : Int), .int .i64 (n : Int)] 72) k (HM.out.lt k hk)))
   clear HB HM HO
   go_wp2
   generalize wr.alloc (.cells #[.bool lv, .int .i64 (l : Int), .int .i64 (f : Int), .int .i64 (n : Int)] 72) = wz at *
   generalize wr.heap.size = gw at *
   clear z0 z1 z2 z3
   go_loopg [6] n (fun kq v6 w' => ∃ (j : Nat) (x : Int), v6 = .int .i64 x ∧ zaa (x = (f : Int) + (j : Int)) ∧ zaa (j + kq = n) ∧ zaa (MatAt w' g0 rs.length bs (zbl rs.length rs.length (hitG (touchP cs i ++ (touchW cs lv (l, f, n)).take j)))) ∧ zaa (w'.heap[gw]? = some (.cells #[.bool lv, .int .i64 (l : Int), .int .i64 (f : Int), .int .i64 (n : Int)] 72 (0, 0))) ∧ zaa (Kd.R kWl 72 w' w.heap.size (fun _ => True) (.slice (some ⟨gr, 0, none⟩) ws.length c9) ws) ∧ zaa (Below w.heap.size w w'))
   case atStart => exact ⟨0, (f : Int), rfl, ⟨by omega⟩, ⟨by omega⟩, ⟨by simpa using HMa.out⟩, HNw, HOa, HBa⟩
   case round =>
    clear HMa HNw HOa HBa
    obtain ⟨j, x, rfl, HX, HKj, HM, HNw, HO, HB⟩ := hrel
    have y0 := (zav HNw.out 0).trans rfl
    have y1 := (zav HNw.out 1).trans rfl
    have y2 := (zav HNw.out 2).trans rfl
    have y3 := (zav HNw.out 3).trans rfl
    by_cases hj : j < n
    ·have hlt2 : x < fn := by have := HX.out; have := HFN.out; omega
     obtain ⟨a, b, hs, ha, hb⟩ := HSd.out j hj
     have hsf := HSf.out j hj
     rw [hs, show ((f + j : Nat) : Int) = x by have := HX.out; omega] at hsf
     have HSF := zaa.mk hsf
     have HS := zaa.mk hs
     have HTT := zaa.mk (touchW_take cs lv l f n j hj)
     have hTl : (touchP cs i ++ (touchW cs lv (l, f, n)).take j).length ≤ 500 := by
      have := HTL.out
      have := HN6.out
      rw [List.length_append, List.length_take, touchW_length]
      dsimp only
      omega
     obtain ⟨x', hw3, hx'⟩ : ∃ x' : Int, wrap64 (x + 1) = x' ∧ x' = (f : Int) + ((j + 1 : Nat) : Int) := ⟨_, rfl, by have := HX.out; have := HN6.out; rw [zaq (by omega) (by omega)]; omega⟩
     have HX' := zaa.mk hx'
     have a0 : (0 : Int) ≤ (a : Int) := by omega
     have b0 : (0 : Int) ≤ (b : Int) := by omega
     have a1 : (a : Int) < (rs.length : Int) := by omega
     have b2 : (b : Int) < (rs.length : Int) := by omega
     obtain ⟨T, hT⟩ : ∃ T, T = touchP cs i ++ (touchW cs lv (l, f, n)).take j := ⟨_, rfl⟩
     rw [← hT] at HM hTl
     have HTn := zaa.mk (show touchP cs i ++ (touchW cs lv (l, f, n)).take (j + 1) = T ++ [((a : Int), (b : Int))] by rw [HTT.out, HS.out, ← List.append_assoc, hT])
     have HTB := zaa.mk (fun r c => hits_range' T r c)
     have HTLn := zaa.mk hTl
     clear hs hsf hx' hTl hT
     go_wp2_with (first
      | (go_at_call 102; refine (impl_floor_sides.calls g cs rs lv (l : Int) x (a : Int) (b : Int) _ _ (HF.out.below HB.out) (Below.refl _ _) HSF.out).mono ?_; rintro e w12 ⟨rfl, -, hb12, -⟩; have hm12 := HM.out.move (fun k hk => hb12.block k (HM.out.lt k hk)); obtain ⟨p1, hp1, q1, q2, q3, hm1⟩ := mat_inc hm12 a b ha hb; obtain ⟨v1, hv1, hv1'⟩ : ∃ v1 : Int, wrap64 (hitG T a b + 1) = v1 ∧ v1 = hitG T a b + 1 := ⟨_, rfl, by have := HTB.out a b; have := HTLn.out; unfold hitG; exact zaq (by omega) (by omega)⟩; replace hm1 := hm1 v1 hv1'; obtain ⟨p2, hp2, r1, r2, r3, hm2⟩ := mat_inc hm1 b a hb ha; obtain ⟨v2, hv2, hv2'⟩ : ∃ v2 : Int, wrap64 (incG (hitG T) a b b a + 1) = v2 ∧ v2 = incG (hitG T) a b b a + 1 := ⟨_, rfl, by have := HTB.out b a; have := HTLn.out; unfold incG hitG; split <;> exact zaq (by omega) (by omega)⟩; replace hm2 := hm2 v2 hv2'; obtain ⟨X1, ht1⟩ := hm12.typed hp1; obtain ⟨X2, ht2⟩ := hm1.typed hp2; have hn12 := (hb12.block gw (Array.getElem?_eq_some_iff.1 HNw.out).1).trans HNw.out; have HNw2 := zaa.mk ((Below.heap_setCell (w12.setCell ⟨p1, b, none⟩ (.int .i64 v1)) ⟨p2, a, none⟩ (.int .i64 v2) gw (by show gw ≠ p2; exact block_ne ((Below.heap_setCell w12 ⟨p1, b, none⟩ (.int .i64 v1) gw (by show gw ≠ p1; exact block_ne hn12 ht1 (by decide))).trans hn12) ht2 (by decide))).trans ((Below.heap_setCell w12 ⟨p1, b, none⟩ (.int .i64 v1) gw (by show gw ≠ p1; exact block_ne hn12 ht1 (by decide))).trans hn12)); have HO2 := zaa.mk (R_setF (R_setF (Kd.R_below HO.out hb12) ht1 (by decide) b (.int .i64 v1)) ht2 (by decide) a (.int .i64 v2)); have HB2 := zaa.mk (zak (zak (zah HB.out hb12) (g := p1) (j := b) (v := .int .i64 v1) (HLow.out p1 (List.mem_cons_of_mem _ hp1))) (g := p2) (j := a) (v := .int .i64 v2) (HLow.out p2 (List.mem_cons_of_mem _ hp2))); have HM2 := zaa.mk hm2; clear hm12 hm1 hm2 hp1 hp2 ht1 ht2 hn12 hb12 hv1' hv2' HO HB HM HNw; generalize hitG T a b = g1 at q2 hv1; generalize incG (hitG T) a b b a = g2 at r2 hv2))
     go_roundg (n - (j + 1))
     case measure => have := HKj.out; omega
     case rel => exact ⟨j + 1, x', congrArg (Value.int .i64) hw3, HX', ⟨by have := HKj.out; omega⟩, ⟨by rw [HTn.out, ← gridOf_congr (fun r c _ _ => hitG_snoc T a b r c)]; exact HM2.out⟩, HNw2, HO2, HB2⟩
    ·have hge2 : ¬ x < fn := by have := HX.out; have := HFN.out; omega
     obtain rfl : j = n := by have := HKj.out; omega
     go_wp2
     go_roundg (ws.length - (i + 1))
     case measure => have := HKi.out; omega
     case rel => exact ⟨i + 1, by first | rfl | (congr 1; omega), ⟨by have := HKi.out; omega⟩, ⟨by rw [HTS.out]; have := HM.out; rwa [List.take_of_length_le (by rw [touchW_length]; exact Nat.le_refl _)] at this⟩, HO, HB⟩
  ·have hge : ¬ (i : Int) < (ws.length : Int) := by omega
   obtain rfl : i = ws.length := by have := HKi.out; omega
   go_wp2
   go_ret
   have hl := zbf rs.length rs.length (hitG (touchP cs ws.length))
   rw [HM0.out]
   exact ⟨some ⟨g0, 0, none⟩, rs.length, by rw [hl]; rfl, by rw [hl]; exact Nat.le_refl _, HM.out.reads (by rw [hl]; omega) (fun r hr => by rw [gridOf_row r hr]; omega), HB.out⟩
theorem touchM_length (cs : List (List Int)) (n : Nat) : (touchM cs n).length = n := zbf _ _ _
def pairF (p : List ByteArray) (a b : Int) : Option (List (List Int) × List Rc) := match zbu p with
 | none => none
 | some (cs, rs) => if (hasB rs a && hasB rs b) = true then some (cs, rs) else none
def PairRes (w : World) (r : Option (List (List Int) × List Rc)) (e : Ending) (w' : World) : Prop :=
 Below w.heap.size w w' ∧ match r with
  | none => e = .returned (.tuple #[.pointer none, .slice none 0 0, .bool false])
  | some (cs, rs) => ∃ g A c, e = .returned (.tuple #[.pointer (some ⟨g, 0, none⟩), .slice A (touchM cs rs.length).length c, .bool true]) ∧ zcr w' g cs rs ∧ (touchM cs rs.length).length ≤ c ∧ (Kd.slice 3 (Kd.int .i64)).C w' A (touchM cs rs.length).length (touchM cs rs.length)
set_option maxHeartbeats 4000000 in
set_option maxRecDepth 100000 in
theorem pair_calls (A0 : Option Addr) (c0 : Nat) (l0 : List ByteArray) (a b : Int) (w : World) (hr0 : Kd.C Kd.string w A0 l0.length l0) (hc0 : l0.length ≤ c0) (hp : smallP l0) :
  Calls Try.prog 95 #[.slice A0 l0.length c0, .int .i64 a, .int .i64 b] w (PairRes w (pairF l0 a b)) := by
 have HR := zaa.mk hr0
 have HC := zaa.mk hc0
 have HP := zaa.mk hp
 clear hr0 hc0 hp
 generalize hM : pairF l0 a b = res
 have HM := zaa.mk hM
 clear hM
 generalize hF : zbu l0 = t
 have HF := zaa.mk hF
 clear hF
 rcases t with _ | ⟨cs, rs⟩
 ·have e : res = none := by rw [← HM.out]; unfold pairF; rw [HF.out]
  subst e
  go_enter Try.func95, Try.ntmps95
  go_wp2_with (first
   | (go_at_call 49; refine (floorOf_calls A0 c0 l0 _ HR.out HC.out HP.out).mono ?_; rw [HF.out]; rintro e w8 ⟨hb8, v8, b8, rfl, rfl⟩; have HB8 := zaa.mk hb8; clear hb8))
  go_ret3
  exact ⟨HB8.out, rfl⟩
 ·have hre : pairF l0 a b = if (hasB rs a && hasB rs b) = true then some (cs, rs) else none := by unfold pairF; rw [HF.out]
  rw [HM.out] at hre
  have HK := zaa.mk (floorF_ok HF.out)
  generalize hA : hasB rs a = bA at hre
  generalize hB : hasB rs b = bB at hre
  have HA := zaa.mk hA
  have HBb := zaa.mk hB
  clear hA hB
  cases bA
  ·have e : res = none := by rw [hre]; simp
   subst e
   clear hre
   go_enter Try.func95, Try.ntmps95
   go_wp2_with (first
    | (go_at_call 49; refine (floorOf_calls A0 c0 l0 _ HR.out HC.out HP.out).mono ?_; rw [HF.out]; rintro e w8 ⟨hb8, v8, b8, rfl, rfl, g, rfl, hfl⟩; have HB8 := zaa.mk hb8; have HFl8 := zaa.mk hfl; clear hb8 hfl)
    | (go_at_call 113; refine (impl_floor_has.calls g cs rs a _ _ _ HFl8.out (Below.refl _ _) (has_f cs rs a)).mono ?_; rw [HA.out]; rintro e w9 ⟨rfl, -, hb9, -⟩; have HB9 := zaa.mk (zah HB8.out hb9); clear hb9))
   go_ret3
   exact ⟨HB9.out, rfl⟩
  ·cases bB
   ·have e : res = none := by rw [hre]; simp
    subst e
    clear hre
    go_enter Try.func95, Try.ntmps95
    go_wp2_with (first
     | (go_at_call 49; refine (floorOf_calls A0 c0 l0 _ HR.out HC.out HP.out).mono ?_; rw [HF.out]; rintro e w8 ⟨hb8, v8, b8, rfl, rfl, g, rfl, hfl⟩; have HB8 := zaa.mk hb8; have HFl8 := zaa.mk hfl; clear hb8 hfl)
     | (go_at_call 113; refine calls_of_args (args' := #[.pointer (some ⟨g, 0, none⟩), .int .i64 a]) (by with_reducible rfl) ?_; refine (impl_floor_has.calls g cs rs a _ _ _ HFl8.out (Below.refl _ _) (has_f cs rs a)).mono ?_; rw [HA.out]; rintro e w9 ⟨rfl, -, hb9, -⟩; have HB9 := zaa.mk (zah HB8.out hb9); have HFl9 := zaa.mk (HFl8.out.below hb9); clear hb9)
     | (go_at_call 113; refine calls_of_args (args' := #[.pointer (some ⟨g, 0, none⟩), .int .i64 b]) (by with_reducible rfl) ?_; refine (impl_floor_has.calls g cs rs b _ _ _ HFl9.out (Below.refl _ _) (has_f cs rs b)).mono ?_; rw [HBb.out]; rintro e w10 ⟨rfl, -, hb10, -⟩; have HB10 := zaa.mk (zah HB9.out hb10); clear hb10))
    go_ret3
    exact ⟨HB10.out, rfl⟩
   ·have e : res = some (cs, rs) := by rw [hre]; simp
    subst e
    clear hre
    go_enter Try.func95, Try.ntmps95
    go_wp2_with (first
     | (go_at_call 49; refine (floorOf_calls A0 c0 l0 _ HR.out HC.out HP.out).mono ?_; rw [HF.out]; rintro e w8 ⟨hb8, v8, b8, rfl, rfl, g, rfl, hfl⟩; have HB8 := zaa.mk hb8; have HFl8 := zaa.mk hfl; clear hb8 hfl)
     | (go_at_call 113; refine calls_of_args (args' := #[.pointer (some ⟨g, 0, none⟩), .int .i64 a]) (by with_reducible rfl) ?_; refine (impl_floor_has.calls g cs rs a _ _ _ HFl8.out (Below.refl _ _) (has_f cs rs a)).mono ?_; rw [HA.out]; rintro e w9 ⟨rfl, -, hb9, -⟩; have HB9 := zaa.mk (zah HB8.out hb9); have HFl9 := zaa.mk (HFl8.out.below hb9); clear hb9)
     | (go_at_call 113; refine calls_of_args (args' := #[.pointer (some ⟨g, 0, none⟩), .int .i64 b]) (by with_reducible rfl) ?_; refine (impl_floor_has.calls g cs rs b _ _ _ HFl9.out (Below.refl _ _) (has_f cs rs b)).mono ?_; rw [HBb.out]; rintro e w10 ⟨rfl, -, hb10, -⟩; have HB10 := zaa.mk (zah HB9.out hb10); have HFl10 := zaa.mk (HFl9.out.below hb10); clear hb10)
     | (go_at_call 80; refine (touching_calls g cs rs _ HFl10.out HK.out).mono ?_; rintro e w11 ⟨A11, c11, rfl, hl11, hC11, hb11⟩; have HB11 := zaa.mk (zah HB10.out hb11); have HFl11 := zaa.mk (HFl10.out.below hb11); have HL11 := zaa.mk hl11; have HC11 := zaa.mk hC11; clear hb11 hl11 hC11))
    go_ret3
    exact ⟨HB11.out, g, A11, c11, rfl, HFl11.out, HL11.out, HC11.out⟩
theorem touch_cell {w : World} {A : Option Addr} {cs : List (List Int)} {n : Nat} (h : (Kd.slice 3 (Kd.int .i64)).C w A (touchM cs n).length (touchM cs n)) (a b : Nat) (ha : a < n) (hb : b < n) :
  ∃ ad ad2 c2, A = some ad ∧ w.cell? (ad.add a) = some (.slice (some ad2) n c2) ∧ w.cell? (ad2.add b) = some (.int .i64 (besN cs a b)) := by
 have hrow : (touchM cs n)[a]? = some ((List.range n).map fun (c : Nat) => hits (touchL cs) a c) := gridOf_get ha
 obtain ⟨ad, Ai, ci, e1, hx, hl, hrr⟩ := C_row h a _ hrow
 obtain ⟨ad2, e2, hx2⟩ := C_int_cell hrr b (by simp; exact hb)
 subst e2
 refine ⟨ad, ad2, ci, e1, by simpa using hx, ?_⟩
 rw [hx2, besN_hits]
 unfold rd
 rw [Int.toNat_natCast, List.getD_eq_getElem?_getD, List.getElem?_map, List.getElem?_range hb]
 rfl
set_option maxHeartbeats 4000000 in
set_option maxRecDepth 100000 in
theorem NearLength_calls (A0 : Option Addr) (c0 : Nat) (l0 : List ByteArray) (a b : Int) (w : World) (hr0 : Kd.C Kd.string w A0 l0.length l0) (hc0 : l0.length ≤ c0) (hp : smallP l0) :
  Calls Try.prog 59 #[.slice A0 l0.length c0, .int .i64 a, .int .i64 b] w fun e w' => e = .returned (.tuple #[.int .i64 (zch l0 a b).1, .bool (zch l0 a b).2]) ∧ Below w.heap.size w w' := by
 have HPr := zaa.mk (pair_calls A0 c0 l0 a b w hr0 hc0 hp)
 clear hr0 hc0 hp
 generalize hM : zch l0 a b = res
 have hre : zch l0 a b = match pairF l0 a b with
  | none => (0, false)
  | some (cs, rs) => if (a == b) = true then (0, false) else (besN cs a b, true) := by
  unfold zch pairF
  cases zbu l0 with
  | none => rfl
  | some t =>
   dsimp only
   cases hasB t.2 a <;> cases hasB t.2 b <;> cases (a == b) <;> rfl
 have hin : ∀ cs rs, pairF l0 a b = some (cs, rs) → zcq cs rs ∧ hasB rs a = true ∧ hasB rs b = true := fun cs rs h => by
  unfold pairF at h
  cases hF : zbu l0 with
  | none => rw [hF] at h; cases h
  | some t =>
   obtain ⟨c1, r1⟩ := t
   rw [hF] at h
   dsimp only at h
   split at h
   ·rename_i hb
    injection h with h
    injection h with h1 h2
    subst h1 h2
    rw [Bool.and_eq_true] at hb
    exact ⟨floorF_ok hF, hb.1, hb.2⟩
   ·cases h
 rw [hM] at hre
 clear hM
 rcases hT : pairF l0 a b with _ | ⟨cs, rs⟩
 ·rw [hT] at hre HPr
  have e : res = (0, false) := hre
  subst e
  clear hre hin hT
  go_enter Try.func59, Try.ntmps59
  go_wp2_with (first
   | (go_at_call 95; refine HPr.out.mono ?_; rintro e w8 ⟨hb8, rfl⟩; have HB8 := zaa.mk hb8; clear hb8))
  go_ret2
  exact ⟨rfl, HB8.out⟩
 ·obtain ⟨hk, hA, hB⟩ := hin cs rs hT
  rw [hT] at hre HPr
  have hre2 : res = if (a == b) = true then (0, false) else (besN cs a b, true) := hre
  clear hre hin hT
  unfold hasB at hA hB
  rw [Bool.and_eq_true, decide_eq_true_eq, decide_eq_true_eq] at hA hB
  by_cases hab : a = b
  ·have e : res = (0, false) := by rw [hre2]; simp [hab]
   subst e
   have d1 : (a == b) = true := by simp [hab]
   clear hre2 hab hA hB
   go_enter Try.func59, Try.ntmps59
   go_wp2_with (first
    | (go_at_call 95; refine HPr.out.mono ?_; rintro e w8 ⟨hb8, g, A, c, rfl, hfl, hl, hC⟩; have HB8 := zaa.mk hb8; clear hb8 hfl hl hC))
   go_ret2
   exact ⟨rfl, HB8.out⟩
  ·have e : res = (besN cs a b, true) := by rw [hre2]; simp [hab]
   have HE := zaa.mk e
   have d1 : (a == b) = false := by simp [hab]
   clear hre2 hab e
   obtain ⟨ia, rfl⟩ := Int.eq_ofNat_of_zero_le hA.1
   obtain ⟨ib, rfl⟩ := Int.eq_ofNat_of_zero_le hB.1
   have hia : ia < rs.length := by omega
   have hib : ib < rs.length := by omega
   have a0 : (0 : Int) ≤ (ia : Int) := by omega
   have b0 : (0 : Int) ≤ (ib : Int) := by omega
   have a1 : (ia : Int) < (rs.length : Int) := by omega
   have b1 : (ib : Int) < (rs.length : Int) := by omega
   have HTl := zaa.mk (touchM_length cs rs.length)
   go_enter Try.func59, Try.ntmps59
   go_wp2_with (first
    | (go_at_call 95; refine HPr.out.mono ?_; rintro e w8 ⟨hb8, g, A, c, rfl, hfl, hl, hC⟩; obtain ⟨ad, ad2, c2, eA, x1, x2⟩ := touch_cell hC ia ib hia hib; subst eA; rw [HTl.out]; have HB8 := zaa.mk hb8; clear hb8 hfl hl hC))
   go_ret2
   rw [HE.out]
   exact ⟨rfl, HB8.out⟩
set_option maxHeartbeats 4000000 in
set_option maxRecDepth 100000 in
theorem NearIs_calls (A0 : Option Addr) (c0 : Nat) (l0 : List ByteArray) (a b : Int) (w : World) (hr0 : Kd.C Kd.string w A0 l0.length l0) (hc0 : l0.length ≤ c0) (hp : smallP l0) :
  Calls Try.prog 23 #[.slice A0 l0.length c0, .int .i64 a, .int .i64 b] w fun e w' => e = .returned (.bool (nearIsF l0 a b)) ∧ Below w.heap.size w w' := by
 have HN := zaa.mk (NearLength_calls A0 c0 l0 a b w hr0 hc0 hp)
 clear hr0 hc0 hp
 rw [nearIs_length]
 generalize zch l0 a b = t at *
 obtain ⟨n, ok⟩ := t
 dsimp only at *
 cases ok
 ·go_enter Try.func23, Try.ntmps23
  go_wp2_with (first
   | (go_at_call 59; refine HN.out.mono ?_; rintro e w8 ⟨rfl, hb8⟩; have HB8 := zaa.mk hb8; clear hb8))
  go_ret
  exact ⟨rfl, HB8.out⟩
 ·go_enter Try.func23, Try.ntmps23
  go_wp2_with (first
   | (go_at_call 59; refine HN.out.mono ?_; rintro e w8 ⟨rfl, hb8⟩; have HB8 := zaa.mk hb8; clear hb8))
  go_ret
  exact ⟨rfl, HB8.out⟩
def Conv (hi wi : Nat) (g : Nat → Nat → Int) : Prop := ∀ r c r' c' i j, r < hi → c < wi → r' < hi → c' < wi → g r c = g r' c' → min r r' ≤ i → i ≤ max r r' → min c c' ≤ j → j ≤ max c c' → g i j = g r c
def ConvG (rows : List (List Int)) : Prop := Conv rows.length (zal rows) (zaw rows)
theorem Conv.congr {hi wi : Nat} {g g' : Nat → Nat → Int} (h : Conv hi wi g) (e : ∀ r c, r < hi → c < wi → g r c = g' r c) : Conv hi wi g' := by
 intro r c r' c' i j h1 h2 h3 h4 hv k1 k2 k3 k4
 rw [← e i j (by omega) (by omega), ← e r c h1 h2]
 exact h r c r' c' i j h1 h2 h3 h4 (by rw [e r c h1 h2, e r' c' h3 h4]; exact hv) k1 k2 k3 k4
theorem Conv.map {hi wi : Nat} {g : Nat → Nat → Int} (h : Conv hi wi g) (f : Int → Int) (hf : ∀ r c r' c', r < hi → c < wi → r' < hi → c' < wi → f (g r c) = f (g r' c') → g r c = g r' c') : Conv hi wi (fun r c => f (g r c)) := by
 intro r c r' c' i j h1 h2 h3 h4 hv k1 k2 k3 k4
 show f _ = f _
 rw [h r c r' c' i j h1 h2 h3 h4 (hf _ _ _ _ h1 h2 h3 h4 hv) k1 k2 k3 k4]
theorem names_canon {rows : List (List Int)} (hs : zbp rows = true) (h9 : (zaz rows).length ≤ 9) : Canon (zbv (canon rows)) := by
 have hn := names_nums hs
 have hinj := names_inj rows
 have hL := rooms_len hs
 refine ⟨?_, ?_⟩
 ·unfold gridOk
  rw [Bool.and_eq_true, hn, mapG_shape]
  refine ⟨hs, ?_⟩
  rw [List.all_eq_true]
  intro s hss
  obtain ⟨r, hr, rfl⟩ := List.mem_map.1 hss
  unfold okText
  rw [bytesOf_rowText r (canon_val hs r hr), List.all_eq_true]
  intro x hx
  obtain ⟨y, hy, rfl⟩ := List.mem_map.1 hx
  unfold canon canonL at hr
  obtain ⟨r0, hr0, rfl⟩ := List.mem_map.1 hr
  obtain ⟨z, hz, rfl⟩ := List.mem_map.1 hy
  have h3 : (zbq rows).idxOf z < (zbq rows).length := List.idxOf_lt_length_of_mem (ordL_mem rows.flatten [] z (List.mem_flatten.2 ⟨r0, hr0, hz⟩))
  simp only [okLetter, Bool.not_eq_true', Bool.or_eq_false_iff, decide_eq_false_iff_not]
  omega
 ·unfold namesOf
  rw [hn, canon_map hinj]
theorem text_length (rows : List (List Int)) : (zbv (canon rows)).length = rows.length := by simp [zbv, canon, canonL]
theorem canon_length (rows : List (List Int)) : (canon rows).length = rows.length := by simp [canon, canonL]
theorem names_floor {rows : List (List Int)} (hs : zbp rows = true) (h9 : (zaz rows).length ≤ 9) : zbu (zbv (canon rows)) = if zbw (zaz rows) = (rows.length : Int) * (zal rows : Int) then some (canon rows, zaz rows) else none := by
 have hC := names_canon hs h9
 have hn := names_nums hs
 have hinj := names_inj rows
 rw [floorF_grid hC.grid, hn, rooms_map hs hinj, mapG_wide, text_length, canon_map hinj]
 by_cases h : zbw (zaz rows) = (rows.length : Int) * (zal rows : Int)
 ·rw [if_pos h, if_pos ⟨h9, h, hC.names⟩]
 ·rw [if_neg h, if_neg (fun z => h z.2.1)]
theorem canon_wide (rows : List (List Int)) : zal (canon rows) = zal rows := by
 unfold zal canon canonL
 cases rows with
 | nil => rfl
 | cons a r => simp
theorem canon_at {rows : List (List Int)} (hs : zbp rows = true) {r c : Nat} (hr : r < rows.length) (hc : c < zal rows) : zaw (canon rows) r c = ((zbq rows).idxOf (zaw rows r c) : Int) := by
 have e := congrArg (fun R => zaw R r c) (rect_map (shape_rect hs) (fun x => ((zbq rows).idxOf x : Int)))
 exact Eq.trans e (valAt_gridOf hr hc)
theorem idxOf_inj {L : List Int} {x y : Int} (hx : x ∈ L) (hy : y ∈ L) (e : L.idxOf x = L.idxOf y) : x = y := by
 have h1 := List.idxOf_lt_length_of_mem hx
 have h2 := List.idxOf_lt_length_of_mem hy
 have e1 : L[L.idxOf x] = x := List.getElem_idxOf h1
 have e2 : L[L.idxOf y] = y := List.getElem_idxOf h2
 rw [← e1, ← e2]
 congr 1
theorem val_ord {rows : List (List Int)} (hs : zbp rows = true) {r c : Nat} (hr : r < rows.length) (hc : c < zal rows) : zaw rows r c ∈ zbq rows := ordL_mem rows.flatten [] _ (val_mem (shape_rect hs) hr hc)
theorem canon_eq_iff {rows : List (List Int)} (hs : zbp rows = true) {r c r' c' : Nat} (hr : r < rows.length) (hc : c < zal rows) (hr' : r' < rows.length) (hc' : c' < zal rows) : zaw (canon rows) r c = zaw (canon rows) r' c' ↔ zaw rows r c = zaw rows r' c' := by
 rw [canon_at hs hr hc, canon_at hs hr' hc']
 constructor
 ·exact fun h => idxOf_inj (val_ord hs hr hc) (val_ord hs hr' hc') (by omega)
 ·intro h
  rw [h]
theorem conv_canon {rows : List (List Int)} (hs : zbp rows = true) : ConvG (canon rows) ↔ ConvG rows := by
 unfold ConvG
 rw [canon_length, canon_wide]
 constructor
 ·intro h r c r' c' i j h1 h2 h3 h4 hv k1 k2 k3 k4
  exact (canon_eq_iff hs (by omega) (by omega) h1 h2).1 (h r c r' c' i j h1 h2 h3 h4 ((canon_eq_iff hs h1 h2 h3 h4).2 hv) k1 k2 k3 k4)
 ·intro h r c r' c' i j h1 h2 h3 h4 hv k1 k2 k3 k4
  exact (canon_eq_iff hs (by omega) (by omega) h1 h2).2 (h r c r' c' i j h1 h2 h3 h4 ((canon_eq_iff hs h1 h2 h3 h4).1 hv) k1 k2 k3 k4)
theorem countN_conv (rows : List (List Int)) (wi : Nat) (x : Int) (b : Rc) : ∀ n, (∀ m, m < n → (cellN rows wi m = x ↔ inBox b wi m)) → zcp rows wi x n = countB b wi n
 | 0, _ => rfl
 | n + 1, h => by
  have ih := countN_conv rows wi x b n (fun m hm => h m (by omega))
  simp only [zcp, countB]
  by_cases hx : cellN rows wi n = x
  ·rw [if_pos hx, if_pos ((h n (by omega)).1 hx), ih]
  ·rw [if_neg hx, if_neg (fun z => hx ((h n (by omega)).2 z)), ih]
theorem conv_sum {rows : List (List Int)} (hs : zbp rows = true) (h9 : (zaz rows).length ≤ 9) : zbw (zaz rows) = (rows.length : Int) * (zal rows : Int) ↔ ConvG rows := by
 have hfl := names_floor hs h9
 constructor
 ·intro h
  rw [if_pos h] at hfl
  have F := floor_facts hfl
  rw [← conv_canon hs]
  intro r c r' c' i j h1 h2 h3 h4 hv k1 k2 k3 k4
  have hv1 := zck F.ok r c h1 h2
  obtain ⟨q, hq⟩ := Int.eq_ofNat_of_zero_le hv1.1
  have hq2 : q < (zaz rows).length := by omega
  have hc := fun r c hr hc => room_cells hfl q hq2 r c hr hc
  have a1 := (hc r c h1 h2).1 hq
  have a2 := (hc r' c' h3 h4).1 (by rw [← hv]; exact hq)
  rw [hq]
  exact (hc i j (by omega) (by omega)).2 (by omega)
 ·intro h
  have hC := names_canon hs h9
  have hn := names_nums hs
  have hinj := names_inj rows
  have hiff := full_iff hC
  rw [hn, rooms_map hs hinj, mapG_wide, text_length] at hiff
  have hall : (List.range (zaz rows).length).all (fullB (zbv (canon rows))) = true := by
   rw [List.all_eq_true]
   intro x hx
   have hx := List.mem_range.1 hx
   unfold fullB
   rw [decide_eq_true_eq, hn, rooms_map hs hinj, mapG_wide, text_length]
   obtain ⟨v, hv, hb, hbd⟩ := rooms_box hs x hx
   rw [← countB_all _ _ _ hbd]
   obtain ⟨s1, s2, s3, s4, s5⟩ := (zcl _).1 hs
   have hR := shape_rect hs
   refine countN_conv _ _ _ _ _ fun m hm => ?_
   have hr : m / zal rows < rows.length := by rw [Nat.div_lt_iff_lt_mul (by omega)]; exact hm
   have hc := Nat.mod_lt m (show 0 < zal rows by omega)
   have hcell : cellN (mapG (fun x => 97 + ((zbq rows).idxOf x : Int)) rows) (zal rows) m = ((zbq rows).idxOf (zaw rows (m / zal rows) (m % zal rows)) : Int) := by
    unfold cellN
    rw [valAt_map hR _ hr hc]
    omega
   rw [hcell, idx_iff (ordAll_nodup rows) hv (val_ord hs hr hc)]
   constructor
   ·exact fun h => hb.ins m hm h
   ·intro hin
    obtain ⟨i1, i2, i3, i4⟩ := hin
    obtain ⟨mt, nt, vt, et⟩ := hb.top
    obtain ⟨ml, nl, vl, el⟩ := hb.left
    obtain ⟨mw, nw, vw, ew⟩ := hb.low
    obtain ⟨mr, nr, vr, er⟩ := hb.right
    have rr : ∀ m, m < rows.length * zal rows → m / zal rows < rows.length ∧ m % zal rows < zal rows := fun m hm => ⟨by rw [Nat.div_lt_iff_lt_mul (by omega)]; exact hm, Nat.mod_lt m (by omega)⟩
    obtain ⟨t1, t2⟩ := rr mt nt
    obtain ⟨l1, l2⟩ := rr ml nl
    obtain ⟨w1, w2⟩ := rr mw nw
    obtain ⟨r1, r2⟩ := rr mr nr
    have gt := hb.ins mt nt vt
    have gl := hb.ins ml nl vl
    have gw := hb.ins mw nw vw
    have gr := hb.ins mr nr vr
    generalize hbx : (zaz rows).getD x zci = bx at *
    -- the upper left and the lower right corner
    have c1 := h (mt / zal rows) (mt % zal rows) (ml / zal rows) (ml % zal rows) (mt / zal rows) (ml % zal rows) t1 t2 l1 l2 (vt.trans vl.symm) (by omega) (by omega) (by omega) (by omega)
    have c2 := h (mw / zal rows) (mw % zal rows) (mr / zal rows) (mr % zal rows) (mw / zal rows) (mr % zal rows) w1 w2 r1 r2 (vw.trans vr.symm) (by omega) (by omega) (by omega) (by omega)
    have c3 := h (mt / zal rows) (ml % zal rows) (mw / zal rows) (mr % zal rows) (m / zal rows) (m % zal rows) t1 l2 w1 r2 (by rw [c1, c2, vt, vw]) (by omega) (by omega) (by omega) (by omega)
    rw [c3, c1, vt]
  rw [hall] at hiff
  exact of_decide_eq_true hiff.symm
structure OkG (rows : List (List Int)) : Prop where
 shape : zbp rows = true
 many : (zbq rows).length ≤ 9
 conv : ConvG rows
theorem OkG.plan {rows : List (List Int)} (h : OkG rows) : planF rows = (zbv (canon rows), true) := by
 have h9 : (zaz rows).length ≤ 9 := by rw [← rooms_len h.shape]; exact h.many
 rw [planF_shape h.shape, if_pos ⟨h9, (conv_sum h.shape h9).2 h.conv⟩]
theorem OkG.floor {rows : List (List Int)} (h : OkG rows) : zbu (zbv (canon rows)) = some (canon rows, zaz rows) := by
 have h9 : (zaz rows).length ≤ 9 := by rw [← rooms_len h.shape]; exact h.many
 rw [names_floor h.shape h9, if_pos ((conv_sum h.shape h9).2 h.conv)]
theorem planF_cases (rows : List (List Int)) : (OkG rows ∧ planF rows = (zbv (canon rows), true)) ∨ (¬ OkG rows ∧ planF rows = ([], false)) := by
 by_cases h : OkG rows
 ·exact .inl ⟨h, h.plan⟩
 ·refine .inr ⟨h, ?_⟩
  cases hs : zbp rows with
  | false => exact planF_noshape hs
  | true =>
   rw [planF_shape hs]
   by_cases hc : (zaz rows).length ≤ 9 ∧ zbw (zaz rows) = (rows.length : Int) * (zal rows : Int)
   ·exact absurd ⟨hs, by rw [rooms_len hs]; exact hc.1, (conv_sum hs hc.1).1 hc.2⟩ h
   ·rw [if_neg hc]
theorem floor_shape {cs : List (List Int)} {rs : List Rc} (h : zcq cs rs) : zbp cs = true := (zcl _).2 ⟨h.h1, h.h6, h.w1, h.w6, h.rect⟩
theorem add_inj (a : Int) (S : Int → Prop) : InjOn (fun x => a + x) S := fun x y _ _ e => by have : a + x = a + y := e; omega
theorem floor_okG {p : List ByteArray} {cs : List (List Int)} {rs : List Rc} (h : zbu p = some (cs, rs)) : OkG cs ∧ canon cs = cs ∧ rs = zaz cs ∧ p = zbv cs := by
 have F := floor_facts h
 have hs := floor_shape F.ok
 have e1 : canon cs = cs := by
  have e2 : canon (mapG (fun x => 97 + x) cs) = canon cs := canon_map (add_inj 97 _)
  rw [← F.nums, ← F.cells] at e2
  exact e2.symm
 have e2 : rs = zaz cs := by rw [F.rooms, F.nums, rooms_map hs (add_inj 97 _)]
 have h9 : (zaz cs).length ≤ 9 := by rw [← e2]; exact F.ok.many
 have hsum := floor_sum h
 rw [F.wide, F.len, e2] at hsum
 exact ⟨⟨hs, by rw [rooms_len hs]; exact h9, (conv_sum hs h9).1 hsum⟩, e1, e2, F.text⟩
def reG (X : List (List Int)) (h w : Nat) (a b : Nat → Nat → Nat) : List (List Int) := zbl h w fun r c => zaw X (a r c) (b r c)
def crossX (X : List (List Int)) : List (List Int) := reG X (zal X) X.length (fun r c => c) (fun r c => r)
theorem OkG.canon {X : List (List Int)} (h : OkG X) : OkG (canon X) := (floor_okG h.floor).1
def crossH (cs : List (List Int)) (_ : List Rc) : List (List Int) := crossX cs
theorem bt_val (p : List ByteArray) {i : Nat} {s : ByteArray} (hs : p[i]? = some s) (j : Nat) : bt s (j : Int) = zaw (zan p) i j := by
 unfold zaw zan
 rw [List.getD_eq_getElem?_getD (l := List.map _ _), List.getElem?_map, hs, ← bytesOf_get]
 rfl
theorem Evs.stepNeg {α : Type} {c : Prop} {inst : Decidable c} {a h g : Nat → Option α} {r : α} (e : ∀ k, g (k + 1) = @ite _ c inst (a k) (h k)) (hc : ¬ c) (hh : Evs h r) : Evs g r := Evs.step (fun k => (e k).trans (if_neg hc)) hh
theorem Evs.stepPos {α : Type} {c : Prop} {inst : Decidable c} {a h g : Nat → Option α} {r : α} (e : ∀ k, g (k + 1) = @ite _ c inst (a k) (h k)) (hc : c) (hh : Evs a r) : Evs g r := Evs.step (fun k => (e k).trans (if_pos hc)) hh
theorem l2Put_f (L : List Int) (x : Int) (hl : L.length ≤ 100000) : spec_l2Put.f L x = some (putL L x) := by
 unfold spec_l2Put.f putL
 by_cases h0 : L = []
 ·subst h0
  rw [if_neg (by simp), if_pos (by simp), if_neg (by simp)]
 ·have hp : 0 < L.length := List.length_pos_iff.2 h0
  have hw : wrap64 ((L.length : Int) - 1) = ((L.length - 1 : Nat) : Int) := by rw [zaq (by omega) (by omega)]; omega
  have hg : L.getLast? = some (rd L ((L.length - 1 : Nat) : Int)) := by
   rw [List.getLast?_eq_getElem?, List.getElem?_eq_getElem (by omega)]
   unfold rd
   rw [Int.toNat_natCast, List.getD_eq_getElem?_getD, List.getElem?_eq_getElem (by omega)]
   rfl
  rw [if_pos (by omega), hw, if_pos (by omega), if_pos (by omega), hg]
  by_cases hx : rd L ((L.length - 1 : Nat) : Int) = x
  ·rw [if_pos hx, if_pos (by rw [hx])]
  ·rw [if_neg hx, if_pos (by omega), if_neg (fun z => hx (Option.some.inj z))]
theorem foldP_length (xs : List Int) : (zcj xs).length ≤ xs.length := by
 rw [← compact_fold]
 exact compact_le xs
theorem PlanFacts.byte {p : List ByteArray} {cs : List (List Int)} {rs : List Rc} (F : PlanFacts p cs rs) (r c : Nat) (hr : r < cs.length) (hc : c < zal cs) :
  bt (rdOf ByteArray.empty p (r : Int)) (c : Int) = 97 + zaw cs r c ∧ (rdOf ByteArray.empty p (r : Int)).size = zal cs := by
 have hrl : r < p.length := by rw [F.len]; exact hr
 have hs : p[r]? = some p[r] := List.getElem?_eq_getElem hrl
 refine ⟨?_, ?_⟩
 ·rw [zcm hs, bt_val p hs c, F.nums]
  exact valAt_map F.ok.rect _ hr hc
 ·rw [zcm hs]
  exact F.mid.row _ (List.getElem_mem _)
def sideL (cs : List (List Int)) (side : Int) : List Int :=
 if side = 0 then (List.range (zal cs)).map (fun c => zaw cs 0 c)
 else if side = 1 then (List.range cs.length).map (fun r => zaw cs r (zal cs - 1))
 else if side = 2 then (List.range (zal cs)).map (fun c => zaw cs (cs.length - 1) c)
 else (List.range cs.length).map (fun r => zaw cs r 0)
def zbo (p : List ByteArray) (side : Int) : List Int × Bool := match zbu p with
 | none => ([], false)
 | some (cs, rs) => if 0 ≤ side ∧ side ≤ 3 then (zcj (sideL cs side), true) else ([], false)
set_option maxHeartbeats 4000000 in
set_option maxRecDepth 100000 in
theorem specOut_none (A0 : Option Addr) (c0 : Nat) (l0 : List ByteArray) (side : Int) (w : World) (hr0 : Kd.C Kd.string w A0 l0.length l0) (hc0 : l0.length ≤ c0) (hp : smallP l0) (hF : zbu l0 = none) :
  Calls Try.prog 13 #[.slice A0 l0.length c0, .int .i64 side] w fun e w' => ∃ v0_ : Value, e = .returned (.tuple #[v0_, .bool false]) ∧ Kd.R (Kd.int .i64) 3 w' w.heap.size (fun _ => True) v0_ [] ∧ Below w.heap.size w w' := by
 obtain ⟨K1, hK1⟩ := PlanIn_ev l0 hp
 have hk := hK1 K1 (Nat.le_refl _)
 rcases planB_cases l0 with ⟨e1, f1⟩ | ⟨e1, cs, rs, f1⟩
 ·rw [e1] at hk
  have HR0 := zaa.mk hr0
  have HC0 := zaa.mk hc0
  have HPI := zaa.mk hk
  clear hr0 hc0 hk hK1 e1 f1 hF hp
  go_enter Try.func13, Try.ntmps13
  go_wp2_with (first
   | ((with_reducible refine zbb (N := 10) rfl ?_); refine Kd.R_lit (Kd.int .i64) _ 3 ?hg (N := 10) ?hd (xs := ([] : List Int)) (inner := []) (ok := fun _ => True) (okp := fun _ => True) ?hr ?hp (fun _ hk => hk) trivial (Below.refl _ _) (Nat.le_refl _) (by simp) ?_; (case hd => rfl); (case hg => rfl); (case hr => first | (go_simp; done) | (go_simp; rfl)); (case hp => exact (Reps.none _ _)); intro v10 w3 ho4 hb hg_ hnew_; clear hg_ hnew_; have HO := zaa.mk ho4; have HB := zaa.mk hb; clear hb ho4)
   | (go_at_call 45; refine (spec_PlanIn.calls K1 A0 c0 l0 false _ (Kd.C_below HR0.out HB.out) HC0.out HPI.out).mono ?_; rintro e w8 ⟨rfl, hb8⟩; have HO8 := zaa.mk (Kd.R_below HO.out hb8); have HB8 := zaa.mk (zah HB.out hb8); clear hb8))
  go_ret2
  exact ⟨_, rfl, HO8.out, HB8.out⟩
 ·rw [f1] at hF; cases hF
theorem l6In_out (side : Int) (h : ¬ (0 ≤ side ∧ side ≤ 3)) : spec_l6In.f side 0 3 = some false := by
 unfold spec_l6In.f
 by_cases h0 : side ≥ 0
 ·rw [if_pos h0, decide_eq_false (by omega)]
 ·rw [if_neg h0]
theorem l6In_in (side : Int) (h : 0 ≤ side ∧ side ≤ 3) : spec_l6In.f side 0 3 = some true := by
 unfold spec_l6In.f
 rw [if_pos h.1, decide_eq_true h.2]
set_option maxHeartbeats 4000000 in
set_option maxRecDepth 100000 in
theorem specOut_far (A0 : Option Addr) (c0 : Nat) (l0 : List ByteArray) (side : Int) (w : World) (hr0 : Kd.C Kd.string w A0 l0.length l0) (hc0 : l0.length ≤ c0) (hp : smallP l0) (hs : ¬ (0 ≤ side ∧ side ≤ 3)) :
  Calls Try.prog 13 #[.slice A0 l0.length c0, .int .i64 side] w fun e w' => ∃ v0_ : Value, e = .returned (.tuple #[v0_, .bool false]) ∧ Kd.R (Kd.int .i64) 3 w' w.heap.size (fun _ => True) v0_ [] ∧ Below w.heap.size w w' := by
 obtain ⟨K1, hK1⟩ := PlanIn_ev l0 hp
 have hk := hK1 K1 (Nat.le_refl _)
 rcases planB_cases l0 with ⟨e1, f1⟩ | ⟨e1, cs, rs, f1⟩
 ·exact specOut_none A0 c0 l0 side w hr0 hc0 hp f1
 ·rw [e1] at hk
  have HR0 := zaa.mk hr0
  have HC0 := zaa.mk hc0
  have HPI := zaa.mk hk
  have HIn := zaa.mk (l6In_out side hs)
  clear hr0 hc0 hk hK1 e1 f1 hp hs
  go_enter Try.func13, Try.ntmps13
  go_wp2_with (first
   | ((with_reducible refine zbb (N := 10) rfl ?_); refine Kd.R_lit (Kd.int .i64) _ 3 ?hg (N := 10) ?hd (xs := ([] : List Int)) (inner := []) (ok := fun _ => True) (okp := fun _ => True) ?hr ?hp (fun _ hk => hk) trivial (Below.refl _ _) (Nat.le_refl _) (by simp) ?_; (case hd => rfl); (case hg => rfl); (case hr => first | (go_simp; done) | (go_simp; rfl)); (case hp => exact (Reps.none _ _)); intro v10 w3 ho4 hb hg_ hnew_; clear hg_ hnew_; have HO := zaa.mk ho4; have HB := zaa.mk hb; clear hb ho4)
   | (go_at_call 45; refine (spec_PlanIn.calls K1 A0 c0 l0 true _ (Kd.C_below HR0.out HB.out) HC0.out HPI.out).mono ?_; rintro e w8 ⟨rfl, hb8⟩; have HO8 := zaa.mk (Kd.R_below HO.out hb8); have HB8 := zaa.mk (zah HB.out hb8); clear hb8)
   | (go_at_call 46; refine (spec_l6In.calls side 0 3 false _ HIn.out).mono ?_; rintro e w9 ⟨rfl, hd9⟩; have HO9 := zaa.mk (Kd.R_below HO8.out hd9.below); have HB9 := zaa.mk (zah HB8.out hd9.below); clear hd9))
  go_ret2
  exact ⟨_, rfl, HO9.out, HB9.out⟩
set_option maxHeartbeats 400000 in
set_option maxRecDepth 100000 in
theorem specOut_even (A0 : Option Addr) (c0 : Nat) (l0 : List ByteArray) (sd : Int) (w : World) (hr0 : Kd.C Kd.string w A0 l0.length l0) (hc0 : l0.length ≤ c0) (hp : smallP l0) (cs : List (List Int)) (rs : List Rc) (hF : zbu l0 = some (cs, rs)) (h03 : 0 ≤ sd ∧ sd ≤ 3)
  (q1 : (sd == 1) = false) (q2 : (sd == 2) = false) (q3 : (Int.tmod sd 2 == 1) = false) (hsd : sideL cs sd = (List.range (zal cs)).map (fun c => zaw cs 0 c)) :
  Calls Try.prog 13 #[.slice A0 l0.length c0, .int .i64 sd] w fun e w' => ∃ v0_ : Value, e = .returned (.tuple #[v0_, .bool true]) ∧ Kd.R (Kd.int .i64) 3 w' w.heap.size (fun _ => True) v0_ (zcj (sideL cs sd)) ∧ Below w.heap.size w w' := by
 obtain ⟨K1, hK1⟩ := PlanIn_ev l0 hp
 have hk := hK1 K1 (Nat.le_refl _)
 rcases planB_cases l0 with ⟨e1, f1⟩ | ⟨e1, cs', rs', f1⟩
 ·rw [f1] at hF; cases hF
 ·rw [e1] at hk
  have F := floor_facts hF
  have HR0 := zaa.mk hr0
  have HC0 := zaa.mk hc0
  have HPI := zaa.mk hk
  have HIn := zaa.mk (l6In_in sd h03)
  have h1 := F.ok.h1
  have h6 := F.ok.h6
  have w6 := F.ok.w6
  have HF := zaa.mk F
  have HSd := zaa.mk hsd
  clear hsd
  have HLen := zaa.mk F.len
  have hb := fun c (hc : c < zal cs) => F.byte 0 c (by omega) hc
  have HBy := zaa.mk hb
  have HSz := zaa.mk (show (rdOf ByteArray.empty l0 0).size = zal cs from (hb 0 (by have := F.ok.w1; omega)).2)
  clear hb
  clear hr0 hc0 hk hK1 e1 f1 hp h03 F hF
  go_enter Try.func13, Try.ntmps13
  go_wp2_with (first
   | ((with_reducible refine zbb (N := 10) rfl ?_); refine Kd.R_lit (Kd.int .i64) _ 3 ?hg (N := 10) ?hd (xs := ([] : List Int)) (inner := []) (ok := fun _ => True) (okp := fun _ => True) ?hr ?hp (fun _ hk => hk) trivial (Below.refl _ _) (Nat.le_refl _) (by simp) ?_; (case hd => rfl); (case hg => rfl); (case hr => first | (go_simp; done) | (go_simp; rfl)); (case hp => exact (Reps.none _ _)); intro v10 w3 ho4 hb hg_ hnew_; clear hg_ hnew_; have HO := zaa.mk ho4; have HB := zaa.mk hb; clear hb ho4)
   | (go_at_call 45; refine (spec_PlanIn.calls K1 A0 c0 l0 true _ (Kd.C_below HR0.out HB.out) HC0.out HPI.out).mono ?_; rintro e w8 ⟨rfl, hb8⟩; have HO8 := zaa.mk (Kd.R_below HO.out hb8); have HB8 := zaa.mk (zah HB.out hb8); clear hb8)
   | (go_at_call 46; refine (spec_l6In.calls sd 0 3 true _ HIn.out).mono ?_; rintro e w9 ⟨rfl, hd9⟩; have HO9 := zaa.mk (Kd.R_below HO8.out hd9.below); have HB9 := zaa.mk (zah HB8.out hd9.below); clear hd9))
  go_loopg [6, 9] (zal cs) (fun kq v6 v9 w' => ∃ (k : Nat) (P : Nat → Prop), v9 = .int .i64 (k : Int) ∧ zaa (k + kq = zal cs) ∧ zaa (Kd.R (Kd.int .i64) 3 w' w.heap.size P v6 (zcj ((List.range k).map fun c => zaw cs 0 c))) ∧ zaa (Below w.heap.size w w'))
  case atStart => exact ⟨0, _, rfl, ⟨by omega⟩, HO9, HB9⟩
  case round =>
   obtain ⟨k, P, rfl, HK, HOk, HBk⟩ := hrel
   have HK' := HK.out
   have z1 : (0 : Int) < (l0.length : Int) := by have := HLen.out; omega
   obtain ⟨ad, ead, hz⟩ := Kd.at_string (Kd.C_below HR0.out HBk.out) 0 (by omega) z1
   cases ead
   rw [show ((0 : Int)).toNat = 0 from rfl, Addr.add_zero'] at hz
   by_cases hk : k < zal cs
   ·have y0 : (0 : Int) ≤ (k : Int) := by omega
    have y1 : (k : Int) < ((rdOf ByteArray.empty l0 0).size : Int) := by have := HSz.out; omega
    have hv : ∀ h : k < (rdOf ByteArray.empty l0 0).size, wrap64 (wrap64 (((rdOf ByteArray.empty l0 0)[k]'h).toNat : Int) - 97) = zaw cs 0 k := fun h => by
     have e1 := bt_at (rdOf ByteArray.empty l0 0) (k : Int) h
     have e2 := (HBy.out k hk).1
     have e3 : (((rdOf ByteArray.empty l0 0)[k]'h).toNat : Int) = 97 + zaw cs 0 k := e1.trans e2
     have e4 := zck HF.out.ok 0 k (by omega) hk
     have e5 := HF.out.ok.many
     rw [e3, zaq (x := 97 + zaw cs 0 k) (by omega) (by omega), zaq (by omega) (by omega)]
     omega
    have HV := zaa.mk hv
    clear hv
    have hf : ((List.range k).map fun c => zaw cs 0 c).length ≤ 9 := by simp; omega
    have hp := l2Put_f (zcj ((List.range k).map fun c => zaw cs 0 c)) (zaw cs 0 k) (by have := foldP_length ((List.range k).map fun c => zaw cs 0 c); omega)
    rw [← foldP_snoc] at hp
    have HPt := zaa.mk hp
    clear hp hf
    go_wp2_with (first
     | (go_at_call 48; refine calls_of_args (args' := #[u6, .int .i64 (zaw cs 0 k)]) (by rw [HV.out]) ?_; refine (spec_l2Put.calls P u6 _ _ _ w _ HBk.out HOk.out HPt.out).mono ?_; rintro e w10 ⟨v10, rfl, hr10, hb10, -⟩; have HO10 := zaa.mk hr10; have HB10 := zaa.mk hb10; clear hr10 hb10))
    go_roundg (zal cs - (k + 1))
    case measure => omega
    case rel => exact ⟨k + 1, _, by first | rfl | (congr 1; omega), ⟨by omega⟩, by rw [List.range_succ, List.map_append]; exact HO10, HB10⟩
   ·obtain rfl : k = zal cs := by omega
    have y1 : ¬ (zal cs : Int) < ((rdOf ByteArray.empty l0 0).size : Int) := by have := HSz.out; omega
    go_wp2
    go_ret2
    refine ⟨u6, rfl, ?_, HBk.out⟩
    have e6 : sideL cs sd = (List.range (zal cs)).map (fun c => zaw cs 0 c) := HSd.out
    rw [e6]
    exact ⟨fun _ _ => trivial, HOk.out.2⟩
set_option maxHeartbeats 400000 in
set_option maxRecDepth 100000 in
theorem specOut_last (A0 : Option Addr) (c0 : Nat) (l0 : List ByteArray) (sd : Int) (w : World) (hr0 : Kd.C Kd.string w A0 l0.length l0) (hc0 : l0.length ≤ c0) (hp : smallP l0) (cs : List (List Int)) (rs : List Rc) (z : Nat) (hz0 : z + 1 = cs.length) (hF : zbu l0 = some (cs, rs)) (h03 : 0 ≤ sd ∧ sd ≤ 3)
  (q1 : (sd == 1) = false) (q2 : (sd == 2) = true) (q3 : (Int.tmod sd 2 == 1) = false) (hsd : sideL cs sd = (List.range (zal cs)).map (fun c => zaw cs z c)) :
  Calls Try.prog 13 #[.slice A0 l0.length c0, .int .i64 sd] w fun e w' => ∃ v0_ : Value, e = .returned (.tuple #[v0_, .bool true]) ∧ Kd.R (Kd.int .i64) 3 w' w.heap.size (fun _ => True) v0_ (zcj (sideL cs sd)) ∧ Below w.heap.size w w' := by
 obtain ⟨K1, hK1⟩ := PlanIn_ev l0 hp
 have hk := hK1 K1 (Nat.le_refl _)
 rcases planB_cases l0 with ⟨e1, f1⟩ | ⟨e1, cs', rs', f1⟩
 ·rw [f1] at hF; cases hF
 ·rw [e1] at hk
  have F := floor_facts hF
  have HR0 := zaa.mk hr0
  have HC0 := zaa.mk hc0
  have HPI := zaa.mk hk
  have HIn := zaa.mk (l6In_in sd h03)
  have h1 := F.ok.h1
  have h6 := F.ok.h6
  have w6 := F.ok.w6
  have HF := zaa.mk F
  have HSd := zaa.mk hsd
  clear hsd
  have HLen := zaa.mk F.len
  have wz : wrap64 ((l0.length : Int) - 1) = (z : Int) := by have := F.len; rw [zaq (by omega) (by omega)]; omega
  have zz0 : (0 : Int) ≤ (z : Int) := by omega
  have hb := fun c (hc : c < zal cs) => F.byte z c (by omega) hc
  have HBy := zaa.mk hb
  have HSz := zaa.mk (show (rdOf ByteArray.empty l0 (z : Int)).size = zal cs from (hb 0 (by have := F.ok.w1; omega)).2)
  clear hb
  clear hr0 hc0 hk hK1 e1 f1 hp h03 F hF
  go_enter Try.func13, Try.ntmps13
  go_wp2_with (first
   | ((with_reducible refine zbb (N := 10) rfl ?_); refine Kd.R_lit (Kd.int .i64) _ 3 ?hg (N := 10) ?hd (xs := ([] : List Int)) (inner := []) (ok := fun _ => True) (okp := fun _ => True) ?hr ?hp (fun _ hk => hk) trivial (Below.refl _ _) (Nat.le_refl _) (by simp) ?_; (case hd => rfl); (case hg => rfl); (case hr => first | (go_simp; done) | (go_simp; rfl)); (case hp => exact (Reps.none _ _)); intro v10 w3 ho4 hb hg_ hnew_; clear hg_ hnew_; have HO := zaa.mk ho4; have HB := zaa.mk hb; clear hb ho4)
   | (go_at_call 45; refine (spec_PlanIn.calls K1 A0 c0 l0 true _ (Kd.C_below HR0.out HB.out) HC0.out HPI.out).mono ?_; rintro e w8 ⟨rfl, hb8⟩; have HO8 := zaa.mk (Kd.R_below HO.out hb8); have HB8 := zaa.mk (zah HB.out hb8); clear hb8)
   | (go_at_call 46; refine (spec_l6In.calls sd 0 3 true _ HIn.out).mono ?_; rintro e w9 ⟨rfl, hd9⟩; have HO9 := zaa.mk (Kd.R_below HO8.out hd9.below); have HB9 := zaa.mk (zah HB8.out hd9.below); clear hd9))
  rw [wz]
  go_loopg [6, 9] (zal cs) (fun kq v6 v9 w' => ∃ (k : Nat) (P : Nat → Prop), v9 = .int .i64 (k : Int) ∧ zaa (k + kq = zal cs) ∧ zaa (Kd.R (Kd.int .i64) 3 w' w.heap.size P v6 (zcj ((List.range k).map fun c => zaw cs z c))) ∧ zaa (Below w.heap.size w w'))
  case atStart => exact ⟨0, _, rfl, ⟨by omega⟩, HO9, HB9⟩
  case round =>
   obtain ⟨k, P, rfl, HK, HOk, HBk⟩ := hrel
   have HK' := HK.out
   have z1 : (z : Int) < (l0.length : Int) := by have := HLen.out; omega
   obtain ⟨ad, ead, hz⟩ := Kd.at_string (Kd.C_below HR0.out HBk.out) (z : Int) (by omega) z1
   cases ead
   rw [Int.toNat_natCast] at hz
   by_cases hk : k < zal cs
   ·have y0 : (0 : Int) ≤ (k : Int) := by omega
    have y1 : (k : Int) < ((rdOf ByteArray.empty l0 (z : Int)).size : Int) := by have := HSz.out; omega
    have hv : ∀ h : k < (rdOf ByteArray.empty l0 (z : Int)).size, wrap64 (wrap64 (((rdOf ByteArray.empty l0 (z : Int))[k]'h).toNat : Int) - 97) = zaw cs z k := fun h => by
     have e1 := bt_at (rdOf ByteArray.empty l0 (z : Int)) (k : Int) h
     have e2 := (HBy.out k hk).1
     have e3 : (((rdOf ByteArray.empty l0 (z : Int))[k]'h).toNat : Int) = 97 + zaw cs z k := e1.trans e2
     have e4 := zck HF.out.ok z k (by omega) hk
     have e5 := HF.out.ok.many
     rw [e3, zaq (x := 97 + zaw cs z k) (by omega) (by omega), zaq (by omega) (by omega)]
     omega
    have HV := zaa.mk hv
    clear hv
    have hf : ((List.range k).map fun c => zaw cs z c).length ≤ 9 := by simp; omega
    have hp := l2Put_f (zcj ((List.range k).map fun c => zaw cs z c)) (zaw cs z k) (by have := foldP_length ((List.range k).map fun c => zaw cs z c); omega)
    rw [← foldP_snoc] at hp
    have HPt := zaa.mk hp
    clear hp hf
    go_wp2_with (first
     | (go_at_call 48; refine calls_of_args (args' := #[u6, .int .i64 (zaw cs z k)]) (by rw [HV.out]) ?_; refine (spec_l2Put.calls P u6 _ _ _ w _ HBk.out HOk.out HPt.out).mono ?_; rintro e w10 ⟨v10, rfl, hr10, hb10, -⟩; have HO10 := zaa.mk hr10; have HB10 := zaa.mk hb10; clear hr10 hb10))
    go_roundg (zal cs - (k + 1))
    case measure => omega
    case rel => exact ⟨k + 1, _, by first | rfl | (congr 1; omega), ⟨by omega⟩, by rw [List.range_succ, List.map_append]; exact HO10, HB10⟩
   ·obtain rfl : k = zal cs := by omega
    have y1 : ¬ (zal cs : Int) < ((rdOf ByteArray.empty l0 (z : Int)).size : Int) := by have := HSz.out; omega
    go_wp2
    go_ret2
    refine ⟨u6, rfl, ?_, HBk.out⟩
    have e6 : sideL cs sd = (List.range (zal cs)).map (fun c => zaw cs z c) := HSd.out
    rw [e6]
    exact ⟨fun _ _ => trivial, HOk.out.2⟩
theorem PlanFacts.tbyte {p : List ByteArray} {cs : List (List Int)} {rs : List Rc} (F : PlanFacts p cs rs) (c r : Nat) (hc : c < zal cs) (hr : r < cs.length) :
  bt (rdOf ByteArray.empty (transOf p (zal cs)) (c : Int)) (r : Int) = 97 + zaw cs r c ∧ (rdOf ByteArray.empty (transOf p (zal cs)) (c : Int)).size = cs.length := by
 have hcl : c < (transOf p (zal cs)).length := by rw [trans_length]; exact hc
 have hs : (transOf p (zal cs))[c]? = some (transOf p (zal cs))[c] := List.getElem?_eq_getElem hcl
 refine ⟨?_, ?_⟩
 ·rw [zcm hs, bt_val _ hs r, numsOf_trans, F.len, valAt_gridOf hc hr, F.nums]
  exact valAt_map F.ok.rect _ hr hc
 ·rw [zcm hs, ← F.len]
  exact (mid_trans F.mid).row _ (List.getElem_mem _)
set_option maxHeartbeats 400000 in
set_option maxRecDepth 100000 in
theorem specOut_right (A0 : Option Addr) (c0 : Nat) (l0 : List ByteArray) (sd : Int) (w : World) (hr0 : Kd.C Kd.string w A0 l0.length l0) (hc0 : l0.length ≤ c0) (hp : smallP l0) (cs : List (List Int)) (rs : List Rc) (z : Nat) (hz0 : z + 1 = zal cs) (hF : zbu l0 = some (cs, rs)) (h03 : 0 ≤ sd ∧ sd ≤ 3)
  (q1 : (sd == 1) = true) (q2 : (sd == 2) = false) (q3 : (Int.tmod sd 2 == 1) = true) (hsd : sideL cs sd = (List.range cs.length).map (fun r => zaw cs r z)) :
  Calls Try.prog 13 #[.slice A0 l0.length c0, .int .i64 sd] w fun e w' => ∃ v0_ : Value, e = .returned (.tuple #[v0_, .bool true]) ∧ Kd.R (Kd.int .i64) 3 w' w.heap.size (fun _ => True) v0_ (zcj (sideL cs sd)) ∧ Below w.heap.size w w' := by
 obtain ⟨K1, hK1⟩ := PlanIn_ev l0 hp
 have hk := hK1 K1 (Nat.le_refl _)
 rcases planB_cases l0 with ⟨e1, f1⟩ | ⟨e1, cs', rs', f1⟩
 ·rw [f1] at hF; cases hF
 ·rw [e1] at hk
  have F := floor_facts hF
  obtain ⟨K2, hK2⟩ := trans_plan F
  have HTr := zaa.mk (hK2 K2 (Nat.le_refl _))
  have HR0 := zaa.mk hr0
  have HC0 := zaa.mk hc0
  have HPI := zaa.mk hk
  have HIn := zaa.mk (l6In_in sd h03)
  have h1 := F.ok.h1
  have h6 := F.ok.h6
  have w6 := F.ok.w6
  have w1 := F.ok.w1
  have HW := zaa.mk (show z < zal cs by omega)
  have HF := zaa.mk F
  have HSd := zaa.mk hsd
  have tl : (transOf l0 (zal cs)).length = zal cs := trans_length _ _
  have hb := fun r (hr : r < cs.length) => F.tbyte z r (by omega) hr
  clear hsd hK2
  generalize transOf l0 (zal cs) = lt at *
  have wz : wrap64 ((lt.length : Int) - 1) = ((zal cs - 1 : Nat) : Int) := by rw [zaq (by omega) (by omega)]; omega
  have HZ := zaa.mk hz0
  have HLen := zaa.mk tl
  have HBy := zaa.mk hb
  have HSz := zaa.mk (show (rdOf ByteArray.empty lt (z : Int)).size = cs.length from (hb 0 (by omega)).2)
  have WZ := zaa.mk wz
  obtain ⟨nn, hnn⟩ : ∃ nn, nn = cs.length := ⟨_, rfl⟩
  rw [← hnn] at h1 h6
  have HNN := zaa.mk hnn
  clear hb tl hz0 wz hnn
  clear hr0 hc0 hk hK1 e1 f1 hp h03 F hF w6 w1
  go_enter Try.func13, Try.ntmps13
  go_wp2_with (first
   | ((with_reducible refine zbb (N := 10) rfl ?_); refine Kd.R_lit (Kd.int .i64) _ 3 ?hg (N := 10) ?hd (xs := ([] : List Int)) (inner := []) (ok := fun _ => True) (okp := fun _ => True) ?hr ?hp (fun _ hk => hk) trivial (Below.refl _ _) (Nat.le_refl _) (by simp) ?_; (case hd => rfl); (case hg => rfl); (case hr => first | (go_simp; done) | (go_simp; rfl)); (case hp => exact (Reps.none _ _)); intro v10 w3 ho4 hb hg_ hnew_; clear hg_ hnew_; have HO := zaa.mk ho4; have HB := zaa.mk hb; clear hb ho4)
   | (go_at_call 45; refine (spec_PlanIn.calls K1 A0 c0 l0 true _ (Kd.C_below HR0.out HB.out) HC0.out HPI.out).mono ?_; rintro e w8 ⟨rfl, hb8⟩; have HO8 := zaa.mk (Kd.R_below HO.out hb8); have HB8 := zaa.mk (zah HB.out hb8); clear hb8)
   | (go_at_call 46; refine (spec_l6In.calls sd 0 3 true _ HIn.out).mono ?_; rintro e w9 ⟨rfl, hd9⟩; have HO9 := zaa.mk (Kd.R_below HO8.out hd9.below); have HB9 := zaa.mk (zah HB8.out hd9.below); clear hd9)
   | (go_at_call 47; refine (spec_l1Trans.calls K2 A0 c0 l0 lt _ (Kd.C_below HR0.out HB9.out) HC0.out HTr.out).mono ?_; rintro e w11 ⟨v11, rfl, hr11, hb11⟩; obtain ⟨A11, c11, e11, hl11, hC11⟩ := Kd.R_reads hr11; subst e11; have HO11 := zaa.mk (Kd.R_below (Kd.R_mono (Kd.R_bound HO9.out) (fun k_ hk => hk.2.2.1)) hb11); have HT11 := zaa.mk (Kd.R_lower (Kd.R_mono (Kd.R_bound hr11) (fun k_ hk => Nat.not_lt.2 hk.2.1)) HB9.out.size); have HB11 := zaa.mk (zah HB9.out hb11); clear hb11 hr11 hC11 hl11))
  rw [WZ.out, show ((zal cs - 1 : Nat) : Int) = (z : Int) by have := HZ.out; omega]
  go_loopg [6, 9] nn (fun kq v6 v9 w' => ∃ (k : Nat) (P : Nat → Prop), v9 = .int .i64 (k : Int) ∧ zaa (k + kq = nn) ∧ zaa (Kd.R (Kd.int .i64) 3 w' w.heap.size P v6 (zcj ((List.range k).map fun r => zaw cs r z))) ∧ zaa (Below w.heap.size w w') ∧ zaa (Kd.R Kd.string 9 w' w.heap.size (fun k_ => ¬ P k_) (.slice A11 lt.length c11) lt))
  case atStart => exact ⟨0, _, (by first | rfl | exact congrArg (Value.int .i64) (by have := HZ.out; omega)), ⟨by omega⟩, HO11, HB11, HT11⟩
  case round =>
   obtain ⟨k, P, rfl, HK, HOk, HBk, HTk⟩ := hrel
   have HK' := HK.out
   have z1 : (z : Int) < (lt.length : Int) := by have := HLen.out; have := HW.out; omega
   obtain ⟨ad, ead, hz⟩ := Kd.at_string (Kd.R_reads' HTk.out).2.2 (z : Int) (by omega) z1
   cases ead
   have z0 : (0 : Int) ≤ (z : Int) := by omega
   rw [Int.toNat_natCast] at hz
   by_cases hk : k < nn
   ·have y0 : (0 : Int) ≤ (k : Int) := by omega
    have y1 : (k : Int) < ((rdOf ByteArray.empty lt (z : Int)).size : Int) := by have := HSz.out; have := HNN.out; omega
    have hv : ∀ h : k < (rdOf ByteArray.empty lt (z : Int)).size, wrap64 (wrap64 (((rdOf ByteArray.empty lt (z : Int))[k]'h).toNat : Int) - 97) = zaw cs k z := fun h => by
     have e1 := bt_at (rdOf ByteArray.empty lt (z : Int)) (k : Int) h
     have e2 := (HBy.out k (by have := HNN.out; omega)).1
     have e3 : (((rdOf ByteArray.empty lt (z : Int))[k]'h).toNat : Int) = 97 + zaw cs k z := e1.trans e2
     have e4 := zck HF.out.ok k z (by have := HNN.out; omega) HW.out
     have e5 := HF.out.ok.many
     rw [e3, zaq (x := 97 + zaw cs k z) (by omega) (by omega), zaq (by omega) (by omega)]
     omega
    have HV := zaa.mk hv
    clear hv
    have hf : ((List.range k).map fun r => zaw cs r z).length ≤ 9 := by simp; omega
    have hp := l2Put_f (zcj ((List.range k).map fun r => zaw cs r z)) (zaw cs k z) (by have := foldP_length ((List.range k).map fun r => zaw cs r z); omega)
    rw [← foldP_snoc] at hp
    have HPt := zaa.mk hp
    clear hp hf
    go_wp2_with (first
     | (go_at_call 48; refine calls_of_args (args' := #[u6, .int .i64 (zaw cs k z)]) (by rw [HV.out]) ?_; refine (spec_l2Put.calls P u6 _ _ _ w _ HBk.out HOk.out HPt.out).mono ?_; rintro e w10 ⟨v10, rfl, hr10, hb10, hgr10⟩; have HO10 := zaa.mk hr10; have HB10 := zaa.mk hb10; clear hr10 hb10))
    go_roundg (nn - (k + 1))
    case measure => omega
    case rel => exact ⟨k + 1, _, by first | rfl | (congr 1; omega), ⟨by omega⟩, by rw [List.range_succ, List.map_append]; exact HO10, HB10, ⟨Kd.R_mono (Kd.R_kept (Kd.R_bound HTk.out) hgr10 (fun k_ hk hP => hk.1 hP)) (fun k_ hk (h2 : _ ∨ _) => Or.elim h2 hk.1 (fun h3 => absurd hk.2.2.1 (Nat.not_lt.2 h3)))⟩⟩
   ·obtain rfl : k = nn := by omega
    have y1 : ¬ (k : Int) < ((rdOf ByteArray.empty lt (z : Int)).size : Int) := by have := HSz.out; have := HNN.out; omega
    go_wp2
    go_ret2
    refine ⟨u6, rfl, ?_, HBk.out⟩
    have e6 : sideL cs sd = (List.range cs.length).map (fun r => zaw cs r z) := HSd.out
    rw [e6, ← HNN.out]
    exact ⟨fun _ _ => trivial, HOk.out.2⟩
set_option maxHeartbeats 400000 in
set_option maxRecDepth 100000 in
theorem specOut_left (A0 : Option Addr) (c0 : Nat) (l0 : List ByteArray) (sd : Int) (w : World) (hr0 : Kd.C Kd.string w A0 l0.length l0) (hc0 : l0.length ≤ c0) (hp : smallP l0) (cs : List (List Int)) (rs : List Rc) (z : Nat) (hz0 : z = 0 ∧ 0 < zal cs) (hF : zbu l0 = some (cs, rs)) (h03 : 0 ≤ sd ∧ sd ≤ 3)
  (q1 : (sd == 1) = false) (q2 : (sd == 2) = false) (q3 : (Int.tmod sd 2 == 1) = true) (hsd : sideL cs sd = (List.range cs.length).map (fun r => zaw cs r z)) :
  Calls Try.prog 13 #[.slice A0 l0.length c0, .int .i64 sd] w fun e w' => ∃ v0_ : Value, e = .returned (.tuple #[v0_, .bool true]) ∧ Kd.R (Kd.int .i64) 3 w' w.heap.size (fun _ => True) v0_ (zcj (sideL cs sd)) ∧ Below w.heap.size w w' := by
 obtain ⟨K1, hK1⟩ := PlanIn_ev l0 hp
 have hk := hK1 K1 (Nat.le_refl _)
 rcases planB_cases l0 with ⟨e1, f1⟩ | ⟨e1, cs', rs', f1⟩
 ·rw [f1] at hF; cases hF
 ·rw [e1] at hk
  have F := floor_facts hF
  obtain ⟨K2, hK2⟩ := trans_plan F
  have HTr := zaa.mk (hK2 K2 (Nat.le_refl _))
  have HR0 := zaa.mk hr0
  have HC0 := zaa.mk hc0
  have HPI := zaa.mk hk
  have HIn := zaa.mk (l6In_in sd h03)
  have h1 := F.ok.h1
  have h6 := F.ok.h6
  have w6 := F.ok.w6
  have w1 := F.ok.w1
  have HW := zaa.mk (show z < zal cs by omega)
  have HF := zaa.mk F
  have HSd := zaa.mk hsd
  have tl : (transOf l0 (zal cs)).length = zal cs := trans_length _ _
  have hb := fun r (hr : r < cs.length) => F.tbyte z r (by omega) hr
  clear hsd hK2
  generalize transOf l0 (zal cs) = lt at *
  have wz : wrap64 ((lt.length : Int) - 1) = ((zal cs - 1 : Nat) : Int) := by rw [zaq (by omega) (by omega)]; omega
  have HZ := zaa.mk hz0
  have HLen := zaa.mk tl
  have HBy := zaa.mk hb
  have HSz := zaa.mk (show (rdOf ByteArray.empty lt (z : Int)).size = cs.length from (hb 0 (by omega)).2)
  have WZ := zaa.mk wz
  obtain ⟨nn, hnn⟩ : ∃ nn, nn = cs.length := ⟨_, rfl⟩
  rw [← hnn] at h1 h6
  have HNN := zaa.mk hnn
  clear hb tl hz0 wz hnn
  clear hr0 hc0 hk hK1 e1 f1 hp h03 F hF w6 w1
  go_enter Try.func13, Try.ntmps13
  go_wp2_with (first
   | ((with_reducible refine zbb (N := 10) rfl ?_); refine Kd.R_lit (Kd.int .i64) _ 3 ?hg (N := 10) ?hd (xs := ([] : List Int)) (inner := []) (ok := fun _ => True) (okp := fun _ => True) ?hr ?hp (fun _ hk => hk) trivial (Below.refl _ _) (Nat.le_refl _) (by simp) ?_; (case hd => rfl); (case hg => rfl); (case hr => first | (go_simp; done) | (go_simp; rfl)); (case hp => exact (Reps.none _ _)); intro v10 w3 ho4 hb hg_ hnew_; clear hg_ hnew_; have HO := zaa.mk ho4; have HB := zaa.mk hb; clear hb ho4)
   | (go_at_call 45; refine (spec_PlanIn.calls K1 A0 c0 l0 true _ (Kd.C_below HR0.out HB.out) HC0.out HPI.out).mono ?_; rintro e w8 ⟨rfl, hb8⟩; have HO8 := zaa.mk (Kd.R_below HO.out hb8); have HB8 := zaa.mk (zah HB.out hb8); clear hb8)
   | (go_at_call 46; refine (spec_l6In.calls sd 0 3 true _ HIn.out).mono ?_; rintro e w9 ⟨rfl, hd9⟩; have HO9 := zaa.mk (Kd.R_below HO8.out hd9.below); have HB9 := zaa.mk (zah HB8.out hd9.below); clear hd9)
   | (go_at_call 47; refine (spec_l1Trans.calls K2 A0 c0 l0 lt _ (Kd.C_below HR0.out HB9.out) HC0.out HTr.out).mono ?_; rintro e w11 ⟨v11, rfl, hr11, hb11⟩; obtain ⟨A11, c11, e11, hl11, hC11⟩ := Kd.R_reads hr11; subst e11; have HO11 := zaa.mk (Kd.R_below (Kd.R_mono (Kd.R_bound HO9.out) (fun k_ hk => hk.2.2.1)) hb11); have HT11 := zaa.mk (Kd.R_lower (Kd.R_mono (Kd.R_bound hr11) (fun k_ hk => Nat.not_lt.2 hk.2.1)) HB9.out.size); have HB11 := zaa.mk (zah HB9.out hb11); clear hb11 hr11 hC11 hl11))
  rw [show (0 : Int) = (z : Int) by have := HZ.out; omega]
  go_loopg [6, 9] nn (fun kq v6 v9 w' => ∃ (k : Nat) (P : Nat → Prop), v9 = .int .i64 (k : Int) ∧ zaa (k + kq = nn) ∧ zaa (Kd.R (Kd.int .i64) 3 w' w.heap.size P v6 (zcj ((List.range k).map fun r => zaw cs r z))) ∧ zaa (Below w.heap.size w w') ∧ zaa (Kd.R Kd.string 9 w' w.heap.size (fun k_ => ¬ P k_) (.slice A11 lt.length c11) lt))
  case atStart => exact ⟨0, _, (by first | rfl | exact congrArg (Value.int .i64) (by have := HZ.out; omega)), ⟨by omega⟩, HO11, HB11, HT11⟩
  case round =>
   obtain ⟨k, P, rfl, HK, HOk, HBk, HTk⟩ := hrel
   have HK' := HK.out
   have z1 : (z : Int) < (lt.length : Int) := by have := HLen.out; have := HW.out; omega
   obtain ⟨ad, ead, hz⟩ := Kd.at_string (Kd.R_reads' HTk.out).2.2 (z : Int) (by omega) z1
   cases ead
   have z0 : (0 : Int) ≤ (z : Int) := by omega
   rw [Int.toNat_natCast] at hz
   by_cases hk : k < nn
   ·have y0 : (0 : Int) ≤ (k : Int) := by omega
    have y1 : (k : Int) < ((rdOf ByteArray.empty lt (z : Int)).size : Int) := by have := HSz.out; have := HNN.out; omega
    have hv : ∀ h : k < (rdOf ByteArray.empty lt (z : Int)).size, wrap64 (wrap64 (((rdOf ByteArray.empty lt (z : Int))[k]'h).toNat : Int) - 97) = zaw cs k z := fun h => by
     have e1 := bt_at (rdOf ByteArray.empty lt (z : Int)) (k : Int) h
     have e2 := (HBy.out k (by have := HNN.out; omega)).1
     have e3 : (((rdOf ByteArray.empty lt (z : Int))[k]'h).toNat : Int) = 97 + zaw cs k z := e1.trans e2
     have e4 := zck HF.out.ok k z (by have := HNN.out; omega) HW.out
     have e5 := HF.out.ok.many
     rw [e3, zaq (x := 97 + zaw cs k z) (by omega) (by omega), zaq (by omega) (by omega)]
     omega
    have HV := zaa.mk hv
    clear hv
    have hf : ((List.range k).map fun r => zaw cs r z).length ≤ 9 := by simp; omega
    have hp := l2Put_f (zcj ((List.range k).map fun r => zaw cs r z)) (zaw cs k z) (by have := foldP_length ((List.range k).map fun r => zaw cs r z); omega)
    rw [← foldP_snoc] at hp
    have HPt := zaa.mk hp
    clear hp hf
    go_wp2_with (first
     | (go_at_call 48; refine calls_of_args (args' := #[u6, .int .i64 (zaw cs k z)]) (by rw [HV.out]) ?_; refine (spec_l2Put.calls P u6 _ _ _ w _ HBk.out HOk.out HPt.out).mono ?_; rintro e w10 ⟨v10, rfl, hr10, hb10, hgr10⟩; have HO10 := zaa.mk hr10; have HB10 := zaa.mk hb10; clear hr10 hb10))
    go_roundg (nn - (k + 1))
    case measure => omega
    case rel => exact ⟨k + 1, _, by first | rfl | (congr 1; omega), ⟨by omega⟩, by rw [List.range_succ, List.map_append]; exact HO10, HB10, ⟨Kd.R_mono (Kd.R_kept (Kd.R_bound HTk.out) hgr10 (fun k_ hk hP => hk.1 hP)) (fun k_ hk (h2 : _ ∨ _) => Or.elim h2 hk.1 (fun h3 => absurd hk.2.2.1 (Nat.not_lt.2 h3)))⟩⟩
   ·obtain rfl : k = nn := by omega
    have y1 : ¬ (k : Int) < ((rdOf ByteArray.empty lt (z : Int)).size : Int) := by have := HSz.out; have := HNN.out; omega
    go_wp2
    go_ret2
    refine ⟨u6, rfl, ?_, HBk.out⟩
    have e6 : sideL cs sd = (List.range cs.length).map (fun r => zaw cs r z) := HSd.out
    rw [e6, ← HNN.out]
    exact ⟨fun _ _ => trivial, HOk.out.2⟩
theorem specOut_calls (A0 : Option Addr) (c0 : Nat) (l0 : List ByteArray) (sd : Int) (w : World) (hr0 : Kd.C Kd.string w A0 l0.length l0) (hc0 : l0.length ≤ c0) (hp : smallP l0) :
  Calls Try.prog 13 #[.slice A0 l0.length c0, .int .i64 sd] w fun e w' => ∃ v0_ : Value, e = .returned (.tuple #[v0_, .bool (zbo l0 sd).2]) ∧ Kd.R (Kd.int .i64) 3 w' w.heap.size (fun _ => True) v0_ (zbo l0 sd).1 ∧ Below w.heap.size w w' := by
 rcases hF : zbu l0 with _ | ⟨cs, rs⟩
 ·have e : zbo l0 sd = ([], false) := by unfold zbo; rw [hF]
  rw [e]
  exact specOut_none A0 c0 l0 sd w hr0 hc0 hp hF
 ·by_cases h03 : 0 ≤ sd ∧ sd ≤ 3
  ·have e : zbo l0 sd = (zcj (sideL cs sd), true) := by unfold zbo; rw [hF]; exact if_pos h03
   rw [e]
   have hok := floorF_ok hF
   have h1 := hok.h1
   have w1 := hok.w1
   have : sd = 0 ∨ sd = 1 ∨ sd = 2 ∨ sd = 3 := by omega
   rcases this with rfl | rfl | rfl | rfl
   ·exact specOut_even A0 c0 l0 0 w hr0 hc0 hp cs rs hF h03 rfl rfl rfl rfl
   ·exact specOut_right A0 c0 l0 1 w hr0 hc0 hp cs rs (zal cs - 1) (by omega) hF h03 rfl rfl rfl rfl
   ·exact specOut_last A0 c0 l0 2 w hr0 hc0 hp cs rs (cs.length - 1) (by omega) hF h03 rfl rfl rfl rfl
   ·exact specOut_left A0 c0 l0 3 w hr0 hc0 hp cs rs 0 ⟨rfl, w1⟩ hF h03 rfl rfl rfl rfl
  ·have e : zbo l0 sd = ([], false) := by unfold zbo; rw [hF]; exact if_neg h03
   rw [e]
   exact specOut_far A0 c0 l0 sd w hr0 hc0 hp h03
def spec_NearOut.f (l0 : List ByteArray) (a1 : Int) : Option (List Int × Bool) := if smallB l0 = true then some (zbo l0 a1) else none
theorem spec_NearOut.calls (A0 : Option Addr) (c0 : Nat) (l0 : List ByteArray) (a1 : Int) (r1 : List Int) (r2 : Bool) (w : World) (hr0 : Kd.C Kd.string w A0 l0.length l0) (hc0 : l0.length ≤ c0) (h : spec_NearOut.f l0 a1 = some (r1, r2)) :
  Calls Try.prog 13 #[.slice A0 l0.length c0, .int .i64 a1] w fun e w' => ∃ v0_ : Value, e = .returned (.tuple #[v0_, .bool r2]) ∧ Kd.R (Kd.int .i64) 3 w' w.heap.size (fun _ => True) v0_ r1 ∧ Below w.heap.size w w' := by
 unfold spec_NearOut.f at h
 split at h
 ·rename_i hs
  have e := Option.some.inj h
  have := specOut_calls A0 c0 l0 a1 w hr0 hc0 ((smallB_iff _).1 hs)
  rw [e] at this
  exact this
 ·cases h
set_option maxHeartbeats 2000000 in
set_option maxRecDepth 100000 in
theorem clone_calls (A : Option Addr) (c : Nat) (xs : List Int) (w : World) (hC : (Kd.int .i64).C w A xs.length xs) (h0 : 0 < xs.length) (h6 : xs.length ≤ 1048576) :
  Calls Try.prog 54 #[.slice A xs.length c] w fun e w' => ∃ v', e = .returned v' ∧ Kd.R (Kd.int .i64) 3 w' w.heap.size (fun _ => True) v' xs ∧ Below w.heap.size w w' := by
 obtain ⟨ad, rfl, -⟩ := hC.2.2 h0
 have i3 : (Try.prog.info? 3).map (fun i => (i.zero, i.size, i.bytes)) = some (some (.int .i64 0), 1, 8) := by kernel_rfl
 obtain ⟨i0, hi, hzz⟩ := Option.map_eq_some_iff.1 i3
 simp only [Prod.mk.injEq] at hzz
 obtain ⟨hz0, hz1, hz2⟩ := hzz
 have HC := zaa.mk hC
 have H6 := zaa.mk h6
 have H0 := zaa.mk h0
 have HI := zaa.mk hi
 have HZ0 := zaa.mk hz0
 have HZ1 := zaa.mk hz1
 have HZ2 := zaa.mk hz2
 clear hC h6 h0 i3 hi hz0 hz1 hz2
 have q22 : ∀ (w : World) (a : Option Addr) (n c n' c' : Nat), (binOp .eql 24 (.slice a n c) (.slice none n' c')).run Try.prog w = .ok (.bool a.isNone) w := fun w a n c n' c' => Lib.run_eql_slice_nil w _ _ a n c n' c' Try.underlying24
 go_enter Try.func54, Try.ntmps54
 go_wp2_with (at_builtin; refine wpList_append_own _ rfl _ _ 24 rfl w.heap.size 3 i0 (.int .i64 0) 1 8 Try.underlying24 HI.out HZ0.out HZ1.out HZ2.out rfl (by decide) _ _ _ rfl (World.ownsRow_made w #[] 0 (Nat.le_refl _) (Nat.zero_le _) rfl) ad xs.length c (encs (Value.int .i64) xs) rfl ?qc1 ?qc2 ?qc3 ?qc4 ?qc5 ?qc6 ?_)
 case qc1 => rw [encs_length, Nat.mul_one]
 case qc2 =>
  intro j u hj
  have hjn : j < xs.length := by
   have := (List.getElem?_eq_some_iff.1 hj).1
   rwa [encs_length] at this
  obtain ⟨ad', e1, hx⟩ := C_int_cell HC.out j hjn
  cases e1
  refine Lib.cell?_alloc_some _ ?_
  rw [hx]
  have e2 : (encs (Value.int .i64) xs)[j]? = some (Value.int .i64 (rd xs (j : Int))) := by
   unfold rd
   simp [encs, List.getD, hjn, List.getElem?_eq_getElem hjn]
  rw [e2] at hj
  exact hj
 case qc3 => intro u hu; obtain ⟨x, _, rfl⟩ := List.mem_map.1 hu; rfl
 case qc4 => have := H6.out; unfold maxLen; omega
 case qc5 => have := H6.out; omega
 case qc6 => simp
 intro v' w1 hown hgrow hnil
 have HO := zaa.mk hown
 have HG := zaa.mk hgrow
 clear hown hgrow hnil
 go_wp2
 go_ret
 refine ⟨v', rfl, Kd.R_of_own (by simpa using HO.out) (fun _ _ => trivial), ?_⟩
 exact ((Below.refl _ w).alloc (Nat.le_refl _) _).grown HG.out (by simp) (by intro k hk; simp [Value.ownBlock] at hk; omega)
set_option maxHeartbeats 4000000 in
set_option maxRecDepth 100000 in
theorem cross1_read (w : World) (p1 g : Nat) (cs : List (List Int)) (rs : List Rc) (hk : zcq cs rs) (hf : zcr w g cs rs) (hp1 : w.cell? ⟨p1, 0, none⟩ = some (.pointer (some ⟨g, 0, none⟩))) :
  ReadFn Try.prog 93 #[.pointer (some ⟨p1, 0, none⟩)] w (zal cs) cs.length (fun r c => zaw cs c r) := by
 intro W r c hr hc hS
 show Calls Try.prog _ _ _ fun e W' => e = .returned (.int .i64 (zaw cs c r)) ∧ Below W.heap.size W W'
 replace hf := hf.sees hS
 replace hp1 := hS.cell hp1
 have hh1 := hk.h6
 have hw6 := hk.w6
 have HF := zaa.mk hf
 have H1 := zaa.mk (high_f cs rs)
 have W1 := zaa.mk (wide_f hk)
 have r0 : (0 : Int) ≤ r := by omega
 have c0 : (0 : Int) ≤ c := by omega
 obtain ⟨ad, q0, ad2, q2, x1, x2, x3⟩ := hf.cell hk c r hc hr
 have c1 : (c : Int) < cs.length := by omega
 have r1 : (r : Int) < zal cs := by omega
 have HG := zaa.mk (show zaw cs c r = zaw cs c r from rfl)
 generalize zaw cs c r = x at *
 clear hk hf hS hr hc
 show Calls Try.prog _ #[.int .i64 (r : Int), .int .i64 (c : Int), .pointer (some ⟨p1, 0, none⟩)] _ _
 go_enter Try.func93, Try.ntmps93
 go_wp2
 go_ret
 exact ⟨rfl, Below.refl _ _⟩
set_option maxHeartbeats 4000000 in
set_option maxRecDepth 100000 in
theorem cross_fn (w : World) : HowFn Try.prog 50 #[] w crossH := by
 intro W g cs rs hk hf hS
 have HK := zaa.mk hk
 have HF := zaa.mk hf
 have H1 := zaa.mk (high_f cs rs)
 have W1 := zaa.mk (wide_f hk)
 have a1 := hk.h6
 have a3 := hk.w6
 clear hk hf hS
 show Calls Try.prog _ #[.pointer (some ⟨g, 0, none⟩)] _ _
 go_enter Try.func50, Try.ntmps50
 go_upto_region 1 with (first
  | ((with_reducible refine zbb (N := 1) rfl ?_); refine zbz ?hg (N := 1) ?hd (cs := #[.pointer (some ⟨g, 0, none⟩)]) (t := 52) ?hr ?_; (case hd => rfl); (case hg => rfl); (case hr => first | (go_simp; done) | (go_simp; rfl)); intro p1 hq1 w1 hbox hb; have HB1 := zaa.mk hb; have hp1 : w1.cell? ⟨p1, 0, none⟩ = some (.pointer (some ⟨g, 0, none⟩)) := box_cell hbox; have HF1 := zaa.mk (HF.out.below hb); clear hb hbox hq1))
 refine start_ (n := 7) (S := fun w' => (w'.cell? ⟨p1, 0, none⟩ = some (.pointer (some ⟨g, 0, none⟩))) ∧ (zcr w' g cs rs) ∧ (Below W.heap.size W w')) (ds := []) #[false, false, false, false, false, false, false] (by kernel_rfl) rfl rfl (⟨hp1, HF1.out, ⟨HB1.out.os, HB1.out.tape, HB1.out.output, HB1.out.size, HB1.out.block⟩⟩) (fun hHeld => ?_)
 clear hp1
 refine take_ (i := 0) (N := some 3) (v := ?_) (a' := ?_) #[true, false, false, false, false, false, false] rfl rfl (by kernel_rfl) (fun _ _ _ h => h) (Or.inl ⟨by rfl, ?_⟩) hHeld ?_ ?_
 rotate_left
 ·rintro w' ⟨s0, s1, s2⟩
  go_simp
  with_reducible rfl
 rotate_left
 ·simp only [Act.put, List.setIfInBounds_toArray, List.set_cons_zero, List.set_cons_succ, zat, zau]
  rfl
 refine take_ (i := 2) (N := some 5) (v := ?_) (a' := ?_) #[true, false, true, false, false, false, false] rfl rfl (by kernel_rfl) (fun _ _ _ h => h) (Or.inl ⟨by rfl, ?_⟩) hHeld ?_ ?_
 rotate_left
 ·rintro w' ⟨s0, s1, s2⟩
  go_simp
  with_reducible rfl
 rotate_left
 ·simp only [Act.put, List.setIfInBounds_toArray, List.set_cons_zero, List.set_cons_succ, zat, zau]
  rfl
 refine zbd (i := 4) (N := some 7) (v := ?_) (a' := ?_) #[true, false, true, false, true, false, false] rfl rfl (by kernel_rfl) (fun _ _ _ h => h) (Or.inl ⟨by rfl, ?_⟩) ?_ ?_
 rotate_left
 ·intro w'
  go_simp
  with_reducible rfl
 rotate_left
 ·simp only [Act.put, List.setIfInBounds_toArray, List.set_cons_zero, List.set_cons_succ, zat, zau]
  rfl
 refine one_ (i := 1) (N := some 4) #[true, true, true, false, true, false, false] rfl rfl (by kernel_rfl) (by decide) (fun K hK => ?_)
 refine goes_ Try.func51 (by kernel_rfl) rfl #[.pointer (some ⟨g, 0, none⟩)] (by rfl) rfl rfl (by (try simp only [List.map_toArray, List.map_cons, List.map_nil]); first | done | rfl) ?_
 have hs_ := hHeld
 obtain ⟨s0, s1, s2⟩ := hs_
 refine (impl_floor_wide.calls g cs rs _ _ _ s1 (Below.refl _ _) W1.out).mono ?_
 rintro e w16 ⟨rfl, -, hb, -⟩
 refine ⟨_, rfl, ?_⟩
 refine hK.out _ _ ⟨zae hb s0, zcr.below s1 hb, zah s2 hb⟩ (fun hHeld => ?_)
 clear hK K hb s0 s1 s2
 refine norm_ (a' := ?_) ?_ ?_
 rotate_left
 ·show Act.put _ (some 4) _ = _
  simp only [Act.put, List.setIfInBounds_toArray, List.set_cons_zero, List.set_cons_succ, zat, zau]
  rfl
 refine one_ (i := 3) (N := some 6) #[true, true, true, true, true, false, false] rfl rfl (by kernel_rfl) (by decide) (fun K hK => ?_)
 refine goes_ Try.func52 (by kernel_rfl) rfl #[.pointer (some ⟨g, 0, none⟩)] (by rfl) rfl rfl (by (try simp only [List.map_toArray, List.map_cons, List.map_nil]); first | done | rfl) ?_
 have hs_ := hHeld
 obtain ⟨s0, s1, s2⟩ := hs_
 refine (impl_floor_high.calls g cs rs _ _ _ s1 (Below.refl _ _) H1.out).mono ?_
 rintro e w17 ⟨rfl, -, hb, -⟩
 refine ⟨_, rfl, ?_⟩
 refine hK.out _ _ ⟨zae hb s0, zcr.below s1 hb, zah s2 hb⟩ (fun hHeld => ?_)
 clear hK K hb s0 s1 s2
 refine norm_ (a' := ?_) ?_ ?_
 rotate_left
 ·show Act.put _ (some 6) _ = _
  simp only [Act.put, List.setIfInBounds_toArray, List.set_cons_zero, List.set_cons_succ, zat, zau]
  rfl
 refine one_ (i := 5) (N := some 8) #[true, true, true, true, true, true, false] rfl rfl (by kernel_rfl) (by decide) (fun K hK => ?_)
 refine goes_ Try.func75 (by kernel_rfl) rfl #[.int .i64 (zal cs : Int), .int .i64 (cs.length : Int), .func (.func 93) #[] #[.pointer (some ⟨p1, 0, none⟩)]] (by rfl) rfl rfl (by (try simp only [List.map_toArray, List.map_cons, List.map_nil]); first | done | rfl) ?_
 have hs_ := hHeld
 obtain ⟨s0, s1, s2⟩ := hs_
 refine (blank_reads 93 Try.f93 Try.func93 (by kernel_rfl) rfl _ (zal cs) cs.length _ _ (cross1_read _ p1 g cs rs HK.out s1 s0) (by omega) (by omega)).mono ?_
 rintro e w14 ⟨A14, c14, rfl, hl14, hC14, hb⟩
 have HC14 := zaa.mk hC14
 have HL14 := zaa.mk hl14
 have HB14 := zaa.mk (zah s2 hb)
 clear hC14 hl14
 refine ⟨_, rfl, ?_⟩
 refine hK.out _ _ ⟨zae hb s0, zcr.below s1 hb, zah s2 hb⟩ (fun hHeld => ?_)
 clear hK K hb s0 s1 s2
 refine norm_ (a' := ?_) ?_ ?_
 rotate_left
 ·show Act.put _ (some 8) _ = _
  simp only [Act.put, List.setIfInBounds_toArray, List.set_cons_zero, List.set_cons_succ, zat, zau]
  rfl
 refine zbd (i := 6) (N := some 2) (v := ?_) (a' := ?_) #[true, true, true, true, true, true, true] rfl rfl (by kernel_rfl) (fun _ _ _ h => h) (Or.inl ⟨by rfl, ?_⟩) ?_ ?_
 rotate_left
 ·intro w'
  go_simp
  with_reducible rfl
 rotate_left
 ·simp only [Act.put, List.setIfInBounds_toArray, List.set_cons_zero, List.set_cons_succ, zat, zau]
  rfl
 refine done_ (by kernel_rfl) ?_
 go_wp2
 go_ret
 exact ⟨A14, c14, rfl, HL14.out, HC14.out, HB14.out⟩
theorem crossed_calls (g : Nat) (cs : List (List Int)) (rs : List Rc) (W : World) (hk : zcq cs rs) (hf : zcr W g cs rs) :
  Calls Try.prog 50 #[.pointer (some ⟨g, 0, none⟩)] W (GridRes W (crossH cs rs)) := cross_fn W W g cs rs hk hf (Sees.refl _)
section
variable {P : Program} {ops : Array Oper} {Q : Exit → Act → World → Prop} {md : Region.Mode} {S S' : World → Prop} {ds : List Nat}
def onlyLast (md : Region.Mode) (ops : Array Oper) (ds : List Nat) : Bool :=
 ds.all fun d => match ops[d]? with
  | some o => (List.range ops.size).all fun j => j == d || o.after.any fun e => Region.binds md e && e.on == j
  | none => true
theorem onlyLast_ready {listed : Array Bool} {d : Nat} (h : onlyLast md ops ds = true) (hd : d ∈ ds) (hr : d ∈ Region.ready md ops listed) : Region.ready md ops (listed.setIfInBounds d true) = [] := by
 apply List.eq_nil_iff_forall_not_mem.2
 intro k hk
 obtain ⟨hun, ok, hok, -⟩ := mem_ready.1 hk
 obtain ⟨-, o, ho, hall⟩ := mem_ready.1 hr
 have h1 := List.all_eq_true.1 h d hd
 rw [ho] at h1
 have hks : k < ops.size := (Array.getElem?_eq_some_iff.1 hok).1
 have h2 := List.all_eq_true.1 h1 k (List.mem_range.2 hks)
 by_cases e : d = k
 ·subst e
  rcases Nat.lt_or_ge d listed.size with h' | h'
  ·simp [h'] at hun
  ·rw [Array.getD_eq_getD_getElem?, Array.getElem?_eq_none (by simpa using h')] at hun
   cases hun
 ·rw [Bool.or_eq_true] at h2
  rcases h2 with h2 | h2
  ·exact e (by simpa using Eq.symm (by simpa using h2))
  ·obtain ⟨ed, he, h3⟩ := Array.any_eq_true'.1 h2
   rw [Bool.and_eq_true, beq_iff_eq] at h3
   have h4 := hall ed he h3.1
   rw [h3.2] at h4
   rw [getD_set_ne true e] at hun
   rcases Nat.lt_or_ge k listed.size with h' | h'
   ·simp [h'] at hun h4
    rw [hun] at h4
    cases h4
   ·simp [Array.getElem?_eq_none h'] at hun
theorem turn_ (hl : onlyLast md ops ds = true) (h : ∀ v, S' v → S v) : ∀ (fuel : Nat) (listed : Array Bool) (a : Act) (w : World), S' w → zbe P md ops Q S' ds fuel listed a w → zbe P md ops Q S ds fuel listed a w
 | 0, _, _, _, _, H => H
 | fuel + 1, listed, a, w, hw, H => ⟨H.1, fun i hi => wpOp_mono (fun a' w' hh => by
  by_cases hd : i ∈ ds
  ·refine ⟨fun z => absurd hd z, ?_⟩
   have hr := onlyLast_ready hl hd hi
   have h2 := hh.2
   cases fuel with
   | zero => exact h2
   | succ n => exact wpAnyLast_done hr (h2.1 hr) (n + 1)
  ·have hs := hh.1 hd hw
   exact ⟨fun _ _ => h _ hs, turn_ hl h fuel _ a' w' hs hh.2⟩) (H.2 i hi)⟩
theorem turnB_ {W w : World} {fuel : Nat} {l : Array Bool} {a : Act} (hl : onlyLast md ops ds = true) (h : Below W.heap.size W w) (hk : zbe P md ops Q (fun v => Below w.heap.size w v) ds fuel l a w) : zbe P md ops Q (fun v => Below W.heap.size W v) ds fuel l a w :=
 turn_ hl (fun v hv => zah h hv) fuel l a w (Below.refl _ _) hk
theorem joinB_ {σ : Type} {fuel : Nat} {l : Array Bool} {a : Act} {w : World} (fuel' : Nat) (l' : Array Bool) (ns : σ → List (Tmp × Value)) (F : σ → World → Prop)
  (hcont : ∀ s w', F s w' → zbe P md ops Q (fun v => Below w'.heap.size w' v) ds fuel' l' (putAll a (ns s)) w')
  (h : zaa (∀ s w', F s w' → zbe P md ops Q (fun v => Below w'.heap.size w' v) ds fuel' l' (putAll a (ns s)) w') → zbe P md ops Q S ds fuel l a w) : zbe P md ops Q S ds fuel l a w := h ⟨hcont⟩
end
theorem valO_step {P : Program} {ops : Array Oper} {o : Oper} {a : Act} {Q : Exit → Act → World → Prop} {Kc : Act → World → Prop} {N : Option Tmp} {W w1 : World} {v : Value} (hw : Region.wanted o (yielded ops a.tmps) = true) (hrun : (execOp a.eval o).run P W = .ok (.value v) w1) (h : Kc (a.put o.dst v) w1) : if Region.wanted o (yielded ops a.tmps) = true then Oper.wp P o a W Kc Q else Kc (a.put N undef) W := by
 rw [if_pos hw]
 unfold Oper.wp
 rw [hrun, Oper.upon_value]
 exact h
def OutF (w8 : World) (s0 s1 s2 s3 : List Int) (s : List Value) (w' : World) : Prop :=
 ∃ (b : Nat) (A0 A1 A2 A3 : Option Addr) (c0 c1 c2 c3 : Nat), s.getD 13 undef = .pointer (some ⟨b, 0, none⟩) ∧ s.getD 12 undef = .agg #[.slice A0 s0.length c0, .slice A1 s1.length c1, .slice A2 s2.length c2, .slice A3 s3.length c3] ∧
  w'.heap[b]? = some (.cells #[.slice none 0 0, .slice none 0 0, .slice none 0 0, .slice none 0 0] 61 (0, 0)) ∧ w8.heap.size ≤ b ∧
  (Kd.int .i64).C w' A0 s0.length s0 ∧ (Kd.int .i64).C w' A1 s1.length s1 ∧ (Kd.int .i64).C w' A2 s2.length s2 ∧ (Kd.int .i64).C w' A3 s3.length s3 ∧ Below w8.heap.size w8 w'
theorem ne_of_int {w : World} {b : Nat} {t : TypeId} (h : w.heap[b]? = some (.cells #[.slice none 0 0, .slice none 0 0, .slice none 0 0, .slice none 0 0] t (0, 0))) {A : Option Addr} {n : Nat} {xs : List Int} (hC : (Kd.int .i64).C w A n xs) : ∀ ad, A = some ad → 0 < n → ad.block ≠ b := by
 intro ad hA hn e
 obtain ⟨ad', e1, hx⟩ := C_int_cell hC 0 hn
 rw [hA] at e1
 cases e1
 rw [Addr.add_zero'] at hx
 subst e
 unfold World.cell? at hx
 rw [h] at hx
 dsimp only at hx
 split at hx
 ·cases hx
 ·rcases hq : ad.off with _ | _ | _ | _ | n <;> rw [hq] at hx <;> simp at hx
theorem C_keep_ne {w W : World} {b : Nat} {t : TypeId} (h : w.heap[b]? = some (.cells #[.slice none 0 0, .slice none 0 0, .slice none 0 0, .slice none 0 0] t (0, 0))) {A : Option Addr} {n : Nat} {xs : List Int} (hC : (Kd.int .i64).C w A n xs) (hk : zaf w W b none) : (Kd.int .i64).C W A n xs :=
 Kd.C_keep (0 : Int) hC hk (ne_of_int h hC)
theorem set_four {w : World} {b : Nat} {t : TypeId} {x0 x1 x2 x3 : Value} (h : w.heap[b]? = some (.cells #[x0, x1, x2, x3] t (0, 0))) (v0 v1 v2 v3 : Value) :
  ((((w.setCell ⟨b, 0, none⟩ v0).setCell ⟨b, 1, none⟩ v1).setCell ⟨b, 2, none⟩ v2).setCell ⟨b, 3, none⟩ v3).heap[b]? = some (.cells #[v0, v1, v2, v3] t (0, 0)) := by
 simp only [World.setCell, Array.getElem?_modify, if_true, h, Option.map_some]
 simp
theorem side_rows {cs : List (List Int)} {rs : List Rc} (h : zcq cs rs) : cs[0]? = some (sideL cs 0) ∧ cs[cs.length - 1]? = some (sideL cs 2) ∧ (crossH cs rs)[zal cs - 1]? = some (sideL cs 1) ∧ (crossH cs rs)[0]? = some (sideL cs 3) := by
 have h1 := h.h1
 have w1 := h.w1
 have row : ∀ r, r < cs.length → cs[r]? = some ((List.range (zal cs)).map fun c => zaw cs r c) := fun r hr => by
  have e := rect_eq h.rect
  have := gridOf_get (g := zaw cs) (wi := zal cs) hr
  rw [← e] at this
  exact this
 refine ⟨row 0 (by omega), row _ (by omega), ?_, ?_⟩
 ·exact gridOf_get (by omega)
 ·exact gridOf_get (by omega)
set_option maxHeartbeats 4000000 in
set_option maxRecDepth 100000 in
theorem implOut_in (A0 : Option Addr) (c0 : Nat) (l0 : List ByteArray) (sd : Int) (w : World) (hr0 : Kd.C Kd.string w A0 l0.length l0) (hc0 : l0.length ≤ c0) (hp : smallP l0) (cs : List (List Int)) (rs : List Rc) (hF : zbu l0 = some (cs, rs)) (y0 : 0 ≤ sd) (y3 : sd ≤ 3) :
  Calls Try.prog 15 #[.slice A0 l0.length c0, .int .i64 sd] w fun e w' => ∃ v0_ : Value, e = .returned (.tuple #[v0_, .bool true]) ∧ Kd.R (Kd.int .i64) 3 w' w.heap.size (fun _ => True) v0_ (zcj (sideL cs sd)) ∧ Below w.heap.size w w' := by
 have HR := zaa.mk hr0
 have HC := zaa.mk hc0
 have HP := zaa.mk hp
 have HFf := zaa.mk hF
 have hk := floorF_ok hF
 have HK := zaa.mk hk
 have H1 := zaa.mk (high_f cs rs)
 have W1 := zaa.mk (wide_f hk)
 have k1 := hk.h1
 have k2 := hk.w1
 have k3 := hk.h6
 have k4 := hk.w6
 obtain ⟨r0, r2, r1, r3⟩ := side_rows hk
 have hX : (crossH cs rs).length = zal cs := zbf _ _ _
 obtain ⟨zw, hzw⟩ : ∃ zw, zw + 1 = zal cs := ⟨zal cs - 1, by omega⟩
 obtain ⟨zh, hzh⟩ : ∃ zh, zh + 1 = cs.length := ⟨cs.length - 1, by omega⟩
 rw [show zal cs - 1 = zw by omega] at r1
 rw [show cs.length - 1 = zh by omega] at r2
 have z0 : (0 : Int) ≤ (zw : Int) := by omega
 have z1 : (zw : Int) < ((crossH cs rs).length : Int) := by omega
 have z2 : (0 : Int) ≤ (zh : Int) := by omega
 have z3 : (zh : Int) < (cs.length : Int) := by omega
 have z4 : (0 : Int) < ((crossH cs rs).length : Int) := by omega
 have z5 : (0 : Int) < (cs.length : Int) := by omega
 have z6 : 0 < cs.length := by omega
 have z7 : 0 < (crossH cs rs).length := by omega
 have wz1 : wrap64 ((zal cs : Int) - 1) = (zw : Int) := by rw [zaq (by omega) (by omega)]; omega
 have wz2 : IntKind.i64.wrap ((zal cs : Int) - 1) = (zw : Int) := by rw [zat]; exact wz1
 have wz3 : wrap64 ((cs.length : Int) - 1) = (zh : Int) := by rw [zaq (by omega) (by omega)]; omega
 have wz4 : IntKind.i64.wrap ((cs.length : Int) - 1) = (zh : Int) := by rw [zat]; exact wz3
 have HZ := zaa.mk (show 0 < (sideL cs 0).length ∧ 0 < (sideL cs 1).length ∧ 0 < (sideL cs 2).length ∧ 0 < (sideL cs 3).length by simp [sideL]; omega)
 obtain ⟨s0, e0⟩ : ∃ s0, s0 = sideL cs 0 := ⟨_, rfl⟩
 obtain ⟨s1, e1⟩ : ∃ s1, s1 = sideL cs 1 := ⟨_, rfl⟩
 obtain ⟨s2, e2⟩ : ∃ s2, s2 = sideL cs 2 := ⟨_, rfl⟩
 obtain ⟨s3, e3⟩ : ∃ s3, s3 = sideL cs 3 := ⟨_, rfl⟩
 rw [← e0] at r0
 rw [← e1] at r1
 rw [← e2] at r2
 rw [← e3] at r3
 have E0 := zaa.mk e0
 have E1 := zaa.mk e1
 have E2 := zaa.mk e2
 have E3 := zaa.mk e3
 have HX1 := zaa.mk r1
 have HX3 := zaa.mk r3
 have HX0 := zaa.mk r0
 have HX2 := zaa.mk r2
 clear hr0 hc0 hp hF hk e0 e1 e2 e3 r0 r1 r2 r3 hX hzw hzh
 go_enter Try.func15, Try.ntmps15
 go_upto_region 4 with (first
  | (go_at_call 49; refine (floorOf_calls A0 c0 l0 _ HR.out HC.out HP.out).mono ?_; rw [HFf.out]; rintro e w8 ⟨hb8, v8, b8, rfl, rfl, g, rfl, hfl⟩; have HB8 := zaa.mk hb8; have HFl8 := zaa.mk hfl; clear hb8 hfl))
 obtain ⟨Ag, cg, Ag1, cg1, hg1, hg2, hg3, hg4⟩ := HFl8.out
 obtain ⟨ad, P0, u0, eg, y0', hu0, hr0⟩ := C_row hg3 0 s0 HX0.out
 obtain ⟨ad', PH, uH, eg', yH, huH, hrH⟩ := C_row hg3 zh s2 HX2.out
 subst eg
 cases eg'
 have YG := zaa.mk ((cell_of_row w8 g 0 _ _ _ hg1).trans rfl)
 rw [Addr.add_zero'] at y0'
 have Y0 := zaa.mk y0'
 have YH := zaa.mk yH
 have HR0 := zaa.mk hr0
 have HR2 := zaa.mk hrH
 have HF := zaa.mk HFl8.out
 have HB := zaa.mk (Below.refl w8.heap.size w8)
 clear hg1 hg2 hg3 hg4 y0' yH hr0 hrH hu0 huH
 refine start_ (n := 29) (S := fun w' => Below w8.drew.heap.size w8.drew w') (ds := [28]) #[false, false, false, false, false, false, false, false, false, false, false, false, false, false, false, false, false, false, false, false, false, false, false, false, false, false, false, false, false] (by kernel_rfl) rfl rfl (Below.refl _ _) (fun hHeld => ?_)
 have hb : Below w8.heap.size w8 w8.drew := below_drew (Below.refl _ _)
 have n_ := zaa.mk (HF.out.below hb); clear HF; have HF := n_; clear n_
 have n_ := zaa.mk (zah HB.out hb); clear HB; have HB := n_; clear n_
 have n_ := zaa.mk (Kd.C_below HR0.out hb); clear HR0; have HR0 := n_; clear n_
 have n_ := zaa.mk (Kd.C_below HR2.out hb); clear HR2; have HR2 := n_; clear n_
 have n_ := zaa.mk (zae hb Y0.out); clear Y0; have Y0 := n_; clear n_
 have n_ := zaa.mk (zae hb YH.out); clear YH; have YH := n_; clear n_
 have n_ := zaa.mk (zae hb YG.out); clear YG; have YG := n_; clear n_
 clear hb
 generalize w8.drew = wd at *
 refine zbd (i := 0) (N := some 24) (v := ?_) (a' := ?_) #[true, false, false, false, false, false, false, false, false, false, false, false, false, false, false, false, false, false, false, false, false, false, false, false, false, false, false, false, false] rfl rfl (by kernel_rfl) (fun _ _ _ h => h) (Or.inl ⟨by rfl, ?_⟩) ?_ ?_
 rotate_left
 ·intro w'
  go_simp
  with_reducible rfl
 rotate_left
 ·simp only [Act.put, List.setIfInBounds_toArray, List.set_cons_zero, List.set_cons_succ, zat, zau]
  rfl
 refine zbd (i := 6) (N := some 30) (v := ?_) (a' := ?_) #[true, false, false, false, false, false, true, false, false, false, false, false, false, false, false, false, false, false, false, false, false, false, false, false, false, false, false, false, false] rfl rfl (by kernel_rfl) (fun _ _ _ h => h) (Or.inl ⟨by rfl, ?_⟩) ?_ ?_
 rotate_left
 ·intro w'
  go_simp
  with_reducible rfl
 rotate_left
 ·simp only [Act.put, List.setIfInBounds_toArray, List.set_cons_zero, List.set_cons_succ, zat, zau]
  rfl
 refine zbd (i := 8) (N := some 32) (v := ?_) (a' := ?_) #[true, false, false, false, false, false, true, false, true, false, false, false, false, false, false, false, false, false, false, false, false, false, false, false, false, false, false, false, false] rfl rfl (by kernel_rfl) (fun _ _ _ h => h) (Or.inl ⟨by rfl, ?_⟩) ?_ ?_
 rotate_left
 ·intro w'
  go_simp
  with_reducible rfl
 rotate_left
 ·simp only [Act.put, List.setIfInBounds_toArray, List.set_cons_zero, List.set_cons_succ, zat, zau]
  rfl
 refine zbd (i := 13) (N := some 37) (v := ?_) (a' := ?_) #[true, false, false, false, false, false, true, false, true, false, false, false, false, true, false, false, false, false, false, false, false, false, false, false, false, false, false, false, false] rfl rfl (by kernel_rfl) (fun _ _ _ h => h) (Or.inl ⟨by rfl, ?_⟩) ?_ ?_
 rotate_left
 ·intro w'
  go_simp
  with_reducible rfl
 rotate_left
 ·simp only [Act.put, List.setIfInBounds_toArray, List.set_cons_zero, List.set_cons_succ, zat, zau]
  rfl
 refine zbd (i := 17) (N := some 41) (v := ?_) (a' := ?_) #[true, false, false, false, false, false, true, false, true, false, false, false, false, true, false, false, false, true, false, false, false, false, false, false, false, false, false, false, false] rfl rfl (by kernel_rfl) (fun _ _ _ h => h) (Or.inl ⟨by rfl, ?_⟩) ?_ ?_
 rotate_left
 ·intro w'
  go_simp
  with_reducible rfl
 rotate_left
 ·simp only [Act.put, List.setIfInBounds_toArray, List.set_cons_zero, List.set_cons_succ, zat, zau]
  rfl
 refine zbd (i := 22) (N := some 46) (v := ?_) (a' := ?_) #[true, false, false, false, false, false, true, false, true, false, false, false, false, true, false, false, false, true, false, false, false, false, true, false, false, false, false, false, false] rfl rfl (by kernel_rfl) (fun _ _ _ h => h) (Or.inl ⟨by rfl, ?_⟩) ?_ ?_
 rotate_left
 ·intro w'
  go_simp
  with_reducible rfl
 rotate_left
 ·simp only [Act.put, List.setIfInBounds_toArray, List.set_cons_zero, List.set_cons_succ, zat, zau]
  rfl
 refine zbd (i := 1) (N := some 25) (v := ?_) (a' := ?_) #[true, true, false, false, false, false, true, false, true, false, false, false, false, true, false, false, false, true, false, false, false, false, true, false, false, false, false, false, false] rfl rfl (by kernel_rfl) (fun _ _ _ h => h) (Or.inl ⟨by rfl, ?_⟩) ?_ ?_
 rotate_left
 ·intro w'
  go_simp
  with_reducible rfl
 rotate_left
 ·simp only [Act.put, List.setIfInBounds_toArray, List.set_cons_zero, List.set_cons_succ, zat, zau]
  rfl
 refine zbd (i := 2) (N := some 26) (v := ?_) (a' := ?_) #[true, true, true, false, false, false, true, false, true, false, false, false, false, true, false, false, false, true, false, false, false, false, true, false, false, false, false, false, false] rfl rfl (by kernel_rfl) (fun _ _ _ h => h) (Or.inl ⟨by rfl, ?_⟩) ?_ ?_
 rotate_left
 ·intro w'
  go_simp
  with_reducible rfl
 rotate_left
 ·simp only [Act.put, List.setIfInBounds_toArray, List.set_cons_zero, List.set_cons_succ, zat, zau]
  rfl
 refine zbd (i := 14) (N := some 38) (v := ?_) (a' := ?_) #[true, true, true, false, false, false, true, false, true, false, false, false, false, true, true, false, false, true, false, false, false, false, true, false, false, false, false, false, false] rfl rfl (by kernel_rfl) (fun _ _ _ h => h) (Or.inl ⟨by rfl, ?_⟩) ?_ ?_
 rotate_left
 ·intro w'
  go_simp
  with_reducible rfl
 rotate_left
 ·simp only [Act.put, List.setIfInBounds_toArray, List.set_cons_zero, List.set_cons_succ, zat, zau]
  rfl
 refine zbd (i := 15) (N := some 39) (v := ?_) (a' := ?_) #[true, true, true, false, false, false, true, false, true, false, false, false, false, true, true, true, false, true, false, false, false, false, true, false, false, false, false, false, false] rfl rfl (by kernel_rfl) (fun _ _ _ h => h) (Or.inl ⟨by rfl, ?_⟩) ?_ ?_
 rotate_left
 ·intro w'
  go_simp
  with_reducible rfl
 rotate_left
 ·simp only [Act.put, List.setIfInBounds_toArray, List.set_cons_zero, List.set_cons_succ, zat, zau]
  rfl
 refine take_ (i := 3) (N := some 27) (v := ?_) (a' := ?_) #[true, true, true, true, false, false, true, false, true, false, false, false, false, true, true, true, false, true, false, false, false, false, true, false, false, false, false, false, false] rfl rfl (by kernel_rfl) (fun _ _ _ h => h) (Or.inl ⟨by rfl, ?_⟩) hHeld ?_ ?_
 rotate_left
 ·intro w' s0
  have s1 := zae s0 YG.out
  clear s0
  go_simp
  with_reducible rfl
 rotate_left
 ·simp only [Act.put, List.setIfInBounds_toArray, List.set_cons_zero, List.set_cons_succ, zat, zau]
  rfl
 refine zbd (i := 4) (N := some 28) (v := ?_) (a' := ?_) #[true, true, true, true, true, false, true, false, true, false, false, false, false, true, true, true, false, true, false, false, false, false, true, false, false, false, false, false, false] rfl rfl (by kernel_rfl) (fun _ _ _ h => h) (Or.inl ⟨by rfl, ?_⟩) ?_ ?_
 rotate_left
 ·intro w'
  go_simp
  with_reducible rfl
 rotate_left
 ·simp only [Act.put, List.setIfInBounds_toArray, List.set_cons_zero, List.set_cons_succ, zat, zau]
  rfl
 refine take_ (i := 5) (N := some 29) (v := ?_) (a' := ?_) #[true, true, true, true, true, true, true, false, true, false, false, false, false, true, true, true, false, true, false, false, false, false, true, false, false, false, false, false, false] rfl rfl (by kernel_rfl) (fun _ _ _ h => h) (Or.inl ⟨by rfl, ?_⟩) hHeld ?_ ?_
 rotate_left
 ·intro w' s0
  have s1 := zae s0 Y0.out
  clear s0
  go_simp
  with_reducible rfl
 rotate_left
 ·simp only [Act.put, List.setIfInBounds_toArray, List.set_cons_zero, List.set_cons_succ, zat, zau]
  rfl
 refine take_ (i := 16) (N := some 40) (v := ?_) (a' := ?_) #[true, true, true, true, true, true, true, false, true, false, false, false, false, true, true, true, true, true, false, false, false, false, true, false, false, false, false, false, false] rfl rfl (by kernel_rfl) (fun _ _ _ h => h) (Or.inl ⟨by rfl, ?_⟩) hHeld ?_ ?_
 rotate_left
 ·intro w' s0
  have s1 := zae s0 YG.out
  clear s0
  go_simp
  with_reducible rfl
 rotate_left
 ·simp only [Act.put, List.setIfInBounds_toArray, List.set_cons_zero, List.set_cons_succ, zat, zau]
  rfl
 refine joinB_ 1 #[true, true, true, true, true, true, true, true, true, true, true, true, true, true, true, true, true, true, true, true, true, true, true, true, true, true, true, true, false] (fun s : List Value => [(31, s.getD 0 undef), (33, s.getD 1 undef), (34, s.getD 2 undef), (35, s.getD 3 undef), (36, s.getD 4 undef), (42, s.getD 5 undef), (43, s.getD 6 undef), (44, s.getD 7 undef), (45, s.getD 8 undef), (47, s.getD 9 undef), (48, s.getD 10 undef), (49, s.getD 11 undef), (50, s.getD 12 undef), (8, s.getD 13 undef)]) (OutF w8 s0 s1 s2 s3) ?cont (fun HFin => ?main)
 case main =>
  refine two_ (i := 7) (j := 27) (Ni := some 31) (Nj := some 8) #[true, true, true, true, true, true, true, true, true, false, false, false, false, true, true, true, true, true, false, false, false, false, true, false, false, false, false, false, false] #[true, true, true, true, true, true, true, false, true, false, false, false, false, true, true, true, true, true, false, false, false, false, true, false, false, false, false, true, false] rfl rfl rfl rfl (by kernel_rfl) (by decide) (by decide) (fun K hK => ?_) (fun K hK => ?_)
  ·refine goes_ Try.func50 (by kernel_rfl) rfl #[.pointer (some ⟨g, 0, none⟩)] (by rfl) rfl rfl (by (try simp only [List.map_toArray, List.map_cons, List.map_nil]); first | done | rfl) ?_
   refine (crossed_calls g cs rs _ HK.out HF.out).mono ?_
   rintro e x1 ⟨A7, q7, rfl, hl, hC, hb⟩
   obtain ⟨ad7, P7, u7, ea, y7, hu, hr⟩ := C_row hC zw s1 HX1.out
   subst ea
   have Y7 := zaa.mk y7
   clear hl hC hu y7
   refine ⟨_, rfl, ?_⟩
   refine hK.out _ _ hb (fun hHeld => ?_)
   have n_ := zaa.mk (HF.out.below hb); clear HF; have HF := n_; clear n_
   have n_ := zaa.mk (zah HB.out hb); clear HB; have HB := n_; clear n_
   have n_ := zaa.mk (Kd.C_below HR0.out hb); clear HR0; have HR0 := n_; clear n_
   have n_ := zaa.mk (Kd.C_below HR2.out hb); clear HR2; have HR2 := n_; clear n_
   have n_ := zaa.mk (zae hb Y0.out); clear Y0; have Y0 := n_; clear n_
   have n_ := zaa.mk (zae hb YH.out); clear YH; have YH := n_; clear n_
   have n_ := zaa.mk (zae hb YG.out); clear YG; have YG := n_; clear n_
   clear hK K hb
   refine turnB_ (by kernel_rfl) hHeld ?_
   clear hHeld
   have HR1 := zaa.mk hr
   clear hr
   have hHeld := Below.refl x1.heap.size x1
   refine norm_ (a' := ?_) ?_ ?_
   rotate_left
   ·show Act.put _ (some 31) _ = _
    simp only [Act.put, List.setIfInBounds_toArray, List.set_cons_zero, List.set_cons_succ, zat, zau]
    rfl
   refine two_ (i := 9) (j := 27) (Ni := some 33) (Nj := some 8) #[true, true, true, true, true, true, true, true, true, true, false, false, false, true, true, true, true, true, false, false, false, false, true, false, false, false, false, false, false] #[true, true, true, true, true, true, true, true, true, false, false, false, false, true, true, true, true, true, false, false, false, false, true, false, false, false, false, true, false] rfl rfl rfl rfl (by kernel_rfl) (by decide) (by decide) (fun K hK => ?_) (fun K hK => ?_)
   ·refine goes_ Try.func51 (by kernel_rfl) rfl #[.pointer (some ⟨g, 0, none⟩)] (by rfl) rfl rfl (by (try simp only [List.map_toArray, List.map_cons, List.map_nil]); first | done | rfl) ?_
    refine (impl_floor_wide.calls g cs rs _ _ _ HF.out (Below.refl _ _) W1.out).mono ?_
    rintro e x2 ⟨rfl, -, hb, -⟩
    refine ⟨_, rfl, ?_⟩
    refine hK.out _ _ hb (fun hHeld => ?_)
    have n_ := zaa.mk (HF.out.below hb); clear HF; have HF := n_; clear n_
    have n_ := zaa.mk (zah HB.out hb); clear HB; have HB := n_; clear n_
    have n_ := zaa.mk (Kd.C_below HR0.out hb); clear HR0; have HR0 := n_; clear n_
    have n_ := zaa.mk (Kd.C_below HR2.out hb); clear HR2; have HR2 := n_; clear n_
    have n_ := zaa.mk (zae hb Y0.out); clear Y0; have Y0 := n_; clear n_
    have n_ := zaa.mk (zae hb YH.out); clear YH; have YH := n_; clear n_
    have n_ := zaa.mk (zae hb YG.out); clear YG; have YG := n_; clear n_
    have n_ := zaa.mk (Kd.C_below HR1.out hb); clear HR1; have HR1 := n_; clear n_
    have n_ := zaa.mk (zae hb Y7.out); clear Y7; have Y7 := n_; clear n_
    clear hK K hb
    refine turnB_ (by kernel_rfl) hHeld ?_
    clear hHeld
    have hHeld := Below.refl x2.heap.size x2
    refine norm_ (a' := ?_) ?_ ?_
    rotate_left
    ·show Act.put _ (some 33) _ = _
     simp only [Act.put, List.setIfInBounds_toArray, List.set_cons_zero, List.set_cons_succ, zat, zau]
     rfl
    refine zbd (i := 10) (N := some 34) (v := ?_) (a' := ?_) #[true, true, true, true, true, true, true, true, true, true, true, false, false, true, true, true, true, true, false, false, false, false, true, false, false, false, false, false, false] rfl rfl (by kernel_rfl) (fun _ _ _ h => h) (Or.inl ⟨by rfl, ?_⟩) ?_ ?_
    rotate_left
    ·intro w'
     go_simp
     with_reducible rfl
    rotate_left
    ·simp only [Act.put, List.setIfInBounds_toArray, List.set_cons_zero, List.set_cons_succ, zat, zau]
     rfl
    refine zbd (i := 11) (N := some 35) (v := ?_) (a' := ?_) #[true, true, true, true, true, true, true, true, true, true, true, true, false, true, true, true, true, true, false, false, false, false, true, false, false, false, false, false, false] rfl rfl (by kernel_rfl) (fun _ _ _ h => h) (Or.inl ⟨by rfl, ?_⟩) ?_ ?_
    rotate_left
    ·intro w'
     go_simp
     with_reducible rfl
    rotate_left
    ·simp only [Act.put, List.setIfInBounds_toArray, List.set_cons_zero, List.set_cons_succ, zat, zau]
     rfl
    refine take_ (i := 12) (N := some 36) (v := ?_) (a' := ?_) #[true, true, true, true, true, true, true, true, true, true, true, true, true, true, true, true, true, true, false, false, false, false, true, false, false, false, false, false, false] rfl rfl (by kernel_rfl) (fun _ _ _ h => h) (Or.inl ⟨by rfl, ?_⟩) hHeld ?_ ?_
    rotate_left
    ·intro w' s0
     have s1 := zae s0 Y7.out
     clear s0
     go_simp
     with_reducible rfl
    rotate_left
    ·simp only [Act.put, List.setIfInBounds_toArray, List.set_cons_zero, List.set_cons_succ, zat, zau]
     rfl
    refine two_ (i := 18) (j := 27) (Ni := some 42) (Nj := some 8) #[true, true, true, true, true, true, true, true, true, true, true, true, true, true, true, true, true, true, true, false, false, false, true, false, false, false, false, false, false] #[true, true, true, true, true, true, true, true, true, true, true, true, true, true, true, true, true, true, false, false, false, false, true, false, false, false, false, true, false] rfl rfl rfl rfl (by kernel_rfl) (by decide) (by decide) (fun K hK => ?_) (fun K hK => ?_)
    ·refine goes_ Try.func52 (by kernel_rfl) rfl #[.pointer (some ⟨g, 0, none⟩)] (by rfl) rfl rfl (by (try simp only [List.map_toArray, List.map_cons, List.map_nil]); first | done | rfl) ?_
     refine (impl_floor_high.calls g cs rs _ _ _ HF.out (Below.refl _ _) H1.out).mono ?_
     rintro e x3 ⟨rfl, -, hb, -⟩
     refine ⟨_, rfl, ?_⟩
     refine hK.out _ _ hb (fun hHeld => ?_)
     have n_ := zaa.mk (HF.out.below hb); clear HF; have HF := n_; clear n_
     have n_ := zaa.mk (zah HB.out hb); clear HB; have HB := n_; clear n_
     have n_ := zaa.mk (Kd.C_below HR0.out hb); clear HR0; have HR0 := n_; clear n_
     have n_ := zaa.mk (Kd.C_below HR2.out hb); clear HR2; have HR2 := n_; clear n_
     have n_ := zaa.mk (zae hb Y0.out); clear Y0; have Y0 := n_; clear n_
     have n_ := zaa.mk (zae hb YH.out); clear YH; have YH := n_; clear n_
     have n_ := zaa.mk (zae hb YG.out); clear YG; have YG := n_; clear n_
     have n_ := zaa.mk (Kd.C_below HR1.out hb); clear HR1; have HR1 := n_; clear n_
     have n_ := zaa.mk (zae hb Y7.out); clear Y7; have Y7 := n_; clear n_
     clear hK K hb
     refine turnB_ (by kernel_rfl) hHeld ?_
     clear hHeld
     have hHeld := Below.refl x3.heap.size x3
     refine norm_ (a' := ?_) ?_ ?_
     rotate_left
     ·show Act.put _ (some 42) _ = _
      simp only [Act.put, List.setIfInBounds_toArray, List.set_cons_zero, List.set_cons_succ, zat, zau]
      rfl
     refine zbd (i := 19) (N := some 43) (v := ?_) (a' := ?_) #[true, true, true, true, true, true, true, true, true, true, true, true, true, true, true, true, true, true, true, true, false, false, true, false, false, false, false, false, false] rfl rfl (by kernel_rfl) (fun _ _ _ h => h) (Or.inl ⟨by rfl, ?_⟩) ?_ ?_
     rotate_left
     ·intro w'
      go_simp
      with_reducible rfl
     rotate_left
     ·simp only [Act.put, List.setIfInBounds_toArray, List.set_cons_zero, List.set_cons_succ, zat, zau]
      rfl
     refine zbd (i := 20) (N := some 44) (v := ?_) (a' := ?_) #[true, true, true, true, true, true, true, true, true, true, true, true, true, true, true, true, true, true, true, true, true, false, true, false, false, false, false, false, false] rfl rfl (by kernel_rfl) (fun _ _ _ h => h) (Or.inl ⟨by rfl, ?_⟩) ?_ ?_
     rotate_left
     ·intro w'
      go_simp
      with_reducible rfl
     rotate_left
     ·simp only [Act.put, List.setIfInBounds_toArray, List.set_cons_zero, List.set_cons_succ, zat, zau]
      rfl
     refine take_ (i := 21) (N := some 45) (v := ?_) (a' := ?_) #[true, true, true, true, true, true, true, true, true, true, true, true, true, true, true, true, true, true, true, true, true, true, true, false, false, false, false, false, false] rfl rfl (by kernel_rfl) (fun _ _ _ h => h) (Or.inl ⟨by rfl, ?_⟩) hHeld ?_ ?_
     rotate_left
     ·intro w' s0
      have s1 := zae s0 YH.out
      clear s0
      go_simp
      with_reducible rfl
     rotate_left
     ·simp only [Act.put, List.setIfInBounds_toArray, List.set_cons_zero, List.set_cons_succ, zat, zau]
      rfl
     refine two_ (i := 23) (j := 27) (Ni := some 47) (Nj := some 8) #[true, true, true, true, true, true, true, true, true, true, true, true, true, true, true, true, true, true, true, true, true, true, true, true, false, false, false, false, false] #[true, true, true, true, true, true, true, true, true, true, true, true, true, true, true, true, true, true, true, true, true, true, true, false, false, false, false, true, false] rfl rfl rfl rfl (by kernel_rfl) (by decide) (by decide) (fun K hK => ?_) (fun K hK => ?_)
     ·refine goes_ Try.func50 (by kernel_rfl) rfl #[.pointer (some ⟨g, 0, none⟩)] (by rfl) rfl rfl (by (try simp only [List.map_toArray, List.map_cons, List.map_nil]); first | done | rfl) ?_
      refine (crossed_calls g cs rs _ HK.out HF.out).mono ?_
      rintro e x4 ⟨A23, q23, rfl, hl, hC, hb⟩
      obtain ⟨ad23, P23, u23, ea, y23, hu, hr⟩ := C_row hC 0 s3 HX3.out
      subst ea
      rw [Addr.add_zero'] at y23
      have Y23 := zaa.mk y23
      clear hl hC hu y23
      refine ⟨_, rfl, ?_⟩
      refine hK.out _ _ hb (fun hHeld => ?_)
      have n_ := zaa.mk (HF.out.below hb); clear HF; have HF := n_; clear n_
      have n_ := zaa.mk (zah HB.out hb); clear HB; have HB := n_; clear n_
      have n_ := zaa.mk (Kd.C_below HR0.out hb); clear HR0; have HR0 := n_; clear n_
      have n_ := zaa.mk (Kd.C_below HR2.out hb); clear HR2; have HR2 := n_; clear n_
      have n_ := zaa.mk (zae hb Y0.out); clear Y0; have Y0 := n_; clear n_
      have n_ := zaa.mk (zae hb YH.out); clear YH; have YH := n_; clear n_
      have n_ := zaa.mk (zae hb YG.out); clear YG; have YG := n_; clear n_
      have n_ := zaa.mk (Kd.C_below HR1.out hb); clear HR1; have HR1 := n_; clear n_
      have n_ := zaa.mk (zae hb Y7.out); clear Y7; have Y7 := n_; clear n_
      clear hK K hb
      refine turnB_ (by kernel_rfl) hHeld ?_
      clear hHeld
      have HR3 := zaa.mk hr
      clear hr
      have hHeld := Below.refl x4.heap.size x4
      refine norm_ (a' := ?_) ?_ ?_
      rotate_left
      ·show Act.put _ (some 47) _ = _
       simp only [Act.put, List.setIfInBounds_toArray, List.set_cons_zero, List.set_cons_succ, zat, zau]
       rfl
      refine zbd (i := 24) (N := some 48) (v := ?_) (a' := ?_) #[true, true, true, true, true, true, true, true, true, true, true, true, true, true, true, true, true, true, true, true, true, true, true, true, true, false, false, false, false] rfl rfl (by kernel_rfl) (fun _ _ _ h => h) (Or.inl ⟨by rfl, ?_⟩) ?_ ?_
      rotate_left
      ·intro w'
       go_simp
       with_reducible rfl
      rotate_left
      ·simp only [Act.put, List.setIfInBounds_toArray, List.set_cons_zero, List.set_cons_succ, zat, zau]
       rfl
      refine take_ (i := 25) (N := some 49) (v := ?_) (a' := ?_) #[true, true, true, true, true, true, true, true, true, true, true, true, true, true, true, true, true, true, true, true, true, true, true, true, true, true, false, false, false] rfl rfl (by kernel_rfl) (fun _ _ _ h => h) (Or.inl ⟨by rfl, ?_⟩) hHeld ?_ ?_
      rotate_left
      ·intro w' s0
       have s1 := zae s0 Y23.out
       clear s0
       go_simp
       with_reducible rfl
      rotate_left
      ·simp only [Act.put, List.setIfInBounds_toArray, List.set_cons_zero, List.set_cons_succ, zat, zau]
       rfl
      refine zbd (i := 26) (N := some 50) (v := ?_) (a' := ?_) #[true, true, true, true, true, true, true, true, true, true, true, true, true, true, true, true, true, true, true, true, true, true, true, true, true, true, true, false, false] rfl rfl (by kernel_rfl) (fun _ _ _ h => h) (Or.inl ⟨by rfl, ?_⟩) ?_ ?_
      rotate_left
      ·intro w'
       go_simp
       with_reducible rfl
      rotate_left
      ·simp only [Act.put, List.setIfInBounds_toArray, List.set_cons_zero, List.set_cons_succ, zat, zau]
       rfl
      refine one_ (i := 27) (N := some 8) #[true, true, true, true, true, true, true, true, true, true, true, true, true, true, true, true, true, true, true, true, true, true, true, true, true, true, true, true, false] rfl rfl (by kernel_rfl) (by decide) (fun K hK => ?_)
      refine valO_step (by rfl) (v := .pointer (some ⟨x4.heap.size, 0, none⟩)) (w1 := x4.alloc (.cells #[.slice none 0 0, .slice none 0 0, .slice none 0 0, .slice none 0 0] 61)) (by go_simp) ?_
      have hb := zac (Below.refl x4.heap.size x4) (.cells #[.slice none 0 0, .slice none 0 0, .slice none 0 0, .slice none 0 0] 61)
      have hk := heap_alloc_new x4 (.cells #[.slice none 0 0, .slice none 0 0, .slice none 0 0, .slice none 0 0] 61)
      have HBs := zaa.mk (show w8.heap.size ≤ x4.heap.size from HB.out.size)
      generalize x4.alloc (.cells #[.slice none 0 0, .slice none 0 0, .slice none 0 0, .slice none 0 0] 61) = x5 at *
      refine hK.out _ _ hb (fun hHeld => ?_)
      have n_ := zaa.mk (HF.out.below hb); clear HF; have HF := n_; clear n_
      have n_ := zaa.mk (zah HB.out hb); clear HB; have HB := n_; clear n_
      have n_ := zaa.mk (Kd.C_below HR0.out hb); clear HR0; have HR0 := n_; clear n_
      have n_ := zaa.mk (Kd.C_below HR2.out hb); clear HR2; have HR2 := n_; clear n_
      have n_ := zaa.mk (zae hb Y0.out); clear Y0; have Y0 := n_; clear n_
      have n_ := zaa.mk (zae hb YH.out); clear YH; have YH := n_; clear n_
      have n_ := zaa.mk (zae hb YG.out); clear YG; have YG := n_; clear n_
      have n_ := zaa.mk (Kd.C_below HR1.out hb); clear HR1; have HR1 := n_; clear n_
      have n_ := zaa.mk (zae hb Y7.out); clear Y7; have Y7 := n_; clear n_
      have n_ := zaa.mk (Kd.C_below HR3.out hb); clear HR3; have HR3 := n_; clear n_
      have n_ := zaa.mk (zae hb Y23.out); clear Y23; have Y23 := n_; clear n_
      have HBk := zaa.mk hk
      clear hk hK K hb
      refine turnB_ (by kernel_rfl) hHeld ?_
      clear hHeld
      generalize x4.heap.size = bk at *
      have hHeld := Below.refl x5.heap.size x5
      refine norm_ (a' := ?_) ?_ ?_
      rotate_left
      ·show Act.put _ (some 8) _ = _
       simp only [Act.put, List.setIfInBounds_toArray, List.set_cons_zero, List.set_cons_succ, zat, zau]
       rfl
      refine norm_ ?_ (HFin.out [?v5_0, ?v5_1, ?v5_2, ?v5_3, ?v5_4, ?v5_5, ?v5_6, ?v5_7, ?v5_8, ?v5_9, ?v5_10, ?v5_11, ?v5_12, ?v5_13] _ ?_)
      ·show _ = putAll _ _
       simp only [putAll, Act.put, List.setIfInBounds_toArray, List.set_cons_zero, List.set_cons_succ, List.getD_cons_zero, List.getD_cons_succ]
       rfl
      ·exact ⟨bk, P0, P7, PH, P23, u0, u7, uH, u23, rfl, rfl, HBk.out, HBs.out, HR0.out, HR1.out, HR2.out, HR3.out, HB.out⟩
     ·refine valO_step (by rfl) (v := .pointer (some ⟨x3.heap.size, 0, none⟩)) (w1 := x3.alloc (.cells #[.slice none 0 0, .slice none 0 0, .slice none 0 0, .slice none 0 0] 61)) (by go_simp) ?_
      have hb := zac (Below.refl x3.heap.size x3) (.cells #[.slice none 0 0, .slice none 0 0, .slice none 0 0, .slice none 0 0] 61)
      have hk := heap_alloc_new x3 (.cells #[.slice none 0 0, .slice none 0 0, .slice none 0 0, .slice none 0 0] 61)
      have HBs := zaa.mk (show w8.heap.size ≤ x3.heap.size from HB.out.size)
      generalize x3.alloc (.cells #[.slice none 0 0, .slice none 0 0, .slice none 0 0, .slice none 0 0] 61) = x6 at *
      refine hK.out _ _ hb (fun hHeld => ?_)
      have n_ := zaa.mk (HF.out.below hb); clear HF; have HF := n_; clear n_
      have n_ := zaa.mk (zah HB.out hb); clear HB; have HB := n_; clear n_
      have n_ := zaa.mk (Kd.C_below HR0.out hb); clear HR0; have HR0 := n_; clear n_
      have n_ := zaa.mk (Kd.C_below HR2.out hb); clear HR2; have HR2 := n_; clear n_
      have n_ := zaa.mk (zae hb Y0.out); clear Y0; have Y0 := n_; clear n_
      have n_ := zaa.mk (zae hb YH.out); clear YH; have YH := n_; clear n_
      have n_ := zaa.mk (zae hb YG.out); clear YG; have YG := n_; clear n_
      have n_ := zaa.mk (Kd.C_below HR1.out hb); clear HR1; have HR1 := n_; clear n_
      have n_ := zaa.mk (zae hb Y7.out); clear Y7; have Y7 := n_; clear n_
      have HBk := zaa.mk hk
      clear hk hK K hb
      refine turnB_ (by kernel_rfl) hHeld ?_
      clear hHeld
      generalize x3.heap.size = bk at *
      have hHeld := Below.refl x6.heap.size x6
      refine norm_ (a' := ?_) ?_ ?_
      rotate_left
      ·show Act.put _ (some 8) _ = _
       simp only [Act.put, List.setIfInBounds_toArray, List.set_cons_zero, List.set_cons_succ, zat, zau]
       rfl
      refine one_ (i := 23) (N := some 47) #[true, true, true, true, true, true, true, true, true, true, true, true, true, true, true, true, true, true, true, true, true, true, true, true, false, false, false, true, false] rfl rfl (by kernel_rfl) (by decide) (fun K hK => ?_)
      refine goes_ Try.func50 (by kernel_rfl) rfl #[.pointer (some ⟨g, 0, none⟩)] (by rfl) rfl rfl (by (try simp only [List.map_toArray, List.map_cons, List.map_nil]); first | done | rfl) ?_
      refine (crossed_calls g cs rs _ HK.out HF.out).mono ?_
      rintro e x7 ⟨A23, q23, rfl, hl, hC, hb⟩
      obtain ⟨ad23, P23, u23, ea, y23, hu, hr⟩ := C_row hC 0 s3 HX3.out
      subst ea
      rw [Addr.add_zero'] at y23
      have Y23 := zaa.mk y23
      clear hl hC hu y23
      refine ⟨_, rfl, ?_⟩
      refine hK.out _ _ hb (fun hHeld => ?_)
      have n_ := zaa.mk (HF.out.below hb); clear HF; have HF := n_; clear n_
      have n_ := zaa.mk (zah HB.out hb); clear HB; have HB := n_; clear n_
      have n_ := zaa.mk (Kd.C_below HR0.out hb); clear HR0; have HR0 := n_; clear n_
      have n_ := zaa.mk (Kd.C_below HR2.out hb); clear HR2; have HR2 := n_; clear n_
      have n_ := zaa.mk (zae hb Y0.out); clear Y0; have Y0 := n_; clear n_
      have n_ := zaa.mk (zae hb YH.out); clear YH; have YH := n_; clear n_
      have n_ := zaa.mk (zae hb YG.out); clear YG; have YG := n_; clear n_
      have n_ := zaa.mk (Kd.C_below HR1.out hb); clear HR1; have HR1 := n_; clear n_
      have n_ := zaa.mk (zae hb Y7.out); clear Y7; have Y7 := n_; clear n_
      have n_ := zaa.mk ((hb.block _ (zco HBk.out)).trans HBk.out); clear HBk; have HBk := n_; clear n_
      clear hK K hb
      refine turnB_ (by kernel_rfl) hHeld ?_
      clear hHeld
      have HR3 := zaa.mk hr
      clear hr
      have hHeld := Below.refl x7.heap.size x7
      refine norm_ (a' := ?_) ?_ ?_
      rotate_left
      ·show Act.put _ (some 47) _ = _
       simp only [Act.put, List.setIfInBounds_toArray, List.set_cons_zero, List.set_cons_succ, zat, zau]
       rfl
      refine zbd (i := 24) (N := some 48) (v := ?_) (a' := ?_) #[true, true, true, true, true, true, true, true, true, true, true, true, true, true, true, true, true, true, true, true, true, true, true, true, true, false, false, true, false] rfl rfl (by kernel_rfl) (fun _ _ _ h => h) (Or.inl ⟨by rfl, ?_⟩) ?_ ?_
      rotate_left
      ·intro w'
       go_simp
       with_reducible rfl
      rotate_left
      ·simp only [Act.put, List.setIfInBounds_toArray, List.set_cons_zero, List.set_cons_succ, zat, zau]
       rfl
      refine take_ (i := 25) (N := some 49) (v := ?_) (a' := ?_) #[true, true, true, true, true, true, true, true, true, true, true, true, true, true, true, true, true, true, true, true, true, true, true, true, true, true, false, true, false] rfl rfl (by kernel_rfl) (fun _ _ _ h => h) (Or.inl ⟨by rfl, ?_⟩) hHeld ?_ ?_
      rotate_left
      ·intro w' s0
       have s1 := zae s0 Y23.out
       clear s0
       go_simp
       with_reducible rfl
      rotate_left
      ·simp only [Act.put, List.setIfInBounds_toArray, List.set_cons_zero, List.set_cons_succ, zat, zau]
       rfl
      refine zbd (i := 26) (N := some 50) (v := ?_) (a' := ?_) #[true, true, true, true, true, true, true, true, true, true, true, true, true, true, true, true, true, true, true, true, true, true, true, true, true, true, true, true, false] rfl rfl (by kernel_rfl) (fun _ _ _ h => h) (Or.inl ⟨by rfl, ?_⟩) ?_ ?_
      rotate_left
      ·intro w'
       go_simp
       with_reducible rfl
      rotate_left
      ·simp only [Act.put, List.setIfInBounds_toArray, List.set_cons_zero, List.set_cons_succ, zat, zau]
       rfl
      refine norm_ ?_ (HFin.out [?v7_0, ?v7_1, ?v7_2, ?v7_3, ?v7_4, ?v7_5, ?v7_6, ?v7_7, ?v7_8, ?v7_9, ?v7_10, ?v7_11, ?v7_12, ?v7_13] _ ?_)
      ·show _ = putAll _ _
       simp only [putAll, Act.put, List.setIfInBounds_toArray, List.set_cons_zero, List.set_cons_succ, List.getD_cons_zero, List.getD_cons_succ]
       rfl
      ·exact ⟨bk, P0, P7, PH, P23, u0, u7, uH, u23, rfl, rfl, HBk.out, HBs.out, HR0.out, HR1.out, HR2.out, HR3.out, HB.out⟩
    ·refine valO_step (by rfl) (v := .pointer (some ⟨x2.heap.size, 0, none⟩)) (w1 := x2.alloc (.cells #[.slice none 0 0, .slice none 0 0, .slice none 0 0, .slice none 0 0] 61)) (by go_simp) ?_
     have hb := zac (Below.refl x2.heap.size x2) (.cells #[.slice none 0 0, .slice none 0 0, .slice none 0 0, .slice none 0 0] 61)
     have hk := heap_alloc_new x2 (.cells #[.slice none 0 0, .slice none 0 0, .slice none 0 0, .slice none 0 0] 61)
     have HBs := zaa.mk (show w8.heap.size ≤ x2.heap.size from HB.out.size)
     generalize x2.alloc (.cells #[.slice none 0 0, .slice none 0 0, .slice none 0 0, .slice none 0 0] 61) = x8 at *
     refine hK.out _ _ hb (fun hHeld => ?_)
     have n_ := zaa.mk (HF.out.below hb); clear HF; have HF := n_; clear n_
     have n_ := zaa.mk (zah HB.out hb); clear HB; have HB := n_; clear n_
     have n_ := zaa.mk (Kd.C_below HR0.out hb); clear HR0; have HR0 := n_; clear n_
     have n_ := zaa.mk (Kd.C_below HR2.out hb); clear HR2; have HR2 := n_; clear n_
     have n_ := zaa.mk (zae hb Y0.out); clear Y0; have Y0 := n_; clear n_
     have n_ := zaa.mk (zae hb YH.out); clear YH; have YH := n_; clear n_
     have n_ := zaa.mk (zae hb YG.out); clear YG; have YG := n_; clear n_
     have n_ := zaa.mk (Kd.C_below HR1.out hb); clear HR1; have HR1 := n_; clear n_
     have n_ := zaa.mk (zae hb Y7.out); clear Y7; have Y7 := n_; clear n_
     have HBk := zaa.mk hk
     clear hk hK K hb
     refine turnB_ (by kernel_rfl) hHeld ?_
     clear hHeld
     generalize x2.heap.size = bk at *
     have hHeld := Below.refl x8.heap.size x8
     refine norm_ (a' := ?_) ?_ ?_
     rotate_left
     ·show Act.put _ (some 8) _ = _
      simp only [Act.put, List.setIfInBounds_toArray, List.set_cons_zero, List.set_cons_succ, zat, zau]
      rfl
     refine one_ (i := 18) (N := some 42) #[true, true, true, true, true, true, true, true, true, true, true, true, true, true, true, true, true, true, true, false, false, false, true, false, false, false, false, true, false] rfl rfl (by kernel_rfl) (by decide) (fun K hK => ?_)
     refine goes_ Try.func52 (by kernel_rfl) rfl #[.pointer (some ⟨g, 0, none⟩)] (by rfl) rfl rfl (by (try simp only [List.map_toArray, List.map_cons, List.map_nil]); first | done | rfl) ?_
     refine (impl_floor_high.calls g cs rs _ _ _ HF.out (Below.refl _ _) H1.out).mono ?_
     rintro e x9 ⟨rfl, -, hb, -⟩
     refine ⟨_, rfl, ?_⟩
     refine hK.out _ _ hb (fun hHeld => ?_)
     have n_ := zaa.mk (HF.out.below hb); clear HF; have HF := n_; clear n_
     have n_ := zaa.mk (zah HB.out hb); clear HB; have HB := n_; clear n_
     have n_ := zaa.mk (Kd.C_below HR0.out hb); clear HR0; have HR0 := n_; clear n_
     have n_ := zaa.mk (Kd.C_below HR2.out hb); clear HR2; have HR2 := n_; clear n_
     have n_ := zaa.mk (zae hb Y0.out); clear Y0; have Y0 := n_; clear n_
     have n_ := zaa.mk (zae hb YH.out); clear YH; have YH := n_; clear n_
     have n_ := zaa.mk (zae hb YG.out); clear YG; have YG := n_; clear n_
     have n_ := zaa.mk (Kd.C_below HR1.out hb); clear HR1; have HR1 := n_; clear n_
     have n_ := zaa.mk (zae hb Y7.out); clear Y7; have Y7 := n_; clear n_
     have n_ := zaa.mk ((hb.block _ (zco HBk.out)).trans HBk.out); clear HBk; have HBk := n_; clear n_
     clear hK K hb
     refine turnB_ (by kernel_rfl) hHeld ?_
     clear hHeld
     have hHeld := Below.refl x9.heap.size x9
     refine norm_ (a' := ?_) ?_ ?_
     rotate_left
     ·show Act.put _ (some 42) _ = _
      simp only [Act.put, List.setIfInBounds_toArray, List.set_cons_zero, List.set_cons_succ, zat, zau]
      rfl
     refine zbd (i := 19) (N := some 43) (v := ?_) (a' := ?_) #[true, true, true, true, true, true, true, true, true, true, true, true, true, true, true, true, true, true, true, true, false, false, true, false, false, false, false, true, false] rfl rfl (by kernel_rfl) (fun _ _ _ h => h) (Or.inl ⟨by rfl, ?_⟩) ?_ ?_
     rotate_left
     ·intro w'
      go_simp
      with_reducible rfl
     rotate_left
     ·simp only [Act.put, List.setIfInBounds_toArray, List.set_cons_zero, List.set_cons_succ, zat, zau]
      rfl
     refine zbd (i := 20) (N := some 44) (v := ?_) (a' := ?_) #[true, true, true, true, true, true, true, true, true, true, true, true, true, true, true, true, true, true, true, true, true, false, true, false, false, false, false, true, false] rfl rfl (by kernel_rfl) (fun _ _ _ h => h) (Or.inl ⟨by rfl, ?_⟩) ?_ ?_
     rotate_left
     ·intro w'
      go_simp
      with_reducible rfl
     rotate_left
     ·simp only [Act.put, List.setIfInBounds_toArray, List.set_cons_zero, List.set_cons_succ, zat, zau]
      rfl
     refine take_ (i := 21) (N := some 45) (v := ?_) (a' := ?_) #[true, true, true, true, true, true, true, true, true, true, true, true, true, true, true, true, true, true, true, true, true, true, true, false, false, false, false, true, false] rfl rfl (by kernel_rfl) (fun _ _ _ h => h) (Or.inl ⟨by rfl, ?_⟩) hHeld ?_ ?_
     rotate_left
     ·intro w' s0
      have s1 := zae s0 YH.out
      clear s0
      go_simp
      with_reducible rfl
     rotate_left
     ·simp only [Act.put, List.setIfInBounds_toArray, List.set_cons_zero, List.set_cons_succ, zat, zau]
      rfl
     refine one_ (i := 23) (N := some 47) #[true, true, true, true, true, true, true, true, true, true, true, true, true, true, true, true, true, true, true, true, true, true, true, true, false, false, false, true, false] rfl rfl (by kernel_rfl) (by decide) (fun K hK => ?_)
     refine goes_ Try.func50 (by kernel_rfl) rfl #[.pointer (some ⟨g, 0, none⟩)] (by rfl) rfl rfl (by (try simp only [List.map_toArray, List.map_cons, List.map_nil]); first | done | rfl) ?_
     refine (crossed_calls g cs rs _ HK.out HF.out).mono ?_
     rintro e x10 ⟨A23, q23, rfl, hl, hC, hb⟩
     obtain ⟨ad23, P23, u23, ea, y23, hu, hr⟩ := C_row hC 0 s3 HX3.out
     subst ea
     rw [Addr.add_zero'] at y23
     have Y23 := zaa.mk y23
     clear hl hC hu y23
     refine ⟨_, rfl, ?_⟩
     refine hK.out _ _ hb (fun hHeld => ?_)
     have n_ := zaa.mk (HF.out.below hb); clear HF; have HF := n_; clear n_
     have n_ := zaa.mk (zah HB.out hb); clear HB; have HB := n_; clear n_
     have n_ := zaa.mk (Kd.C_below HR0.out hb); clear HR0; have HR0 := n_; clear n_
     have n_ := zaa.mk (Kd.C_below HR2.out hb); clear HR2; have HR2 := n_; clear n_
     have n_ := zaa.mk (zae hb Y0.out); clear Y0; have Y0 := n_; clear n_
     have n_ := zaa.mk (zae hb YH.out); clear YH; have YH := n_; clear n_
     have n_ := zaa.mk (zae hb YG.out); clear YG; have YG := n_; clear n_
     have n_ := zaa.mk (Kd.C_below HR1.out hb); clear HR1; have HR1 := n_; clear n_
     have n_ := zaa.mk (zae hb Y7.out); clear Y7; have Y7 := n_; clear n_
     have n_ := zaa.mk ((hb.block _ (zco HBk.out)).trans HBk.out); clear HBk; have HBk := n_; clear n_
     clear hK K hb
     refine turnB_ (by kernel_rfl) hHeld ?_
     clear hHeld
     have HR3 := zaa.mk hr
     clear hr
     have hHeld := Below.refl x10.heap.size x10
     refine norm_ (a' := ?_) ?_ ?_
     rotate_left
     ·show Act.put _ (some 47) _ = _
      simp only [Act.put, List.setIfInBounds_toArray, List.set_cons_zero, List.set_cons_succ, zat, zau]
      rfl
     refine zbd (i := 24) (N := some 48) (v := ?_) (a' := ?_) #[true, true, true, true, true, true, true, true, true, true, true, true, true, true, true, true, true, true, true, true, true, true, true, true, true, false, false, true, false] rfl rfl (by kernel_rfl) (fun _ _ _ h => h) (Or.inl ⟨by rfl, ?_⟩) ?_ ?_
     rotate_left
     ·intro w'
      go_simp
      with_reducible rfl
     rotate_left
     ·simp only [Act.put, List.setIfInBounds_toArray, List.set_cons_zero, List.set_cons_succ, zat, zau]
      rfl
     refine take_ (i := 25) (N := some 49) (v := ?_) (a' := ?_) #[true, true, true, true, true, true, true, true, true, true, true, true, true, true, true, true, true, true, true, true, true, true, true, true, true, true, false, true, false] rfl rfl (by kernel_rfl) (fun _ _ _ h => h) (Or.inl ⟨by rfl, ?_⟩) hHeld ?_ ?_
     rotate_left
     ·intro w' s0
      have s1 := zae s0 Y23.out
      clear s0
      go_simp
      with_reducible rfl
     rotate_left
     ·simp only [Act.put, List.setIfInBounds_toArray, List.set_cons_zero, List.set_cons_succ, zat, zau]
      rfl
     refine zbd (i := 26) (N := some 50) (v := ?_) (a' := ?_) #[true, true, true, true, true, true, true, true, true, true, true, true, true, true, true, true, true, true, true, true, true, true, true, true, true, true, true, true, false] rfl rfl (by kernel_rfl) (fun _ _ _ h => h) (Or.inl ⟨by rfl, ?_⟩) ?_ ?_
     rotate_left
     ·intro w'
      go_simp
      with_reducible rfl
     rotate_left
     ·simp only [Act.put, List.setIfInBounds_toArray, List.set_cons_zero, List.set_cons_succ, zat, zau]
      rfl
     refine norm_ ?_ (HFin.out [?v10_0, ?v10_1, ?v10_2, ?v10_3, ?v10_4, ?v10_5, ?v10_6, ?v10_7, ?v10_8, ?v10_9, ?v10_10, ?v10_11, ?v10_12, ?v10_13] _ ?_)
     ·show _ = putAll _ _
      simp only [putAll, Act.put, List.setIfInBounds_toArray, List.set_cons_zero, List.set_cons_succ, List.getD_cons_zero, List.getD_cons_succ]
      rfl
     ·exact ⟨bk, P0, P7, PH, P23, u0, u7, uH, u23, rfl, rfl, HBk.out, HBs.out, HR0.out, HR1.out, HR2.out, HR3.out, HB.out⟩
   ·refine valO_step (by rfl) (v := .pointer (some ⟨x1.heap.size, 0, none⟩)) (w1 := x1.alloc (.cells #[.slice none 0 0, .slice none 0 0, .slice none 0 0, .slice none 0 0] 61)) (by go_simp) ?_
    have hb := zac (Below.refl x1.heap.size x1) (.cells #[.slice none 0 0, .slice none 0 0, .slice none 0 0, .slice none 0 0] 61)
    have hk := heap_alloc_new x1 (.cells #[.slice none 0 0, .slice none 0 0, .slice none 0 0, .slice none 0 0] 61)
    have HBs := zaa.mk (show w8.heap.size ≤ x1.heap.size from HB.out.size)
    generalize x1.alloc (.cells #[.slice none 0 0, .slice none 0 0, .slice none 0 0, .slice none 0 0] 61) = x11 at *
    refine hK.out _ _ hb (fun hHeld => ?_)
    have n_ := zaa.mk (HF.out.below hb); clear HF; have HF := n_; clear n_
    have n_ := zaa.mk (zah HB.out hb); clear HB; have HB := n_; clear n_
    have n_ := zaa.mk (Kd.C_below HR0.out hb); clear HR0; have HR0 := n_; clear n_
    have n_ := zaa.mk (Kd.C_below HR2.out hb); clear HR2; have HR2 := n_; clear n_
    have n_ := zaa.mk (zae hb Y0.out); clear Y0; have Y0 := n_; clear n_
    have n_ := zaa.mk (zae hb YH.out); clear YH; have YH := n_; clear n_
    have n_ := zaa.mk (zae hb YG.out); clear YG; have YG := n_; clear n_
    have n_ := zaa.mk (Kd.C_below HR1.out hb); clear HR1; have HR1 := n_; clear n_
    have n_ := zaa.mk (zae hb Y7.out); clear Y7; have Y7 := n_; clear n_
    have HBk := zaa.mk hk
    clear hk hK K hb
    refine turnB_ (by kernel_rfl) hHeld ?_
    clear hHeld
    generalize x1.heap.size = bk at *
    have hHeld := Below.refl x11.heap.size x11
    refine norm_ (a' := ?_) ?_ ?_
    rotate_left
    ·show Act.put _ (some 8) _ = _
     simp only [Act.put, List.setIfInBounds_toArray, List.set_cons_zero, List.set_cons_succ, zat, zau]
     rfl
    refine one_ (i := 9) (N := some 33) #[true, true, true, true, true, true, true, true, true, true, false, false, false, true, true, true, true, true, false, false, false, false, true, false, false, false, false, true, false] rfl rfl (by kernel_rfl) (by decide) (fun K hK => ?_)
    refine goes_ Try.func51 (by kernel_rfl) rfl #[.pointer (some ⟨g, 0, none⟩)] (by rfl) rfl rfl (by (try simp only [List.map_toArray, List.map_cons, List.map_nil]); first | done | rfl) ?_
    refine (impl_floor_wide.calls g cs rs _ _ _ HF.out (Below.refl _ _) W1.out).mono ?_
    rintro e x12 ⟨rfl, -, hb, -⟩
    refine ⟨_, rfl, ?_⟩
    refine hK.out _ _ hb (fun hHeld => ?_)
    have n_ := zaa.mk (HF.out.below hb); clear HF; have HF := n_; clear n_
    have n_ := zaa.mk (zah HB.out hb); clear HB; have HB := n_; clear n_
    have n_ := zaa.mk (Kd.C_below HR0.out hb); clear HR0; have HR0 := n_; clear n_
    have n_ := zaa.mk (Kd.C_below HR2.out hb); clear HR2; have HR2 := n_; clear n_
    have n_ := zaa.mk (zae hb Y0.out); clear Y0; have Y0 := n_; clear n_
    have n_ := zaa.mk (zae hb YH.out); clear YH; have YH := n_; clear n_
    have n_ := zaa.mk (zae hb YG.out); clear YG; have YG := n_; clear n_
    have n_ := zaa.mk (Kd.C_below HR1.out hb); clear HR1; have HR1 := n_; clear n_
    have n_ := zaa.mk (zae hb Y7.out); clear Y7; have Y7 := n_; clear n_
    have n_ := zaa.mk ((hb.block _ (zco HBk.out)).trans HBk.out); clear HBk; have HBk := n_; clear n_
    clear hK K hb
    refine turnB_ (by kernel_rfl) hHeld ?_
    clear hHeld
    have hHeld := Below.refl x12.heap.size x12
    refine norm_ (a' := ?_) ?_ ?_
    rotate_left
    ·show Act.put _ (some 33) _ = _
     simp only [Act.put, List.setIfInBounds_toArray, List.set_cons_zero, List.set_cons_succ, zat, zau]
     rfl
    refine zbd (i := 10) (N := some 34) (v := ?_) (a' := ?_) #[true, true, true, true, true, true, true, true, true, true, true, false, false, true, true, true, true, true, false, false, false, false, true, false, false, false, false, true, false] rfl rfl (by kernel_rfl) (fun _ _ _ h => h) (Or.inl ⟨by rfl, ?_⟩) ?_ ?_
    rotate_left
    ·intro w'
     go_simp
     with_reducible rfl
    rotate_left
    ·simp only [Act.put, List.setIfInBounds_toArray, List.set_cons_zero, List.set_cons_succ, zat, zau]
     rfl
    refine zbd (i := 11) (N := some 35) (v := ?_) (a' := ?_) #[true, true, true, true, true, true, true, true, true, true, true, true, false, true, true, true, true, true, false, false, false, false, true, false, false, false, false, true, false] rfl rfl (by kernel_rfl) (fun _ _ _ h => h) (Or.inl ⟨by rfl, ?_⟩) ?_ ?_
    rotate_left
    ·intro w'
     go_simp
     with_reducible rfl
    rotate_left
    ·simp only [Act.put, List.setIfInBounds_toArray, List.set_cons_zero, List.set_cons_succ, zat, zau]
     rfl
    refine take_ (i := 12) (N := some 36) (v := ?_) (a' := ?_) #[true, true, true, true, true, true, true, true, true, true, true, true, true, true, true, true, true, true, false, false, false, false, true, false, false, false, false, true, false] rfl rfl (by kernel_rfl) (fun _ _ _ h => h) (Or.inl ⟨by rfl, ?_⟩) hHeld ?_ ?_
    rotate_left
    ·intro w' s0
     have s1 := zae s0 Y7.out
     clear s0
     go_simp
     with_reducible rfl
    rotate_left
    ·simp only [Act.put, List.setIfInBounds_toArray, List.set_cons_zero, List.set_cons_succ, zat, zau]
     rfl
    refine one_ (i := 18) (N := some 42) #[true, true, true, true, true, true, true, true, true, true, true, true, true, true, true, true, true, true, true, false, false, false, true, false, false, false, false, true, false] rfl rfl (by kernel_rfl) (by decide) (fun K hK => ?_)
    refine goes_ Try.func52 (by kernel_rfl) rfl #[.pointer (some ⟨g, 0, none⟩)] (by rfl) rfl rfl (by (try simp only [List.map_toArray, List.map_cons, List.map_nil]); first | done | rfl) ?_
    refine (impl_floor_high.calls g cs rs _ _ _ HF.out (Below.refl _ _) H1.out).mono ?_
    rintro e x13 ⟨rfl, -, hb, -⟩
    refine ⟨_, rfl, ?_⟩
    refine hK.out _ _ hb (fun hHeld => ?_)
    have n_ := zaa.mk (HF.out.below hb); clear HF; have HF := n_; clear n_
    have n_ := zaa.mk (zah HB.out hb); clear HB; have HB := n_; clear n_
    have n_ := zaa.mk (Kd.C_below HR0.out hb); clear HR0; have HR0 := n_; clear n_
    have n_ := zaa.mk (Kd.C_below HR2.out hb); clear HR2; have HR2 := n_; clear n_
    have n_ := zaa.mk (zae hb Y0.out); clear Y0; have Y0 := n_; clear n_
    have n_ := zaa.mk (zae hb YH.out); clear YH; have YH := n_; clear n_
    have n_ := zaa.mk (zae hb YG.out); clear YG; have YG := n_; clear n_
    have n_ := zaa.mk (Kd.C_below HR1.out hb); clear HR1; have HR1 := n_; clear n_
    have n_ := zaa.mk (zae hb Y7.out); clear Y7; have Y7 := n_; clear n_
    have n_ := zaa.mk ((hb.block _ (zco HBk.out)).trans HBk.out); clear HBk; have HBk := n_; clear n_
    clear hK K hb
    refine turnB_ (by kernel_rfl) hHeld ?_
    clear hHeld
    have hHeld := Below.refl x13.heap.size x13
    refine norm_ (a' := ?_) ?_ ?_
    rotate_left
    ·show Act.put _ (some 42) _ = _
     simp only [Act.put, List.setIfInBounds_toArray, List.set_cons_zero, List.set_cons_succ, zat, zau]
     rfl
    refine zbd (i := 19) (N := some 43) (v := ?_) (a' := ?_) #[true, true, true, true, true, true, true, true, true, true, true, true, true, true, true, true, true, true, true, true, false, false, true, false, false, false, false, true, false] rfl rfl (by kernel_rfl) (fun _ _ _ h => h) (Or.inl ⟨by rfl, ?_⟩) ?_ ?_
    rotate_left
    ·intro w'
     go_simp
     with_reducible rfl
    rotate_left
    ·simp only [Act.put, List.setIfInBounds_toArray, List.set_cons_zero, List.set_cons_succ, zat, zau]
     rfl
    refine zbd (i := 20) (N := some 44) (v := ?_) (a' := ?_) #[true, true, true, true, true, true, true, true, true, true, true, true, true, true, true, true, true, true, true, true, true, false, true, false, false, false, false, true, false] rfl rfl (by kernel_rfl) (fun _ _ _ h => h) (Or.inl ⟨by rfl, ?_⟩) ?_ ?_
    rotate_left
    ·intro w'
     go_simp
     with_reducible rfl
    rotate_left
    ·simp only [Act.put, List.setIfInBounds_toArray, List.set_cons_zero, List.set_cons_succ, zat, zau]
     rfl
    refine take_ (i := 21) (N := some 45) (v := ?_) (a' := ?_) #[true, true, true, true, true, true, true, true, true, true, true, true, true, true, true, true, true, true, true, true, true, true, true, false, false, false, false, true, false] rfl rfl (by kernel_rfl) (fun _ _ _ h => h) (Or.inl ⟨by rfl, ?_⟩) hHeld ?_ ?_
    rotate_left
    ·intro w' s0
     have s1 := zae s0 YH.out
     clear s0
     go_simp
     with_reducible rfl
    rotate_left
    ·simp only [Act.put, List.setIfInBounds_toArray, List.set_cons_zero, List.set_cons_succ, zat, zau]
     rfl
    refine one_ (i := 23) (N := some 47) #[true, true, true, true, true, true, true, true, true, true, true, true, true, true, true, true, true, true, true, true, true, true, true, true, false, false, false, true, false] rfl rfl (by kernel_rfl) (by decide) (fun K hK => ?_)
    refine goes_ Try.func50 (by kernel_rfl) rfl #[.pointer (some ⟨g, 0, none⟩)] (by rfl) rfl rfl (by (try simp only [List.map_toArray, List.map_cons, List.map_nil]); first | done | rfl) ?_
    refine (crossed_calls g cs rs _ HK.out HF.out).mono ?_
    rintro e x14 ⟨A23, q23, rfl, hl, hC, hb⟩
    obtain ⟨ad23, P23, u23, ea, y23, hu, hr⟩ := C_row hC 0 s3 HX3.out
    subst ea
    rw [Addr.add_zero'] at y23
    have Y23 := zaa.mk y23
    clear hl hC hu y23
    refine ⟨_, rfl, ?_⟩
    refine hK.out _ _ hb (fun hHeld => ?_)
    have n_ := zaa.mk (HF.out.below hb); clear HF; have HF := n_; clear n_
    have n_ := zaa.mk (zah HB.out hb); clear HB; have HB := n_; clear n_
    have n_ := zaa.mk (Kd.C_below HR0.out hb); clear HR0; have HR0 := n_; clear n_
    have n_ := zaa.mk (Kd.C_below HR2.out hb); clear HR2; have HR2 := n_; clear n_
    have n_ := zaa.mk (zae hb Y0.out); clear Y0; have Y0 := n_; clear n_
    have n_ := zaa.mk (zae hb YH.out); clear YH; have YH := n_; clear n_
    have n_ := zaa.mk (zae hb YG.out); clear YG; have YG := n_; clear n_
    have n_ := zaa.mk (Kd.C_below HR1.out hb); clear HR1; have HR1 := n_; clear n_
    have n_ := zaa.mk (zae hb Y7.out); clear Y7; have Y7 := n_; clear n_
    have n_ := zaa.mk ((hb.block _ (zco HBk.out)).trans HBk.out); clear HBk; have HBk := n_; clear n_
    clear hK K hb
    refine turnB_ (by kernel_rfl) hHeld ?_
    clear hHeld
    have HR3 := zaa.mk hr
    clear hr
    have hHeld := Below.refl x14.heap.size x14
    refine norm_ (a' := ?_) ?_ ?_
    rotate_left
    ·show Act.put _ (some 47) _ = _
     simp only [Act.put, List.setIfInBounds_toArray, List.set_cons_zero, List.set_cons_succ, zat, zau]
     rfl
    refine zbd (i := 24) (N := some 48) (v := ?_) (a' := ?_) #[true, true, true, true, true, true, true, true, true, true, true, true, true, true, true, true, true, true, true, true, true, true, true, true, true, false, false, true, false] rfl rfl (by kernel_rfl) (fun _ _ _ h => h) (Or.inl ⟨by rfl, ?_⟩) ?_ ?_
    rotate_left
    ·intro w'
     go_simp
     with_reducible rfl
    rotate_left
    ·simp only [Act.put, List.setIfInBounds_toArray, List.set_cons_zero, List.set_cons_succ, zat, zau]
     rfl
    refine take_ (i := 25) (N := some 49) (v := ?_) (a' := ?_) #[true, true, true, true, true, true, true, true, true, true, true, true, true, true, true, true, true, true, true, true, true, true, true, true, true, true, false, true, false] rfl rfl (by kernel_rfl) (fun _ _ _ h => h) (Or.inl ⟨by rfl, ?_⟩) hHeld ?_ ?_
    rotate_left
    ·intro w' s0
     have s1 := zae s0 Y23.out
     clear s0
     go_simp
     with_reducible rfl
    rotate_left
    ·simp only [Act.put, List.setIfInBounds_toArray, List.set_cons_zero, List.set_cons_succ, zat, zau]
     rfl
    refine zbd (i := 26) (N := some 50) (v := ?_) (a' := ?_) #[true, true, true, true, true, true, true, true, true, true, true, true, true, true, true, true, true, true, true, true, true, true, true, true, true, true, true, true, false] rfl rfl (by kernel_rfl) (fun _ _ _ h => h) (Or.inl ⟨by rfl, ?_⟩) ?_ ?_
    rotate_left
    ·intro w'
     go_simp
     with_reducible rfl
    rotate_left
    ·simp only [Act.put, List.setIfInBounds_toArray, List.set_cons_zero, List.set_cons_succ, zat, zau]
     rfl
    refine norm_ ?_ (HFin.out [?v14_0, ?v14_1, ?v14_2, ?v14_3, ?v14_4, ?v14_5, ?v14_6, ?v14_7, ?v14_8, ?v14_9, ?v14_10, ?v14_11, ?v14_12, ?v14_13] _ ?_)
    ·show _ = putAll _ _
     simp only [putAll, Act.put, List.setIfInBounds_toArray, List.set_cons_zero, List.set_cons_succ, List.getD_cons_zero, List.getD_cons_succ]
     rfl
    ·exact ⟨bk, P0, P7, PH, P23, u0, u7, uH, u23, rfl, rfl, HBk.out, HBs.out, HR0.out, HR1.out, HR2.out, HR3.out, HB.out⟩
  ·refine valO_step (by rfl) (v := .pointer (some ⟨wd.heap.size, 0, none⟩)) (w1 := wd.alloc (.cells #[.slice none 0 0, .slice none 0 0, .slice none 0 0, .slice none 0 0] 61)) (by go_simp) ?_
   have hb := zac (Below.refl wd.heap.size wd) (.cells #[.slice none 0 0, .slice none 0 0, .slice none 0 0, .slice none 0 0] 61)
   have hk := heap_alloc_new wd (.cells #[.slice none 0 0, .slice none 0 0, .slice none 0 0, .slice none 0 0] 61)
   have HBs := zaa.mk (show w8.heap.size ≤ wd.heap.size from HB.out.size)
   generalize wd.alloc (.cells #[.slice none 0 0, .slice none 0 0, .slice none 0 0, .slice none 0 0] 61) = x15 at *
   refine hK.out _ _ hb (fun hHeld => ?_)
   have n_ := zaa.mk (HF.out.below hb); clear HF; have HF := n_; clear n_
   have n_ := zaa.mk (zah HB.out hb); clear HB; have HB := n_; clear n_
   have n_ := zaa.mk (Kd.C_below HR0.out hb); clear HR0; have HR0 := n_; clear n_
   have n_ := zaa.mk (Kd.C_below HR2.out hb); clear HR2; have HR2 := n_; clear n_
   have n_ := zaa.mk (zae hb Y0.out); clear Y0; have Y0 := n_; clear n_
   have n_ := zaa.mk (zae hb YH.out); clear YH; have YH := n_; clear n_
   have n_ := zaa.mk (zae hb YG.out); clear YG; have YG := n_; clear n_
   have HBk := zaa.mk hk
   clear hk hK K hb
   refine turnB_ (by kernel_rfl) hHeld ?_
   clear hHeld
   generalize wd.heap.size = bk at *
   have hHeld := Below.refl x15.heap.size x15
   refine norm_ (a' := ?_) ?_ ?_
   rotate_left
   ·show Act.put _ (some 8) _ = _
    simp only [Act.put, List.setIfInBounds_toArray, List.set_cons_zero, List.set_cons_succ, zat, zau]
    rfl
   refine one_ (i := 7) (N := some 31) #[true, true, true, true, true, true, true, true, true, false, false, false, false, true, true, true, true, true, false, false, false, false, true, false, false, false, false, true, false] rfl rfl (by kernel_rfl) (by decide) (fun K hK => ?_)
   refine goes_ Try.func50 (by kernel_rfl) rfl #[.pointer (some ⟨g, 0, none⟩)] (by rfl) rfl rfl (by (try simp only [List.map_toArray, List.map_cons, List.map_nil]); first | done | rfl) ?_
   refine (crossed_calls g cs rs _ HK.out HF.out).mono ?_
   rintro e x16 ⟨A7, q7, rfl, hl, hC, hb⟩
   obtain ⟨ad7, P7, u7, ea, y7, hu, hr⟩ := C_row hC zw s1 HX1.out
   subst ea
   have Y7 := zaa.mk y7
   clear hl hC hu y7
   refine ⟨_, rfl, ?_⟩
   refine hK.out _ _ hb (fun hHeld => ?_)
   have n_ := zaa.mk (HF.out.below hb); clear HF; have HF := n_; clear n_
   have n_ := zaa.mk (zah HB.out hb); clear HB; have HB := n_; clear n_
   have n_ := zaa.mk (Kd.C_below HR0.out hb); clear HR0; have HR0 := n_; clear n_
   have n_ := zaa.mk (Kd.C_below HR2.out hb); clear HR2; have HR2 := n_; clear n_
   have n_ := zaa.mk (zae hb Y0.out); clear Y0; have Y0 := n_; clear n_
   have n_ := zaa.mk (zae hb YH.out); clear YH; have YH := n_; clear n_
   have n_ := zaa.mk (zae hb YG.out); clear YG; have YG := n_; clear n_
   have n_ := zaa.mk ((hb.block _ (zco HBk.out)).trans HBk.out); clear HBk; have HBk := n_; clear n_
   clear hK K hb
   refine turnB_ (by kernel_rfl) hHeld ?_
   clear hHeld
   have HR1 := zaa.mk hr
   clear hr
   have hHeld := Below.refl x16.heap.size x16
   refine norm_ (a' := ?_) ?_ ?_
   rotate_left
   ·show Act.put _ (some 31) _ = _
    simp only [Act.put, List.setIfInBounds_toArray, List.set_cons_zero, List.set_cons_succ, zat, zau]
    rfl
   refine one_ (i := 9) (N := some 33) #[true, true, true, true, true, true, true, true, true, true, false, false, false, true, true, true, true, true, false, false, false, false, true, false, false, false, false, true, false] rfl rfl (by kernel_rfl) (by decide) (fun K hK => ?_)
   refine goes_ Try.func51 (by kernel_rfl) rfl #[.pointer (some ⟨g, 0, none⟩)] (by rfl) rfl rfl (by (try simp only [List.map_toArray, List.map_cons, List.map_nil]); first | done | rfl) ?_
   refine (impl_floor_wide.calls g cs rs _ _ _ HF.out (Below.refl _ _) W1.out).mono ?_
   rintro e x17 ⟨rfl, -, hb, -⟩
   refine ⟨_, rfl, ?_⟩
   refine hK.out _ _ hb (fun hHeld => ?_)
   have n_ := zaa.mk (HF.out.below hb); clear HF; have HF := n_; clear n_
   have n_ := zaa.mk (zah HB.out hb); clear HB; have HB := n_; clear n_
   have n_ := zaa.mk (Kd.C_below HR0.out hb); clear HR0; have HR0 := n_; clear n_
   have n_ := zaa.mk (Kd.C_below HR2.out hb); clear HR2; have HR2 := n_; clear n_
   have n_ := zaa.mk (zae hb Y0.out); clear Y0; have Y0 := n_; clear n_
   have n_ := zaa.mk (zae hb YH.out); clear YH; have YH := n_; clear n_
   have n_ := zaa.mk (zae hb YG.out); clear YG; have YG := n_; clear n_
   have n_ := zaa.mk ((hb.block _ (zco HBk.out)).trans HBk.out); clear HBk; have HBk := n_; clear n_
   have n_ := zaa.mk (Kd.C_below HR1.out hb); clear HR1; have HR1 := n_; clear n_
   have n_ := zaa.mk (zae hb Y7.out); clear Y7; have Y7 := n_; clear n_
   clear hK K hb
   refine turnB_ (by kernel_rfl) hHeld ?_
   clear hHeld
   have hHeld := Below.refl x17.heap.size x17
   refine norm_ (a' := ?_) ?_ ?_
   rotate_left
   ·show Act.put _ (some 33) _ = _
    simp only [Act.put, List.setIfInBounds_toArray, List.set_cons_zero, List.set_cons_succ, zat, zau]
    rfl
   refine zbd (i := 10) (N := some 34) (v := ?_) (a' := ?_) #[true, true, true, true, true, true, true, true, true, true, true, false, false, true, true, true, true, true, false, false, false, false, true, false, false, false, false, true, false] rfl rfl (by kernel_rfl) (fun _ _ _ h => h) (Or.inl ⟨by rfl, ?_⟩) ?_ ?_
   rotate_left
   ·intro w'
    go_simp
    with_reducible rfl
   rotate_left
   ·simp only [Act.put, List.setIfInBounds_toArray, List.set_cons_zero, List.set_cons_succ, zat, zau]
    rfl
   refine zbd (i := 11) (N := some 35) (v := ?_) (a' := ?_) #[true, true, true, true, true, true, true, true, true, true, true, true, false, true, true, true, true, true, false, false, false, false, true, false, false, false, false, true, false] rfl rfl (by kernel_rfl) (fun _ _ _ h => h) (Or.inl ⟨by rfl, ?_⟩) ?_ ?_
   rotate_left
   ·intro w'
    go_simp
    with_reducible rfl
   rotate_left
   ·simp only [Act.put, List.setIfInBounds_toArray, List.set_cons_zero, List.set_cons_succ, zat, zau]
    rfl
   refine take_ (i := 12) (N := some 36) (v := ?_) (a' := ?_) #[true, true, true, true, true, true, true, true, true, true, true, true, true, true, true, true, true, true, false, false, false, false, true, false, false, false, false, true, false] rfl rfl (by kernel_rfl) (fun _ _ _ h => h) (Or.inl ⟨by rfl, ?_⟩) hHeld ?_ ?_
   rotate_left
   ·intro w' s0
    have s1 := zae s0 Y7.out
    clear s0
    go_simp
    with_reducible rfl
   rotate_left
   ·simp only [Act.put, List.setIfInBounds_toArray, List.set_cons_zero, List.set_cons_succ, zat, zau]
    rfl
   refine one_ (i := 18) (N := some 42) #[true, true, true, true, true, true, true, true, true, true, true, true, true, true, true, true, true, true, true, false, false, false, true, false, false, false, false, true, false] rfl rfl (by kernel_rfl) (by decide) (fun K hK => ?_)
   refine goes_ Try.func52 (by kernel_rfl) rfl #[.pointer (some ⟨g, 0, none⟩)] (by rfl) rfl rfl (by (try simp only [List.map_toArray, List.map_cons, List.map_nil]); first | done | rfl) ?_
   refine (impl_floor_high.calls g cs rs _ _ _ HF.out (Below.refl _ _) H1.out).mono ?_
   rintro e x18 ⟨rfl, -, hb, -⟩
   refine ⟨_, rfl, ?_⟩
   refine hK.out _ _ hb (fun hHeld => ?_)
   have n_ := zaa.mk (HF.out.below hb); clear HF; have HF := n_; clear n_
   have n_ := zaa.mk (zah HB.out hb); clear HB; have HB := n_; clear n_
   have n_ := zaa.mk (Kd.C_below HR0.out hb); clear HR0; have HR0 := n_; clear n_
   have n_ := zaa.mk (Kd.C_below HR2.out hb); clear HR2; have HR2 := n_; clear n_
   have n_ := zaa.mk (zae hb Y0.out); clear Y0; have Y0 := n_; clear n_
   have n_ := zaa.mk (zae hb YH.out); clear YH; have YH := n_; clear n_
   have n_ := zaa.mk (zae hb YG.out); clear YG; have YG := n_; clear n_
   have n_ := zaa.mk ((hb.block _ (zco HBk.out)).trans HBk.out); clear HBk; have HBk := n_; clear n_
   have n_ := zaa.mk (Kd.C_below HR1.out hb); clear HR1; have HR1 := n_; clear n_
   have n_ := zaa.mk (zae hb Y7.out); clear Y7; have Y7 := n_; clear n_
   clear hK K hb
   refine turnB_ (by kernel_rfl) hHeld ?_
   clear hHeld
   have hHeld := Below.refl x18.heap.size x18
   refine norm_ (a' := ?_) ?_ ?_
   rotate_left
   ·show Act.put _ (some 42) _ = _
    simp only [Act.put, List.setIfInBounds_toArray, List.set_cons_zero, List.set_cons_succ, zat, zau]
    rfl
   refine zbd (i := 19) (N := some 43) (v := ?_) (a' := ?_) #[true, true, true, true, true, true, true, true, true, true, true, true, true, true, true, true, true, true, true, true, false, false, true, false, false, false, false, true, false] rfl rfl (by kernel_rfl) (fun _ _ _ h => h) (Or.inl ⟨by rfl, ?_⟩) ?_ ?_
   rotate_left
   ·intro w'
    go_simp
    with_reducible rfl
   rotate_left
   ·simp only [Act.put, List.setIfInBounds_toArray, List.set_cons_zero, List.set_cons_succ, zat, zau]
    rfl
   refine zbd (i := 20) (N := some 44) (v := ?_) (a' := ?_) #[true, true, true, true, true, true, true, true, true, true, true, true, true, true, true, true, true, true, true, true, true, false, true, false, false, false, false, true, false] rfl rfl (by kernel_rfl) (fun _ _ _ h => h) (Or.inl ⟨by rfl, ?_⟩) ?_ ?_
   rotate_left
   ·intro w'
    go_simp
    with_reducible rfl
   rotate_left
   ·simp only [Act.put, List.setIfInBounds_toArray, List.set_cons_zero, List.set_cons_succ, zat, zau]
    rfl
   refine take_ (i := 21) (N := some 45) (v := ?_) (a' := ?_) #[true, true, true, true, true, true, true, true, true, true, true, true, true, true, true, true, true, true, true, true, true, true, true, false, false, false, false, true, false] rfl rfl (by kernel_rfl) (fun _ _ _ h => h) (Or.inl ⟨by rfl, ?_⟩) hHeld ?_ ?_
   rotate_left
   ·intro w' s0
    have s1 := zae s0 YH.out
    clear s0
    go_simp
    with_reducible rfl
   rotate_left
   ·simp only [Act.put, List.setIfInBounds_toArray, List.set_cons_zero, List.set_cons_succ, zat, zau]
    rfl
   refine one_ (i := 23) (N := some 47) #[true, true, true, true, true, true, true, true, true, true, true, true, true, true, true, true, true, true, true, true, true, true, true, true, false, false, false, true, false] rfl rfl (by kernel_rfl) (by decide) (fun K hK => ?_)
   refine goes_ Try.func50 (by kernel_rfl) rfl #[.pointer (some ⟨g, 0, none⟩)] (by rfl) rfl rfl (by (try simp only [List.map_toArray, List.map_cons, List.map_nil]); first | done | rfl) ?_
   refine (crossed_calls g cs rs _ HK.out HF.out).mono ?_
   rintro e x19 ⟨A23, q23, rfl, hl, hC, hb⟩
   obtain ⟨ad23, P23, u23, ea, y23, hu, hr⟩ := C_row hC 0 s3 HX3.out
   subst ea
   rw [Addr.add_zero'] at y23
   have Y23 := zaa.mk y23
   clear hl hC hu y23
   refine ⟨_, rfl, ?_⟩
   refine hK.out _ _ hb (fun hHeld => ?_)
   have n_ := zaa.mk (HF.out.below hb); clear HF; have HF := n_; clear n_
   have n_ := zaa.mk (zah HB.out hb); clear HB; have HB := n_; clear n_
   have n_ := zaa.mk (Kd.C_below HR0.out hb); clear HR0; have HR0 := n_; clear n_
   have n_ := zaa.mk (Kd.C_below HR2.out hb); clear HR2; have HR2 := n_; clear n_
   have n_ := zaa.mk (zae hb Y0.out); clear Y0; have Y0 := n_; clear n_
   have n_ := zaa.mk (zae hb YH.out); clear YH; have YH := n_; clear n_
   have n_ := zaa.mk (zae hb YG.out); clear YG; have YG := n_; clear n_
   have n_ := zaa.mk ((hb.block _ (zco HBk.out)).trans HBk.out); clear HBk; have HBk := n_; clear n_
   have n_ := zaa.mk (Kd.C_below HR1.out hb); clear HR1; have HR1 := n_; clear n_
   have n_ := zaa.mk (zae hb Y7.out); clear Y7; have Y7 := n_; clear n_
   clear hK K hb
   refine turnB_ (by kernel_rfl) hHeld ?_
   clear hHeld
   have HR3 := zaa.mk hr
   clear hr
   have hHeld := Below.refl x19.heap.size x19
   refine norm_ (a' := ?_) ?_ ?_
   rotate_left
   ·show Act.put _ (some 47) _ = _
    simp only [Act.put, List.setIfInBounds_toArray, List.set_cons_zero, List.set_cons_succ, zat, zau]
    rfl
   refine zbd (i := 24) (N := some 48) (v := ?_) (a' := ?_) #[true, true, true, true, true, true, true, true, true, true, true, true, true, true, true, true, true, true, true, true, true, true, true, true, true, false, false, true, false] rfl rfl (by kernel_rfl) (fun _ _ _ h => h) (Or.inl ⟨by rfl, ?_⟩) ?_ ?_
   rotate_left
   ·intro w'
    go_simp
    with_reducible rfl
   rotate_left
   ·simp only [Act.put, List.setIfInBounds_toArray, List.set_cons_zero, List.set_cons_succ, zat, zau]
    rfl
   refine take_ (i := 25) (N := some 49) (v := ?_) (a' := ?_) #[true, true, true, true, true, true, true, true, true, true, true, true, true, true, true, true, true, true, true, true, true, true, true, true, true, true, false, true, false] rfl rfl (by kernel_rfl) (fun _ _ _ h => h) (Or.inl ⟨by rfl, ?_⟩) hHeld ?_ ?_
   rotate_left
   ·intro w' s0
    have s1 := zae s0 Y23.out
    clear s0
    go_simp
    with_reducible rfl
   rotate_left
   ·simp only [Act.put, List.setIfInBounds_toArray, List.set_cons_zero, List.set_cons_succ, zat, zau]
    rfl
   refine zbd (i := 26) (N := some 50) (v := ?_) (a' := ?_) #[true, true, true, true, true, true, true, true, true, true, true, true, true, true, true, true, true, true, true, true, true, true, true, true, true, true, true, true, false] rfl rfl (by kernel_rfl) (fun _ _ _ h => h) (Or.inl ⟨by rfl, ?_⟩) ?_ ?_
   rotate_left
   ·intro w'
    go_simp
    with_reducible rfl
   rotate_left
   ·simp only [Act.put, List.setIfInBounds_toArray, List.set_cons_zero, List.set_cons_succ, zat, zau]
    rfl
   refine norm_ ?_ (HFin.out [?v19_0, ?v19_1, ?v19_2, ?v19_3, ?v19_4, ?v19_5, ?v19_6, ?v19_7, ?v19_8, ?v19_9, ?v19_10, ?v19_11, ?v19_12, ?v19_13] _ ?_)
   ·show _ = putAll _ _
    simp only [putAll, Act.put, List.setIfInBounds_toArray, List.set_cons_zero, List.set_cons_succ, List.getD_cons_zero, List.getD_cons_succ]
    rfl
   ·exact ⟨bk, P0, P7, PH, P23, u0, u7, uH, u23, rfl, rfl, HBk.out, HBs.out, HR0.out, HR1.out, HR2.out, HR3.out, HB.out⟩
 case cont =>
  clear HF HB HR0 HR2 Y0 YH YG hHeld
  intro s w' hF
  obtain ⟨b, B0, B1, B2, B3, d0, d1, d2, d3, e8, e50, hblk, hle, r0, r1, r2, r3, hB⟩ := hF
  refine norm_ (a' := ?_) ?_ ?_
  rotate_left
  ·simp only [putAll, Act.put, List.setIfInBounds_toArray, List.set_cons_zero, List.set_cons_succ]
   rfl
  rw [e8, e50]
  generalize s.getD 0 undef = j0
  generalize s.getD 1 undef = j1
  generalize s.getD 2 undef = j2
  generalize s.getD 3 undef = j3
  generalize s.getD 4 undef = j4
  generalize s.getD 5 undef = j5
  generalize s.getD 6 undef = j6
  generalize s.getD 7 undef = j7
  generalize s.getD 8 undef = j8
  generalize s.getD 9 undef = j9
  generalize s.getD 10 undef = j10
  generalize s.getD 11 undef = j11
  clear e8 e50 s
  have HR0 := zaa.mk r0
  have HR1 := zaa.mk r1
  have HR2 := zaa.mk r2
  have HR3 := zaa.mk r3
  have HB := zaa.mk hB
  have HBk := zaa.mk hblk
  have HLe := zaa.mk hle
  clear hle
  clear r0 r1 r2 r3 hB
  have q0 := (zav hblk 0).trans rfl
  have q1 := (zav hblk 1).trans rfl
  have q2 := (zav hblk 2).trans rfl
  have q3 := (zav hblk 3).trans rfl
  have g0 := zay hblk 0
  have g1 := zay hblk 1
  have g2 := zay hblk 2
  have g3 := zay hblk 3
  clear hblk
  refine last_ (i := 28) (N := none) #[true, true, true, true, true, true, true, true, true, true, true, true, true, true, true, true, true, true, true, true, true, true, true, true, true, true, true, true, true] rfl rfl (by kernel_rfl) (by decide) (fun K hK => ?_)
  rw [if_pos (by rfl)]
  go_simp
  have hle' : w.heap.size ≤ b := Nat.le_trans HB8.out.size HLe.out
  have hBw : Below w.heap.size w ((((w'.setCell ⟨b, 0, none⟩ (.slice B0 s0.length d0)).setCell ⟨b, 1, none⟩ (.slice B1 s1.length d1)).setCell ⟨b, 2, none⟩ (.slice B2 s2.length d2)).setCell ⟨b, 3, none⟩ (.slice B3 s3.length d3)) := zak (zak (zak (zak (zah HB8.out HB.out) hle') hle') hle') hle'
  have hkp : zaf w' ((((w'.setCell ⟨b, 0, none⟩ (.slice B0 s0.length d0)).setCell ⟨b, 1, none⟩ (.slice B1 s1.length d1)).setCell ⟨b, 2, none⟩ (.slice B2 s2.length d2)).setCell ⟨b, 3, none⟩ (.slice B3 s3.length d3)) b none := ((((zaf.refl w' b none).set_ 0 _).set_ 1 _).set_ 2 _).set_ 3 _
  have hbl := set_four HBk.out (.slice B0 s0.length d0) (.slice B1 s1.length d1) (.slice B2 s2.length d2) (.slice B3 s3.length d3)
  generalize (((w'.setCell ⟨b, 0, none⟩ (.slice B0 s0.length d0)).setCell ⟨b, 1, none⟩ (.slice B1 s1.length d1)).setCell ⟨b, 2, none⟩ (.slice B2 s2.length d2)).setCell ⟨b, 3, none⟩ (.slice B3 s3.length d3) = wz at *
  have HW := zaa.mk hBw
  have R0 := zaa.mk (C_keep_ne HBk.out HR0.out hkp)
  have R1 := zaa.mk (C_keep_ne HBk.out HR1.out hkp)
  have R2 := zaa.mk (C_keep_ne HBk.out HR2.out hkp)
  have R3 := zaa.mk (C_keep_ne HBk.out HR3.out hkp)
  have c0' := (zav hbl 0).trans rfl
  have c1' := (zav hbl 1).trans rfl
  have c2' := (zav hbl 2).trans rfl
  have c3' := (zav hbl 3).trans rfl
  clear q0 q1 q2 q3 g0 g1 g2 g3 hbl hkp hBw hle' HR0 HR1 HR2 HR3 HBk HB
  refine hK.out _ _ ?_
  clear hK K
  refine done_ (by kernel_rfl) ?_
  have HL := zaa.mk (show s0.length ≤ 6 ∧ s1.length ≤ 6 ∧ s2.length ≤ 6 ∧ s3.length ≤ 6 by rw [E0.out, E1.out, E2.out, E3.out]; simp [sideL]; omega)
  have hsd : sd = 0 ∨ sd = 1 ∨ sd = 2 ∨ sd = 3 := by omega
  have HZ' := zaa.mk (show 0 < s0.length ∧ 0 < s1.length ∧ 0 < s2.length ∧ 0 < s3.length by rw [E0.out, E1.out, E2.out, E3.out]; exact HZ.out)
  rcases hsd with rfl | rfl | rfl | rfl
  ·go_wp2_with (first
    | (go_at_call 54; (with_reducible refine (clone_calls B0 d0 s0 _ R0.out HZ'.out.1 (by have := HL.out; omega)).mono ?_); rintro e w20 ⟨v20, rfl, hr20, hb20⟩; have HB20 := zaa.mk (zah HW.out hb20); have HR20 := zaa.mk (Kd.R_lower hr20 HW.out.size); clear hr20 hb20)
    | (go_at_call 53; (with_reducible refine (compact_calls s0 v20 _ w.heap.size _ HR20.out).mono ?_); rintro e w21 ⟨v21, rfl, hr21, hg21, he21⟩; have HB21 := zaa.mk (HB20.out.grown hg21 HB20.out.size (own_base (Kd.own_of_R HR20.out))); have HR21 := zaa.mk hr21; clear hr21 hg21 he21))
   go_ret2
   refine ⟨_, rfl, ?_, HB21.out⟩
   rw [← E0.out, ← compact_fold]
   exact HR21.out
  ·go_wp2_with (first
    | (go_at_call 54; (with_reducible refine (clone_calls B1 d1 s1 _ R1.out HZ'.out.2.1 (by have := HL.out; omega)).mono ?_); rintro e w20 ⟨v20, rfl, hr20, hb20⟩; have HB20 := zaa.mk (zah HW.out hb20); have HR20 := zaa.mk (Kd.R_lower hr20 HW.out.size); clear hr20 hb20)
    | (go_at_call 53; (with_reducible refine (compact_calls s1 v20 _ w.heap.size _ HR20.out).mono ?_); rintro e w21 ⟨v21, rfl, hr21, hg21, he21⟩; have HB21 := zaa.mk (HB20.out.grown hg21 HB20.out.size (own_base (Kd.own_of_R HR20.out))); have HR21 := zaa.mk hr21; clear hr21 hg21 he21))
   go_ret2
   refine ⟨_, rfl, ?_, HB21.out⟩
   rw [← E1.out, ← compact_fold]
   exact HR21.out
  ·go_wp2_with (first
    | (go_at_call 54; (with_reducible refine (clone_calls B2 d2 s2 _ R2.out HZ'.out.2.2.1 (by have := HL.out; omega)).mono ?_); rintro e w20 ⟨v20, rfl, hr20, hb20⟩; have HB20 := zaa.mk (zah HW.out hb20); have HR20 := zaa.mk (Kd.R_lower hr20 HW.out.size); clear hr20 hb20)
    | (go_at_call 53; (with_reducible refine (compact_calls s2 v20 _ w.heap.size _ HR20.out).mono ?_); rintro e w21 ⟨v21, rfl, hr21, hg21, he21⟩; have HB21 := zaa.mk (HB20.out.grown hg21 HB20.out.size (own_base (Kd.own_of_R HR20.out))); have HR21 := zaa.mk hr21; clear hr21 hg21 he21))
   go_ret2
   refine ⟨_, rfl, ?_, HB21.out⟩
   rw [← E2.out, ← compact_fold]
   exact HR21.out
  ·go_wp2_with (first
    | (go_at_call 54; (with_reducible refine (clone_calls B3 d3 s3 _ R3.out HZ'.out.2.2.2 (by have := HL.out; omega)).mono ?_); rintro e w20 ⟨v20, rfl, hr20, hb20⟩; have HB20 := zaa.mk (zah HW.out hb20); have HR20 := zaa.mk (Kd.R_lower hr20 HW.out.size); clear hr20 hb20)
    | (go_at_call 53; (with_reducible refine (compact_calls s3 v20 _ w.heap.size _ HR20.out).mono ?_); rintro e w21 ⟨v21, rfl, hr21, hg21, he21⟩; have HB21 := zaa.mk (HB20.out.grown hg21 HB20.out.size (own_base (Kd.own_of_R HR20.out))); have HR21 := zaa.mk hr21; clear hr21 hg21 he21))
   go_ret2
   refine ⟨_, rfl, ?_, HB21.out⟩
   rw [← E3.out, ← compact_fold]
   exact HR21.out
end Go.Proofs.Ytickdcegnlldjaa.Hd
namespace Go.Proofs.Ytickdcegnlldjaa.Hd
open Go.RowKit Go.PW.PrintWords Go.PW.PrintLast Go.PW.PrintMore Go.Proofs.Ytickdcegnlldjaa.PB
set_option maxHeartbeats 4000000 in
set_option maxRecDepth 100000 in
theorem NearOut_calls (A0 : Option Addr) (c0 : Nat) (l0 : List ByteArray) (sd : Int) (w : World) (hr0 : Kd.C Kd.string w A0 l0.length l0) (hc0 : l0.length ≤ c0) (hp : smallP l0) :
  Calls Try.prog 15 #[.slice A0 l0.length c0, .int .i64 sd] w fun e w' => ∃ v0_ : Value, e = .returned (.tuple #[v0_, .bool (zbo l0 sd).2]) ∧ Kd.R (Kd.int .i64) 3 w' w.heap.size (fun _ => True) v0_ (zbo l0 sd).1 ∧ Below w.heap.size w w' := by
 rcases hF : zbu l0 with _ | ⟨cs, rs⟩
 ·have e : zbo l0 sd = ([], false) := by unfold zbo; rw [hF]
  rw [e]
  have HR := zaa.mk hr0
  have HC := zaa.mk hc0
  have HP := zaa.mk hp
  have HF := zaa.mk hF
  clear hr0 hc0 hp hF e
  go_enter Try.func15, Try.ntmps15
  go_wp2_with (first
   | (go_at_call 49; refine (floorOf_calls A0 c0 l0 _ HR.out HC.out HP.out).mono ?_; rw [HF.out]; rintro e w8 ⟨hb8, v8, b8, rfl, rfl⟩; have HB8 := zaa.mk hb8; clear hb8))
  go_ret2
  exact ⟨_, rfl, Kd.R_nil _ _ _ _ _, HB8.out⟩
 ·by_cases h03 : 0 ≤ sd ∧ sd ≤ 3
  ·have e : zbo l0 sd = (zcj (sideL cs sd), true) := by unfold zbo; rw [hF]; exact if_pos h03
   rw [e]
   exact implOut_in A0 c0 l0 sd w hr0 hc0 hp cs rs hF h03.1 h03.2
  ·have e : zbo l0 sd = ([], false) := by unfold zbo; rw [hF]; exact if_neg h03
   rw [e]
   have HR := zaa.mk hr0
   have HC := zaa.mk hc0
   have HP := zaa.mk hp
   have HF := zaa.mk hF
   clear hr0 hc0 hp hF e
   by_cases hn : sd < 0
   ·clear h03
    go_enter Try.func15, Try.ntmps15
    go_wp2_with (first
     | (go_at_call 49; refine (floorOf_calls A0 c0 l0 _ HR.out HC.out HP.out).mono ?_; rw [HF.out]; rintro e w8 ⟨hb8, v8, b8, rfl, rfl, g, rfl, hfl⟩; have HB8 := zaa.mk hb8; clear hb8 hfl))
    go_ret2
    exact ⟨_, rfl, Kd.R_nil _ _ _ _ _, HB8.out⟩
   ·have hg : 3 < sd := by omega
    clear h03
    have hd : decide (sd < 0) = false := decide_eq_false hn
    go_enter Try.func15, Try.ntmps15
    go_wp2_with (first
     | (go_at_call 49; refine (floorOf_calls A0 c0 l0 _ HR.out HC.out HP.out).mono ?_; rw [HF.out]; rintro e w8 ⟨hb8, v8, b8, rfl, rfl, g, rfl, hfl⟩; have HB8 := zaa.mk hb8; clear hb8 hfl))
    go_ret2
    exact ⟨_, rfl, Kd.R_nil _ _ _ _ _, HB8.out⟩
def impl_NearOut.f (l0 : List ByteArray) (a1 : Int) : Option (List Int × Bool) := if smallB l0 = true then some (zbo l0 a1) else none
theorem impl_NearOut.calls (A0 : Option Addr) (c0 : Nat) (l0 : List ByteArray) (a1 : Int) (r1 : List Int) (r2 : Bool) (w : World) (hr0 : Kd.C Kd.string w A0 l0.length l0) (hc0 : l0.length ≤ c0) (h : impl_NearOut.f l0 a1 = some (r1, r2)) :
  Calls Try.prog 15 #[.slice A0 l0.length c0, .int .i64 a1] w fun e w' => ∃ v0_ : Value, e = .returned (.tuple #[v0_, .bool r2]) ∧ Kd.R (Kd.int .i64) 3 w' w.heap.size (fun _ => True) v0_ r1 ∧ Below w.heap.size w w' := by
 unfold impl_NearOut.f at h
 split at h
 ·rename_i hs
  have e := Option.some.inj h
  have := NearOut_calls A0 c0 l0 a1 w hr0 hc0 ((smallB_iff _).1 hs)
  rw [e] at this
  exact this
 ·cases h
theorem sideL_length {cs : List (List Int)} {rs : List Rc} (h : zcq cs rs) (sd : Int) : 1 ≤ (sideL cs sd).length ∧ (sideL cs sd).length ≤ 6 := by
 have h1 := h.h1
 have h6 := h.h6
 have w1 := h.w1
 have w6 := h.w6
 unfold sideL
 split
 ·simp; omega
 ·split
  ·simp; omega
  ·split <;> simp <;> omega
theorem nearOutF_len (l0 : List ByteArray) (sd : Int) : (zbo l0 sd).1.length ≤ 6 := by
 unfold zbo
 rcases hF : zbu l0 with _ | ⟨cs, rs⟩
 ·simp
 ·dsimp only
  split
  ·have := foldP_length (sideL cs sd)
   have := (sideL_length (floorF_ok hF) sd).2
   dsimp only
   omega
  ·simp
def impl_NearIs.f (l0 : List ByteArray) (a1 : Int) (a2 : Int) : Option (Bool) := if smallB l0 = true then some (nearIsF l0 a1 a2) else none
theorem impl_NearIs.calls (A0 : Option Addr) (c0 : Nat) (l0 : List ByteArray) (a1 : Int) (a2 : Int) (r : Bool) (w : World) (hr0 : Kd.C Kd.string w A0 l0.length l0) (hc0 : l0.length ≤ c0) (h : impl_NearIs.f l0 a1 a2 = some r) :
  Calls Try.prog 23 #[.slice A0 l0.length c0, .int .i64 a1, .int .i64 a2] w fun e w' => e = .returned (.bool r) ∧ Below w.heap.size w w' := by
 unfold impl_NearIs.f at h
 split at h
 ·rename_i hs
  have e := Option.some.inj h
  have := NearIs_calls A0 c0 l0 a1 a2 w hr0 hc0 ((smallB_iff _).1 hs)
  rw [e] at this
  exact this
 ·cases h
end Go.Proofs.Ytickdcegnlldjaa.Hd
namespace Go.Proofs.Ytickdcegnlldjaa.NO
open Go.Proofs.Ytickdcegnlldjaa.PB Go.Proofs.Ytickdcegnlldjaa.Hd Go.Proofs.Ytickdcegnlldjaa.SM
open Go.RowKit Go.PW.PrintWords Go.PW.PrintLast Go.PW.PrintMore
attribute [local go_sem] zcd zcb max_two min_two zbt zbs zcc zca   -- for this text's walks alone
def errW : Option Int → Value
 | none => .nilIface
 | some c => .iface 0 (.int .i64 c)
theorem zap : errW none = .nilIface := rfl
theorem zao (c : Int) : errW (some c) = .iface 0 (.int .i64 c) := rfl
theorem info3 : (Try.prog.info? 3).map (fun i => (i.zero, i.size, i.bytes)) = some (some (.int .i64 0), 1, 8) := by kernel_rfl
theorem info5 : (Try.prog.info? 5).map (fun i => (i.zero, i.size, i.bytes)) = some (some (.int .u8 0), 1, 1) := by kernel_rfl
theorem info9 : (Try.prog.info? 9).map (fun i => (i.zero, i.size, i.bytes)) = some (some (.string ⟨#[]⟩), 1, 16) := by kernel_rfl
theorem info72 : (Try.prog.info? 72).map (fun i => (i.zero, i.size, i.bytes)) = some (some (.agg #[(.bool false), (.int .i64 0), (.int .i64 0), (.int .i64 0)]), 4, 32) := by kernel_rfl
def zcf (xs : List (List Int)) (i : Int) : (List Int) := xs.getD i.toNat ([] : List Int)
theorem at_L3 {w : World} {A : Option Addr} {n : Nat} {xs : List (List Int)} (h : Kd.C (Kd.slice 3 (Kd.int .i64)) w A n xs) (i : Int) (h0 : 0 ≤ i) (h1 : i < n) : ∃ ad A0 c0, A = some ad ∧ w.cell? (ad.add i.toNat) = some (.slice A0 (zcf xs i).length c0) ∧ (zcf xs i).length ≤ c0 ∧ (Kd.int .i64).C w A0 (zcf xs i).length (zcf xs i) := by
 obtain ⟨ad, c, e, _, hK, hc0⟩ := Kd.C_get h ([] : List Int) i h0 h1
 have hc : ∀ j u, c[j]? = some u → w.cell? (ad.add (i.toNat * 1 + j)) = some u := hc0
 obtain ⟨A0, c0, rfl, l0, g0⟩ := hK
 exact ⟨ad, A0, c0, e, by have hq := hc 0 _ rfl; rwa [Nat.mul_one, Nat.add_zero] at hq, l0, g0⟩
structure S120 where
 f0 : Int
 f1 : Int
 f2 : Int
 f3 : Int
def z120 : S120 := ⟨(0 : Int), (0 : Int), (0 : Int), (0 : Int)⟩
def k120 : Kd S120 := Kd.iso (Kd.pair (Kd.int .i64) (Kd.pair (Kd.int .i64) (Kd.pair (Kd.int .i64) (Kd.int .i64)))) (fun x : S120 => (x.f0, x.f1, x.f2, x.f3))
theorem k120_open {w : World} {x : S120} {cs : List Value} (h : k120.K w x cs) : cs = [.int .i64 x.f0, .int .i64 x.f1, .int .i64 x.f2, .int .i64 x.f3] := by
 obtain ⟨_, _, rfl, rfl, ⟨_, _, rfl, rfl, ⟨_, _, rfl, rfl, rfl⟩⟩⟩ := h
 exact rfl
theorem k120_mkM (w : World) (base : Nat) (ok : Nat → Prop) (x : S120)  : k120.M w base ok x [.int .i64 x.f0, .int .i64 x.f1, .int .i64 x.f2, .int .i64 x.f3] := ⟨[.int .i64 x.f0], [.int .i64 x.f1, .int .i64 x.f2, .int .i64 x.f3], rfl, rfl, ⟨[.int .i64 x.f1], [.int .i64 x.f2, .int .i64 x.f3], rfl, rfl, ⟨[.int .i64 x.f2], [.int .i64 x.f3], rfl, rfl, rfl⟩⟩⟩
def rd_T120 (xs : List S120) (i : Int) : S120 := xs.getD i.toNat z120
theorem at_T120 {w : World} {A : Option Addr} {n : Nat} {xs : List S120} (h : Kd.C k120 w A n xs) (i : Int) (h0 : 0 ≤ i) (h1 : i < n) : ∃ ad , A = some ad ∧ w.cell? (ad.add (i.toNat * 4)) = some (.int .i64 (rd_T120 xs i).f0) ∧ w.cell? ⟨(ad.add (i.toNat * 4)).block, (ad.add (i.toNat * 4)).off + 1, none⟩ = some (.int .i64 (rd_T120 xs i).f1) ∧ w.cell? ⟨(ad.add (i.toNat * 4)).block, (ad.add (i.toNat * 4)).off + 2, none⟩ = some (.int .i64 (rd_T120 xs i).f2) ∧ w.cell? ⟨(ad.add (i.toNat * 4)).block, (ad.add (i.toNat * 4)).off + 3, none⟩ = some (.int .i64 (rd_T120 xs i).f3) := by
 obtain ⟨ad, c, e, _, hK, hc0⟩ := Kd.C_get h z120 i h0 h1
 have hc : ∀ j u, c[j]? = some u → w.cell? (ad.add (i.toNat * 4 + j)) = some u := hc0
 obtain rfl := k120_open hK
 exact ⟨ad, e, hc 0 _ rfl, by rw [← add_field _ _ 1 (by omega)]; exact hc 1 _ rfl, by rw [← add_field _ _ 2 (by omega)]; exact hc 2 _ rfl, by rw [← add_field _ _ 3 (by omega)]; exact hc 3 _ rfl⟩
structure S72 where
 f0 : Bool
 f1 : Int
 f2 : Int
 f3 : Int
def z72 : S72 := ⟨false, (0 : Int), (0 : Int), (0 : Int)⟩
def k72 : Kd S72 := Kd.iso (Kd.pair Kd.bool (Kd.pair (Kd.int .i64) (Kd.pair (Kd.int .i64) (Kd.int .i64)))) (fun x : S72 => (x.f0, x.f1, x.f2, x.f3))
theorem k72_open {w : World} {x : S72} {cs : List Value} (h : k72.K w x cs) : cs = [.bool x.f0, .int .i64 x.f1, .int .i64 x.f2, .int .i64 x.f3] := by
 obtain ⟨_, _, rfl, rfl, ⟨_, _, rfl, rfl, ⟨_, _, rfl, rfl, rfl⟩⟩⟩ := h
 exact rfl
theorem k72_openM {w : World} {base : Nat} {ok : Nat → Prop} {x : S72} {cs : List Value} (h : k72.M w base ok x cs) : cs = [.bool x.f0, .int .i64 x.f1, .int .i64 x.f2, .int .i64 x.f3] := by
 obtain ⟨_, _, rfl, rfl, ⟨_, _, rfl, rfl, ⟨_, _, rfl, rfl, rfl⟩⟩⟩ := h
 exact rfl
theorem k72_mkM (w : World) (base : Nat) (ok : Nat → Prop) (x : S72)  : k72.M w base ok x [.bool x.f0, .int .i64 x.f1, .int .i64 x.f2, .int .i64 x.f3] := ⟨[.bool x.f0], [.int .i64 x.f1, .int .i64 x.f2, .int .i64 x.f3], rfl, rfl, ⟨[.int .i64 x.f1], [.int .i64 x.f2, .int .i64 x.f3], rfl, rfl, ⟨[.int .i64 x.f2], [.int .i64 x.f3], rfl, rfl, rfl⟩⟩⟩
def zbx (xs : List S72) (i : Int) : S72 := xs.getD i.toNat z72
theorem at_T72 {w : World} {A : Option Addr} {n : Nat} {xs : List S72} (h : Kd.C k72 w A n xs) (i : Int) (h0 : 0 ≤ i) (h1 : i < n) : ∃ ad , A = some ad ∧ w.cell? (ad.add (i.toNat * 4)) = some (.bool (zbx xs i).f0) ∧ w.cell? ⟨(ad.add (i.toNat * 4)).block, (ad.add (i.toNat * 4)).off + 1, none⟩ = some (.int .i64 (zbx xs i).f1) ∧ w.cell? ⟨(ad.add (i.toNat * 4)).block, (ad.add (i.toNat * 4)).off + 2, none⟩ = some (.int .i64 (zbx xs i).f2) ∧ w.cell? ⟨(ad.add (i.toNat * 4)).block, (ad.add (i.toNat * 4)).off + 3, none⟩ = some (.int .i64 (zbx xs i).f3) := by
 obtain ⟨ad, c, e, _, hK, hc0⟩ := Kd.C_get h z72 i h0 h1
 have hc : ∀ j u, c[j]? = some u → w.cell? (ad.add (i.toNat * 4 + j)) = some u := hc0
 obtain rfl := k72_open hK
 exact ⟨ad, e, hc 0 _ rfl, by rw [← add_field _ _ 1 (by omega)]; exact hc 1 _ rfl, by rw [← add_field _ _ 2 (by omega)]; exact hc 2 _ rfl, by rw [← add_field _ _ 3 (by omega)]; exact hc 3 _ rfl⟩
end Go.Proofs.Ytickdcegnlldjaa.NO
namespace Go.Proofs.Ytickdcegnlldjaa.NO
open Go.Proofs.Ytickdcegnlldjaa.PB Go.Proofs.Ytickdcegnlldjaa.Hd Go.Proofs.Ytickdcegnlldjaa.SM
open Go.RowKit Go.PW.PrintWords Go.PW.PrintLast Go.PW.PrintMore
attribute [local go_sem] zcd zcb max_two min_two zbt zbs zcc zca   -- for this text's walks alone
mutual
def laws_FnNearOut.j0 : Nat → List ByteArray → Int → List Int → Bool → List Int → Bool → Bool → Option (Bool)
 | 0, _, _, _, _, _, _, _ => none
 | k + 1, x3, x4, x5, x6, x7, x8, x42 => if x42 = true then (if (x6 == x8) = true then ((laws_sameInts.f k x5 x7).bind fun t398 => (some t398)) else (some false)) else (laws_FnNearOut.l0 k x3 x4 x5 1)
def laws_FnNearOut.l0 : Nat → List ByteArray → Int → List Int → Int → Option (Bool)
 | 0, _, _, _, _ => none
 | k + 1, x3, x4, x5, x9 => if x9 < (x5.length : Int) then (if 0 ≤ (wrap64 (x9 - 1)) then (if (wrap64 (x9 - 1)) < (x5.length : Int) then (if 0 ≤ x9 then ((impl_NearIs.f x3 (rd x5 (wrap64 (x9 - 1))) (rd x5 x9)).bind fun t401 => (if t401 = true then (laws_FnNearOut.l0 k x3 x4 x5 (wrap64 (x9 + 1))) else (some false))) else (none)) else (none)) else (none)) else (if (x5.length : Int) ≥ 1 then (if x4 = 0 then (if 0 < (x5.length : Int) then (some ((rd x5 0) == 0)) else (none)) else (if x4 = 3 then (if 0 < (x5.length : Int) then (some ((rd x5 0) == 0)) else (none)) else (some true))) else (some false))
end
def laws_FnNearOut.f (k : Nat) (l0 : List Int) : Option (Bool) := if (l0.length : Int) > 1048576 then (some true) else ((spec_DrawNearOut.f k l0).bind fun bt385 => ((impl_NearOut.f bt385.1 bt385.2).bind fun bt389 => ((spec_NearOut.f bt385.1 bt385.2).bind fun bt393 => (if (bt389.2 != bt393.2) = true then (laws_FnNearOut.j0 k bt385.1 bt385.2 bt389.1 bt389.2 bt393.1 bt393.2 true) else ((laws_sameInts.f k bt389.1 bt393.1).bind fun t397 => (if t397 = true then (laws_FnNearOut.j0 k bt385.1 bt385.2 bt389.1 bt389.2 bt393.1 bt393.2 (!bt389.2)) else (laws_FnNearOut.j0 k bt385.1 bt385.2 bt389.1 bt389.2 bt393.1 bt393.2 true)))))))
def laws_FnNearOut.T11 : Bool × List (List Nat × List Nat) := (true, [([], []), ([], []), ([], []), ([2], [2]), ([1, 3], [1, 3]), ([4], [4]), ([], []), ([], []), ([6, 7], [6, 7]), ([8], [8]), ([0, 5, 9], [0, 5, 9]), ([10], [10])])
def laws_FnNearOut.B11 : List Nat := [0, 0, 0, 4, 14, 30, 0, 0, 192, 448, 1023, 2047]
theorem laws_FnNearOut.tab11 : rtab .any (opsOf Try.f4 11) = laws_FnNearOut.T11 := by kernel_rfl
theorem laws_FnNearOut.bits11 : waitsOk laws_FnNearOut.T11.2 laws_FnNearOut.B11 = true := by kernel_rfl
set_option maxHeartbeats 8000000 in
set_option maxRecDepth 100000 in
theorem laws_FnNearOut.calls (k : Nat) (A0 : Option Addr) (c0 : Nat) (l0 : List Int) (r : Bool) (w : World) (hr0 : Kd.C (Kd.int .u8) w A0 l0.length l0) (hc0 : l0.length ≤ c0) (h : laws_FnNearOut.f k l0 = some r) :
  Calls Try.prog 4 #[.slice A0 l0.length c0] w fun e w' => e = .returned (.bool r) ∧ Below w.heap.size w w' := by
 have HR0 := zaa.mk hr0
 have HC0 := zaa.mk hc0
 clear hr0 hc0
 have HB := zaa.mk (Below.refl w.heap.size w)
 have H : (if (l0.length : Int) > 1048576 then (some true) else ((spec_DrawNearOut.f k l0).bind fun bt385 => ((impl_NearOut.f bt385.1 bt385.2).bind fun bt389 => ((spec_NearOut.f bt385.1 bt385.2).bind fun bt393 => (if (bt389.2 != bt393.2) = true then (laws_FnNearOut.j0 k bt385.1 bt385.2 bt389.1 bt389.2 bt393.1 bt393.2 true) else ((laws_sameInts.f k bt389.1 bt393.1).bind fun t397 => (if t397 = true then (laws_FnNearOut.j0 k bt385.1 bt385.2 bt389.1 bt389.2 bt393.1 bt393.2 (!bt389.2)) else (laws_FnNearOut.j0 k bt385.1 bt385.2 bt389.1 bt389.2 bt393.1 bt393.2 true)))))))) = some r := h
 clear h
 by_cases c2 : (l0.length : Int) > 1048576
 ·rw [if_pos c2] at H
  have c2b0 : decide (1048576 < (l0.length : Int)) = true := decide_eq_true c2
  have c2b1 : decide (1048576 < l0.length) = true := decide_eq_true (by omega)
  clear c2
  obtain rfl := Option.some.inj H
  go_enter Try.func4, Try.ntmps4
  go_wp2
  go_ret
  exact ⟨by first | rfl | (simp [zap, zao] <;> rfl) | (simp [*, zap, zao] <;> rfl), by repeat (first | (with_reducible first | exact HB.out | apply zac | apply zab | apply zad) | exact HB.out)⟩
 ·rw [if_neg c2] at H
  have c2b0 : decide (1048576 < (l0.length : Int)) = false := decide_eq_false c2
  have c2b1 : decide (1048576 < l0.length) = false := decide_eq_false (by omega)
  clear c2
  replace H := Option.bind_eq_some_iff.mp H
  obtain ⟨⟨t385, t388⟩, A30, H⟩ := H
  replace H : ((impl_NearOut.f t385 t388).bind fun bt389 => ((spec_NearOut.f t385 t388).bind fun bt393 => (if (bt389.2 != bt393.2) = true then (laws_FnNearOut.j0 k t385 t388 bt389.1 bt389.2 bt393.1 bt393.2 true) else ((laws_sameInts.f k bt389.1 bt393.1).bind fun t397 => (if t397 = true then (laws_FnNearOut.j0 k t385 t388 bt389.1 bt389.2 bt393.1 bt393.2 (!bt389.2)) else (laws_FnNearOut.j0 k t385 t388 bt389.1 bt389.2 bt393.1 bt393.2 true)))))) = some r := H
  have A3 := zaa.mk A30
  clear A30
  replace H := Option.bind_eq_some_iff.mp H
  obtain ⟨⟨t389, t390⟩, A40, H⟩ := H
  replace H : ((spec_NearOut.f t385 t388).bind fun bt393 => (if (t390 != bt393.2) = true then (laws_FnNearOut.j0 k t385 t388 t389 t390 bt393.1 bt393.2 true) else ((laws_sameInts.f k t389 bt393.1).bind fun t397 => (if t397 = true then (laws_FnNearOut.j0 k t385 t388 t389 t390 bt393.1 bt393.2 (!t390)) else (laws_FnNearOut.j0 k t385 t388 t389 t390 bt393.1 bt393.2 true))))) = some r := H
  have A4 := zaa.mk A40
  clear A40
  replace H := Option.bind_eq_some_iff.mp H
  obtain ⟨⟨t393, t394⟩, A50, H⟩ := H
  replace H : (if (t390 != t394) = true then (laws_FnNearOut.j0 k t385 t388 t389 t390 t393 t394 true) else ((laws_sameInts.f k t389 t393).bind fun t397 => (if t397 = true then (laws_FnNearOut.j0 k t385 t388 t389 t390 t393 t394 (!t390)) else (laws_FnNearOut.j0 k t385 t388 t389 t390 t393 t394 true)))) = some r := H
  have A5 := zaa.mk A50
  clear A50
  have HC6 := zaa.mk H
  clear H
  go_enter Try.func4, Try.ntmps4
  go_upto_region 6 with (first | ((with_reducible refine zas (f := 21) rfl ?_); refine zbk (some 15) rfl rfl Try.func21 (by kernel_rfl) rfl #[.slice A0 l0.length c0] rfl (by (try simp only [List.map_toArray, List.map_cons, List.map_nil]); first | done | rfl | (simp only [List.length_drop, List.length_take]; rfl)) ?_; (with_reducible refine (spec_DrawNearOut.calls k _ _ l0 t385 t388 _ ?side1 ?side2 A3.out).mono ?_); (case side1 => repeat (first | exact HR0.out | (with_reducible refine Kd.C_alloc ?_ _) | (with_reducible refine Kd.C_drewN ?_ _) | (with_reducible refine Kd.C_drew ?_))); (case side2 => exact HC0.out); rintro e w7 ⟨v386, rfl, ho0, hb⟩; refine ⟨_, rfl, ?_⟩; have n0_ := zaa.mk (Kd.V_lower (Kd.V_mono (ok' := fun k_ => True) ho0 (fun k_ hk_ => trivial)) (zar (by repeat (first | (with_reducible first | exact HB.out | apply zac | apply zab | apply zad) | exact HB.out)))); have n1_ := zaa.mk (zah (by repeat (first | (with_reducible first | exact HB.out | apply zac | apply zab | apply zad) | exact HB.out)) hb); clear HB; have HO387 := n0_; have HB := n1_; clear n0_ n1_; (try clear hb); (try clear hb2); (try clear hk); (try clear hi); (try clear ho0); obtain ⟨Ao8, co8, eo8⟩ := Kd.V_slice HO387.out; subst eo8) | ((with_reducible refine zas (f := 15) rfl ?_); refine zbk (some 21) rfl rfl Try.func15 (by kernel_rfl) rfl #[.slice Ao8 t385.length co8, .int .i64 t388] rfl (by (try simp only [List.map_toArray, List.map_cons, List.map_nil]); first | done | rfl | (simp only [List.length_drop, List.length_take]; rfl)) ?_; (with_reducible refine (impl_NearOut.calls _ _ t385 t388 t389 t390 _ ?side1 ?side2 A4.out).mono ?_); (case side1 => repeat (first | exact (Kd.V_reads' HO387.out).2.2 | (with_reducible refine Kd.C_alloc ?_ _) | (with_reducible refine Kd.C_drewN ?_ _) | (with_reducible refine Kd.C_drew ?_))); (case side2 => exact (Kd.V_reads' HO387.out).2.1); rintro e w9 ⟨v391, rfl, ho0, hb⟩; refine ⟨_, rfl, ?_⟩; have n0_ := zaa.mk (Kd.V_elder' (by (with_reducible repeat (first | apply Kd.V_alloc | apply Kd.V_drewN | apply Kd.V_drew)); exact HO387.out) (Kd.R_base ho0) hb); have n1_ := zaa.mk (Kd.R_lower ho0 (zar (by repeat (first | (with_reducible first | exact HB.out | apply zac | apply zab | apply zad) | exact HB.out)))); have n2_ := zaa.mk (zah (by repeat (first | (with_reducible first | exact HB.out | apply zac | apply zab | apply zad) | exact HB.out)) hb); clear HO387; clear HB; have HO387 := n0_; have HO392 := n1_; have HB := n2_; clear n0_ n1_ n2_; (try clear hb); (try clear hb2); (try clear hk); (try clear hi); (try clear ho0)) | ((with_reducible refine zas (f := 13) rfl ?_); refine zbk (some 27) rfl rfl Try.func13 (by kernel_rfl) rfl #[.slice Ao8 t385.length co8, .int .i64 t388] rfl (by (try simp only [List.map_toArray, List.map_cons, List.map_nil]); first | done | rfl | (simp only [List.length_drop, List.length_take]; rfl)) ?_; (with_reducible refine (spec_NearOut.calls _ _ t385 t388 t393 t394 _ ?side1 ?side2 A5.out).mono ?_); (case side1 => repeat (first | exact (Kd.V_reads' HO387.out).2.2 | (with_reducible refine Kd.C_alloc ?_ _) | (with_reducible refine Kd.C_drewN ?_ _) | (with_reducible refine Kd.C_drew ?_))); (case side2 => exact (Kd.V_reads' HO387.out).2.1); rintro e w10 ⟨v395, rfl, ho0, hb⟩; refine ⟨_, rfl, ?_⟩; have n0_ := zaa.mk (Kd.V_elder' (by (with_reducible repeat (first | apply Kd.V_alloc | apply Kd.V_drewN | apply Kd.V_drew)); exact HO387.out) (Kd.R_base ho0) hb); have n1_ := zaa.mk (Kd.R_elder' (by (with_reducible repeat (first | apply Kd.R_alloc | apply Kd.R_drewN | apply Kd.R_drew)); exact HO392.out) (Kd.R_base ho0) hb); have n2_ := zaa.mk (Kd.R_lower (Kd.R_new' ho0 (Kd.R_lt (by (with_reducible repeat (first | apply Kd.R_alloc | apply Kd.R_drewN | apply Kd.R_drew)); exact HO392.out))) (zar (by repeat (first | (with_reducible first | exact HB.out | apply zac | apply zab | apply zad) | exact HB.out)))); have n3_ := zaa.mk (zah (by repeat (first | (with_reducible first | exact HB.out | apply zac | apply zab | apply zad) | exact HB.out)) hb); clear HO387; clear HO392; clear HB; have HO387 := n0_; have HO392 := n1_; have HO396 := n2_; have HB := n3_; clear n0_ n1_ n2_ n3_; (try clear hb); (try clear hb2); (try clear hk); (try clear hi); (try clear ho0)))
  (try simp only [Act.put, List.setIfInBounds_toArray, List.set_cons_zero, List.set_cons_succ])
  go_cut [42] (fun v42 wc => ∃ (kq : Nat) (x42_5 : Bool), v42 = .bool x42_5 ∧ zaa (laws_FnNearOut.j0 kq t385 t388 t389 t390 t393 t394 x42_5 = some r) ∧ zaa (kq ≤ k) ∧ zaa (Kd.V Kd.string 9 wc w.heap.size (fun k_ => some k_ ≠ (v391 : Value).ownBlock ∧ some k_ ≠ (v395 : Value).ownBlock) (.slice Ao8 t385.length co8) t385) ∧ zaa (Kd.R (Kd.int .i64) 3 wc w.heap.size (fun k_ => some k_ ≠ (v395 : Value).ownBlock) v391 t389) ∧ zaa (Kd.R (Kd.int .i64) 3 wc w.heap.size (fun k_ => some k_ ≠ (v391 : Value).ownBlock) v395 t393) ∧ zaa (Below w.heap.size w wc))
  case first =>
   have H := HC6.out
   clear HC6
   by_cases c11 : (t390 != t394) = true
   ·rw [if_pos c11] at H
    have c11b0 : (t390 != t394) = true := c11
    (try (have c11b1 : decide (t390 = t394) = false := by simpa using c11))
    (try (have c11b2 : (t390 == t394) = false := by simpa using c11))
    (try (have c11b3 : ¬ (t390 = t394) := by simpa using c11))
    clear c11
    (first | rw [c11b0] | (simp only [zat, zau]; rw [c11b0]) | skip)
    have H' := zaa.mk H
    clear H
    go_wp2
    go_meet
    case rel => exact ⟨_, (true), (by first | rfl | (simp; done) | (simp [*]; done)), H', ⟨by first | omega | exact Nat.le_refl _⟩, ⟨by (with_reducible repeat (first | apply Kd.V_alloc | apply Kd.V_drewN | apply Kd.V_drew)); exact Kd.V_mono HO387.out (fun _ hk => ⟨hk.1.2, hk.2⟩)⟩, ⟨by (with_reducible repeat (first | apply Kd.R_alloc | apply Kd.R_drewN | apply Kd.R_drew)); exact Kd.R_mono HO392.out (fun _ hk => hk.2)⟩, ⟨by (with_reducible repeat (first | apply Kd.R_alloc | apply Kd.R_drewN | apply Kd.R_drew)); exact Kd.R_mono HO396.out (fun _ hk => hk.2)⟩, ⟨by repeat (first | (with_reducible first | exact HB.out | apply zac | apply zab | apply zad) | exact HB.out)⟩⟩
   ·rw [if_neg c11] at H
    have c11b0 : (t390 != t394) = false := by simpa using c11
    (try (have c11b1 : decide (t390 = t394) = true := by simpa using c11))
    (try (have c11b2 : (t390 == t394) = true := by simpa using c11))
    clear c11
    (first | rw [c11b0] | (simp only [zat, zau]; rw [c11b0]) | skip)
    replace H := Option.bind_eq_some_iff.mp H
    obtain ⟨t397, A120, H⟩ := H
    replace H : (if t397 = true then (laws_FnNearOut.j0 k t385 t388 t389 t390 t393 t394 (!t390)) else (laws_FnNearOut.j0 k t385 t388 t389 t390 t393 t394 true)) = some r := H
    have A12 := zaa.mk A120
    clear A120
    by_cases c13 : t397 = true
    ·subst c13
     have H1 : (laws_FnNearOut.j0 k t385 t388 t389 t390 t393 t394 (!t390)) = some r := by rw [if_pos rfl] at H; exact H
     clear H
     have H := H1
     clear H1
     have H' := zaa.mk H
     clear H
     obtain ⟨Ao14, co14, eo14⟩ := Kd.R_slice HO392.out
     subst eo14
     obtain ⟨Ao15, co15, eo15⟩ := Kd.R_slice HO396.out
     subst eo15
     go_wp2_with (first | (go_at_call 22; (with_reducible refine (laws_sameInts.calls k _ _ t389 _ _ t393 true _ ?side1 ?side2 ?side3 ?side4 A12.out).mono ?_); (case side1 => repeat (first | exact (Kd.R_reads' HO392.out).2.2 | (with_reducible refine Kd.C_alloc ?_ _) | (with_reducible refine Kd.C_drewN ?_ _) | (with_reducible refine Kd.C_drew ?_))); (case side2 => exact (Kd.R_reads' HO392.out).2.1); (case side3 => repeat (first | exact (Kd.R_reads' HO396.out).2.2 | (with_reducible refine Kd.C_alloc ?_ _) | (with_reducible refine Kd.C_drewN ?_ _) | (with_reducible refine Kd.C_drew ?_))); (case side4 => exact (Kd.R_reads' HO396.out).2.1); rintro e w' ⟨rfl, ⟨nd, rfl⟩⟩))
     go_meet
     case rel => exact ⟨_, (!t390), (by first | rfl | (simp; done) | (simp [*]; done)), H', ⟨by first | omega | exact Nat.le_refl _⟩, ⟨by (with_reducible repeat (first | apply Kd.V_alloc | apply Kd.V_drewN | apply Kd.V_drew)); exact Kd.V_mono HO387.out (fun _ hk => ⟨hk.1.2, hk.2⟩)⟩, ⟨by (with_reducible repeat (first | apply Kd.R_alloc | apply Kd.R_drewN | apply Kd.R_drew)); exact Kd.R_mono HO392.out (fun _ hk => hk.2)⟩, ⟨by (with_reducible repeat (first | apply Kd.R_alloc | apply Kd.R_drewN | apply Kd.R_drew)); exact Kd.R_mono HO396.out (fun _ hk => hk.2)⟩, ⟨by repeat (first | (with_reducible first | exact HB.out | apply zac | apply zab | apply zad) | exact HB.out)⟩⟩
    ·replace c13 := Bool.eq_false_iff.mpr c13
     subst c13
     have H1 : (laws_FnNearOut.j0 k t385 t388 t389 t390 t393 t394 true) = some r := by rw [if_neg (show ¬ (false = true) by decide)] at H; exact H
     clear H
     have H := H1
     clear H1
     have H' := zaa.mk H
     clear H
     obtain ⟨Ao16, co16, eo16⟩ := Kd.R_slice HO392.out
     subst eo16
     obtain ⟨Ao17, co17, eo17⟩ := Kd.R_slice HO396.out
     subst eo17
     go_wp2_with (first | (go_at_call 22; (with_reducible refine (laws_sameInts.calls k _ _ t389 _ _ t393 false _ ?side1 ?side2 ?side3 ?side4 A12.out).mono ?_); (case side1 => repeat (first | exact (Kd.R_reads' HO392.out).2.2 | (with_reducible refine Kd.C_alloc ?_ _) | (with_reducible refine Kd.C_drewN ?_ _) | (with_reducible refine Kd.C_drew ?_))); (case side2 => exact (Kd.R_reads' HO392.out).2.1); (case side3 => repeat (first | exact (Kd.R_reads' HO396.out).2.2 | (with_reducible refine Kd.C_alloc ?_ _) | (with_reducible refine Kd.C_drewN ?_ _) | (with_reducible refine Kd.C_drew ?_))); (case side4 => exact (Kd.R_reads' HO396.out).2.1); rintro e w' ⟨rfl, ⟨nd, rfl⟩⟩))
     go_meet
     case rel => exact ⟨_, (true), (by first | rfl | (simp; done) | (simp [*]; done)), H', ⟨by first | omega | exact Nat.le_refl _⟩, ⟨by (with_reducible repeat (first | apply Kd.V_alloc | apply Kd.V_drewN | apply Kd.V_drew)); exact Kd.V_mono HO387.out (fun _ hk => ⟨hk.1.2, hk.2⟩)⟩, ⟨by (with_reducible repeat (first | apply Kd.R_alloc | apply Kd.R_drewN | apply Kd.R_drew)); exact Kd.R_mono HO392.out (fun _ hk => hk.2)⟩, ⟨by (with_reducible repeat (first | apply Kd.R_alloc | apply Kd.R_drewN | apply Kd.R_drew)); exact Kd.R_mono HO396.out (fun _ hk => hk.2)⟩, ⟨by repeat (first | (with_reducible first | exact HB.out | apply zac | apply zab | apply zad) | exact HB.out)⟩⟩
  case rest =>
   clear HC6
   try clear c1
   try clear c2
   try clear c2b0
   try clear c2b1
   try clear p2
   try clear c4
   try clear c11
   try clear c11b0
   try clear c11b1
   try clear c11b2
   try clear c13
   try clear c15
   obtain ⟨kq, x42_5, rfl, HA, HJ5, HO_3, HO_5, HO_7, HB⟩ := hcut
   cases kq with
   | zero => exact absurd HA.out (by simp [laws_FnNearOut.j0])
   | succ kj5 =>
    have H := HA.out
    clear HA
    simp only [laws_FnNearOut.j0] at H
    by_cases c18 : x42_5 = true
    ·subst c18
     have H1 : (if (t390 == t394) = true then ((laws_sameInts.f kj5 t389 t393).bind fun t398 => (some t398)) else (some false)) = some r := by rw [if_pos rfl] at H; exact H
     clear H
     have H := H1
     clear H1
     by_cases c19 : (t390 == t394) = true
     ·rw [if_pos c19] at H
      have c19b0 : (t390 == t394) = true := c19
      (try (have c19b1 : decide (t390 = t394) = true := by simpa using c19))
      (try (have c19b2 : (t390 == t394) = true := by simpa using c19))
      clear c19
      replace H := Option.bind_eq_some_iff.mp H
      obtain ⟨t398, A200, H⟩ := H
      replace H : (some t398) = some r := H
      have A20 := zaa.mk A200
      clear A200
      obtain rfl := Option.some.inj H
      obtain ⟨Ao21, co21, eo21⟩ := Kd.R_slice HO_5.out
      subst eo21
      obtain ⟨Ao22, co22, eo22⟩ := Kd.R_slice HO_7.out
      subst eo22
      go_wp2_with (first | (go_at_call 22; (with_reducible refine (laws_sameInts.calls kj5 _ _ t389 _ _ t393 t398 _ ?side1 ?side2 ?side3 ?side4 A20.out).mono ?_); (case side1 => repeat (first | exact (Kd.R_reads' HO_5.out).2.2 | (with_reducible refine Kd.C_alloc ?_ _) | (with_reducible refine Kd.C_drewN ?_ _) | (with_reducible refine Kd.C_drew ?_))); (case side2 => exact (Kd.R_reads' HO_5.out).2.1); (case side3 => repeat (first | exact (Kd.R_reads' HO_7.out).2.2 | (with_reducible refine Kd.C_alloc ?_ _) | (with_reducible refine Kd.C_drewN ?_ _) | (with_reducible refine Kd.C_drew ?_))); (case side4 => exact (Kd.R_reads' HO_7.out).2.1); rintro e w' ⟨rfl, ⟨nd, rfl⟩⟩))
      go_ret
      exact ⟨by first | rfl | (simp [zap, zao] <;> rfl) | (simp [*, zap, zao] <;> rfl), by repeat (first | (with_reducible first | exact HB.out | apply zac | apply zab | apply zad) | exact HB.out)⟩
     ·rw [if_neg c19] at H
      have c19b0 : (t390 == t394) = false := by simpa using c19
      (try (have c19b1 : decide (t390 = t394) = false := by simpa using c19))
      (try (have c19b2 : (t390 == t394) = false := by simpa using c19))
      (try (have c19b3 : ¬ (t390 = t394) := by simpa using c19))
      clear c19
      obtain rfl := Option.some.inj H
      go_wp2
      go_ret
      exact ⟨by first | rfl | (simp [zap, zao] <;> rfl) | (simp [*, zap, zao] <;> rfl), by repeat (first | (with_reducible first | exact HB.out | apply zac | apply zab | apply zad) | exact HB.out)⟩
    ·replace c18 := Bool.eq_false_iff.mpr c18
     subst c18
     have H1 : (laws_FnNearOut.l0 kj5 t385 t388 t389 1) = some r := by rw [if_neg (show ¬ (false = true) by decide)] at H; exact H
     clear H
     have H := H1
     clear H1
     have H' := zaa.mk H
     clear H
     go_wp2
     go_loopg [9] kj5 (fun kq v9 w' => ∃ (x9_2 : Int), v9 = .int .i64 x9_2 ∧ zaa (laws_FnNearOut.l0 kq t385 t388 t389 x9_2 = some r) ∧ zaa (kq ≤ kj5) ∧ zaa (Kd.V Kd.string 9 w' w.heap.size (fun k_ => some k_ ≠ (v391 : Value).ownBlock) (.slice Ao8 t385.length co8) t385) ∧ zaa (Kd.R (Kd.int .i64) 3 w' w.heap.size (fun _ => True) v391 t389) ∧ zaa (Below w.heap.size w w'))
     case atStart => exact ⟨(1), (by first | rfl | (simp; done) | (simp [*]; done)), H', ⟨Nat.le_refl _⟩, ⟨by (with_reducible repeat (first | apply Kd.V_alloc | apply Kd.V_drewN | apply Kd.V_drew)); exact Kd.V_mono HO_3.out (fun _ hk => hk.1)⟩, ⟨by (with_reducible repeat (first | apply Kd.R_alloc | apply Kd.R_drewN | apply Kd.R_drew)); exact Kd.R_mono HO_5.out (fun _ hk => trivial)⟩, ⟨by repeat (first | (with_reducible first | exact HB.out | apply zac | apply zab | apply zad) | exact HB.out)⟩⟩
     case round =>
      clear H'
      try clear c1
      try clear c2
      try clear c2b0
      try clear c2b1
      try clear p2
      try clear c4
      try clear c11
      try clear c11b0
      try clear c11b1
      try clear c11b2
      try clear c13
      try clear c15
      try clear c18
      try clear c19
      try clear c19b0
      try clear c19b1
      try clear c19b2
      try clear c21
      try clear p2
      obtain ⟨x9_2, rfl, HA, HK2, HO_3, HO_5, HB⟩ := hrel
      cases gk with
      | zero => exact absurd HA.out (by simp [laws_FnNearOut.l0])
      | succ k2 =>
       have H := HA.out
       clear HA
       simp only [laws_FnNearOut.l0] at H
       by_cases c23 : x9_2 < (t389.length : Int)
       ·rw [if_pos c23] at H
        have c23b0 : decide (x9_2 < (t389.length : Int)) = true := decide_eq_true c23
        clear c23
        obtain ⟨ji24, hji24⟩ : ∃ j_ : Int, (wrap64 (x9_2 - 1)) = j_ := ⟨_, rfl⟩
        replace H : (if 0 ≤ (ji24) then (if (ji24) < (t389.length : Int) then (if 0 ≤ x9_2 then ((impl_NearIs.f t385 (rd t389 (ji24)) (rd t389 x9_2)).bind fun t401 => (if t401 = true then (laws_FnNearOut.l0 k2 t385 t388 t389 (wrap64 (x9_2 + 1))) else (some false))) else (none)) else (none)) else (none)) = some r := by first | (rw [hji24] at H; exact H) | (simp only [hji24] at H ⊢; exact H)
        have hji24w : (IntKind.i64.wrap (x9_2 - 1)) = ji24 := (zat _).trans hji24
        by_cases c25 : 0 ≤ (ji24)
        ·rw [if_pos c25] at H
         have c25b0 : decide (0 ≤ (ji24)) = true := decide_eq_true c25
         clear c25
         by_cases c26 : (ji24) < (t389.length : Int)
         ·rw [if_pos c26] at H
          have c26b0 : decide ((ji24) < (t389.length : Int)) = true := decide_eq_true c26
          clear c26
          by_cases c27 : 0 ≤ x9_2
          ·rw [if_pos c27] at H
           have c27b0 : decide (0 ≤ x9_2) = true := decide_eq_true c27
           clear c27
           replace H := Option.bind_eq_some_iff.mp H
           obtain ⟨t401, A280, H⟩ := H
           replace H : (if t401 = true then (laws_FnNearOut.l0 k2 t385 t388 t389 (wrap64 (x9_2 + 1))) else (some false)) = some r := H
           have A28 := zaa.mk A280
           clear A280
           by_cases c29 : t401 = true
           ·subst c29
            have H1 : (laws_FnNearOut.l0 k2 t385 t388 t389 (wrap64 (x9_2 + 1))) = some r := by rw [if_pos rfl] at H; exact H
            clear H
            have H := H1
            clear H1
            have H' := zaa.mk H
            clear H
            obtain ⟨Ao30, co30, eo30⟩ := Kd.R_slice HO_5.out
            subst eo30
            try go_wp2
            have n0_ := zaa.mk (Kd.V_drew HO_3.out)
            have n1_ := zaa.mk (Kd.R_drew HO_5.out)
            have n2_ := zaa.mk (zad HB.out)
            clear HO_3
            clear HO_5
            clear HB
            have HO_3 := n0_
            have HO_5 := n1_
            have HB := n2_
            clear n0_ n1_ n2_
            have p399 : 0 ≤ ((ji24) : Int) := of_decide_eq_true (by first | (with_reducible assumption) | assumption)
            have q399 : (ji24) < (t389.length : Int) := of_decide_eq_true (by first | (with_reducible assumption) | assumption)
            obtain ⟨ad399, e399, hx399_0⟩ := Kd.at_int (Kd.R_reads' HO_5.out).2.2 (ji24) p399 q399
            cases e399
            replace p399 := eq_true p399
            replace q399 := eq_true q399
            have p400 : 0 ≤ (x9_2 : Int) := of_decide_eq_true (by first | (with_reducible assumption) | assumption)
            have q400 : x9_2 < (t389.length : Int) := of_decide_eq_true (by first | (with_reducible assumption) | assumption)
            obtain ⟨ad400, e400, hx400_0⟩ := Kd.at_int (Kd.R_reads' HO_5.out).2.2 x9_2 p400 q400
            obtain rfl : ad399 = ad400 := (by injection e400)
            replace p400 := eq_true p400
            replace q400 := eq_true q400
            refine start_ (n := 12) (S := fun w' => w'.cell? (ad399.add ((ji24)).toNat) = some (.int .i64 (rd t389 (ji24))) ∧ w'.cell? (ad399.add (x9_2).toNat) = some (.int .i64 (rd t389 x9_2))) (ds := []) #[false, false, false, false, false, false, false, false, false, false, false, false] (by kernel_rfl) rfl rfl ⟨hx399_0, hx400_0⟩ (fun hHeld => ?_); refine with_tabW laws_FnNearOut.tab11 laws_FnNearOut.bits11 (fun HT_ HW_ => ?_)
            generalize wr.drew = w31 at HO_3 HO_5 HB hx399_0 hx400_0 hHeld ⊢
            refine zbd (i := 0) (N := some 57) (v := ?_) (a' := ?_) #[true, false, false, false, false, false, false, false, false, false, false, false] rfl rfl (any_of HT_.out (by kernel_rfl)) (fun _ _ _ h => h) (Or.inl ⟨by rfl, ?_⟩) ?_ ?_
            rotate_left
            ·intro w'
             go_simp
             with_reducible rfl
            rotate_left
            ·simp only [Act.put, List.setIfInBounds_toArray, List.set_cons_zero, List.set_cons_succ, zat, zau]
             rfl
            refine zbd (i := 1) (N := some 58) (v := ?_) (a' := ?_) #[true, true, false, false, false, false, false, false, false, false, false, false] rfl rfl (any_of HT_.out (by kernel_rfl)) (fun _ _ _ h => h) (Or.inl ⟨by rfl, ?_⟩) ?_ ?_
            rotate_left
            ·intro w'
             go_simp
             with_reducible rfl
            rotate_left
            ·simp only [Act.put, List.setIfInBounds_toArray, List.set_cons_zero, List.set_cons_succ, zat, zau]
             rfl
            refine zbd (i := 2) (N := some 59) (v := ?_) (a' := ?_) #[true, true, true, false, false, false, false, false, false, false, false, false] rfl rfl (any_of HT_.out (by kernel_rfl)) (fun _ _ _ h => h) (Or.inl ⟨by rfl, ?_⟩) ?_ ?_
            rotate_left
            ·intro w'
             go_simp
             with_reducible rfl
            rotate_left
            ·simp only [Act.put, List.setIfInBounds_toArray, List.set_cons_zero, List.set_cons_succ, zat, zau]
             rfl
            refine zbd (i := 3) (N := some 60) (v := ?_) (a' := ?_) #[true, true, true, true, false, false, false, false, false, false, false, false] rfl rfl (any_of HT_.out (by kernel_rfl)) (fun _ _ _ h => h) (Or.inl ⟨by rfl, ?_⟩) ?_ ?_
            rotate_left
            ·intro w'
             go_simp
             with_reducible rfl
            rotate_left
            ·simp only [Act.put, List.setIfInBounds_toArray, List.set_cons_zero, List.set_cons_succ, zat, zau]
             rfl
            refine zbd (i := 4) (N := some 61) (v := ?_) (a' := ?_) #[true, true, true, true, true, false, false, false, false, false, false, false] rfl rfl (any_of HT_.out (by kernel_rfl)) (fun _ _ _ h => h) (Or.inl ⟨by rfl, ?_⟩) ?_ ?_
            rotate_left
            ·intro w'
             go_simp
             with_reducible rfl
            rotate_left
            ·simp only [Act.put, List.setIfInBounds_toArray, List.set_cons_zero, List.set_cons_succ, zat, zau]
             rfl
            refine zbd (i := 6) (N := some 63) (v := ?_) (a' := ?_) #[true, true, true, true, true, false, true, false, false, false, false, false] rfl rfl (any_of HT_.out (by kernel_rfl)) (fun _ _ _ h => h) (Or.inl ⟨by rfl, ?_⟩) ?_ ?_
            rotate_left
            ·intro w'
             go_simp
             with_reducible rfl
            rotate_left
            ·simp only [Act.put, List.setIfInBounds_toArray, List.set_cons_zero, List.set_cons_succ, zat, zau]
             rfl
            refine zbd (i := 7) (N := some 64) (v := ?_) (a' := ?_) #[true, true, true, true, true, false, true, true, false, false, false, false] rfl rfl (any_of HT_.out (by kernel_rfl)) (fun _ _ _ h => h) (Or.inl ⟨by rfl, ?_⟩) ?_ ?_
            rotate_left
            ·intro w'
             go_simp
             with_reducible rfl
            rotate_left
            ·simp only [Act.put, List.setIfInBounds_toArray, List.set_cons_zero, List.set_cons_succ, zat, zau]
             rfl
            refine zbd (i := 8) (N := some 65) (v := ?_) (a' := ?_) #[true, true, true, true, true, false, true, true, true, false, false, false] rfl rfl (any_of HT_.out (by kernel_rfl)) (fun _ _ _ h => h) (Or.inl ⟨by rfl, ?_⟩) ?_ ?_
            rotate_left
            ·intro w'
             go_simp
             with_reducible rfl
            rotate_left
            ·simp only [Act.put, List.setIfInBounds_toArray, List.set_cons_zero, List.set_cons_succ, zat, zau]
             rfl
            refine take_ (i := 5) (N := some 62) (v := ?_) (a' := ?_) #[true, true, true, true, true, true, true, true, true, false, false, false] rfl rfl (take_ofW HT_.out HW_.out (by kernel_rfl)) (fun _ _ _ h => h) (Or.inl ⟨by rfl, ?_⟩) hHeld ?_ ?_
            rotate_left
            ·rintro w' ⟨s0, s1⟩
             go_simp
             with_reducible rfl
            rotate_left
            ·simp only [Act.put, List.setIfInBounds_toArray, List.set_cons_zero, List.set_cons_succ, zat, zau]
             rfl
            refine take_ (i := 9) (N := some 66) (v := ?_) (a' := ?_) #[true, true, true, true, true, true, true, true, true, true, false, false] rfl rfl (take_ofW HT_.out HW_.out (by kernel_rfl)) (fun _ _ _ h => h) (Or.inl ⟨by rfl, ?_⟩) hHeld ?_ ?_
            rotate_left
            ·rintro w' ⟨s0, s1⟩
             go_simp
             with_reducible rfl
            rotate_left
            ·simp only [Act.put, List.setIfInBounds_toArray, List.set_cons_zero, List.set_cons_succ, zat, zau]
             rfl
            refine one_ (i := 10) (N := some 67) #[true, true, true, true, true, true, true, true, true, true, true, false] rfl rfl (one_of HT_.out (by kernel_rfl)) (by decide) (fun K hK => ?_)
            refine goes_ Try.func23 (by kernel_rfl) rfl #[.slice Ao8 t385.length co8, .int .i64 (rd t389 (ji24)), .int .i64 (rd t389 x9_2)] (by rfl) rfl rfl (by (try simp only [List.map_toArray, List.map_cons, List.map_nil]); first | done | (simp only [hji24]; rfl) | rfl | (simp only [List.length_drop, List.length_take]; rfl)) ?_
            with_reducible refine (impl_NearIs.calls _ _ t385 (rd t389 (ji24)) (rd t389 x9_2) true _ ?side1 ?side2 A28.out).mono ?_
            (case side1 => repeat (first | exact (Kd.V_reads' HO_3.out).2.2 | (with_reducible refine Kd.C_alloc ?_ _) | (with_reducible refine Kd.C_drewN ?_ _) | (with_reducible refine Kd.C_drew ?_)))
            (case side2 => exact (Kd.V_reads' HO_3.out).2.1)
            rintro e w32 ⟨rfl, hb⟩
            have HS0_ := (hb.cell (World.block_lt_of_cell? _ _ (hHeld.1))).trans (hHeld.1)
            have HS1_ := (hb.cell (World.block_lt_of_cell? _ _ (hHeld.2))).trans (hHeld.2)
            refine ⟨_, rfl, ?_⟩
            have n0_ := zaa.mk (Kd.V_below (by (with_reducible repeat (first | apply Kd.V_alloc | apply Kd.V_drewN | apply Kd.V_drew)); exact HO_3.out) hb)
            have n1_ := zaa.mk (Kd.R_below (by (with_reducible repeat (first | apply Kd.R_alloc | apply Kd.R_drewN | apply Kd.R_drew)); exact HO_5.out) hb)
            have n2_ := zaa.mk (zah (by repeat (first | (with_reducible first | exact HB.out | apply zac | apply zab | apply zad) | exact HB.out)) hb)
            clear HO_3
            clear HO_5
            clear HB
            have HO_3 := n0_
            have HO_5 := n1_
            have HB := n2_
            clear n0_ n1_ n2_
            (try clear hb)
            (try clear hb2)
            (try clear hk)
            (try clear hi)
            refine hK.out _ _ ⟨HS0_, HS1_⟩ (fun hHeld => ?_)
            clear hK K
            refine norm_ (a' := ?_) ?_ ?_
            rotate_left
            ·show Act.put _ (some 67) _ = _
             simp only [Act.put, List.setIfInBounds_toArray, List.set_cons_zero, List.set_cons_succ, zat, zau]
             rfl
            refine zbd (i := 11) (N := some 68) (v := ?_) (a' := ?_) #[true, true, true, true, true, true, true, true, true, true, true, true] rfl rfl (any_of HT_.out (by kernel_rfl)) (fun _ _ _ h => h) (Or.inl ⟨by rfl, ?_⟩) ?_ ?_
            rotate_left
            ·intro w'
             go_simp
             with_reducible rfl
            rotate_left
            ·simp only [Act.put, List.setIfInBounds_toArray, List.set_cons_zero, List.set_cons_succ, zat, zau]
             rfl
            refine done_ (done_of HT_.out (by kernel_rfl)) ?_
            try go_wp2
            go_roundg k2
            case measure => have := HJ5.out; have := HK2.out; omega
            case rel => exact ⟨(wrap64 (x9_2 + 1)), (by first | rfl | (simp; done) | (simp [*]; done)), H', ⟨by have := HJ5.out; have := HK2.out; omega⟩, ⟨by (with_reducible repeat (first | apply Kd.V_alloc | apply Kd.V_drewN | apply Kd.V_drew)); exact HO_3.out⟩, ⟨by (with_reducible repeat (first | apply Kd.R_alloc | apply Kd.R_drewN | apply Kd.R_drew)); exact HO_5.out⟩, ⟨by repeat (first | (with_reducible first | exact HB.out | apply zac | apply zab | apply zad) | exact HB.out)⟩⟩
           ·replace c29 := Bool.eq_false_iff.mpr c29
            subst c29
            have H1 : (some false) = some r := by rw [if_neg (show ¬ (false = true) by decide)] at H; exact H
            clear H
            have H := H1
            clear H1
            obtain rfl := Option.some.inj H
            obtain ⟨Ao33, co33, eo33⟩ := Kd.R_slice HO_5.out
            subst eo33
            try go_wp2
            have n0_ := zaa.mk (Kd.V_drew HO_3.out)
            have n1_ := zaa.mk (Kd.R_drew HO_5.out)
            have n2_ := zaa.mk (zad HB.out)
            clear HO_3
            clear HO_5
            clear HB
            have HO_3 := n0_
            have HO_5 := n1_
            have HB := n2_
            clear n0_ n1_ n2_
            have p399 : 0 ≤ ((ji24) : Int) := of_decide_eq_true (by first | (with_reducible assumption) | assumption)
            have q399 : (ji24) < (t389.length : Int) := of_decide_eq_true (by first | (with_reducible assumption) | assumption)
            obtain ⟨ad399, e399, hx399_0⟩ := Kd.at_int (Kd.R_reads' HO_5.out).2.2 (ji24) p399 q399
            cases e399
            replace p399 := eq_true p399
            replace q399 := eq_true q399
            have p400 : 0 ≤ (x9_2 : Int) := of_decide_eq_true (by first | (with_reducible assumption) | assumption)
            have q400 : x9_2 < (t389.length : Int) := of_decide_eq_true (by first | (with_reducible assumption) | assumption)
            obtain ⟨ad400, e400, hx400_0⟩ := Kd.at_int (Kd.R_reads' HO_5.out).2.2 x9_2 p400 q400
            obtain rfl : ad399 = ad400 := (by injection e400)
            replace p400 := eq_true p400
            replace q400 := eq_true q400
            refine start_ (n := 12) (S := fun w' => w'.cell? (ad399.add ((ji24)).toNat) = some (.int .i64 (rd t389 (ji24))) ∧ w'.cell? (ad399.add (x9_2).toNat) = some (.int .i64 (rd t389 x9_2))) (ds := []) #[false, false, false, false, false, false, false, false, false, false, false, false] (by kernel_rfl) rfl rfl ⟨hx399_0, hx400_0⟩ (fun hHeld => ?_); refine with_tabW laws_FnNearOut.tab11 laws_FnNearOut.bits11 (fun HT_ HW_ => ?_)
            generalize wr.drew = w34 at HO_3 HO_5 HB hx399_0 hx400_0 hHeld ⊢
            refine zbd (i := 0) (N := some 57) (v := ?_) (a' := ?_) #[true, false, false, false, false, false, false, false, false, false, false, false] rfl rfl (any_of HT_.out (by kernel_rfl)) (fun _ _ _ h => h) (Or.inl ⟨by rfl, ?_⟩) ?_ ?_
            rotate_left
            ·intro w'
             go_simp
             with_reducible rfl
            rotate_left
            ·simp only [Act.put, List.setIfInBounds_toArray, List.set_cons_zero, List.set_cons_succ, zat, zau]
             rfl
            refine zbd (i := 1) (N := some 58) (v := ?_) (a' := ?_) #[true, true, false, false, false, false, false, false, false, false, false, false] rfl rfl (any_of HT_.out (by kernel_rfl)) (fun _ _ _ h => h) (Or.inl ⟨by rfl, ?_⟩) ?_ ?_
            rotate_left
            ·intro w'
             go_simp
             with_reducible rfl
            rotate_left
            ·simp only [Act.put, List.setIfInBounds_toArray, List.set_cons_zero, List.set_cons_succ, zat, zau]
             rfl
            refine zbd (i := 2) (N := some 59) (v := ?_) (a' := ?_) #[true, true, true, false, false, false, false, false, false, false, false, false] rfl rfl (any_of HT_.out (by kernel_rfl)) (fun _ _ _ h => h) (Or.inl ⟨by rfl, ?_⟩) ?_ ?_
            rotate_left
            ·intro w'
             go_simp
             with_reducible rfl
            rotate_left
            ·simp only [Act.put, List.setIfInBounds_toArray, List.set_cons_zero, List.set_cons_succ, zat, zau]
             rfl
            refine zbd (i := 3) (N := some 60) (v := ?_) (a' := ?_) #[true, true, true, true, false, false, false, false, false, false, false, false] rfl rfl (any_of HT_.out (by kernel_rfl)) (fun _ _ _ h => h) (Or.inl ⟨by rfl, ?_⟩) ?_ ?_
            rotate_left
            ·intro w'
             go_simp
             with_reducible rfl
            rotate_left
            ·simp only [Act.put, List.setIfInBounds_toArray, List.set_cons_zero, List.set_cons_succ, zat, zau]
             rfl
            refine zbd (i := 4) (N := some 61) (v := ?_) (a' := ?_) #[true, true, true, true, true, false, false, false, false, false, false, false] rfl rfl (any_of HT_.out (by kernel_rfl)) (fun _ _ _ h => h) (Or.inl ⟨by rfl, ?_⟩) ?_ ?_
            rotate_left
            ·intro w'
             go_simp
             with_reducible rfl
            rotate_left
            ·simp only [Act.put, List.setIfInBounds_toArray, List.set_cons_zero, List.set_cons_succ, zat, zau]
             rfl
            refine zbd (i := 6) (N := some 63) (v := ?_) (a' := ?_) #[true, true, true, true, true, false, true, false, false, false, false, false] rfl rfl (any_of HT_.out (by kernel_rfl)) (fun _ _ _ h => h) (Or.inl ⟨by rfl, ?_⟩) ?_ ?_
            rotate_left
            ·intro w'
             go_simp
             with_reducible rfl
            rotate_left
            ·simp only [Act.put, List.setIfInBounds_toArray, List.set_cons_zero, List.set_cons_succ, zat, zau]
             rfl
            refine zbd (i := 7) (N := some 64) (v := ?_) (a' := ?_) #[true, true, true, true, true, false, true, true, false, false, false, false] rfl rfl (any_of HT_.out (by kernel_rfl)) (fun _ _ _ h => h) (Or.inl ⟨by rfl, ?_⟩) ?_ ?_
            rotate_left
            ·intro w'
             go_simp
             with_reducible rfl
            rotate_left
            ·simp only [Act.put, List.setIfInBounds_toArray, List.set_cons_zero, List.set_cons_succ, zat, zau]
             rfl
            refine zbd (i := 8) (N := some 65) (v := ?_) (a' := ?_) #[true, true, true, true, true, false, true, true, true, false, false, false] rfl rfl (any_of HT_.out (by kernel_rfl)) (fun _ _ _ h => h) (Or.inl ⟨by rfl, ?_⟩) ?_ ?_
            rotate_left
            ·intro w'
             go_simp
             with_reducible rfl
            rotate_left
            ·simp only [Act.put, List.setIfInBounds_toArray, List.set_cons_zero, List.set_cons_succ, zat, zau]
             rfl
            refine take_ (i := 5) (N := some 62) (v := ?_) (a' := ?_) #[true, true, true, true, true, true, true, true, true, false, false, false] rfl rfl (take_ofW HT_.out HW_.out (by kernel_rfl)) (fun _ _ _ h => h) (Or.inl ⟨by rfl, ?_⟩) hHeld ?_ ?_
            rotate_left
            ·rintro w' ⟨s0, s1⟩
             go_simp
             with_reducible rfl
            rotate_left
            ·simp only [Act.put, List.setIfInBounds_toArray, List.set_cons_zero, List.set_cons_succ, zat, zau]
             rfl
            refine take_ (i := 9) (N := some 66) (v := ?_) (a' := ?_) #[true, true, true, true, true, true, true, true, true, true, false, false] rfl rfl (take_ofW HT_.out HW_.out (by kernel_rfl)) (fun _ _ _ h => h) (Or.inl ⟨by rfl, ?_⟩) hHeld ?_ ?_
            rotate_left
            ·rintro w' ⟨s0, s1⟩
             go_simp
             with_reducible rfl
            rotate_left
            ·simp only [Act.put, List.setIfInBounds_toArray, List.set_cons_zero, List.set_cons_succ, zat, zau]
             rfl
            refine one_ (i := 10) (N := some 67) #[true, true, true, true, true, true, true, true, true, true, true, false] rfl rfl (one_of HT_.out (by kernel_rfl)) (by decide) (fun K hK => ?_)
            refine goes_ Try.func23 (by kernel_rfl) rfl #[.slice Ao8 t385.length co8, .int .i64 (rd t389 (ji24)), .int .i64 (rd t389 x9_2)] (by rfl) rfl rfl (by (try simp only [List.map_toArray, List.map_cons, List.map_nil]); first | done | (simp only [hji24]; rfl) | rfl | (simp only [List.length_drop, List.length_take]; rfl)) ?_
            with_reducible refine (impl_NearIs.calls _ _ t385 (rd t389 (ji24)) (rd t389 x9_2) false _ ?side1 ?side2 A28.out).mono ?_
            (case side1 => repeat (first | exact (Kd.V_reads' HO_3.out).2.2 | (with_reducible refine Kd.C_alloc ?_ _) | (with_reducible refine Kd.C_drewN ?_ _) | (with_reducible refine Kd.C_drew ?_)))
            (case side2 => exact (Kd.V_reads' HO_3.out).2.1)
            rintro e w35 ⟨rfl, hb⟩
            have HS0_ := (hb.cell (World.block_lt_of_cell? _ _ (hHeld.1))).trans (hHeld.1)
            have HS1_ := (hb.cell (World.block_lt_of_cell? _ _ (hHeld.2))).trans (hHeld.2)
            refine ⟨_, rfl, ?_⟩
            have n0_ := zaa.mk (Kd.V_below (by (with_reducible repeat (first | apply Kd.V_alloc | apply Kd.V_drewN | apply Kd.V_drew)); exact HO_3.out) hb)
            have n1_ := zaa.mk (Kd.R_below (by (with_reducible repeat (first | apply Kd.R_alloc | apply Kd.R_drewN | apply Kd.R_drew)); exact HO_5.out) hb)
            have n2_ := zaa.mk (zah (by repeat (first | (with_reducible first | exact HB.out | apply zac | apply zab | apply zad) | exact HB.out)) hb)
            clear HO_3
            clear HO_5
            clear HB
            have HO_3 := n0_
            have HO_5 := n1_
            have HB := n2_
            clear n0_ n1_ n2_
            (try clear hb)
            (try clear hb2)
            (try clear hk)
            (try clear hi)
            refine hK.out _ _ ⟨HS0_, HS1_⟩ (fun hHeld => ?_)
            clear hK K
            refine norm_ (a' := ?_) ?_ ?_
            rotate_left
            ·show Act.put _ (some 67) _ = _
             simp only [Act.put, List.setIfInBounds_toArray, List.set_cons_zero, List.set_cons_succ, zat, zau]
             rfl
            refine zbd (i := 11) (N := some 68) (v := ?_) (a' := ?_) #[true, true, true, true, true, true, true, true, true, true, true, true] rfl rfl (any_of HT_.out (by kernel_rfl)) (fun _ _ _ h => h) (Or.inl ⟨by rfl, ?_⟩) ?_ ?_
            rotate_left
            ·intro w'
             go_simp
             with_reducible rfl
            rotate_left
            ·simp only [Act.put, List.setIfInBounds_toArray, List.set_cons_zero, List.set_cons_succ, zat, zau]
             rfl
            refine done_ (done_of HT_.out (by kernel_rfl)) ?_
            try go_wp2
            go_ret
            exact ⟨by first | rfl | (simp [zap, zao] <;> rfl) | (simp only [← hji24]; first | rfl | (simp [zap, zao] <;> rfl)) | (simp [*, zap, zao] <;> rfl), by repeat (first | (with_reducible first | exact HB.out | apply zac | apply zab | apply zad) | exact HB.out)⟩
          ·rw [if_neg c27] at H
           exact absurd H (by simp)
         ·rw [if_neg c26] at H
          exact absurd H (by simp)
        ·rw [if_neg c25] at H
         exact absurd H (by simp)
       ·rw [if_neg c23] at H
        have c23b0 : decide (x9_2 < (t389.length : Int)) = false := decide_eq_false c23
        clear c23
        by_cases c36 : (t389.length : Int) ≥ 1
        ·rw [if_pos c36] at H
         have c36b0 : decide (1 ≤ (t389.length : Int)) = true := decide_eq_true c36
         have c36b1 : decide (1 ≤ t389.length) = true := decide_eq_true (by omega)
         clear c36
         by_cases c37 : t388 = 0
         ·rw [if_pos c37] at H
          have c37b0 : (t388 == 0) = true := beq_iff_eq.mpr c37
          have c37b1 : (t388 != 0) = false := bne_eq_false_iff_eq.mpr c37
          clear c37
          by_cases c38 : 0 < (t389.length : Int)
          ·rw [if_pos c38] at H
           have c38b0 : decide (0 < (t389.length : Int)) = true := decide_eq_true c38
           have c38b1 : decide (0 < t389.length) = true := decide_eq_true (by omega)
           clear c38
           obtain rfl := Option.some.inj H
           obtain ⟨Ao39, co39, eo39⟩ := Kd.R_slice HO_5.out
           subst eo39
           have p402 : 0 ≤ (0 : Int) := (by omega)
           have q402 : 0 < (t389.length : Int) := of_decide_eq_true (by first | (with_reducible assumption) | assumption)
           obtain ⟨ad402, e402, hx402_0⟩ := Kd.at_int (Kd.R_reads' HO_5.out).2.2 0 p402 q402
           cases e402
           have qi402 : (0 < t389.length) = True := eq_true (by omega)
           (try rw [show ((0 : Int)).toNat = 0 from rfl] at hx402_0)
           (try rw [Addr.add_zero'] at hx402_0)
           replace p402 := eq_true p402
           replace q402 := eq_true q402
           go_wp2
           go_ret
           exact ⟨by first | rfl | (simp [zap, zao] <;> rfl) | (simp [*, zap, zao] <;> rfl), by repeat (first | (with_reducible first | exact HB.out | apply zac | apply zab | apply zad) | exact HB.out)⟩
          ·rw [if_neg c38] at H
           exact absurd H (by simp)
         ·rw [if_neg c37] at H
          have c37b0 : (t388 == 0) = false := beq_eq_false_iff_ne.mpr c37
          have c37b1 : (t388 != 0) = true := bne_iff_ne.mpr c37
          by_cases c40 : t388 = 3
          ·rw [if_pos c40] at H
           have c40b0 : (t388 == 3) = true := beq_iff_eq.mpr c40
           have c40b1 : (t388 != 3) = false := bne_eq_false_iff_eq.mpr c40
           clear c40
           by_cases c41 : 0 < (t389.length : Int)
           ·rw [if_pos c41] at H
            have c41b0 : decide (0 < (t389.length : Int)) = true := decide_eq_true c41
            have c41b1 : decide (0 < t389.length) = true := decide_eq_true (by omega)
            clear c41
            obtain rfl := Option.some.inj H
            obtain ⟨Ao42, co42, eo42⟩ := Kd.R_slice HO_5.out
            subst eo42
            have p403 : 0 ≤ (0 : Int) := (by omega)
            have q403 : 0 < (t389.length : Int) := of_decide_eq_true (by first | (with_reducible assumption) | assumption)
            obtain ⟨ad403, e403, hx403_0⟩ := Kd.at_int (Kd.R_reads' HO_5.out).2.2 0 p403 q403
            cases e403
            have qi403 : (0 < t389.length) = True := eq_true (by omega)
            (try rw [show ((0 : Int)).toNat = 0 from rfl] at hx403_0)
            (try rw [Addr.add_zero'] at hx403_0)
            replace p403 := eq_true p403
            replace q403 := eq_true q403
            go_wp2
            go_ret
            exact ⟨by first | rfl | (simp [zap, zao] <;> rfl) | (simp [*, zap, zao] <;> rfl), by repeat (first | (with_reducible first | exact HB.out | apply zac | apply zab | apply zad) | exact HB.out)⟩
           ·rw [if_neg c41] at H
            exact absurd H (by simp)
          ·rw [if_neg c40] at H
           have c40b0 : (t388 == 3) = false := beq_eq_false_iff_ne.mpr c40
           have c40b1 : (t388 != 3) = true := bne_iff_ne.mpr c40
           obtain rfl := Option.some.inj H
           obtain ⟨Ao43, co43, eo43⟩ := Kd.R_slice HO_5.out
           subst eo43
           go_wp2
           go_ret
           exact ⟨by first | rfl | (simp [zap, zao] <;> rfl) | (simp [*, zap, zao] <;> rfl), by repeat (first | (with_reducible first | exact HB.out | apply zac | apply zab | apply zad) | exact HB.out)⟩
        ·rw [if_neg c36] at H
         have c36b0 : decide (1 ≤ (t389.length : Int)) = false := decide_eq_false c36
         have c36b1 : decide (1 ≤ t389.length) = false := decide_eq_false (by omega)
         clear c36
         obtain rfl := Option.some.inj H
         obtain ⟨Ao44, co44, eo44⟩ := Kd.R_slice HO_5.out
         subst eo44
         go_wp2
         go_ret
         exact ⟨by first | rfl | (simp [zap, zao] <;> rfl) | (simp [*, zap, zao] <;> rfl), by repeat (first | (with_reducible first | exact HB.out | apply zac | apply zab | apply zad) | exact HB.out)⟩
def laws_FnNearOut.Pure : Prop := ∀ (l0 : List Int), l0.length ≤ maxLen → l0.length * 1 ≤ 140737488351232 → (∀ x ∈ l0, (Lit.int .u8 x).wf = true) → ∃ k, laws_FnNearOut.f k l0 = some true
theorem laws_FnNearOut.walk (P : laws_FnNearOut.Pure) (a0 : Option Addr) (len0 cap0 : Nat) (z0 : List Int) (w : World) (w0 : (a0 = none ∧ len0 = 0 ∧ cap0 = 0 ∧ z0 = []) ∨ ∃ x, a0 = some x ∧ len0 ≤ cap0 ∧ cap0 ≤ maxLen ∧ z0.length = cap0 ∧ (∀ i, i < z0.length → w.cell? (x.add i) = some (.int .u8 (z0.getD i 0))) ∧ ∀ n ∈ z0, (Lit.int .u8 n).wf = true) (y0 : len0 * 1 ≤ 140737488351232) :
  Calls Try.prog 4 #[.slice a0 len0 cap0] w fun e w' => e = .returned (.bool true) ∧ Below w.heap.size w w' := by
 obtain ⟨l0, rfl, hr0, hm0, hw0, hc0⟩ := zce.ofRowC w0
 obtain ⟨k, h⟩ := P l0 hm0 y0 hw0
 refine (laws_FnNearOut.calls k _ _ l0 true w (Kd.C_of_reads (d := (0 : Int)) (h1 := fun _ => rfl) hr0) hc0 h).mono ?_
 rintro e w' ⟨rfl, hd⟩
 exact ⟨rfl, hd⟩
end Go.Proofs.Ytickdcegnlldjaa.NO
namespace Go.Proofs.Ytickdcegnlldjaa.Hd
open Go.RowKit Go.PW.PrintWords Go.PW.PrintLast Go.PW.PrintMore Go.Proofs.Ytickdcegnlldjaa.PB
structure Lil (p : List ByteArray) : Prop where
 high : p.length ≤ 100
 row : ∀ s ∈ p, s.size ≤ 100
theorem Lil.small {p : List ByteArray} (h : Lil p) : smallP p := ⟨by have := h.high; omega, fun s hs => by have := h.row s hs; omega⟩
theorem Mid.lil {p : List ByteArray} {wi : Nat} (h : Mid p wi) : Lil p := ⟨h.high, fun s hs => by rw [h.row s hs]; exact h.wide⟩
theorem bt_range (s : ByteArray) (j : Nat) (hj : j < s.size) : 0 ≤ bt s (j : Int) ∧ bt s (j : Int) ≤ 255 := by
 obtain ⟨x, hx⟩ : ∃ x, (bytesOf s)[j]? = some x := ⟨_, List.getElem?_eq_getElem (by rw [zbh]; omega)⟩
 have hr := bytesOf_range s x (List.mem_of_getElem? hx)
 rw [← bt_get hx] at hr
 exact hr
theorem roomsA_l1 (p : List ByteArray) (h : Lil p) (i : Nat) (s : ByteArray) (hs : p[i]? = some s) (hnext : ∀ v, 0 ≤ v → v ≤ 255 → ∃ r, 0 ≤ r ∧ r ≤ 255 ∧ Evs (fun k => spec_l1Rooms.l0 k p v ((i + 1 : Nat) : Int)) r) :
  ∀ m j v, j + m = s.size → 0 ≤ v → v ≤ 255 → ∃ r, 0 ≤ r ∧ r ≤ 255 ∧ Evs (fun k => spec_l1Rooms.l1 k p v (i : Int) (j : Int)) r := by
 have h6 := h.high
 have w6 := h.row s (List.mem_of_getElem? hs)
 have hi := (List.getElem?_eq_some_iff.1 hs).1
 intro m
 induction m with
 | zero =>
  intro j v hj v0 v1
  obtain ⟨r, r0, r1, hr⟩ := hnext v v0 v1
  refine ⟨r, r0, r1, Evs.step (fun k => ?_) hr⟩
  conv => lhs; unfold spec_l1Rooms.l1
  rw [if_pos (by omega), if_pos (by omega), zcm hs, if_neg (by omega), zbn (by omega)]
 | succ m ih =>
  intro j v hj v0 v1
  have hb := bt_range s j (by omega)
  obtain ⟨r, r0, r1, hr⟩ := ih (j + 1) (max v (bt s (j : Int) - 97 + 1)) (by omega) (by omega) (by omega)
  refine ⟨r, r0, r1, Evs.step (fun k => ?_) hr⟩
  conv => lhs; unfold spec_l1Rooms.l1
  rw [if_pos (by omega), if_pos (by omega), zcm hs, if_pos (by omega), if_pos (by omega), zaq (x := bt s (j : Int)) (by omega) (by omega), zaq (x := bt s (j : Int) - 97) (by omega) (by omega), zaq (x := bt s (j : Int) - 97 + 1) (by omega) (by omega), zbn (by omega), mx_max]
theorem roomsA_l0 (p : List ByteArray) (h : Lil p) : ∀ m i v, i + m = p.length → 0 ≤ v → v ≤ 255 → ∃ r, 0 ≤ r ∧ r ≤ 255 ∧ Evs (fun k => spec_l1Rooms.l0 k p v (i : Int)) r := by
 have h6 := h.high
 intro m
 induction m with
 | zero =>
  intro i v hi v0 v1
  refine ⟨v, v0, v1, Evs.step (h := fun _ => some v) (fun k => ?_) (Evs.const _)⟩
  conv => lhs; unfold spec_l1Rooms.l0
  rw [if_neg (by omega)]
 | succ m ih =>
  intro i v hi v0 v1
  obtain ⟨s, hs⟩ : ∃ s, p[i]? = some s := ⟨_, List.getElem?_eq_getElem (by omega)⟩
  obtain ⟨r, r0, r1, hr⟩ := roomsA_l1 p h i s hs (fun v v0 v1 => ih (i + 1) v (by omega) v0 v1) s.size 0 v (by omega) v0 v1
  refine ⟨r, r0, r1, Evs.step (fun k => ?_) hr⟩
  conv => lhs; unfold spec_l1Rooms.l0
  rw [if_pos (by omega)]
  rfl
theorem l1Rooms_any (p : List ByteArray) (h : Lil p) : ∃ r, 0 ≤ r ∧ r ≤ 255 ∧ Evs (fun k => spec_l1Rooms.f k p) r := roomsA_l0 p h p.length 0 0 (by omega) (by omega) (by omega)
theorem bytesOf_putS (s : ByteArray) (l n : Nat) (c : Int) (h0 : 0 ≤ c) (h1 : c ≤ 255) : bytesOf (putS s l n c) = putN (bytesOf s) l n c := by
 unfold putS
 refine bytesOf_strOfNums _ fun x hx => ?_
 unfold putN at hx
 obtain ⟨i, hi, e⟩ := List.mem_iff_getElem.1 hx
 rw [List.getElem_mapIdx] at e
 subst e
 split
 ·exact ⟨h0, h1⟩
 ·exact bytesOf_range s _ (List.getElem_mem _)
def putB (t l h m : Nat) (r c : Nat) : Prop := (t ≤ r ∧ r < t + h) ∧ (l ≤ c ∧ c < l + m)
instance (t l h m r c : Nat) : Decidable (putB t l h m r c) := by unfold putB; exact inferInstance
theorem numsOf_put {p : List ByteArray} {wi : Nat} (hs : Small p wi) (t l h m : Nat) (x : Int) (h0 : 0 ≤ x) (h1 : x ≤ 255) : zan (putR p t h l m x) = zbl p.length wi (fun r c => if putB t l h m r c then x else zaw (zan p) r c) := by
 apply List.ext_getElem?
 intro r
 by_cases hr : r < p.length
 ·rw [gridOf_get hr]
  unfold zan putR
  rw [List.getElem?_map, List.getElem?_mapIdx, List.getElem?_eq_getElem hr]
  simp only [Option.map_some]
  congr 1
  have hsz := hs.row _ (List.getElem_mem hr)
  have hrow : ∀ c, c < wi → (bytesOf p[r])[c]? = some (zaw (zan p) r c) := fun c hc => by
   obtain ⟨row, e1, e2⟩ := valAt_get hs.rect (by rw [zbr]; exact hr) hc
   unfold zan at e1
   rw [List.getElem?_map, List.getElem?_eq_getElem hr] at e1
   have e1 := Option.some.inj e1
   rw [e1]
   exact e2
  apply List.ext_getElem?
  intro c
  by_cases hc : c < wi
  ·rw [List.getElem?_map, List.getElem?_range hc]
   simp only [Option.map_some]
   by_cases ht : t ≤ r ∧ r < t + h
   ·rw [if_pos ht, bytesOf_putS _ _ _ _ h0 h1]
    unfold putN
    rw [List.getElem?_mapIdx, hrow c hc]
    simp only [Option.map_some]
    congr 1
    by_cases hl : l ≤ c ∧ c < l + m
    ·rw [if_pos hl, if_pos ⟨ht, hl⟩]
    ·rw [if_neg hl, if_neg (fun z => hl z.2)]; rfl
   ·rw [if_neg ht, if_neg (fun z => ht z.1)]
    exact hrow c hc
  ·rw [List.getElem?_eq_none (by
    split
    ·rw [bytesOf_putS _ _ _ _ h0 h1, putN_length, zbh]; omega
    ·rw [zbh]; omega), List.getElem?_eq_none (by simp; omega)]
 ·rw [List.getElem?_eq_none (by simp [zan, putR]; omega), List.getElem?_eq_none (by rw [zbf]; omega)]
theorem put_f {p : List ByteArray} {wi : Nat} (hs : Small p wi) (t l h m x : Int) (t0 : 0 ≤ t) (l0 : 0 ≤ l) (h0 : 0 ≤ h) (m0 : 0 ≤ m) (th : t + h ≤ p.length) (lm : l + m ≤ wi) (x0 : 0 ≤ x) (x1 : x ≤ 255) : spec_l1Put.f p t l h m x = some (putR p t.toNat h.toNat l.toNat m.toNat x) := by
 have hh := hs.high
 have hw := hs.wide
 have hall : (p.all fun s => decide (l + m ≤ s.size) && decide (s.size ≤ 1048576)) = true := by
  rw [List.all_eq_true]
  intro s hss
  rw [hs.row s hss, decide_eq_true lm, decide_eq_true (show wi ≤ 1048576 by omega)]
  rfl
 unfold spec_l1Put.f
 rw [if_pos]
 unfold putOk
 rw [hall, decide_eq_true t0, decide_eq_true l0, decide_eq_true h0, decide_eq_true m0, decide_eq_true x0, decide_eq_true x1, decide_eq_true (show p.length ≤ 1048576 by omega), decide_eq_true th, decide_eq_true (show l ≤ 1048576 by omega), decide_eq_true (show m ≤ 1048576 by omega)]
 rfl
theorem small_put {p : List ByteArray} {wi : Nat} (hs : Small p wi) (t h l m : Nat) (x : Int) : smallP (putR p t h l m x) := by
 have hh := hs.high
 have hw := hs.wide
 refine ⟨by rw [putR_length]; omega, fun s hss => ?_⟩
 unfold putR at hss
 obtain ⟨i, hi, e⟩ := List.mem_iff_getElem.1 hss
 rw [List.length_mapIdx] at hi
 rw [List.getElem_mapIdx] at e
 have hr := hs.row _ (List.getElem_mem hi)
 subst e
 split
 ·have hl := zbh p[i]
  show (List.map _ (putN (bytesOf p[i]) l m x)).toArray.size ≤ _
  simp [putN_length]
  omega
 ·rw [hr]; omega
theorem put_done {p : List ByteArray} {cs : List (List Int)} {rs : List Rc} (F : PlanFacts p cs rs) (t h l m : Nat) (x : Int) (x0 : 97 ≤ x) (x1 : x ≤ 122) (f : Int → Int) (hf : ∀ S, InjOn f S) (g : Nat → Nat → Int) (hg : ∀ r c, r < cs.length → c < zal cs → f (g r c) = if putB t l h m r c then x else 97 + zaw cs r c) : doneF (putR p t h l m x) = planF (zbl cs.length (zal cs) g) := by
 have hsm := gridOk_small F.canon.grid
 rw [F.wide] at hsm
 have hn := numsOf_put hsm t l h m x (by omega) (by omega)
 have hv : zan (putR p t h l m x) = mapG f (zbl cs.length (zal cs) g) := by
  rw [hn, mapG_gridOf, F.len]
  refine gridOf_congr fun r c hr hc => ?_
  rw [hg r c hr hc, F.nums, valAt_map F.ok.rect _ hr hc]
 have hok : (putR p t h l m x).all okText = true := by
  rw [List.all_eq_true]
  intro s hs
  refine okText_of fun y hy => ?_
  have hm : bytesOf s ∈ zan (putR p t h l m x) := List.mem_map.2 ⟨s, hs, rfl⟩
  rw [hn, F.len] at hm
  unfold zbl at hm
  obtain ⟨i, hi, e⟩ := List.mem_map.1 hm
  rw [← e] at hy
  obtain ⟨j, hj, rfl⟩ := List.mem_map.1 hy
  have hi := List.mem_range.1 hi
  have hj := List.mem_range.1 hj
  have h1 := zck F.ok i j hi hj
  have h2 := F.ok.many
  dsimp only
  rw [F.nums, valAt_map F.ok.rect _ hi hj]
  split <;> omega
 unfold doneF
 rw [if_pos hok, hv]
 exact plan_map (hf _)
def isH (letter : ByteArray) : Bool := letter.toList == [104]
def isV (letter : ByteArray) : Bool := letter.toList == [118]
theorem isHV {letter : ByteArray} (h : isH letter = true) : isV letter = false := by
 unfold isH at h
 unfold isV
 rw [beq_iff_eq] at h
 rw [h]
 rfl
def behindB (b : Rc) (letter : ByteArray) (k : Int) (r c : Nat) : Bool := (isH letter && decide (b.f0 + k ≤ r)) || (isV letter && decide (b.f1 + k ≤ c))
def splitG (cs : List (List Int)) (rs : List Rc) (room : Int) (letter : ByteArray) (k : Int) (r c : Nat) : Int :=
 if zaw cs r c = room ∧ behindB (rs.getD room.toNat zci) letter k r c = true then rs.length else zaw cs r c
def splitF (p : List ByteArray) (room : Int) (letter : ByteArray) (k : Int) : List ByteArray × Bool := match zbu p with
 | none => ([], false)
 | some (cs, rs) =>
  if hasB rs room && (isH letter || isV letter) then
   if 1 ≤ k ∧ k < (if isH letter then (rs.getD room.toNat zci).f2 else (rs.getD room.toNat zci).f3) then planF (zbl cs.length (zal cs) (splitG cs rs room letter k)) else ([], false)
  else ([], false)
end Go.Proofs.Ytickdcegnlldjaa.Hd
namespace Go.Proofs.Ytickdcegnlldjaa.Hd
open Go.RowKit Go.PW.PrintWords Go.PW.PrintLast Go.PW.PrintMore Go.Proofs.Ytickdcegnlldjaa.PB Go.Proofs.Ytickdcegnlldjaa.SM
theorem isH_iff (t : ByteArray) : isH t = true ↔ t.toList = ([104] : List UInt8) := by unfold isH; rw [beq_iff_eq]
theorem isV_iff (t : ByteArray) : isV t = true ↔ t.toList = ([118] : List UInt8) := by unfold isV; rw [beq_iff_eq]
def newName (n : Nat) (x : Int) : Int := if x = n then 122 else if x = 25 then 97 + n else 97 + x
theorem newName_inj (n : Nat) (S : Int → Prop) : InjOn (newName n) S := by
 intro a b _ _ e
 unfold newName at e
 by_cases h1 : a = n <;> by_cases h2 : a = 25 <;> by_cases h3 : b = n <;> by_cases h4 : b = 25 <;> simp only [h1, h2, h3, h4, if_true, if_false] at e <;> omega
theorem split_j1_false (p : List ByteArray) (k a b c d : Int) : Evs (fun q => spec_PlanSplit.j1 q p k a b c d false) ([], false) := by
 refine Evs.step (h := fun _ => some ([], false)) (fun q => ?_) (Evs.const _)
 show spec_PlanSplit.j1 (q + 1) p k a b c d false = _
 simp only [spec_PlanSplit.j1, Bool.false_eq_true, if_false, l1None_f, Option.bind_some]
theorem split_j0_none (p : List ByteArray) (t : ByteArray) (hV : isV t = false) (k a b c d : Int) : Evs (fun q => spec_PlanSplit.j0 q p t k a b c d false) ([], false) := by
 have hv : ¬ t.toList = ([118] : List UInt8) := fun h => by rw [(isV_iff t).2 h] at hV; cases hV
 refine Evs.step (h := fun q => spec_PlanSplit.j1 q p k a b c d false) (fun q => ?_) (split_j1_false p k a b c d)
 show spec_PlanSplit.j0 (q + 1) p t k a b c d false = _
 simp only [spec_PlanSplit.j0, Bool.false_eq_true, if_false, if_neg hv]
theorem split_none {p : List ByteArray} (a : Int) (t : ByteArray) (k : Int) : Evs (fun q => if (false = true) then ((spec_l1Room.f q p a).bind fun bt205 => (if t.toList = ([104] : List UInt8) then ((spec_l6In.f k 1 (wrap64 (bt205.2.2.1 - 1))).bind fun t209 => (spec_PlanSplit.j0 q p t k bt205.1 bt205.2.1 bt205.2.2.1 bt205.2.2.2 t209)) else (spec_PlanSplit.j0 q p t k bt205.1 bt205.2.1 bt205.2.2.1 bt205.2.2.2 false))) else ((spec_l1None.f).bind fun bt201 => (some (bt201.1, bt201.2)))) ([], false) := by
 refine Evs.congr (h := fun _ => some ([], false)) (fun q => ?_) (Evs.const _)
 rw [if_neg (by simp), l1None_f]
 rfl
theorem split_val {p : List ByteArray} {cs : List (List Int)} {rs : List Rc} (F : PlanFacts p cs rs) (room : Int) (t : ByteArray) (k : Int) (T H L M : Nat) (hcell : ∀ r c, r < cs.length → c < zal cs → ((zaw cs r c = room ∧ behindB (rs.getD room.toNat zci) t k r c = true) ↔ putB T L H M r c)) :
  doneF (putR p T H L M 122) = planF (zbl cs.length (zal cs) (splitG cs rs room t k)) := by
 have h9 := F.ok.many
 refine put_done F T H L M 122 (by omega) (by omega) (newName rs.length) (newName_inj rs.length) (splitG cs rs room t k) (fun r c hr hc => ?_)
 have hc2 := hcell r c hr hc
 have hv := zck F.ok r c hr hc
 unfold splitG
 by_cases h : zaw cs r c = room ∧ behindB (rs.getD room.toNat zci) t k r c = true
 ·rw [if_pos h, if_pos (hc2.1 h)]
  unfold newName
  rw [if_pos rfl]
 ·rw [if_neg h, if_neg (fun z => h (hc2.2 z))]
  unfold newName
  rw [if_neg (by omega), if_neg (by omega)]
theorem PlanSplit_ev (p : List ByteArray) (a : Int) (t : ByteArray) (k : Int) (hp : smallP p) : Evs (fun q => spec_PlanSplit.f q p a t k) (splitF p a t k) := by
 have ha := l1Given_ev p a hp
 cases hF : zbu p with
 | none =>
  have e1 : givenB p a = false := by unfold givenB; rw [hF]
  have e2 : splitF p a t k = ([], false) := by unfold splitF; rw [hF]
  rw [e1] at ha
  rw [e2]
  exact Evs.bind ha (split_none a t k)
 | some z =>
  obtain ⟨cs, rs⟩ := z
  have e1 : givenB p a = hasB rs a := by unfold givenB; rw [hF]
  have e2 : splitF p a t k = if hasB rs a && (isH t || isV t) then
   if 1 ≤ k ∧ k < (if isH t then (rs.getD a.toNat zci).f2 else (rs.getD a.toNat zci).f3) then planF (zbl cs.length (zal cs) (splitG cs rs a t k)) else ([], false)
   else ([], false) := by unfold splitF; rw [hF]
  rw [e1] at ha
  rw [e2]
  cases hA : hasB rs a with
  | false =>
   rw [hA] at ha
   exact Evs.bind ha (split_none a t k)
  | true =>
   rw [hA] at ha
   have F := floor_facts hF
   have hsm := gridOk_small F.canon.grid
   have hL := F.ok.many
   have o1 := F.ok.h1
   have o6 := F.ok.h6
   have q1 := F.len
   unfold hasB at hA
   rw [Bool.and_eq_true, decide_eq_true_eq, decide_eq_true_eq] at hA
   obtain ⟨i, rfl⟩ := Int.eq_ofNat_of_zero_le hA.1
   have hi : i < rs.length := by omega
   have hR := l1Room_ev p _ hsm (by omega) (i : Int)
   obtain ⟨c1, c2, c3⟩ := F.canon.room i (by rw [← F.rooms]; exact hi)
   rw [← F.rooms] at c1 c3
   rw [c1] at hR
   have hcell := room_cells hF i hi
   obtain ⟨b1, b2, b3, b4, b5, b6⟩ := c3
   have w6 := hsm.wide
   rw [F.wide] at b6 w6
   rw [F.wide] at hsm
   rw [Int.toNat_natCast]
   have hvalue := fun T H L M h => split_val F (i : Int) t k T H L M h
   rw [Int.toNat_natCast] at hvalue
   unfold behindB at hvalue
   generalize rs.getD i zci = bx at *
   refine Evs.bind ha ?_
   refine Evs.congr (h := fun q => (spec_l1Room.f q p (i : Int)).bind fun bt205 => (if t.toList = ([104] : List UInt8) then ((spec_l6In.f k 1 (wrap64 (bt205.2.2.1 - 1))).bind fun t209 => (spec_PlanSplit.j0 q p t k bt205.1 bt205.2.1 bt205.2.2.1 bt205.2.2.2 t209)) else (spec_PlanSplit.j0 q p t k bt205.1 bt205.2.1 bt205.2.2.1 bt205.2.2.2 false))) (fun q => by rw [if_pos rfl]) (Evs.bind hR ?_)
   dsimp only
   cases hH : isH t with
   | true =>
    have hV := isHV hH
    rw [hV] at hvalue
    refine Evs.pos ((isH_iff t).1 hH) ?_
    rw [zaq (x := bx.f2 - 1) (by omega) (by omega)]
    refine Evs.bindS (l6In_f k 1 (bx.f2 - 1)) ?_
    simp only [Bool.true_or, Bool.and_self, if_true]
    by_cases hk : 1 ≤ k ∧ k < bx.f2
    ·rw [if_pos hk, show (decide (1 ≤ k) && decide (k ≤ bx.f2 - 1)) = true by rw [Bool.and_eq_true, decide_eq_true_eq, decide_eq_true_eq]; omega]
     have hput := put_f hsm (bx.f0 + k) bx.f1 (bx.f2 - k) bx.f3 122 (by omega) b2 (by omega) (by omega) (by omega) b6 (by omega) (by omega)
     have hd := hvalue (bx.f0 + k).toNat (bx.f2 - k).toNat bx.f1.toNat bx.f3.toNat (fun r c hr hc => by
      have hc2 := hcell r c hr hc
      rw [hc2, hH]
      simp only [Bool.true_and, Bool.false_and, Bool.or_false, decide_eq_true_eq]
      unfold putB
      omega)
     have hdn := l1Done_ev _ (small_put hsm (bx.f0 + k).toNat (bx.f2 - k).toNat bx.f1.toNat bx.f3.toNat 122)
     rw [hd] at hdn
     refine Evs.step (h := fun q => (spec_l1Put.f p (wrap64 (bx.f0 + k)) bx.f1 (wrap64 (bx.f2 - k)) bx.f3 122).bind fun t210 => ((spec_l1Done.f q t210).bind fun bt213 => (some (bt213.1, bt213.2)))) (fun q => ?_) ?_
     ·show spec_PlanSplit.j0 (q + 1) p t k bx.f0 bx.f1 bx.f2 bx.f3 true = _
      simp only [spec_PlanSplit.j0, if_true]
     ·rw [zaq (x := bx.f0 + k) (by omega) (by omega), zaq (x := bx.f2 - k) (by omega) (by omega), hput]
      simp only [Option.bind_some]
      exact Evs.bind hdn (Evs.const _)
    ·rw [if_neg hk, show (decide (1 ≤ k) && decide (k ≤ bx.f2 - 1)) = false by rw [← Bool.not_eq_true, Bool.and_eq_true, decide_eq_true_eq, decide_eq_true_eq]; omega]
     exact split_j0_none p t hV k _ _ _ _
   | false =>
    have hnh : ¬ t.toList = ([104] : List UInt8) := fun h => by rw [(isH_iff t).2 h] at hH; cases hH
    refine Evs.neg hnh ?_
    cases hV : isV t with
    | false =>
     simp only [Bool.false_or, Bool.and_false, Bool.false_eq_true, if_false]
     exact split_j0_none p t hV k _ _ _ _
    | true =>
     rw [hV] at hvalue
     simp only [Bool.false_or, Bool.and_self, if_true, Bool.false_eq_true, if_false]
     refine Evs.step (h := fun q => (spec_l6In.f k 1 (wrap64 (bx.f3 - 1))).bind fun t217 => (spec_PlanSplit.j1 q p k bx.f0 bx.f1 bx.f2 bx.f3 t217)) (fun q => ?_) ?_
     ·show spec_PlanSplit.j0 (q + 1) p t k bx.f0 bx.f1 bx.f2 bx.f3 false = _
      simp only [spec_PlanSplit.j0, Bool.false_eq_true, if_false, if_pos ((isV_iff t).1 hV)]
     rw [zaq (x := bx.f3 - 1) (by omega) (by omega)]
     refine Evs.bindS (l6In_f k 1 (bx.f3 - 1)) ?_
     by_cases hk : 1 ≤ k ∧ k < bx.f3
     ·rw [if_pos hk, show (decide (1 ≤ k) && decide (k ≤ bx.f3 - 1)) = true by rw [Bool.and_eq_true, decide_eq_true_eq, decide_eq_true_eq]; omega]
      have hput := put_f hsm bx.f0 (bx.f1 + k) bx.f2 (bx.f3 - k) 122 b1 (by omega) (by omega) (by omega) b5 (by omega) (by omega) (by omega)
      have hd := hvalue bx.f0.toNat bx.f2.toNat (bx.f1 + k).toNat (bx.f3 - k).toNat (fun r c hr hc => by
       have hc2 := hcell r c hr hc
       rw [hc2, hH]
       simp only [Bool.true_and, Bool.false_and, Bool.false_or, decide_eq_true_eq]
       unfold putB
       omega)
      have hdn := l1Done_ev _ (small_put hsm bx.f0.toNat bx.f2.toNat (bx.f1 + k).toNat (bx.f3 - k).toNat 122)
      rw [hd] at hdn
      refine Evs.step (h := fun q => (spec_l1Put.f p bx.f0 (wrap64 (bx.f1 + k)) bx.f2 (wrap64 (bx.f3 - k)) 122).bind fun t218 => ((spec_l1Done.f q t218).bind fun bt221 => (some (bt221.1, bt221.2)))) (fun q => ?_) ?_
      ·show spec_PlanSplit.j1 (q + 1) p k bx.f0 bx.f1 bx.f2 bx.f3 true = _
       simp only [spec_PlanSplit.j1, if_true]
      ·rw [zaq (x := bx.f1 + k) (by omega) (by omega), zaq (x := bx.f3 - k) (by omega) (by omega), hput]
       simp only [Option.bind_some]
       exact Evs.bind hdn (Evs.const _)
     ·rw [if_neg hk, show (decide (1 ≤ k) && decide (k ≤ bx.f3 - 1)) = false by rw [← Bool.not_eq_true, Bool.and_eq_true, decide_eq_true_eq, decide_eq_true_eq]; omega]
      exact split_j1_false p k _ _ _ _
end Go.Proofs.Ytickdcegnlldjaa.Hd
