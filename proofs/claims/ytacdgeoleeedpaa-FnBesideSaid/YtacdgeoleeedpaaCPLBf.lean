/- Part 6 of the proof of FnBeside: what the program's functions and the reference's compute. -/
import Derived.Test.YtacdgeoleeedpaaCPLBe
namespace Go.Proofs.Ytacdgeoleeedpaa.Hd
open Go.RowKit Go.Proofs.YtacdgeoleeedpaaW.PrintWords Go.Proofs.YtacdgeoleeedpaaW.PrintLast Go.Proofs.YtacdgeoleeedpaaW.PrintMore Go.Proofs.Ytacdgeoleeedpaa.PB
set_option linter.unusedVariables false
set_option linter.unusedSimpArgs false
def SideLike (X Y : List (List Int)) (g : Nat → Nat → Int) : Prop := ∀ r c r' c', r < X.length → c < wideOf X + wideOf Y → r' < X.length → c' < wideOf X + wideOf Y →
 (g r c = g r' c' ↔ (c < wideOf X ∧ c' < wideOf X ∧ valAt X r c = valAt X r' c') ∨ (¬ c < wideOf X ∧ ¬ c' < wideOf X ∧ valAt Y r (c - wideOf X) = valAt Y r' (c' - wideOf X)))
theorem val_canon {X : List (List Int)} (hX : OkG X) {r c : Nat} (hr : r < X.length) (hc : c < wideOf X) : 0 ≤ valAt (canon X) r c ∧ valAt (canon X) r c < (roomsOf X).length := by
 have := valAt_range (floorF_ok hX.floor) r c (by rw [canon_length]; exact hr) (by rw [canon_wide]; exact hc)
 exact this
theorem beside_like {X Y : List (List Int)} (hX : OkG X) (hY : OkG Y) (he : X.length = Y.length) : SideLike X Y (besideG (canon X) (roomsOf X) (canon Y)) := by
 intro r c r' c' h1 h2 h3 h4
 unfold besideG
 rw [canon_wide]
 by_cases c1 : c < wideOf X
 ·rw [if_pos c1]
  by_cases c2 : c' < wideOf X
  ·rw [if_pos c2, canon_eq_iff hX.shape h1 c1 h3 c2]
   exact ⟨fun e => .inl ⟨c1, c2, e⟩, fun e => by
    rcases e with ⟨-, -, e⟩ | ⟨e, -, -⟩
    ·exact e
    ·exact absurd c1 e⟩
  ·rw [if_neg c2]
   have v1 := val_canon hX h1 c1
   have v2 := val_canon hY (r := r') (c := c' - wideOf X) (by omega) (by omega)
   exact ⟨fun e => by omega, fun e => by
    rcases e with ⟨-, e, -⟩ | ⟨e, -, -⟩
    ·exact absurd e c2
    ·exact absurd c1 e⟩
 ·rw [if_neg c1]
  by_cases c2 : c' < wideOf X
  ·rw [if_pos c2]
   have v1 := val_canon hX h3 c2
   have v2 := val_canon hY (r := r) (c := c - wideOf X) (by omega) (by omega)
   exact ⟨fun e => by omega, fun e => by
    rcases e with ⟨e, -, -⟩ | ⟨-, e, -⟩
    ·exact absurd e c1
    ·exact absurd c2 e⟩
  ·rw [if_neg c2]
   have e := canon_eq_iff hY.shape (r := r) (c := c - wideOf X) (r' := r') (c' := c' - wideOf X) (by omega) (by omega) (by omega) (by omega)
   constructor
   ·intro h
    exact .inr ⟨c1, c2, e.1 (by omega)⟩
   ·intro h
    rcases h with ⟨h, -, -⟩ | ⟨-, -, h⟩
    ·exact absurd h c1
    ·have := e.2 h
     omega
def sideX (X Y : List (List Int)) : List (List Int) := gridOf X.length (wideOf X + wideOf Y) (besideG (canon X) (roomsOf X) (canon Y))
theorem side_dims {X Y : List (List Int)} (hX : OkG X) : (sideX X Y).length = X.length ∧ wideOf (sideX X Y) = wideOf X + wideOf Y := ⟨gridOf_length _ _ _, gridOf_wide hX.dims.1⟩
theorem beside_plan {X Y : List (List Int)} (hX : OkG X) (hY : OkG Y) : besideF (planOf X) (planOf Y) = if X.length = Y.length then planF (sideX X Y) else ([], false) := by
 unfold besideF joinedF planOf
 rw [hX.floor, hY.floor]
 have l1 := canon_length X
 have l2 := canon_length Y
 by_cases e : X.length = Y.length
 ·rw [if_pos e]
  refine (if_pos (show (((canon X).length : Int) == ((canon Y).length : Int)) = true by rw [beq_iff_eq]; omega)).trans ?_
  dsimp only
  rw [canon_length, canon_wide, canon_wide]
  rfl
 ·rw [if_neg e]
  exact if_neg (show ¬ (((canon X).length : Int) == ((canon Y).length : Int)) = true by rw [beq_iff_eq]; omega)
theorem flip_side {X Y : List (List Int)} (hX : OkG X) (hY : OkG Y) (he : X.length = Y.length) : planF (flipX (sideX X Y)) = planF (sideX (flipX Y) (flipX X)) := by
 obtain ⟨d1, d2⟩ := side_dims (Y := Y) hX
 obtain ⟨e1, e2⟩ := flip_dims hX
 obtain ⟨f1, f2⟩ := flip_dims hY
 have hx := hX.dims
 have hL := beside_like hX hY he
 have hR := beside_like (flip_ok hY) (flip_ok hX) (by omega)
 unfold sideX flipX reG
 rw [gridOf_length, gridOf_wide hx.1]
 have z1 : (gridOf Y.length (wideOf Y) fun r c => valAt Y r (wideOf Y - 1 - c)) = flipX Y := rfl
 have z2 : (gridOf X.length (wideOf X) fun r c => valAt X r (wideOf X - 1 - c)) = flipX X := rfl
 rw [z1, z2, f1, f2, e2, ← he, Nat.add_comm (wideOf Y)]
 refine alike_planF fun r c r' c' h1 h2 h3 h4 => ?_
 dsimp only
 rw [valAt_gridOf h1 (by omega), valAt_gridOf h3 (by omega)]
 rw [hL r _ r' _ h1 (by omega) h3 (by omega)]
 have := hR r c r' c' (by omega) (by omega) (by omega) (by omega)
 rw [this, f2]
 have v1 : ∀ r c, r < Y.length → c < wideOf Y → valAt (flipX Y) r c = valAt Y r (wideOf Y - 1 - c) := fun r c hr hc => flip_at hr hc
 have v2 : ∀ r c, r < X.length → c < wideOf X → valAt (flipX X) r c = valAt X r (wideOf X - 1 - c) := fun r c hr hc => flip_at hr hc
 constructor
 ·rintro (⟨a, b, e⟩ | ⟨a, b, e⟩)
  ·refine .inr ⟨by omega, by omega, ?_⟩
   rw [v2 _ _ h1 (by omega), v2 _ _ h3 (by omega), show wideOf X - 1 - (c - wideOf Y) = wideOf X + wideOf Y - 1 - c by omega, show wideOf X - 1 - (c' - wideOf Y) = wideOf X + wideOf Y - 1 - c' by omega]
   exact e
  ·refine .inl ⟨by omega, by omega, ?_⟩
   rw [v1 _ _ (by omega) (by omega), v1 _ _ (by omega) (by omega), show wideOf Y - 1 - c = wideOf X + wideOf Y - 1 - c - wideOf X by omega, show wideOf Y - 1 - c' = wideOf X + wideOf Y - 1 - c' - wideOf X by omega]
   exact e
 ·rintro (⟨a, b, e⟩ | ⟨a, b, e⟩)
  ·refine .inr ⟨by omega, by omega, ?_⟩
   rw [v1 _ _ (by omega) (by omega), v1 _ _ (by omega) (by omega)] at e
   rw [show wideOf X + wideOf Y - 1 - c - wideOf X = wideOf Y - 1 - c by omega, show wideOf X + wideOf Y - 1 - c' - wideOf X = wideOf Y - 1 - c' by omega]
   exact e
  ·refine .inl ⟨by omega, by omega, ?_⟩
   rw [v2 _ _ h1 (by omega), v2 _ _ h3 (by omega)] at e
   rw [show wideOf X + wideOf Y - 1 - c = wideOf X - 1 - (c - wideOf Y) by omega, show wideOf X + wideOf Y - 1 - c' = wideOf X - 1 - (c' - wideOf Y) by omega]
   exact e
theorem side_rooms {X Y : List (List Int)} (hX : OkG X) (hY : OkG Y) (he : X.length = Y.length) : (ordAll (sideX X Y)).length = (ordAll X).length + (ordAll Y).length := by
 have hp : (ordAll (sideX X Y)).Perm (ordAll (canon X) ++ (ordAll (canon Y)).map fun v => ((roomsOf X).length : Int) + v) := by
  refine (List.perm_ext_iff_of_nodup (ordAll_nodup _) ?_).2 fun v => ?_
  ·rw [List.nodup_append]
   refine ⟨ordAll_nodup _, ?_, ?_⟩
   ·exact List.pairwise_map.2 ((ordAll_nodup _).imp fun {a b} h e => h (by have e' : ((roomsOf X).length : Int) + a = (roomsOf X).length + b := e; omega))
   ·intro a ha b hb
    obtain ⟨z, hz, rfl⟩ := List.mem_map.1 hb
    rw [ord_vals, vals_rows hX.canon.shape] at ha
    rw [ord_vals, vals_rows hY.canon.shape] at hz
    obtain ⟨r, c, hr, hc, rfl⟩ := ha
    obtain ⟨r', c', hr', hc', rfl⟩ := hz
    rw [canon_length] at hr hr'
    rw [canon_wide] at hc hc'
    have v1 := val_canon hX hr hc
    have v2 := val_canon hY hr' hc'
    omega
  ·rw [ord_vals, List.mem_append, List.mem_map, ord_vals]
   unfold sideX
   rw [vals_grid, vals_rows hX.canon.shape]
   constructor
   ·rintro ⟨r, c, hr, hc, rfl⟩
    unfold besideG
    rw [canon_wide]
    by_cases c1 : c < wideOf X
    ·rw [if_pos c1]
     exact .inl ⟨r, c, by first | exact hr | (rw [canon_length]; exact hr), by first | exact c1 | (rw [canon_wide]; exact c1), rfl⟩
    ·rw [if_neg c1]
     refine .inr ⟨_, ?_, rfl⟩
     rw [ord_vals, vals_rows hY.canon.shape]
     exact ⟨r, c - wideOf X, by rw [canon_length]; omega, by rw [canon_wide]; omega, rfl⟩
   ·rintro (⟨r, c, hr, hc, rfl⟩ | ⟨z, hz, rfl⟩)
    ·rw [canon_length] at hr
     rw [canon_wide] at hc
     exact ⟨r, c, hr, by omega, by unfold besideG; rw [canon_wide, if_pos hc]⟩
    ·rw [ord_vals, vals_rows hY.canon.shape] at hz
     obtain ⟨r, c, hr, hc, rfl⟩ := hz
     rw [canon_length] at hr
     rw [canon_wide] at hc
     refine ⟨r, wideOf X + c, by omega, by omega, ?_⟩
     unfold besideG
     rw [canon_wide, if_neg (by omega), show wideOf X + c - wideOf X = c by omega]
 have e1 : ∀ {Z : List (List Int)}, OkG Z → (ordAll (canon Z)).length = (ordAll Z).length := fun {Z} hZ => by
  have := ordAll_map (rows := Z) (f := fun x => ((ordAll Z).idxOf x : Int)) (fun a b ha hb e => idxOf_inj ((ord_vals Z a).2 ha) ((ord_vals Z b).2 hb) (by have : ((ordAll Z).idxOf a : Int) = (ordAll Z).idxOf b := e; omega))
  have e : mapG (fun x => ((ordAll Z).idxOf x : Int)) Z = canon Z := rfl
  rw [e] at this
  rw [this, List.length_map]
 rw [hp.length_eq, List.length_append, List.length_map, e1 hX, e1 hY]
end Go.Proofs.Ytacdgeoleeedpaa.Hd
namespace Go.Proofs.Ytacdgeoleeedpaa.Hd
open Go.RowKit Go.Proofs.YtacdgeoleeedpaaW.PrintWords Go.Proofs.YtacdgeoleeedpaaW.PrintLast Go.Proofs.YtacdgeoleeedpaaW.PrintMore Go.Proofs.Ytacdgeoleeedpaa.PB Go.Proofs.Ytacdgeoleeedpaa.SM
set_option linter.unusedVariables false
set_option linter.unusedSimpArgs false
theorem one_more {v : Int} (h0 : 0 ≤ v) (h1 : v ≤ 100) : ∃ n : Nat, wrap64 (1 + v) = (n : Int) ∧ 1 ≤ n ∧ (n : Int) = v + 1 := by
 obtain ⟨i, rfl⟩ := Int.eq_ofNat_of_zero_le h0
 exact ⟨i + 1, by rw [wrap64_small (by omega) (by omega)]; omega, by omega, by omega⟩
theorem some_more {n : Nat} (hn : n ≤ 100) {v : Int} (h0 : 0 ≤ v) (h1 : v < 24) : ∃ m : Nat, wrap64 ((n : Int) + wrap64 (Int.tdiv v 23)) = (m : Int) ∧ n ≤ m ∧ m ≤ n + 1 := by
 have e : Int.tdiv v 23 = v / 23 := Int.tdiv_eq_ediv_of_nonneg h0
 rw [e, wrap64_small (x := v / 23) (by omega) (by omega), wrap64_small (by omega) (by omega)]
 exact ⟨n + (v / 23).toNat, by omega, by omega, by omega⟩
theorem DrawPlanBeside_ev (l : List Int) (hv : ∀ x ∈ l, 0 ≤ x ∧ x ≤ 255) : ∃ p p', Evs (fun k => spec_DrawPlanBeside.f k l) (p, p') ∧ Lil p ∧ Lil p' := by
 obtain ⟨b, ho, hb⟩ := open_ev l hv
 obtain ⟨v1, hv1, a0, a1, -⟩ := pick_ev b hb 0 (by omega) 4
 obtain ⟨v2, hv2, b0, b1, -⟩ := pick_ev b hb (0 + 1) (by omega) 3
 have a1 := a1 (by omega)
 have b1 := b1 (by omega)
 obtain ⟨n, en, n1, nv⟩ := one_more a0 (by omega)
 obtain ⟨m, em, m1, mv⟩ := one_more b0 (by omega)
 obtain ⟨e, hE, hM, hl⟩ := Empty_ev n m (by omega) (by omega)
 obtain ⟨v3, hv3, c0, c1, -⟩ := pick_ev b hb (0 + 1 + 1) (by omega) 5
 have c1 := c1 (by omega)
 obtain ⟨p, q, hC, hP, hpl, hq⟩ := Cut_ev b hb (0 + 1 + 1 + 1) (by omega) e m hM (by omega) v3 c0 (by omega)
 obtain ⟨v4, hv4, d0, d1, -⟩ := pick_ev b hb q (by omega) 24
 have d1 := d1 (by omega)
 obtain ⟨v5, hv5, e0, e1, -⟩ := pick_ev b hb (q + 1) (by omega) 3
 have e1 := e1 (by omega)
 obtain ⟨n', en', n0', n1'⟩ := some_more (n := n) (by omega) d0 d1
 obtain ⟨m', em', m1', mv'⟩ := one_more e0 (by omega)
 obtain ⟨e', hE', hM', hl'⟩ := Empty_ev n' m' (by omega) (by omega)
 obtain ⟨v6, hv6, f0, f1, -⟩ := pick_ev b hb (q + 1 + 1) (by omega) 5
 have f1 := f1 (by omega)
 obtain ⟨p', q', hC', hP', hpl', hq'⟩ := Cut_ev b hb (q + 1 + 1 + 1) (by omega) e' m' hM' (by omega) v6 f0 (by omega)
 refine ⟨p, p', Evs.bindS ho (Evs.bind hv1 (Evs.bind hv2 ?_)), hP.lil, hP'.lil⟩
 dsimp only
 rw [en, em]
 refine Evs.bind hE (Evs.bind hv3 (Evs.bind hC (Evs.bind hv4 (Evs.bind hv5 ?_))))
 dsimp only
 rw [en', em']
 exact Evs.bind hE' (Evs.bind hv6 (Evs.bind hC' (Evs.const _)))
end Go.Proofs.Ytacdgeoleeedpaa.Hd
namespace Go.Proofs.Ytacdgeoleeedpaa.Hd
open Go.RowKit Go.Proofs.YtacdgeoleeedpaaW.PrintWords Go.Proofs.YtacdgeoleeedpaaW.PrintLast Go.Proofs.YtacdgeoleeedpaaW.PrintMore Go.Proofs.Ytacdgeoleeedpaa.PB
set_option linter.unusedVariables false
set_option linter.unusedSimpArgs false
def sideTexts (p q : List ByteArray) : List ByteArray := List.zipWith (fun a b => a ++ b) p q
def sideG (a b : List (List Int)) : List (List Int) := List.zipWith (fun r s => r ++ s) a b
theorem bytesOf_append (a b : ByteArray) : bytesOf (a ++ b) = bytesOf a ++ bytesOf b := by
 unfold bytesOf
 rw [← List.map_append]
 congr 1
theorem numsOf_side (p q : List ByteArray) : numsOf (sideTexts p q) = sideG (numsOf p) (numsOf q) := by
 unfold numsOf sideTexts sideG
 rw [List.map_zipWith, List.zipWith_map]
 congr 1
 funext a b
 exact bytesOf_append a b
theorem mapG_side (f : Int → Int) (a b : List (List Int)) : mapG f (sideG a b) = sideG (mapG f a) (mapG f b) := by
 unfold mapG sideG
 rw [List.map_zipWith, List.zipWith_map]
 congr 1
 funext r s
 rw [List.map_append]
theorem sideG_get {a b : List (List Int)} {i : Nat} {r s : List Int} (h1 : a[i]? = some r) (h2 : b[i]? = some s) : (sideG a b)[i]? = some (r ++ s) := by
 unfold sideG
 rw [List.getElem?_zipWith, h1, h2]
theorem side_rect {wa wb : Nat} {a b : List (List Int)} (ha : Rect wa a) (hb : Rect wb b) : Rect (wa + wb) (sideG a b) := by
 intro r hr
 obtain ⟨i, hi, e⟩ := List.mem_iff_getElem.1 hr
 unfold sideG at hi e
 rw [List.length_zipWith] at hi
 rw [List.getElem_zipWith] at e
 rw [← e, List.length_append, ha _ (List.getElem_mem _), hb _ (List.getElem_mem _)]
theorem side_valAt {wa wb : Nat} {a b : List (List Int)} (ha : Rect wa a) (hb : Rect wb b) (hl : a.length = b.length) {r c : Nat} (hr : r < a.length) : valAt (sideG a b) r c = if c < wa then valAt a r c else valAt b r (c - wa) := by
 have e1 := List.getElem?_eq_getElem hr
 have e2 := List.getElem?_eq_getElem (show r < b.length by omega)
 have e3 := sideG_get e1 e2
 have w1 := ha _ (List.getElem_mem hr)
 unfold valAt
 rw [List.getD_eq_getElem?_getD (l := sideG a b), e3, List.getD_eq_getElem?_getD (l := a), e1, List.getD_eq_getElem?_getD (l := b), e2]
 simp only [Option.getD_some]
 rw [List.getD_eq_getElem?_getD]
 by_cases h : c < wa
 ·rw [if_pos h, List.getElem?_append_left (by omega), ← List.getD_eq_getElem?_getD]
 ·rw [if_neg h, List.getElem?_append_right (by omega), w1, ← List.getD_eq_getElem?_getD]
theorem beside_grid {cs1 cs2 : List (List Int)} {rs1 rs2 : List Rc} (h1 : FloorOk cs1 rs1) (h2 : FloorOk cs2 rs2) (hl : cs1.length = cs2.length) :
  gridOf cs1.length (wideOf cs1 + wideOf cs2) (besideG cs1 rs1 cs2) = sideG cs1 (mapG (fun x => rs1.length + x) cs2) := by
 have hR2 := rect_mapG (fun x => (rs1.length : Int) + x) h2.rect
 have hR := side_rect h1.rect hR2
 have hlen : (sideG cs1 (mapG (fun x => (rs1.length : Int) + x) cs2)).length = cs1.length := by unfold sideG; rw [List.length_zipWith, mapG_length]; omega
 rw [rect_eq hR, hlen]
 refine gridOf_congr fun r c hr hc => ?_
 rw [side_valAt h1.rect hR2 (by rw [mapG_length]; exact hl) hr]
 unfold besideG
 by_cases h : c < wideOf cs1
 ·rw [if_pos h, if_pos h]
 ·rw [if_neg h, if_neg h, valAt_map h2.rect _ (by omega) (by omega)]
theorem beside_done {p q : List ByteArray} {cs1 cs2 : List (List Int)} {rs1 rs2 : List Rc} (h1 : PlanFacts p cs1 rs1) (h2 : PlanFacts q cs2 rs2) (hl : cs1.length = cs2.length) :
  doneF (sideTexts p (laterOf q)) = planF (gridOf cs1.length (wideOf cs1 + wideOf cs2) (besideG cs1 rs1 cs2)) := by
 have hb1 := plan_bytes h1
 have hb2 := plan_bytes h2
 have hok : (sideTexts p (laterOf q)).all okText = true := by
  rw [List.all_eq_true]
  intro s hs
  obtain ⟨i, hi, e⟩ := List.mem_iff_getElem.1 hs
  unfold sideTexts at hi e
  rw [List.getElem_zipWith] at e
  rw [← e]
  refine okText_of fun x hx => ?_
  rw [bytesOf_append] at hx
  rcases List.mem_append.1 hx with h | h
  ·have := hb1 _ (List.getElem_mem _) x h; omega
  ·have := later_bytes h2 _ (List.getElem_mem _) x h; omega
 unfold doneF
 rw [if_pos hok, numsOf_side, numsOf_later q (fun s hs x hx => by have := hb2 s hs x hx; omega), h1.nums, h2.nums, mapG_mapG, beside_grid h1.ok h2.ok hl]
 have h9 := h1.ok.many
 refine Eq.trans ?_ (plan_map (renamed rs1.length h9 _))
 rw [mapG_side, mapG_mapG]
 congr 2
 ·refine mapG_congr fun r hr x hx => ?_
  have := h1.ok.cells.val r hr x hx
  rw [if_pos (by omega)]
 ·refine mapG_congr fun r hr x hx => ?_
  have := h2.ok.cells.val r hr x hx
  rw [if_neg (by omega)]
  omega
theorem planBeside_j0_true (p q : List ByteArray) : Evs (fun k => spec_PlanBeside.j0 k p q true) ([], false) := by
 refine Evs.step (h := fun _ => some ([], false)) (fun k => ?_) (Evs.const _)
 show spec_PlanBeside.j0 (k + 1) p q true = _
 simp only [spec_PlanBeside.j0, if_true, l1None_f, Option.bind_some]
theorem beside_l0 (p q : List ByteArray) (hl : p.length = q.length) (hp : smallP p) (hq : smallP q) (r : List ByteArray × Bool) (hdone : Evs (fun k => spec_l1Done.f k (sideTexts p q)) r) : ∀ m i, i + m = p.length → Evs (fun k => spec_PlanBeside.l0 k p ((sideTexts p q).take i) q (i : Int)) r := by
 have h1 := hp.1
 have hlen : (sideTexts p q).length = p.length := by unfold sideTexts; rw [List.length_zipWith]; omega
 intro m
 induction m with
 | zero =>
  intro i hi
  rw [List.take_of_length_le (by omega)]
  refine Evs.step (h := fun k => (spec_l1Done.f k (sideTexts p q)).bind fun bt375 => (some (bt375.1, bt375.2))) (fun k => ?_) (Evs.bind hdone (Evs.const _))
  conv => lhs; unfold spec_PlanBeside.l0
  rw [if_neg (by omega)]
 | succ m ih =>
  intro i hi
  obtain ⟨a, ha⟩ : ∃ a, p[i]? = some a := ⟨_, List.getElem?_eq_getElem (by omega)⟩
  obtain ⟨b, hb⟩ : ∃ b, q[i]? = some b := ⟨_, List.getElem?_eq_getElem (by omega)⟩
  have sa := hp.2 a (List.mem_of_getElem? ha)
  have sb := hq.2 b (List.mem_of_getElem? hb)
  have hget : (sideTexts p q)[i]? = some (a ++ b) := by unfold sideTexts; rw [List.getElem?_zipWith, ha, hb]
  have hnx := ih (i + 1) (by omega)
  rw [List.take_add_one, hget] at hnx
  refine Evs.step (h := fun k => spec_PlanBeside.l0 k p ((sideTexts p q).take i ++ [a ++ b]) q ((i + 1 : Nat) : Int)) (fun k => ?_) hnx
  conv => lhs; unfold spec_PlanBeside.l0
  rw [if_pos (by omega), if_pos (by omega), if_pos (by omega), rdOf_at ha, rdOf_at hb, if_pos (by omega), if_pos (by simp; omega), wrap_succ (by omega)]
theorem PlanBeside_ev (p q : List ByteArray) (hp : smallP p) (hq : smallP q) : Evs (fun k => spec_PlanBeside.f k p q) (besideF p q) := by
 have h1 := PlanIn_ev p hp
 have h2 := PlanIn_ev q hq
 rcases planB_cases p with ⟨e1, f1⟩ | ⟨e1, cs1, rs1, f1⟩
 ·rw [e1] at h1
  have : besideF p q = ([], false) := by unfold besideF joinedF; rw [f1]
  rw [this]
  refine Evs.bind h1 ?_
  refine Evs.congr (fun k => ?_) (planBeside_j0_true p q)
  rw [if_neg (by simp)]
 ·rw [e1] at h1
  rcases planB_cases q with ⟨e2, f2⟩ | ⟨e2, cs2, rs2, f2⟩
  ·rw [e2] at h2
   have : besideF p q = ([], false) := by unfold besideF joinedF; rw [f1, f2]
   rw [this]
   refine Evs.bind h1 ?_
   refine Evs.congr (h := fun k => (spec_PlanIn.f k q).bind fun t359 => (if t359 = true then (spec_PlanBeside.j0 k p q ((p.length : Int) != (q.length : Int))) else (spec_PlanBeside.j0 k p q true))) (fun k => ?_) (Evs.bind h2 ?_)
   ·rw [if_pos rfl]
   ·refine Evs.congr (fun k => ?_) (planBeside_j0_true p q)
    rw [if_neg (by simp)]
  ·rw [e2] at h2
   have F1 := floor_facts f1
   have F2 := floor_facts f2
   have l1 := F1.len
   have l2 := F2.len
   have hu : besideF p q = if cs1.length = cs2.length then planF (gridOf cs1.length (wideOf cs1 + wideOf cs2) (besideG cs1 rs1 cs2)) else ([], false) := by
    unfold besideF joinedF
    rw [f1, f2]
    show (if ((cs1.length : Int) == (cs2.length : Int)) = true then _ else _) = _
    by_cases hw : cs1.length = cs2.length
    ·rw [if_pos hw, if_pos (by rw [hw]; simp)]
    ·rw [if_neg hw, if_neg (by simp; omega)]
   refine Evs.bind h1 ?_
   refine Evs.congr (h := fun k => (spec_PlanIn.f k q).bind fun t359 => (if t359 = true then (spec_PlanBeside.j0 k p q ((p.length : Int) != (q.length : Int))) else (spec_PlanBeside.j0 k p q true))) (fun k => ?_) (Evs.bind h2 ?_)
   ·rw [if_pos rfl]
   ·rw [hu]
    by_cases hw : cs1.length = cs2.length
    ·rw [if_pos hw, ← beside_done F1 F2 hw]
     have hlat := l1Later_ev q hq (fun s hs x hx => by have := plan_bytes F2 s hs x hx; omega)
     have hsl : (laterOf q).length = q.length := by simp [laterOf]
     have hsm : smallP (sideTexts p (laterOf q)) := by
      refine ⟨by unfold sideTexts; rw [List.length_zipWith]; have := hp.1; omega, fun s hs => ?_⟩
      obtain ⟨i, hi, e⟩ := List.mem_iff_getElem.1 hs
      unfold sideTexts at hi e
      rw [List.getElem_zipWith] at e
      rw [List.length_zipWith] at hi
      rw [← e, ByteArray.size_append]
      have t1 := F1.canon.grid
      have t2 := F2.canon.grid
      have s1 := (gridOk_small t1).row _ (List.getElem_mem (show i < p.length by omega))
      have s2 := (gridOk_small t1).wide
      have s3 : (laterOf q)[i].size ≤ 6 := by
       have s4 := (gridOk_small t2).row _ (List.getElem_mem (show i < q.length by omega))
       have s5 := (gridOk_small t2).wide
       unfold laterOf
       rw [List.getElem_map]
       show (List.map _ (List.map _ (bytesOf q[i]))).toArray.size ≤ _
       have := bytesOf_length q[i]
       simp
       omega
      omega
     have hdone := l1Done_ev (sideTexts p (laterOf q)) hsm
     refine Evs.congr (h := fun k => spec_PlanBeside.j0 k p q false) (fun k => ?_) (Evs.step (h := fun k => (spec_l1Later.f k q 9).bind fun t367 => (spec_PlanBeside.l0 k p (([] : List ByteArray)) t367 0)) (fun k => ?_) (Evs.bind hlat ?_))
     ·rw [if_pos rfl, l1, l2, hw]
      simp
     ·show spec_PlanBeside.j0 (k + 1) p q false = _
      simp only [spec_PlanBeside.j0, Bool.false_eq_true, if_false]
     ·exact beside_l0 p (laterOf q) (by omega) hp (small_later hq) _ hdone p.length 0 (by omega)
    ·rw [if_neg hw]
     refine Evs.congr (fun k => ?_) (planBeside_j0_true p q)
     rw [if_pos rfl]
     congr 1
     simp
     omega
end Go.Proofs.Ytacdgeoleeedpaa.Hd
namespace Go.Proofs.Ytacdgeoleeedpaa.Pure
open Go.RowKit Go.Proofs.Ytacdgeoleeedpaa.LB Go.Proofs.Ytacdgeoleeedpaa.PB Go.Proofs.Ytacdgeoleeedpaa.SM Go.Proofs.Ytacdgeoleeedpaa.Hd Go.Proofs.YtacdgeoleeedpaaW.PrintWords Go.Proofs.YtacdgeoleeedpaaW.PrintLast
set_option linter.unusedVariables false
set_option linter.unusedSimpArgs false
theorem rooms_of {X : List (List Int)} (h : OkG X) : impl_PlanRooms.f (planOf X) = some (((ordAll X).length : Int), true) := by
 unfold impl_PlanRooms.f
 rw [if_pos h.psmall]
 unfold planRoomsF
 rw [h.floorP, rooms_len h.shape]
theorem FnBeside : laws_FnBeside.Pure := by
 intro l0 h1 h2 h3
 by_cases big : (l0.length : Int) > 1048576
 ·exact ⟨0, by unfold laws_FnBeside.f; rw [if_pos big]⟩
 ·obtain ⟨p, q, hp, hl, hm⟩ := DrawPlanBeside_ev l0 (fun x hx => byte_of (h3 x hx))
  have hI : impl_PlanBeside.f p q = some (besideF p q) := by unfold impl_PlanBeside.f; rw [if_pos ⟨(smallB_iff _).2 hl.small, (smallB_iff _).2 hm.small⟩]
  have bad : besideF p q = ([], false) → ∃ k, laws_FnBeside.f k l0 = some true := by
   intro e0
   apply Evs.ex
   refine Evs.neg big (Evs.bind hp (Evs.bindS hI (Evs.bind (PlanBeside_ev p q hl.small hm.small) (Evs.neg (by simp) ?_))))
   rw [e0]
   refine Evs.bind same_nil (Evs.pos rfl ?_)
   refine Evs.step (h := fun k => (laws_sameTexts.f k ([] : List ByteArray) []).bind fun t361 => (some t361)) (fun k => ?_) (Evs.bind same_nil (Evs.const _))
   conv => lhs; unfold laws_FnBeside.j0
   exact (if_pos (by simp)).trans (if_pos (by simp))
  rcases in_cases p with ⟨X, hX, rfl⟩ | f1
  ·rcases in_cases q with ⟨Y, hY, rfl⟩ | f2
   ·by_cases he : X.length = Y.length
    ·have e1 := beside_plan hX hY
     rw [if_pos he] at e1
     rcases planF_cases (sideX X Y) with ⟨hU, e2⟩ | ⟨-, e2⟩
     ·have e0 : besideF (planOf X) (planOf Y) = (planOf (sideX X Y), true) := e1.trans e2
      apply Evs.ex
      refine Evs.neg big (Evs.bind hp (Evs.bindS hI (Evs.bind (PlanBeside_ev _ _ hl.small hm.small) (Evs.neg (by simp) ?_))))
      rw [e0]
      refine Evs.bind (same_plan hU) (Evs.pos rfl ?_)
      refine Evs.step (h := fun k => (impl_PlanRooms.f (planOf X)).bind fun bt338 => ((impl_PlanRooms.f (planOf Y)).bind fun bt340 => ((impl_PlanRooms.f (planOf (sideX X Y))).bind fun bt342 => ((impl_PlanFlip.f (planOf X)).bind fun bt344 => ((impl_PlanFlip.f (planOf Y)).bind fun bt348 => ((impl_PlanBeside.f bt348.1 bt344.1).bind fun bt352 => ((impl_PlanFlip.f bt352.1).bind fun bt356 => (if bt338.2 = true then (if bt340.2 = true then (if bt342.2 = true then (if bt344.2 = true then (if bt348.2 = true then (if bt352.2 = true then (if bt356.2 = true then (if bt342.1 = (wrap64 (bt338.1 + bt340.1)) then ((laws_sameTexts.f k bt356.1 (planOf (sideX X Y))).bind fun t360 => (some t360)) else (some false)) else (some false)) else (some false)) else (some false)) else (some false)) else (some false)) else (some false)) else (some false))))))))) (fun k => ?_) ?_
      ·conv => lhs; unfold laws_FnBeside.j0
       exact if_neg (by simp)
      ·have e3 : impl_PlanBeside.f (planOf (flipX Y)) (planOf (flipX X)) = some (planOf (flipX (sideX X Y)), true) := by
        unfold impl_PlanBeside.f
        rw [if_pos ⟨(flip_ok hY).psmall, (flip_ok hX).psmall⟩, beside_plan (flip_ok hY) (flip_ok hX), if_pos (by rw [(flip_dims hX).1, (flip_dims hY).1]; exact he.symm), ← flip_side hX hY he, (flip_ok hU).plan]
        rfl
       have e4 : impl_PlanFlip.f (planOf (flipX (sideX X Y))) = some (planOf (sideX X Y), true) := by rw [flip_f (flip_ok hU), flip_flip hU]
       have m1 := hX.many
       have m2 := hY.many
       have m3 := side_rooms hX hY he
       refine Evs.bindS (rooms_of hX) (Evs.bindS (rooms_of hY) (Evs.bindS (rooms_of hU) (Evs.bindS (flip_f hX) (Evs.bindS (flip_f hY) (Evs.bindS e3 (Evs.bindS e4 (Evs.pos rfl (Evs.pos rfl (Evs.pos rfl (Evs.pos rfl (Evs.pos rfl (Evs.pos rfl (Evs.pos rfl (Evs.pos ?_ (Evs.bind (same_plan hU) (Evs.const _))))))))))))))))
       dsimp only
       rw [m3, wrap64_small (by omega) (by omega)]
       omega
     ·exact bad (e1.trans e2)
    ·exact bad (by rw [beside_plan hX hY, if_neg he])
   ·exact bad (by unfold besideF joinedF; rw [f2]; split <;> simp_all)
  ·exact bad (by unfold besideF joinedF; rw [f1])
end Go.Proofs.Ytacdgeoleeedpaa.Pure
