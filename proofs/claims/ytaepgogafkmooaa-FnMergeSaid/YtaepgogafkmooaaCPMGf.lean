/- Part 6 of the proof of FnMerge: what the program's functions and the reference's compute. -/
import Derived.Test.YtaepgogafkmooaaProg
import Derived.Below
import Derived.Deep.Draws
import Derived.Deep.AppendLies
import Derived.Maps.AppendAt
import Derived.OwnWalk
import Derived.Laws.BytesArg
import Derived.Laws.MakeOwn
import Derived.Laws.OwnMore
import Derived.Deep.OwnRows
import Derived.Tactics
import Derived.Lib.ConvBytes
import Derived.Laws.Slices
import Derived.WalkKit
import Derived.KernelRfl
import Derived.RowKit3
import Derived.Deep.LoopGhost
import Derived.Deep.QuietTactic
import Derived.BigQuiet
import Derived.WideLaws
import Derived.Deep.DeepCutAuto
import Derived.Deep.CutBlock
import Derived.Deep.RegionHeld3
import Derived.Laws.Rows
import Derived.Lib.AppendStr
import Derived.ArgAppend
import Derived.Laws.IdiomCopy
import Derived.OrdersHeld
import Derived.Laws.BitsLemmas
import Derived.RowKit
import Derived.Test.YtaepgogafkmooaaCPMGe
set_option linter.unusedSimpArgs false
set_option linter.unusedVariables false
namespace Go.Proofs.Ytaepgogafkmooaa.Hd
open Go.RowKit Go.PW.PrintWords Go.PW.PrintLast Go.PW.PrintMore Go.Proofs.Ytaepgogafkmooaa.PB
structure PlanFacts (p : List ByteArray) (cs : List (List Int)) (rs : List Rc) : Prop where
 canon : Canon p
 cells : cs = Hd.canon (zar p)
 rooms : rs = zay (zar p)
 nums : zar p = mapG (fun x => 97 + x) cs
 ok : FloorOk cs rs
 len : p.length = cs.length
 wide : zaq (zar p) = zaq cs
 text : p = zbr cs
theorem floor_facts {p : List ByteArray} {cs : List (List Int)} {rs : List Rc} (h : zcc p = some (cs, rs)) : PlanFacts p cs rs := by
 have hok := floorF_ok h
 cases hG : gridOk p with
 | false => rw [floorF_nogrid hG] at h; cases h
 | true =>
  rw [floorF_grid hG] at h
  split at h
  ·rename_i hc
   injection h with h
   injection h with e1 e2
   have hC : Canon p := ⟨hG, hc.2.2⟩
   have hn : zar p = mapG (fun x => 97 + x) cs := by
    have := numsOf_textOf (canon (zar p)) (canon_val hC.shape)
    rw [show zbr (canon (zar p)) = p from hC.names, e1] at this
    exact this
   refine ⟨hC, e1.symm, e2.symm, hn, hok, ?_, ?_, ?_⟩
   ·rw [← zbs, hn, mapG_length]
   ·rw [hn, mapG_wide]
   ·rw [← e1]; exact hC.names.symm
  ·cases h
theorem bytesOf_strOfNums (xs : List Int) (h : ∀ x ∈ xs, 0 ≤ x ∧ x ≤ 255) : bytesOf (strOfNums xs) = xs := by
 unfold bytesOf strOfNums
 show ((xs.map fun n => UInt8.ofNat n.toNat).toArray.toList).map _ = _
 rw [List.map_map]
 conv => rhs; rw [← List.map_id xs]
 apply List.map_congr_left
 intro x hx
 have := h x hx
 show ((UInt8.ofNat x.toNat).toNat : Int) = x
 rw [UInt8.toNat_ofNat']
 omega
theorem FloorOk.rect {cs : List (List Int)} {rs : List Rc} (h : FloorOk cs rs) : Rect (zaq cs) cs := h.cells.row
theorem okText_of {s : ByteArray} (h : ∀ x ∈ bytesOf s, 97 ≤ x ∧ x ≤ 122) : okText s = true := by
 unfold okText
 rw [List.all_eq_true]
 intro x hx
 have := h x hx
 simp only [okLetter, Bool.not_eq_true', Bool.or_eq_false_iff, decide_eq_false_iff_not]
 omega
theorem planB_cases (p : List ByteArray) : (planB p = false ∧ zcc p = none) ∨ (planB p = true ∧ ∃ cs rs, zcc p = some (cs, rs)) := by
 unfold planB
 cases h : zcc p with
 | none => exact .inl ⟨rfl, rfl⟩
 | some t => exact .inr ⟨rfl, t.1, t.2, rfl⟩
def givenB (p : List ByteArray) (a : Int) : Bool := match zcc p with
 | none => false
 | some (_, rs) => hasB rs a
theorem l1Given_ev (p : List ByteArray) (a : Int) (hp : smallP p) : Evs (fun k => spec_l1Given.f k p a) (givenB p a) := by
 have h1 := PlanIn_ev p hp
 rcases planB_cases p with ⟨e1, f1⟩ | ⟨e1, cs, rs, f1⟩
 ·rw [e1] at h1
  have : givenB p a = false := by unfold givenB; rw [f1]
  rw [this]
  refine Evs.bind h1 ?_
  refine Evs.congr (h := fun _ => some false) (fun k => ?_) (Evs.const _)
  rw [if_neg (by simp)]
 ·rw [e1] at h1
  have F := floor_facts f1
  have hg : givenB p a = hasB rs a := by unfold givenB; rw [f1]
  have hR := l1Rooms_ev p _ (gridOk_small F.canon.grid)
  rw [F.canon.max, ← F.rooms] at hR
  have h9 := F.ok.many
  rw [hg]
  refine Evs.bind h1 ?_
  refine Evs.congr (h := fun k => (spec_l1Rooms.f k p).bind fun t167 => ((spec_l6In.f a 0 (wrap64 (t167 - 1))).bind fun t168 => (some t168))) (fun k => ?_) (Evs.bind hR ?_)
  ·rw [if_pos rfl]
  ·refine Evs.congr (h := fun _ => some (hasB rs a)) (fun k => ?_) (Evs.const _)
   rw [zas (by omega) (by omega), l6In_f]
   simp only [Option.bind_some]
   unfold hasB
   congr 2
   congr 1
   exact propext ⟨fun h => by omega, fun h => by omega⟩
theorem floor_sum {p : List ByteArray} {cs : List (List Int)} {rs : List Rc} (h : zcc p = some (cs, rs)) : zbu rs = (p.length : Int) * (zaq (zar p) : Int) := by
 have F := floor_facts h
 rw [floorF_grid F.canon.grid] at h
 split at h
 ·rename_i hc
  rw [F.rooms]
  exact hc.2.1
 ·cases h
theorem count_conv (rows : List (List Int)) (wi : Nat) (x : Int) (b : Rc) : ∀ n, (∀ m, m < n → zcp rows wi m = x → inBox b wi m) → zcl rows wi x n = countB b wi n → ∀ m, m < n → inBox b wi m → zcp rows wi m = x
 | 0, _, _, m, hm, _ => by omega
 | n + 1, h, he, m, hm, hb => by
  have hle := countN_le_B rows wi x b n (fun m hm => h m (by omega))
  simp only [zcl, countB] at he
  by_cases hx : zcp rows wi n = x
  ·rw [if_pos hx, if_pos (h n (by omega) hx)] at he
   rcases Nat.lt_or_eq_of_le (Nat.lt_succ_iff.1 hm) with h1 | h1
   ·exact count_conv rows wi x b n (fun m hm => h m (by omega)) (by omega) m h1 hb
   ·subst h1; exact hx
  ·rw [if_neg hx] at he
   by_cases hbn : inBox b wi n
   ·rw [if_pos hbn] at he; omega
   ·rw [if_neg hbn] at he
    rcases Nat.lt_or_eq_of_le (Nat.lt_succ_iff.1 hm) with h1 | h1
    ·exact count_conv rows wi x b n (fun m hm => h m (by omega)) he m h1 hb
    ·subst h1; exact absurd hb hbn
theorem room_cells {p : List ByteArray} {cs : List (List Int)} {rs : List Rc} (h : zcc p = some (cs, rs)) (i : Nat) (hi : i < rs.length) (r c : Nat) (hr : r < cs.length) (hc : c < zaq cs) :
  zbc cs r c = (i : Int) ↔ ((rs.getD i zcg).f0 ≤ r ∧ (r : Int) < (rs.getD i zcg).f0 + (rs.getD i zcg).f2 ∧ (rs.getD i zcg).f1 ≤ c ∧ (c : Int) < (rs.getD i zcg).f1 + (rs.getD i zcg).f3) := by
 have F := floor_facts h
 have hsum := floor_sum h
 have hrs := F.rooms
 have hfull := full_iff F.canon
 rw [← hrs, decide_eq_true hsum, List.all_eq_true] at hfull
 have hf := of_decide_eq_true (hfull i (List.mem_range.2 hi))
 rw [← hrs] at hf
 have hs := F.canon.shape
 obtain ⟨x, hx, hb, hbd⟩ := rooms_box hs i (by rw [← hrs]; exact hi)
 rw [zbs, ← hrs] at hb hbd
 have hiff : ∀ m, m < p.length * zaq (zar p) → (zcp (zar p) (zaq (zar p)) m = (i : Int) ↔ zbc (zar p) (m / zaq (zar p)) (m % zaq (zar p)) = x) := fun m hm => by
  rw [F.canon.cell m hm]
  exact idx_iff (ordAll_nodup _) hx (cell_mem hs m (by rw [zbs]; exact hm))
 have hin : ∀ m, m < p.length * zaq (zar p) → zcp (zar p) (zaq (zar p)) m = (i : Int) → inBox (rs.getD i zcg) (zaq (zar p)) m := fun m hm hv => hb.ins m hm ((hiff m hm).1 hv)
 have hcb := countB_all (rs.getD i zcg) p.length (zaq (zar p)) hbd
 have hconv := count_conv _ _ _ _ _ hin (hf.trans hcb.symm)
 rw [F.wide] at hin hconv
 have hm : r * zaq cs + c < p.length * zaq cs := by
  rw [F.len]
  have : (r + 1) * zaq cs ≤ cs.length * zaq cs := Nat.mul_le_mul_right _ hr
  rw [Nat.succ_mul] at this
  omega
 obtain ⟨d1, d2⟩ := divmod_of (r := r) hc
 have hcell : zcp (zar p) (zaq cs) (r * zaq cs + c) = zbc cs r c := by
  unfold zcp
  rw [d1, d2, F.nums, valAt_map F.ok.rect _ hr hc]
  omega
 have hib : inBox (rs.getD i zcg) (zaq cs) (r * zaq cs + c) ↔ ((rs.getD i zcg).f0 ≤ r ∧ (r : Int) < (rs.getD i zcg).f0 + (rs.getD i zcg).f2 ∧ (rs.getD i zcg).f1 ≤ c ∧ (c : Int) < (rs.getD i zcg).f1 + (rs.getD i zcg).f3) := by unfold inBox; rw [d1, d2]
 rw [← hcell, ← hib]
 exact ⟨hin _ hm, hconv _ hm⟩
def Conv (hi wi : Nat) (g : Nat → Nat → Int) : Prop := ∀ r c r' c' i j, r < hi → c < wi → r' < hi → c' < wi → g r c = g r' c' → min r r' ≤ i → i ≤ max r r' → min c c' ≤ j → j ≤ max c c' → g i j = g r c
def ConvG (rows : List (List Int)) : Prop := Conv rows.length (zaq rows) (zbc rows)
theorem Conv.congr {hi wi : Nat} {g g' : Nat → Nat → Int} (h : Conv hi wi g) (e : ∀ r c, r < hi → c < wi → g r c = g' r c) : Conv hi wi g' := by
 intro r c r' c' i j h1 h2 h3 h4 hv k1 k2 k3 k4
 rw [← e i j (by omega) (by omega), ← e r c h1 h2]
 exact h r c r' c' i j h1 h2 h3 h4 (by rw [e r c h1 h2, e r' c' h3 h4]; exact hv) k1 k2 k3 k4
theorem Conv.map {hi wi : Nat} {g : Nat → Nat → Int} (h : Conv hi wi g) (f : Int → Int) (hf : ∀ r c r' c', r < hi → c < wi → r' < hi → c' < wi → f (g r c) = f (g r' c') → g r c = g r' c') : Conv hi wi (fun r c => f (g r c)) := by
 intro r c r' c' i j h1 h2 h3 h4 hv k1 k2 k3 k4
 show f _ = f _
 rw [h r c r' c' i j h1 h2 h3 h4 (hf _ _ _ _ h1 h2 h3 h4 hv) k1 k2 k3 k4]
theorem names_canon {rows : List (List Int)} (hs : zbq rows = true) (h9 : (zay rows).length ≤ 9) : Canon (zbr (canon rows)) := by
 have hn := names_nums hs
 have hinj := names_inj rows
 have hL := rooms_len hs
 refine ⟨?_, ?_⟩
 ·unfold gridOk
  rw [Bool.and_eq_true, hn, mapG_shape]
  refine ⟨hs, ?_⟩
  rw [List.all_eq_true]
  intro s hss
  obtain ⟨r, hr, rfl⟩ := List.mem_map.1 hss
  unfold okText
  rw [bytesOf_rowText r (canon_val hs r hr), List.all_eq_true]
  intro x hx
  obtain ⟨y, hy, rfl⟩ := List.mem_map.1 hx
  unfold canon canonL at hr
  obtain ⟨r0, hr0, rfl⟩ := List.mem_map.1 hr
  obtain ⟨z, hz, rfl⟩ := List.mem_map.1 hy
  have h3 : (zbi rows).idxOf z < (zbi rows).length := List.idxOf_lt_length_of_mem (ordL_mem rows.flatten [] z (List.mem_flatten.2 ⟨r0, hr0, hz⟩))
  simp only [okLetter, Bool.not_eq_true', Bool.or_eq_false_iff, decide_eq_false_iff_not]
  omega
 ·unfold namesOf
  rw [hn, canon_map hinj]
theorem text_length (rows : List (List Int)) : (zbr (canon rows)).length = rows.length := by simp [zbr, canon, canonL]
theorem canon_length (rows : List (List Int)) : (canon rows).length = rows.length := by simp [canon, canonL]
theorem names_floor {rows : List (List Int)} (hs : zbq rows = true) (h9 : (zay rows).length ≤ 9) : zcc (zbr (canon rows)) = if zbu (zay rows) = (rows.length : Int) * (zaq rows : Int) then some (canon rows, zay rows) else none := by
 have hC := names_canon hs h9
 have hn := names_nums hs
 have hinj := names_inj rows
 rw [floorF_grid hC.grid, hn, rooms_map hs hinj, mapG_wide, text_length, canon_map hinj]
 by_cases h : zbu (zay rows) = (rows.length : Int) * (zaq rows : Int)
 ·rw [if_pos h, if_pos ⟨h9, h, hC.names⟩]
 ·rw [if_neg h, if_neg (fun z => h z.2.1)]
theorem canon_wide (rows : List (List Int)) : zaq (canon rows) = zaq rows := by
 unfold zaq canon canonL
 cases rows with
 | nil => rfl
 | cons a r => simp
theorem canon_at {rows : List (List Int)} (hs : zbq rows = true) {r c : Nat} (hr : r < rows.length) (hc : c < zaq rows) : zbc (canon rows) r c = ((zbi rows).idxOf (zbc rows r c) : Int) := by
 have e := congrArg (fun R => zbc R r c) (rect_map (zco hs) (fun x => ((zbi rows).idxOf x : Int)))
 exact Eq.trans e (valAt_gridOf hr hc)
theorem idxOf_inj {L : List Int} {x y : Int} (hx : x ∈ L) (hy : y ∈ L) (e : L.idxOf x = L.idxOf y) : x = y := by
 have h1 := List.idxOf_lt_length_of_mem hx
 have h2 := List.idxOf_lt_length_of_mem hy
 have e1 : L[L.idxOf x] = x := List.getElem_idxOf h1
 have e2 : L[L.idxOf y] = y := List.getElem_idxOf h2
 rw [← e1, ← e2]
 congr 1
theorem val_ord {rows : List (List Int)} (hs : zbq rows = true) {r c : Nat} (hr : r < rows.length) (hc : c < zaq rows) : zbc rows r c ∈ zbi rows := ordL_mem rows.flatten [] _ (val_mem (zco hs) hr hc)
theorem canon_eq_iff {rows : List (List Int)} (hs : zbq rows = true) {r c r' c' : Nat} (hr : r < rows.length) (hc : c < zaq rows) (hr' : r' < rows.length) (hc' : c' < zaq rows) : zbc (canon rows) r c = zbc (canon rows) r' c' ↔ zbc rows r c = zbc rows r' c' := by
 rw [canon_at hs hr hc, canon_at hs hr' hc']
 constructor
 ·exact fun h => idxOf_inj (val_ord hs hr hc) (val_ord hs hr' hc') (by omega)
 ·intro h
  rw [h]
theorem conv_canon {rows : List (List Int)} (hs : zbq rows = true) : ConvG (canon rows) ↔ ConvG rows := by
 unfold ConvG
 rw [canon_length, canon_wide]
 constructor
 ·intro h r c r' c' i j h1 h2 h3 h4 hv k1 k2 k3 k4
  exact (canon_eq_iff hs (by omega) (by omega) h1 h2).1 (h r c r' c' i j h1 h2 h3 h4 ((canon_eq_iff hs h1 h2 h3 h4).2 hv) k1 k2 k3 k4)
 ·intro h r c r' c' i j h1 h2 h3 h4 hv k1 k2 k3 k4
  exact (canon_eq_iff hs (by omega) (by omega) h1 h2).2 (h r c r' c' i j h1 h2 h3 h4 ((canon_eq_iff hs h1 h2 h3 h4).1 hv) k1 k2 k3 k4)
theorem countN_conv (rows : List (List Int)) (wi : Nat) (x : Int) (b : Rc) : ∀ n, (∀ m, m < n → (zcp rows wi m = x ↔ inBox b wi m)) → zcl rows wi x n = countB b wi n
 | 0, _ => rfl
 | n + 1, h => by
  have ih := countN_conv rows wi x b n (fun m hm => h m (by omega))
  simp only [zcl, countB]
  by_cases hx : zcp rows wi n = x
  ·rw [if_pos hx, if_pos ((h n (by omega)).1 hx), ih]
  ·rw [if_neg hx, if_neg (fun z => hx ((h n (by omega)).2 z)), ih]
theorem conv_sum {rows : List (List Int)} (hs : zbq rows = true) (h9 : (zay rows).length ≤ 9) : zbu (zay rows) = (rows.length : Int) * (zaq rows : Int) ↔ ConvG rows := by
 have hfl := names_floor hs h9
 constructor
 ·intro h
  rw [if_pos h] at hfl
  have F := floor_facts hfl
  rw [← conv_canon hs]
  intro r c r' c' i j h1 h2 h3 h4 hv k1 k2 k3 k4
  have hv1 := valAt_range F.ok r c h1 h2
  obtain ⟨q, hq⟩ := Int.eq_ofNat_of_zero_le hv1.1
  have hq2 : q < (zay rows).length := by omega
  have hc := fun r c hr hc => room_cells hfl q hq2 r c hr hc
  have a1 := (hc r c h1 h2).1 hq
  have a2 := (hc r' c' h3 h4).1 (by rw [← hv]; exact hq)
  rw [hq]
  exact (hc i j (by omega) (by omega)).2 (by omega)
 ·intro h
  have hC := names_canon hs h9
  have hn := names_nums hs
  have hinj := names_inj rows
  have hiff := full_iff hC
  rw [hn, rooms_map hs hinj, mapG_wide, text_length] at hiff
  have hall : (List.range (zay rows).length).all (fullB (zbr (canon rows))) = true := by
   rw [List.all_eq_true]
   intro x hx
   have hx := List.mem_range.1 hx
   unfold fullB
   rw [decide_eq_true_eq, hn, rooms_map hs hinj, mapG_wide, text_length]
   obtain ⟨v, hv, hb, hbd⟩ := rooms_box hs x hx
   rw [← countB_all _ _ _ hbd]
   obtain ⟨s1, s2, s3, s4, s5⟩ := (zcb _).1 hs
   have hR := zco hs
   refine countN_conv _ _ _ _ _ fun m hm => ?_
   have hr : m / zaq rows < rows.length := by rw [Nat.div_lt_iff_lt_mul (by omega)]; exact hm
   have hc := Nat.mod_lt m (show 0 < zaq rows by omega)
   have hcell : zcp (mapG (fun x => 97 + ((zbi rows).idxOf x : Int)) rows) (zaq rows) m = ((zbi rows).idxOf (zbc rows (m / zaq rows) (m % zaq rows)) : Int) := by
    unfold zcp
    rw [valAt_map hR _ hr hc]
    omega
   rw [hcell, idx_iff (ordAll_nodup rows) hv (val_ord hs hr hc)]
   constructor
   ·exact fun h => hb.ins m hm h
   ·intro hin
    obtain ⟨i1, i2, i3, i4⟩ := hin
    obtain ⟨mt, nt, vt, et⟩ := hb.top
    obtain ⟨ml, nl, vl, el⟩ := hb.left
    obtain ⟨mw, nw, vw, ew⟩ := hb.low
    obtain ⟨mr, nr, vr, er⟩ := hb.right
    have rr : ∀ m, m < rows.length * zaq rows → m / zaq rows < rows.length ∧ m % zaq rows < zaq rows := fun m hm => ⟨by rw [Nat.div_lt_iff_lt_mul (by omega)]; exact hm, Nat.mod_lt m (by omega)⟩
    obtain ⟨t1, t2⟩ := rr mt nt
    obtain ⟨l1, l2⟩ := rr ml nl
    obtain ⟨w1, w2⟩ := rr mw nw
    obtain ⟨r1, r2⟩ := rr mr nr
    have gt := hb.ins mt nt vt
    have gl := hb.ins ml nl vl
    have gw := hb.ins mw nw vw
    have gr := hb.ins mr nr vr
    generalize hbx : (zay rows).getD x zcg = bx at *
    -- the upper left and the lower right corner
    have c1 := h (mt / zaq rows) (mt % zaq rows) (ml / zaq rows) (ml % zaq rows) (mt / zaq rows) (ml % zaq rows) t1 t2 l1 l2 (vt.trans vl.symm) (by omega) (by omega) (by omega) (by omega)
    have c2 := h (mw / zaq rows) (mw % zaq rows) (mr / zaq rows) (mr % zaq rows) (mw / zaq rows) (mr % zaq rows) w1 w2 r1 r2 (vw.trans vr.symm) (by omega) (by omega) (by omega) (by omega)
    have c3 := h (mt / zaq rows) (ml % zaq rows) (mw / zaq rows) (mr % zaq rows) (m / zaq rows) (m % zaq rows) t1 l2 w1 r2 (by rw [c1, c2, vt, vw]) (by omega) (by omega) (by omega) (by omega)
    rw [c3, c1, vt]
  rw [hall] at hiff
  exact of_decide_eq_true hiff.symm
structure OkG (rows : List (List Int)) : Prop where
 shape : zbq rows = true
 many : (zbi rows).length ≤ 9
 conv : ConvG rows
theorem OkG.plan {rows : List (List Int)} (h : OkG rows) : planF rows = (zbr (canon rows), true) := by
 have h9 : (zay rows).length ≤ 9 := by rw [← rooms_len h.shape]; exact h.many
 rw [planF_shape h.shape, if_pos ⟨h9, (conv_sum h.shape h9).2 h.conv⟩]
theorem OkG.floor {rows : List (List Int)} (h : OkG rows) : zcc (zbr (canon rows)) = some (canon rows, zay rows) := by
 have h9 : (zay rows).length ≤ 9 := by rw [← rooms_len h.shape]; exact h.many
 rw [names_floor h.shape h9, if_pos ((conv_sum h.shape h9).2 h.conv)]
theorem planF_cases (rows : List (List Int)) : (OkG rows ∧ planF rows = (zbr (canon rows), true)) ∨ (¬ OkG rows ∧ planF rows = ([], false)) := by
 by_cases h : OkG rows
 ·exact .inl ⟨h, h.plan⟩
 ·refine .inr ⟨h, ?_⟩
  cases hs : zbq rows with
  | false => exact planF_noshape hs
  | true =>
   rw [planF_shape hs]
   by_cases hc : (zay rows).length ≤ 9 ∧ zbu (zay rows) = (rows.length : Int) * (zaq rows : Int)
   ·exact absurd ⟨hs, by rw [rooms_len hs]; exact hc.1, (conv_sum hs hc.1).1 hc.2⟩ h
   ·rw [if_neg hc]
theorem floor_shape {cs : List (List Int)} {rs : List Rc} (h : FloorOk cs rs) : zbq cs = true := (zcb _).2 ⟨h.h1, h.h6, h.w1, h.w6, h.rect⟩
theorem add_inj (a : Int) (S : Int → Prop) : InjOn (fun x => a + x) S := fun x y _ _ e => by have : a + x = a + y := e; omega
theorem floor_okG {p : List ByteArray} {cs : List (List Int)} {rs : List Rc} (h : zcc p = some (cs, rs)) : OkG cs ∧ canon cs = cs ∧ rs = zay cs ∧ p = zbr cs := by
 have F := floor_facts h
 have hs := floor_shape F.ok
 have e1 : canon cs = cs := by
  have e2 : canon (mapG (fun x => 97 + x) cs) = canon cs := canon_map (add_inj 97 _)
  rw [← F.nums, ← F.cells] at e2
  exact e2.symm
 have e2 : rs = zay cs := by rw [F.rooms, F.nums, rooms_map hs (add_inj 97 _)]
 have h9 : (zay cs).length ≤ 9 := by rw [← e2]; exact F.ok.many
 have hsum := floor_sum h
 rw [F.wide, F.len, e2] at hsum
 exact ⟨⟨hs, by rw [rooms_len hs]; exact h9, (conv_sum hs h9).1 hsum⟩, e1, e2, F.text⟩
structure Mid (p : List ByteArray) (wi : Nat) : Prop where
 high : p.length ≤ 100
 wide : wi ≤ 100
 row : ∀ s ∈ p, s.size = wi
theorem Mid.rect {p : List ByteArray} {wi : Nat} (h : Mid p wi) : Rect wi (zar p) := by
 intro r hr
 obtain ⟨s, hs, rfl⟩ := List.mem_map.1 hr
 rw [zbh]
 exact h.row s hs
theorem Mid.small {p : List ByteArray} {wi : Nat} (h : Mid p wi) : smallP p := ⟨by have := h.high; omega, fun s hs => by rw [h.row s hs]; have := h.wide; omega⟩
theorem mapG_gridOf (f : Int → Int) (h w : Nat) (g : Nat → Nat → Int) : mapG f (zbe h w g) = zbe h w (fun r c => f (g r c)) := by
 unfold mapG zbe
 rw [List.map_map]
 apply List.map_congr_left
 intro r hr
 show (List.map _ _).map f = _
 rw [List.map_map]
 rfl
theorem gridOf_wide {h w : Nat} {g : Nat → Nat → Int} (h1 : 1 ≤ h) : zaq (zbe h w g) = w := by
 have := gridOf_get (hi := h) (wi := w) (g := g) (r := 0) (by omega)
 unfold zaq
 rw [List.getD_eq_getElem?_getD, this]
 simp
theorem vals_grid {h w : Nat} {g : Nat → Nat → Int} {v : Int} : Vals (zbe h w g) v ↔ ∃ r c, r < h ∧ c < w ∧ g r c = v := by
 unfold Vals zbe
 rw [List.mem_flatten]
 constructor
 ·rintro ⟨l, hl, hv⟩
  obtain ⟨r, hr, rfl⟩ := List.mem_map.1 hl
  obtain ⟨c, hc, rfl⟩ := List.mem_map.1 hv
  exact ⟨r, c, List.mem_range.1 hr, List.mem_range.1 hc, rfl⟩
 ·rintro ⟨r, c, hr, hc, rfl⟩
  exact ⟨_, List.mem_map.2 ⟨r, List.mem_range.2 hr, rfl⟩, List.mem_map.2 ⟨c, List.mem_range.2 hc, rfl⟩⟩
theorem vals_rows {X : List (List Int)} (hs : zbq X = true) {v : Int} : Vals X v ↔ ∃ r c, r < X.length ∧ c < zaq X ∧ zbc X r c = v := by
 have := rect_eq (zco hs)
 conv => lhs; rw [this]
 exact vals_grid
theorem ord_vals (X : List (List Int)) (v : Int) : v ∈ zbi X ↔ Vals X v := ⟨ordAll_vals X v, fun h => ordL_mem X.flatten [] v h⟩
theorem ord_plan {p : List ByteArray} {cs : List (List Int)} {rs : List Rc} (h : zcc p = some (cs, rs)) : zbi cs = (List.range rs.length).map fun (i : Nat) => (i : Int) := by
 obtain ⟨hX, hc, hr, hp⟩ := floor_okG h
 have e : zbi (canon cs) = (zbi cs).map fun x => ((zbi cs).idxOf x : Int) := by
  have hm : canon cs = mapG (fun x => ((zbi cs).idxOf x : Int)) cs := rfl
  rw [hm]
  exact ordAll_map fun x y hx hy e => by
   have e : ((zbi cs).idxOf x : Int) = ((zbi cs).idxOf y : Int) := e
   exact idxOf_inj ((ord_vals cs x).2 hx) ((ord_vals cs y).2 hy) (by omega)
 rw [hc] at e
 have hl : (zbi cs).length = rs.length := by rw [rooms_len hX.shape, hr]
 apply List.ext_getElem?
 intro i
 by_cases hi : i < rs.length
 ·rw [List.getElem?_map, List.getElem?_range hi]
  have h1 : (zbi cs)[i]? = some (zbi cs)[i] := List.getElem?_eq_getElem (by omega)
  have h2 : (zbi cs)[i]? = ((zbi cs).map fun x => ((zbi cs).idxOf x : Int))[i]? := by rw [← e]
  rw [List.getElem?_map, h1] at h2
  simp only [Option.map_some] at h2
  rw [h1, h2]
  congr 1
  have h3 : (zbi cs).idxOf (zbi cs)[i] < (zbi cs).length := List.idxOf_lt_length_of_mem (List.getElem_mem _)
  have h4 : (zbi cs)[(zbi cs).idxOf (zbi cs)[i]] = (zbi cs)[i] := List.getElem_idxOf h3
  exact congrArg (fun n : Nat => (n : Int)) (nodup_inj (ordAll_nodup cs) h3 (by omega) h4)
 ·rw [List.getElem?_eq_none (by omega), List.getElem?_eq_none (by simp; omega)]
def planRoomsF (p : List ByteArray) : Int × Bool := match zcc p with
 | none => (0, false)
 | some (_, rs) => (rs.length, true)
set_option maxHeartbeats 4000000 in
set_option maxRecDepth 100000 in
theorem PlanRooms_calls (A0 : Option Addr) (c0 : Nat) (l0 : List ByteArray) (w : World) (hr0 : Kd.C Kd.string w A0 l0.length l0) (hc0 : l0.length ≤ c0) (hp : smallP l0) :
  Calls Try.prog 19 #[.slice A0 l0.length c0] w fun e w' => e = .returned (.tuple #[.int .i64 (planRoomsF l0).1, .bool (planRoomsF l0).2]) ∧ Below w.heap.size w w' := by
 have HR := zaa.mk hr0
 have HC := zaa.mk hc0
 have HP := zaa.mk hp
 clear hr0 hc0 hp
 generalize hM : planRoomsF l0 = res
 have HM := zaa.mk hM
 clear hM
 generalize hF : zcc l0 = t
 have HF := zaa.mk hF
 clear hF
 rcases t with _ | ⟨cs, rs⟩
 ·have e : res = (0, false) := by rw [← HM.out]; unfold planRoomsF; rw [HF.out]
  subst e
  go_enter Try.func19, Try.ntmps19
  go_wp2_with (first
   | (go_at_call 66; refine (zcf A0 c0 l0 _ HR.out HC.out HP.out).mono ?_; rw [HF.out]; rintro e w8 ⟨hb8, v8, b8, rfl, rfl⟩; have HB8 := zaa.mk hb8; clear hb8))
  go_ret2
  exact ⟨rfl, HB8.out⟩
 ·have e : res = ((rs.length : Int), true) := by rw [← HM.out]; unfold planRoomsF; rw [HF.out]
  subst e
  go_enter Try.func19, Try.ntmps19
  go_wp2_with (first
   | (go_at_call 66; refine (zcf A0 c0 l0 _ HR.out HC.out HP.out).mono ?_; rw [HF.out]; rintro e w8 ⟨hb8, v8, b8, rfl, rfl, g, rfl, hfl⟩; have HB8 := zaa.mk hb8; obtain ⟨Ar, cr, y1, -⟩ := hfl.rooms; clear hb8 hfl))
  go_ret2
  exact ⟨rfl, HB8.out⟩
def impl_PlanRooms.f (l0 : List ByteArray) : Option (Int × Bool) := if smallB l0 = true then some (planRoomsF l0) else none
theorem impl_PlanRooms.calls (A0 : Option Addr) (c0 : Nat) (l0 : List ByteArray) (r1 : Int) (r2 : Bool) (w : World) (hr0 : Kd.C Kd.string w A0 l0.length l0) (hc0 : l0.length ≤ c0) (h : impl_PlanRooms.f l0 = some (r1, r2)) :
  Calls Try.prog 19 #[.slice A0 l0.length c0] w fun e w' => e = .returned (.tuple #[.int .i64 r1, .bool r2]) ∧ Below w.heap.size w w' := by
 unfold impl_PlanRooms.f at h
 split at h
 ·rename_i hs
  have e := Option.some.inj h
  have := PlanRooms_calls A0 c0 l0 w hr0 hc0 ((smallB_iff _).1 hs)
  rw [e] at this
  exact this
 ·cases h
abbrev Wl := S79
def runC (d : Nat → Bool) : Nat → List (Nat × Nat) × Option Nat
 | 0 => ([], none)
 | n + 1 => match runC d n with
  | (c, none) => (c, if d n then some n else none)
  | (c, some f) => if d n then (c, some f) else (c ++ [(f, n - f)], none)
def openR (n : Nat) : Option Nat → List (Nat × Nat)
 | none => []
 | some f => [(f, n - f)]
def runs (d : Nat → Bool) (n : Nat) : List (Nat × Nat) := (runC d n).1 ++ openR n (runC d n).2
theorem runC_inv (d : Nat → Bool) : ∀ n, (∀ x ∈ (runC d n).1, x.1 + x.2 ≤ n ∧ 1 ≤ x.2) ∧ (∀ f, (runC d n).2 = some f → f < n) ∧ (runC d n).1.length + (if (runC d n).2.isSome = true then 1 else 0) ≤ n
 | 0 => by simp [runC]
 | n + 1 => by
  obtain ⟨h1, h2, h3⟩ := runC_inv d n
  rcases hR : runC d n with ⟨c, o⟩
  rw [hR] at h1 h2 h3
  cases o with
  | none =>
   have e : runC d (n + 1) = (c, if d n then some n else none) := by simp only [runC, hR]
   rw [e]
   refine ⟨fun x hx => ?_, fun f hf => ?_, ?_⟩
   ·have := h1 x hx; omega
   ·dsimp only at hf
    split at hf
    ·injection hf with hf; omega
    ·cases hf
   ·dsimp only at h3 ⊢
    simp only [Option.isSome_none, Bool.false_eq_true, if_false] at h3
    split <;> simp <;> omega
  | some f =>
   have hf := h2 f rfl
   by_cases hd : d n = true
   ·have e : runC d (n + 1) = (c, some f) := by simp only [runC, hR, hd, if_true]
    rw [e]
    refine ⟨fun x hx => ?_, fun g hg => ?_, ?_⟩
    ·have := h1 x hx; omega
    ·injection hg with hg; omega
    ·dsimp only at h3 ⊢; omega
   ·have e : runC d (n + 1) = (c ++ [(f, n - f)], none) := by simp only [runC, hR, if_neg hd]
    rw [e]
    refine ⟨fun x hx => ?_, fun g hg => (by cases hg), ?_⟩
    ·rcases List.mem_append.1 hx with h | h
     ·have := h1 x h; omega
     ·simp at h; subst h; dsimp only; omega
    ·dsimp only at h3 ⊢
     simp only [Option.isSome_some, if_true] at h3
     simp
     omega
theorem runs_length (d : Nat → Bool) (n : Nat) : (runs d n).length ≤ n := by
 obtain ⟨h1, h2, h3⟩ := runC_inv d n
 unfold runs
 rw [List.length_append]
 cases h : (runC d n).2 with
 | none => rw [h] at h3; simp [openR] at h3 ⊢; exact h3
 | some f => rw [h] at h3; simp [openR] at h3 ⊢; exact h3
theorem runs_in (d : Nat → Bool) (n : Nat) : ∀ x ∈ runs d n, x.1 + x.2 ≤ n ∧ 1 ≤ x.2 := by
 obtain ⟨h1, h2, h3⟩ := runC_inv d n
 intro x hx
 unfold runs at hx
 rcases List.mem_append.1 hx with h | h
 ·exact h1 x h
 ·cases h4 : (runC d n).2 with
  | none => rw [h4] at h; cases h
  | some f =>
   rw [h4] at h
   have := h2 f h4
   simp [openR] at h
   subst h
   dsimp only
   omega
def trip (d : Nat → Nat → Bool) (n : Nat) : Nat → List (Nat × Nat × Nat)
 | 0 => []
 | j + 1 => trip d n j ++ (runs (d (j + 1)) n).map fun x => (j + 1, x.1, x.2)
theorem trip_length (d : Nat → Nat → Bool) (n : Nat) : ∀ j, (trip d n j).length ≤ j * n
 | 0 => by simp [trip]
 | j + 1 => by
  have := trip_length d n j
  have := runs_length (d (j + 1)) n
  simp only [trip, List.length_append, List.length_map]
  rw [Nat.succ_mul]
  omega
theorem trip_in (d : Nat → Nat → Bool) (n : Nat) : ∀ j, ∀ x ∈ trip d n j, 1 ≤ x.1 ∧ x.1 ≤ j ∧ x.2.1 + x.2.2 ≤ n ∧ 1 ≤ x.2.2
 | 0, x, hx => by cases hx
 | j + 1, x, hx => by
  simp only [trip] at hx
  rcases List.mem_append.1 hx with h | h
  ·have := trip_in d n j x h; omega
  ·obtain ⟨y, hy, rfl⟩ := List.mem_map.1 h
   have := runs_in _ n y hy
   dsimp only
   omega
def mkW (lv : Bool) (t : Nat × Nat × Nat) : Wl := ⟨lv, (t.1 : Int), (t.2.1 : Int), (t.2.2 : Int)⟩
def difB (cs : List (List Int)) (lv : Bool) (line i : Nat) : Bool := if lv = true then zbc cs (line - 1) i != zbc cs line i else zbc cs i (line - 1) != zbc cs i line
def wallsOf (cs : List (List Int)) : List Wl := (trip (difB cs false) cs.length (zaq cs - 1)).map (mkW false) ++ (trip (difB cs true) (zaq cs) (cs.length - 1)).map (mkW true)
theorem rd_val (cs : List (List Int)) (r c : Nat) : rd (zbv cs (r : Int)) (c : Int) = zbc cs r c := by
 unfold rd zbv zbc
 rw [Int.toNat_natCast, Int.toNat_natCast]
theorem row_len {cs : List (List Int)} {rs : List Rc} (h : FloorOk cs rs) {r : Nat} (hr : r < cs.length) : (zbv cs (r : Int)).length = zaq cs := by
 unfold zbv
 rw [Int.toNat_natCast, List.getD_eq_getElem?_getD, List.getElem?_eq_getElem hr]
 exact h.cells.row _ (List.getElem_mem _)
def sidesOf (cs : List (List Int)) (lv : Bool) (line i : Nat) : Int × Int := if lv = true then (zbc cs (line - 1) i, zbc cs line i) else (zbc cs i (line - 1), zbc cs i line)
def linesOf (cs : List (List Int)) (lv : Bool) : Nat := if lv = true then cs.length else zaq cs
def zbz (cs : List (List Int)) (lv : Bool) : Nat := if lv = true then zaq cs else cs.length
theorem sides_f {cs : List (List Int)} {rs : List Rc} (h : FloorOk cs rs) (lv : Bool) (line i : Nat) (h1 : 1 ≤ line) (h2 : line < linesOf cs lv) (h3 : i < zbz cs lv) : impl_floor_sides.f cs rs lv line i = some (sidesOf cs lv line i) := by
 have q1 := h.h6
 have q2 := h.w6
 unfold impl_floor_sides.f
 cases lv with
 | true =>
  simp only [linesOf, zbz, if_true] at h2 h3
  have e : wrap64 ((line : Int) - 1) = ((line - 1 : Nat) : Int) := by rw [zas (by omega) (by omega)]; omega
  rw [e, if_pos rfl, if_pos (by omega), if_pos (by omega), if_pos (by omega), row_len h (by omega), if_pos (by omega), if_pos (by omega), if_pos (by omega), row_len h (by omega), if_pos (by omega), rd_val, rd_val]
  rfl
 | false =>
  simp only [linesOf, zbz, Bool.false_eq_true, if_false] at h2 h3
  have e : wrap64 ((line : Int) - 1) = ((line - 1 : Nat) : Int) := by rw [zas (by omega) (by omega)]; omega
  rw [e, if_neg (by simp), if_pos (by omega), if_pos (by omega), if_pos (by omega), row_len h (by omega), if_pos (by omega), if_pos (by omega), if_pos (by omega), rd_val, rd_val]
  rfl
theorem differ_f {cs : List (List Int)} {rs : List Rc} (h : FloorOk cs rs) (lv : Bool) (line i : Nat) (h1 : 1 ≤ line) (h2 : line < linesOf cs lv) (h3 : i < zbz cs lv) : impl_floor_differ.f cs rs lv line i = some (difB cs lv line i) := by
 unfold impl_floor_differ.f
 rw [sides_f h lv line i h1 h2 h3]
 unfold sidesOf difB
 cases lv <;> rfl
theorem set_last {α : Type} (x : List α) (a b : α) : (x ++ [a]).set x.length b = x ++ [b] := by
 rw [List.set_append_right _ _ (Nat.le_refl _), Nat.sub_self, List.set_cons_zero]
theorem walls_l2 (cs : List (List Int)) (rs : List Rc) (lv : Bool) (line : Nat) (hl : line ≤ 100) (d : Nat → Bool) (N : Nat) (hN : N ≤ 100) (hd : ∀ i, i < N → impl_floor_differ.f cs rs lv line i = some (d i)) (x6 x7 x13 x14 : Int) (x12 : List Bool) (pre : List Wl) (hpre : pre.length ≤ 1000) (r : List Wl)
  (hnext : Evs (fun k => impl_floor_walls.l1 k (pre ++ (runs d N).map (fun x => mkW lv (line, x.1, x.2))) lv x6 x7 ((line + 1 : Nat) : Int) x12 x13 x14 cs rs) r) :
  ∀ m i, i + m = N → Evs (fun k => impl_floor_walls.l2 k (pre ++ (runs d i).map (fun x => mkW lv (line, x.1, x.2))) lv x6 x7 (line : Int) (runC d i).2.isSome x12 x13 x14 (N : Int) (i : Int) cs rs) r := by
 intro m
 induction m with
 | zero =>
  intro i hi
  obtain rfl : i = N := by omega
  refine Evs.step (fun k => ?_) hnext
  conv => lhs; unfold impl_floor_walls.l2
  rw [if_neg (by omega), zbl (by omega)]
 | succ m ih =>
  intro i hi
  have hnx := ih (i + 1) (by omega)
  have hdi := hd i (by omega)
  have hrl := runs_length d i
  obtain ⟨g1, g2, g3⟩ := runC_inv d i
  rcases hR : runC d i with ⟨c, o⟩
  rw [hR] at g1 g2 g3
  have e1 : runs d i = c ++ openR i o := by unfold runs; rw [hR]
  rw [e1] at hrl ⊢
  rw [List.length_append] at hrl
  cases hb : d i with
  | true =>
   rw [hb] at hdi
   cases o with
   | none =>
    have e2 : runC d (i + 1) = (c, some i) := by simp only [runC, hR, hb, if_true]
    have e3 : runs d (i + 1) = c ++ [(i, 1)] := by unfold runs; rw [e2]; simp [openR]
    rw [e2, e3] at hnx
    refine Evs.step (h := fun k => impl_floor_walls.j4 k (pre ++ (c ++ openR i none).map (fun x => mkW lv (line, x.1, x.2))) lv x6 x7 (line : Int) (i : Int) true x12 x13 x14 (N : Int) (i : Int) false cs rs) (fun k => ?_) (Evs.step (fun k => ?_) hnx)
    ·conv => lhs; unfold impl_floor_walls.l2
     rw [if_pos (by omega), hdi]
     rfl
    ·conv => lhs; unfold impl_floor_walls.j4
     rw [if_neg (by simp), if_pos rfl, if_pos (by simp [openR]; omega), zbl (by omega)]
     simp [openR, mkW]
   | some f =>
    have hf := g2 f rfl
    have e2 : runC d (i + 1) = (c, some f) := by simp only [runC, hR, hb, if_true]
    have e3 : runs d (i + 1) = c ++ [(f, i + 1 - f)] := by unfold runs; rw [e2]; simp [openR]
    rw [e2, e3] at hnx
    have hap : pre ++ (c ++ openR i (some f)).map (fun x => mkW lv (line, x.1, x.2)) = (pre ++ c.map (fun x => mkW lv (line, x.1, x.2))) ++ [mkW lv (line, f, i - f)] := by simp [openR]
    rw [hap]
    have hap2 : pre ++ (c ++ [(f, i + 1 - f)]).map (fun x => mkW lv (line, x.1, x.2)) = (pre ++ c.map (fun x => mkW lv (line, x.1, x.2))) ++ [mkW lv (line, f, i + 1 - f)] := by simp
    rw [hap2] at hnx
    have hlen : (pre ++ c.map (fun x => mkW lv (line, x.1, x.2))).length ≤ 1100 := by simp [openR] at hrl ⊢; omega
    generalize pre ++ c.map (fun x => mkW lv (line, x.1, x.2)) = q at *
    refine Evs.step (h := fun k => impl_floor_walls.j4 k (q ++ [mkW lv (line, f, i - f)]) lv x6 x7 (line : Int) (i : Int) true x12 x13 x14 (N : Int) (i : Int) true cs rs) (fun k => ?_) (Evs.step (fun k => ?_) hnx)
    ·conv => lhs; unfold impl_floor_walls.l2
     rw [if_pos (by omega), hdi]
     rfl
    ·conv => lhs; unfold impl_floor_walls.j4
     have e4 : wrap64 (((q ++ [mkW lv (line, f, i - f)]).length : Int) - 1) = (q.length : Int) := by
      have hq : ((q ++ [mkW lv (line, f, i - f)]).length : Int) = (q.length : Int) + 1 := by simp
      rw [hq, zas (by omega) (by omega)]; omega
     have e5 : zbw (q ++ [mkW lv (line, f, i - f)]) (q.length : Int) = mkW lv (line, f, i - f) := by
      unfold zbw
      rw [Int.toNat_natCast, List.getD_eq_getElem?_getD, List.getElem?_append_right (Nat.le_refl _), Nat.sub_self]
      rfl
     have e6 : wrap64 ((mkW lv (line, f, i - f)).f3 + 1) = ((i + 1 - f : Nat) : Int) := by
      show wrap64 (((i - f : Nat) : Int) + 1) = _
      rw [zas (by omega) (by omega)]; omega
     rw [if_pos rfl, e4, if_pos (by omega), if_pos (by simp; omega), e5, e6, Int.toNat_natCast, set_last, zbl (by omega)]
     rfl
  | false =>
   rw [hb] at hdi
   have e3 : runs d (i + 1) = c ++ openR i o ∧ (runC d (i + 1)).2.isSome = false := by
    cases o with
    | none =>
     have e2 : runC d (i + 1) = (c, none) := by simp [runC, hR, hb]
     unfold runs
     rw [e2]
     exact ⟨rfl, rfl⟩
    | some f =>
     have e2 : runC d (i + 1) = (c ++ [(f, i - f)], none) := by simp [runC, hR, hb]
     unfold runs
     rw [e2]
     exact ⟨by simp [openR], rfl⟩
   rw [e3.1, e3.2] at hnx
   refine Evs.step (h := fun k => impl_floor_walls.j4 k (pre ++ (c ++ openR i o).map (fun x => mkW lv (line, x.1, x.2))) lv x6 x7 (line : Int) (i : Int) false x12 x13 x14 (N : Int) (i : Int) false cs rs) (fun k => ?_) (Evs.step (fun k => ?_) hnx)
   ·conv => lhs; unfold impl_floor_walls.l2
    rw [if_pos (by omega), hdi]
    rfl
   ·conv => lhs; unfold impl_floor_walls.j4
    rw [if_neg (by simp), if_neg (by simp), zbl (by omega)]
theorem walls_l1 {cs : List (List Int)} {rs : List Rc} (h : FloorOk cs rs) (lv : Bool) (x13 x14 : Int) (hx14 : 0 ≤ x14) (hx14' : x14 ≤ 1000) (x12 : List Bool) (pre : List Wl) (hpre : pre.length ≤ 500) (r : List Wl)
  (hnext : Evs (fun k => impl_floor_walls.l0 k (pre ++ (trip (difB cs lv) (zbz cs lv) (linesOf cs lv - 1)).map (mkW lv)) x12 x13 (x14 + 1) cs rs) r) :
  ∀ m j, j + 1 + m = linesOf cs lv → Evs (fun k => impl_floor_walls.l1 k (pre ++ (trip (difB cs lv) (zbz cs lv) j).map (mkW lv)) lv (linesOf cs lv : Int) (zbz cs lv : Int) ((j + 1 : Nat) : Int) x12 x13 x14 cs rs) r := by
 have q1 := h.h6
 have q2 := h.w6
 have hN : zbz cs lv ≤ 6 := by unfold zbz; split <;> omega
 have hL : linesOf cs lv ≤ 6 := by unfold linesOf; split <;> omega
 intro m
 induction m with
 | zero =>
  intro j hj
  have e : linesOf cs lv - 1 = j := by omega
  rw [e] at hnext
  refine Evs.step (fun k => ?_) hnext
  conv => lhs; unfold impl_floor_walls.l1
  rw [if_neg (by omega), zas (by omega) (by omega)]
 | succ m ih =>
  intro j hj
  have hnx := ih (j + 1) (by omega)
  have ht := trip_length (difB cs lv) (zbz cs lv) j
  have hm : j * zbz cs lv ≤ 6 * 6 := Nat.mul_le_mul (by omega) hN
  have e : pre ++ (trip (difB cs lv) (zbz cs lv) (j + 1)).map (mkW lv) = (pre ++ (trip (difB cs lv) (zbz cs lv) j).map (mkW lv)) ++ (runs (difB cs lv (j + 1)) (zbz cs lv)).map (fun x => mkW lv (j + 1, x.1, x.2)) := by
   simp [trip, Function.comp_def]
  rw [e] at hnx
  have := walls_l2 cs rs lv (j + 1) (by omega) (difB cs lv (j + 1)) (zbz cs lv) (by omega) (fun i hi => differ_f h lv (j + 1) i (by omega) (by omega) hi) (linesOf cs lv) (zbz cs lv) x13 x14 x12 (pre ++ (trip (difB cs lv) (zbz cs lv) j).map (mkW lv)) (by simp; omega) r hnx (zbz cs lv) 0 (by omega)
  refine Evs.step (fun k => ?_) this
  conv => lhs; unfold impl_floor_walls.l1
  rw [if_pos (by omega)]
  simp [runs, runC, openR]
theorem walls_ev {cs : List (List Int)} {rs : List Rc} (h : FloorOk cs rs) : Evs (fun k => impl_floor_walls.f k cs rs) (wallsOf cs) := by
 have q1 := h.h6
 have q2 := h.w6
 have q3 := h.h1
 have q4 := h.w1
 have ht := trip_length (difB cs false) cs.length (zaq cs - 1)
 have hm : (zaq cs - 1) * cs.length ≤ 6 * 6 := Nat.mul_le_mul (by omega) q1
 have end_ : Evs (fun k => impl_floor_walls.l0 k (wallsOf cs) [false, true] 2 2 cs rs) (wallsOf cs) := by
  refine Evs.step (h := fun _ => some (wallsOf cs)) (fun k => ?_) (Evs.const _)
  conv => lhs; unfold impl_floor_walls.l0
  rw [if_neg (by omega)]
 have two := walls_l1 h true 2 1 (by omega) (by omega) [false, true] ((trip (difB cs false) cs.length (zaq cs - 1)).map (mkW false)) (by simp; omega) _ end_ (cs.length - 1) 0 (by show 0 + 1 + _ = cs.length; omega)
 simp only [trip, List.map_nil, List.append_nil] at two
 have two' : Evs (fun k => impl_floor_walls.l0 k ((trip (difB cs false) cs.length (zaq cs - 1)).map (mkW false)) [false, true] 2 1 cs rs) (wallsOf cs) := by
  refine Evs.step (h := fun k => impl_floor_walls.j1 k ((trip (difB cs false) cs.length (zaq cs - 1)).map (mkW false)) true (cs.length : Int) (zaq cs : Int) [false, true] 2 1 cs rs) (fun k => ?_) (Evs.step (fun k => ?_) two)
  ·conv => lhs; unfold impl_floor_walls.l0
   rw [if_pos (by omega), if_pos (by omega), if_pos (by simp), wide_f h, high_f]
   rfl
  ·conv => lhs; unfold impl_floor_walls.j1
   rfl
 have one := walls_l1 h false 2 0 (by omega) (by omega) [false, true] [] (by simp) _ (by rw [List.nil_append]; exact two') (zaq cs - 1) 0 (by show 0 + 1 + _ = zaq cs; omega)
 simp only [trip, List.map_nil, List.append_nil] at one
 refine Evs.congr (h := fun k => impl_floor_walls.l0 k [] [false, true] 2 0 cs rs) (fun k => rfl) ?_
 refine Evs.step (h := fun k => impl_floor_walls.j1 k [] false (zaq cs : Int) (cs.length : Int) [false, true] 2 0 cs rs) (fun k => ?_) (Evs.step (fun k => ?_) one)
 ·conv => lhs; unfold impl_floor_walls.l0
  rw [if_pos (by omega), if_pos (by omega), if_pos (by simp), wide_f h, high_f]
  rfl
 ·conv => lhs; unfold impl_floor_walls.j1
  rfl
def upT (cs : List (List Int)) : List (Nat × Nat × Nat) := trip (difB cs false) cs.length (zaq cs - 1)
def levT (cs : List (List Int)) : List (Nat × Nat × Nat) := trip (difB cs true) (zaq cs) (cs.length - 1)
theorem wallsOf_eq (cs : List (List Int)) : wallsOf cs = (upT cs).map (mkW false) ++ (levT cs).map (mkW true) := rfl
theorem wall_bound {cs : List (List Int)} {rs : List Rc} (h : FloorOk cs rs) : (upT cs).length ≤ 36 ∧ (levT cs).length ≤ 36 := by
 have q1 := h.h6
 have q2 := h.w6
 have h1 := trip_length (difB cs false) cs.length (zaq cs - 1)
 have h2 := trip_length (difB cs true) (zaq cs) (cs.length - 1)
 have m1 : (zaq cs - 1) * cs.length ≤ 6 * 6 := Nat.mul_le_mul (by omega) q1
 have m2 : (cs.length - 1) * zaq cs ≤ 6 * 6 := Nat.mul_le_mul (by omega) q2
 unfold upT levT
 omega
def sumZ : List Int → Int
 | [] => 0
 | x :: r => x + sumZ r
theorem sumZ_append (a b : List Int) : sumZ (a ++ b) = sumZ a + sumZ b := by
 induction a with
 | nil => simp [sumZ]
 | cons x r ih => simp only [List.cons_append, sumZ, ih]; omega
theorem sumZ_range {L : List Int} (h : ∀ x ∈ L, 0 ≤ x ∧ x ≤ 2) : 0 ≤ sumZ L ∧ sumZ L ≤ 2 * L.length := by
 induction L with
 | nil => simp [sumZ]
 | cons x r ih =>
  have h1 := h x List.mem_cons_self
  have h2 := ih (fun y hy => h y (List.mem_cons_of_mem _ hy))
  simp only [sumZ, List.length_cons]
  omega
def allT (cs : List (List Int)) : List (Nat × Nat × Nat) := upT cs ++ levT cs
abbrev kWl := k79
def zeroW : Wl := ⟨false, 0, 0, 0⟩
theorem wl_cells {W : World} {B g n cap : Nat} {ok : Nat → Prop} {ws : List Wl} (h : Kd.R kWl 79 W B ok (.slice (some ⟨g, 0, none⟩) n cap) ws) (k : Nat) (hk : k < ws.length) :
  W.cell? ⟨g, k * 4, none⟩ = some (.bool (ws.getD k zeroW).f0) ∧ W.cell? ⟨g, k * 4 + 1, none⟩ = some (.int .i64 (ws.getD k zeroW).f1) ∧ W.cell? ⟨g, k * 4 + 2, none⟩ = some (.int .i64 (ws.getD k zeroW).f2) ∧ W.cell? ⟨g, k * 4 + 3, none⟩ = some (.int .i64 (ws.getD k zeroW).f3) := by
 obtain ⟨A, c, e, hl, hC⟩ := Kd.R_reads h
 injection e with e1 e2 e3
 subst e1; subst e2
 obtain ⟨ad, e4, h0, h1, h2, h3⟩ := at_T79 hC (k : Int) (by omega) (by omega)
 injection e4 with e4
 subst e4
 have e5 : zbw ws (k : Int) = ws.getD k zeroW := by
  unfold zbw
  rw [show ((k : Int).toNat) = k by omega]
  rfl
 rw [show ((k : Int).toNat) = k by omega, add_plain, e5] at h0 h1 h2 h3
 exact ⟨h0, h1, h2, h3⟩
theorem wallsOf_length (cs : List (List Int)) : (wallsOf cs).length = (allT cs).length := by simp [wallsOf_eq, allT]
theorem wallsOf_bound {cs : List (List Int)} {rs : List Rc} (h : FloorOk cs rs) : (wallsOf cs).length ≤ 72 := by
 have := wall_bound h
 rw [wallsOf_length]
 unfold allT
 rw [List.length_append]
 omega
def sumR (f : Nat → Int) (a l : Nat) : Int := sumI (fun j => f (a + j)) l
def sumX (f : Nat → Int) : List (Nat × Nat) → Int
 | [] => 0
 | x :: r => sumR f x.1 x.2 + sumX f r
theorem sumX_append (f : Nat → Int) (a b : List (Nat × Nat)) : sumX f (a ++ b) = sumX f a + sumX f b := by
 induction a with
 | nil => simp [sumX]
 | cons x r ih => simp only [List.cons_append, sumX, ih]; omega
theorem sum_runs (f : Nat → Int) (d : Nat → Bool) : ∀ n, sumX f (runs d n) = sumI (fun i => if d i = true then f i else 0) n
 | 0 => by simp [runs, runC, openR, sumX, sumI]
 | n + 1 => by
  have ih := sum_runs f d n
  obtain ⟨g1, g2, g3⟩ := runC_inv d n
  rcases hR : runC d n with ⟨c, o⟩
  rw [hR] at g2
  have e1 : runs d n = c ++ openR n o := by unfold runs; rw [hR]
  rw [e1] at ih
  simp only [sumI]
  rw [← ih]
  cases hb : d n with
  | true =>
   rw [if_pos rfl]
   cases o with
   | none =>
    have e2 : runC d (n + 1) = (c, some n) := by simp only [runC, hR, hb, if_true]
    have e3 : runs d (n + 1) = c ++ [(n, 1)] := by unfold runs; rw [e2]; simp [openR]
    rw [e3, sumX_append, sumX_append]
    simp [openR, sumX, sumR, sumI]
   | some a =>
    have hf := g2 a rfl
    have e2 : runC d (n + 1) = (c, some a) := by simp only [runC, hR, hb, if_true]
    have e3 : runs d (n + 1) = c ++ [(a, n + 1 - a)] := by unfold runs; rw [e2]; simp [openR]
    rw [e3, sumX_append, sumX_append]
    have e4 : n + 1 - a = (n - a) + 1 := by omega
    simp only [openR, sumX, sumR]
    rw [e4]
    simp only [sumI]
    rw [show a + (n - a) = n by omega]
    omega
  | false =>
   rw [if_neg (by simp)]
   have e3 : runs d (n + 1) = c ++ openR n o := by
    cases o with
    | none =>
     have e2 : runC d (n + 1) = (c, none) := by simp [runC, hR, hb]
     unfold runs
     rw [e2]
     rfl
    | some a =>
     have e2 : runC d (n + 1) = (c ++ [(a, n - a)], none) := by simp [runC, hR, hb]
     unfold runs
     rw [e2]
     simp [openR]
   rw [e3]
   omega
theorem sumI_zero : ∀ n, sumI (fun _ => 0) n = 0
 | 0 => rfl
 | n + 1 => by simp only [sumI, sumI_zero n]; rfl
theorem sum_swap (F : Nat → Nat → Int) (m : Nat) : ∀ n, sumI (fun i => sumI (fun j => F i j) m) n = sumI (fun j => sumI (fun i => F i j) n) m
 | 0 => by simp only [sumI]; exact (sumI_zero m).symm
 | n + 1 => by
  simp only [sumI]
  rw [sum_swap F m n, ← sumI_add]
def hit (x : Int × Int) (a b : Int) : Int := (if x = (a, b) then 1 else 0) + (if x = (b, a) then 1 else 0)
def hits (T : List (Int × Int)) (a b : Int) : Int := sumZ (T.map fun x => hit x a b)
theorem hits_append (T U : List (Int × Int)) (a b : Int) : hits (T ++ U) a b = hits T a b + hits U a b := by unfold hits; rw [List.map_append, sumZ_append]
def touchW (cs : List (List Int)) (lv : Bool) (x : Nat × Nat × Nat) : List (Int × Int) := (List.range x.2.2).map fun j => sidesOf cs lv x.1 (x.2.1 + j)
def touchL (cs : List (List Int)) : List (Int × Int) := (upT cs).flatMap (touchW cs false) ++ (levT cs).flatMap (touchW cs true)
theorem hits_range (f : Nat → Int × Int) (a b : Int) : ∀ n, hits ((List.range n).map f) a b = sumI (fun j => hit (f j) a b) n
 | 0 => rfl
 | n + 1 => by
  rw [List.range_succ, List.map_append, hits_append, hits_range f a b n]
  simp [hits, sumZ, sumI]
theorem hits_runs (cs : List (List Int)) (lv : Bool) (line : Nat) (a b : Int) : ∀ L : List (Nat × Nat), hits ((L.map fun x => (line, x.1, x.2)).flatMap (touchW cs lv)) a b = sumX (fun i => hit (sidesOf cs lv line i) a b) L
 | [] => rfl
 | x :: r => by
  rw [List.map_cons, List.flatMap_cons, hits_append, hits_runs cs lv line a b r]
  simp only [sumX]
  congr 1
  unfold touchW
  exact hits_range _ a b _
theorem hit_same (x a b : Int) (h : a ≠ b) : hit (x, x) a b = 0 := by
 unfold hit
 rw [if_neg (fun e => by injection e with e1 e2; omega), if_neg (fun e => by injection e with e1 e2; omega)]
 rfl
theorem dif_sides (cs : List (List Int)) (lv : Bool) (line i : Nat) : difB cs lv line i = ((sidesOf cs lv line i).1 != (sidesOf cs lv line i).2) := by unfold difB sidesOf; cases lv <;> rfl
theorem hits_trip (cs : List (List Int)) (lv : Bool) (n : Nat) (a b : Int) (hab : a ≠ b) : ∀ j, hits ((trip (difB cs lv) n j).flatMap (touchW cs lv)) a b = sumI (fun l => sumI (fun i => hit (sidesOf cs lv (l + 1) i) a b) n) j
 | 0 => rfl
 | j + 1 => by
  simp only [trip, sumI]
  rw [List.flatMap_append, hits_append, hits_trip cs lv n a b hab j, hits_runs, sum_runs]
  congr 1
  refine sumI_congr n fun i hi => ?_
  split
  ·rfl
  ·rename_i h
   rw [dif_sides, bne_iff_ne, ne_eq, Classical.not_not] at h
   rcases hs : sidesOf cs lv (j + 1) i with ⟨x, y⟩
   rw [hs] at h
   dsimp only at h
   subst h
   exact (hit_same x a b hab).symm
def lenU (g : Nat → Nat → Int) (hi wi : Nat) (a b : Int) : Int := sumI (fun i => sumI (fun k => hit (g i k, g i (k + 1)) a b) (wi - 1)) hi
theorem touch_hits (cs : List (List Int)) (a b : Int) (hab : a ≠ b) : hits (touchL cs) a b = lenU (zbc cs) cs.length (zaq cs) a b + lenU (fun i k => zbc cs k i) (zaq cs) cs.length a b := by
 unfold touchL
 rw [hits_append]
 unfold upT levT lenU
 rw [hits_trip cs false _ a b hab, hits_trip cs true _ a b hab]
 congr 1
 ·exact sum_swap (fun l i => hit (sidesOf cs false (l + 1) i) a b) cs.length (zaq cs - 1)
 ·exact sum_swap (fun l i => hit (sidesOf cs true (l + 1) i) a b) (zaq cs) (cs.length - 1)
theorem hit_range (x : Int × Int) (a b : Int) : 0 ≤ hit x a b ∧ hit x a b ≤ 2 := by
 unfold hit
 split <;> split <;> omega
theorem sumI_range {f : Nat → Int} (M : Nat) (h : ∀ i, 0 ≤ f i ∧ f i ≤ M) : ∀ n, 0 ≤ sumI f n ∧ sumI f n ≤ (n * M : Nat)
 | 0 => by simp [sumI]
 | n + 1 => by
  have h1 := sumI_range M h n
  have h2 := h n
  simp only [sumI]
  rw [Nat.succ_mul]
  omega
theorem hits_range' (T : List (Int × Int)) (a b : Int) : 0 ≤ hits T a b ∧ hits T a b ≤ 2 * T.length := by
 have := sumZ_range (L := T.map fun x => hit x a b) (fun x hx => by obtain ⟨y, _, rfl⟩ := List.mem_map.1 hx; exact hit_range y a b)
 unfold hits
 simpa using this
def besN (cs : List (List Int)) (a b : Int) : Int := if a = b then 0 else hits (touchL cs) a b
theorem hit_diag (x : Int × Int) (a : Int) (h : x.1 ≠ x.2) : hit x a a = 0 := by
 unfold hit
 rw [if_neg (fun e => by subst e; exact h rfl)]
 rfl
theorem hits_trip_diag (cs : List (List Int)) (lv : Bool) (n : Nat) (a : Int) : ∀ j, hits ((trip (difB cs lv) n j).flatMap (touchW cs lv)) a a = 0
 | 0 => rfl
 | j + 1 => by
  simp only [trip]
  rw [List.flatMap_append, hits_append, hits_trip_diag cs lv n a j, hits_runs, sum_runs]
  rw [sumI_congr (g := fun _ => 0) n (fun i hi => by
   split
   ·rename_i h
    rw [dif_sides, bne_iff_ne] at h
    exact hit_diag _ a h
   ·rfl), sumI_zero]
  rfl
theorem hits_diag (cs : List (List Int)) (a : Int) : hits (touchL cs) a a = 0 := by
 unfold touchL upT levT
 rw [hits_append, hits_trip_diag, hits_trip_diag]
 rfl
theorem besN_hits (cs : List (List Int)) (a b : Int) : besN cs a b = hits (touchL cs) a b := by
 unfold besN
 split
 ·rename_i h
  subst h
  exact (hits_diag cs a).symm
 ·rfl
theorem besN_self (cs : List (List Int)) (a : Int) : besN cs a a = 0 := by unfold besN; rw [if_pos rfl]
def zcn (p : List ByteArray) (a b : Int) : Int × Bool := match zcc p with
 | none => (0, false)
 | some (cs, rs) => if (hasB rs a && hasB rs b && !(a == b)) = true then (besN cs a b, true) else (0, false)
def nearIsF (p : List ByteArray) (a b : Int) : Bool := match zcc p with
 | none => false
 | some (cs, rs) => hasB rs a && hasB rs b && decide (besN cs a b > 0)
theorem nearIs_length (p : List ByteArray) (a b : Int) : nearIsF p a b = ((zcn p a b).2 && decide ((zcn p a b).1 > 0)) := by
 cases hF : zcc p with
 | none =>
  have e1 : nearIsF p a b = false := by unfold nearIsF; rw [hF]
  have e2 : zcn p a b = (0, false) := by unfold zcn; rw [hF]
  rw [e1, e2]
  rfl
 | some t =>
  obtain ⟨cs, rs⟩ := t
  have e1 : nearIsF p a b = (hasB rs a && hasB rs b && decide (besN cs a b > 0)) := by unfold nearIsF; rw [hF]
  have e2 : zcn p a b = if (hasB rs a && hasB rs b && !(a == b)) = true then (besN cs a b, true) else (0, false) := by unfold zcn; rw [hF]
  rw [e1, e2]
  by_cases hab : a = b
  ·subst hab
   rw [besN_self]
   simp
  ·have hq : (a == b) = false := by simp [hab]
   rw [hq]
   generalize hasB rs a = x
   generalize hasB rs b = y
   cases x <;> cases y <;> simp
def touchM (cs : List (List Int)) (n : Nat) : List (List Int) := zbe n n fun a b => hits (touchL cs) a b
def wallsP (cs : List (List Int)) : List (Bool × Nat × Nat × Nat) := (upT cs).map (fun t => (false, t)) ++ (levT cs).map (fun t => (true, t))
theorem wallsP_walls (cs : List (List Int)) : wallsOf cs = (wallsP cs).map fun x => mkW x.1 x.2 := by
 unfold wallsP
 rw [wallsOf_eq, List.map_append, List.map_map, List.map_map]
 rfl
theorem wallsP_touch (cs : List (List Int)) : touchL cs = (wallsP cs).flatMap fun x => touchW cs x.1 x.2 := by
 unfold wallsP touchL
 rw [List.flatMap_append, List.flatMap_map, List.flatMap_map]
theorem wallsP_ok {cs : List (List Int)} {rs : List Rc} (h : FloorOk cs rs) (i : Nat) (hi : i < (wallsP cs).length) : ∃ lv l f n, (wallsP cs)[i]? = some (lv, l, f, n) ∧ 1 ≤ l ∧ l < linesOf cs lv ∧ f + n ≤ zbz cs lv ∧ 1 ≤ n ∧ linesOf cs lv ≤ 6 ∧ zbz cs lv ≤ 6 := by
 have q1 := h.h6
 have q2 := h.w6
 have q3 := h.h1
 have q4 := h.w1
 have hm := List.getElem_mem hi
 rw [List.getElem?_eq_getElem hi]
 generalize (wallsP cs)[i] = x at *
 unfold wallsP at hm
 rcases List.mem_append.1 hm with hm | hm
 ·obtain ⟨⟨l, f, n⟩, hx, rfl⟩ := List.mem_map.1 hm
  have := trip_in _ _ _ _ hx
  exact ⟨false, l, f, n, rfl, by simp only [linesOf, zbz, Bool.false_eq_true, if_false]; dsimp only at this; omega⟩
 ·obtain ⟨⟨l, f, n⟩, hx, rfl⟩ := List.mem_map.1 hm
  have := trip_in _ _ _ _ hx
  exact ⟨true, l, f, n, rfl, by simp only [linesOf, zbz, if_true]; dsimp only at this; omega⟩
def touchP (cs : List (List Int)) (i : Nat) : List (Int × Int) := ((wallsP cs).take i).flatMap fun x => touchW cs x.1 x.2
theorem touchW_length (cs : List (List Int)) (lv : Bool) (x : Nat × Nat × Nat) : (touchW cs lv x).length = x.2.2 := by simp [touchW]
theorem touchP_succ (cs : List (List Int)) (i : Nat) (lv : Bool) (t : Nat × Nat × Nat) (h : (wallsP cs)[i]? = some (lv, t)) : touchP cs (i + 1) = touchP cs i ++ touchW cs lv t := by
 unfold touchP
 rw [List.take_add_one, h, List.flatMap_append]
 simp
theorem touchP_length {cs : List (List Int)} {rs : List Rc} (h : FloorOk cs rs) : ∀ i, i ≤ (wallsP cs).length → (touchP cs i).length ≤ i * 6
 | 0, _ => by simp [touchP]
 | i + 1, hi => by
  obtain ⟨lv, l, f, n, e, h1, h2, h3, h4, h5, h6⟩ := wallsP_ok h i (by omega)
  have ih := touchP_length h i (by omega)
  rw [touchP_succ cs i lv _ e, List.length_append, touchW_length, Nat.succ_mul]
  dsimp only
  omega
theorem touchP_all (cs : List (List Int)) : touchP cs (wallsP cs).length = touchL cs := by
 unfold touchP
 rw [List.take_length, wallsP_touch]
theorem touchW_take (cs : List (List Int)) (lv : Bool) (l f n j : Nat) (hj : j < n) : (touchW cs lv (l, f, n)).take (j + 1) = (touchW cs lv (l, f, n)).take j ++ [sidesOf cs lv l (f + j)] := by
 unfold touchW
 rw [List.take_add_one, List.getElem?_map, List.getElem?_range hj]
 rfl
theorem sides_range {cs : List (List Int)} {rs : List Rc} (h : FloorOk cs rs) (lv : Bool) (line i : Nat) (h1 : 1 ≤ line) (h2 : line < linesOf cs lv) (h3 : i < zbz cs lv) : ∃ a b : Nat, sidesOf cs lv line i = ((a : Int), (b : Int)) ∧ a < rs.length ∧ b < rs.length := by
 unfold sidesOf
 cases lv with
 | true =>
  simp only [linesOf, zbz, if_true] at h2 h3
  have v1 := valAt_range h (line - 1) i (by omega) h3
  have v2 := valAt_range h line i h2 h3
  rw [if_pos rfl]
  exact ⟨(zbc cs (line - 1) i).toNat, (zbc cs line i).toNat, by rw [Int.toNat_of_nonneg v1.1, Int.toNat_of_nonneg v2.1], by omega, by omega⟩
 | false =>
  simp only [linesOf, zbz, Bool.false_eq_true, if_false] at h2 h3
  have v1 := valAt_range h i (line - 1) h3 (by omega)
  have v2 := valAt_range h i line h3 h2
  rw [if_neg (by simp)]
  exact ⟨(zbc cs i (line - 1)).toNat, (zbc cs i line).toNat, by rw [Int.toNat_of_nonneg v1.1, Int.toNat_of_nonneg v2.1], by omega, by omega⟩
def incG (G : Nat → Nat → Int) (i j r c : Nat) : Int := if r = i ∧ c = j then G r c + 1 else G r c
def hitG (T : List (Int × Int)) (r c : Nat) : Int := hits T (r : Int) (c : Int)
theorem hitG_snoc (T : List (Int × Int)) (a b r c : Nat) : incG (incG (hitG T) a b) b a r c = hitG (T ++ [((a : Int), (b : Int))]) r c := by
 unfold hitG
 rw [hits_append]
 have e : hits [((a : Int), (b : Int))] (r : Int) (c : Int) = (if r = a ∧ c = b then 1 else 0) + (if r = b ∧ c = a then 1 else 0) := by
  unfold hits hit
  simp only [List.map_cons, List.map_nil, sumZ, Prod.mk.injEq]
  have e1 : ((a : Int) = (r : Int) ∧ (b : Int) = (c : Int)) ↔ (r = a ∧ c = b) := by omega
  have e2 : ((a : Int) = (c : Int) ∧ (b : Int) = (r : Int)) ↔ (r = b ∧ c = a) := by omega
  simp only [e1, e2]
  omega
 rw [e]
 unfold incG
 dsimp only
 split <;> split <;> omega
theorem grid_inc {n : Nat} (G : Nat → Nat → Int) (i j : Nat) (hi : i < n) (hj : j < n) : (zbe n n G).set i (((List.range n).map fun c => G i c).set j (G i j + 1)) = zbe n n (incG G i j) := by
 apply List.ext_getElem?
 intro r
 by_cases hr : r < n
 ·rw [gridOf_get hr, List.getElem?_set]
  by_cases e : i = r
  ·subst e
   rw [if_pos rfl, if_pos (by rw [zbf]; exact hi)]
   congr 1
   apply List.ext_getElem?
   intro c
   rw [List.getElem?_set]
   by_cases hc : c < n
   ·rw [List.getElem?_map, List.getElem?_range hc]
    by_cases e2 : j = c
    ·subst e2
     rw [if_pos rfl, if_pos (by simp; exact hj), List.getElem?_map, List.getElem?_range hj]
     simp [incG]
    ·rw [if_neg e2, List.getElem?_map, List.getElem?_range hc]
     simp only [Option.map_some, incG]
     rw [if_neg (fun z => e2 z.2.symm)]
   ·rw [List.getElem?_eq_none (by simp; omega : ((List.range n).map fun c => incG G i j i c).length ≤ c), if_neg (by omega), List.getElem?_eq_none (by simp; omega)]
  ·rw [if_neg e, gridOf_get hr]
   congr 1
   apply List.map_congr_left
   intro c _
   unfold incG
   rw [if_neg (fun z => e z.1.symm)]
 ·rw [List.getElem?_eq_none (by rw [List.length_set, zbf]; omega), List.getElem?_eq_none (by rw [zbf]; omega)]
theorem mat_inc {W : World} {g0 n : Nat} {bs : List Nat} {G : Nat → Nat → Int} (HM : MatAt W g0 n bs (zbe n n G)) (i j : Nat) (hi : i < n) (hj : j < n) :
  ∃ b, b ∈ bs ∧ W.cell? ⟨g0, i, none⟩ = some (.slice (some ⟨b, 0, none⟩) n n) ∧ W.cell? ⟨b, j, none⟩ = some (.int .i64 (G i j)) ∧ W.frozen? ⟨b, j, none⟩ = false ∧ ∀ p : Int, p = G i j + 1 → MatAt (W.setCell ⟨b, j, none⟩ (.int .i64 p)) g0 n bs (zbe n n (incG G i j)) := by
 have hr := gridOf_get (hi := n) (wi := n) (g := G) hi
 obtain ⟨b, hb⟩ : ∃ b, bs[i]? = some b := ⟨_, List.getElem?_eq_getElem (by rw [HM.len, zbf]; exact hi)⟩
 have hx : ((List.range n).map fun c => G i c)[j]? = some (G i j) := by rw [List.getElem?_map, List.getElem?_range hj]; rfl
 have h1 := HM.topCell i b _ hb hr
 have h2 := HM.rowCell i j b _ _ hb hr hx
 have h3 := HM.set i j b _ (G i j + 1) hb hr
 rw [grid_inc G i j hi hj] at h3
 simp only [List.length_map, List.length_range] at h1
 exact ⟨b, List.mem_of_getElem? hb, h1, h2.1, h2.2, fun p hp => by subst hp; exact h3⟩
theorem wallsP_get {cs : List (List Int)} {i : Nat} {x : Bool × Nat × Nat × Nat} (h : (wallsP cs)[i]? = some x) : (wallsOf cs).getD i zeroW = mkW x.1 x.2 := by
 rw [wallsP_walls, List.getD_eq_getElem?_getD, List.getElem?_map, h]
 rfl
theorem wallsP_length (cs : List (List Int)) : (wallsP cs).length = (wallsOf cs).length := by rw [wallsP_walls]; simp
set_option maxHeartbeats 4000000 in
set_option maxRecDepth 100000 in
theorem touching1_read (w : World) (n : Nat) : ReadFn Try.prog 143 #[] w n n (fun _ _ => 0) := by
 intro W r c hr hc hS
 clear hS
 show Calls _ _ #[.int .i64 r, .int .i64 c] W _
 go_enter Try.func143, Try.ntmps143
 go_wp2
 go_ret
 exact ⟨rfl, Below.refl _ _⟩
theorem block_ne {W : World} {a b t s : Nat} {x y : Array Value} {u v : Nat × Nat} (ha : W.heap[a]? = some (.cells x t u)) (hb : W.heap[b]? = some (.cells y s v)) (h : t ≠ s) : a ≠ b := by
 rintro rfl
 rw [ha] at hb
 injection hb with hb
 injection hb with _ hb
 exact h hb
theorem MatAt.typed {W : World} {g n : Nat} {bs : List Nat} {rows : List (List Int)} (h : MatAt W g n bs rows) {b : Nat} (hb : b ∈ bs) : ∃ x, W.heap[b]? = some (.cells x 3 (0, 0)) := by
 obtain ⟨i, hi, e⟩ := List.mem_iff_getElem.1 hb
 have hr : i < rows.length := by rw [← h.len]; exact hi
 exact ⟨_, h.row i b _ (by rw [List.getElem?_eq_getElem hi, e]) (List.getElem?_eq_getElem hr)⟩
set_option maxHeartbeats 8000000 in
set_option maxRecDepth 100000 in
theorem touching_calls (g : Nat) (cs : List (List Int)) (rs : List Rc) (w : World) (hf : FloorAt w g cs rs) (hk : FloorOk cs rs) :
  Calls Try.prog 128 #[.pointer (some ⟨g, 0, none⟩)] w (GridRes w (touchM cs rs.length)) := by
 have HF := zaa.mk hf
 have HK := zaa.mk hk
 obtain ⟨Ar, cr, hrm, -⟩ := hf.rooms
 have h9 := hk.many
 clear hf hk
 have b9 : (rs.length : Int) ≤ 9 := by omega
 go_enter Try.func128, Try.ntmps128
 go_wp2
 refine start_ (n := 12) (S := fun w' => (w'.cell? ⟨g, 1, none⟩ = some (.slice Ar rs.length cr)) ∧ (Below w.heap.size w w')) (ds := []) #[false, false, false, false, false, false, false, false, false, false, false, false] (by kernel_rfl) rfl rfl (⟨hrm, ⟨rfl, rfl, rfl, Nat.le_refl _, fun _ _ => rfl⟩⟩) (fun hHeld => ?_)
 clear hrm
 refine zbm (i := 0) (N := some 9) (v := ?_) (a' := ?_) #[true, false, false, false, false, false, false, false, false, false, false, false] rfl rfl (by kernel_rfl) (fun _ _ _ h => h) (Or.inl ⟨by rfl, ?_⟩) ?_ ?_
 rotate_left
 ·intro w'
  go_simp
  with_reducible rfl
 rotate_left
 ·simp only [Act.put, List.setIfInBounds_toArray, List.set_cons_zero, List.set_cons_succ, zax, zaz]
  rfl
 refine zbm (i := 1) (N := some 10) (v := ?_) (a' := ?_) #[true, true, false, false, false, false, false, false, false, false, false, false] rfl rfl (by kernel_rfl) (fun _ _ _ h => h) (Or.inl ⟨by rfl, ?_⟩) ?_ ?_
 rotate_left
 ·intro w'
  go_simp
  with_reducible rfl
 rotate_left
 ·simp only [Act.put, List.setIfInBounds_toArray, List.set_cons_zero, List.set_cons_succ, zax, zaz]
  rfl
 refine zbm (i := 2) (N := some 11) (v := ?_) (a' := ?_) #[true, true, true, false, false, false, false, false, false, false, false, false] rfl rfl (by kernel_rfl) (fun _ _ _ h => h) (Or.inl ⟨by rfl, ?_⟩) ?_ ?_
 rotate_left
 ·intro w'
  go_simp
  with_reducible rfl
 rotate_left
 ·simp only [Act.put, List.setIfInBounds_toArray, List.set_cons_zero, List.set_cons_succ, zax, zaz]
  rfl
 refine take_ (i := 3) (N := some 12) (v := ?_) (a' := ?_) #[true, true, true, true, false, false, false, false, false, false, false, false] rfl rfl (by kernel_rfl) (fun _ _ _ h => h) (Or.inl ⟨by rfl, ?_⟩) hHeld ?_ ?_
 rotate_left
 ·rintro w' ⟨s0, s1⟩
  go_simp
  with_reducible rfl
 rotate_left
 ·simp only [Act.put, List.setIfInBounds_toArray, List.set_cons_zero, List.set_cons_succ, zax, zaz]
  rfl
 refine zbm (i := 4) (N := some 13) (v := ?_) (a' := ?_) #[true, true, true, true, true, false, false, false, false, false, false, false] rfl rfl (by kernel_rfl) (fun _ _ _ h => h) (Or.inl ⟨by rfl, ?_⟩) ?_ ?_
 rotate_left
 ·intro w'
  go_simp
  with_reducible rfl
 rotate_left
 ·simp only [Act.put, List.setIfInBounds_toArray, List.set_cons_zero, List.set_cons_succ, zax, zaz]
  rfl
 refine zbm (i := 5) (N := some 14) (v := ?_) (a' := ?_) #[true, true, true, true, true, true, false, false, false, false, false, false] rfl rfl (by kernel_rfl) (fun _ _ _ h => h) (Or.inl ⟨by rfl, ?_⟩) ?_ ?_
 rotate_left
 ·intro w'
  go_simp
  with_reducible rfl
 rotate_left
 ·simp only [Act.put, List.setIfInBounds_toArray, List.set_cons_zero, List.set_cons_succ, zax, zaz]
  rfl
 refine zbm (i := 6) (N := some 15) (v := ?_) (a' := ?_) #[true, true, true, true, true, true, true, false, false, false, false, false] rfl rfl (by kernel_rfl) (fun _ _ _ h => h) (Or.inl ⟨by rfl, ?_⟩) ?_ ?_
 rotate_left
 ·intro w'
  go_simp
  with_reducible rfl
 rotate_left
 ·simp only [Act.put, List.setIfInBounds_toArray, List.set_cons_zero, List.set_cons_succ, zax, zaz]
  rfl
 refine zbm (i := 7) (N := some 16) (v := ?_) (a' := ?_) #[true, true, true, true, true, true, true, true, false, false, false, false] rfl rfl (by kernel_rfl) (fun _ _ _ h => h) (Or.inl ⟨by rfl, ?_⟩) ?_ ?_
 rotate_left
 ·intro w'
  go_simp
  with_reducible rfl
 rotate_left
 ·simp only [Act.put, List.setIfInBounds_toArray, List.set_cons_zero, List.set_cons_succ, zax, zaz]
  rfl
 refine take_ (i := 8) (N := some 17) (v := ?_) (a' := ?_) #[true, true, true, true, true, true, true, true, true, false, false, false] rfl rfl (by kernel_rfl) (fun _ _ _ h => h) (Or.inl ⟨by rfl, ?_⟩) hHeld ?_ ?_
 rotate_left
 ·rintro w' ⟨s0, s1⟩
  go_simp
  with_reducible rfl
 rotate_left
 ·simp only [Act.put, List.setIfInBounds_toArray, List.set_cons_zero, List.set_cons_succ, zax, zaz]
  rfl
 refine zbm (i := 9) (N := some 18) (v := ?_) (a' := ?_) #[true, true, true, true, true, true, true, true, true, true, false, false] rfl rfl (by kernel_rfl) (fun _ _ _ h => h) (Or.inl ⟨by rfl, ?_⟩) ?_ ?_
 rotate_left
 ·intro w'
  go_simp
  with_reducible rfl
 rotate_left
 ·simp only [Act.put, List.setIfInBounds_toArray, List.set_cons_zero, List.set_cons_succ, zax, zaz]
  rfl
 refine one_ (i := 10) (N := some 19) #[true, true, true, true, true, true, true, true, true, true, true, false] rfl rfl (by kernel_rfl) (by decide) (fun K hK => ?_)
 refine goes_ Try.func68 (by kernel_rfl) rfl #[.int .i64 (rs.length : Int), .int .i64 (rs.length : Int), .func (.func 143) #[] #[]] (by rfl) rfl rfl (by (try simp only [List.map_toArray, List.map_cons, List.map_nil]); first | done | rfl) ?_
 have hs_ := hHeld
 obtain ⟨s0, s1⟩ := hs_
 refine (blank_calls 143 Try.f143 Try.func143 (by kernel_rfl) rfl _ rs.length rs.length _ _ (readFn_cell (touching1_read _ rs.length)) (fun k => k < _) _ ⟨fun _ => Iff.rfl, Sees.refl _⟩ (by omega) (by omega)).mono ?_
 rintro e w13 ⟨g0, bs, F', rfl, hM, hfar, ⟨hF, hS⟩, hF', hO⟩
 have hb : Below _ _ w13 := ⟨hO.os, hO.tape, hO.output, hS.1, hS.2⟩
 have HM13 := zaa.mk hM
 have HLow := zaa.mk (fun k hk => Nat.le_trans s1.size (hfar k hk).1)
 have HB13 := zaa.mk (zaf s1 hb)
 clear hM hfar hF hS hF' hO
 refine ⟨_, rfl, ?_⟩
 refine hK.out _ _ ⟨zah hb s0, zaf s1 hb⟩ (fun hHeld => ?_)
 clear hK K hb s0 s1
 refine norm_ (a' := ?_) ?_ ?_
 rotate_left
 ·show Act.put _ (some 19) _ = _
  simp only [Act.put, List.setIfInBounds_toArray, List.set_cons_zero, List.set_cons_succ, zax, zaz]
  rfl
 refine zbm (i := 11) (N := some 3) (v := ?_) (a' := ?_) #[true, true, true, true, true, true, true, true, true, true, true, true] rfl rfl (by kernel_rfl) (fun _ _ _ h => h) (Or.inl ⟨by rfl, ?_⟩) ?_ ?_
 rotate_left
 ·intro w'
  go_simp
  with_reducible rfl
 rotate_left
 ·simp only [Act.put, List.setIfInBounds_toArray, List.set_cons_zero, List.set_cons_succ, zax, zaz]
  rfl
 refine done_ (by kernel_rfl) ?_
 clear hHeld
 obtain ⟨K, hK⟩ := walls_ev HK.out
 have HW := zaa.mk (hK K (Nat.le_refl K))
 have HL := zaa.mk (wallsOf_bound HK.out)
 have HPL := zaa.mk (wallsP_length cs)
 have HPG := zaa.mk (fun i x h => wallsP_get (cs := cs) (i := i) (x := x) h)
 have hM0 : touchM cs rs.length = zbe rs.length rs.length (hitG (touchP cs (wallsOf cs).length)) := by
  rw [← wallsP_length, touchP_all]
  rfl
 have HM0 := zaa.mk hM0
 have HZ := zaa.mk (show zbe rs.length rs.length (fun _ _ => 0) = zbe rs.length rs.length (hitG (touchP cs 0)) from gridOf_congr fun r c _ _ => rfl)
 clear hK hM0
 generalize wallsOf cs = ws at *
 generalize touchM cs rs.length = tm at *
 have b1 : (ws.length : Int) ≤ 72 := by have := HL.out; omega
 go_wp2_with (first
  | (go_at_call 80; refine (impl_floor_walls.calls K g cs rs ws _ _ (HF.out.below HB13.out) (Below.refl _ _) HW.out).mono ?_; rintro e w9 ⟨v9, rfl, hr9, -, hb9, -⟩; obtain ⟨A9, c9, e9⟩ := Kd.R_slice hr9; subst e9; have HB9 := zaa.mk (zaf HB13.out hb9); have HR9 := zaa.mk (Kd.R_lower hr9 HB13.out.size); have HM9 := zaa.mk (HM13.out.move (fun k hk => hb9.block k (HM13.out.lt k hk))); clear hb9 hr9))
 go_loopg [23] ws.length (fun kq v23 w' => ∃ i : Nat, v23 = .int .i64 (i : Int) ∧ zaa (i + kq = ws.length) ∧ zaa (MatAt w' g0 rs.length bs (zbe rs.length rs.length (hitG (touchP cs i)))) ∧ zaa (Kd.R kWl 79 w' w.heap.size (fun _ => True) (.slice A9 ws.length c9) ws) ∧ zaa (Below w.heap.size w w'))
 case atStart => exact ⟨0, rfl, ⟨by omega⟩, ⟨HZ.out ▸ HM9.out⟩, HR9, HB9⟩
 case round =>
  clear HR9 HB9 HM9
  obtain ⟨i, rfl, HKi, HM, HO, HB⟩ := hrel
  by_cases hi : i < ws.length
  ·have hlt : (i : Int) < (ws.length : Int) := by omega
   have hi0 : (0 : Int) ≤ i := by omega
   obtain ⟨gr, cp, ev, hgr, hltg, cells, hcells⟩ := Kd.R_form HO.out (by omega)
   injection ev with ea en ec
   subst ea
   clear en ec hcells hltg hgr
   obtain ⟨z0, z1, z2, z3⟩ := wl_cells HO.out i hi
   obtain ⟨lv, l, f, n, hP, k1, k2, k3, k4, k5, k6⟩ := wallsP_ok HK.out i (by rw [HPL.out]; exact hi)
   rw [HPG.out i _ hP] at z0 z1 z2 z3
   simp only [mkW] at z0 z1 z2 z3
   have HTS := zaa.mk (touchP_succ cs i lv _ hP)
   have HTL := zaa.mk (touchP_length HK.out i (by rw [HPL.out]; omega))
   have HSd := zaa.mk (fun j (hj : j < n) => sides_range HK.out lv l (f + j) k1 k2 (by omega))
   have HSf := zaa.mk (fun j (hj : j < n) => sides_f HK.out lv l (f + j) k1 k2 (by omega))
   obtain ⟨fn, hw, hfn⟩ : ∃ fn : Int, wrap64 ((f : Int) + (n : Int)) = fn ∧ fn = (f : Int) + (n : Int) := ⟨_, rfl, zas (by omega) (by omega)⟩
   have HFN := zaa.mk hfn
   have HN6 := zaa.mk (show f + n ≤ 6 ∧ n ≤ 6 by omega)
   clear hP k1 k2 k3 k4 k5 k6 hfn
   have HNw := zaa.mk (heap_alloc_new wr (.cells #[.bool lv, .int .i64 (l : Int), .int .i64 (f : Int), .int .i64 (n : Int)] 79))
   have HBa := zaa.mk (zac HB.out (.cells #[.bool lv, .int .i64 (l : Int), .int .i64 (f : Int), .int .i64 (n : Int)] 79))
   have HOa := zaa.mk (Kd.R_below HO.out (zac (Below.refl _ _) (.cells #[.bool lv, .int .i64 (l : Int), .int .i64 (f : Int), .int .i64 (n : Int)] 79)))
   have HMa := zaa.mk (HM.out.move (fun k hk => Below.heap_alloc wr (.cells #[.bool lv, .int .i64 (l : Int), .int .i64 (f : Int), .int .i64 (n : Int)] 79) k (HM.out.lt k hk)))
   clear HB HM HO
   go_wp2
   generalize wr.alloc (.cells #[.bool lv, .int .i64 (l : Int), .int .i64 (f : Int), .int .i64 (n : Int)] 79) = wz at *
   generalize wr.heap.size = gw at *
   clear z0 z1 z2 z3
   go_loopg [6] n (fun kq v6 w' => ∃ (j : Nat) (x : Int), v6 = .int .i64 x ∧ zaa (x = (f : Int) + (j : Int)) ∧ zaa (j + kq = n) ∧ zaa (MatAt w' g0 rs.length bs (zbe rs.length rs.length (hitG (touchP cs i ++ (touchW cs lv (l, f, n)).take j)))) ∧ zaa (w'.heap[gw]? = some (.cells #[.bool lv, .int .i64 (l : Int), .int .i64 (f : Int), .int .i64 (n : Int)] 79 (0, 0))) ∧ zaa (Kd.R kWl 79 w' w.heap.size (fun _ => True) (.slice (some ⟨gr, 0, none⟩) ws.length c9) ws) ∧ zaa (Below w.heap.size w w'))
   case atStart => exact ⟨0, (f : Int), rfl, ⟨by omega⟩, ⟨by omega⟩, ⟨by simpa using HMa.out⟩, HNw, HOa, HBa⟩
   case round =>
    clear HMa HNw HOa HBa
    obtain ⟨j, x, rfl, HX, HKj, HM, HNw, HO, HB⟩ := hrel
    have y0 := (zat HNw.out 0).trans rfl
    have y1 := (zat HNw.out 1).trans rfl
    have y2 := (zat HNw.out 2).trans rfl
    have y3 := (zat HNw.out 3).trans rfl
    by_cases hj : j < n
    ·have hlt2 : x < fn := by have := HX.out; have := HFN.out; omega
     obtain ⟨a, b, hs, ha, hb⟩ := HSd.out j hj
     have hsf := HSf.out j hj
     rw [hs, show ((f + j : Nat) : Int) = x by have := HX.out; omega] at hsf
     have HSF := zaa.mk hsf
     have HS := zaa.mk hs
     have HTT := zaa.mk (touchW_take cs lv l f n j hj)
     have hTl : (touchP cs i ++ (touchW cs lv (l, f, n)).take j).length ≤ 500 := by
      have := HTL.out
      have := HN6.out
      rw [List.length_append, List.length_take, touchW_length]
      dsimp only
      omega
     obtain ⟨x', hw3, hx'⟩ : ∃ x' : Int, wrap64 (x + 1) = x' ∧ x' = (f : Int) + ((j + 1 : Nat) : Int) := ⟨_, rfl, by have := HX.out; have := HN6.out; rw [zas (by omega) (by omega)]; omega⟩
     have HX' := zaa.mk hx'
     have a0 : (0 : Int) ≤ (a : Int) := by omega
     have b0 : (0 : Int) ≤ (b : Int) := by omega
     have a1 : (a : Int) < (rs.length : Int) := by omega
     have b2 : (b : Int) < (rs.length : Int) := by omega
     obtain ⟨T, hT⟩ : ∃ T, T = touchP cs i ++ (touchW cs lv (l, f, n)).take j := ⟨_, rfl⟩
     rw [← hT] at HM hTl
     have HTn := zaa.mk (show touchP cs i ++ (touchW cs lv (l, f, n)).take (j + 1) = T ++ [((a : Int), (b : Int))] by rw [HTT.out, HS.out, ← List.append_assoc, hT])
     have HTB := zaa.mk (fun r c => hits_range' T r c)
     have HTLn := zaa.mk hTl
     clear hs hsf hx' hTl hT
     go_wp2_with (first
      | (go_at_call 127; refine (impl_floor_sides.calls g cs rs lv (l : Int) x (a : Int) (b : Int) _ _ (HF.out.below HB.out) (Below.refl _ _) HSF.out).mono ?_; rintro e w12 ⟨rfl, -, hb12, -⟩; have hm12 := HM.out.move (fun k hk => hb12.block k (HM.out.lt k hk)); obtain ⟨p1, hp1, q1, q2, q3, hm1⟩ := mat_inc hm12 a b ha hb; obtain ⟨v1, hv1, hv1'⟩ : ∃ v1 : Int, wrap64 (hitG T a b + 1) = v1 ∧ v1 = hitG T a b + 1 := ⟨_, rfl, by have := HTB.out a b; have := HTLn.out; unfold hitG; exact zas (by omega) (by omega)⟩; replace hm1 := hm1 v1 hv1'; obtain ⟨p2, hp2, r1, r2, r3, hm2⟩ := mat_inc hm1 b a hb ha; obtain ⟨v2, hv2, hv2'⟩ : ∃ v2 : Int, wrap64 (incG (hitG T) a b b a + 1) = v2 ∧ v2 = incG (hitG T) a b b a + 1 := ⟨_, rfl, by have := HTB.out b a; have := HTLn.out; unfold incG hitG; split <;> exact zas (by omega) (by omega)⟩; replace hm2 := hm2 v2 hv2'; obtain ⟨X1, ht1⟩ := hm12.typed hp1; obtain ⟨X2, ht2⟩ := hm1.typed hp2; have hn12 := (hb12.block gw (Array.getElem?_eq_some_iff.1 HNw.out).1).trans HNw.out; have HNw2 := zaa.mk ((Below.heap_setCell (w12.setCell ⟨p1, b, none⟩ (.int .i64 v1)) ⟨p2, a, none⟩ (.int .i64 v2) gw (by show gw ≠ p2; exact block_ne ((Below.heap_setCell w12 ⟨p1, b, none⟩ (.int .i64 v1) gw (by show gw ≠ p1; exact block_ne hn12 ht1 (by decide))).trans hn12) ht2 (by decide))).trans ((Below.heap_setCell w12 ⟨p1, b, none⟩ (.int .i64 v1) gw (by show gw ≠ p1; exact block_ne hn12 ht1 (by decide))).trans hn12)); have HO2 := zaa.mk (R_setF (R_setF (Kd.R_below HO.out hb12) ht1 (by decide) b (.int .i64 v1)) ht2 (by decide) a (.int .i64 v2)); have HB2 := zaa.mk (zai (zai (zaf HB.out hb12) (g := p1) (j := b) (v := .int .i64 v1) (HLow.out p1 (List.mem_cons_of_mem _ hp1))) (g := p2) (j := a) (v := .int .i64 v2) (HLow.out p2 (List.mem_cons_of_mem _ hp2))); have HM2 := zaa.mk hm2; clear hm12 hm1 hm2 hp1 hp2 ht1 ht2 hn12 hb12 hv1' hv2' HO HB HM HNw; generalize hitG T a b = g1 at q2 hv1; generalize incG (hitG T) a b b a = g2 at r2 hv2))
     go_roundg (n - (j + 1))
     case measure => have := HKj.out; omega
     case rel => exact ⟨j + 1, x', congrArg (Value.int .i64) hw3, HX', ⟨by have := HKj.out; omega⟩, ⟨by rw [HTn.out, ← gridOf_congr (fun r c _ _ => hitG_snoc T a b r c)]; exact HM2.out⟩, HNw2, HO2, HB2⟩
    ·have hge2 : ¬ x < fn := by have := HX.out; have := HFN.out; omega
     obtain rfl : j = n := by have := HKj.out; omega
     go_wp2
     go_roundg (ws.length - (i + 1))
     case measure => have := HKi.out; omega
     case rel => exact ⟨i + 1, by first | rfl | (congr 1; omega), ⟨by have := HKi.out; omega⟩, ⟨by rw [HTS.out]; have := HM.out; rwa [List.take_of_length_le (by rw [touchW_length]; exact Nat.le_refl _)] at this⟩, HO, HB⟩
  ·have hge : ¬ (i : Int) < (ws.length : Int) := by omega
   obtain rfl : i = ws.length := by have := HKi.out; omega
   go_wp2
   go_ret
   have hl := zbf rs.length rs.length (hitG (touchP cs ws.length))
   rw [HM0.out]
   exact ⟨some ⟨g0, 0, none⟩, rs.length, by rw [hl]; rfl, by rw [hl]; exact Nat.le_refl _, HM.out.reads (by rw [hl]; omega) (fun r hr => by rw [gridOf_row r hr]; omega), HB.out⟩
theorem touchM_length (cs : List (List Int)) (n : Nat) : (touchM cs n).length = n := zbf _ _ _
def pairF (p : List ByteArray) (a b : Int) : Option (List (List Int) × List Rc) := match zcc p with
 | none => none
 | some (cs, rs) => if (hasB rs a && hasB rs b) = true then some (cs, rs) else none
def PairRes (w : World) (r : Option (List (List Int) × List Rc)) (e : Ending) (w' : World) : Prop :=
 Below w.heap.size w w' ∧ match r with
  | none => e = .returned (.tuple #[.pointer none, .slice none 0 0, .bool false])
  | some (cs, rs) => ∃ g A c, e = .returned (.tuple #[.pointer (some ⟨g, 0, none⟩), .slice A (touchM cs rs.length).length c, .bool true]) ∧ FloorAt w' g cs rs ∧ (touchM cs rs.length).length ≤ c ∧ (Kd.slice 3 (Kd.int .i64)).C w' A (touchM cs rs.length).length (touchM cs rs.length)
set_option maxHeartbeats 4000000 in
set_option maxRecDepth 100000 in
theorem pair_calls (A0 : Option Addr) (c0 : Nat) (l0 : List ByteArray) (a b : Int) (w : World) (hr0 : Kd.C Kd.string w A0 l0.length l0) (hc0 : l0.length ≤ c0) (hp : smallP l0) :
  Calls Try.prog 94 #[.slice A0 l0.length c0, .int .i64 a, .int .i64 b] w (PairRes w (pairF l0 a b)) := by
 have HR := zaa.mk hr0
 have HC := zaa.mk hc0
 have HP := zaa.mk hp
 clear hr0 hc0 hp
 generalize hM : pairF l0 a b = res
 have HM := zaa.mk hM
 clear hM
 generalize hF : zcc l0 = t
 have HF := zaa.mk hF
 clear hF
 rcases t with _ | ⟨cs, rs⟩
 ·have e : res = none := by rw [← HM.out]; unfold pairF; rw [HF.out]
  subst e
  go_enter Try.func94, Try.ntmps94
  go_wp2_with (first
   | (go_at_call 66; refine (zcf A0 c0 l0 _ HR.out HC.out HP.out).mono ?_; rw [HF.out]; rintro e w8 ⟨hb8, v8, b8, rfl, rfl⟩; have HB8 := zaa.mk hb8; clear hb8))
  go_ret3
  exact ⟨HB8.out, rfl⟩
 ·have hre : pairF l0 a b = if (hasB rs a && hasB rs b) = true then some (cs, rs) else none := by unfold pairF; rw [HF.out]
  rw [HM.out] at hre
  have HK := zaa.mk (floorF_ok HF.out)
  generalize hA : hasB rs a = bA at hre
  generalize hB : hasB rs b = bB at hre
  have HA := zaa.mk hA
  have HBb := zaa.mk hB
  clear hA hB
  cases bA
  ·have e : res = none := by rw [hre]; simp
   subst e
   clear hre
   go_enter Try.func94, Try.ntmps94
   go_wp2_with (first
    | (go_at_call 66; refine (zcf A0 c0 l0 _ HR.out HC.out HP.out).mono ?_; rw [HF.out]; rintro e w8 ⟨hb8, v8, b8, rfl, rfl, g, rfl, hfl⟩; have HB8 := zaa.mk hb8; have HFl8 := zaa.mk hfl; clear hb8 hfl)
    | (go_at_call 67; refine (impl_floor_has.calls g cs rs a _ _ _ HFl8.out (Below.refl _ _) (has_f cs rs a)).mono ?_; rw [HA.out]; rintro e w9 ⟨rfl, -, hb9, -⟩; have HB9 := zaa.mk (zaf HB8.out hb9); clear hb9))
   go_ret3
   exact ⟨HB9.out, rfl⟩
  ·cases bB
   ·have e : res = none := by rw [hre]; simp
    subst e
    clear hre
    go_enter Try.func94, Try.ntmps94
    go_wp2_with (first
     | (go_at_call 66; refine (zcf A0 c0 l0 _ HR.out HC.out HP.out).mono ?_; rw [HF.out]; rintro e w8 ⟨hb8, v8, b8, rfl, rfl, g, rfl, hfl⟩; have HB8 := zaa.mk hb8; have HFl8 := zaa.mk hfl; clear hb8 hfl)
     | (go_at_call 67; refine zca (args' := #[.pointer (some ⟨g, 0, none⟩), .int .i64 a]) (by with_reducible rfl) ?_; refine (impl_floor_has.calls g cs rs a _ _ _ HFl8.out (Below.refl _ _) (has_f cs rs a)).mono ?_; rw [HA.out]; rintro e w9 ⟨rfl, -, hb9, -⟩; have HB9 := zaa.mk (zaf HB8.out hb9); have HFl9 := zaa.mk (HFl8.out.below hb9); clear hb9)
     | (go_at_call 67; refine zca (args' := #[.pointer (some ⟨g, 0, none⟩), .int .i64 b]) (by with_reducible rfl) ?_; refine (impl_floor_has.calls g cs rs b _ _ _ HFl9.out (Below.refl _ _) (has_f cs rs b)).mono ?_; rw [HBb.out]; rintro e w10 ⟨rfl, -, hb10, -⟩; have HB10 := zaa.mk (zaf HB9.out hb10); clear hb10))
    go_ret3
    exact ⟨HB10.out, rfl⟩
   ·have e : res = some (cs, rs) := by rw [hre]; simp
    subst e
    clear hre
    go_enter Try.func94, Try.ntmps94
    go_wp2_with (first
     | (go_at_call 66; refine (zcf A0 c0 l0 _ HR.out HC.out HP.out).mono ?_; rw [HF.out]; rintro e w8 ⟨hb8, v8, b8, rfl, rfl, g, rfl, hfl⟩; have HB8 := zaa.mk hb8; have HFl8 := zaa.mk hfl; clear hb8 hfl)
     | (go_at_call 67; refine zca (args' := #[.pointer (some ⟨g, 0, none⟩), .int .i64 a]) (by with_reducible rfl) ?_; refine (impl_floor_has.calls g cs rs a _ _ _ HFl8.out (Below.refl _ _) (has_f cs rs a)).mono ?_; rw [HA.out]; rintro e w9 ⟨rfl, -, hb9, -⟩; have HB9 := zaa.mk (zaf HB8.out hb9); have HFl9 := zaa.mk (HFl8.out.below hb9); clear hb9)
     | (go_at_call 67; refine zca (args' := #[.pointer (some ⟨g, 0, none⟩), .int .i64 b]) (by with_reducible rfl) ?_; refine (impl_floor_has.calls g cs rs b _ _ _ HFl9.out (Below.refl _ _) (has_f cs rs b)).mono ?_; rw [HBb.out]; rintro e w10 ⟨rfl, -, hb10, -⟩; have HB10 := zaa.mk (zaf HB9.out hb10); have HFl10 := zaa.mk (HFl9.out.below hb10); clear hb10)
     | (go_at_call 128; refine (touching_calls g cs rs _ HFl10.out HK.out).mono ?_; rintro e w11 ⟨A11, c11, rfl, hl11, hC11, hb11⟩; have HB11 := zaa.mk (zaf HB10.out hb11); have HFl11 := zaa.mk (HFl10.out.below hb11); have HL11 := zaa.mk hl11; have HC11 := zaa.mk hC11; clear hb11 hl11 hC11))
    go_ret3
    exact ⟨HB11.out, g, A11, c11, rfl, HFl11.out, HL11.out, HC11.out⟩
theorem touch_cell {w : World} {A : Option Addr} {cs : List (List Int)} {n : Nat} (h : (Kd.slice 3 (Kd.int .i64)).C w A (touchM cs n).length (touchM cs n)) (a b : Nat) (ha : a < n) (hb : b < n) :
  ∃ ad ad2 c2, A = some ad ∧ w.cell? (ad.add a) = some (.slice (some ad2) n c2) ∧ w.cell? (ad2.add b) = some (.int .i64 (besN cs a b)) := by
 have hrow : (touchM cs n)[a]? = some ((List.range n).map fun (c : Nat) => hits (touchL cs) a c) := gridOf_get ha
 obtain ⟨ad, Ai, ci, e1, hx, hl, hrr⟩ := C_row h a _ hrow
 obtain ⟨ad2, e2, hx2⟩ := C_int_cell hrr b (by simp; exact hb)
 subst e2
 refine ⟨ad, ad2, ci, e1, by simpa using hx, ?_⟩
 rw [hx2, besN_hits]
 unfold rd
 rw [Int.toNat_natCast, List.getD_eq_getElem?_getD, List.getElem?_map, List.getElem?_range hb]
 rfl
set_option maxHeartbeats 4000000 in
set_option maxRecDepth 100000 in
theorem NearLength_calls (A0 : Option Addr) (c0 : Nat) (l0 : List ByteArray) (a b : Int) (w : World) (hr0 : Kd.C Kd.string w A0 l0.length l0) (hc0 : l0.length ≤ c0) (hp : smallP l0) :
  Calls Try.prog 78 #[.slice A0 l0.length c0, .int .i64 a, .int .i64 b] w fun e w' => e = .returned (.tuple #[.int .i64 (zcn l0 a b).1, .bool (zcn l0 a b).2]) ∧ Below w.heap.size w w' := by
 have HPr := zaa.mk (pair_calls A0 c0 l0 a b w hr0 hc0 hp)
 clear hr0 hc0 hp
 generalize hM : zcn l0 a b = res
 have hre : zcn l0 a b = match pairF l0 a b with
  | none => (0, false)
  | some (cs, rs) => if (a == b) = true then (0, false) else (besN cs a b, true) := by
  unfold zcn pairF
  cases zcc l0 with
  | none => rfl
  | some t =>
   dsimp only
   cases hasB t.2 a <;> cases hasB t.2 b <;> cases (a == b) <;> rfl
 have hin : ∀ cs rs, pairF l0 a b = some (cs, rs) → FloorOk cs rs ∧ hasB rs a = true ∧ hasB rs b = true := fun cs rs h => by
  unfold pairF at h
  cases hF : zcc l0 with
  | none => rw [hF] at h; cases h
  | some t =>
   obtain ⟨c1, r1⟩ := t
   rw [hF] at h
   dsimp only at h
   split at h
   ·rename_i hb
    injection h with h
    injection h with h1 h2
    subst h1 h2
    rw [Bool.and_eq_true] at hb
    exact ⟨floorF_ok hF, hb.1, hb.2⟩
   ·cases h
 rw [hM] at hre
 clear hM
 rcases hT : pairF l0 a b with _ | ⟨cs, rs⟩
 ·rw [hT] at hre HPr
  have e : res = (0, false) := hre
  subst e
  clear hre hin hT
  go_enter Try.func78, Try.ntmps78
  go_wp2_with (first
   | (go_at_call 94; refine HPr.out.mono ?_; rintro e w8 ⟨hb8, rfl⟩; have HB8 := zaa.mk hb8; clear hb8))
  go_ret2
  exact ⟨rfl, HB8.out⟩
 ·obtain ⟨hk, hA, hB⟩ := hin cs rs hT
  rw [hT] at hre HPr
  have hre2 : res = if (a == b) = true then (0, false) else (besN cs a b, true) := hre
  clear hre hin hT
  unfold hasB at hA hB
  rw [Bool.and_eq_true, decide_eq_true_eq, decide_eq_true_eq] at hA hB
  by_cases hab : a = b
  ·have e : res = (0, false) := by rw [hre2]; simp [hab]
   subst e
   have d1 : (a == b) = true := by simp [hab]
   clear hre2 hab hA hB
   go_enter Try.func78, Try.ntmps78
   go_wp2_with (first
    | (go_at_call 94; refine HPr.out.mono ?_; rintro e w8 ⟨hb8, g, A, c, rfl, hfl, hl, hC⟩; have HB8 := zaa.mk hb8; clear hb8 hfl hl hC))
   go_ret2
   exact ⟨rfl, HB8.out⟩
  ·have e : res = (besN cs a b, true) := by rw [hre2]; simp [hab]
   have HE := zaa.mk e
   have d1 : (a == b) = false := by simp [hab]
   clear hre2 hab e
   obtain ⟨ia, rfl⟩ := Int.eq_ofNat_of_zero_le hA.1
   obtain ⟨ib, rfl⟩ := Int.eq_ofNat_of_zero_le hB.1
   have hia : ia < rs.length := by omega
   have hib : ib < rs.length := by omega
   have a0 : (0 : Int) ≤ (ia : Int) := by omega
   have b0 : (0 : Int) ≤ (ib : Int) := by omega
   have a1 : (ia : Int) < (rs.length : Int) := by omega
   have b1 : (ib : Int) < (rs.length : Int) := by omega
   have HTl := zaa.mk (touchM_length cs rs.length)
   go_enter Try.func78, Try.ntmps78
   go_wp2_with (first
    | (go_at_call 94; refine HPr.out.mono ?_; rintro e w8 ⟨hb8, g, A, c, rfl, hfl, hl, hC⟩; obtain ⟨ad, ad2, c2, eA, x1, x2⟩ := touch_cell hC ia ib hia hib; subst eA; rw [HTl.out]; have HB8 := zaa.mk hb8; clear hb8 hfl hl hC))
   go_ret2
   rw [HE.out]
   exact ⟨rfl, HB8.out⟩
set_option maxHeartbeats 4000000 in
set_option maxRecDepth 100000 in
theorem NearIs_calls (A0 : Option Addr) (c0 : Nat) (l0 : List ByteArray) (a b : Int) (w : World) (hr0 : Kd.C Kd.string w A0 l0.length l0) (hc0 : l0.length ≤ c0) (hp : smallP l0) :
  Calls Try.prog 20 #[.slice A0 l0.length c0, .int .i64 a, .int .i64 b] w fun e w' => e = .returned (.bool (nearIsF l0 a b)) ∧ Below w.heap.size w w' := by
 have HN := zaa.mk (NearLength_calls A0 c0 l0 a b w hr0 hc0 hp)
 clear hr0 hc0 hp
 rw [nearIs_length]
 generalize zcn l0 a b = t at *
 obtain ⟨n, ok⟩ := t
 dsimp only at *
 cases ok
 ·go_enter Try.func20, Try.ntmps20
  go_wp2_with (first
   | (go_at_call 78; refine HN.out.mono ?_; rintro e w8 ⟨rfl, hb8⟩; have HB8 := zaa.mk hb8; clear hb8))
  go_ret
  exact ⟨rfl, HB8.out⟩
 ·go_enter Try.func20, Try.ntmps20
  go_wp2_with (first
   | (go_at_call 78; refine HN.out.mono ?_; rintro e w8 ⟨rfl, hb8⟩; have HB8 := zaa.mk hb8; clear hb8))
  go_ret
  exact ⟨rfl, HB8.out⟩
def impl_NearIs.f (l0 : List ByteArray) (a1 : Int) (a2 : Int) : Option (Bool) := if smallB l0 = true then some (nearIsF l0 a1 a2) else none
theorem impl_NearIs.calls (A0 : Option Addr) (c0 : Nat) (l0 : List ByteArray) (a1 : Int) (a2 : Int) (r : Bool) (w : World) (hr0 : Kd.C Kd.string w A0 l0.length l0) (hc0 : l0.length ≤ c0) (h : impl_NearIs.f l0 a1 a2 = some r) :
  Calls Try.prog 20 #[.slice A0 l0.length c0, .int .i64 a1, .int .i64 a2] w fun e w' => e = .returned (.bool r) ∧ Below w.heap.size w w' := by
 unfold impl_NearIs.f at h
 split at h
 ·rename_i hs
  have e := Option.some.inj h
  have := NearIs_calls A0 c0 l0 a1 a2 w hr0 hc0 ((smallB_iff _).1 hs)
  rw [e] at this
  exact this
 ·cases h
end Go.Proofs.Ytaepgogafkmooaa.Hd
namespace Go.Proofs.Ytaepgogafkmooaa.MG
open Go.Proofs.Ytaepgogafkmooaa.PB Go.Proofs.Ytaepgogafkmooaa.Hd Go.Proofs.Ytaepgogafkmooaa.SM
open Go.RowKit Go.PW.PrintWords Go.PW.PrintLast Go.PW.PrintMore
attribute [local go_sem] zck zci max_two min_two zby zbx zcj zch   -- for this text's walks alone
def errW : Option Int → Value
 | none => .nilIface
 | some c => .iface 0 (.int .i64 c)
theorem zao : errW none = .nilIface := rfl
theorem zan (c : Int) : errW (some c) = .iface 0 (.int .i64 c) := rfl
theorem info3 : (Try.prog.info? 3).map (fun i => (i.zero, i.size, i.bytes)) = some (some (.int .i64 0), 1, 8) := by kernel_rfl
theorem info5 : (Try.prog.info? 5).map (fun i => (i.zero, i.size, i.bytes)) = some (some (.int .u8 0), 1, 1) := by kernel_rfl
theorem info9 : (Try.prog.info? 9).map (fun i => (i.zero, i.size, i.bytes)) = some (some (.string ⟨#[]⟩), 1, 16) := by kernel_rfl
theorem info79 : (Try.prog.info? 79).map (fun i => (i.zero, i.size, i.bytes)) = some (some (.agg #[(.bool false), (.int .i64 0), (.int .i64 0), (.int .i64 0)]), 4, 32) := by kernel_rfl
def zbv (xs : List (List Int)) (i : Int) : (List Int) := xs.getD i.toNat ([] : List Int)
theorem at_L3 {w : World} {A : Option Addr} {n : Nat} {xs : List (List Int)} (h : Kd.C (Kd.slice 3 (Kd.int .i64)) w A n xs) (i : Int) (h0 : 0 ≤ i) (h1 : i < n) : ∃ ad A0 c0, A = some ad ∧ w.cell? (ad.add i.toNat) = some (.slice A0 (zbv xs i).length c0) ∧ (zbv xs i).length ≤ c0 ∧ (Kd.int .i64).C w A0 (zbv xs i).length (zbv xs i) := by
 obtain ⟨ad, c, e, _, hK, hc0⟩ := Kd.C_get h ([] : List Int) i h0 h1
 have hc : ∀ j u, c[j]? = some u → w.cell? (ad.add (i.toNat * 1 + j)) = some u := hc0
 obtain ⟨A0, c0, rfl, l0, g0⟩ := hK
 exact ⟨ad, A0, c0, e, by have hq := hc 0 _ rfl; rwa [Nat.mul_one, Nat.add_zero] at hq, l0, g0⟩
structure S131 where
 f0 : Int
 f1 : Int
 f2 : Int
 f3 : Int
def z131 : S131 := ⟨(0 : Int), (0 : Int), (0 : Int), (0 : Int)⟩
def k131 : Kd S131 := Kd.iso (Kd.pair (Kd.int .i64) (Kd.pair (Kd.int .i64) (Kd.pair (Kd.int .i64) (Kd.int .i64)))) (fun x : S131 => (x.f0, x.f1, x.f2, x.f3))
theorem k131_open {w : World} {x : S131} {cs : List Value} (h : k131.K w x cs) : cs = [.int .i64 x.f0, .int .i64 x.f1, .int .i64 x.f2, .int .i64 x.f3] := by
 obtain ⟨_, _, rfl, rfl, ⟨_, _, rfl, rfl, ⟨_, _, rfl, rfl, rfl⟩⟩⟩ := h
 exact rfl
theorem k131_mkM (w : World) (base : Nat) (ok : Nat → Prop) (x : S131)  : k131.M w base ok x [.int .i64 x.f0, .int .i64 x.f1, .int .i64 x.f2, .int .i64 x.f3] := ⟨[.int .i64 x.f0], [.int .i64 x.f1, .int .i64 x.f2, .int .i64 x.f3], rfl, rfl, ⟨[.int .i64 x.f1], [.int .i64 x.f2, .int .i64 x.f3], rfl, rfl, ⟨[.int .i64 x.f2], [.int .i64 x.f3], rfl, rfl, rfl⟩⟩⟩
def rd_T131 (xs : List S131) (i : Int) : S131 := xs.getD i.toNat z131
theorem at_T131 {w : World} {A : Option Addr} {n : Nat} {xs : List S131} (h : Kd.C k131 w A n xs) (i : Int) (h0 : 0 ≤ i) (h1 : i < n) : ∃ ad , A = some ad ∧ w.cell? (ad.add (i.toNat * 4)) = some (.int .i64 (rd_T131 xs i).f0) ∧ w.cell? ⟨(ad.add (i.toNat * 4)).block, (ad.add (i.toNat * 4)).off + 1, none⟩ = some (.int .i64 (rd_T131 xs i).f1) ∧ w.cell? ⟨(ad.add (i.toNat * 4)).block, (ad.add (i.toNat * 4)).off + 2, none⟩ = some (.int .i64 (rd_T131 xs i).f2) ∧ w.cell? ⟨(ad.add (i.toNat * 4)).block, (ad.add (i.toNat * 4)).off + 3, none⟩ = some (.int .i64 (rd_T131 xs i).f3) := by
 obtain ⟨ad, c, e, _, hK, hc0⟩ := Kd.C_get h z131 i h0 h1
 have hc : ∀ j u, c[j]? = some u → w.cell? (ad.add (i.toNat * 4 + j)) = some u := hc0
 obtain rfl := k131_open hK
 exact ⟨ad, e, hc 0 _ rfl, by rw [← add_field _ _ 1 (by omega)]; exact hc 1 _ rfl, by rw [← add_field _ _ 2 (by omega)]; exact hc 2 _ rfl, by rw [← add_field _ _ 3 (by omega)]; exact hc 3 _ rfl⟩
structure S79 where
 f0 : Bool
 f1 : Int
 f2 : Int
 f3 : Int
def z79 : S79 := ⟨false, (0 : Int), (0 : Int), (0 : Int)⟩
def k79 : Kd S79 := Kd.iso (Kd.pair Kd.bool (Kd.pair (Kd.int .i64) (Kd.pair (Kd.int .i64) (Kd.int .i64)))) (fun x : S79 => (x.f0, x.f1, x.f2, x.f3))
theorem k79_open {w : World} {x : S79} {cs : List Value} (h : k79.K w x cs) : cs = [.bool x.f0, .int .i64 x.f1, .int .i64 x.f2, .int .i64 x.f3] := by
 obtain ⟨_, _, rfl, rfl, ⟨_, _, rfl, rfl, ⟨_, _, rfl, rfl, rfl⟩⟩⟩ := h
 exact rfl
theorem k79_openM {w : World} {base : Nat} {ok : Nat → Prop} {x : S79} {cs : List Value} (h : k79.M w base ok x cs) : cs = [.bool x.f0, .int .i64 x.f1, .int .i64 x.f2, .int .i64 x.f3] := by
 obtain ⟨_, _, rfl, rfl, ⟨_, _, rfl, rfl, ⟨_, _, rfl, rfl, rfl⟩⟩⟩ := h
 exact rfl
theorem k79_mkM (w : World) (base : Nat) (ok : Nat → Prop) (x : S79)  : k79.M w base ok x [.bool x.f0, .int .i64 x.f1, .int .i64 x.f2, .int .i64 x.f3] := ⟨[.bool x.f0], [.int .i64 x.f1, .int .i64 x.f2, .int .i64 x.f3], rfl, rfl, ⟨[.int .i64 x.f1], [.int .i64 x.f2, .int .i64 x.f3], rfl, rfl, ⟨[.int .i64 x.f2], [.int .i64 x.f3], rfl, rfl, rfl⟩⟩⟩
def zbw (xs : List S79) (i : Int) : S79 := xs.getD i.toNat z79
theorem at_T79 {w : World} {A : Option Addr} {n : Nat} {xs : List S79} (h : Kd.C k79 w A n xs) (i : Int) (h0 : 0 ≤ i) (h1 : i < n) : ∃ ad , A = some ad ∧ w.cell? (ad.add (i.toNat * 4)) = some (.bool (zbw xs i).f0) ∧ w.cell? ⟨(ad.add (i.toNat * 4)).block, (ad.add (i.toNat * 4)).off + 1, none⟩ = some (.int .i64 (zbw xs i).f1) ∧ w.cell? ⟨(ad.add (i.toNat * 4)).block, (ad.add (i.toNat * 4)).off + 2, none⟩ = some (.int .i64 (zbw xs i).f2) ∧ w.cell? ⟨(ad.add (i.toNat * 4)).block, (ad.add (i.toNat * 4)).off + 3, none⟩ = some (.int .i64 (zbw xs i).f3) := by
 obtain ⟨ad, c, e, _, hK, hc0⟩ := Kd.C_get h z79 i h0 h1
 have hc : ∀ j u, c[j]? = some u → w.cell? (ad.add (i.toNat * 4 + j)) = some u := hc0
 obtain rfl := k79_open hK
 exact ⟨ad, e, hc 0 _ rfl, by rw [← add_field _ _ 1 (by omega)]; exact hc 1 _ rfl, by rw [← add_field _ _ 2 (by omega)]; exact hc 2 _ rfl, by rw [← add_field _ _ 3 (by omega)]; exact hc 3 _ rfl⟩
end Go.Proofs.Ytaepgogafkmooaa.MG
namespace Go.Proofs.Ytaepgogafkmooaa.MG
open Go.Proofs.Ytaepgogafkmooaa.PB Go.Proofs.Ytaepgogafkmooaa.Hd Go.Proofs.Ytaepgogafkmooaa.SM
open Go.RowKit Go.PW.PrintWords Go.PW.PrintLast Go.PW.PrintMore
attribute [local go_sem] zck zci max_two min_two zby zbx zcj zch   -- for this text's walks alone
def laws_FnMerge.j0 : Nat → List ByteArray → Int → Int → List ByteArray → Bool → List ByteArray → Bool → Bool → Option (Bool)
 | 0, _, _, _, _, _, _, _, _ => none
 | k + 1, x3, x4, x5, x6, x7, x8, x9, x51 => if x51 = true then (if (x7 == x9) = true then ((laws_sameTexts.f k x6 x8).bind fun t421 => (some t421)) else (some false)) else ((impl_PlanRooms.f x3).bind fun bt422 => ((impl_PlanRooms.f x6).bind fun bt424 => ((impl_PlanMerge.f x3 x5 x4).bind fun bt426 => (if bt422.2 = true then (if bt424.2 = true then (if bt426.2 = true then (if bt424.1 = (wrap64 (bt422.1 - 1)) then ((laws_sameTexts.f k bt426.1 x6).bind fun t430 => (if t430 = true then ((impl_NearIs.f x3 x4 x5).bind fun t431 => (some t431)) else (some false))) else (some false)) else (some false)) else (some false)) else (some false)))))
def laws_FnMerge.f (k : Nat) (l0 : List Int) : Option (Bool) := if (l0.length : Int) > 1048576 then (some true) else ((spec_DrawPlanMerge.f k l0).bind fun bt407 => ((impl_PlanMerge.f bt407.1 bt407.2.1 bt407.2.2).bind fun bt412 => ((spec_PlanMerge.f k bt407.1 bt407.2.1 bt407.2.2).bind fun bt416 => (if (bt412.2 != bt416.2) = true then (laws_FnMerge.j0 k bt407.1 bt407.2.1 bt407.2.2 bt412.1 bt412.2 bt416.1 bt416.2 true) else ((laws_sameTexts.f k bt412.1 bt416.1).bind fun t420 => (if t420 = true then (laws_FnMerge.j0 k bt407.1 bt407.2.1 bt407.2.2 bt412.1 bt412.2 bt416.1 bt416.2 (!bt412.2)) else (laws_FnMerge.j0 k bt407.1 bt407.2.1 bt407.2.2 bt412.1 bt412.2 bt416.1 bt416.2 true)))))))
set_option maxHeartbeats 8000000 in
set_option maxRecDepth 100000 in
theorem laws_FnMerge.calls (k : Nat) (A0 : Option Addr) (c0 : Nat) (l0 : List Int) (r : Bool) (w : World) (hr0 : Kd.C (Kd.int .u8) w A0 l0.length l0) (hc0 : l0.length ≤ c0) (h : laws_FnMerge.f k l0 = some r) :
  Calls Try.prog 3 #[.slice A0 l0.length c0] w fun e w' => e = .returned (.bool r) ∧ Below w.heap.size w w' := by
 have HR0 := zaa.mk hr0
 have HC0 := zaa.mk hc0
 clear hr0 hc0
 have HB := zaa.mk (Below.refl w.heap.size w)
 have H : (if (l0.length : Int) > 1048576 then (some true) else ((spec_DrawPlanMerge.f k l0).bind fun bt407 => ((impl_PlanMerge.f bt407.1 bt407.2.1 bt407.2.2).bind fun bt412 => ((spec_PlanMerge.f k bt407.1 bt407.2.1 bt407.2.2).bind fun bt416 => (if (bt412.2 != bt416.2) = true then (laws_FnMerge.j0 k bt407.1 bt407.2.1 bt407.2.2 bt412.1 bt412.2 bt416.1 bt416.2 true) else ((laws_sameTexts.f k bt412.1 bt416.1).bind fun t420 => (if t420 = true then (laws_FnMerge.j0 k bt407.1 bt407.2.1 bt407.2.2 bt412.1 bt412.2 bt416.1 bt416.2 (!bt412.2)) else (laws_FnMerge.j0 k bt407.1 bt407.2.1 bt407.2.2 bt412.1 bt412.2 bt416.1 bt416.2 true)))))))) = some r := h
 clear h
 by_cases c2 : (l0.length : Int) > 1048576
 ·rw [if_pos c2] at H
  have c2b0 : decide (1048576 < (l0.length : Int)) = true := decide_eq_true c2
  have c2b1 : decide (1048576 < l0.length) = true := decide_eq_true (by omega)
  clear c2
  obtain rfl := Option.some.inj H
  go_enter Try.func3, Try.ntmps3
  go_wp2
  go_ret
  exact ⟨by first | rfl | (simp [zao, zan] <;> rfl) | (simp [*, zao, zan] <;> rfl), by repeat (first | (with_reducible first | exact HB.out | apply zac | apply zab | apply zad) | exact HB.out)⟩
 ·rw [if_neg c2] at H
  have c2b0 : decide (1048576 < (l0.length : Int)) = false := decide_eq_false c2
  have c2b1 : decide (1048576 < l0.length) = false := decide_eq_false (by omega)
  clear c2
  replace H := Option.bind_eq_some_iff.mp H
  obtain ⟨⟨t407, t410, t411⟩, A30, H⟩ := H
  replace H : ((impl_PlanMerge.f t407 t410 t411).bind fun bt412 => ((spec_PlanMerge.f k t407 t410 t411).bind fun bt416 => (if (bt412.2 != bt416.2) = true then (laws_FnMerge.j0 k t407 t410 t411 bt412.1 bt412.2 bt416.1 bt416.2 true) else ((laws_sameTexts.f k bt412.1 bt416.1).bind fun t420 => (if t420 = true then (laws_FnMerge.j0 k t407 t410 t411 bt412.1 bt412.2 bt416.1 bt416.2 (!bt412.2)) else (laws_FnMerge.j0 k t407 t410 t411 bt412.1 bt412.2 bt416.1 bt416.2 true)))))) = some r := H
  have A3 := zaa.mk A30
  clear A30
  replace H := Option.bind_eq_some_iff.mp H
  obtain ⟨⟨t412, t413⟩, A40, H⟩ := H
  replace H : ((spec_PlanMerge.f k t407 t410 t411).bind fun bt416 => (if (t413 != bt416.2) = true then (laws_FnMerge.j0 k t407 t410 t411 t412 t413 bt416.1 bt416.2 true) else ((laws_sameTexts.f k t412 bt416.1).bind fun t420 => (if t420 = true then (laws_FnMerge.j0 k t407 t410 t411 t412 t413 bt416.1 bt416.2 (!t413)) else (laws_FnMerge.j0 k t407 t410 t411 t412 t413 bt416.1 bt416.2 true))))) = some r := H
  have A4 := zaa.mk A40
  clear A40
  replace H := Option.bind_eq_some_iff.mp H
  obtain ⟨⟨t416, t417⟩, A50, H⟩ := H
  replace H : (if (t413 != t417) = true then (laws_FnMerge.j0 k t407 t410 t411 t412 t413 t416 t417 true) else ((laws_sameTexts.f k t412 t416).bind fun t420 => (if t420 = true then (laws_FnMerge.j0 k t407 t410 t411 t412 t413 t416 t417 (!t413)) else (laws_FnMerge.j0 k t407 t410 t411 t412 t413 t416 t417 true)))) = some r := H
  have A5 := zaa.mk A50
  clear A50
  have HC6 := zaa.mk H
  clear H
  go_enter Try.func3, Try.ntmps3
  go_upto_region 6 with (first | ((with_reducible refine zal (f := 15) rfl ?_); refine zba (some 21) rfl rfl Try.func15 (by kernel_rfl) rfl #[.slice A0 l0.length c0] rfl (by (try simp only [List.map_toArray, List.map_cons, List.map_nil]); first | done | rfl | (simp only [List.length_drop, List.length_take]; rfl)) ?_; (with_reducible refine (spec_DrawPlanMerge.calls k _ _ l0 t407 t410 t411 _ ?side1 ?side2 A3.out).mono ?_); (case side1 => repeat (first | exact HR0.out | (with_reducible refine Kd.C_alloc ?_ _) | (with_reducible refine Kd.C_drewN ?_ _) | (with_reducible refine Kd.C_drew ?_))); (case side2 => exact HC0.out); rintro e w7 ⟨v408, rfl, ho0, hb⟩; refine ⟨_, rfl, ?_⟩; have n0_ := zaa.mk (Kd.V_lower (Kd.V_mono (ok' := fun k_ => True) ho0 (fun k_ hk_ => trivial)) (zap (by repeat (first | (with_reducible first | exact HB.out | apply zac | apply zab | apply zad) | exact HB.out)))); have n1_ := zaa.mk (zaf (by repeat (first | (with_reducible first | exact HB.out | apply zac | apply zab | apply zad) | exact HB.out)) hb); clear HB; have HO409 := n0_; have HB := n1_; clear n0_ n1_; (try clear hb); (try clear hb2); (try clear hk); (try clear hi); (try clear ho0); obtain ⟨Ao8, co8, eo8⟩ := Kd.V_slice HO409.out; subst eo8) | ((with_reducible refine zal (f := 16) rfl ?_); refine zba (some 29) rfl rfl Try.func16 (by kernel_rfl) rfl #[.slice Ao8 t407.length co8, .int .i64 t410, .int .i64 t411] rfl (by (try simp only [List.map_toArray, List.map_cons, List.map_nil]); first | done | rfl | (simp only [List.length_drop, List.length_take]; rfl)) ?_; (with_reducible refine (impl_PlanMerge.calls _ _ t407 t410 t411 t412 t413 _ ?side1 ?side2 A4.out).mono ?_); (case side1 => repeat (first | exact (Kd.V_reads' HO409.out).2.2 | (with_reducible refine Kd.C_alloc ?_ _) | (with_reducible refine Kd.C_drewN ?_ _) | (with_reducible refine Kd.C_drew ?_))); (case side2 => exact (Kd.V_reads' HO409.out).2.1); rintro e w9 ⟨v414, rfl, ho0, hb⟩; refine ⟨_, rfl, ?_⟩; have n0_ := zaa.mk (Kd.V_elder' (by (with_reducible repeat (first | apply Kd.V_alloc | apply Kd.V_drewN | apply Kd.V_drew)); exact HO409.out) (Kd.R_base ho0) hb); have n1_ := zaa.mk (Kd.R_lower ho0 (zap (by repeat (first | (with_reducible first | exact HB.out | apply zac | apply zab | apply zad) | exact HB.out)))); have n2_ := zaa.mk (zaf (by repeat (first | (with_reducible first | exact HB.out | apply zac | apply zab | apply zad) | exact HB.out)) hb); clear HO409; clear HB; have HO409 := n0_; have HO415 := n1_; have HB := n2_; clear n0_ n1_ n2_; (try clear hb); (try clear hb2); (try clear hk); (try clear hi); (try clear ho0)) | ((with_reducible refine zal (f := 17) rfl ?_); refine zba (some 36) rfl rfl Try.func17 (by kernel_rfl) rfl #[.slice Ao8 t407.length co8, .int .i64 t410, .int .i64 t411] rfl (by (try simp only [List.map_toArray, List.map_cons, List.map_nil]); first | done | rfl | (simp only [List.length_drop, List.length_take]; rfl)) ?_; (with_reducible refine (spec_PlanMerge.calls k _ _ t407 t410 t411 t416 t417 _ ?side1 ?side2 A5.out).mono ?_); (case side1 => repeat (first | exact (Kd.V_reads' HO409.out).2.2 | (with_reducible refine Kd.C_alloc ?_ _) | (with_reducible refine Kd.C_drewN ?_ _) | (with_reducible refine Kd.C_drew ?_))); (case side2 => exact (Kd.V_reads' HO409.out).2.1); rintro e w10 ⟨v418, rfl, ho0, hb⟩; refine ⟨_, rfl, ?_⟩; have n0_ := zaa.mk (Kd.V_elder' (by (with_reducible repeat (first | apply Kd.V_alloc | apply Kd.V_drewN | apply Kd.V_drew)); exact HO409.out) (Kd.R_base ho0) hb); have n1_ := zaa.mk (Kd.R_elder' (by (with_reducible repeat (first | apply Kd.R_alloc | apply Kd.R_drewN | apply Kd.R_drew)); exact HO415.out) (Kd.R_base ho0) hb); have n2_ := zaa.mk (Kd.R_lower (Kd.R_new' ho0 (Kd.R_lt (by (with_reducible repeat (first | apply Kd.R_alloc | apply Kd.R_drewN | apply Kd.R_drew)); exact HO415.out))) (zap (by repeat (first | (with_reducible first | exact HB.out | apply zac | apply zab | apply zad) | exact HB.out)))); have n3_ := zaa.mk (zaf (by repeat (first | (with_reducible first | exact HB.out | apply zac | apply zab | apply zad) | exact HB.out)) hb); clear HO409; clear HO415; clear HB; have HO409 := n0_; have HO415 := n1_; have HO419 := n2_; have HB := n3_; clear n0_ n1_ n2_ n3_; (try clear hb); (try clear hb2); (try clear hk); (try clear hi); (try clear ho0)))
  (try simp only [Act.put, List.setIfInBounds_toArray, List.set_cons_zero, List.set_cons_succ])
  go_cut [51] (fun v51 wc => ∃ (kq : Nat) (x51_5 : Bool), v51 = .bool x51_5 ∧ zaa (laws_FnMerge.j0 kq t407 t410 t411 t412 t413 t416 t417 x51_5 = some r) ∧ zaa (kq ≤ k) ∧ zaa (Kd.V Kd.string 9 wc w.heap.size (fun k_ => some k_ ≠ (v414 : Value).ownBlock ∧ some k_ ≠ (v418 : Value).ownBlock) (.slice Ao8 t407.length co8) t407) ∧ zaa (Kd.R Kd.string 9 wc w.heap.size (fun k_ => some k_ ≠ (v418 : Value).ownBlock) v414 t412) ∧ zaa (Kd.R Kd.string 9 wc w.heap.size (fun k_ => some k_ ≠ (v414 : Value).ownBlock) v418 t416) ∧ zaa (Below w.heap.size w wc))
  case first =>
   have H := HC6.out
   clear HC6
   by_cases c11 : (t413 != t417) = true
   ·rw [if_pos c11] at H
    have c11b0 : (t413 != t417) = true := c11
    (try (have c11b1 : decide (t413 = t417) = false := by simpa using c11))
    (try (have c11b2 : (t413 == t417) = false := by simpa using c11))
    (try (have c11b3 : ¬ (t413 = t417) := by simpa using c11))
    clear c11
    (first | rw [c11b0] | (simp only [zax, zaz]; rw [c11b0]) | skip)
    have H' := zaa.mk H
    clear H
    go_wp2
    go_meet
    case rel => exact ⟨_, (true), (by first | rfl | (simp; done) | (simp [*]; done)), H', ⟨by first | omega | exact Nat.le_refl _⟩, ⟨by (with_reducible repeat (first | apply Kd.V_alloc | apply Kd.V_drewN | apply Kd.V_drew)); exact Kd.V_mono HO409.out (fun _ hk => ⟨hk.1.2, hk.2⟩)⟩, ⟨by (with_reducible repeat (first | apply Kd.R_alloc | apply Kd.R_drewN | apply Kd.R_drew)); exact Kd.R_mono HO415.out (fun _ hk => hk.2)⟩, ⟨by (with_reducible repeat (first | apply Kd.R_alloc | apply Kd.R_drewN | apply Kd.R_drew)); exact Kd.R_mono HO419.out (fun _ hk => hk.2)⟩, ⟨by repeat (first | (with_reducible first | exact HB.out | apply zac | apply zab | apply zad) | exact HB.out)⟩⟩
   ·rw [if_neg c11] at H
    have c11b0 : (t413 != t417) = false := by simpa using c11
    (try (have c11b1 : decide (t413 = t417) = true := by simpa using c11))
    (try (have c11b2 : (t413 == t417) = true := by simpa using c11))
    clear c11
    (first | rw [c11b0] | (simp only [zax, zaz]; rw [c11b0]) | skip)
    replace H := Option.bind_eq_some_iff.mp H
    obtain ⟨t420, A120, H⟩ := H
    replace H : (if t420 = true then (laws_FnMerge.j0 k t407 t410 t411 t412 t413 t416 t417 (!t413)) else (laws_FnMerge.j0 k t407 t410 t411 t412 t413 t416 t417 true)) = some r := H
    have A12 := zaa.mk A120
    clear A120
    by_cases c13 : t420 = true
    ·subst c13
     have H1 : (laws_FnMerge.j0 k t407 t410 t411 t412 t413 t416 t417 (!t413)) = some r := by rw [if_pos rfl] at H; exact H
     clear H
     have H := H1
     clear H1
     have H' := zaa.mk H
     clear H
     obtain ⟨Ao14, co14, eo14⟩ := Kd.R_slice HO415.out
     subst eo14
     obtain ⟨Ao15, co15, eo15⟩ := Kd.R_slice HO419.out
     subst eo15
     go_wp2_with (first | (go_at_call 18; (with_reducible refine (laws_sameTexts.calls k _ _ t412 _ _ t416 true _ ?side1 ?side2 ?side3 ?side4 A12.out).mono ?_); (case side1 => repeat (first | exact (Kd.R_reads' HO415.out).2.2 | (with_reducible refine Kd.C_alloc ?_ _) | (with_reducible refine Kd.C_drewN ?_ _) | (with_reducible refine Kd.C_drew ?_))); (case side2 => exact (Kd.R_reads' HO415.out).2.1); (case side3 => repeat (first | exact (Kd.R_reads' HO419.out).2.2 | (with_reducible refine Kd.C_alloc ?_ _) | (with_reducible refine Kd.C_drewN ?_ _) | (with_reducible refine Kd.C_drew ?_))); (case side4 => exact (Kd.R_reads' HO419.out).2.1); rintro e w' ⟨rfl, ⟨nd, rfl⟩⟩))
     go_meet
     case rel => exact ⟨_, (!t413), (by first | rfl | (simp; done) | (simp [*]; done)), H', ⟨by first | omega | exact Nat.le_refl _⟩, ⟨by (with_reducible repeat (first | apply Kd.V_alloc | apply Kd.V_drewN | apply Kd.V_drew)); exact Kd.V_mono HO409.out (fun _ hk => ⟨hk.1.2, hk.2⟩)⟩, ⟨by (with_reducible repeat (first | apply Kd.R_alloc | apply Kd.R_drewN | apply Kd.R_drew)); exact Kd.R_mono HO415.out (fun _ hk => hk.2)⟩, ⟨by (with_reducible repeat (first | apply Kd.R_alloc | apply Kd.R_drewN | apply Kd.R_drew)); exact Kd.R_mono HO419.out (fun _ hk => hk.2)⟩, ⟨by repeat (first | (with_reducible first | exact HB.out | apply zac | apply zab | apply zad) | exact HB.out)⟩⟩
    ·replace c13 := Bool.eq_false_iff.mpr c13
     subst c13
     have H1 : (laws_FnMerge.j0 k t407 t410 t411 t412 t413 t416 t417 true) = some r := by rw [if_neg (show ¬ (false = true) by decide)] at H; exact H
     clear H
     have H := H1
     clear H1
     have H' := zaa.mk H
     clear H
     obtain ⟨Ao16, co16, eo16⟩ := Kd.R_slice HO415.out
     subst eo16
     obtain ⟨Ao17, co17, eo17⟩ := Kd.R_slice HO419.out
     subst eo17
     go_wp2_with (first | (go_at_call 18; (with_reducible refine (laws_sameTexts.calls k _ _ t412 _ _ t416 false _ ?side1 ?side2 ?side3 ?side4 A12.out).mono ?_); (case side1 => repeat (first | exact (Kd.R_reads' HO415.out).2.2 | (with_reducible refine Kd.C_alloc ?_ _) | (with_reducible refine Kd.C_drewN ?_ _) | (with_reducible refine Kd.C_drew ?_))); (case side2 => exact (Kd.R_reads' HO415.out).2.1); (case side3 => repeat (first | exact (Kd.R_reads' HO419.out).2.2 | (with_reducible refine Kd.C_alloc ?_ _) | (with_reducible refine Kd.C_drewN ?_ _) | (with_reducible refine Kd.C_drew ?_))); (case side4 => exact (Kd.R_reads' HO419.out).2.1); rintro e w' ⟨rfl, ⟨nd, rfl⟩⟩))
     go_meet
     case rel => exact ⟨_, (true), (by first | rfl | (simp; done) | (simp [*]; done)), H', ⟨by first | omega | exact Nat.le_refl _⟩, ⟨by (with_reducible repeat (first | apply Kd.V_alloc | apply Kd.V_drewN | apply Kd.V_drew)); exact Kd.V_mono HO409.out (fun _ hk => ⟨hk.1.2, hk.2⟩)⟩, ⟨by (with_reducible repeat (first | apply Kd.R_alloc | apply Kd.R_drewN | apply Kd.R_drew)); exact Kd.R_mono HO415.out (fun _ hk => hk.2)⟩, ⟨by (with_reducible repeat (first | apply Kd.R_alloc | apply Kd.R_drewN | apply Kd.R_drew)); exact Kd.R_mono HO419.out (fun _ hk => hk.2)⟩, ⟨by repeat (first | (with_reducible first | exact HB.out | apply zac | apply zab | apply zad) | exact HB.out)⟩⟩
  case rest =>
   clear HC6
   try clear c1
   try clear c2
   try clear c2b0
   try clear c2b1
   try clear p2
   try clear c3
   try clear c11
   try clear c11b0
   try clear c11b1
   try clear c11b2
   try clear c13
   try clear c15
   try clear c16
   try clear c17
   obtain ⟨kq, x51_5, rfl, HA, HJ5, HO_3, HO_6, HO_8, HB⟩ := hcut
   cases kq with
   | zero => exact absurd HA.out (by simp [laws_FnMerge.j0])
   | succ kj5 =>
    have H := HA.out
    clear HA
    simp only [laws_FnMerge.j0] at H
    by_cases c18 : x51_5 = true
    ·subst c18
     have H1 : (if (t413 == t417) = true then ((laws_sameTexts.f kj5 t412 t416).bind fun t421 => (some t421)) else (some false)) = some r := by rw [if_pos rfl] at H; exact H
     clear H
     have H := H1
     clear H1
     by_cases c19 : (t413 == t417) = true
     ·rw [if_pos c19] at H
      have c19b0 : (t413 == t417) = true := c19
      (try (have c19b1 : decide (t413 = t417) = true := by simpa using c19))
      (try (have c19b2 : (t413 == t417) = true := by simpa using c19))
      clear c19
      replace H := Option.bind_eq_some_iff.mp H
      obtain ⟨t421, A200, H⟩ := H
      replace H : (some t421) = some r := H
      have A20 := zaa.mk A200
      clear A200
      obtain rfl := Option.some.inj H
      obtain ⟨Ao21, co21, eo21⟩ := Kd.R_slice HO_6.out
      subst eo21
      obtain ⟨Ao22, co22, eo22⟩ := Kd.R_slice HO_8.out
      subst eo22
      go_wp2_with (first | (go_at_call 18; (with_reducible refine (laws_sameTexts.calls kj5 _ _ t412 _ _ t416 t421 _ ?side1 ?side2 ?side3 ?side4 A20.out).mono ?_); (case side1 => repeat (first | exact (Kd.R_reads' HO_6.out).2.2 | (with_reducible refine Kd.C_alloc ?_ _) | (with_reducible refine Kd.C_drewN ?_ _) | (with_reducible refine Kd.C_drew ?_))); (case side2 => exact (Kd.R_reads' HO_6.out).2.1); (case side3 => repeat (first | exact (Kd.R_reads' HO_8.out).2.2 | (with_reducible refine Kd.C_alloc ?_ _) | (with_reducible refine Kd.C_drewN ?_ _) | (with_reducible refine Kd.C_drew ?_))); (case side4 => exact (Kd.R_reads' HO_8.out).2.1); rintro e w' ⟨rfl, ⟨nd, rfl⟩⟩))
      go_ret
      exact ⟨by first | rfl | (simp [zao, zan] <;> rfl) | (simp [*, zao, zan] <;> rfl), by repeat (first | (with_reducible first | exact HB.out | apply zac | apply zab | apply zad) | exact HB.out)⟩
     ·rw [if_neg c19] at H
      have c19b0 : (t413 == t417) = false := by simpa using c19
      (try (have c19b1 : decide (t413 = t417) = false := by simpa using c19))
      (try (have c19b2 : (t413 == t417) = false := by simpa using c19))
      (try (have c19b3 : ¬ (t413 = t417) := by simpa using c19))
      clear c19
      obtain rfl := Option.some.inj H
      go_wp2
      go_ret
      exact ⟨by first | rfl | (simp [zao, zan] <;> rfl) | (simp [*, zao, zan] <;> rfl), by repeat (first | (with_reducible first | exact HB.out | apply zac | apply zab | apply zad) | exact HB.out)⟩
    ·replace c18 := Bool.eq_false_iff.mpr c18
     subst c18
     have H1 : ((impl_PlanRooms.f t407).bind fun bt422 => ((impl_PlanRooms.f t412).bind fun bt424 => ((impl_PlanMerge.f t407 t411 t410).bind fun bt426 => (if bt422.2 = true then (if bt424.2 = true then (if bt426.2 = true then (if bt424.1 = (wrap64 (bt422.1 - 1)) then ((laws_sameTexts.f kj5 bt426.1 t412).bind fun t430 => (if t430 = true then ((impl_NearIs.f t407 t410 t411).bind fun t431 => (some t431)) else (some false))) else (some false)) else (some false)) else (some false)) else (some false))))) = some r := by rw [if_neg (show ¬ (false = true) by decide)] at H; exact H
     clear H
     have H := H1
     clear H1
     replace H := Option.bind_eq_some_iff.mp H
     obtain ⟨⟨t422, t423⟩, A230, H⟩ := H
     replace H : ((impl_PlanRooms.f t412).bind fun bt424 => ((impl_PlanMerge.f t407 t411 t410).bind fun bt426 => (if t423 = true then (if bt424.2 = true then (if bt426.2 = true then (if bt424.1 = (wrap64 (t422 - 1)) then ((laws_sameTexts.f kj5 bt426.1 t412).bind fun t430 => (if t430 = true then ((impl_NearIs.f t407 t410 t411).bind fun t431 => (some t431)) else (some false))) else (some false)) else (some false)) else (some false)) else (some false)))) = some r := H
     have A23 := zaa.mk A230
     clear A230
     replace H := Option.bind_eq_some_iff.mp H
     obtain ⟨⟨t424, t425⟩, A240, H⟩ := H
     replace H : ((impl_PlanMerge.f t407 t411 t410).bind fun bt426 => (if t423 = true then (if t425 = true then (if bt426.2 = true then (if t424 = (wrap64 (t422 - 1)) then ((laws_sameTexts.f kj5 bt426.1 t412).bind fun t430 => (if t430 = true then ((impl_NearIs.f t407 t410 t411).bind fun t431 => (some t431)) else (some false))) else (some false)) else (some false)) else (some false)) else (some false))) = some r := H
     have A24 := zaa.mk A240
     clear A240
     replace H := Option.bind_eq_some_iff.mp H
     obtain ⟨⟨t426, t427⟩, A250, H⟩ := H
     replace H : (if t423 = true then (if t425 = true then (if t427 = true then (if t424 = (wrap64 (t422 - 1)) then ((laws_sameTexts.f kj5 t426 t412).bind fun t430 => (if t430 = true then ((impl_NearIs.f t407 t410 t411).bind fun t431 => (some t431)) else (some false))) else (some false)) else (some false)) else (some false)) else (some false)) = some r := H
     have A25 := zaa.mk A250
     clear A250
     by_cases c26 : t423 = true
     ·subst c26
      have H1 : (if t425 = true then (if t427 = true then (if t424 = (wrap64 (t422 - 1)) then ((laws_sameTexts.f kj5 t426 t412).bind fun t430 => (if t430 = true then ((impl_NearIs.f t407 t410 t411).bind fun t431 => (some t431)) else (some false))) else (some false)) else (some false)) else (some false)) = some r := by rw [if_pos rfl] at H; exact H
      clear H
      have H := H1
      clear H1
      by_cases c27 : t425 = true
      ·subst c27
       have H1 : (if t427 = true then (if t424 = (wrap64 (t422 - 1)) then ((laws_sameTexts.f kj5 t426 t412).bind fun t430 => (if t430 = true then ((impl_NearIs.f t407 t410 t411).bind fun t431 => (some t431)) else (some false))) else (some false)) else (some false)) = some r := by rw [if_pos rfl] at H; exact H
       clear H
       have H := H1
       clear H1
       by_cases c28 : t427 = true
       ·subst c28
        have H1 : (if t424 = (wrap64 (t422 - 1)) then ((laws_sameTexts.f kj5 t426 t412).bind fun t430 => (if t430 = true then ((impl_NearIs.f t407 t410 t411).bind fun t431 => (some t431)) else (some false))) else (some false)) = some r := by rw [if_pos rfl] at H; exact H
        clear H
        have H := H1
        clear H1
        by_cases c29 : t424 = (wrap64 (t422 - 1))
        ·rw [if_pos c29] at H
         have c29b0 : (t424 == (wrap64 (t422 - 1))) = true := beq_iff_eq.mpr c29
         have c29b1 : (t424 != (wrap64 (t422 - 1))) = false := bne_eq_false_iff_eq.mpr c29
         clear c29
         replace H := Option.bind_eq_some_iff.mp H
         obtain ⟨t430, A300, H⟩ := H
         replace H : (if t430 = true then ((impl_NearIs.f t407 t410 t411).bind fun t431 => (some t431)) else (some false)) = some r := H
         have A30 := zaa.mk A300
         clear A300
         by_cases c31 : t430 = true
         ·subst c31
          have H1 : ((impl_NearIs.f t407 t410 t411).bind fun t431 => (some t431)) = some r := by rw [if_pos rfl] at H; exact H
          clear H
          have H := H1
          clear H1
          replace H := Option.bind_eq_some_iff.mp H
          obtain ⟨t431, A320, H⟩ := H
          replace H : (some t431) = some r := H
          have A32 := zaa.mk A320
          clear A320
          obtain rfl := Option.some.inj H
          go_wp2_with (first | ((with_reducible refine zal (f := 19) rfl ?_); refine zba (some 62) rfl rfl Try.func19 (by kernel_rfl) rfl #[.slice Ao8 t407.length co8] rfl (by (try simp only [List.map_toArray, List.map_cons, List.map_nil]); first | done | rfl | (simp only [List.length_drop, List.length_take]; rfl)) ?_; (with_reducible refine (impl_PlanRooms.calls _ _ t407 t422 true _ ?side1 ?side2 A23.out).mono ?_); (case side1 => repeat (first | exact (Kd.V_reads' HO_3.out).2.2 | (with_reducible refine Kd.C_alloc ?_ _) | (with_reducible refine Kd.C_drewN ?_ _) | (with_reducible refine Kd.C_drew ?_))); (case side2 => exact (Kd.V_reads' HO_3.out).2.1); rintro e w33 ⟨rfl, hb⟩; refine ⟨_, rfl, ?_⟩; have n0_ := zaa.mk (Kd.V_below (by (with_reducible repeat (first | apply Kd.V_alloc | apply Kd.V_drewN | apply Kd.V_drew)); exact HO_3.out) hb); have n1_ := zaa.mk (Kd.R_below (by (with_reducible repeat (first | apply Kd.R_alloc | apply Kd.R_drewN | apply Kd.R_drew)); exact HO_6.out) hb); have n2_ := zaa.mk (Kd.R_below (by (with_reducible repeat (first | apply Kd.R_alloc | apply Kd.R_drewN | apply Kd.R_drew)); exact HO_8.out) hb); have n3_ := zaa.mk (zaf (by repeat (first | (with_reducible first | exact HB.out | apply zac | apply zab | apply zad) | exact HB.out)) hb); clear HO_3; clear HO_6; clear HO_8; clear HB; have HO_3 := n0_; have HO_6 := n1_; have HO_8 := n2_; have HB := n3_; clear n0_ n1_ n2_ n3_; (try clear hb); (try clear hb2); (try clear hk); (try clear hi); obtain ⟨Ao34, co34, eo34⟩ := Kd.R_slice HO_6.out; subst eo34) | ((with_reducible refine zal (f := 19) rfl ?_); refine zba (some 67) rfl rfl Try.func19 (by kernel_rfl) rfl #[.slice Ao34 t412.length co34] rfl (by (try simp only [List.map_toArray, List.map_cons, List.map_nil]); first | done | rfl | (simp only [List.length_drop, List.length_take]; rfl)) ?_; (with_reducible refine (impl_PlanRooms.calls _ _ t412 t424 true _ ?side1 ?side2 A24.out).mono ?_); (case side1 => repeat (first | exact (Kd.R_reads' HO_6.out).2.2 | (with_reducible refine Kd.C_alloc ?_ _) | (with_reducible refine Kd.C_drewN ?_ _) | (with_reducible refine Kd.C_drew ?_))); (case side2 => exact (Kd.R_reads' HO_6.out).2.1); rintro e w35 ⟨rfl, hb⟩; refine ⟨_, rfl, ?_⟩; have n0_ := zaa.mk (Kd.V_below (by (with_reducible repeat (first | apply Kd.V_alloc | apply Kd.V_drewN | apply Kd.V_drew)); exact HO_3.out) hb); have n1_ := zaa.mk (Kd.R_below (by (with_reducible repeat (first | apply Kd.R_alloc | apply Kd.R_drewN | apply Kd.R_drew)); exact HO_6.out) hb); have n2_ := zaa.mk (Kd.R_below (by (with_reducible repeat (first | apply Kd.R_alloc | apply Kd.R_drewN | apply Kd.R_drew)); exact HO_8.out) hb); have n3_ := zaa.mk (zaf (by repeat (first | (with_reducible first | exact HB.out | apply zac | apply zab | apply zad) | exact HB.out)) hb); clear HO_3; clear HO_6; clear HO_8; clear HB; have HO_3 := n0_; have HO_6 := n1_; have HO_8 := n2_; have HB := n3_; clear n0_ n1_ n2_ n3_; (try clear hb); (try clear hb2); (try clear hk); (try clear hi)) | ((with_reducible refine zal (f := 16) rfl ?_); refine zba (some 74) rfl rfl Try.func16 (by kernel_rfl) rfl #[.slice Ao8 t407.length co8, .int .i64 t411, .int .i64 t410] rfl (by (try simp only [List.map_toArray, List.map_cons, List.map_nil]); first | done | rfl | (simp only [List.length_drop, List.length_take]; rfl)) ?_; (with_reducible refine (impl_PlanMerge.calls _ _ t407 t411 t410 t426 true _ ?side1 ?side2 A25.out).mono ?_); (case side1 => repeat (first | exact (Kd.V_reads' HO_3.out).2.2 | (with_reducible refine Kd.C_alloc ?_ _) | (with_reducible refine Kd.C_drewN ?_ _) | (with_reducible refine Kd.C_drew ?_))); (case side2 => exact (Kd.V_reads' HO_3.out).2.1); rintro e w36 ⟨v428, rfl, ho0, hb⟩; refine ⟨_, rfl, ?_⟩; have n0_ := zaa.mk (Kd.V_elder' (by (with_reducible repeat (first | apply Kd.V_alloc | apply Kd.V_drewN | apply Kd.V_drew)); exact HO_3.out) (Kd.R_base ho0) hb); have n1_ := zaa.mk (Kd.R_elder' (by (with_reducible repeat (first | apply Kd.R_alloc | apply Kd.R_drewN | apply Kd.R_drew)); exact HO_6.out) (Kd.R_base ho0) hb); have n2_ := zaa.mk (Kd.R_elder' (by (with_reducible repeat (first | apply Kd.R_alloc | apply Kd.R_drewN | apply Kd.R_drew)); exact HO_8.out) (Kd.R_base ho0) hb); have n3_ := zaa.mk (Kd.R_lower (Kd.R_new' (Kd.R_new' ho0 (Kd.R_lt (by (with_reducible repeat (first | apply Kd.R_alloc | apply Kd.R_drewN | apply Kd.R_drew)); exact HO_6.out))) (Kd.R_lt (by (with_reducible repeat (first | apply Kd.R_alloc | apply Kd.R_drewN | apply Kd.R_drew)); exact HO_8.out))) (zap (by repeat (first | (with_reducible first | exact HB.out | apply zac | apply zab | apply zad) | exact HB.out)))); have n4_ := zaa.mk (zaf (by repeat (first | (with_reducible first | exact HB.out | apply zac | apply zab | apply zad) | exact HB.out)) hb); clear HO_3; clear HO_6; clear HO_8; clear HB; have HO_3 := n0_; have HO_6 := n1_; have HO_8 := n2_; have HO429 := n3_; have HB := n4_; clear n0_ n1_ n2_ n3_ n4_; (try clear hb); (try clear hb2); (try clear hk); (try clear hi); (try clear ho0); obtain ⟨Ao37, co37, eo37⟩ := Kd.R_slice HO429.out; subst eo37) | (go_at_call 18; (with_reducible refine (laws_sameTexts.calls kj5 _ _ t426 _ _ t412 true _ ?side1 ?side2 ?side3 ?side4 A30.out).mono ?_); (case side1 => repeat (first | exact (Kd.R_reads' HO429.out).2.2 | (with_reducible refine Kd.C_alloc ?_ _) | (with_reducible refine Kd.C_drewN ?_ _) | (with_reducible refine Kd.C_drew ?_))); (case side2 => exact (Kd.R_reads' HO429.out).2.1); (case side3 => repeat (first | exact (Kd.R_reads' HO_6.out).2.2 | (with_reducible refine Kd.C_alloc ?_ _) | (with_reducible refine Kd.C_drewN ?_ _) | (with_reducible refine Kd.C_drew ?_))); (case side4 => exact (Kd.R_reads' HO_6.out).2.1); rintro e w' ⟨rfl, ⟨nd, rfl⟩⟩) | (go_at_call 20; (with_reducible refine (impl_NearIs.calls _ _ t407 t410 t411 t431 _ ?side1 ?side2 A32.out).mono ?_); (case side1 => repeat (first | exact (Kd.V_reads' HO_3.out).2.2 | (with_reducible refine Kd.C_alloc ?_ _) | (with_reducible refine Kd.C_drewN ?_ _) | (with_reducible refine Kd.C_drew ?_))); (case side2 => exact (Kd.V_reads' HO_3.out).2.1); rintro e w38 ⟨rfl, hb⟩; have n0_ := zaa.mk (Kd.V_below (by (with_reducible repeat (first | apply Kd.V_alloc | apply Kd.V_drewN | apply Kd.V_drew)); exact HO_3.out) hb); have n1_ := zaa.mk (Kd.R_below (by (with_reducible repeat (first | apply Kd.R_alloc | apply Kd.R_drewN | apply Kd.R_drew)); exact HO_6.out) hb); have n2_ := zaa.mk (Kd.R_below (by (with_reducible repeat (first | apply Kd.R_alloc | apply Kd.R_drewN | apply Kd.R_drew)); exact HO_8.out) hb); have n3_ := zaa.mk (Kd.R_below (by (with_reducible repeat (first | apply Kd.R_alloc | apply Kd.R_drewN | apply Kd.R_drew)); exact HO429.out) hb); have n4_ := zaa.mk (zaf (by repeat (first | (with_reducible first | exact HB.out | apply zac | apply zab | apply zad) | exact HB.out)) hb); clear HO_3; clear HO_6; clear HO_8; clear HO429; clear HB; have HO_3 := n0_; have HO_6 := n1_; have HO_8 := n2_; have HO429 := n3_; have HB := n4_; clear n0_ n1_ n2_ n3_ n4_; (try clear hb); (try clear hb2); (try clear hk); (try clear hi)))
          go_ret
          exact ⟨by first | rfl | (simp [zao, zan] <;> rfl) | (simp [*, zao, zan] <;> rfl), by repeat (first | (with_reducible first | exact HB.out | apply zac | apply zab | apply zad) | exact HB.out)⟩
         ·replace c31 := Bool.eq_false_iff.mpr c31
          subst c31
          have H1 : (some false) = some r := by rw [if_neg (show ¬ (false = true) by decide)] at H; exact H
          clear H
          have H := H1
          clear H1
          obtain rfl := Option.some.inj H
          go_wp2_with (first | ((with_reducible refine zal (f := 19) rfl ?_); refine zba (some 62) rfl rfl Try.func19 (by kernel_rfl) rfl #[.slice Ao8 t407.length co8] rfl (by (try simp only [List.map_toArray, List.map_cons, List.map_nil]); first | done | rfl | (simp only [List.length_drop, List.length_take]; rfl)) ?_; (with_reducible refine (impl_PlanRooms.calls _ _ t407 t422 true _ ?side1 ?side2 A23.out).mono ?_); (case side1 => repeat (first | exact (Kd.V_reads' HO_3.out).2.2 | (with_reducible refine Kd.C_alloc ?_ _) | (with_reducible refine Kd.C_drewN ?_ _) | (with_reducible refine Kd.C_drew ?_))); (case side2 => exact (Kd.V_reads' HO_3.out).2.1); rintro e w39 ⟨rfl, hb⟩; refine ⟨_, rfl, ?_⟩; have n0_ := zaa.mk (Kd.V_below (by (with_reducible repeat (first | apply Kd.V_alloc | apply Kd.V_drewN | apply Kd.V_drew)); exact HO_3.out) hb); have n1_ := zaa.mk (Kd.R_below (by (with_reducible repeat (first | apply Kd.R_alloc | apply Kd.R_drewN | apply Kd.R_drew)); exact HO_6.out) hb); have n2_ := zaa.mk (Kd.R_below (by (with_reducible repeat (first | apply Kd.R_alloc | apply Kd.R_drewN | apply Kd.R_drew)); exact HO_8.out) hb); have n3_ := zaa.mk (zaf (by repeat (first | (with_reducible first | exact HB.out | apply zac | apply zab | apply zad) | exact HB.out)) hb); clear HO_3; clear HO_6; clear HO_8; clear HB; have HO_3 := n0_; have HO_6 := n1_; have HO_8 := n2_; have HB := n3_; clear n0_ n1_ n2_ n3_; (try clear hb); (try clear hb2); (try clear hk); (try clear hi); obtain ⟨Ao40, co40, eo40⟩ := Kd.R_slice HO_6.out; subst eo40) | ((with_reducible refine zal (f := 19) rfl ?_); refine zba (some 67) rfl rfl Try.func19 (by kernel_rfl) rfl #[.slice Ao40 t412.length co40] rfl (by (try simp only [List.map_toArray, List.map_cons, List.map_nil]); first | done | rfl | (simp only [List.length_drop, List.length_take]; rfl)) ?_; (with_reducible refine (impl_PlanRooms.calls _ _ t412 t424 true _ ?side1 ?side2 A24.out).mono ?_); (case side1 => repeat (first | exact (Kd.R_reads' HO_6.out).2.2 | (with_reducible refine Kd.C_alloc ?_ _) | (with_reducible refine Kd.C_drewN ?_ _) | (with_reducible refine Kd.C_drew ?_))); (case side2 => exact (Kd.R_reads' HO_6.out).2.1); rintro e w41 ⟨rfl, hb⟩; refine ⟨_, rfl, ?_⟩; have n0_ := zaa.mk (Kd.V_below (by (with_reducible repeat (first | apply Kd.V_alloc | apply Kd.V_drewN | apply Kd.V_drew)); exact HO_3.out) hb); have n1_ := zaa.mk (Kd.R_below (by (with_reducible repeat (first | apply Kd.R_alloc | apply Kd.R_drewN | apply Kd.R_drew)); exact HO_6.out) hb); have n2_ := zaa.mk (Kd.R_below (by (with_reducible repeat (first | apply Kd.R_alloc | apply Kd.R_drewN | apply Kd.R_drew)); exact HO_8.out) hb); have n3_ := zaa.mk (zaf (by repeat (first | (with_reducible first | exact HB.out | apply zac | apply zab | apply zad) | exact HB.out)) hb); clear HO_3; clear HO_6; clear HO_8; clear HB; have HO_3 := n0_; have HO_6 := n1_; have HO_8 := n2_; have HB := n3_; clear n0_ n1_ n2_ n3_; (try clear hb); (try clear hb2); (try clear hk); (try clear hi)) | ((with_reducible refine zal (f := 16) rfl ?_); refine zba (some 74) rfl rfl Try.func16 (by kernel_rfl) rfl #[.slice Ao8 t407.length co8, .int .i64 t411, .int .i64 t410] rfl (by (try simp only [List.map_toArray, List.map_cons, List.map_nil]); first | done | rfl | (simp only [List.length_drop, List.length_take]; rfl)) ?_; (with_reducible refine (impl_PlanMerge.calls _ _ t407 t411 t410 t426 true _ ?side1 ?side2 A25.out).mono ?_); (case side1 => repeat (first | exact (Kd.V_reads' HO_3.out).2.2 | (with_reducible refine Kd.C_alloc ?_ _) | (with_reducible refine Kd.C_drewN ?_ _) | (with_reducible refine Kd.C_drew ?_))); (case side2 => exact (Kd.V_reads' HO_3.out).2.1); rintro e w42 ⟨v428, rfl, ho0, hb⟩; refine ⟨_, rfl, ?_⟩; have n0_ := zaa.mk (Kd.V_elder' (by (with_reducible repeat (first | apply Kd.V_alloc | apply Kd.V_drewN | apply Kd.V_drew)); exact HO_3.out) (Kd.R_base ho0) hb); have n1_ := zaa.mk (Kd.R_elder' (by (with_reducible repeat (first | apply Kd.R_alloc | apply Kd.R_drewN | apply Kd.R_drew)); exact HO_6.out) (Kd.R_base ho0) hb); have n2_ := zaa.mk (Kd.R_elder' (by (with_reducible repeat (first | apply Kd.R_alloc | apply Kd.R_drewN | apply Kd.R_drew)); exact HO_8.out) (Kd.R_base ho0) hb); have n3_ := zaa.mk (Kd.R_lower (Kd.R_new' (Kd.R_new' ho0 (Kd.R_lt (by (with_reducible repeat (first | apply Kd.R_alloc | apply Kd.R_drewN | apply Kd.R_drew)); exact HO_6.out))) (Kd.R_lt (by (with_reducible repeat (first | apply Kd.R_alloc | apply Kd.R_drewN | apply Kd.R_drew)); exact HO_8.out))) (zap (by repeat (first | (with_reducible first | exact HB.out | apply zac | apply zab | apply zad) | exact HB.out)))); have n4_ := zaa.mk (zaf (by repeat (first | (with_reducible first | exact HB.out | apply zac | apply zab | apply zad) | exact HB.out)) hb); clear HO_3; clear HO_6; clear HO_8; clear HB; have HO_3 := n0_; have HO_6 := n1_; have HO_8 := n2_; have HO429 := n3_; have HB := n4_; clear n0_ n1_ n2_ n3_ n4_; (try clear hb); (try clear hb2); (try clear hk); (try clear hi); (try clear ho0); obtain ⟨Ao43, co43, eo43⟩ := Kd.R_slice HO429.out; subst eo43) | (go_at_call 18; (with_reducible refine (laws_sameTexts.calls kj5 _ _ t426 _ _ t412 false _ ?side1 ?side2 ?side3 ?side4 A30.out).mono ?_); (case side1 => repeat (first | exact (Kd.R_reads' HO429.out).2.2 | (with_reducible refine Kd.C_alloc ?_ _) | (with_reducible refine Kd.C_drewN ?_ _) | (with_reducible refine Kd.C_drew ?_))); (case side2 => exact (Kd.R_reads' HO429.out).2.1); (case side3 => repeat (first | exact (Kd.R_reads' HO_6.out).2.2 | (with_reducible refine Kd.C_alloc ?_ _) | (with_reducible refine Kd.C_drewN ?_ _) | (with_reducible refine Kd.C_drew ?_))); (case side4 => exact (Kd.R_reads' HO_6.out).2.1); rintro e w' ⟨rfl, ⟨nd, rfl⟩⟩))
          go_ret
          exact ⟨by first | rfl | (simp [zao, zan] <;> rfl) | (simp [*, zao, zan] <;> rfl), by repeat (first | (with_reducible first | exact HB.out | apply zac | apply zab | apply zad) | exact HB.out)⟩
        ·rw [if_neg c29] at H
         have c29b0 : (t424 == (wrap64 (t422 - 1))) = false := beq_eq_false_iff_ne.mpr c29
         have c29b1 : (t424 != (wrap64 (t422 - 1))) = true := bne_iff_ne.mpr c29
         obtain rfl := Option.some.inj H
         go_wp2_with (first | ((with_reducible refine zal (f := 19) rfl ?_); refine zba (some 62) rfl rfl Try.func19 (by kernel_rfl) rfl #[.slice Ao8 t407.length co8] rfl (by (try simp only [List.map_toArray, List.map_cons, List.map_nil]); first | done | rfl | (simp only [List.length_drop, List.length_take]; rfl)) ?_; (with_reducible refine (impl_PlanRooms.calls _ _ t407 t422 true _ ?side1 ?side2 A23.out).mono ?_); (case side1 => repeat (first | exact (Kd.V_reads' HO_3.out).2.2 | (with_reducible refine Kd.C_alloc ?_ _) | (with_reducible refine Kd.C_drewN ?_ _) | (with_reducible refine Kd.C_drew ?_))); (case side2 => exact (Kd.V_reads' HO_3.out).2.1); rintro e w44 ⟨rfl, hb⟩; refine ⟨_, rfl, ?_⟩; have n0_ := zaa.mk (Kd.V_below (by (with_reducible repeat (first | apply Kd.V_alloc | apply Kd.V_drewN | apply Kd.V_drew)); exact HO_3.out) hb); have n1_ := zaa.mk (Kd.R_below (by (with_reducible repeat (first | apply Kd.R_alloc | apply Kd.R_drewN | apply Kd.R_drew)); exact HO_6.out) hb); have n2_ := zaa.mk (Kd.R_below (by (with_reducible repeat (first | apply Kd.R_alloc | apply Kd.R_drewN | apply Kd.R_drew)); exact HO_8.out) hb); have n3_ := zaa.mk (zaf (by repeat (first | (with_reducible first | exact HB.out | apply zac | apply zab | apply zad) | exact HB.out)) hb); clear HO_3; clear HO_6; clear HO_8; clear HB; have HO_3 := n0_; have HO_6 := n1_; have HO_8 := n2_; have HB := n3_; clear n0_ n1_ n2_ n3_; (try clear hb); (try clear hb2); (try clear hk); (try clear hi); obtain ⟨Ao45, co45, eo45⟩ := Kd.R_slice HO_6.out; subst eo45) | ((with_reducible refine zal (f := 19) rfl ?_); refine zba (some 67) rfl rfl Try.func19 (by kernel_rfl) rfl #[.slice Ao45 t412.length co45] rfl (by (try simp only [List.map_toArray, List.map_cons, List.map_nil]); first | done | rfl | (simp only [List.length_drop, List.length_take]; rfl)) ?_; (with_reducible refine (impl_PlanRooms.calls _ _ t412 t424 true _ ?side1 ?side2 A24.out).mono ?_); (case side1 => repeat (first | exact (Kd.R_reads' HO_6.out).2.2 | (with_reducible refine Kd.C_alloc ?_ _) | (with_reducible refine Kd.C_drewN ?_ _) | (with_reducible refine Kd.C_drew ?_))); (case side2 => exact (Kd.R_reads' HO_6.out).2.1); rintro e w46 ⟨rfl, hb⟩; refine ⟨_, rfl, ?_⟩; have n0_ := zaa.mk (Kd.V_below (by (with_reducible repeat (first | apply Kd.V_alloc | apply Kd.V_drewN | apply Kd.V_drew)); exact HO_3.out) hb); have n1_ := zaa.mk (Kd.R_below (by (with_reducible repeat (first | apply Kd.R_alloc | apply Kd.R_drewN | apply Kd.R_drew)); exact HO_6.out) hb); have n2_ := zaa.mk (Kd.R_below (by (with_reducible repeat (first | apply Kd.R_alloc | apply Kd.R_drewN | apply Kd.R_drew)); exact HO_8.out) hb); have n3_ := zaa.mk (zaf (by repeat (first | (with_reducible first | exact HB.out | apply zac | apply zab | apply zad) | exact HB.out)) hb); clear HO_3; clear HO_6; clear HO_8; clear HB; have HO_3 := n0_; have HO_6 := n1_; have HO_8 := n2_; have HB := n3_; clear n0_ n1_ n2_ n3_; (try clear hb); (try clear hb2); (try clear hk); (try clear hi)) | ((with_reducible refine zal (f := 16) rfl ?_); refine zba (some 74) rfl rfl Try.func16 (by kernel_rfl) rfl #[.slice Ao8 t407.length co8, .int .i64 t411, .int .i64 t410] rfl (by (try simp only [List.map_toArray, List.map_cons, List.map_nil]); first | done | rfl | (simp only [List.length_drop, List.length_take]; rfl)) ?_; (with_reducible refine (impl_PlanMerge.calls _ _ t407 t411 t410 t426 true _ ?side1 ?side2 A25.out).mono ?_); (case side1 => repeat (first | exact (Kd.V_reads' HO_3.out).2.2 | (with_reducible refine Kd.C_alloc ?_ _) | (with_reducible refine Kd.C_drewN ?_ _) | (with_reducible refine Kd.C_drew ?_))); (case side2 => exact (Kd.V_reads' HO_3.out).2.1); rintro e w47 ⟨v428, rfl, ho0, hb⟩; refine ⟨_, rfl, ?_⟩; have n0_ := zaa.mk (Kd.V_elder' (by (with_reducible repeat (first | apply Kd.V_alloc | apply Kd.V_drewN | apply Kd.V_drew)); exact HO_3.out) (Kd.R_base ho0) hb); have n1_ := zaa.mk (Kd.R_elder' (by (with_reducible repeat (first | apply Kd.R_alloc | apply Kd.R_drewN | apply Kd.R_drew)); exact HO_6.out) (Kd.R_base ho0) hb); have n2_ := zaa.mk (Kd.R_elder' (by (with_reducible repeat (first | apply Kd.R_alloc | apply Kd.R_drewN | apply Kd.R_drew)); exact HO_8.out) (Kd.R_base ho0) hb); have n3_ := zaa.mk (Kd.R_lower (Kd.R_new' (Kd.R_new' ho0 (Kd.R_lt (by (with_reducible repeat (first | apply Kd.R_alloc | apply Kd.R_drewN | apply Kd.R_drew)); exact HO_6.out))) (Kd.R_lt (by (with_reducible repeat (first | apply Kd.R_alloc | apply Kd.R_drewN | apply Kd.R_drew)); exact HO_8.out))) (zap (by repeat (first | (with_reducible first | exact HB.out | apply zac | apply zab | apply zad) | exact HB.out)))); have n4_ := zaa.mk (zaf (by repeat (first | (with_reducible first | exact HB.out | apply zac | apply zab | apply zad) | exact HB.out)) hb); clear HO_3; clear HO_6; clear HO_8; clear HB; have HO_3 := n0_; have HO_6 := n1_; have HO_8 := n2_; have HO429 := n3_; have HB := n4_; clear n0_ n1_ n2_ n3_ n4_; (try clear hb); (try clear hb2); (try clear hk); (try clear hi); (try clear ho0)))
         go_ret
         exact ⟨by first | rfl | (simp [zao, zan] <;> rfl) | (simp [*, zao, zan] <;> rfl), by repeat (first | (with_reducible first | exact HB.out | apply zac | apply zab | apply zad) | exact HB.out)⟩
       ·replace c28 := Bool.eq_false_iff.mpr c28
        subst c28
        have H1 : (some false) = some r := by rw [if_neg (show ¬ (false = true) by decide)] at H; exact H
        clear H
        have H := H1
        clear H1
        obtain rfl := Option.some.inj H
        go_wp2_with (first | ((with_reducible refine zal (f := 19) rfl ?_); refine zba (some 62) rfl rfl Try.func19 (by kernel_rfl) rfl #[.slice Ao8 t407.length co8] rfl (by (try simp only [List.map_toArray, List.map_cons, List.map_nil]); first | done | rfl | (simp only [List.length_drop, List.length_take]; rfl)) ?_; (with_reducible refine (impl_PlanRooms.calls _ _ t407 t422 true _ ?side1 ?side2 A23.out).mono ?_); (case side1 => repeat (first | exact (Kd.V_reads' HO_3.out).2.2 | (with_reducible refine Kd.C_alloc ?_ _) | (with_reducible refine Kd.C_drewN ?_ _) | (with_reducible refine Kd.C_drew ?_))); (case side2 => exact (Kd.V_reads' HO_3.out).2.1); rintro e w48 ⟨rfl, hb⟩; refine ⟨_, rfl, ?_⟩; have n0_ := zaa.mk (Kd.V_below (by (with_reducible repeat (first | apply Kd.V_alloc | apply Kd.V_drewN | apply Kd.V_drew)); exact HO_3.out) hb); have n1_ := zaa.mk (Kd.R_below (by (with_reducible repeat (first | apply Kd.R_alloc | apply Kd.R_drewN | apply Kd.R_drew)); exact HO_6.out) hb); have n2_ := zaa.mk (Kd.R_below (by (with_reducible repeat (first | apply Kd.R_alloc | apply Kd.R_drewN | apply Kd.R_drew)); exact HO_8.out) hb); have n3_ := zaa.mk (zaf (by repeat (first | (with_reducible first | exact HB.out | apply zac | apply zab | apply zad) | exact HB.out)) hb); clear HO_3; clear HO_6; clear HO_8; clear HB; have HO_3 := n0_; have HO_6 := n1_; have HO_8 := n2_; have HB := n3_; clear n0_ n1_ n2_ n3_; (try clear hb); (try clear hb2); (try clear hk); (try clear hi); obtain ⟨Ao49, co49, eo49⟩ := Kd.R_slice HO_6.out; subst eo49) | ((with_reducible refine zal (f := 19) rfl ?_); refine zba (some 67) rfl rfl Try.func19 (by kernel_rfl) rfl #[.slice Ao49 t412.length co49] rfl (by (try simp only [List.map_toArray, List.map_cons, List.map_nil]); first | done | rfl | (simp only [List.length_drop, List.length_take]; rfl)) ?_; (with_reducible refine (impl_PlanRooms.calls _ _ t412 t424 true _ ?side1 ?side2 A24.out).mono ?_); (case side1 => repeat (first | exact (Kd.R_reads' HO_6.out).2.2 | (with_reducible refine Kd.C_alloc ?_ _) | (with_reducible refine Kd.C_drewN ?_ _) | (with_reducible refine Kd.C_drew ?_))); (case side2 => exact (Kd.R_reads' HO_6.out).2.1); rintro e w50 ⟨rfl, hb⟩; refine ⟨_, rfl, ?_⟩; have n0_ := zaa.mk (Kd.V_below (by (with_reducible repeat (first | apply Kd.V_alloc | apply Kd.V_drewN | apply Kd.V_drew)); exact HO_3.out) hb); have n1_ := zaa.mk (Kd.R_below (by (with_reducible repeat (first | apply Kd.R_alloc | apply Kd.R_drewN | apply Kd.R_drew)); exact HO_6.out) hb); have n2_ := zaa.mk (Kd.R_below (by (with_reducible repeat (first | apply Kd.R_alloc | apply Kd.R_drewN | apply Kd.R_drew)); exact HO_8.out) hb); have n3_ := zaa.mk (zaf (by repeat (first | (with_reducible first | exact HB.out | apply zac | apply zab | apply zad) | exact HB.out)) hb); clear HO_3; clear HO_6; clear HO_8; clear HB; have HO_3 := n0_; have HO_6 := n1_; have HO_8 := n2_; have HB := n3_; clear n0_ n1_ n2_ n3_; (try clear hb); (try clear hb2); (try clear hk); (try clear hi)) | ((with_reducible refine zal (f := 16) rfl ?_); refine zba (some 74) rfl rfl Try.func16 (by kernel_rfl) rfl #[.slice Ao8 t407.length co8, .int .i64 t411, .int .i64 t410] rfl (by (try simp only [List.map_toArray, List.map_cons, List.map_nil]); first | done | rfl | (simp only [List.length_drop, List.length_take]; rfl)) ?_; (with_reducible refine (impl_PlanMerge.calls _ _ t407 t411 t410 t426 false _ ?side1 ?side2 A25.out).mono ?_); (case side1 => repeat (first | exact (Kd.V_reads' HO_3.out).2.2 | (with_reducible refine Kd.C_alloc ?_ _) | (with_reducible refine Kd.C_drewN ?_ _) | (with_reducible refine Kd.C_drew ?_))); (case side2 => exact (Kd.V_reads' HO_3.out).2.1); rintro e w51 ⟨v428, rfl, ho0, hb⟩; refine ⟨_, rfl, ?_⟩; have n0_ := zaa.mk (Kd.V_elder' (by (with_reducible repeat (first | apply Kd.V_alloc | apply Kd.V_drewN | apply Kd.V_drew)); exact HO_3.out) (Kd.R_base ho0) hb); have n1_ := zaa.mk (Kd.R_elder' (by (with_reducible repeat (first | apply Kd.R_alloc | apply Kd.R_drewN | apply Kd.R_drew)); exact HO_6.out) (Kd.R_base ho0) hb); have n2_ := zaa.mk (Kd.R_elder' (by (with_reducible repeat (first | apply Kd.R_alloc | apply Kd.R_drewN | apply Kd.R_drew)); exact HO_8.out) (Kd.R_base ho0) hb); have n3_ := zaa.mk (Kd.R_lower (Kd.R_new' (Kd.R_new' ho0 (Kd.R_lt (by (with_reducible repeat (first | apply Kd.R_alloc | apply Kd.R_drewN | apply Kd.R_drew)); exact HO_6.out))) (Kd.R_lt (by (with_reducible repeat (first | apply Kd.R_alloc | apply Kd.R_drewN | apply Kd.R_drew)); exact HO_8.out))) (zap (by repeat (first | (with_reducible first | exact HB.out | apply zac | apply zab | apply zad) | exact HB.out)))); have n4_ := zaa.mk (zaf (by repeat (first | (with_reducible first | exact HB.out | apply zac | apply zab | apply zad) | exact HB.out)) hb); clear HO_3; clear HO_6; clear HO_8; clear HB; have HO_3 := n0_; have HO_6 := n1_; have HO_8 := n2_; have HO429 := n3_; have HB := n4_; clear n0_ n1_ n2_ n3_ n4_; (try clear hb); (try clear hb2); (try clear hk); (try clear hi); (try clear ho0)))
        go_ret
        exact ⟨by first | rfl | (simp [zao, zan] <;> rfl) | (simp [*, zao, zan] <;> rfl), by repeat (first | (with_reducible first | exact HB.out | apply zac | apply zab | apply zad) | exact HB.out)⟩
      ·replace c27 := Bool.eq_false_iff.mpr c27
       subst c27
       have H1 : (some false) = some r := by rw [if_neg (show ¬ (false = true) by decide)] at H; exact H
       clear H
       have H := H1
       clear H1
       obtain rfl := Option.some.inj H
       go_wp2_with (first | ((with_reducible refine zal (f := 19) rfl ?_); refine zba (some 62) rfl rfl Try.func19 (by kernel_rfl) rfl #[.slice Ao8 t407.length co8] rfl (by (try simp only [List.map_toArray, List.map_cons, List.map_nil]); first | done | rfl | (simp only [List.length_drop, List.length_take]; rfl)) ?_; (with_reducible refine (impl_PlanRooms.calls _ _ t407 t422 true _ ?side1 ?side2 A23.out).mono ?_); (case side1 => repeat (first | exact (Kd.V_reads' HO_3.out).2.2 | (with_reducible refine Kd.C_alloc ?_ _) | (with_reducible refine Kd.C_drewN ?_ _) | (with_reducible refine Kd.C_drew ?_))); (case side2 => exact (Kd.V_reads' HO_3.out).2.1); rintro e w52 ⟨rfl, hb⟩; refine ⟨_, rfl, ?_⟩; have n0_ := zaa.mk (Kd.V_below (by (with_reducible repeat (first | apply Kd.V_alloc | apply Kd.V_drewN | apply Kd.V_drew)); exact HO_3.out) hb); have n1_ := zaa.mk (Kd.R_below (by (with_reducible repeat (first | apply Kd.R_alloc | apply Kd.R_drewN | apply Kd.R_drew)); exact HO_6.out) hb); have n2_ := zaa.mk (Kd.R_below (by (with_reducible repeat (first | apply Kd.R_alloc | apply Kd.R_drewN | apply Kd.R_drew)); exact HO_8.out) hb); have n3_ := zaa.mk (zaf (by repeat (first | (with_reducible first | exact HB.out | apply zac | apply zab | apply zad) | exact HB.out)) hb); clear HO_3; clear HO_6; clear HO_8; clear HB; have HO_3 := n0_; have HO_6 := n1_; have HO_8 := n2_; have HB := n3_; clear n0_ n1_ n2_ n3_; (try clear hb); (try clear hb2); (try clear hk); (try clear hi); obtain ⟨Ao53, co53, eo53⟩ := Kd.R_slice HO_6.out; subst eo53) | ((with_reducible refine zal (f := 19) rfl ?_); refine zba (some 67) rfl rfl Try.func19 (by kernel_rfl) rfl #[.slice Ao53 t412.length co53] rfl (by (try simp only [List.map_toArray, List.map_cons, List.map_nil]); first | done | rfl | (simp only [List.length_drop, List.length_take]; rfl)) ?_; (with_reducible refine (impl_PlanRooms.calls _ _ t412 t424 false _ ?side1 ?side2 A24.out).mono ?_); (case side1 => repeat (first | exact (Kd.R_reads' HO_6.out).2.2 | (with_reducible refine Kd.C_alloc ?_ _) | (with_reducible refine Kd.C_drewN ?_ _) | (with_reducible refine Kd.C_drew ?_))); (case side2 => exact (Kd.R_reads' HO_6.out).2.1); rintro e w54 ⟨rfl, hb⟩; refine ⟨_, rfl, ?_⟩; have n0_ := zaa.mk (Kd.V_below (by (with_reducible repeat (first | apply Kd.V_alloc | apply Kd.V_drewN | apply Kd.V_drew)); exact HO_3.out) hb); have n1_ := zaa.mk (Kd.R_below (by (with_reducible repeat (first | apply Kd.R_alloc | apply Kd.R_drewN | apply Kd.R_drew)); exact HO_6.out) hb); have n2_ := zaa.mk (Kd.R_below (by (with_reducible repeat (first | apply Kd.R_alloc | apply Kd.R_drewN | apply Kd.R_drew)); exact HO_8.out) hb); have n3_ := zaa.mk (zaf (by repeat (first | (with_reducible first | exact HB.out | apply zac | apply zab | apply zad) | exact HB.out)) hb); clear HO_3; clear HO_6; clear HO_8; clear HB; have HO_3 := n0_; have HO_6 := n1_; have HO_8 := n2_; have HB := n3_; clear n0_ n1_ n2_ n3_; (try clear hb); (try clear hb2); (try clear hk); (try clear hi)) | ((with_reducible refine zal (f := 16) rfl ?_); refine zba (some 74) rfl rfl Try.func16 (by kernel_rfl) rfl #[.slice Ao8 t407.length co8, .int .i64 t411, .int .i64 t410] rfl (by (try simp only [List.map_toArray, List.map_cons, List.map_nil]); first | done | rfl | (simp only [List.length_drop, List.length_take]; rfl)) ?_; (with_reducible refine (impl_PlanMerge.calls _ _ t407 t411 t410 t426 t427 _ ?side1 ?side2 A25.out).mono ?_); (case side1 => repeat (first | exact (Kd.V_reads' HO_3.out).2.2 | (with_reducible refine Kd.C_alloc ?_ _) | (with_reducible refine Kd.C_drewN ?_ _) | (with_reducible refine Kd.C_drew ?_))); (case side2 => exact (Kd.V_reads' HO_3.out).2.1); rintro e w55 ⟨v428, rfl, ho0, hb⟩; refine ⟨_, rfl, ?_⟩; have n0_ := zaa.mk (Kd.V_elder' (by (with_reducible repeat (first | apply Kd.V_alloc | apply Kd.V_drewN | apply Kd.V_drew)); exact HO_3.out) (Kd.R_base ho0) hb); have n1_ := zaa.mk (Kd.R_elder' (by (with_reducible repeat (first | apply Kd.R_alloc | apply Kd.R_drewN | apply Kd.R_drew)); exact HO_6.out) (Kd.R_base ho0) hb); have n2_ := zaa.mk (Kd.R_elder' (by (with_reducible repeat (first | apply Kd.R_alloc | apply Kd.R_drewN | apply Kd.R_drew)); exact HO_8.out) (Kd.R_base ho0) hb); have n3_ := zaa.mk (Kd.R_lower (Kd.R_new' (Kd.R_new' ho0 (Kd.R_lt (by (with_reducible repeat (first | apply Kd.R_alloc | apply Kd.R_drewN | apply Kd.R_drew)); exact HO_6.out))) (Kd.R_lt (by (with_reducible repeat (first | apply Kd.R_alloc | apply Kd.R_drewN | apply Kd.R_drew)); exact HO_8.out))) (zap (by repeat (first | (with_reducible first | exact HB.out | apply zac | apply zab | apply zad) | exact HB.out)))); have n4_ := zaa.mk (zaf (by repeat (first | (with_reducible first | exact HB.out | apply zac | apply zab | apply zad) | exact HB.out)) hb); clear HO_3; clear HO_6; clear HO_8; clear HB; have HO_3 := n0_; have HO_6 := n1_; have HO_8 := n2_; have HO429 := n3_; have HB := n4_; clear n0_ n1_ n2_ n3_ n4_; (try clear hb); (try clear hb2); (try clear hk); (try clear hi); (try clear ho0)))
       go_ret
       exact ⟨by first | rfl | (simp [zao, zan] <;> rfl) | (simp [*, zao, zan] <;> rfl), by repeat (first | (with_reducible first | exact HB.out | apply zac | apply zab | apply zad) | exact HB.out)⟩
     ·replace c26 := Bool.eq_false_iff.mpr c26
      subst c26
      have H1 : (some false) = some r := by rw [if_neg (show ¬ (false = true) by decide)] at H; exact H
      clear H
      have H := H1
      clear H1
      obtain rfl := Option.some.inj H
      go_wp2_with (first | ((with_reducible refine zal (f := 19) rfl ?_); refine zba (some 62) rfl rfl Try.func19 (by kernel_rfl) rfl #[.slice Ao8 t407.length co8] rfl (by (try simp only [List.map_toArray, List.map_cons, List.map_nil]); first | done | rfl | (simp only [List.length_drop, List.length_take]; rfl)) ?_; (with_reducible refine (impl_PlanRooms.calls _ _ t407 t422 false _ ?side1 ?side2 A23.out).mono ?_); (case side1 => repeat (first | exact (Kd.V_reads' HO_3.out).2.2 | (with_reducible refine Kd.C_alloc ?_ _) | (with_reducible refine Kd.C_drewN ?_ _) | (with_reducible refine Kd.C_drew ?_))); (case side2 => exact (Kd.V_reads' HO_3.out).2.1); rintro e w56 ⟨rfl, hb⟩; refine ⟨_, rfl, ?_⟩; have n0_ := zaa.mk (Kd.V_below (by (with_reducible repeat (first | apply Kd.V_alloc | apply Kd.V_drewN | apply Kd.V_drew)); exact HO_3.out) hb); have n1_ := zaa.mk (Kd.R_below (by (with_reducible repeat (first | apply Kd.R_alloc | apply Kd.R_drewN | apply Kd.R_drew)); exact HO_6.out) hb); have n2_ := zaa.mk (Kd.R_below (by (with_reducible repeat (first | apply Kd.R_alloc | apply Kd.R_drewN | apply Kd.R_drew)); exact HO_8.out) hb); have n3_ := zaa.mk (zaf (by repeat (first | (with_reducible first | exact HB.out | apply zac | apply zab | apply zad) | exact HB.out)) hb); clear HO_3; clear HO_6; clear HO_8; clear HB; have HO_3 := n0_; have HO_6 := n1_; have HO_8 := n2_; have HB := n3_; clear n0_ n1_ n2_ n3_; (try clear hb); (try clear hb2); (try clear hk); (try clear hi); obtain ⟨Ao57, co57, eo57⟩ := Kd.R_slice HO_6.out; subst eo57) | ((with_reducible refine zal (f := 19) rfl ?_); refine zba (some 67) rfl rfl Try.func19 (by kernel_rfl) rfl #[.slice Ao57 t412.length co57] rfl (by (try simp only [List.map_toArray, List.map_cons, List.map_nil]); first | done | rfl | (simp only [List.length_drop, List.length_take]; rfl)) ?_; (with_reducible refine (impl_PlanRooms.calls _ _ t412 t424 t425 _ ?side1 ?side2 A24.out).mono ?_); (case side1 => repeat (first | exact (Kd.R_reads' HO_6.out).2.2 | (with_reducible refine Kd.C_alloc ?_ _) | (with_reducible refine Kd.C_drewN ?_ _) | (with_reducible refine Kd.C_drew ?_))); (case side2 => exact (Kd.R_reads' HO_6.out).2.1); rintro e w58 ⟨rfl, hb⟩; refine ⟨_, rfl, ?_⟩; have n0_ := zaa.mk (Kd.V_below (by (with_reducible repeat (first | apply Kd.V_alloc | apply Kd.V_drewN | apply Kd.V_drew)); exact HO_3.out) hb); have n1_ := zaa.mk (Kd.R_below (by (with_reducible repeat (first | apply Kd.R_alloc | apply Kd.R_drewN | apply Kd.R_drew)); exact HO_6.out) hb); have n2_ := zaa.mk (Kd.R_below (by (with_reducible repeat (first | apply Kd.R_alloc | apply Kd.R_drewN | apply Kd.R_drew)); exact HO_8.out) hb); have n3_ := zaa.mk (zaf (by repeat (first | (with_reducible first | exact HB.out | apply zac | apply zab | apply zad) | exact HB.out)) hb); clear HO_3; clear HO_6; clear HO_8; clear HB; have HO_3 := n0_; have HO_6 := n1_; have HO_8 := n2_; have HB := n3_; clear n0_ n1_ n2_ n3_; (try clear hb); (try clear hb2); (try clear hk); (try clear hi)) | ((with_reducible refine zal (f := 16) rfl ?_); refine zba (some 74) rfl rfl Try.func16 (by kernel_rfl) rfl #[.slice Ao8 t407.length co8, .int .i64 t411, .int .i64 t410] rfl (by (try simp only [List.map_toArray, List.map_cons, List.map_nil]); first | done | rfl | (simp only [List.length_drop, List.length_take]; rfl)) ?_; (with_reducible refine (impl_PlanMerge.calls _ _ t407 t411 t410 t426 t427 _ ?side1 ?side2 A25.out).mono ?_); (case side1 => repeat (first | exact (Kd.V_reads' HO_3.out).2.2 | (with_reducible refine Kd.C_alloc ?_ _) | (with_reducible refine Kd.C_drewN ?_ _) | (with_reducible refine Kd.C_drew ?_))); (case side2 => exact (Kd.V_reads' HO_3.out).2.1); rintro e w59 ⟨v428, rfl, ho0, hb⟩; refine ⟨_, rfl, ?_⟩; have n0_ := zaa.mk (Kd.V_elder' (by (with_reducible repeat (first | apply Kd.V_alloc | apply Kd.V_drewN | apply Kd.V_drew)); exact HO_3.out) (Kd.R_base ho0) hb); have n1_ := zaa.mk (Kd.R_elder' (by (with_reducible repeat (first | apply Kd.R_alloc | apply Kd.R_drewN | apply Kd.R_drew)); exact HO_6.out) (Kd.R_base ho0) hb); have n2_ := zaa.mk (Kd.R_elder' (by (with_reducible repeat (first | apply Kd.R_alloc | apply Kd.R_drewN | apply Kd.R_drew)); exact HO_8.out) (Kd.R_base ho0) hb); have n3_ := zaa.mk (Kd.R_lower (Kd.R_new' (Kd.R_new' ho0 (Kd.R_lt (by (with_reducible repeat (first | apply Kd.R_alloc | apply Kd.R_drewN | apply Kd.R_drew)); exact HO_6.out))) (Kd.R_lt (by (with_reducible repeat (first | apply Kd.R_alloc | apply Kd.R_drewN | apply Kd.R_drew)); exact HO_8.out))) (zap (by repeat (first | (with_reducible first | exact HB.out | apply zac | apply zab | apply zad) | exact HB.out)))); have n4_ := zaa.mk (zaf (by repeat (first | (with_reducible first | exact HB.out | apply zac | apply zab | apply zad) | exact HB.out)) hb); clear HO_3; clear HO_6; clear HO_8; clear HB; have HO_3 := n0_; have HO_6 := n1_; have HO_8 := n2_; have HO429 := n3_; have HB := n4_; clear n0_ n1_ n2_ n3_ n4_; (try clear hb); (try clear hb2); (try clear hk); (try clear hi); (try clear ho0)))
      go_ret
      exact ⟨by first | rfl | (simp [zao, zan] <;> rfl) | (simp [*, zao, zan] <;> rfl), by repeat (first | (with_reducible first | exact HB.out | apply zac | apply zab | apply zad) | exact HB.out)⟩
def laws_FnMerge.Pure : Prop := ∀ (l0 : List Int), l0.length ≤ maxLen → l0.length * 1 ≤ 140737488351232 → (∀ x ∈ l0, (Lit.int .u8 x).wf = true) → ∃ k, laws_FnMerge.f k l0 = some true
theorem laws_FnMerge.walk (P : laws_FnMerge.Pure) (a0 : Option Addr) (len0 cap0 : Nat) (z0 : List Int) (w : World) (w0 : (a0 = none ∧ len0 = 0 ∧ cap0 = 0 ∧ z0 = []) ∨ ∃ x, a0 = some x ∧ len0 ≤ cap0 ∧ cap0 ≤ maxLen ∧ z0.length = cap0 ∧ (∀ i, i < z0.length → w.cell? (x.add i) = some (.int .u8 (z0.getD i 0))) ∧ ∀ n ∈ z0, (Lit.int .u8 n).wf = true) (y0 : len0 * 1 ≤ 140737488351232) :
  Calls Try.prog 3 #[.slice a0 len0 cap0] w fun e w' => e = .returned (.bool true) ∧ Below w.heap.size w w' := by
 obtain ⟨l0, rfl, hr0, hm0, hw0, hc0⟩ := zce.ofRowC w0
 obtain ⟨k, h⟩ := P l0 hm0 y0 hw0
 refine (laws_FnMerge.calls k _ _ l0 true w (Kd.C_of_reads (d := (0 : Int)) (h1 := fun _ => rfl) hr0) hc0 h).mono ?_
 rintro e w' ⟨rfl, hd⟩
 exact ⟨rfl, hd⟩
end Go.Proofs.Ytaepgogafkmooaa.MG
namespace Go.Proofs.Ytaepgogafkmooaa.Hd
open Go.RowKit Go.PW.PrintWords Go.PW.PrintLast Go.PW.PrintMore Go.Proofs.Ytaepgogafkmooaa.PB
structure Lil (p : List ByteArray) : Prop where
 high : p.length ≤ 100
 row : ∀ s ∈ p, s.size ≤ 100
theorem Lil.small {p : List ByteArray} (h : Lil p) : smallP p := ⟨by have := h.high; omega, fun s hs => by have := h.row s hs; omega⟩
theorem Mid.lil {p : List ByteArray} {wi : Nat} (h : Mid p wi) : Lil p := ⟨h.high, fun s hs => by rw [h.row s hs]; exact h.wide⟩
theorem bt_range (s : ByteArray) (j : Nat) (hj : j < s.size) : 0 ≤ bt s (j : Int) ∧ bt s (j : Int) ≤ 255 := by
 obtain ⟨x, hx⟩ : ∃ x, (bytesOf s)[j]? = some x := ⟨_, List.getElem?_eq_getElem (by rw [zbh]; omega)⟩
 have hr := bytesOf_range s x (List.mem_of_getElem? hx)
 rw [← bt_get hx] at hr
 exact hr
theorem roomsA_l1 (p : List ByteArray) (h : Lil p) (i : Nat) (s : ByteArray) (hs : p[i]? = some s) (hnext : ∀ v, 0 ≤ v → v ≤ 255 → ∃ r, 0 ≤ r ∧ r ≤ 255 ∧ Evs (fun k => spec_l1Rooms.l0 k p v ((i + 1 : Nat) : Int)) r) :
  ∀ m j v, j + m = s.size → 0 ≤ v → v ≤ 255 → ∃ r, 0 ≤ r ∧ r ≤ 255 ∧ Evs (fun k => spec_l1Rooms.l1 k p v (i : Int) (j : Int)) r := by
 have h6 := h.high
 have w6 := h.row s (List.mem_of_getElem? hs)
 have hi := (List.getElem?_eq_some_iff.1 hs).1
 intro m
 induction m with
 | zero =>
  intro j v hj v0 v1
  obtain ⟨r, r0, r1, hr⟩ := hnext v v0 v1
  refine ⟨r, r0, r1, Evs.step (fun k => ?_) hr⟩
  conv => lhs; unfold spec_l1Rooms.l1
  rw [if_pos (by omega), if_pos (by omega), zbt hs, if_neg (by omega), zbl (by omega)]
 | succ m ih =>
  intro j v hj v0 v1
  have hb := bt_range s j (by omega)
  obtain ⟨r, r0, r1, hr⟩ := ih (j + 1) (max v (bt s (j : Int) - 97 + 1)) (by omega) (by omega) (by omega)
  refine ⟨r, r0, r1, Evs.step (fun k => ?_) hr⟩
  conv => lhs; unfold spec_l1Rooms.l1
  rw [if_pos (by omega), if_pos (by omega), zbt hs, if_pos (by omega), if_pos (by omega), zas (x := bt s (j : Int)) (by omega) (by omega), zas (x := bt s (j : Int) - 97) (by omega) (by omega), zas (x := bt s (j : Int) - 97 + 1) (by omega) (by omega), zbl (by omega), mx_max]
theorem roomsA_l0 (p : List ByteArray) (h : Lil p) : ∀ m i v, i + m = p.length → 0 ≤ v → v ≤ 255 → ∃ r, 0 ≤ r ∧ r ≤ 255 ∧ Evs (fun k => spec_l1Rooms.l0 k p v (i : Int)) r := by
 have h6 := h.high
 intro m
 induction m with
 | zero =>
  intro i v hi v0 v1
  refine ⟨v, v0, v1, Evs.step (h := fun _ => some v) (fun k => ?_) (Evs.const _)⟩
  conv => lhs; unfold spec_l1Rooms.l0
  rw [if_neg (by omega)]
 | succ m ih =>
  intro i v hi v0 v1
  obtain ⟨s, hs⟩ : ∃ s, p[i]? = some s := ⟨_, List.getElem?_eq_getElem (by omega)⟩
  obtain ⟨r, r0, r1, hr⟩ := roomsA_l1 p h i s hs (fun v v0 v1 => ih (i + 1) v (by omega) v0 v1) s.size 0 v (by omega) v0 v1
  refine ⟨r, r0, r1, Evs.step (fun k => ?_) hr⟩
  conv => lhs; unfold spec_l1Rooms.l0
  rw [if_pos (by omega)]
  rfl
theorem l1Rooms_any (p : List ByteArray) (h : Lil p) : ∃ r, 0 ≤ r ∧ r ≤ 255 ∧ Evs (fun k => spec_l1Rooms.f k p) r := roomsA_l0 p h p.length 0 0 (by omega) (by omega) (by omega)
theorem bytesOf_putS (s : ByteArray) (l n : Nat) (c : Int) (h0 : 0 ≤ c) (h1 : c ≤ 255) : bytesOf (putS s l n c) = putN (bytesOf s) l n c := by
 unfold putS
 refine bytesOf_strOfNums _ fun x hx => ?_
 unfold putN at hx
 obtain ⟨i, hi, e⟩ := List.mem_iff_getElem.1 hx
 rw [List.getElem_mapIdx] at e
 subst e
 split
 ·exact ⟨h0, h1⟩
 ·exact bytesOf_range s _ (List.getElem_mem _)
def putB (t l h m : Nat) (r c : Nat) : Prop := (t ≤ r ∧ r < t + h) ∧ (l ≤ c ∧ c < l + m)
instance (t l h m r c : Nat) : Decidable (putB t l h m r c) := by unfold putB; exact inferInstance
theorem numsOf_put {p : List ByteArray} {wi : Nat} (hs : Small p wi) (t l h m : Nat) (x : Int) (h0 : 0 ≤ x) (h1 : x ≤ 255) : zar (putR p t h l m x) = zbe p.length wi (fun r c => if putB t l h m r c then x else zbc (zar p) r c) := by
 apply List.ext_getElem?
 intro r
 by_cases hr : r < p.length
 ·rw [gridOf_get hr]
  unfold zar putR
  rw [List.getElem?_map, List.getElem?_mapIdx, List.getElem?_eq_getElem hr]
  simp only [Option.map_some]
  congr 1
  have hsz := hs.row _ (List.getElem_mem hr)
  have hrow : ∀ c, c < wi → (bytesOf p[r])[c]? = some (zbc (zar p) r c) := fun c hc => by
   obtain ⟨row, e1, e2⟩ := valAt_get hs.rect (by rw [zbs]; exact hr) hc
   unfold zar at e1
   rw [List.getElem?_map, List.getElem?_eq_getElem hr] at e1
   have e1 := Option.some.inj e1
   rw [e1]
   exact e2
  apply List.ext_getElem?
  intro c
  by_cases hc : c < wi
  ·rw [List.getElem?_map, List.getElem?_range hc]
   simp only [Option.map_some]
   by_cases ht : t ≤ r ∧ r < t + h
   ·rw [if_pos ht, bytesOf_putS _ _ _ _ h0 h1]
    unfold putN
    rw [List.getElem?_mapIdx, hrow c hc]
    simp only [Option.map_some]
    congr 1
    by_cases hl : l ≤ c ∧ c < l + m
    ·rw [if_pos hl, if_pos ⟨ht, hl⟩]
    ·rw [if_neg hl, if_neg (fun z => hl z.2)]; rfl
   ·rw [if_neg ht, if_neg (fun z => ht z.1)]
    exact hrow c hc
  ·rw [List.getElem?_eq_none (by
    split
    ·rw [bytesOf_putS _ _ _ _ h0 h1, putN_length, zbh]; omega
    ·rw [zbh]; omega), List.getElem?_eq_none (by simp; omega)]
 ·rw [List.getElem?_eq_none (by simp [zar, putR]; omega), List.getElem?_eq_none (by rw [zbf]; omega)]
theorem put_f {p : List ByteArray} {wi : Nat} (hs : Small p wi) (t l h m x : Int) (t0 : 0 ≤ t) (l0 : 0 ≤ l) (h0 : 0 ≤ h) (m0 : 0 ≤ m) (th : t + h ≤ p.length) (lm : l + m ≤ wi) (x0 : 0 ≤ x) (x1 : x ≤ 255) : spec_l1Put.f p t l h m x = some (putR p t.toNat h.toNat l.toNat m.toNat x) := by
 have hh := hs.high
 have hw := hs.wide
 have hall : (p.all fun s => decide (l + m ≤ s.size) && decide (s.size ≤ 1048576)) = true := by
  rw [List.all_eq_true]
  intro s hss
  rw [hs.row s hss, decide_eq_true lm, decide_eq_true (show wi ≤ 1048576 by omega)]
  rfl
 unfold spec_l1Put.f
 rw [if_pos]
 unfold putOk
 rw [hall, decide_eq_true t0, decide_eq_true l0, decide_eq_true h0, decide_eq_true m0, decide_eq_true x0, decide_eq_true x1, decide_eq_true (show p.length ≤ 1048576 by omega), decide_eq_true th, decide_eq_true (show l ≤ 1048576 by omega), decide_eq_true (show m ≤ 1048576 by omega)]
 rfl
theorem small_put {p : List ByteArray} {wi : Nat} (hs : Small p wi) (t h l m : Nat) (x : Int) : smallP (putR p t h l m x) := by
 have hh := hs.high
 have hw := hs.wide
 refine ⟨by rw [putR_length]; omega, fun s hss => ?_⟩
 unfold putR at hss
 obtain ⟨i, hi, e⟩ := List.mem_iff_getElem.1 hss
 rw [List.length_mapIdx] at hi
 rw [List.getElem_mapIdx] at e
 have hr := hs.row _ (List.getElem_mem hi)
 subst e
 split
 ·have hl := zbh p[i]
  show (List.map _ (putN (bytesOf p[i]) l m x)).toArray.size ≤ _
  simp [putN_length]
  omega
 ·rw [hr]; omega
theorem put_done {p : List ByteArray} {cs : List (List Int)} {rs : List Rc} (F : PlanFacts p cs rs) (t h l m : Nat) (x : Int) (x0 : 97 ≤ x) (x1 : x ≤ 122) (f : Int → Int) (hf : ∀ S, InjOn f S) (g : Nat → Nat → Int) (hg : ∀ r c, r < cs.length → c < zaq cs → f (g r c) = if putB t l h m r c then x else 97 + zbc cs r c) : doneF (putR p t h l m x) = planF (zbe cs.length (zaq cs) g) := by
 have hsm := gridOk_small F.canon.grid
 rw [F.wide] at hsm
 have hn := numsOf_put hsm t l h m x (by omega) (by omega)
 have hv : zar (putR p t h l m x) = mapG f (zbe cs.length (zaq cs) g) := by
  rw [hn, mapG_gridOf, F.len]
  refine gridOf_congr fun r c hr hc => ?_
  rw [hg r c hr hc, F.nums, valAt_map F.ok.rect _ hr hc]
 have hok : (putR p t h l m x).all okText = true := by
  rw [List.all_eq_true]
  intro s hs
  refine okText_of fun y hy => ?_
  have hm : bytesOf s ∈ zar (putR p t h l m x) := List.mem_map.2 ⟨s, hs, rfl⟩
  rw [hn, F.len] at hm
  unfold zbe at hm
  obtain ⟨i, hi, e⟩ := List.mem_map.1 hm
  rw [← e] at hy
  obtain ⟨j, hj, rfl⟩ := List.mem_map.1 hy
  have hi := List.mem_range.1 hi
  have hj := List.mem_range.1 hj
  have h1 := valAt_range F.ok i j hi hj
  have h2 := F.ok.many
  dsimp only
  rw [F.nums, valAt_map F.ok.rect _ hi hj]
  split <;> omega
 unfold doneF
 rw [if_pos hok, hv]
 exact plan_map (hf _)
def isH (letter : ByteArray) : Bool := letter.toList == [104]
def isV (letter : ByteArray) : Bool := letter.toList == [118]
theorem isHV {letter : ByteArray} (h : isH letter = true) : isV letter = false := by
 unfold isH at h
 unfold isV
 rw [beq_iff_eq] at h
 rw [h]
 rfl
def behindB (b : Rc) (letter : ByteArray) (k : Int) (r c : Nat) : Bool := (isH letter && decide (b.f0 + k ≤ r)) || (isV letter && decide (b.f1 + k ≤ c))
def splitG (cs : List (List Int)) (rs : List Rc) (room : Int) (letter : ByteArray) (k : Int) (r c : Nat) : Int :=
 if zbc cs r c = room ∧ behindB (rs.getD room.toNat zcg) letter k r c = true then rs.length else zbc cs r c
def splitF (p : List ByteArray) (room : Int) (letter : ByteArray) (k : Int) : List ByteArray × Bool := match zcc p with
 | none => ([], false)
 | some (cs, rs) =>
  if hasB rs room && (isH letter || isV letter) then
   if 1 ≤ k ∧ k < (if isH letter then (rs.getD room.toNat zcg).f2 else (rs.getD room.toNat zcg).f3) then planF (zbe cs.length (zaq cs) (splitG cs rs room letter k)) else ([], false)
  else ([], false)
end Go.Proofs.Ytaepgogafkmooaa.Hd
namespace Go.Proofs.Ytaepgogafkmooaa.Hd
open Go.RowKit Go.PW.PrintWords Go.PW.PrintLast Go.PW.PrintMore Go.Proofs.Ytaepgogafkmooaa.PB Go.Proofs.Ytaepgogafkmooaa.SM
theorem isH_iff (t : ByteArray) : isH t = true ↔ t.toList = ([104] : List UInt8) := by unfold isH; rw [beq_iff_eq]
theorem isV_iff (t : ByteArray) : isV t = true ↔ t.toList = ([118] : List UInt8) := by unfold isV; rw [beq_iff_eq]
def newName (n : Nat) (x : Int) : Int := if x = n then 122 else if x = 25 then 97 + n else 97 + x
theorem newName_inj (n : Nat) (S : Int → Prop) : InjOn (newName n) S := by
 intro a b _ _ e
 unfold newName at e
 by_cases h1 : a = n <;> by_cases h2 : a = 25 <;> by_cases h3 : b = n <;> by_cases h4 : b = 25 <;> simp only [h1, h2, h3, h4, if_true, if_false] at e <;> omega
theorem split_j1_false (p : List ByteArray) (k a b c d : Int) : Evs (fun q => spec_PlanSplit.j1 q p k a b c d false) ([], false) := by
 refine Evs.step (h := fun _ => some ([], false)) (fun q => ?_) (Evs.const _)
 show spec_PlanSplit.j1 (q + 1) p k a b c d false = _
 simp only [spec_PlanSplit.j1, Bool.false_eq_true, if_false, l1None_f, Option.bind_some]
theorem split_j0_none (p : List ByteArray) (t : ByteArray) (hV : isV t = false) (k a b c d : Int) : Evs (fun q => spec_PlanSplit.j0 q p t k a b c d false) ([], false) := by
 have hv : ¬ t.toList = ([118] : List UInt8) := fun h => by rw [(isV_iff t).2 h] at hV; cases hV
 refine Evs.step (h := fun q => spec_PlanSplit.j1 q p k a b c d false) (fun q => ?_) (split_j1_false p k a b c d)
 show spec_PlanSplit.j0 (q + 1) p t k a b c d false = _
 simp only [spec_PlanSplit.j0, Bool.false_eq_true, if_false, if_neg hv]
theorem split_none {p : List ByteArray} (a : Int) (t : ByteArray) (k : Int) : Evs (fun q => if (false = true) then ((spec_l1Room.f q p a).bind fun bt205 => (if t.toList = ([104] : List UInt8) then ((spec_l6In.f k 1 (wrap64 (bt205.2.2.1 - 1))).bind fun t209 => (spec_PlanSplit.j0 q p t k bt205.1 bt205.2.1 bt205.2.2.1 bt205.2.2.2 t209)) else (spec_PlanSplit.j0 q p t k bt205.1 bt205.2.1 bt205.2.2.1 bt205.2.2.2 false))) else ((spec_l1None.f).bind fun bt201 => (some (bt201.1, bt201.2)))) ([], false) := by
 refine Evs.congr (h := fun _ => some ([], false)) (fun q => ?_) (Evs.const _)
 rw [if_neg (by simp), l1None_f]
 rfl
theorem split_val {p : List ByteArray} {cs : List (List Int)} {rs : List Rc} (F : PlanFacts p cs rs) (room : Int) (t : ByteArray) (k : Int) (T H L M : Nat) (hcell : ∀ r c, r < cs.length → c < zaq cs → ((zbc cs r c = room ∧ behindB (rs.getD room.toNat zcg) t k r c = true) ↔ putB T L H M r c)) :
  doneF (putR p T H L M 122) = planF (zbe cs.length (zaq cs) (splitG cs rs room t k)) := by
 have h9 := F.ok.many
 refine put_done F T H L M 122 (by omega) (by omega) (newName rs.length) (newName_inj rs.length) (splitG cs rs room t k) (fun r c hr hc => ?_)
 have hc2 := hcell r c hr hc
 have hv := valAt_range F.ok r c hr hc
 unfold splitG
 by_cases h : zbc cs r c = room ∧ behindB (rs.getD room.toNat zcg) t k r c = true
 ·rw [if_pos h, if_pos (hc2.1 h)]
  unfold newName
  rw [if_pos rfl]
 ·rw [if_neg h, if_neg (fun z => h (hc2.2 z))]
  unfold newName
  rw [if_neg (by omega), if_neg (by omega)]
theorem PlanSplit_ev (p : List ByteArray) (a : Int) (t : ByteArray) (k : Int) (hp : smallP p) : Evs (fun q => spec_PlanSplit.f q p a t k) (splitF p a t k) := by
 have ha := l1Given_ev p a hp
 cases hF : zcc p with
 | none =>
  have e1 : givenB p a = false := by unfold givenB; rw [hF]
  have e2 : splitF p a t k = ([], false) := by unfold splitF; rw [hF]
  rw [e1] at ha
  rw [e2]
  exact Evs.bind ha (split_none a t k)
 | some z =>
  obtain ⟨cs, rs⟩ := z
  have e1 : givenB p a = hasB rs a := by unfold givenB; rw [hF]
  have e2 : splitF p a t k = if hasB rs a && (isH t || isV t) then
   if 1 ≤ k ∧ k < (if isH t then (rs.getD a.toNat zcg).f2 else (rs.getD a.toNat zcg).f3) then planF (zbe cs.length (zaq cs) (splitG cs rs a t k)) else ([], false)
   else ([], false) := by unfold splitF; rw [hF]
  rw [e1] at ha
  rw [e2]
  cases hA : hasB rs a with
  | false =>
   rw [hA] at ha
   exact Evs.bind ha (split_none a t k)
  | true =>
   rw [hA] at ha
   have F := floor_facts hF
   have hsm := gridOk_small F.canon.grid
   have hL := F.ok.many
   have o1 := F.ok.h1
   have o6 := F.ok.h6
   have q1 := F.len
   unfold hasB at hA
   rw [Bool.and_eq_true, decide_eq_true_eq, decide_eq_true_eq] at hA
   obtain ⟨i, rfl⟩ := Int.eq_ofNat_of_zero_le hA.1
   have hi : i < rs.length := by omega
   have hR := l1Room_ev p _ hsm (by omega) (i : Int)
   obtain ⟨c1, c2, c3⟩ := F.canon.room i (by rw [← F.rooms]; exact hi)
   rw [← F.rooms] at c1 c3
   rw [c1] at hR
   have hcell := room_cells hF i hi
   obtain ⟨b1, b2, b3, b4, b5, b6⟩ := c3
   have w6 := hsm.wide
   rw [F.wide] at b6 w6
   rw [F.wide] at hsm
   rw [Int.toNat_natCast]
   have hvalue := fun T H L M h => split_val F (i : Int) t k T H L M h
   rw [Int.toNat_natCast] at hvalue
   unfold behindB at hvalue
   generalize rs.getD i zcg = bx at *
   refine Evs.bind ha ?_
   refine Evs.congr (h := fun q => (spec_l1Room.f q p (i : Int)).bind fun bt205 => (if t.toList = ([104] : List UInt8) then ((spec_l6In.f k 1 (wrap64 (bt205.2.2.1 - 1))).bind fun t209 => (spec_PlanSplit.j0 q p t k bt205.1 bt205.2.1 bt205.2.2.1 bt205.2.2.2 t209)) else (spec_PlanSplit.j0 q p t k bt205.1 bt205.2.1 bt205.2.2.1 bt205.2.2.2 false))) (fun q => by rw [if_pos rfl]) (Evs.bind hR ?_)
   dsimp only
   cases hH : isH t with
   | true =>
    have hV := isHV hH
    rw [hV] at hvalue
    refine Evs.pos ((isH_iff t).1 hH) ?_
    rw [zas (x := bx.f2 - 1) (by omega) (by omega)]
    refine Evs.bindS (l6In_f k 1 (bx.f2 - 1)) ?_
    simp only [Bool.true_or, Bool.and_self, if_true]
    by_cases hk : 1 ≤ k ∧ k < bx.f2
    ·rw [if_pos hk, show (decide (1 ≤ k) && decide (k ≤ bx.f2 - 1)) = true by rw [Bool.and_eq_true, decide_eq_true_eq, decide_eq_true_eq]; omega]
     have hput := put_f hsm (bx.f0 + k) bx.f1 (bx.f2 - k) bx.f3 122 (by omega) b2 (by omega) (by omega) (by omega) b6 (by omega) (by omega)
     have hd := hvalue (bx.f0 + k).toNat (bx.f2 - k).toNat bx.f1.toNat bx.f3.toNat (fun r c hr hc => by
      have hc2 := hcell r c hr hc
      rw [hc2, hH]
      simp only [Bool.true_and, Bool.false_and, Bool.or_false, decide_eq_true_eq]
      unfold putB
      omega)
     have hdn := l1Done_ev _ (small_put hsm (bx.f0 + k).toNat (bx.f2 - k).toNat bx.f1.toNat bx.f3.toNat 122)
     rw [hd] at hdn
     refine Evs.step (h := fun q => (spec_l1Put.f p (wrap64 (bx.f0 + k)) bx.f1 (wrap64 (bx.f2 - k)) bx.f3 122).bind fun t210 => ((spec_l1Done.f q t210).bind fun bt213 => (some (bt213.1, bt213.2)))) (fun q => ?_) ?_
     ·show spec_PlanSplit.j0 (q + 1) p t k bx.f0 bx.f1 bx.f2 bx.f3 true = _
      simp only [spec_PlanSplit.j0, if_true]
     ·rw [zas (x := bx.f0 + k) (by omega) (by omega), zas (x := bx.f2 - k) (by omega) (by omega), hput]
      simp only [Option.bind_some]
      exact Evs.bind hdn (Evs.const _)
    ·rw [if_neg hk, show (decide (1 ≤ k) && decide (k ≤ bx.f2 - 1)) = false by rw [← Bool.not_eq_true, Bool.and_eq_true, decide_eq_true_eq, decide_eq_true_eq]; omega]
     exact split_j0_none p t hV k _ _ _ _
   | false =>
    have hnh : ¬ t.toList = ([104] : List UInt8) := fun h => by rw [(isH_iff t).2 h] at hH; cases hH
    refine Evs.neg hnh ?_
    cases hV : isV t with
    | false =>
     simp only [Bool.false_or, Bool.and_false, Bool.false_eq_true, if_false]
     exact split_j0_none p t hV k _ _ _ _
    | true =>
     rw [hV] at hvalue
     simp only [Bool.false_or, Bool.and_self, if_true, Bool.false_eq_true, if_false]
     refine Evs.step (h := fun q => (spec_l6In.f k 1 (wrap64 (bx.f3 - 1))).bind fun t217 => (spec_PlanSplit.j1 q p k bx.f0 bx.f1 bx.f2 bx.f3 t217)) (fun q => ?_) ?_
     ·show spec_PlanSplit.j0 (q + 1) p t k bx.f0 bx.f1 bx.f2 bx.f3 false = _
      simp only [spec_PlanSplit.j0, Bool.false_eq_true, if_false, if_pos ((isV_iff t).1 hV)]
     rw [zas (x := bx.f3 - 1) (by omega) (by omega)]
     refine Evs.bindS (l6In_f k 1 (bx.f3 - 1)) ?_
     by_cases hk : 1 ≤ k ∧ k < bx.f3
     ·rw [if_pos hk, show (decide (1 ≤ k) && decide (k ≤ bx.f3 - 1)) = true by rw [Bool.and_eq_true, decide_eq_true_eq, decide_eq_true_eq]; omega]
      have hput := put_f hsm bx.f0 (bx.f1 + k) bx.f2 (bx.f3 - k) 122 b1 (by omega) (by omega) (by omega) b5 (by omega) (by omega) (by omega)
      have hd := hvalue bx.f0.toNat bx.f2.toNat (bx.f1 + k).toNat (bx.f3 - k).toNat (fun r c hr hc => by
       have hc2 := hcell r c hr hc
       rw [hc2, hH]
       simp only [Bool.true_and, Bool.false_and, Bool.false_or, decide_eq_true_eq]
       unfold putB
       omega)
      have hdn := l1Done_ev _ (small_put hsm bx.f0.toNat bx.f2.toNat (bx.f1 + k).toNat (bx.f3 - k).toNat 122)
      rw [hd] at hdn
      refine Evs.step (h := fun q => (spec_l1Put.f p bx.f0 (wrap64 (bx.f1 + k)) bx.f2 (wrap64 (bx.f3 - k)) 122).bind fun t218 => ((spec_l1Done.f q t218).bind fun bt221 => (some (bt221.1, bt221.2)))) (fun q => ?_) ?_
      ·show spec_PlanSplit.j1 (q + 1) p k bx.f0 bx.f1 bx.f2 bx.f3 true = _
       simp only [spec_PlanSplit.j1, if_true]
      ·rw [zas (x := bx.f1 + k) (by omega) (by omega), zas (x := bx.f3 - k) (by omega) (by omega), hput]
       simp only [Option.bind_some]
       exact Evs.bind hdn (Evs.const _)
     ·rw [if_neg hk, show (decide (1 ≤ k) && decide (k ≤ bx.f3 - 1)) = false by rw [← Bool.not_eq_true, Bool.and_eq_true, decide_eq_true_eq, decide_eq_true_eq]; omega]
      exact split_j1_false p k _ _ _ _
theorem xor_nonneg {a b : Int} (ha : 0 ≤ a) (hb : 0 ≤ b) (ha' : a < 1099511627776) (hb' : b < 1099511627776) : 0 ≤ Go.bits .xor .i64 a b := by
 obtain ⟨x, rfl⟩ := Int.eq_ofNat_of_zero_le ha
 obtain ⟨y, rfl⟩ := Int.eq_ofNat_of_zero_le hb
 have hx : x < 2 ^ 40 := by omega
 have hy : y < 2 ^ 40 := by omega
 have h := Nat.xor_lt_two_pow hx hy
 simp only [Go.bits, BitVec.ofInt_natCast, BitVec.toNat_xor, BitVec.toNat_ofNat]
 rw [Nat.mod_eq_of_lt (show x < 2 ^ IntKind.i64.bits by show x < 2 ^ 64; omega), Nat.mod_eq_of_lt (show y < 2 ^ IntKind.i64.bits by show y < 2 ^ 64; omega), IntKind.wrap_i64]
 omega
theorem tmod_in {x n : Int} (hx : 0 ≤ x) (hn : 1 ≤ n) : 0 ≤ Int.tmod x n ∧ Int.tmod x n < n := ⟨Int.tmod_nonneg _ hx, Int.tmod_lt_of_pos _ (by omega)⟩
structure RdB (b : List Int) : Prop where
 len : b.length ≤ 2000
 val : ∀ x ∈ b, 0 ≤ x ∧ x ≤ 255
theorem RdB.byte {b : List Int} (h : RdB b) (i : Int) : 0 ≤ rd b i ∧ rd b i ≤ 255 := by
 unfold rd
 rw [List.getD_eq_getElem?_getD]
 cases e : b[i.toNat]? with
 | none => simp
 | some x => exact h.val x (List.mem_of_getElem? e)
theorem pick_j0_true (b : List Int) (q n : Int) : Evs (fun k => spec_l6Rd_pick.j0 k n true b q) (0, q) := by
 refine Evs.step (h := fun _ => some (0, q)) (fun k => ?_) (Evs.const _)
 show spec_l6Rd_pick.j0 (k + 1) n true b q = _
 simp only [spec_l6Rd_pick.j0, if_true]
theorem pick_ev (b : List Int) (h : RdB b) (q : Nat) (hq : q ≤ 1000000) (n : Int) : ∃ v, Evs (fun k => spec_l6Rd_pick.f k b (q : Int) n) (v, ((q + 1 : Nat) : Int)) ∧ 0 ≤ v ∧ (1 ≤ n → v < n) ∧ (n < 1 → v = 0) := by
 have hw : wrap64 ((q : Int) + 1) = ((q + 1 : Nat) : Int) := by rw [zas (by omega) (by omega)]; omega
 by_cases hn : n < 1
 ·refine ⟨0, ?_, Int.le_refl _, fun h => by omega, fun _ => rfl⟩
  refine Evs.congr (fun k => ?_) (pick_j0_true b ((q + 1 : Nat) : Int) n)
  unfold spec_l6Rd_pick.f
  rw [if_pos hn, hw]
 ·by_cases hl : b.length = 0
  ·refine ⟨0, ?_, Int.le_refl _, fun h => by omega, fun h => absurd h hn⟩
   refine Evs.congr (fun k => ?_) (pick_j0_true b ((q + 1 : Nat) : Int) n)
   unfold spec_l6Rd_pick.f
   rw [if_neg hn, hw, show ((b.length : Int) == 0) = true by rw [beq_iff_eq]; omega]
  ·have hlen := h.len
   have e1 : wrap64 (((q + 1 : Nat) : Int) - 1) = (q : Int) := by rw [zas (by omega) (by omega)]; omega
   have main : ∃ v, (∀ k, spec_l6Rd_pick.j0 (k + 1) n false b ((q + 1 : Nat) : Int) = some (v, ((q + 1 : Nat) : Int))) ∧ 0 ≤ v ∧ v < n := by
    by_cases hql : (q : Int) < (b.length : Int)
    ·have hr := h.byte (q : Int)
     obtain ⟨t0, t1⟩ := tmod_in (x := rd b (q : Int)) (n := n) hr.1 (by omega)
     refine ⟨Int.tmod (rd b (q : Int)) n, fun k => ?_, t0, t1⟩
     simp only [spec_l6Rd_pick.j0, Bool.false_eq_true, if_false]
     rw [e1, if_pos hql, if_pos (by omega), if_neg (by omega), zas (x := rd b (q : Int)) (by omega) (by omega)]
    ·have i1 := tmod_in (x := (q : Int)) (n := (b.length : Int)) (by omega) (by omega)
     have e2 : wrap64 (wrap64 ((q : Int) * 7) + 3) = (q : Int) * 7 + 3 := by rw [zas (x := (q : Int) * 7) (by omega) (by omega), zas (by omega) (by omega)]
     have i2 := tmod_in (x := (q : Int) * 7 + 3) (n := (b.length : Int)) (by omega) (by omega)
     have r1 := h.byte (Int.tmod (q : Int) (b.length : Int))
     have r2 := h.byte (Int.tmod ((q : Int) * 7 + 3) (b.length : Int))
     have d1 : 0 ≤ Int.tdiv (q : Int) (b.length : Int) ∧ Int.tdiv (q : Int) (b.length : Int) ≤ 1000000 := by
      rw [Int.tdiv_eq_ediv_of_nonneg (by omega)]
      refine ⟨Int.ediv_nonneg (by omega) (by omega), Int.le_trans (Int.ediv_le_self _ (by omega)) (by omega)⟩
     have key : ∃ v, (∀ k, spec_l6Rd_pick.j0 (k + 1) n false b ((q + 1 : Nat) : Int) = some (v, ((q + 1 : Nat) : Int))) ∧ 0 ≤ v ∧ v < n := by
      have hform : ∀ k, spec_l6Rd_pick.j0 (k + 1) n false b ((q + 1 : Nat) : Int) = some (Int.tmod (Go.bits .xor .i64 (rd b (Int.tmod (q : Int) (b.length : Int)) * 131 + rd b (Int.tmod ((q : Int) * 7 + 3) (b.length : Int)) * 1117 + (q : Int) * 29 + Int.tdiv (q : Int) (b.length : Int) * 53) (wrap64 (Int.tdiv (rd b (Int.tmod (q : Int) (b.length : Int)) * 131 + rd b (Int.tmod ((q : Int) * 7 + 3) (b.length : Int)) * 1117 + (q : Int) * 29 + Int.tdiv (q : Int) (b.length : Int) * 53) 64))) n, ((q + 1 : Nat) : Int)) := fun k => by
       simp only [spec_l6Rd_pick.j0, Bool.false_eq_true, if_false]
       rw [e1, if_neg hql, if_neg (by omega), if_pos i1.1, if_pos i1.2, e2, if_pos i2.1, if_pos i2.2, if_neg (by omega)]
       generalize rd b (Int.tmod (q : Int) (b.length : Int)) = a at *
       generalize rd b (Int.tmod ((q : Int) * 7 + 3) (b.length : Int)) = c at *
       generalize Int.tdiv (q : Int) (b.length : Int) = d at *
       rw [zas (x := a) (by omega) (by omega), zas (x := a * 131) (by omega) (by omega), zas (x := c) (by omega) (by omega), zas (x := c * 1117) (by omega) (by omega), zas (x := a * 131 + c * 1117) (by omega) (by omega), zas (x := (q : Int) * 29) (by omega) (by omega), zas (x := a * 131 + c * 1117 + (q : Int) * 29) (by omega) (by omega), zas (x := d) (by omega) (by omega), zas (x := d * 53) (by omega) (by omega), zas (x := a * 131 + c * 1117 + (q : Int) * 29 + d * 53) (by omega) (by omega)]
      have hX : 0 ≤ rd b (Int.tmod (q : Int) (b.length : Int)) * 131 + rd b (Int.tmod ((q : Int) * 7 + 3) (b.length : Int)) * 1117 + (q : Int) * 29 + Int.tdiv (q : Int) (b.length : Int) * 53 ∧ rd b (Int.tmod (q : Int) (b.length : Int)) * 131 + rd b (Int.tmod ((q : Int) * 7 + 3) (b.length : Int)) * 1117 + (q : Int) * 29 + Int.tdiv (q : Int) (b.length : Int) * 53 < 1099511627776 := by omega
      generalize rd b (Int.tmod (q : Int) (b.length : Int)) * 131 + rd b (Int.tmod ((q : Int) * 7 + 3) (b.length : Int)) * 1117 + (q : Int) * 29 + Int.tdiv (q : Int) (b.length : Int) * 53 = X at *
      have hd : 0 ≤ Int.tdiv X 64 ∧ Int.tdiv X 64 ≤ X := by
       rw [Int.tdiv_eq_ediv_of_nonneg hX.1]
       exact ⟨Int.ediv_nonneg hX.1 (by omega), Int.ediv_le_self _ hX.1⟩
      rw [zas (x := Int.tdiv X 64) (by omega) (by omega)] at hform
      obtain ⟨t0, t1⟩ := tmod_in (n := n) (xor_nonneg hX.1 hd.1 hX.2 (by omega)) (by omega)
      exact ⟨_, hform, t0, t1⟩
     exact key
   obtain ⟨v, hv, v0, v1⟩ := main
   refine ⟨v, ?_, v0, fun _ => v1, fun h => absurd h hn⟩
   refine Evs.congr (h := fun k => spec_l6Rd_pick.j0 k n false b ((q + 1 : Nat) : Int)) (fun k => ?_) (Evs.step (h := fun _ => some (v, ((q + 1 : Nat) : Int))) hv (Evs.const _))
   unfold spec_l6Rd_pick.f
   rw [if_neg hn, hw, show ((b.length : Int) == 0) = false by rw [beq_eq_false_iff_ne]; omega]
theorem of_ev (b : List Int) (h : RdB b) (q : Nat) (hq : q ≤ 1000000) (L : List ByteArray) (hL : 1 ≤ L.length) : ∃ s, Evs (fun k => spec_l6Rd_of.f k b (q : Int) L) (s, ((q + 1 : Nat) : Int)) ∧ s ∈ L := by
 obtain ⟨v, hv, v0, v1, -⟩ := pick_ev b h q hq (L.length : Int)
 have hv1 := v1 (by omega)
 obtain ⟨i, rfl⟩ := Int.eq_ofNat_of_zero_le v0
 refine ⟨rdOf ByteArray.empty L (i : Int), Evs.bind hv (Evs.pos (by omega) (Evs.pos hv1 (Evs.const _))), ?_⟩
 rw [zcq L i (by omega)]
 exact List.getElem_mem _
theorem open_ev (l : List Int) (hv : ∀ x ∈ l, 0 ≤ x ∧ x ≤ 255) : ∃ b, spec_l6Open.f l = some (b, 0) ∧ RdB b := by
 unfold spec_l6Open.f
 by_cases h : (l.length : Int) > 2000
 ·rw [if_pos h, if_pos (by omega)]
  exact ⟨_, rfl, by simp; omega, fun x hx => hv x (List.mem_of_mem_take hx)⟩
 ·rw [if_neg h]
  exact ⟨_, rfl, by omega, hv⟩
theorem empty_l1 (n m : Nat) (hm : m ≤ 100) (i : Nat) (hi : i ≤ 100) (x5 : List ByteArray) (h5 : x5.length ≤ 100) (r : List ByteArray) (hnext : Evs (fun k => spec_l91Empty.l0 k (n : Int) (m : Int) (x5 ++ [strOfNums (List.replicate m 97)]) ((i + 1 : Nat) : Int)) r) :
  ∀ d j, j + d = m → Evs (fun k => spec_l91Empty.l1 k (n : Int) (m : Int) x5 (i : Int) (List.replicate j 97) (j : Int)) r := by
 intro d
 induction d with
 | zero =>
  intro j hj
  obtain rfl : j = m := by omega
  refine Evs.step (fun k => ?_) hnext
  conv => lhs; unfold spec_l91Empty.l1
  rw [if_neg (by omega), if_pos (by omega), zbl (by omega)]
 | succ d ih =>
  intro j hj
  have hnx := ih (j + 1) (by omega)
  rw [List.replicate_succ'] at hnx
  refine Evs.step (fun k => ?_) hnx
  conv => lhs; unfold spec_l91Empty.l1
  rw [if_pos (by omega), if_pos (by simp; omega), zbl (by omega)]
theorem empty_l0 (n m : Nat) (hn : n ≤ 100) (hm : m ≤ 100) : ∀ d i, i + d = n → Evs (fun k => spec_l91Empty.l0 k (n : Int) (m : Int) (List.replicate i (strOfNums (List.replicate m 97))) (i : Int)) (List.replicate n (strOfNums (List.replicate m 97))) := by
 intro d
 induction d with
 | zero =>
  intro i hi
  obtain rfl : i = n := by omega
  refine Evs.step (h := fun _ => some (List.replicate i (strOfNums (List.replicate m 97)))) (fun k => ?_) (Evs.const _)
  conv => lhs; unfold spec_l91Empty.l0
  rw [if_neg (by omega)]
 | succ d ih =>
  intro i hi
  have hnx := ih (i + 1) (by omega)
  rw [List.replicate_succ'] at hnx
  have := empty_l1 n m hm i (by omega) (List.replicate i (strOfNums (List.replicate m 97))) (by simp; omega) _ hnx m 0 (by omega)
  refine Evs.step (fun k => ?_) this
  conv => lhs; unfold spec_l91Empty.l0
  rw [if_pos (by omega)]
  rfl
theorem Empty_ev (n m : Nat) (hn : n ≤ 100) (hm : m ≤ 100) : ∃ p, Evs (fun k => spec_l91Empty.f k (n : Int) (m : Int)) p ∧ Mid p m ∧ p.length = n := by
 refine ⟨_, empty_l0 n m hn hm n 0 (by omega), ⟨by simp; omega, hm, fun s hs => ?_⟩, by simp⟩
 rw [List.eq_of_mem_replicate hs]
 show (List.map _ (List.replicate m (97 : Int))).toArray.size = m
 simp
theorem rowText_size (row : List Int) : (rowText row).size = row.length := by
 show (List.map letterOf row).toArray.size = _
 simp
theorem planF_mid {h w : Nat} {g : Nat → Nat → Int} {p : List ByteArray} (h1 : 1 ≤ h) (e : planF (zbe h w g) = (p, true)) : Mid p w ∧ p.length = h := by
 rcases planF_cases (zbe h w g) with ⟨hO, hp⟩ | ⟨_, hp⟩
 ·rw [hp] at e
  injection e with e1 _
  subst e1
  obtain ⟨s1, s2, s3, s4, s5⟩ := (zcb _).1 hO.shape
  rw [zbf] at s1 s2
  have hw : zaq (zbe h w g) = w := by
   have := gridOf_get (hi := h) (wi := w) (g := g) (r := 0) (by omega)
   unfold zaq
   rw [List.getD_eq_getElem?_getD, this]
   simp
  rw [hw] at s3 s4
  have hl : (zbr (canon (zbe h w g))).length = h := by rw [text_length, zbf]
  refine ⟨⟨by omega, by omega, fun s hs => ?_⟩, hl⟩
  obtain ⟨r, hr, rfl⟩ := List.mem_map.1 hs
  rw [rowText_size]
  unfold canon canonL at hr
  obtain ⟨r0, hr0, rfl⟩ := List.mem_map.1 hr
  rw [List.length_map]
  exact gridOf_row r0 hr0
 ·rw [hp] at e
  injection e with _ e2
  cases e2
theorem split_mid {p : List ByteArray} {m : Nat} (h : Mid p m) (h1 : 1 ≤ p.length) {a k : Int} {t : ByteArray} {r : List ByteArray} (e : splitF p a t k = (r, true)) : Mid r m ∧ r.length = p.length := by
 unfold splitF at e
 cases hF : zcc p with
 | none => rw [hF] at e; injection e with _ e; cases e
 | some z =>
  obtain ⟨cs, rs⟩ := z
  rw [hF] at e
  have F := floor_facts hF
  dsimp only at e
  split at e
  ·by_cases hc : 1 ≤ k ∧ k < (if isH t = true then (rs.getD a.toNat zcg).f2 else (rs.getD a.toNat zcg).f3)
   ·rw [if_pos hc] at e
    have hw : zaq cs = m := by
     rw [← F.wide, wideOf_numsOf]
     refine h.row _ ?_
     rw [List.getD_eq_getElem?_getD, List.getElem?_eq_getElem (by omega)]
     exact List.getElem_mem _
    obtain ⟨q1, q2⟩ := planF_mid F.ok.h1 e
    rw [hw] at q1
    exact ⟨q1, by rw [q2, F.len]⟩
   ·rw [if_neg hc] at e
    injection e with _ e
    cases e
  ·injection e with _ e
   cases e
theorem cut_l0 (b : List Int) (hb : RdB b) (many m n : Nat) (hmany : many ≤ 1000) (hn : 1 ≤ n) : ∀ d t (p : List ByteArray) (q : Nat), t + d = many → Mid p m → p.length = n → q + 3 * d ≤ 100000 → ∃ p' q', Evs (fun k => spec_l91Cut.l0 k p (many : Int) (t : Int) b (q : Int)) (p', ((q' : Nat) : Int)) ∧ Mid p' m ∧ p'.length = n ∧ q' ≤ q + 3 * d := by
 intro d
 induction d with
 | zero =>
  intro t p q ht hp hl hq
  refine ⟨p, q, Evs.step (h := fun _ => some (p, (q : Int))) (fun k => ?_) (Evs.const _), hp, hl, by omega⟩
  conv => lhs; unfold spec_l91Cut.l0
  rw [if_neg (by omega)]
 | succ d ih =>
  intro t p q ht hp hl hq
  obtain ⟨rm, _, _, hrm⟩ := l1Rooms_any p hp.lil
  obtain ⟨v1, hv1, -, -, -⟩ := pick_ev b hb q (by omega) rm
  obtain ⟨s, hs, -⟩ := of_ev b hb (q + 1) (by omega) [(⟨#[104]⟩ : ByteArray), (⟨#[118]⟩ : ByteArray)] (by simp)
  obtain ⟨v2, hv2, -, -, -⟩ := pick_ev b hb (q + 1 + 1) (by omega) 3
  have hsp := PlanSplit_ev p v1 s (wrap64 (1 + v2)) hp.lil.small
  rcases hr : splitF p v1 s (wrap64 (1 + v2)) with ⟨r, ok⟩
  rw [hr] at hsp
  cases ok with
  | true =>
   obtain ⟨m1, m2⟩ := split_mid hp (by omega) hr
   obtain ⟨p', q', hE, h1, h2, h3⟩ := ih (t + 1) r (q + 1 + 1 + 1) (by omega) m1 (by omega) (by omega)
   refine ⟨p', q', Evs.step (h := fun k => ((spec_l1Rooms.f k p).bind fun t221 => ((spec_l6Rd_pick.f k b (q : Int) t221).bind fun bt222 => ((spec_l6Rd_of.f k b bt222.2 (([(⟨#[104]⟩ : ByteArray), (⟨#[118]⟩ : ByteArray)] : List ByteArray))).bind fun bt227 => ((spec_l6Rd_pick.f k b bt227.2 3).bind fun bt229 => ((spec_PlanSplit.f k p bt222.1 bt227.1 (wrap64 (1 + bt229.1))).bind fun bt231 => (if bt231.2 = true then (spec_l91Cut.l0 k bt231.1 (many : Int) (wrap64 ((t : Int) + 1)) b bt229.2) else (spec_l91Cut.l0 k p (many : Int) (wrap64 ((t : Int) + 1)) b bt229.2)))))))) (fun k => ?_) (Evs.bind hrm (Evs.bind hv1 (Evs.bind hs (Evs.bind hv2 (Evs.bind hsp (Evs.pos rfl ?_)))))), h1, h2, by omega⟩
   ·conv => lhs; unfold spec_l91Cut.l0
    rw [if_pos (by omega)]
   ·rw [zbl (by omega)]
    exact hE
  | false =>
   obtain ⟨p', q', hE, h1, h2, h3⟩ := ih (t + 1) p (q + 1 + 1 + 1) (by omega) hp hl (by omega)
   refine ⟨p', q', Evs.step (h := fun k => ((spec_l1Rooms.f k p).bind fun t221 => ((spec_l6Rd_pick.f k b (q : Int) t221).bind fun bt222 => ((spec_l6Rd_of.f k b bt222.2 (([(⟨#[104]⟩ : ByteArray), (⟨#[118]⟩ : ByteArray)] : List ByteArray))).bind fun bt227 => ((spec_l6Rd_pick.f k b bt227.2 3).bind fun bt229 => ((spec_PlanSplit.f k p bt222.1 bt227.1 (wrap64 (1 + bt229.1))).bind fun bt231 => (if bt231.2 = true then (spec_l91Cut.l0 k bt231.1 (many : Int) (wrap64 ((t : Int) + 1)) b bt229.2) else (spec_l91Cut.l0 k p (many : Int) (wrap64 ((t : Int) + 1)) b bt229.2)))))))) (fun k => ?_) (Evs.bind hrm (Evs.bind hv1 (Evs.bind hs (Evs.bind hv2 (Evs.bind hsp (Evs.neg (by simp) ?_)))))), h1, h2, by omega⟩
   ·conv => lhs; unfold spec_l91Cut.l0
    rw [if_pos (by omega)]
   ·rw [zbl (by omega)]
    exact hE
theorem Cut_ev (b : List Int) (hb : RdB b) (q : Nat) (hq : q ≤ 10000) (p : List ByteArray) (m : Nat) (hp : Mid p m) (h1 : 1 ≤ p.length) (many : Int) (h0 : 0 ≤ many) (hm : many ≤ 100) : ∃ p' q', Evs (fun k => spec_l91Cut.f k b (q : Int) p many) (p', ((q' : Nat) : Int)) ∧ Mid p' m ∧ p'.length = p.length ∧ q' ≤ q + 300 := by
 obtain ⟨n, rfl⟩ := Int.eq_ofNat_of_zero_le h0
 obtain ⟨p', q', hE, h1, h2, h3⟩ := cut_l0 b hb n m p.length (by omega) h1 n 0 p q (by omega) hp rfl (by omega)
 exact ⟨p', q', hE, h1, h2, by omega⟩
theorem plan_j1 (b : List Int) (hb : RdB b) (q : Nat) (hq : q ≤ 1000) (n m : Nat) (n1 : 1 ≤ n) (n7 : n ≤ 10) (m7 : m ≤ 10) (c : Bool) (hc : c = true → n = 4 ∧ m = 4) : ∃ p q', Evs (fun k => spec_l91Plan.j1 k (n : Int) (m : Int) c b (q : Int)) (p, ((q' : Nat) : Int)) ∧ Mid p m ∧ p.length = n ∧ q' ≤ q + 400 := by
 cases c with
 | true =>
  obtain ⟨rfl, rfl⟩ := hc rfl
  obtain ⟨v, hv, v0, v1, -⟩ := pick_ev b hb q (by omega) 4
  obtain ⟨p, q', hE, h1, h2, h3⟩ := Cut_ev b hb (q + 1) (by omega) [(⟨#[97, 97, 97, 98]⟩ : ByteArray), (⟨#[99, 100, 100, 98]⟩ : ByteArray), (⟨#[99, 100, 100, 98]⟩ : ByteArray), (⟨#[99, 101, 101, 101]⟩ : ByteArray)] 4 ⟨by simp, by omega, fun s hs => by simp at hs; rcases hs with rfl | rfl | rfl <;> rfl⟩ (by simp) v v0 (by have := v1 (by omega); omega)
  refine ⟨p, q', Evs.step (h := fun k => (spec_l6Rd_pick.f k b (q : Int) 4).bind fun bt263 => ((spec_l91Cut.f k b bt263.2 (([(⟨#[97, 97, 97, 98]⟩ : ByteArray), (⟨#[99, 100, 100, 98]⟩ : ByteArray), (⟨#[99, 100, 100, 98]⟩ : ByteArray), (⟨#[99, 101, 101, 101]⟩ : ByteArray)] : List ByteArray)) bt263.1).bind fun bt265 => (some (bt265.1, bt265.2)))) (fun k => ?_) (Evs.bind hv (Evs.bind hE (Evs.const _))), h1, h2, by omega⟩
  show spec_l91Plan.j1 (k + 1) _ _ true b (q : Int) = _
  simp only [spec_l91Plan.j1, if_true]
 | false =>
  obtain ⟨e, hE0, e1, e2⟩ := Empty_ev n m (by omega) (by omega)
  obtain ⟨v, hv, v0, v1, -⟩ := pick_ev b hb q (by omega) 9
  obtain ⟨p, q', hE, h1, h2, h3⟩ := Cut_ev b hb (q + 1) (by omega) e m e1 (by omega) v v0 (by have := v1 (by omega); omega)
  refine ⟨p, q', Evs.step (h := fun k => (spec_l91Empty.f k (n : Int) (m : Int)).bind fun t269 => ((spec_l6Rd_pick.f k b (q : Int) 9).bind fun bt272 => ((spec_l91Cut.f k b bt272.2 t269 bt272.1).bind fun bt274 => (some (bt274.1, bt274.2))))) (fun k => ?_) (Evs.bind hE0 (Evs.bind hv (Evs.bind hE (Evs.const _)))), h1, by omega, by omega⟩
  show spec_l91Plan.j1 (k + 1) _ _ false b (q : Int) = _
  simp only [spec_l91Plan.j1, Bool.false_eq_true, if_false]
theorem plan_j0 (b : List Int) (hb : RdB b) (q : Nat) (hq : q ≤ 900) (n m : Nat) (n1 : 1 ≤ n) (n7 : n ≤ 10) (m7 : m ≤ 10) (c : Bool) (hc : c = true → n = 3 ∧ m = 3) : ∃ p q', Evs (fun k => spec_l91Plan.j0 k (n : Int) (m : Int) c b (q : Int)) (p, ((q' : Nat) : Int)) ∧ Mid p m ∧ p.length = n ∧ q' ≤ q + 500 := by
 cases c with
 | true =>
  obtain ⟨rfl, rfl⟩ := hc rfl
  obtain ⟨v, hv, v0, v1, -⟩ := pick_ev b hb q (by omega) 2
  obtain ⟨p, q', hE, h1, h2, h3⟩ := Cut_ev b hb (q + 1) (by omega) [(⟨#[97, 97, 98]⟩ : ByteArray), (⟨#[99, 100, 98]⟩ : ByteArray), (⟨#[99, 101, 101]⟩ : ByteArray)] 3 ⟨by simp, by omega, fun s hs => by simp at hs; rcases hs with rfl | rfl | rfl <;> rfl⟩ (by simp) v v0 (by have := v1 (by omega); omega)
  refine ⟨p, q', Evs.step (h := fun k => (spec_l6Rd_pick.f k b (q : Int) 2).bind fun bt252 => ((spec_l91Cut.f k b bt252.2 (([(⟨#[97, 97, 98]⟩ : ByteArray), (⟨#[99, 100, 98]⟩ : ByteArray), (⟨#[99, 101, 101]⟩ : ByteArray)] : List ByteArray)) bt252.1).bind fun bt254 => (some (bt254.1, bt254.2)))) (fun k => ?_) (Evs.bind hv (Evs.bind hE (Evs.const _))), h1, h2, by omega⟩
  show spec_l91Plan.j0 (k + 1) _ _ true b (q : Int) = _
  simp only [spec_l91Plan.j0, if_true]
 | false =>
  by_cases h4 : (n : Int) = 4 ∧ (m : Int) = 4
  ·obtain ⟨v, hv, v0, v1, -⟩ := pick_ev b hb q (by omega) 2
   obtain ⟨p, q', hE, h1, h2, h3⟩ := plan_j1 b hb (q + 1) (by omega) n m n1 n7 m7 (v == 0) (fun _ => by omega)
   refine ⟨p, q', Evs.step (h := fun k => (spec_l6Rd_pick.f k b (q : Int) 2).bind fun bt258 => (spec_l91Plan.j1 k (n : Int) (m : Int) (bt258.1 == 0) b bt258.2)) (fun k => ?_) (Evs.bind hv hE), h1, h2, by omega⟩
   show spec_l91Plan.j0 (k + 1) _ _ false b (q : Int) = _
   simp only [spec_l91Plan.j0, Bool.false_eq_true, if_false]
   rw [if_pos h4.1, if_pos h4.2]
  ·obtain ⟨p, q', hE, h1, h2, h3⟩ := plan_j1 b hb q (by omega) n m n1 n7 m7 false (fun h => by cases h)
   refine ⟨p, q', Evs.step (fun k => ?_) hE, h1, h2, by omega⟩
   show spec_l91Plan.j0 (k + 1) _ _ false b (q : Int) = _
   simp only [spec_l91Plan.j0, Bool.false_eq_true, if_false]
   by_cases hn : (n : Int) = 4
   ·rw [if_pos hn, if_neg (fun h => h4 ⟨hn, h⟩)]
   ·rw [if_neg hn]
theorem Plan_ev (b : List Int) (hb : RdB b) (q : Nat) (hq : q ≤ 800) (n m : Nat) (n1 : 1 ≤ n) (n7 : n ≤ 10) (m7 : m ≤ 10) : ∃ p q', Evs (fun k => spec_l91Plan.f k b (q : Int) (n : Int) (m : Int)) (p, ((q' : Nat) : Int)) ∧ Mid p m ∧ p.length = n ∧ q' ≤ q + 600 := by
 by_cases h3 : (n : Int) = 3 ∧ (m : Int) = 3
 ·obtain ⟨v, hv, v0, v1, -⟩ := pick_ev b hb q (by omega) 2
  obtain ⟨p, q', hE, h1, h2, h3'⟩ := plan_j0 b hb (q + 1) (by omega) n m n1 n7 m7 (v == 0) (fun _ => by omega)
  refine ⟨p, q', Evs.congr (h := fun k => (spec_l6Rd_pick.f k b (q : Int) 2).bind fun bt247 => (spec_l91Plan.j0 k (n : Int) (m : Int) (bt247.1 == 0) b bt247.2)) (fun k => ?_) (Evs.bind hv hE), h1, h2, by omega⟩
  unfold spec_l91Plan.f
  rw [if_pos h3.1, if_pos h3.2]
 ·obtain ⟨p, q', hE, h1, h2, h3'⟩ := plan_j0 b hb q (by omega) n m n1 n7 m7 false (fun h => by cases h)
  refine ⟨p, q', Evs.congr (fun k => ?_) hE, h1, h2, by omega⟩
  unfold spec_l91Plan.f
  by_cases hn : (n : Int) = 3
  ·rw [if_pos hn, if_neg (fun h => h3 ⟨hn, h⟩)]
  ·rw [if_neg hn]
structure Rag (p : List ByteArray) : Prop where
 lil : Lil p
 one : 1 ≤ p.length
 row : ∀ s ∈ p, (rdOf ByteArray.empty p 0).size ≤ s.size
theorem Some_rag (b : List Int) (hb : RdB b) (q : Nat) (hq : q ≤ 700) (rows cols : Int) (r1 : 1 ≤ rows) (r7 : rows ≤ 9) (c1 : 1 ≤ cols) (c7 : cols ≤ 9) : ∃ p q', Evs (fun k => spec_l91Some.f k b (q : Int) rows cols) (p, ((q' : Nat) : Int)) ∧ Rag p ∧ q' ≤ 2000 := by
 obtain ⟨v1, hv1, a0, a1, -⟩ := pick_ev b hb q (by omega) rows
 obtain ⟨v2, hv2, b0, b1, -⟩ := pick_ev b hb (q + 1) (by omega) cols
 have a1 := a1 r1
 have b1 := b1 c1
 obtain ⟨i, rfl⟩ := Int.eq_ofNat_of_zero_le a0
 obtain ⟨j, rfl⟩ := Int.eq_ofNat_of_zero_le b0
 have e1 : wrap64 (1 + (i : Int)) = ((i + 1 : Nat) : Int) := by rw [zas (by omega) (by omega)]; omega
 have e2 : wrap64 (1 + (j : Int)) = ((j + 1 : Nat) : Int) := by rw [zas (by omega) (by omega)]; omega
 obtain ⟨p, q', hE, h1, h2, h3⟩ := Plan_ev b hb (q + 1 + 1) (by omega) (i + 1) (j + 1) (by omega) (by omega) (by omega)
 obtain ⟨v3, hv3, c0, -, -⟩ := pick_ev b hb q' (by omega) 50
 have hlast : wrap64 (((i + 1 : Nat) : Int) - 1) = (i : Int) := by rw [zas (by omega) (by omega)]; omega
 have hsz : ∀ k (hk : k < p.length), (p[k]'hk).size = j + 1 := fun k hk => h1.row _ (List.getElem_mem hk)
 by_cases z0 : v3 = 0
 ·refine ⟨p.set i (rdOf ByteArray.empty p (i : Int) ++ (⟨#[97]⟩ : ByteArray)), q' + 1, Evs.bind hv1 (Evs.bind hv2 ?_), ⟨⟨by rw [List.length_set]; omega, fun s hs => ?_⟩, by rw [List.length_set]; omega, fun s hs => ?_⟩, by omega⟩
  ·dsimp only
   rw [e1, e2]
   refine Evs.bind hE (Evs.bind hv3 (Evs.pos z0 ?_))
   simp only [Option.bind_some, List.nil_append, List.length_nil]
   refine Evs.pos (by omega) ?_
   rw [hlast]
   refine Evs.pos (by omega) (Evs.pos (by omega) (Evs.pos ?_ ?_))
   ·rw [zcq p i (by omega), hsz i (by omega)]; omega
   ·rw [Int.toNat_natCast]; exact Evs.const _
  ·rcases List.mem_or_eq_of_mem_set hs with h | h
   ·rw [h1.row s h]; omega
   ·subst h
    rw [zcq p i (by omega), ByteArray.size_append, hsz i (by omega)]
    show j + 1 + 1 ≤ 100
    omega
  ·have hx : (rdOf ByteArray.empty p (i : Int) ++ (⟨#[97]⟩ : ByteArray)).size = j + 1 + 1 := by
    rw [zcq p i (by omega), ByteArray.size_append, hsz i (by omega)]
    rfl
   have h0 := zcq (p.set i (rdOf ByteArray.empty p (i : Int) ++ (⟨#[97]⟩ : ByteArray))) 0 (by rw [List.length_set]; omega)
   rw [show ((0 : Nat) : Int) = 0 from rfl] at h0
   rw [h0, List.getElem_set]
   rcases List.mem_or_eq_of_mem_set hs with h | h
   ·split
    ·rename_i hi0
     -- one row alone: nothing but the new one stands there
     have : p.length = 1 := by omega
     obtain ⟨y, rfl⟩ : ∃ y, p = [y] := by
      cases p with
      | nil => simp at this
      | cons y l => cases l with
       | nil => exact ⟨y, rfl⟩
       | cons z l => simp at this
     subst hi0
     have hs2 := List.mem_singleton.1 (show s ∈ [rdOf ByteArray.empty [y] ((0 : Nat) : Int) ++ (⟨#[97]⟩ : ByteArray)] from hs)
     rw [hs2]
     exact Nat.le_refl _
    ·rw [hsz 0 (by omega), h1.row s h]
     exact Nat.le_refl _
   ·rw [h, hx]
    split
    ·rw [hx]; exact Nat.le_refl _
    ·rw [hsz 0 (by omega)]; omega
 ·by_cases z1 : v3 = 1
  ·refine ⟨p.set 0 ((⟨#[122]⟩ : ByteArray) ++ ((rdOf ByteArray.empty p 0).extract 1 (rdOf ByteArray.empty p 0).size)), q' + 1, Evs.bind hv1 (Evs.bind hv2 ?_), ⟨⟨by rw [List.length_set]; omega, fun s hs => ?_⟩, by rw [List.length_set]; omega, fun s hs => ?_⟩, by omega⟩
   ·dsimp only
    rw [e1, e2]
    refine Evs.bind hE (Evs.bind hv3 (Evs.neg z0 (Evs.pos z1 ?_)))
    simp only [Option.bind_some, List.nil_append, List.length_nil]
    have hr0 : rdOf ByteArray.empty p 0 = p[0]'(by omega) := zcq p 0 (by omega)
    refine Evs.pos (by omega) (Evs.pos (by omega) (Evs.pos ?_ (Evs.pos ?_ ?_)))
    ·rw [hr0, hsz 0 (by omega)]; omega
    ·rw [hr0, ByteArray.size_extract, hsz 0 (by omega)]; omega
    ·exact Evs.const _
   ·rcases List.mem_or_eq_of_mem_set hs with h | h
    ·rw [h1.row s h]; omega
    ·subst h
     have hr0 : rdOf ByteArray.empty p 0 = p[0]'(by omega) := zcq p 0 (by omega)
     rw [ByteArray.size_append, ByteArray.size_extract, hr0, hsz 0 (by omega)]
     show 1 + _ ≤ 100
     omega
   ·have hr0 : rdOf ByteArray.empty p 0 = p[0]'(by omega) := zcq p 0 (by omega)
    have hx : ((⟨#[122]⟩ : ByteArray) ++ ((rdOf ByteArray.empty p 0).extract 1 (rdOf ByteArray.empty p 0).size)).size = j + 1 := by
     rw [ByteArray.size_append, ByteArray.size_extract, hr0, hsz 0 (by omega)]
     show 1 + _ = _
     omega
    have h0 := zcq (p.set 0 ((⟨#[122]⟩ : ByteArray) ++ ((rdOf ByteArray.empty p 0).extract 1 (rdOf ByteArray.empty p 0).size))) 0 (by rw [List.length_set]; omega)
    rw [show ((0 : Nat) : Int) = 0 from rfl] at h0
    rw [h0, List.getElem_set, if_pos rfl, hx]
    rcases List.mem_or_eq_of_mem_set hs with h | h
    ·rw [h1.row s h]; exact Nat.le_refl _
    ·rw [h, hx]; exact Nat.le_refl _
  ·refine ⟨p, q' + 1, Evs.bind hv1 (Evs.bind hv2 ?_), ⟨h1.lil, by omega, fun s hs => ?_⟩, by omega⟩
   rotate_left
   ·have hr0 : rdOf ByteArray.empty p 0 = p[0]'(by omega) := zcq p 0 (by omega)
    rw [hr0, hsz 0 (by omega), h1.row s hs]
    exact Nat.le_refl _
   dsimp only
   rw [e1, e2]
   exact Evs.bind hE (Evs.bind hv3 (Evs.neg z0 (Evs.neg z1 (Evs.const _))))
theorem strOf_size (xs : List Int) : (strOfNums xs).size = xs.length := by simp [strOfNums, ByteArray.size]
theorem rag_l1 (p : List ByteArray) (h : Rag p) (x3 : List ByteArray) (h3 : x3.length ≤ 1000) (c : Nat) (hc : c < (rdOf ByteArray.empty p 0).size) (Pr : List ByteArray → Prop) (hnext : ∀ s : ByteArray, s.size = p.length → ∃ r, Pr r ∧ Evs (fun k => spec_l1Trans.l0 k p (x3 ++ [s]) ((c + 1 : Nat) : Int)) r) :
  ∀ m i x5, i + m = p.length → x5.length = i → ∃ r, Pr r ∧ Evs (fun k => spec_l1Trans.l1 k p x3 (c : Int) x5 (i : Int)) r := by
 have hh := h.lil.high
 intro m
 induction m with
 | zero =>
  intro i x5 hi h5
  obtain ⟨r, hr, hE⟩ := hnext (strOfNums x5) (by rw [strOf_size]; omega)
  refine ⟨r, hr, Evs.step (h := fun k => spec_l1Trans.l0 k p (x3 ++ [strOfNums x5]) ((c + 1 : Nat) : Int)) (fun k => ?_) hE⟩
  have hc100 : c < 1000 := by
   have := h.lil.row _ (List.getElem_mem (show 0 < p.length by have := h.one; omega))
   have e := zcq p 0 (show 0 < p.length by have := h.one; omega)
   rw [show ((0 : Nat) : Int) = 0 from rfl] at e
   rw [e] at hc
   omega
  conv => lhs; unfold spec_l1Trans.l1
  rw [if_neg (by omega), if_pos (by omega), zbl (by omega)]
 | succ m ih =>
  intro i x5 hi h5
  obtain ⟨s, hs⟩ : ∃ s, p[i]? = some s := ⟨_, List.getElem?_eq_getElem (by omega)⟩
  have hsz := h.row s (List.mem_of_getElem? hs)
  obtain ⟨r, hr, hE⟩ := ih (i + 1) (x5 ++ [bt s (c : Int)]) (by omega) (by rw [List.length_append]; simp; omega)
  refine ⟨r, hr, Evs.step (h := fun k => spec_l1Trans.l1 k p x3 (c : Int) (x5 ++ [bt s (c : Int)]) ((i + 1 : Nat) : Int)) (fun k => ?_) hE⟩
  conv => lhs; unfold spec_l1Trans.l1
  rw [if_pos (by omega), if_pos (by omega), if_pos (by omega), zbt hs, if_pos (by omega), if_pos (by omega), zbl (by omega)]
theorem rag_l0 (p : List ByteArray) (h : Rag p) : ∀ m c x3, c + m = (rdOf ByteArray.empty p 0).size → x3.length = c → (∀ s ∈ x3, s.size ≤ 100) → ∃ t, Lil t ∧ Evs (fun k => spec_l1Trans.l0 k p x3 (c : Int)) t := by
 have hh := h.lil.high
 have h1 := h.one
 have hw : (rdOf ByteArray.empty p 0).size ≤ 100 := by
  have := h.lil.row _ (List.getElem_mem (show 0 < p.length by omega))
  have e := zcq p 0 (show 0 < p.length by omega)
  rw [show ((0 : Nat) : Int) = 0 from rfl] at e
  rw [e]
  exact this
 intro m
 induction m with
 | zero =>
  intro c x3 hc h3 hx
  refine ⟨x3, ⟨by omega, hx⟩, Evs.step (h := fun _ => some x3) (fun k => ?_) (Evs.const _)⟩
  conv => lhs; unfold spec_l1Trans.l0
  rw [if_pos (by omega), if_neg (by omega)]
 | succ m ih =>
  intro c x3 hc h3 hx
  obtain ⟨t, ht, hE⟩ := rag_l1 p h x3 (by omega) c (by omega) Lil (fun s hs => ih (c + 1) (x3 ++ [s]) (by omega) (by rw [List.length_append]; simp; omega) (fun y hy => by
   rcases List.mem_append.1 hy with z | z
   ·exact hx y z
   ·rw [List.mem_singleton.1 z]; omega)) p.length 0 [] (by omega) rfl
  refine ⟨t, ht, Evs.step (h := fun k => spec_l1Trans.l1 k p x3 (c : Int) [] ((0 : Nat) : Int)) (fun k => ?_) hE⟩
  conv => lhs; unfold spec_l1Trans.l0
  rw [if_pos (by omega), if_pos (by omega)]
  rfl
theorem trans_any (p : List ByteArray) (h : Rag p) : ∃ t, Lil t ∧ Evs (fun k => spec_l1Trans.f k p) t := rag_l0 p h _ 0 [] (Nat.zero_add _) rfl (fun s hs => by cases hs)
theorem lenA_l1 (q : List ByteArray) (h : Lil q) (a b : Int) (i : Nat) (s : ByteArray) (hs : q[i]? = some s) (hnext : ∀ x7, ∃ r, Evs (fun k => spec_l4Length.l0 k q a b x7 ((i + 1 : Nat) : Int)) r) :
  ∀ m j x7, 1 ≤ j → s.size ≤ j + m → j ≤ 200 → ∃ r, Evs (fun k => spec_l4Length.l1 k q a b x7 (i : Int) (j : Int)) r := by
 have hh := h.high
 have hi : i < q.length := (List.getElem?_eq_some_iff.1 hs).1
 have hsz := h.row s (List.mem_of_getElem? hs)
 have stop : ∀ j x7, s.size ≤ j → ∃ r, Evs (fun k => spec_l4Length.l1 k q a b x7 (i : Int) (j : Int)) r := by
  intro j x7 hj
  obtain ⟨r, hE⟩ := hnext x7
  refine ⟨r, Evs.step (fun k => ?_) hE⟩
  conv => lhs; unfold spec_l4Length.l1
  rw [if_pos (by omega), if_pos (by omega), zbt hs, if_neg (by omega), zbl (by omega)]
 intro m
 induction m with
 | zero => intro j x7 h1 hj _; exact stop j x7 (by omega)
 | succ m ih =>
  intro j x7 h1 hj hj2
  by_cases hlt : s.size ≤ j
  ·exact stop j x7 hlt
  ·have hw : wrap64 ((j : Int) - 1) = ((j - 1 : Nat) : Int) := by rw [zas (by omega) (by omega)]; omega
   have hn : ∀ x7, ∃ r, Evs (fun k => spec_l4Length.l1 k q a b x7 (i : Int) (wrap64 ((j : Int) + 1))) r := fun x7 => by
    rw [zbl (by omega)]
    exact ih (j + 1) x7 (by omega) (by omega) (by omega)
   obtain ⟨r1, e1⟩ := hn (wrap64 (x7 + 1))
   obtain ⟨r0, e0⟩ := hn x7
   by_cases q1 : wrap64 ((wrap64 (bt s ((j - 1 : Nat) : Int))) - 97) = a
   ·by_cases q2 : wrap64 ((wrap64 (bt s (j : Int))) - 97) = b
    ·refine ⟨r1, Evs.step (fun k => ?_) e1⟩
     conv => lhs; unfold spec_l4Length.l1
     rw [if_pos (by omega), if_pos (by omega), zbt hs, if_pos (by omega), hw, if_pos (by omega), if_pos (by omega), if_pos (by omega), if_pos q1, if_pos q2]
    ·by_cases q3 : wrap64 ((wrap64 (bt s ((j - 1 : Nat) : Int))) - 97) = b
     ·by_cases q4 : wrap64 ((wrap64 (bt s (j : Int))) - 97) = a
      ·refine ⟨r1, Evs.step (fun k => ?_) e1⟩
       conv => lhs; unfold spec_l4Length.l1
       rw [if_pos (by omega), if_pos (by omega), zbt hs, if_pos (by omega), hw, if_pos (by omega), if_pos (by omega), if_pos (by omega), if_pos q1, if_neg q2, if_pos q3, if_pos q4]
      ·refine ⟨r0, Evs.step (fun k => ?_) e0⟩
       conv => lhs; unfold spec_l4Length.l1
       rw [if_pos (by omega), if_pos (by omega), zbt hs, if_pos (by omega), hw, if_pos (by omega), if_pos (by omega), if_pos (by omega), if_pos q1, if_neg q2, if_pos q3, if_neg q4]
     ·refine ⟨r0, Evs.step (fun k => ?_) e0⟩
      conv => lhs; unfold spec_l4Length.l1
      rw [if_pos (by omega), if_pos (by omega), zbt hs, if_pos (by omega), hw, if_pos (by omega), if_pos (by omega), if_pos (by omega), if_pos q1, if_neg q2, if_neg q3]
   ·by_cases q3 : wrap64 ((wrap64 (bt s ((j - 1 : Nat) : Int))) - 97) = b
    ·by_cases q4 : wrap64 ((wrap64 (bt s (j : Int))) - 97) = a
     ·refine ⟨r1, Evs.step (fun k => ?_) e1⟩
      conv => lhs; unfold spec_l4Length.l1
      rw [if_pos (by omega), if_pos (by omega), zbt hs, if_pos (by omega), hw, if_pos (by omega), if_pos (by omega), if_pos (by omega), if_neg q1, if_pos q3, if_pos q4]
     ·refine ⟨r0, Evs.step (fun k => ?_) e0⟩
      conv => lhs; unfold spec_l4Length.l1
      rw [if_pos (by omega), if_pos (by omega), zbt hs, if_pos (by omega), hw, if_pos (by omega), if_pos (by omega), if_pos (by omega), if_neg q1, if_pos q3, if_neg q4]
    ·refine ⟨r0, Evs.step (fun k => ?_) e0⟩
     conv => lhs; unfold spec_l4Length.l1
     rw [if_pos (by omega), if_pos (by omega), zbt hs, if_pos (by omega), hw, if_pos (by omega), if_pos (by omega), if_pos (by omega), if_neg q1, if_neg q3]
theorem lenA_l0 (q : List ByteArray) (h : Lil q) (a b : Int) : ∀ m i x7, i + m = q.length → ∃ r, Evs (fun k => spec_l4Length.l0 k q a b x7 (i : Int)) r := by
 intro m
 induction m with
 | zero =>
  intro i x7 hi
  refine ⟨x7, Evs.step (h := fun _ => some x7) (fun k => ?_) (Evs.const _)⟩
  conv => lhs; unfold spec_l4Length.l0
  rw [if_neg (by omega)]
 | succ m ih =>
  intro i x7 hi
  obtain ⟨s, hs⟩ : ∃ s, q[i]? = some s := ⟨_, List.getElem?_eq_getElem (by omega)⟩
  have hsz := h.row s (List.mem_of_getElem? hs)
  obtain ⟨r, hE⟩ := lenA_l1 q h a b i s hs (fun x7 => ih (i + 1) x7 (by omega)) s.size 1 x7 (Nat.le_refl _) (by omega) (by omega)
  refine ⟨r, Evs.step (fun k => ?_) hE⟩
  conv => lhs; unfold spec_l4Length.l0
  rw [if_pos (by omega)]
  rfl
theorem length_any (q : List ByteArray) (h : Lil q) (a b : Int) : ∃ r, Evs (fun k => spec_l4Length.f k q a b) r := lenA_l0 q h a b q.length 0 0 (by omega)
theorem beside_any (p : List ByteArray) (h : Rag p) (a b : Int) : ∃ r, Evs (fun k => spec_l4Beside.f k p a b) r := by
 by_cases hab : a = b
 ·refine ⟨0, Evs.congr (h := fun _ => some 0) (fun k => ?_) (Evs.const _)⟩
  unfold spec_l4Beside.f
  rw [if_pos hab]
 ·obtain ⟨r1, e1⟩ := length_any p h.lil a b
  obtain ⟨t, ht, et⟩ := trans_any p h
  obtain ⟨r2, e2⟩ := length_any t ht a b
  exact ⟨_, Evs.neg hab (Evs.bind e1 (Evs.bind et (Evs.bind e2 (Evs.const _))))⟩
theorem ofA_l0 (p : List ByteArray) (h : Rag p) (a : Int) (n : Nat) (hn : n ≤ 255) (hr : Evs (fun k => spec_l1Rooms.f k p) (n : Int)) : ∀ m i L, i + m = n → L.length ≤ i → ∃ L', L'.length ≤ n ∧ Evs (fun k => spec_l4Of.l0 k p a L (i : Int)) L' := by
 intro m
 induction m with
 | zero =>
  intro i L hi hl
  refine ⟨L, by omega, Evs.step (h := fun k => (spec_l1Rooms.f k p).bind fun t267 => (if (i : Int) < t267 then ((spec_l4Beside.f k p a (i : Int)).bind fun t268 => (if t268 > 0 then (if L.length < 17592186044416 then (spec_l4Of.l0 k p a (L ++ [(i : Int)]) (wrap64 ((i : Int) + 1))) else (none)) else (spec_l4Of.l0 k p a L (wrap64 ((i : Int) + 1))))) else (some L))) (fun k => ?_) (Evs.bind hr (Evs.neg (by omega) (Evs.const _)))⟩
  conv => lhs; unfold spec_l4Of.l0
 | succ m ih =>
  intro i L hi hl
  obtain ⟨v, hv⟩ := beside_any p h a (i : Int)
  obtain ⟨L1, l1, e1⟩ := ih (i + 1) (L ++ [(i : Int)]) (by omega) (by rw [List.length_append]; simp; omega)
  obtain ⟨L0, l0, e0⟩ := ih (i + 1) L (by omega) (by omega)
  have st : ∀ r, Evs (fun k => (spec_l1Rooms.f k p).bind fun t267 => (if (i : Int) < t267 then ((spec_l4Beside.f k p a (i : Int)).bind fun t268 => (if t268 > 0 then (if L.length < 17592186044416 then (spec_l4Of.l0 k p a (L ++ [(i : Int)]) (wrap64 ((i : Int) + 1))) else (none)) else (spec_l4Of.l0 k p a L (wrap64 ((i : Int) + 1))))) else (some L))) r → Evs (fun k => spec_l4Of.l0 k p a L (i : Int)) r := fun r hh => by
   refine Evs.step (fun k => ?_) hh
   conv => lhs; unfold spec_l4Of.l0
  by_cases hc : v > 0
  ·exact ⟨L1, l1, st _ (Evs.bind hr (Evs.pos (by omega) (Evs.bind hv (Evs.pos hc (Evs.pos (by omega) (by rw [zbl (by omega)]; exact e1))))))⟩
  ·exact ⟨L0, l0, st _ (Evs.bind hr (Evs.pos (by omega) (Evs.bind hv (Evs.neg hc (by rw [zbl (by omega)]; exact e0)))))⟩
theorem of_any (p : List ByteArray) (h : Rag p) (a : Int) : ∃ L, L.length ≤ 255 ∧ Evs (fun k => spec_l4Of.f k p a) L := by
 obtain ⟨n, n0, n1, hn⟩ := l1Rooms_any p h.lil
 obtain ⟨i, rfl⟩ := Int.eq_ofNat_of_zero_le n0
 obtain ⟨L, h1, h2⟩ := ofA_l0 p h a i (by omega) hn i 0 [] (by omega) (Nat.le_refl _)
 exact ⟨L, by omega, h2⟩
theorem DrawPlanMerge_ev (l : List Int) (hv : ∀ x ∈ l, 0 ≤ x ∧ x ≤ 255) : ∃ p a b, Evs (fun k => spec_DrawPlanMerge.f k l) (p, a, b) ∧ Lil p := by
 obtain ⟨b, ho, hb⟩ := open_ev l hv
 obtain ⟨p, q, hE, h1, q1⟩ := Some_rag b hb 0 (by omega) 4 4 (by omega) (by omega) (by omega) (by omega)
 obtain ⟨n, n0, n1, hn⟩ := l1Rooms_any p h1.lil
 obtain ⟨v0, hv0, -⟩ := pick_ev b hb q (by omega) n
 obtain ⟨L, hL, hO⟩ := of_any p h1 v0
 have j0f : ∀ q', q' ≤ 3000 → ∃ y, Evs (fun k => spec_DrawPlanMerge.j0 k p v0 L false b ((q' : Nat) : Int)) (p, v0, y) := fun q' hq' => by
  obtain ⟨v1, hv1, -⟩ := pick_ev b hb q' (by omega) n
  obtain ⟨v2, hv2, -⟩ := pick_ev b hb (q' + 1) (by omega) 24
  refine ⟨_, Evs.step (h := fun k => (spec_l1Rooms.f k p).bind fun t352 => ((spec_l6Rd_pick.f k b ((q' : Nat) : Int) t352).bind fun bt353 => ((spec_l6Rd_pick.f k b bt353.2 24).bind fun bt355 => (some (p, v0, wrap64 (bt353.1 - (wrap64 (Int.tdiv bt355.1 23)))))))) (fun k => ?_) (Evs.bind hn (Evs.bind hv1 (Evs.bind hv2 (Evs.const _))))⟩
  conv => lhs; unfold spec_DrawPlanMerge.j0
  exact if_neg (by simp)
 by_cases hl : (L.length : Int) > 0
 ·obtain ⟨v3, hv3, -⟩ := pick_ev b hb (q + 1) (by omega) 6
  by_cases hv : v3 > 0
  ·obtain ⟨v4, hv4, a4, b4, -⟩ := pick_ev b hb (q + 1 + 1) (by omega) (L.length : Int)
   have b4 := b4 (by omega)
   refine ⟨p, v0, rd L v4, Evs.bindS ho (Evs.bind hE (Evs.bind hn (Evs.bind hv0 (Evs.bind hO (Evs.pos hl (Evs.bind hv3 ?_)))))), h1.lil⟩
   dsimp only
   rw [decide_eq_true hv]
   refine Evs.step (h := fun k => (spec_l6Rd_pick.f k b ((q + 1 + 1 : Nat) : Int) (L.length : Int)).bind fun bt349 => (if 0 ≤ bt349.1 then (if bt349.1 < (L.length : Int) then (some (p, v0, rd L bt349.1)) else (none)) else (none))) (fun k => ?_) (Evs.bind hv4 (Evs.pos a4 (Evs.pos b4 (Evs.const _))))
   conv => lhs; unfold spec_DrawPlanMerge.j0
   exact if_pos rfl
  ·obtain ⟨y, hy⟩ := j0f (q + 1 + 1) (by omega)
   refine ⟨p, v0, y, Evs.bindS ho (Evs.bind hE (Evs.bind hn (Evs.bind hv0 (Evs.bind hO (Evs.pos hl (Evs.bind hv3 ?_)))))), h1.lil⟩
   dsimp only
   rw [decide_eq_false hv]
   exact hy
 ·obtain ⟨y, hy⟩ := j0f (q + 1) (by omega)
  exact ⟨p, v0, y, Evs.bindS ho (Evs.bind hE (Evs.bind hn (Evs.bind hv0 (Evs.bind hO (Evs.neg hl hy))))), h1.lil⟩
end Go.Proofs.Ytaepgogafkmooaa.Hd
namespace Go.Proofs.Ytaepgogafkmooaa.Hd
open Go.RowKit Go.PW.PrintWords Go.PW.PrintLast Go.PW.PrintMore Go.Proofs.Ytaepgogafkmooaa.PB
def Alike (h w : Nat) (g g' : Nat → Nat → Int) : Prop := ∀ r c r' c', r < h → c < w → r' < h → c' < w → (g r c = g r' c' ↔ g' r c = g' r' c')
theorem Alike.symm {h w : Nat} {g g' : Nat → Nat → Int} (a : Alike h w g g') : Alike h w g' g := fun r c r' c' h1 h2 h3 h4 => (a r c r' c' h1 h2 h3 h4).symm
theorem Alike.trans {h w : Nat} {g g' g'' : Nat → Nat → Int} (a : Alike h w g g') (b : Alike h w g' g'') : Alike h w g g'' := fun r c r' c' h1 h2 h3 h4 => (a r c r' c' h1 h2 h3 h4).trans (b r c r' c' h1 h2 h3 h4)
open Classical in
theorem alike_map {h w : Nat} {g g' : Nat → Nat → Int} (a : Alike h w g g') : ∃ f : Int → Int, zbe h w g' = mapG f (zbe h w g) ∧ InjOn f (Vals (zbe h w g)) := by
 have hex : ∃ f : Int → Int, ∀ r c, r < h → c < w → f (g r c) = g' r c := by
  refine ⟨fun v => if e : ∃ q : Nat × Nat, q.1 < h ∧ q.2 < w ∧ g q.1 q.2 = v then g' e.choose.1 e.choose.2 else 0, fun r c hr hc => ?_⟩
  have e : ∃ q : Nat × Nat, q.1 < h ∧ q.2 < w ∧ g q.1 q.2 = g r c := ⟨(r, c), hr, hc, rfl⟩
  dsimp only
  rw [dif_pos e]
  obtain ⟨s1, s2, s3⟩ := e.choose_spec
  exact (a _ _ r c s1 s2 hr hc).1 s3
 obtain ⟨f, hf⟩ := hex
 refine ⟨f, ?_, fun x y hx hy exy => ?_⟩
 ·rw [mapG_gridOf]
  exact gridOf_congr fun r c hr hc => (hf r c hr hc).symm
 ·obtain ⟨r, c, hr, hc, rfl⟩ := vals_grid.1 hx
  obtain ⟨r', c', hr', hc', rfl⟩ := vals_grid.1 hy
  rw [hf r c hr hc, hf r' c' hr' hc'] at exy
  exact (a r c r' c' hr hc hr' hc').2 exy
theorem alike_planF {h w : Nat} {g g' : Nat → Nat → Int} (a : Alike h w g g') : planF (zbe h w g) = planF (zbe h w g') := by
 obtain ⟨f, e, hf⟩ := alike_map a
 rw [e, plan_map hf]
end Go.Proofs.Ytaepgogafkmooaa.Hd
namespace Go.Proofs.Ytaepgogafkmooaa.Hd
open Go.RowKit Go.PW.PrintWords Go.PW.PrintLast Go.PW.PrintMore Go.Proofs.Ytaepgogafkmooaa.PB
def planOf (X : List (List Int)) : List ByteArray := zbr (canon X)
theorem OkG.dims {X : List (List Int)} (h : OkG X) : 1 ≤ X.length ∧ X.length ≤ 6 ∧ 1 ≤ zaq X ∧ zaq X ≤ 6 := by
 obtain ⟨a, b, c, d, e⟩ := (zcb _).1 h.shape
 exact ⟨a, b, c, d⟩
theorem OkG.canon {X : List (List Int)} (h : OkG X) : OkG (canon X) := (floor_okG h.floor).1
theorem sameTexts_l0 (a b : List ByteArray) (hl : a.length = b.length) (ha : a.length ≤ 1000000) : ∀ m i, i + m = a.length → Evs (fun k => laws_sameTexts.l0 k a b (i : Int)) (decide (a.drop i = b.drop i)) := by
 intro m
 induction m with
 | zero =>
  intro i hi
  refine Evs.step (h := fun _ => some (decide (a.drop i = b.drop i))) (fun k => ?_) (Evs.const _)
  conv => lhs; unfold laws_sameTexts.l0
  rw [if_neg (by omega), List.drop_eq_nil_of_le (by omega), List.drop_eq_nil_of_le (by omega)]
  rfl
 | succ m ih =>
  intro i hi
  obtain ⟨s, hs⟩ : ∃ s, a[i]? = some s := ⟨_, List.getElem?_eq_getElem (by omega)⟩
  obtain ⟨t, ht⟩ : ∃ t, b[i]? = some t := ⟨_, List.getElem?_eq_getElem (by omega)⟩
  have hsd : a.drop i = s :: a.drop (i + 1) := by rw [List.drop_eq_getElem_cons (by omega)]; rw [List.getElem?_eq_getElem (by omega)] at hs; rw [Option.some.inj hs]
  have htd : b.drop i = t :: b.drop (i + 1) := by rw [List.drop_eq_getElem_cons (by omega)]; rw [List.getElem?_eq_getElem (by omega)] at ht; rw [Option.some.inj ht]
  by_cases e : s = t
  ·have hd : decide (a.drop i = b.drop i) = decide (a.drop (i + 1) = b.drop (i + 1)) := by rw [hsd, htd, e]; simp
   rw [hd]
   refine Evs.step (h := fun k => laws_sameTexts.l0 k a b ((i + 1 : Nat) : Int)) (fun k => ?_) (ih (i + 1) (by omega))
   conv => lhs; unfold laws_sameTexts.l0
   rw [if_pos (by omega), if_pos (by omega), if_pos (by omega), zbt hs, zbt ht, if_pos (by rw [e]), zbl (by omega)]
  ·have hd : decide (a.drop i = b.drop i) = false := by rw [hsd, htd]; simp [e]
   rw [hd]
   refine Evs.step (h := fun _ => some false) (fun k => ?_) (Evs.const _)
   conv => lhs; unfold laws_sameTexts.l0
   rw [if_pos (by omega), if_pos (by omega), if_pos (by omega), zbt hs, zbt ht, if_neg (fun h => e (toList_inj.1 h))]
theorem sameTexts_ev (a b : List ByteArray) (ha : a.length ≤ 1000000) : Evs (fun k => laws_sameTexts.f k a b) (decide (a = b)) := by
 by_cases hl : a.length = b.length
 ·refine Evs.congr (h := fun k => laws_sameTexts.l0 k a b ((0 : Nat) : Int)) (fun k => ?_) (sameTexts_l0 a b hl ha a.length 0 (by omega))
  unfold laws_sameTexts.f
  rw [if_pos (by omega)]; rfl
 ·have : decide (a = b) = false := by simp; intro h; rw [h] at hl; exact hl rfl
  rw [this]
  refine Evs.congr (h := fun _ => some false) (fun k => ?_) (Evs.const _)
  unfold laws_sameTexts.f
  rw [if_neg (by omega)]
theorem sameTexts_refl (a : List ByteArray) (ha : a.length ≤ 1000000) : Evs (fun k => laws_sameTexts.f k a a) true := by
 have := sameTexts_ev a a ha
 simpa using this
theorem byte_of {x : Int} (h : (Lit.int .u8 x).wf = true) : 0 ≤ x ∧ x ≤ 255 := by
 simp only [Lit.wf, IntKind.min, IntKind.max, IntKind.signed, IntKind.bits, Bool.and_eq_true, decide_eq_true_eq] at h
 have h1 := h.1
 have h2 := h.2
 simp at h1 h2
 omega
theorem OkG.floorP {X : List (List Int)} (h : OkG X) : zcc (planOf X) = some (Hd.canon X, zay X) := h.floor
theorem OkG.facts {X : List (List Int)} (h : OkG X) : PlanFacts (planOf X) (Hd.canon X) (zay X) := floor_facts h.floor
theorem OkG.plength {X : List (List Int)} (h : OkG X) : (planOf X).length = X.length := by rw [h.facts.len, canon_length]
theorem OkG.psmall {X : List (List Int)} (h : OkG X) : smallB (planOf X) = true := by
 have q := gridOk_small h.facts.canon.grid
 rw [smallB_iff]
 exact ⟨by have := q.high; omega, fun s hs => by have := q.row s hs; have := q.wide; omega⟩
theorem Evs.ex {α : Type} {g : Nat → Option α} {r : α} (h : Evs g r) : ∃ k, g k = some r := by
 obtain ⟨K, hK⟩ := h
 exact ⟨K, hK K (by omega)⟩
end Go.Proofs.Ytaepgogafkmooaa.Hd
namespace Go.Proofs.Ytaepgogafkmooaa.Hd
open Go.RowKit Go.PW.PrintWords Go.PW.PrintLast Go.PW.PrintMore Go.Proofs.Ytaepgogafkmooaa.PB Go.Proofs.Ytaepgogafkmooaa.SM
theorem besN_len (cs : List (List Int)) (a b : Int) (hab : a ≠ b) : besN cs a b = lenU (zbc cs) cs.length (zaq cs) a b + lenU (fun i k => zbc cs k i) (zaq cs) cs.length a b := by
 unfold besN
 rw [if_neg hab, touch_hits cs a b hab]
theorem last_in (P : Nat → Prop) (i : Nat) (hi : P i) : ∀ d, ¬ P (i + d) → ∃ k, i ≤ k ∧ k < i + d ∧ P k ∧ ¬ P (k + 1)
 | 0, h => absurd hi h
 | d + 1, h => by
  by_cases hd : P (i + d)
  ·exact ⟨i + d, by omega, by omega, hd, h⟩
  ·obtain ⟨k, h1, h2, h3, h4⟩ := last_in P i hi d hd
   exact ⟨k, h1, by omega, h3, h4⟩
theorem first_out (P : Nat → Prop) (i : Nat) : ∀ d, ¬ P i → P (i + d) → ∃ k, i ≤ k ∧ k < i + d ∧ ¬ P k ∧ P (k + 1)
 | d, h1, h2 => by
  obtain ⟨k, a, b, c, e⟩ := last_in (fun k => ¬ P k) i h1 d (fun z => z h2)
  exact ⟨k, a, b, c, Classical.not_not.1 e⟩
def NextTo (r c r' c' : Nat) : Prop := (r = r' ∧ (c' = c + 1 ∨ c = c' + 1)) ∨ (c = c' ∧ (r' = r + 1 ∨ r = r' + 1))
theorem cell_border (P : Nat → Nat → Prop) (r c r' c' : Nat) (h : P r c) (h' : ¬ P r' c') : ∃ x y x' y', min r r' ≤ x ∧ x ≤ max r r' ∧ min c c' ≤ y ∧ y ≤ max c c' ∧ min r r' ≤ x' ∧ x' ≤ max r r' ∧ min c c' ≤ y' ∧ y' ≤ max c c' ∧ NextTo x y x' y' ∧ P x y ∧ ¬ P x' y' := by
 by_cases hm : P r c'
 ·by_cases hle : r ≤ r'
  ·obtain ⟨k, h1, h2, h3, h4⟩ := last_in (fun k => P k c') r hm (r' - r) (by rw [show r + (r' - r) = r' by omega]; exact h')
   exact ⟨k, c', k + 1, c', by omega, by omega, by omega, by omega, by omega, by omega, by omega, by omega, .inr ⟨rfl, .inl rfl⟩, h3, h4⟩
  ·obtain ⟨k, h1, h2, h3, h4⟩ := first_out (fun k => P k c') r' (r - r') h' (by rw [show r' + (r - r') = r by omega]; exact hm)
   exact ⟨k + 1, c', k, c', by omega, by omega, by omega, by omega, by omega, by omega, by omega, by omega, .inr ⟨rfl, .inr rfl⟩, h4, h3⟩
 ·by_cases hle : c ≤ c'
  ·obtain ⟨k, h1, h2, h3, h4⟩ := last_in (fun k => P r k) c h (c' - c) (by rw [show c + (c' - c) = c' by omega]; exact hm)
   exact ⟨r, k, r, k + 1, by omega, by omega, by omega, by omega, by omega, by omega, by omega, by omega, .inl ⟨rfl, .inl rfl⟩, h3, h4⟩
  ·obtain ⟨k, h1, h2, h3, h4⟩ := first_out (fun k => P r k) c' (c - c') hm (by rw [show c' + (c - c') = c by omega]; exact h)
   exact ⟨r, k + 1, r, k, by omega, by omega, by omega, by omega, by omega, by omega, by omega, by omega, .inl ⟨rfl, .inr rfl⟩, h4, h3⟩
theorem sumI_ge (f : Nat → Int) (h0 : ∀ k, 0 ≤ f k) : ∀ n i, i < n → f i ≤ sumI f n
 | 0, i, h => by omega
 | n + 1, i, h => by
  simp only [sumI]
  by_cases e : i = n
  ·subst e
   have : 0 ≤ sumI f i := by
    clear h
    induction i with
    | zero => simp [sumI]
    | succ i ih =>
     have := h0 i
     simp only [sumI]
     omega
   omega
  ·have := sumI_ge f h0 n i (by omega)
   have := h0 n
   omega
theorem lenU_gt (g : Nat → Nat → Int) (hi wi : Nat) (a b : Int) (i k : Nat) (h1 : i < hi) (h2 : k + 1 < wi) (h : (g i k = a ∧ g i (k + 1) = b) ∨ (g i k = b ∧ g i (k + 1) = a)) : 0 < lenU g hi wi a b := by
 have s1 := sumI_ge (fun k => hit (g i k, g i (k + 1)) a b) (fun k => (hit_range _ a b).1) (wi - 1) k (by omega)
 have s2 := sumI_ge (fun i => sumI (fun k => hit (g i k, g i (k + 1)) a b) (wi - 1)) (fun i => (sumI_range (f := fun k => hit (g i k, g i (k + 1)) a b) 2 (fun k => hit_range _ a b) (wi - 1)).1) hi i h1
 have s3 : 1 ≤ hit (g i k, g i (k + 1)) a b := by
  have := hit_range (g i k, g i (k + 1)) a b
  unfold hit
  rcases h with ⟨e1, e2⟩ | ⟨e1, e2⟩
  ·rw [e1, e2, if_pos rfl]
   split <;> omega
  ·rw [e1, e2, if_pos (show (b, a) = (b, a) from rfl)]
   split <;> omega
 unfold lenU
 omega
theorem lenU_nonneg (g : Nat → Nat → Int) (hi wi : Nat) (a b : Int) : 0 ≤ lenU g hi wi a b := by
 unfold lenU
 exact (sumI_range (f := fun i => sumI (fun k => hit (g i k, g i (k + 1)) a b) (wi - 1)) ((wi - 1) * 2) (fun i => ⟨(sumI_range (f := fun k => hit (g i k, g i (k + 1)) a b) 2 (fun k => hit_range _ a b) (wi - 1)).1, (sumI_range (f := fun k => hit (g i k, g i (k + 1)) a b) 2 (fun k => hit_range _ a b) (wi - 1)).2⟩) hi).1
theorem besN_gt (cs : List (List Int)) (r c r' c' : Nat) (hr : r < cs.length) (hc : c < zaq cs) (hr' : r' < cs.length) (hc' : c' < zaq cs) (hn : NextTo r c r' c') (hne : zbc cs r c ≠ zbc cs r' c') : 0 < besN cs (zbc cs r c) (zbc cs r' c') := by
 rw [besN_len cs _ _ hne]
 have n1 := lenU_nonneg (zbc cs) cs.length (zaq cs) (zbc cs r c) (zbc cs r' c')
 have n2 := lenU_nonneg (fun i k => zbc cs k i) (zaq cs) cs.length (zbc cs r c) (zbc cs r' c')
 rcases hn with ⟨rfl, rfl | rfl⟩ | ⟨rfl, rfl | rfl⟩
 ·have := lenU_gt (zbc cs) cs.length (zaq cs) (zbc cs r c) (zbc cs r (c + 1)) r c hr hc' (.inl ⟨rfl, rfl⟩)
  omega
 ·have := lenU_gt (zbc cs) cs.length (zaq cs) (zbc cs r (c' + 1)) (zbc cs r c') r c' hr hc (.inr ⟨rfl, rfl⟩)
  omega
 ·have := lenU_gt (fun i k => zbc cs k i) (zaq cs) cs.length (zbc cs r c) (zbc cs (r + 1) c) c r hc hr' (.inl ⟨rfl, rfl⟩)
  omega
 ·have := lenU_gt (fun i k => zbc cs k i) (zaq cs) cs.length (zbc cs (r' + 1) c) (zbc cs r' c) c r' hc hr (.inr ⟨rfl, rfl⟩)
  omega
def mergeX (cs : List (List Int)) (a b : Int) : List (List Int) := zbe cs.length (zaq cs) (mergeG cs a b)
theorem merge_alike (cs : List (List Int)) (a b : Int) (h w : Nat) : Alike h w (mergeG cs a b) (mergeG cs b a) := by
 intro r c r' c' _ _ _ _
 unfold mergeG
 generalize zbc cs r c = x
 generalize zbc cs r' c' = y
 by_cases h1 : x = b <;> by_cases h2 : y = b <;> by_cases h3 : x = a <;> by_cases h4 : y = a <;> simp only [h1, h2, h3, h4, if_true, if_false] <;> (try simp_all) <;> (try omega)
section
variable {X : List (List Int)} {a b : Int}
theorem merge_at (hX : OkG X) {r c : Nat} (hr : r < X.length) (hc : c < zaq X) : zbc (mergeX X a b) r c = if zbc X r c = b then a else zbc X r c := valAt_gridOf hr hc
theorem merge_vals (hX : OkG X) (hab : a ≠ b) (ha : Vals X a) (v : Int) : Vals (mergeX X a b) v ↔ Vals X v ∧ v ≠ b := by
 unfold mergeX
 rw [vals_grid]
 constructor
 ·rintro ⟨r, c, hr, hc, rfl⟩
  unfold mergeG
  by_cases h : zbc X r c = b
  ·rw [if_pos h]; exact ⟨ha, hab⟩
  ·rw [if_neg h]; exact ⟨(vals_rows hX.shape).2 ⟨r, c, hr, hc, rfl⟩, h⟩
 ·rintro ⟨hv, hb⟩
  obtain ⟨r, c, hr, hc, rfl⟩ := (vals_rows hX.shape).1 hv
  exact ⟨r, c, hr, hc, by unfold mergeG; rw [if_neg hb]⟩
theorem merge_many (hX : OkG X) (hab : a ≠ b) (ha : Vals X a) (hb : Vals X b) : (zbi (mergeX X a b)).length + 1 = (zbi X).length := by
 have hv := merge_vals hX hab ha
 have hp : (zbi X).Perm (zbi (mergeX X a b) ++ [b]) := by
  refine (List.perm_ext_iff_of_nodup (ordAll_nodup _) ?_).2 fun v => ?_
  ·rw [List.nodup_append]
   refine ⟨ordAll_nodup _, by simp, ?_⟩
   intro x hx y hy
   rw [List.mem_singleton] at hy
   subst hy
   rw [ord_vals, hv] at hx
   exact hx.2
  ·rw [List.mem_append, ord_vals, ord_vals, hv, List.mem_singleton]
   constructor
   ·intro h
    by_cases e : v = b
    ·exact .inr e
    ·exact .inl ⟨h, e⟩
   ·rintro (h | rfl)
    ·exact h.1
    ·exact hb
 rw [hp.length_eq, List.length_append]
 rfl
theorem merge_near (hX : OkG X) (hM : OkG (mergeX X a b)) (hab : a ≠ b) (ha : Vals X a) (hb : Vals X b) : 0 < besN X a b := by
 obtain ⟨r, c, hr, hc, e1⟩ := (vals_rows hX.shape).1 ha
 obtain ⟨r', c', hr', hc', e2⟩ := (vals_rows hX.shape).1 hb
 have hl : (mergeX X a b).length = X.length := zbf _ _ _
 have hw : zaq (mergeX X a b) = zaq X := gridOf_wide hX.dims.1
 obtain ⟨x, y, x', y', p1, p2, p3, p4, p5, p6, p7, p8, hn, q1, q2⟩ := cell_border (fun r c => zbc X r c = a) r c r' c' e1 (by rw [e2]; exact fun e => hab e.symm)
 have hc1 := hM.conv
 unfold ConvG at hc1
 rw [hl, hw] at hc1
 have m1 : zbc (mergeX X a b) r c = a := by rw [merge_at hX hr hc, e1, if_neg hab]
 have m2 : zbc (mergeX X a b) r' c' = a := by rw [merge_at hX hr' hc', e2, if_pos rfl]
 have m3 := hc1 r c r' c' x' y' hr hc hr' hc' (m1.trans m2.symm) p5 p6 p7 p8
 rw [m1, merge_at hX (by omega) (by omega)] at m3
 have q3 : zbc X x' y' = b := by
  by_cases h : zbc X x' y' = b
  ·exact h
  ·rw [if_neg h] at m3
   exact absurd m3 q2
 have := besN_gt X x y x' y' (by omega) (by omega) (by omega) (by omega) hn (by rw [q1, q3]; exact hab)
 rw [q1, q3] at this
 exact this
end
end Go.Proofs.Ytaepgogafkmooaa.Hd
namespace Go.Proofs.Ytaepgogafkmooaa.Hd
open Go.RowKit Go.PW.PrintWords Go.PW.PrintLast Go.PW.PrintMore Go.Proofs.Ytaepgogafkmooaa.PB
theorem same_plan {X : List (List Int)} (h : OkG X) : Evs (fun k => laws_sameTexts.f k (planOf X) (planOf X)) true := sameTexts_refl _ (by have := h.dims; rw [h.plength]; omega)
theorem same_nil : Evs (fun k => laws_sameTexts.f k ([] : List ByteArray) []) true := sameTexts_refl _ (by simp)
end Go.Proofs.Ytaepgogafkmooaa.Hd
namespace Go.Proofs.Ytaepgogafkmooaa.Hd
open Go.RowKit Go.PW.PrintWords Go.PW.PrintLast Go.PW.PrintMore Go.Proofs.Ytaepgogafkmooaa.PB Go.Proofs.Ytaepgogafkmooaa.SM
theorem planMerge_j0_true (p : List ByteArray) (a b : Int) : Evs (fun k => spec_PlanMerge.j0 k p a b true) ([], false) := by
 refine Evs.step (h := fun _ => some ([], false)) (fun k => ?_) (Evs.const _)
 show spec_PlanMerge.j0 (k + 1) p a b true = _
 simp only [spec_PlanMerge.j0, if_true, l1None_f, Option.bind_some]
theorem PlanMerge_ev (p : List ByteArray) (a b : Int) (hp : smallP p) : Evs (fun k => spec_PlanMerge.f k p a b) (mergeF p a b) := by
 have ha := l1Given_ev p a hp
 have hb := l1Given_ev p b hp
 cases hF : zcc p with
 | none =>
  have e1 : givenB p a = false := by unfold givenB; rw [hF]
  have e2 : mergeF p a b = ([], false) := by unfold mergeF; rw [hF]
  rw [e1] at ha
  rw [e2]
  refine Evs.bind ha ?_
  refine Evs.congr (fun k => ?_) (planMerge_j0_true p a b)
  rw [if_neg (by simp)]
 | some t =>
  obtain ⟨cs, rs⟩ := t
  have e1 : ∀ x, givenB p x = hasB rs x := fun x => by unfold givenB; rw [hF]
  have e2 : mergeF p a b = if (hasB rs a && hasB rs b && !(a == b)) = true then planF (zbe cs.length (zaq cs) (mergeG cs a b)) else ([], false) := by unfold mergeF; rw [hF]
  rw [e1] at ha hb
  rw [e2]
  cases hA : hasB rs a with
  | false =>
   rw [hA] at ha
   refine Evs.bind ha ?_
   refine Evs.congr (fun k => ?_) (planMerge_j0_true p a b)
   rw [if_neg (by simp)]
  | true =>
   rw [hA] at ha
   refine Evs.bind ha ?_
   cases hB : hasB rs b with
   | false =>
    rw [hB] at hb
    refine Evs.congr (h := fun k => (spec_l1Given.f k p b).bind fun t184 => (if t184 = true then (spec_PlanMerge.j0 k p a b (a == b)) else (spec_PlanMerge.j0 k p a b true))) (fun k => by rw [if_pos rfl]) (Evs.bind hb ?_)
    refine Evs.congr (fun k => ?_) (planMerge_j0_true p a b)
    rw [if_neg (by simp)]
   | true =>
    rw [hB] at hb
    refine Evs.congr (h := fun k => (spec_l1Given.f k p b).bind fun t184 => (if t184 = true then (spec_PlanMerge.j0 k p a b (a == b)) else (spec_PlanMerge.j0 k p a b true))) (fun k => by rw [if_pos rfl]) (Evs.bind hb ?_)
    refine Evs.congr (h := fun k => spec_PlanMerge.j0 k p a b (a == b)) (fun k => by rw [if_pos rfl]) ?_
    cases hab : (a == b) with
    | true => exact planMerge_j0_true p a b
    | false =>
     rw [if_pos (by rfl)]
     have F := floor_facts hF
     have hsm := gridOk_small F.canon.grid
     have hL := F.ok.many
     have o1 := F.ok.h1
     have q1 := F.len
     unfold hasB at hA hB
     rw [Bool.and_eq_true, decide_eq_true_eq, decide_eq_true_eq] at hA hB
     obtain ⟨i, rfl⟩ := Int.eq_ofNat_of_zero_le hB.1
     have hi : i < rs.length := by omega
     have hR := l1Room_ev p _ hsm (by omega) (i : Int)
     obtain ⟨c1, c2, c3⟩ := F.canon.room i (by rw [← F.rooms]; exact hi)
     rw [← F.rooms] at c1 c3
     rw [c1] at hR
     have hcell := room_cells hF i hi
     obtain ⟨b1, b2, b3, b4, b5, b6⟩ := c3
     rw [F.wide] at b6
     rw [F.wide] at hsm
     generalize rs.getD i zcg = bx at *
     have hput := put_f hsm bx.f0 bx.f1 bx.f2 bx.f3 (97 + a) b1 b2 (by omega) (by omega) b5 b6 (by omega) (by omega)
     have hw : wrap64 (97 + a) % 256 = 97 + a := by rw [zas (by omega) (by omega)]; omega
     have hd := put_done F bx.f0.toNat bx.f2.toNat bx.f1.toNat bx.f3.toNat (97 + a) (by omega) (by omega) (fun x => 97 + x) (fun S x y _ _ e => by have : (97 : Int) + x = 97 + y := e; omega) (mergeG cs a (i : Int)) (fun r c hr hc => by
      have hc2 := hcell r c hr hc
      show 97 + mergeG cs a (i : Int) r c = _
      unfold mergeG
      by_cases hv : zbc cs r c = (i : Int)
      ·have hp := hc2.1 hv
       rw [if_pos hv, if_pos (by unfold putB; omega)]
      ·rw [if_neg hv, if_neg (fun hp => hv (hc2.2 (by unfold putB at hp; omega)))])
     have hdn := l1Done_ev _ (small_put hsm bx.f0.toNat bx.f2.toNat bx.f1.toNat bx.f3.toNat (97 + a))
     rw [hd] at hdn
     refine Evs.step (h := fun k => (spec_l1Room.f k p (i : Int)).bind fun bt189 => ((spec_l1Put.f p bt189.1 bt189.2.1 bt189.2.2.1 bt189.2.2.2 ((wrap64 (97 + a)) % 256)).bind fun t193 => ((spec_l1Done.f k t193).bind fun bt196 => (some (bt196.1, bt196.2))))) (fun k => ?_) (Evs.bind hR ?_)
     ·show spec_PlanMerge.j0 (k + 1) p a (i : Int) false = _
      simp only [spec_PlanMerge.j0, Bool.false_eq_true, if_false]
     ·dsimp only
      rw [hw, hput]
      simp only [Option.bind_some]
      exact Evs.bind hdn (Evs.const _)
end Go.Proofs.Ytaepgogafkmooaa.Hd
namespace Go.Proofs.Ytaepgogafkmooaa.Pure
open Go.RowKit Go.Proofs.Ytaepgogafkmooaa.MG Go.Proofs.Ytaepgogafkmooaa.PB Go.Proofs.Ytaepgogafkmooaa.SM Go.Proofs.Ytaepgogafkmooaa.Hd Go.PW.PrintWords Go.PW.PrintLast
theorem rooms_of' {X : List (List Int)} (h : OkG X) : impl_PlanRooms.f (planOf X) = some (((zbi X).length : Int), true) := by
 unfold impl_PlanRooms.f
 rw [if_pos h.psmall]
 unfold planRoomsF
 rw [h.floorP, rooms_len h.shape]
theorem FnMerge : laws_FnMerge.Pure := by
 intro l0 h1 h2 h3
 by_cases big : (l0.length : Int) > 1048576
 ·exact ⟨0, by unfold laws_FnMerge.f; rw [if_pos big]⟩
 ·obtain ⟨p, a, b, hp, hl⟩ := DrawPlanMerge_ev l0 (fun x hx => byte_of (h3 x hx))
  have hsm : smallB p = true := (smallB_iff _).2 hl.small
  have hI : ∀ a b, impl_PlanMerge.f p a b = some (mergeF p a b) := fun a b => by unfold impl_PlanMerge.f; rw [if_pos hsm]
  have hN : ∀ a b, impl_NearIs.f p a b = some (nearIsF p a b) := fun a b => by unfold impl_NearIs.f; rw [if_pos hsm]
  have bad : mergeF p a b = ([], false) → ∃ k, laws_FnMerge.f k l0 = some true := by
   intro e0
   apply Evs.ex
   refine Evs.neg big (Evs.bind hp (Evs.bindS (hI a b) (Evs.bind (PlanMerge_ev p a b hl.small) (Evs.neg (by simp) ?_))))
   rw [e0]
   refine Evs.bind same_nil (Evs.pos rfl ?_)
   refine Evs.step (h := fun k => (laws_sameTexts.f k ([] : List ByteArray) []).bind fun t361 => (some t361)) (fun k => ?_) (Evs.bind same_nil (Evs.const _))
   conv => lhs; unfold laws_FnMerge.j0
   exact (if_pos (by simp)).trans (if_pos (by simp))
  cases hF : zcc p with
  | none => exact bad (by unfold mergeF; rw [hF])
  | some t =>
   obtain ⟨cs, rs⟩ := t
   obtain ⟨hX, hcan, hrs, hpt⟩ := floor_okG hF
   have ep : p = planOf cs := by unfold planOf; rw [hcan]; exact hpt
   have e2 : ∀ a b, mergeF p a b = if (hasB rs a && hasB rs b && !(a == b)) = true then planF (mergeX cs a b) else ([], false) := fun a b => by unfold mergeF; rw [hF]; rfl
   by_cases hc : (hasB rs a && hasB rs b && !(a == b)) = true
   ·have hc2 := hc
    rw [Bool.and_eq_true, Bool.and_eq_true, Bool.not_eq_true', beq_eq_false_iff_ne] at hc2
    obtain ⟨⟨hA, hB⟩, hab⟩ := hc2
    have e3 : mergeF p a b = planF (mergeX cs a b) := by rw [e2, if_pos hc]
    have e4 : mergeF p b a = planF (mergeX cs a b) := by
     rw [e2, if_pos (by rw [hA, hB, Bool.and_self, Bool.true_and, Bool.not_eq_true', beq_eq_false_iff_ne]; exact fun e => hab e.symm)]
     exact alike_planF (merge_alike cs b a cs.length (zaq cs))
    rcases planF_cases (mergeX cs a b) with ⟨hM, e5⟩ | ⟨-, e5⟩
    ·have hv : ∀ x, hasB rs x = true → Vals cs x := fun x hx => by
      unfold hasB at hx
      rw [Bool.and_eq_true, decide_eq_true_eq, decide_eq_true_eq] at hx
      obtain ⟨i, rfl⟩ := Int.eq_ofNat_of_zero_le hx.1
      rw [← ord_vals, ord_plan hF]
      exact List.mem_map.2 ⟨i, List.mem_range.2 (by omega), rfl⟩
     have hnear := merge_near hX hM hab (hv a hA) (hv b hB)
     have hmany := merge_many hX hab (hv a hA) (hv b hB)
     have e6 : mergeF p a b = (planOf (mergeX cs a b), true) := e3.trans e5
     have e7 : mergeF p b a = (planOf (mergeX cs a b), true) := e4.trans e5
     have e8 : nearIsF p a b = true := by
      unfold nearIsF
      rw [hF]
      dsimp only
      rw [hA, hB, decide_eq_true hnear]
      rfl
     have hm9 := hX.many
     apply Evs.ex
     refine Evs.neg big (Evs.bind hp (Evs.bindS (hI a b) (Evs.bind (PlanMerge_ev p a b hl.small) (Evs.neg (by simp) ?_))))
     rw [e6]
     refine Evs.bind (same_plan hM) (Evs.pos rfl ?_)
     refine Evs.step (h := fun k => (impl_PlanRooms.f p).bind fun bt422 => ((impl_PlanRooms.f (planOf (mergeX cs a b))).bind fun bt424 => ((impl_PlanMerge.f p b a).bind fun bt426 => (if bt422.2 = true then (if bt424.2 = true then (if bt426.2 = true then (if bt424.1 = (wrap64 (bt422.1 - 1)) then ((laws_sameTexts.f k bt426.1 (planOf (mergeX cs a b))).bind fun t430 => (if t430 = true then ((impl_NearIs.f p a b).bind fun t431 => (some t431)) else (some false))) else (some false)) else (some false)) else (some false)) else (some false))))) (fun k => ?_) ?_
     ·conv => lhs; unfold laws_FnMerge.j0
      exact if_neg (by simp)
     ·have r1 : impl_PlanRooms.f p = some (((zbi cs).length : Int), true) := by rw [ep]; exact rooms_of' hX
      have i1 := hI b a
      have i2 := hN a b
      rw [e7] at i1
      rw [e8] at i2
      refine Evs.bindS r1 (Evs.bindS (rooms_of' hM) (Evs.bindS i1 (Evs.pos rfl (Evs.pos rfl (Evs.pos rfl (Evs.pos ?_ (Evs.bind (same_plan hM) (Evs.pos rfl (Evs.bindS i2 (Evs.const _))))))))))
      dsimp only
      rw [zas (by omega) (by omega)]
      omega
    ·exact bad (e3.trans e5)
   ·exact bad (by rw [e2, if_neg hc])
end Go.Proofs.Ytaepgogafkmooaa.Pure
