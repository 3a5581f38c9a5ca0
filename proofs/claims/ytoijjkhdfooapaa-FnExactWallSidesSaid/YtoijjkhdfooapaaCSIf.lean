/- Part 6 of the proof of FnExactWallSides: what the program's functions and the reference's compute. -/
import Derived.Test.YtoijjkhdfooapaaCSIe
set_option linter.unusedSimpArgs false
set_option linter.unusedVariables false
namespace Go.Proofs.Ytoijjkhdfooapaa.Hd
open Go.RowKit Go.PW.PrintWords Go.PW.PrintLast Go.PW.PrintMore Go.Proofs.Ytoijjkhdfooapaa.PB
theorem Evs.stepNeg {α : Type} {c : Prop} {inst : Decidable c} {a h g : Nat → Option α} {r : α} (e : ∀ k, g (k + 1) = @ite _ c inst (a k) (h k)) (hc : ¬ c) (hh : Evs h r) : Evs g r := Evs.step (fun k => (e k).trans (if_neg hc)) hh
theorem Evs.stepPos {α : Type} {c : Prop} {inst : Decidable c} {a h g : Nat → Option α} {r : α} (e : ∀ k, g (k + 1) = @ite _ c inst (a k) (h k)) (hc : c) (hh : Evs a r) : Evs g r := Evs.step (fun k => (e k).trans (if_pos hc)) hh
theorem l2Put_f (L : List Int) (x : Int) (hl : L.length ≤ 100000) : spec_l2Put.f L x = some (putL L x) := by
 unfold spec_l2Put.f putL
 by_cases h0 : L = []
 ·subst h0
  rw [if_neg (by simp), if_pos (by simp), if_neg (by simp)]
 ·have hp : 0 < L.length := List.length_pos_iff.2 h0
  have hw : wrap64 ((L.length : Int) - 1) = ((L.length - 1 : Nat) : Int) := by rw [zan (by omega) (by omega)]; omega
  have hg : L.getLast? = some (rd L ((L.length - 1 : Nat) : Int)) := by
   rw [List.getLast?_eq_getElem?, List.getElem?_eq_getElem (by omega)]
   unfold rd
   rw [Int.toNat_natCast, List.getD_eq_getElem?_getD, List.getElem?_eq_getElem (by omega)]
   rfl
  rw [if_pos (by omega), hw, if_pos (by omega), if_pos (by omega), hg]
  by_cases hx : rd L ((L.length - 1 : Nat) : Int) = x
  ·rw [if_pos hx, if_pos (by rw [hx])]
  ·rw [if_neg hx, if_pos (by omega), if_neg (fun z => hx (Option.some.inj z))]
theorem foldP_length (xs : List Int) : (foldP xs).length ≤ xs.length := by
 rw [← compact_fold]
 exact compact_le xs
theorem PlanFacts.byte {p : List ByteArray} {cs : List (List Int)} {rs : List Rc} (F : PlanFacts p cs rs) (r c : Nat) (hr : r < cs.length) (hc : c < zah cs) :
  bt (rdOf ByteArray.empty p (r : Int)) (c : Int) = 97 + zay cs r c ∧ (rdOf ByteArray.empty p (r : Int)).size = zah cs := by
 have hrl : r < p.length := by rw [F.len]; exact hr
 have hs : p[r]? = some p[r] := List.getElem?_eq_getElem hrl
 refine ⟨?_, ?_⟩
 ·rw [zcb hs, bt_val p hs c, F.nums]
  exact valAt_map F.ok.rect _ hr hc
 ·rw [zcb hs]
  exact F.mid.row _ (List.getElem_mem _)
theorem sides_l0 {p : List ByteArray} {cs : List (List Int)} {rs : List Rc} (F : PlanFacts p cs rs) (lv : Bool) (l f n : Nat) (h1 : 1 ≤ l) (h2 : l < linesOf cs lv) (h3 : f + n ≤ zbq cs lv) (h4 : linesOf cs lv ≤ 6) (h5 : zbq cs lv ≤ 6) (row : List Int) (tl : (row.length : Int) = 4) (t0 : rd row 0 = if lv = true then 1 else 0) (t1 : rd row 1 = (l : Int)) (t2 : rd row 2 = (f : Int)) (t3 : rd row 3 = (n : Int)) :
  ∀ m j, j + m = n → Evs (fun k => spec_l2Sides.l0 k p row (foldP (zco cs lv l f j)) (foldP (zcn cs lv l f j)) ((f + j : Nat) : Int)) (foldP (zco cs lv l f n), foldP (zcn cs lv l f n)) := by
 have ew := zaa.mk (show wrap64 ((f : Int) + (n : Int)) = ((f + n : Nat) : Int) by rw [zan (by omega) (by omega)]; omega)
 have el := zaa.mk (show wrap64 ((l : Int) - 1) = ((l - 1 : Nat) : Int) by rw [zan (by omega) (by omega)]; omega)
 have lp := F.len
 intro m
 induction m with
 | zero =>
  intro j hj
  obtain rfl : j = n := by omega
  refine Evs.stepPos (fun k => by conv => lhs; unfold spec_l2Sides.l0) (by omega) ?_
  exact Evs.pos (by omega) (Evs.neg (by rw [t2, t3, ew.out]; omega) (Evs.const _))
 | succ m ih =>
  intro j hj
  have hnx := ih (j + 1) (by omega)
  rw [oneSide_succ, twoSide_succ, foldP_snoc, foldP_snoc] at hnx
  have q1 := foldP_length (zco cs lv l f j)
  have q2 := foldP_length (zcn cs lv l f j)
  rw [oneSide_length] at q1
  rw [twoSide_length] at q2
  have ej := zaa.mk (show wrap64 (((f + j : Nat) : Int) + 1) = ((f + (j + 1) : Nat) : Int) by rw [zan (by omega) (by omega)]; omega)
  generalize foldP (zco cs lv l f j) = A at *
  generalize foldP (zcn cs lv l f j) = B at *
  have hsub : ∀ r c, r < cs.length → c < zah cs → wrap64 ((wrap64 (97 + zay cs r c)) - 97) = zay cs r c := fun r c hr hc => by
   have hv := valAt_range F.ok r c hr hc
   have := F.ok.many
   rw [zan (x := 97 + zay cs r c) (by omega) (by omega), zan (by omega) (by omega)]
   omega
  cases lv with
  | false =>
   have h2 : l < zah cs := h2
   have h3 : f + n ≤ cs.length := h3
   rw [if_neg (by simp)] at t0
   obtain ⟨b1, s1⟩ := F.byte (f + j) (l - 1) (by omega) (by omega)
   obtain ⟨b2, -⟩ := F.byte (f + j) l (by omega) h2
   have p1 := l2Put_f A (zay cs (f + j) (l - 1)) (by omega)
   have p2 := l2Put_f B (zay cs (f + j) l) (by omega)
   have w1 := zaa.mk (hsub (f + j) (l - 1) (by omega) (by omega))
   have w2 := zaa.mk (hsub (f + j) l (by omega) h2)
   have hg2_ : (2 : Int) < (row.length : Int) := by omega
   refine Evs.stepPos (fun k => by conv => lhs; unfold spec_l2Sides.l0) hg2_ ?_
   refine (Evs.pos (by rw [tl]; omega) (Evs.pos (by rw [t2, t3, ew.out]; omega) (Evs.pos (by rw [tl]; omega) (Evs.pos (by rw [t0]) (Evs.pos (by omega) (Evs.pos (by omega) (Evs.pos (by rw [tl]; omega) (Evs.pos (by rw [t1, el.out]; omega) (Evs.pos (by rw [t1, el.out, s1]; omega) (Evs.bindS (by rw [t1, el.out, b1, w1.out]; exact p1) (Evs.pos (by rw [t1]; omega) (Evs.pos (by rw [t1, s1]; omega) (Evs.bindS (by rw [t1, b2, w2.out]; exact p2) ?_)))))))))))))
   rw [ej.out]
   exact hnx
  | true =>
   have h2 : l < cs.length := h2
   have h3 : f + n ≤ zah cs := h3
   rw [if_pos rfl] at t0
   obtain ⟨b1, s1⟩ := F.byte (l - 1) (f + j) (by omega) (by omega)
   obtain ⟨b2, s2⟩ := F.byte l (f + j) h2 (by omega)
   have p1 := l2Put_f A (zay cs (l - 1) (f + j)) (by omega)
   have p2 := l2Put_f B (zay cs l (f + j)) (by omega)
   have w1 := zaa.mk (hsub (l - 1) (f + j) (by omega) (by omega))
   have w2 := zaa.mk (hsub l (f + j) h2 (by omega))
   have hg2_ : (2 : Int) < (row.length : Int) := by omega
   refine Evs.stepPos (fun k => by conv => lhs; unfold spec_l2Sides.l0) hg2_ ?_
   refine (Evs.pos (by rw [tl]; omega) (Evs.pos (by rw [t2, t3, ew.out]; omega) (Evs.pos (by rw [tl]; omega) (Evs.neg (by rw [t0]; omega) (Evs.pos (by rw [tl]; omega) (Evs.pos (by rw [t1, el.out]; omega) (Evs.pos (by rw [t1, el.out]; omega) (Evs.pos (by omega) (Evs.pos (by rw [t1, el.out, s1]; omega) (Evs.bindS (by rw [t1, el.out, b1, w1.out]; exact p1) (Evs.pos (by rw [t1]; omega) (Evs.pos (by rw [t1]; omega) (Evs.pos (by rw [t1, s2]; omega) (Evs.bindS (by rw [t1, b2, w2.out]; exact p2) ?_))))))))))))))
   rw [ej.out]
   exact hnx
theorem WallSides_ev (p : List ByteArray) (a : Int) (hp : smallP p) : Evs (fun k => spec_WallSides.f k p a) (zbo p a) := by
 have h1 := PlanIn_ev p hp
 have jt : Evs (fun k => spec_WallSides.j0 k p a true) ([], [], false) := Evs.stepPos (fun k => by conv => lhs; unfold spec_WallSides.j0) rfl (Evs.const _)
 rcases planB_cases p with ⟨e1, f1⟩ | ⟨e1, cs, rs, f1⟩
 ·rw [e1] at h1
  have : zbo p a = ([], [], false) := by unfold zbo; rw [f1]
  rw [this]
  exact Evs.bind h1 (Evs.neg (by simp) jt)
 ·rw [e1] at h1
  have F := floor_facts f1
  have hb := wallsOf_bound F.ok
  have hl := walls4_len cs
  have e2 : zbo p a = if (decide (0 ≤ a) && decide (a < (zbp cs).length)) = true then
    (foldP (zco cs ((zck cs).getD a.toNat (false, 0, 0, 0)).1 ((zck cs).getD a.toNat (false, 0, 0, 0)).2.1 ((zck cs).getD a.toNat (false, 0, 0, 0)).2.2.1 ((zck cs).getD a.toNat (false, 0, 0, 0)).2.2.2), foldP (zcn cs ((zck cs).getD a.toNat (false, 0, 0, 0)).1 ((zck cs).getD a.toNat (false, 0, 0, 0)).2.1 ((zck cs).getD a.toNat (false, 0, 0, 0)).2.2.1 ((zck cs).getD a.toNat (false, 0, 0, 0)).2.2.2), true) else ([], [], false) := by unfold zbo; rw [f1]
  have e3 : wrap64 (((walls4 cs).length : Int) - 1) = ((zbp cs).length : Int) - 1 := by rw [zan (by omega) (by omega)]; omega
  have e4 : (decide (0 ≤ a) && decide (a ≤ ((zbp cs).length : Int) - 1)) = (decide (0 ≤ a) && decide (a < (zbp cs).length)) := by
   congr 1
   by_cases h : a < ((zbp cs).length : Int)
   ·rw [decide_eq_true h, decide_eq_true (by omega)]
   ·rw [decide_eq_false h, decide_eq_false (by omega)]
  rw [e2]
  refine Evs.bind h1 (Evs.pos rfl (Evs.bind (l2Walls_ev F) (Evs.bindS (l6In_f _ _ _) ?_)))
  rw [e3, e4]
  clear e3
  by_cases hc : (decide (0 ≤ a) && decide (a < (zbp cs).length)) = true
  ·rw [if_pos hc, hc]
   rw [Bool.and_eq_true, decide_eq_true_eq, decide_eq_true_eq] at hc
   obtain ⟨i, rfl⟩ := Int.eq_ofNat_of_zero_le hc.1
   have hi : i < (zbp cs).length := by omega
   obtain ⟨lv, l, f, n, hP, k1, k2, k3, k4, k5, k6⟩ := wallsP_ok F.ok i (by rw [wallsP_length]; exact hi)
   have hg : (zbp cs).getD i zeroW = mkW lv (l, f, n) := wallsP_get (cs := cs) (i := i) hP
   have hw := walls4_at cs i hi
   rw [hg] at hw
   have t2 : rd (fourW (mkW lv (l, f, n))) 2 = (f : Int) := rfl
   have tl : ((fourW (mkW lv (l, f, n))).length : Int) = 4 := rfl
   have hs := sides_l0 F lv l f n k1 k2 k3 k5 k6 (fourW (mkW lv (l, f, n))) rfl rfl rfl rfl rfl n 0 (by omega)
   have hsd : Evs (fun k => spec_l2Sides.f k p (fourW (mkW lv (l, f, n)))) (foldP (zco cs lv l f n), foldP (zcn cs lv l f n)) := by
    unfold spec_l2Sides.f
    refine Evs.pos (by rw [tl]; omega) ?_
    rw [t2]
    exact hs
   rw [Int.toNat_natCast, List.getD_eq_getElem?_getD, hP]
   have hi2 : (i : Int) < ((walls4 cs).length : Int) := by omega
   refine Evs.stepNeg (fun k => by conv => lhs; unfold spec_WallSides.j0) (by simp) (Evs.bind (l2Walls_ev F) ?_)
   refine Evs.pos hc.1 (Evs.pos hi2 ?_)
   rw [hw]
   exact Evs.bind hsd (Evs.const _)
  ·rw [if_neg hc]
   have hc' : (decide (0 ≤ a) && decide (a < (zbp cs).length)) = false := by simpa using hc
   rw [hc']
   exact jt
end Go.Proofs.Ytoijjkhdfooapaa.Hd
namespace Go.Proofs.Ytoijjkhdfooapaa.SI
open Go.RowKit Go.PW.PrintWords Go.PW.PrintLast Go.PW.PrintMore Go.Proofs.Ytoijjkhdfooapaa.PB Go.Proofs.Ytoijjkhdfooapaa.Hd
theorem len_res (p : List ByteArray) (a : Int) : (zbo p a).1.length ≤ 6 ∧ (zbo p a).2.1.length ≤ 6 := by
 cases hF : floorF p with
 | none => unfold zbo; rw [hF]; simp
 | some t =>
  obtain ⟨cs, rs⟩ := t
  have hok := floorF_ok hF
  have e2 : zbo p a = if (decide (0 ≤ a) && decide (a < (zbp cs).length)) = true then
    (foldP (zco cs ((zck cs).getD a.toNat (false, 0, 0, 0)).1 ((zck cs).getD a.toNat (false, 0, 0, 0)).2.1 ((zck cs).getD a.toNat (false, 0, 0, 0)).2.2.1 ((zck cs).getD a.toNat (false, 0, 0, 0)).2.2.2), foldP (zcn cs ((zck cs).getD a.toNat (false, 0, 0, 0)).1 ((zck cs).getD a.toNat (false, 0, 0, 0)).2.1 ((zck cs).getD a.toNat (false, 0, 0, 0)).2.2.1 ((zck cs).getD a.toNat (false, 0, 0, 0)).2.2.2), true) else ([], [], false) := by unfold zbo; rw [hF]
  rw [e2]
  split
  ·rename_i hc
   rw [Bool.and_eq_true, decide_eq_true_eq, decide_eq_true_eq] at hc
   obtain ⟨i, rfl⟩ := Int.eq_ofNat_of_zero_le hc.1
   obtain ⟨lv, l, f, n, hP, k1, k2, k3, k4, k5, k6⟩ := wallsP_ok hok i (by rw [wallsP_length]; omega)
   rw [Int.toNat_natCast, List.getD_eq_getElem?_getD, hP]
   have q1 := foldP_length (zco cs lv l f n)
   have q2 := foldP_length (zcn cs lv l f n)
   rw [oneSide_length] at q1
   rw [twoSide_length] at q2
   exact ⟨by show (foldP (zco cs lv l f n)).length ≤ 6; omega, by show (foldP (zcn cs lv l f n)).length ≤ 6; omega⟩
  ·simp
theorem law_ev (l0 : List ByteArray) (a1 : Int) (hf : fits l0) : Evs (fun k => laws_FnExactWallSides.f k l0 a1) true := by
 unfold laws_FnExactWallSides.f
 obtain ⟨v, e, h⟩ := sz_ev l0 hf 1048576 (by omega) (by omega)
 refine Evs.bind e ?_
 rcases h with h | ⟨hs, g, k⟩
 ·exact Evs.pos h (Evs.const _)
 refine Evs.neg (by omega) ?_
 obtain ⟨b1, b2⟩ := len_res l0 a1
 have hI : impl_WallSides.f l0 a1 = some (zbo l0 a1) := by unfold impl_WallSides.f; rw [if_pos ((smallB_iff _).2 hs)]
 have hS := WallSides_ev l0 a1 hs
 have ht := toS_ev l0 hs.1
 generalize zbo l0 a1 = R at *
 obtain ⟨A, B, c⟩ := R
 dsimp only at b1 b2
 have e0 : (c != c) = false := by cases c <;> rfl
 refine Evs.bind ht (Evs.bind hS (Evs.bind ht (Evs.bindS hI (Evs.bind (eqI_same A (by omega)) (Evs.pos rfl (Evs.bind (eqI_same B (by omega)) (Evs.pos rfl ?_)))))))
 dsimp only
 rw [e0]
 refine Evs.stepNeg (fun k => by conv => lhs; unfold laws_FnExactWallSides.j0) (by simp) ?_
 refine Evs.bind ht (Evs.bind (eqS_same l0 hs.1) (Evs.pos rfl (Evs.bind (markS_ev l0 hs.1 1 (by omega)) (Evs.neg (by dsimp only; omega) (Evs.bind (eqI_same A (by omega)) (Evs.pos rfl (Evs.bind (eqI_same B (by omega)) (Evs.pos rfl ?_))))))))
 rw [e0]
 refine Evs.stepNeg (fun k => by conv => lhs; unfold laws_FnExactWallSides.j1) (by simp) ?_
 refine Evs.bind (markI_ev A (by omega) 1 (by omega)) (Evs.bind (markI_ev B (by omega) (1 + A.length) (by omega)) (Evs.bind (heldI_ev A.length (by omega) 1 (by omega)) (Evs.neg (by omega) (Evs.bind (heldI_ev B.length (by omega) (1 + A.length) (by omega)) (Evs.neg (by omega) (Evs.pos rfl (Evs.bind ht (Evs.bindS hI (Evs.bind (eqI_same A (by omega)) (Evs.pos rfl (Evs.bind (eqI_same B (by omega)) (Evs.pos rfl ?_))))))))))))
 dsimp only
 rw [e0]
 refine Evs.stepNeg (fun k => by conv => lhs; unfold laws_FnExactWallSides.j2) (by simp) ?_
 exact Evs.bind (heldI_ev A.length (by omega) 1 (by omega)) (Evs.neg (by omega) (Evs.bind (heldI_ev B.length (by omega) (1 + A.length) (by omega)) (Evs.neg (by omega) (Evs.pos rfl (Evs.const _)))))
end Go.Proofs.Ytoijjkhdfooapaa.SI
