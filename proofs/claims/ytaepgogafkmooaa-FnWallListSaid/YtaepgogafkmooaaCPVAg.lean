/- Part 7 of the proof of FnWallList: what the program's functions and the reference's compute. -/
import Derived.Test.YtaepgogafkmooaaCPVAf
set_option linter.unusedSimpArgs false
set_option linter.unusedVariables false
namespace Go.Proofs.Ytaepgogafkmooaa.Hd
open Go.RowKit Go.PW.PrintWords Go.PW.PrintLast Go.PW.PrintMore Go.Proofs.Ytaepgogafkmooaa.PB
theorem byte_of {x : Int} (h : (Lit.int .u8 x).wf = true) : 0 ≤ x ∧ x ≤ 255 := by
 simp only [Lit.wf, IntKind.min, IntKind.max, IntKind.signed, IntKind.bits, Bool.and_eq_true, decide_eq_true_eq] at h
 have h1 := h.1
 have h2 := h.2
 simp at h1 h2
 omega
theorem Evs.ex {α : Type} {g : Nat → Option α} {r : α} (h : Evs g r) : ∃ k, g k = some r := by
 obtain ⟨K, hK⟩ := h
 exact ⟨K, hK K (by omega)⟩
theorem Evs.stepNeg {α : Type} {c : Prop} {inst : Decidable c} {a h g : Nat → Option α} {r : α} (e : ∀ k, g (k + 1) = @ite _ c inst (a k) (h k)) (hc : ¬ c) (hh : Evs h r) : Evs g r := Evs.step (fun k => (e k).trans (if_neg hc)) hh
theorem Evs.stepPos {α : Type} {c : Prop} {inst : Decidable c} {a h g : Nat → Option α} {r : α} (e : ∀ k, g (k + 1) = @ite _ c inst (a k) (h k)) (hc : c) (hh : Evs a r) : Evs g r := Evs.step (fun k => (e k).trans (if_pos hc)) hh
end Go.Proofs.Ytaepgogafkmooaa.Hd
namespace Go.Proofs.Ytaepgogafkmooaa.Hd
open Go.RowKit Go.PW.PrintWords Go.PW.PrintLast Go.PW.PrintMore Go.Proofs.Ytaepgogafkmooaa.PB Go.Proofs.Ytaepgogafkmooaa.SM
theorem DrawWallList_ev (l : List Int) (hv : ∀ x ∈ l, 0 ≤ x ∧ x ≤ 255) : ∃ p, Evs (fun k => spec_DrawWallList.f k l) p ∧ Lil p := by
 obtain ⟨p, h, hl⟩ := One_ev l hv
 exact ⟨p, Evs.bind h (Evs.const _), hl⟩
end Go.Proofs.Ytaepgogafkmooaa.Hd
namespace Go.Proofs.Ytaepgogafkmooaa.Pure
open Go.RowKit Go.Proofs.Ytaepgogafkmooaa.VA Go.Proofs.Ytaepgogafkmooaa.PB Go.Proofs.Ytaepgogafkmooaa.SM Go.Proofs.Ytaepgogafkmooaa.Hd Go.PW.PrintWords Go.PW.PrintLast
theorem sameRows_l0 (a : List (List Int)) (ha : a.length ≤ 1000) (hr : ∀ i, i < a.length → (a.getD i []).length ≤ 1000) : ∀ m i, i + m = a.length → Evs (fun k => laws_sameRows.l0 k a a (i : Int)) true := by
 intro m
 induction m with
 | zero =>
  intro i hi
  refine Evs.step (h := fun _ => some true) (fun k => ?_) (Evs.const _)
  conv => lhs; unfold laws_sameRows.l0
  rw [if_neg (by omega)]
 | succ m ih =>
  intro i hi
  have hx := hr i (by omega)
  refine Evs.stepPos (fun k => by conv => lhs; unfold laws_sameRows.l0) (by omega) (Evs.pos (by omega) (Evs.pos (by omega) (Evs.bind (b := true) ?_ (Evs.pos rfl ?_))))
  ·exact sameInts_refl (a.getD i []) (by omega)
  ·rw [zbc (by omega)]
   exact ih (i + 1) (by omega)
theorem sameRows_refl (a : List (List Int)) (ha : a.length ≤ 1000) (hr : ∀ i, i < a.length → (a.getD i []).length ≤ 1000) : Evs (fun k => laws_sameRows.f k a a) true := by
 refine Evs.congr (fun k => ?_) (sameRows_l0 a ha hr a.length 0 (by omega))
 unfold laws_sameRows.f
 rw [if_pos rfl]
 rfl
theorem kind_at (cs : List (List Int)) (i : Nat) (hi : i < (zbw cs).length) : ((zbw cs).getD i zeroW).f0 = decide ((upT cs).length ≤ i) := by
 have hl : (zbw cs).length = (upT cs).length + (levT cs).length := by rw [wallsOf_eq]; simp
 rw [wallsOf_eq, List.getD_eq_getElem?_getD]
 by_cases h : i < (upT cs).length
 ·rw [List.getElem?_append_left (by simpa using h), List.getElem?_map, List.getElem?_eq_getElem h, decide_eq_false (by omega)]
  rfl
 ·rw [List.getElem?_append_right (by simpa using h), List.getElem?_map, List.length_map, List.getElem?_eq_getElem (by omega), decide_eq_true (by omega)]
  rfl
set_option maxHeartbeats 8000000 in
theorem list_l0 {p : List ByteArray} {cs : List (List Int)} {rs : List Rc} (F : PlanFacts p cs rs) : ∀ m i, i + m = (zbw cs).length → Evs (fun k => laws_FnWallList.l0 k p (walls4 cs) ((upT cs).length : Int) ((levT cs).length : Int) true ((min i (upT cs).length : Nat) : Int) (i : Int)) true := by
 have hl := walls4_len cs
 have hb := wallsOf_bound F.ok
 have hs : (zbw cs).length = (upT cs).length + (levT cs).length := by rw [wallsOf_eq]; simp
 have s0 := size0 F
 have l1 := F.len
 have o1 := F.ok.h1
 have q1 := F.ok.h6
 have q2 := F.ok.w6
 intro m
 induction m with
 | zero =>
  intro i hi
  refine Evs.step (h := fun _ => some true) (fun k => ?_) (Evs.const _)
  conv => lhs; unfold laws_FnWallList.l0
  rw [if_neg (by omega), if_pos rfl, if_pos (by rw [zar (by omega) (by omega)]; omega)]
  have : ((min i (upT cs).length : Nat) : Int) == ((upT cs).length : Int) := by rw [beq_iff_eq]; omega
  rw [this]
 | succ m ih =>
  intro i hi
  have hw : Go.Proofs.Ytaepgogafkmooaa.VA.rd_L1 (walls4 cs) (i : Int) = fourW ((zbw cs).getD i zeroW) := walls4_at cs i (by omega)
  have hk := kind_at cs i (by omega)
  obtain ⟨lv, l, f, n, he, w1, w2, w3, w4, w5, w6⟩ := walls_at F.ok i (by omega)
  have hprev : 0 < i → ∃ x, Go.Proofs.Ytaepgogafkmooaa.VA.rd_L1 (walls4 cs) (wrap64 ((i : Int) - 1)) = x ∧ (x.length : Int) = 4 ∧ rd x 0 = (if (upT cs).length ≤ i - 1 then 1 else 0) := fun h0 => by
   have e : wrap64 ((i : Int) - 1) = ((i - 1 : Nat) : Int) := by rw [zar (by omega) (by omega)]; omega
   rw [e]
   have hw : Go.Proofs.Ytaepgogafkmooaa.VA.rd_L1 (walls4 cs) ((i - 1 : Nat) : Int) = fourW ((zbw cs).getD (i - 1) zeroW) := walls4_at cs (i - 1) (by omega)
   refine ⟨_, hw, rfl, ?_⟩
   show (if ((zbw cs).getD (i - 1) zeroW).f0 = true then (1 : Int) else 0) = _
   rw [kind_at cs (i - 1) (by omega)]
   by_cases h : (upT cs).length ≤ i - 1
   ·rw [decide_eq_true h, if_pos rfl, if_pos h]
   ·rw [decide_eq_false h, if_neg (by simp), if_neg h]
  rw [he] at hw hk
  have hk : lv = decide ((upT cs).length ≤ i) := hk
  have tl : ((fourW (mkW lv (l, f, n))).length : Int) = 4 := rfl
  have t0 : rd (fourW (mkW lv (l, f, n))) 0 = if lv = true then 1 else 0 := rfl
  have t1 : rd (fourW (mkW lv (l, f, n))) 1 = (l : Int) := rfl
  have t2 : rd (fourW (mkW lv (l, f, n))) 2 = (f : Int) := rfl
  have t3 : rd (fourW (mkW lv (l, f, n))) 3 = (n : Int) := rfl
  generalize fourW (mkW lv (l, f, n)) = row at *
  have hnx := ih (i + 1) (by omega)
  have ew := zab.mk (show wrap64 ((f : Int) + (n : Int)) = ((f + n : Nat) : Int) by rw [zar (by omega) (by omega)]; omega)
  have ei := zab.mk (show wrap64 ((i : Int) - 1) = (i : Int) - 1 from zar (by omega) (by omega))
  cases lv with
  | false =>
   have hlt : i < (upT cs).length := by
    have := of_decide_eq_false hk.symm
    omega
   rw [if_neg (by simp)] at t0
   have w2 : l < zap cs := w2
   have w3 : f + n ≤ cs.length := w3
   rw [show min (i + 1) (upT cs).length = i + 1 by omega] at hnx
   rw [show min i (upT cs).length = i by omega]
   refine Evs.stepPos (fun k => by conv => lhs; unfold laws_FnWallList.l0) (by omega) (Evs.pos (by omega) (Evs.pos (by omega) (Evs.pos (by rw [hw, tl]; omega) (Evs.neg (by rw [hw, t0]; omega) (Evs.pos (by rw [hw, tl]; omega) (Evs.neg (by rw [hw, t1]; omega) (Evs.neg (by rw [hw, t1, s0]; omega) (Evs.pos (by rw [hw, tl]; omega) (Evs.neg (by rw [hw, t2]; omega) (Evs.pos (by rw [hw, tl]; omega) (Evs.neg (by rw [hw, t3]; omega) (Evs.neg (by rw [hw, t2, t3, ew.out]; omega) ?_))))))))))))
   by_cases h0 : 0 < i
   ·obtain ⟨x, x1, x2, x3⟩ := hprev h0
    refine Evs.pos (by omega) (Evs.pos (by rw [ei.out]; omega) (Evs.pos (by rw [ei.out]; omega) (Evs.pos (by rw [x1, x2]; omega) (Evs.neg (by rw [x1, x3, hw, t0]; split <;> omega) ?_))))
    have e1_ := zbc (i := i) (by omega)
    rw [e1_]
    exact hnx
   ·refine Evs.neg (by omega) ?_
    have e1_ := zbc (i := i) (by omega)
    rw [e1_]
    exact hnx
  | true =>
   have hge : (upT cs).length ≤ i := of_decide_eq_true hk.symm
   rw [if_pos rfl] at t0
   have w2 : l < cs.length := w2
   have w3 : f + n ≤ zap cs := w3
   rw [show min (i + 1) (upT cs).length = (upT cs).length by omega] at hnx
   rw [show min i (upT cs).length = (upT cs).length by omega]
   refine Evs.stepPos (fun k => by conv => lhs; unfold laws_FnWallList.l0) (by omega) (Evs.pos (by omega) (Evs.pos (by omega) (Evs.pos (by rw [hw, tl]; omega) (Evs.pos (by rw [hw, t0]) (Evs.pos (by rw [hw, tl]; omega) (Evs.neg (by rw [hw, t1]; omega) (Evs.neg (by rw [hw, t1]; omega) (Evs.pos (by rw [hw, tl]; omega) (Evs.neg (by rw [hw, t2]; omega) (Evs.pos (by rw [hw, tl]; omega) (Evs.neg (by rw [hw, t3]; omega) (Evs.neg (by rw [hw, t2, t3, ew.out, s0]; omega) ?_))))))))))))
   by_cases h0 : 0 < i
   ·obtain ⟨x, x1, x2, x3⟩ := hprev h0
    refine Evs.pos (by omega) (Evs.pos (by rw [ei.out]; omega) (Evs.pos (by rw [ei.out]; omega) (Evs.pos (by rw [x1, x2]; omega) (Evs.neg (by rw [x1, x3, hw, t0]; split <;> omega) ?_))))
    have e1_ := zbc (i := i) (by omega)
    rw [e1_]
    exact hnx
   ·refine Evs.neg (by omega) ?_
    have e1_ := zbc (i := i) (by omega)
    rw [e1_]
    exact hnx
theorem FnWallList : laws_FnWallList.Pure := by
 intro l0 h1 h2 h3
 by_cases big : (l0.length : Int) > 1048576
 ·exact ⟨0, by unfold laws_FnWallList.f; rw [if_pos big]⟩
 ·obtain ⟨p, hp, hl⟩ := DrawWallList_ev l0 (fun x hx => byte_of (h3 x hx))
  have hsm : smallB p = true := (smallB_iff _).2 hl.small
  have hI : impl_WallList.f p = some (zcl p) := by unfold impl_WallList.f; rw [if_pos hsm]
  have hJ : impl_WallMany.f p = some (wallManyF p) := by unfold impl_WallMany.f; rw [if_pos hsm]
  apply Evs.ex
  refine Evs.neg big (Evs.bind hp (Evs.bindS hI (Evs.bind (WallList_ev p hl.small) (Evs.neg (by simp) ?_))))
  rcases planB_cases p with ⟨-, f1⟩ | ⟨-, cs, rs, f1⟩
  ·have e : zcl p = ([], false) := by unfold zcl; rw [f1]
   rw [e]
   refine Evs.bind (sameRows_refl _ (by simp) (by simp)) (Evs.pos rfl ?_)
   exact Evs.stepPos (fun k => by conv => lhs; unfold laws_FnWallList.j0) (by simp) (Evs.pos (by simp) (Evs.bind (sameRows_refl _ (by simp) (by simp)) (Evs.const _)))
  ·have F := floor_facts f1
   have hb := wallsOf_bound F.ok
   have e : zcl p = (walls4 cs, true) := by unfold zcl; rw [f1]
   have e2 : wallManyF p = (((upT cs).length : Int), ((levT cs).length : Int), true) := by unfold wallManyF; rw [f1]
   rw [e2] at hJ
   rw [e]
   have hrow : ∀ i, i < (walls4 cs).length → ((walls4 cs).getD i []).length ≤ 1000 := fun i hi => by
    rw [walls4_len] at hi
    have hx2 : (walls4 cs).getD i [] = fourW ((zbw cs).getD i zeroW) := walls4_at cs i hi
    rw [hx2]
    show 4 ≤ 1000
    omega
   refine Evs.bind (sameRows_refl _ (by rw [walls4_len]; omega) hrow) (Evs.pos rfl ?_)
   refine Evs.stepNeg (fun k => by conv => lhs; unfold laws_FnWallList.j0) (by simp) (Evs.bindS hJ ?_)
   have := list_l0 F (zbw cs).length 0 (by omega)
   rw [show min 0 (upT cs).length = 0 by omega] at this
   exact this
end Go.Proofs.Ytaepgogafkmooaa.Pure
